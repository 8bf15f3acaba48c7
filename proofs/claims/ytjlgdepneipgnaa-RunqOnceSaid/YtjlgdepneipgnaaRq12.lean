/-
  Sets of Ps as bits: the reference's Has. No statement is proved here.
-/
import Derived.Test.YtjlgdepneipgnaaRq11
namespace Go.Proofs.Ytjlgdepneipgnaa.Rq
open Go.RowKit
set_option linter.unusedVariables false

theorem rhas_out (s : Nat) (p : Int) (hp : p < 0 ∨ 7 < p) (w : World) :
    Calls Try.prog 61 #[.int .u8 s, vi p] w fun e w' => e = .returned (.bool (hasB s p)) ∧ w = w' := by
  rw [show hasB s p = false by rw [hasB, decide_eq_false (by omega)]; rfl]
  rcases hp with h | h
  · go_enter Try.func61, Try.ntmps61
    go_wp2
    go_ret
    exact ⟨rfl, rfl⟩
  · have h2 : ¬ p < 0 := by omega
    go_enter Try.func61, Try.ntmps61
    go_wp2
    go_ret
    exact ⟨rfl, rfl⟩
theorem rhas_in (s : Nat) (hs : s < 256) (p : Nat) (hp : p ≤ 7) (w : World) :
    Calls Try.prog 61 #[.int .u8 s, vi p] w fun e w' => e = .returned (.bool (hasB s p)) ∧ w = w' := by
  have h1 : ¬ (p : Int) < 0 := by omega
  have h2 : ¬ 7 < (p : Int) := by omega
  have h3 : ¬ 7 < p := by omega
  go_enter Try.func61, Try.ntmps61
  go_wp2
  go_loopw [0, 5] (fun x i wr => ∃ k u : Nat, k ≤ p ∧ i = vi k ∧ x = .int .u8 u ∧ Hid (u = s / 2 ^ k) ∧ u < 256 ∧ w = wr) (fun _ i _ => p - (intOf i).toNat)
  case atStart => exact ⟨0, s, Nat.zero_le _, rfl, rfl, Lib.hid (by simp), hs, rfl⟩
  case round =>
    obtain ⟨k, u, hk, rfl, rfl, hu, hub, rfl⟩ := hrel
    by_cases hlt : k < p
    · have hki : (k : Int) < (p : Int) := by omega
      go_wp2
      go_roundw
      case rel => exact ⟨k + 1, u / 2, by omega, by go_num, by simp, Lib.hid (by rw [hu.out, Nat.pow_succ, Nat.div_div_eq_div_mul]), by omega, trivial⟩
      case measure => (simp [intOf]; try omega)
    · obtain rfl : k = p := by omega
      have hki : ¬ (k : Int) < (k : Int) := by omega
      have e : hasB s k = decide (u % 2 = 1) := by
        rw [hasB, decide_eq_true (by omega), Bool.true_and, Int.toNat_natCast, Nat.testBit_eq_decide_div_mod_eq, hu.out]
      have E := Lib.hid e
      clear e
      go_wp2
      go_ret
      refine ⟨?_, rfl⟩
      have e2 : ((u : Int) % 2 == 1) = hasB s k := by
        rw [E.out]
        by_cases h0 : u % 2 = 1
        · rw [decide_eq_true h0]
          exact beq_iff_eq.2 (by omega)
        · rw [decide_eq_false h0]
          exact beq_eq_false_iff_ne.2 (by omega)
      rw [← e2]
      rfl
theorem ref_has1 (s : Nat) (hs : s < 256) (p : Int) (w : World) :
    Calls Try.prog 61 #[.int .u8 s, vi p] w fun e w' => e = .returned (.bool (hasB s p)) ∧ w = w' := by
  by_cases h : p < 0 ∨ 7 < p
  · exact rhas_out s p h w
  · obtain ⟨k, rfl⟩ := Int.eq_ofNat_of_zero_le (show 0 ≤ p by omega)
    exact rhas_in s hs k (by omega) w
end Go.Proofs.Ytjlgdepneipgnaa.Rq
