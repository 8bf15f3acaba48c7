/-
  The walk of RunqPlays. No statement is proved here.
-/
import Derived.Test.YtjlgdepneipgnaaRq27
namespace Go.Proofs.Ytjlgdepneipgnaa.Rq
open Go.RowKit
set_option linter.unusedVariables false

section
variable {w0 : World} {v : Value} {n : Nat} {K G : Nat → Int} {Y : Nat → Bool} {V : Nat → Value} {af : Nat → List Nat}
set_option maxRecDepth 100000 in
set_option maxHeartbeats 4000000 in
theorem plays_walk (most : Int) (h : Acts w0 v n K G Y V af) :
    Calls Try.prog 6 #[vi most, v] w0 (TrueBelow w0) := by
  obtain ⟨ao, cap, rfl⟩ := h.len
  have hsm := h.small
  unfold maxLen at hsm
  have HF := Lib.hid (few5 h (Below.refl _ _) 150 (by omega))
  have HM := Lib.hid (may5 most)
  cases hf : fewB n 150 fun i => (af i).length with
  | false =>
    rw [hf] at HF
    clear hf
    go_enter Try.func6, Try.ntmps6
    go_wp2_with (first
      | (go_at_call 18; refine HF.out.mono ?_; rintro e w' ⟨rfl, rfl⟩)
      | (go_at_call 20; refine (known5 _).mono ?_; rintro e w1 ⟨rfl, hb⟩))
    go_ret
    exact ⟨rfl, hb⟩
  | true =>
    rw [hf] at HF
    clear hf
    by_cases hm : 2 ≤ most ∧ most ≤ 4096
    · obtain ⟨m, rfl⟩ := Int.eq_ofNat_of_zero_le (show 0 ≤ most by omega)
      rw [decide_eq_true hm] at HM
      have HQ := Lib.hid (q_new m (by omega) (by omega) (Sat.start w0))
      have hm1 : 2 ≤ m := by omega
      have hm2 : m ≤ 4096 := by omega
      clear hm
      go_enter Try.func6, Try.ntmps6
      go_wp2_with (first
        | (go_at_call 18; refine HF.out.mono ?_; rintro e w' ⟨rfl, rfl⟩)
        | (go_at_call 17; refine HQ.out.mono ?_; rintro e w1 ⟨q, r, rfl, hS1⟩; have H1 := Lib.hid hS1; clear hS1)
        | (go_at_call 19; refine (HM.out _).mono ?_; rintro e w' ⟨rfl, rfl⟩)
        | (go_at_call 21; refine (r_new m H1.out).mono ?_; rintro e w2 ⟨p, rfl, hS2⟩; have H2 := Lib.hid (refQ_shut hS2).rot3; clear hS2))
      go_loopw [8] (fun i wr => ∃ (k : Nat) (xs : List Int) (z : Int) (b : Bool), k ≤ n ∧ i = vi k ∧ Sat w0 (bothQ q r p m xs z b emp) wr) (fun i _ => n - (intOf i).toNat)
      case atStart => exact ⟨0, [], 0, false, Nat.zero_le _, rfl, H2.out.cast (by unfold bothQ; ac_rfl)⟩
      case round =>
        obtain ⟨k, xs, z, b, hk, rfl, hS⟩ := hrel
        by_cases hlt : k < n
        · obtain ⟨bx, off, rfl, c0, c1, c2, c3⟩ := h.at_ hS.below k hlt
          obtain ⟨a3, p3, hv3⟩ := ((h.aff k hlt).1 _ hS.below).1.len
          have hA : ∀ w', Sat w0 emp w' → RdA w' (.slice a3 (af k).length p3) (af k) := fun w' h' => hv3 ▸ (h.aff k hlt).1 w' h'.below
          rw [hv3] at c3
          have HD := Lib.hid (do5 hS hm1 (K k) (G k) (Y k) hA)
          generalize K k = kd at *
          generalize G k = g at *
          generalize Y k = y at *
          generalize af k = al at *
          generalize al.length = ln at *
          clear hS hv3 hA
          go_wp2_with (first
            | (go_at_call 22; refine HD.out.mono ?_; rintro e w3 ⟨xs', z', b', rfl, hS3, _⟩; have H3 := Lib.hid hS3; clear hS3)
            | (go_at_call 35; refine (same5 H3.out).mono ?_; rintro e w4 ⟨rfl, hS4⟩; have H4 := Lib.hid hS4; clear hS4))
          go_roundw
          case rel => exact ⟨k + 1, xs', z', b', by omega, by go_num, H4.out⟩
          case measure => simp [intOf]; omega
        · obtain rfl : n = k := by omega
          have HS := Lib.hid hS
          clear hS
          go_wp2_with (go_at_call 20; refine (known5 _).mono ?_; rintro e w5 ⟨rfl, hb⟩)
          go_ret
          exact ⟨rfl, HS.out.below.trans (hb.mono HS.out.size)⟩
    · rw [decide_eq_false hm] at HM
      have HQ := Lib.hid (q_new_no most (by omega) w0)
      clear hm
      go_enter Try.func6, Try.ntmps6
      go_wp2_with (first
        | (go_at_call 18; refine HF.out.mono ?_; rintro e w' ⟨rfl, rfl⟩)
        | (go_at_call 17; refine HQ.out.mono ?_; rintro e w1 ⟨rfl, rfl⟩)
        | (go_at_call 19; refine (HM.out _).mono ?_; rintro e w' ⟨rfl, rfl⟩)
        | (go_at_call 20; refine (known5 _).mono ?_; rintro e w1 ⟨rfl, hb⟩))
      go_ret
      exact ⟨rfl, hb⟩
theorem plays5_row (w0 : World) (most : Int) (wm : (Lit.int .i64 most).wf = true) (v : Value) (n : Nat) (A : Nat → Value) (h : ArgS w0 4 (actC w0) v n A) :
    Calls Try.prog 6 #[vi most, v] w0 (TrueBelow w0) := by
  obtain ⟨K, G, Y, V, af, h⟩ := acts_of h
  exact plays_walk most h
end
end Go.Proofs.Ytjlgdepneipgnaa.Rq
