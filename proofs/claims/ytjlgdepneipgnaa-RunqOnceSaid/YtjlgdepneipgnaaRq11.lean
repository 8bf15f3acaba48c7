/-
  Sets of Ps as bits: Has. No statement is proved here.
-/
import Derived.Test.YtjlgdepneipgnaaRq10
namespace Go.Proofs.Ytjlgdepneipgnaa.Rq
open Go.RowKit
set_option linter.unusedVariables false

/-- Is p in the set s? -/
def hasB (s : Nat) (p : Int) : Bool := decide (0 ≤ p ∧ p ≤ 7) && s.testBit p.toNat
theorem bits_has : ∀ s : Fin 256, ∀ p : Fin 8, (bits BinOp.and IntKind.u8 (s.val : Int) ((2 : Int) ^ p.val) != 0) = s.val.testBit p.val := by decide +kernel
theorem bits_zero : ∀ s : Fin 256, bits BinOp.and IntKind.u8 (s.val : Int) 0 = 0 := by decide +kernel
theorem nhas_out (s : Nat) (hs : s < 256) (p : Int) (hp : p < 0 ∨ 7 < p) (w : World) :
    Calls Try.prog 58 #[.int .u8 s, vi p] w fun e w' => e = .returned (.bool (hasB s p)) ∧ w = w' := by
  rw [show hasB s p = false by rw [hasB, decide_eq_false (by omega)]; rfl]
  have H := Lib.hid (bit_out p hp w)
  have hb : bits BinOp.and IntKind.u8 (s : Int) 0 = 0 := bits_zero ⟨s, hs⟩
  go_enter Try.func58, Try.ntmps58
  go_wp2_with (go_at_call 93; refine H.out.mono ?_; rintro e w' ⟨rfl, rfl⟩)
  go_ret
  exact ⟨by simp, rfl⟩
theorem nhas_in (s : Nat) (hs : s < 256) (p : Nat) (hp : p ≤ 7) (w : World) :
    Calls Try.prog 58 #[.int .u8 s, vi p] w fun e w' => e = .returned (.bool (hasB s p)) ∧ w = w' := by
  have H := Lib.hid (bit_in p hp w)
  go_enter Try.func58, Try.ntmps58
  go_wp2_with (go_at_call 93; refine H.out.mono ?_; rintro e w' ⟨rfl, rfl⟩)
  go_ret
  refine ⟨?_, rfl⟩
  have e : hasB s p = (bits BinOp.and IntKind.u8 (s : Int) ((2 : Int) ^ p) != 0) := by
    rw [hasB, decide_eq_true (by omega)]
    exact (bits_has ⟨s, hs⟩ ⟨p, by omega⟩).symm
  rw [e]
  rfl
theorem num_has (s : Nat) (hs : s < 256) (p : Int) (w : World) :
    Calls Try.prog 58 #[.int .u8 s, vi p] w fun e w' => e = .returned (.bool (hasB s p)) ∧ w = w' := by
  by_cases h : p < 0 ∨ 7 < p
  · exact nhas_out s hs p h w
  · obtain ⟨k, rfl⟩ := Int.eq_ofNat_of_zero_le (show 0 ≤ p by omega)
    exact nhas_in s hs k (by omega) w
end Go.Proofs.Ytjlgdepneipgnaa.Rq
