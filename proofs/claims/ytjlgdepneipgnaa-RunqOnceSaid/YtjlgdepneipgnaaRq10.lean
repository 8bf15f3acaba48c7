/-
  Sets of Ps as bits. No statement is proved here.
-/
import Derived.Test.YtjlgdepneipgnaaRq9
namespace Go.Proofs.Ytjlgdepneipgnaa.Rq
open Go.RowKit
set_option linter.unusedVariables false

theorem bit_out (p : Int) (hp : p < 0 ∨ 7 < p) (w : World) :
    Calls Try.prog 93 #[vi p] w fun e w' => e = .returned (.int .u8 0) ∧ w = w' := by
  rcases hp with h | h
  · go_enter Try.func93, Try.ntmps93
    go_wp2
    go_ret
    exact ⟨rfl, rfl⟩
  · have h2 : ¬ p < 0 := by omega
    go_enter Try.func93, Try.ntmps93
    go_wp2
    go_ret
    exact ⟨rfl, rfl⟩
theorem bit_in (p : Nat) (hp : p ≤ 7) (w : World) :
    Calls Try.prog 93 #[vi p] w fun e w' => e = .returned (.int .u8 (2 ^ p : Nat)) ∧ w = w' := by
  rcases (show p = 0 ∨ p = 1 ∨ p = 2 ∨ p = 3 ∨ p = 4 ∨ p = 5 ∨ p = 6 ∨ p = 7 by omega) with rfl | rfl | rfl | rfl | rfl | rfl | rfl | rfl
  all_goals
    go_enter Try.func93, Try.ntmps93
    go_wp2
    go_ret
    exact ⟨by rfl, rfl⟩
end Go.Proofs.Ytjlgdepneipgnaa.Rq
