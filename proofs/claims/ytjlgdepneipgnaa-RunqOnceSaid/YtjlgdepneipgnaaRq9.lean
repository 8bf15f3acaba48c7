/-
  Chapter 05: may; the sets of Ps as bits. No statement is proved here.
-/
import Derived.Test.YtjlgdepneipgnaaRq8
namespace Go.Proofs.Ytjlgdepneipgnaa.Rq
open Go.RowKit
set_option linter.unusedVariables false

theorem may5 (n : Int) (w : World) :
    Calls Try.prog 19 #[vi n] w fun e w' => e = .returned (.bool (decide (2 ≤ n ∧ n ≤ 4096))) ∧ w = w' := by
  by_cases h1 : 2 ≤ n
  · by_cases h2 : n ≤ 4096
    · rw [decide_eq_true ⟨h1, h2⟩]
      go_enter Try.func19, Try.ntmps19
      go_wp2
      go_ret
      exact ⟨by simp, rfl⟩
    · rw [decide_eq_false (fun h => h2 h.2)]
      go_enter Try.func19, Try.ntmps19
      go_wp2
      go_ret
      exact ⟨by simp, rfl⟩
  · rw [decide_eq_false (fun h => h1 h.1)]
    go_enter Try.func19, Try.ntmps19
    go_wp2
    go_ret
    exact ⟨by simp, rfl⟩
end Go.Proofs.Ytjlgdepneipgnaa.Rq
