/-
  The reference's queue of chapter 05: Copy, New. No statement is proved here.
-/
import Derived.Test.YtjlgdepneipgnaaRq16
namespace Go.Proofs.Ytjlgdepneipgnaa.Rq
open Go.RowKit
set_option linter.unusedVariables false

section
variable {w0 w : World} {F : Hp}
theorem r_new (n : Nat) (h : Sat w0 F w) :
    Calls Try.prog 21 #[vi n] w fun e w' => ∃ q, e = .returned (vp q) ∧ Sat w0 (rqB q n (.slice none 0 0) (.slice none 0 0) * (rs 3 (.slice none 0 0) (([] : List Int).map vi) * (rs 3 (.slice none 0 0) ((nsOf 0 false).map vi) * F))) w' := by
  have h1 := h.alloc (.cells #[.slice none 0 0, vi n, .slice none 0 0] 50)
  have H1 := Lib.hid h1
  clear h h1
  go_enter Try.func21, Try.ntmps21
  go_wp2
  go_ret
  refine ⟨w.heap.size, rfl, ?_⟩
  have h2 : Sat w0 (rqB w.heap.size n (.slice none 0 0) (.slice none 0 0) * F) _ := H1.out
  exact ((h2.rsNil 3).rsNil 3).pull3
end
end Go.Proofs.Ytjlgdepneipgnaa.Rq
