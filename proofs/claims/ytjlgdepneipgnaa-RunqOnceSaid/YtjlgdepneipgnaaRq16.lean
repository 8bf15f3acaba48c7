/-
  runq.Queue: Copy. No statement is proved here.
-/
import Derived.Test.YtjlgdepneipgnaaRq15
namespace Go.Proofs.Ytjlgdepneipgnaa.Rq
open Go.RowKit
set_option linter.unusedVariables false

section
variable {w0 w : World} {F : Hp} {q r m : Nat} {z : Int} {b : Bool} {xs : List Int}
set_option maxRecDepth 100000 in
set_option maxHeartbeats 2000000 in
theorem q_copy (h : Sat w0 (quB q r z b * (ringP r m xs * F)) w) :
    Calls Try.prog 39 #[vp q] w fun e w' => ∃ q' r', e = .returned (vp q') ∧ Sat w0 (quB q' r' z b * (ringP r' m xs * (quB q r z b * (ringP r m xs * F)))) w' := by
  have c0 := h.cell 0 rfl
  have c1 := h.cell 1 rfl
  have c2 := h.cell 2 rfl
  have HN := Lib.hid (q_none h)
  have H := Lib.hid h
  clear h
  go_enter Try.func39, Try.ntmps39
  go_wp2_with (go_at_call 56; refine HN.out.mono ?_; rintro e w' ⟨rfl, rfl⟩)
  go_region_held3 (fun w' => w'.cell? ⟨q, 0, none⟩ = some (vp r) ∧ w'.cell? ⟨q, 1, none⟩ = some (vi z) ∧ w'.cell? ⟨q, 2, none⟩ = some (.bool b))
    (first | exact ⟨d0, d1, d2⟩ | go_keep)
    ((go_at_call 78; refine (ring_copy (H.out.drewN 1).pull2).mono ?_; rintro e w1 ⟨r', rfl, hS1⟩; have d0 := hS1.pull3.cell 0 rfl; have d1 := hS1.pull3.cell 1 rfl; have d2 := hS1.pull3.cell 2 rfl; have H1 := Lib.hid hS1; clear hS1))
  go_wp2
  go_ret
  refine ⟨w1.heap.size, r', rfl, ?_⟩
  have b1 : Sat w0 (quB w1.heap.size r' z b * (ringP r' m xs * (ringP r m xs * (quB q r z b * F)))) _ := H1.out.alloc (.cells #[vp r', vi z, .bool b] 85)
  exact b1.cast (by generalize ringP r m xs = X; ac_rfl)
end
end Go.Proofs.Ytjlgdepneipgnaa.Rq
