/-
  The reference's queue of chapter 05: Copy. No statement is proved here.
-/
import Derived.Test.YtjlgdepneipgnaaRq17
namespace Go.Proofs.Ytjlgdepneipgnaa.Rq
open Go.RowKit
set_option linter.unusedVariables false

section
variable {w0 w : World} {F : Hp} {q m : Nat} {vL vN : Value} {xs ns : List Int}
set_option maxRecDepth 100000 in
set_option maxHeartbeats 4000000 in
theorem r_copy (h : Sat w0 (rqB q m vL vN * (rs 3 vL (xs.map vi) * (rs 3 vN (ns.map vi) * F))) w) (hl : xs.length ≤ 4096) (hnl : ns.length ≤ 1) :
    Calls Try.prog 40 #[vp q] w fun e w' => ∃ q' uL uN, e = .returned (vp q') ∧ Sat w0 (rqB q' m uL uN * (rs 3 uL (xs.map vi) * (rs 3 uN (ns.map vi) * (rqB q m vL vN * (rs 3 vL (xs.map vi) * (rs 3 vN (ns.map vi) * F)))))) w' := by
  obtain ⟨ao, cap, rfl⟩ := (rsRdI h.pull2).len
  obtain ⟨bo, cap2, rfl⟩ := (rsRdI h.pull3).len
  have c0 := h.cell 0 rfl
  have c1 := h.cell 1 rfl
  have c2 := h.cell 2 rfl
  have H := Lib.hid h
  have hone := Lib.hid (oneI xs)
  have hone2 := Lib.hid (oneI ns)
  clear h
  go_enter Try.func40, Try.ntmps40
  go_wp2
  go_region_held3 (fun w' => w'.cell? ⟨q, 0, none⟩ = some (.slice ao xs.length cap) ∧ w'.cell? ⟨q, 1, none⟩ = some (vi m) ∧ w'.cell? ⟨q, 2, none⟩ = some (.slice bo ns.length cap2))
    (first | exact ⟨d0, d1, d2⟩ | exact ⟨e0, e1, e2⟩ | go_keep)
    (first
      | (refine step_append_sl Einti (by rfl) (.const (.slice none 0 0)) (.tmp 6) (by rfl) (by rfl) ((H.out.drewN 1).addNil 3 1) (by rfl) (rsRdI (H.out.drewN 1).pull2) hone.out (by unfold maxLen; omega) (by omega) ?_; intro ao1 cap3 w1 hS1; simp only [List.nil_append] at hS1; have d0 := hS1.pull2.cell 0 rfl; have d1 := hS1.pull2.cell 1 rfl; have d2 := hS1.pull2.cell 2 rfl; have H1 := Lib.hid hS1; clear hS1)
      | (refine step_append_sl Einti (by rfl) (.const (.slice none 0 0)) (.tmp 15) (by rfl) (by rfl) (H1.out.addNil 3 1) (by rfl) (rsRdI H1.out.pull4) hone2.out (by unfold maxLen; omega) (by omega) ?_; intro ao2 cap4 w2 hS2; simp only [List.nil_append] at hS2; have e0 := hS2.pull3.cell 0 rfl; have e1 := hS2.pull3.cell 1 rfl; have e2 := hS2.pull3.cell 2 rfl; have H2 := Lib.hid hS2; clear hS2))
  go_wp2
  go_ret
  have h1 := H2.out
  simp only [Nat.zero_add] at h1
  have h2 := (Sat.rsOfSl h1).pull2
  have h3 := Sat.rsOfSl h2
  refine ⟨w2.heap.size, .slice ao1 xs.length cap3, .slice ao2 ns.length cap4, rfl, ?_⟩
  have b1 := h3.alloc (.cells #[.slice ao1 xs.length cap3, vi m, .slice ao2 ns.length cap4] 50)
  exact b1
end
end Go.Proofs.Ytjlgdepneipgnaa.Rq
