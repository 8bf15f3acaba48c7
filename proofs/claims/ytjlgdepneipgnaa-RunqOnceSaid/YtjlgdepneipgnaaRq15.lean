/-
  The reference's queue of chapter 05: All. No statement is proved here.
-/
import Derived.Test.YtjlgdepneipgnaaRq14
namespace Go.Proofs.Ytjlgdepneipgnaa.Rq
open Go.RowKit
set_option linter.unusedVariables false

section
variable {w0 w : World} {F : Hp} {q m : Nat} {vL vN : Value} {xs : List Int} {z : Int} {b : Bool}
set_option maxRecDepth 100000 in
set_option maxHeartbeats 2000000 in
theorem r_all (h : Sat w0 (rqB q m vL vN * (rs 3 vL (xs.map vi) * (rs 3 vN ((nsOf z b).map vi) * F))) w) (hl : xs.length ≤ 4096) :
    Calls Try.prog 29 #[vp q] w fun e w' => ∃ v, e = .returned v ∧ Sat w0 (sl 3 1 v ((nsOf z b).length + xs.length) ((nsOf z b).map vi ++ xs.map vi) * (rqB q m vL vN * (rs 3 vL (xs.map vi) * (rs 3 vN ((nsOf z b).map vi) * F)))) w' := by
  have hnl : (nsOf z b).length ≤ 1 := by cases b <;> simp [nsOf]
  generalize nsOf z b = ns at *
  obtain ⟨ao, cap, rfl⟩ := (rsRdI h.pull2).len
  obtain ⟨bo, cap2, rfl⟩ := (rsRdI h.pull3).len
  have c0 := h.cell 0 rfl
  have c2 := h.cell 2 rfl
  have H := Lib.hid h
  have hone := Lib.hid (oneI xs)
  have hone2 := Lib.hid (oneI ns)
  clear h
  go_enter Try.func29, Try.ntmps29
  go_wp2
  go_region_held3 (fun w' => w'.cell? ⟨q, 0, none⟩ = some (.slice ao xs.length cap) ∧ w'.cell? ⟨q, 2, none⟩ = some (.slice bo ns.length cap2))
    (first | exact ⟨d0, d2⟩ | exact ⟨e0, e2⟩ | go_keep)
    (first
      | (refine step_append_sl Einti (by rfl) (.const (.slice none 0 0)) _ (by rfl) (by rfl) ((H.out.drewN 1).addNil 3 1) (by rfl) (rsRdI (H.out.drewN 1).pull3) hone2.out (by unfold maxLen; omega) (by omega) ?_; intro ao1 cap1 w1 hS1; simp only [List.nil_append] at hS1; have d0 := hS1.pull2.cell 0 rfl; have d2 := hS1.pull2.cell 2 rfl; have H1 := Lib.hid hS1; clear hS1)
      | (refine step_append_sl Einti (by rfl) _ _ (by rfl) (by rfl) H1.out (by rfl) (rsRdI H1.out.pull3) hone.out (by unfold maxLen; omega) (by omega) ?_; intro ao2 cap3 w2 hS2; have e0 := hS2.pull2.cell 0 rfl; have e2 := hS2.pull2.cell 2 rfl; have H2 := Lib.hid hS2; clear hS2))
  go_wp2
  go_ret
  refine ⟨.slice ao2 (ns.length + xs.length) cap3, by simp, ?_⟩
  have h9 := H2.out
  simp only [Nat.zero_add] at h9
  exact h9
end
end Go.Proofs.Ytjlgdepneipgnaa.Rq
