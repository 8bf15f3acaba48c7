/-
  Chapter 16: Get. No statement is proved here.
-/
import Derived.Test.YtffjckdaekamgaaGt3
import Derived.Test.YtffjckdaekamgaaRowQ
namespace Go.Proofs.Ytffjckdaekamgaa.Gt
open Go.RowKit Ag
set_option linter.unusedVariables false

section
variable {w0 w : World} {F : Hp} {h p : Nat} {ps : List Pl} {free : List Nat}
set_option maxRecDepth 100000 in
set_option maxHeartbeats 2000000 in
theorem gt_get (hS : Sat w0 (gtB h p * (tblP p ps free * F)) w) (i g : Int) : Calls Try.prog 23 #[vp h, vr i g] w fun e w' => e = .returned (.tuple #[ev (getX ps i g), vi (getE ps i g)]) ∧ Sat w0 (gtB h p * (tblP p ps free * F)) w' := by
  have hB0 := ((hS.alloc (.cells #[vi i, vu g] 25)).alloc (elO ez))
  rw [size1] at hB0
  have hB : Sat w0 (elB (w.heap.size + 1) ez * (pc w.heap.size 25 [vi i, vu g] * (gtB h p * (tblP p ps free * F)))) ((w.alloc (.cells #[vi i, vu g] 25)).alloc (elO ez)) := hB0
  have HN := Lib.hid (gt_none hB.pull3)
  have HG := Lib.hid (get_ (hB.drew.pull4) i g)
  have HB := Lib.hid hB
  clear hB hB0 hS
  generalize hwb : (w.alloc (.cells #[vi i, vu g] 25)).alloc (elO ez) = wb at *
  generalize hb1 : w.heap.size + 1 = bx at *
  generalize hb2 : w.heap.size = b2 at *
  have HW := Lib.hid hwb
  have HB1 := Lib.hid hb1
  have HB2 := Lib.hid hb2
  clear hwb hb1 hb2
  generalize getX ps i g = x at *
  generalize getE ps i g = er at *
  go_enter Try.func23, Try.ntmps23
  go_wp2_with fail
  rw [HW.out, HB2.out, HB1.out]
  refine HN.out.mono ?_
  rintro e w' ⟨rfl, rfl⟩
  go_wp2
  have hS0 : (fun w' => w'.cell? ⟨h, 0, none⟩ = some (vp p) ∧ w'.cell? ⟨b2, 0, none⟩ = some (vi i) ∧ w'.cell? ⟨b2, 1, none⟩ = some (vu g)) wb.drew := ⟨HB.out.drew.pull3.cell 0 rfl, HB.out.drew.pull2.cell 0 rfl, HB.out.drew.pull2.cell 1 rfl⟩
  refine wp_region_held (S := fun w' => w'.cell? ⟨h, 0, none⟩ = some (vp p) ∧ w'.cell? ⟨b2, 0, none⟩ = some (vi i) ∧ w'.cell? ⟨b2, 1, none⟩ = some (vu g)) (by kernel_rfl) ?_
  change wpAnyH _ _ _ _ _ _ _ _ (World.drew _)
  refine wpAnyH_take (i := 0) (v := vp h) rfl (by kernel_rfl) (by kernel_rfl) (by kernel_rfl) (fun _ _ _ h => h) (Or.inl ⟨by rfl, fun w' hw' => by go_simp⟩) hS0 ?_
  simp only [Act.put, List.setIfInBounds_toArray, List.set_cons_zero, List.set_cons_succ]
  refine wpAnyH_take (i := 1) (v := vp h) rfl (by kernel_rfl) (by kernel_rfl) (by kernel_rfl) (fun _ _ _ h => h) (Or.inl ⟨by rfl, fun w' hw' => by go_simp⟩) hS0 ?_
  simp only [Act.put, List.setIfInBounds_toArray, List.set_cons_zero, List.set_cons_succ]
  refine wpAnyH_take (i := 2) (v := (.pointer (some ⟨h, 0, none⟩))) rfl (by kernel_rfl) (by kernel_rfl) (by kernel_rfl) (fun _ _ _ h => h) (Or.inl ⟨by rfl, fun w' hw' => by go_simp⟩) hS0 ?_
  simp only [Act.put, List.setIfInBounds_toArray, List.set_cons_zero, List.set_cons_succ]
  refine wpAnyH_take (i := 3) (v := vp p) rfl (by kernel_rfl) (by kernel_rfl) (by kernel_rfl) (fun _ _ _ h => h) (Or.inl ⟨by rfl, fun w' hw' => by (have h1 := hw'.1; go_simp)⟩) hS0 ?_
  simp only [Act.put, List.setIfInBounds_toArray, List.set_cons_zero, List.set_cons_succ]
  refine wpAnyH_take (i := 4) (v := vr i g) rfl (by kernel_rfl) (by kernel_rfl) (by kernel_rfl) (fun _ _ _ h => h) (Or.inl ⟨by rfl, fun w' hw' => by (have h1 := hw'.2.1; have h2 := hw'.2.2; go_simp)⟩) hS0 ?_
  simp only [Act.put, List.setIfInBounds_toArray, List.set_cons_zero, List.set_cons_succ]
  refine wpAnyH_ready (rs := [5]) (by kernel_rfl) (by simp) ?_
  refine AllReadyH.cons rfl (fun K hK => ?_) AllReadyH.nil
  go_simp
  refine HG.out.mono ?_
  rintro e w1 ⟨rfl, hS1⟩
  have HX := Lib.hid hS1.pull2
  have hS1' : (fun w' => w'.cell? ⟨h, 0, none⟩ = some (vp p) ∧ w'.cell? ⟨b2, 0, none⟩ = some (vi i) ∧ w'.cell? ⟨b2, 1, none⟩ = some (vu g)) w1 := ⟨HX.out.pull4.cell 0 rfl, HX.out.pull3.cell 0 rfl, HX.out.pull3.cell 1 rfl⟩
  clear hS1
  refine hK.out _ _ hS1' (fun _ => ?_)
  try simp only [Act.put, List.setIfInBounds_toArray, List.set_cons_zero, List.set_cons_succ]
  refine wpAnyH_take (i := 6) (v := ev x) rfl (by kernel_rfl) (by kernel_rfl) (by kernel_rfl) (fun _ _ _ h => h) (Or.inl ⟨by rfl, fun w' hw' => by go_simp⟩) hS1' ?_
  simp only [Act.put, List.setIfInBounds_toArray, List.set_cons_zero, List.set_cons_succ]
  refine wpAnyH_take (i := 7) (v := vi er) rfl (by kernel_rfl) (by kernel_rfl) (by kernel_rfl) (fun _ _ _ h => h) (Or.inl ⟨by rfl, fun w' hw' => by go_simp⟩) hS1' ?_
  simp only [Act.put, List.setIfInBounds_toArray, List.set_cons_zero, List.set_cons_succ]
  refine wpAnyH_ready (rs := [8]) (by kernel_rfl) (by simp) ?_
  refine AllReadyH.cons rfl (fun K' hK' => ?_) AllReadyH.nil
  rw [if_pos (by rfl)]
  have hth := there_ (n := 19) HX.out rfl
  have hrg := World.rangeAt_setCells_same w1 bx 0 (elC x) hth
  have hst : Sat w0 _ (w1.setCells bx 0 (elC x)) := HX.out.stores (elC x) 0
  refine wp_store_mid 29 _ _ rfl bx 0 (elC x).toArray (by rfl) (by rfl) hth einfo (all_oneCell_toArray (elOne x)) ?_
  have hst2 : Sat w0 _ (w1.setCells bx 0 (elC x).toArray.toList) := hst
  have hrg : (w1.setCells bx 0 (elC x).toArray.toList).rangeAt bx 0 (elC x) := hrg
  generalize w1.setCells bx 0 (elC x).toArray.toList = w2 at *
  have HX2 := Lib.hid hst2
  have hS2 : (fun w' => w'.cell? ⟨h, 0, none⟩ = some (vp p) ∧ w'.cell? ⟨b2, 0, none⟩ = some (vi i) ∧ w'.cell? ⟨b2, 1, none⟩ = some (vu g)) w2 := ⟨HX2.out.pull4.cell 0 rfl, HX2.out.pull3.cell 0 rfl, HX2.out.pull3.cell 1 rfl⟩
  clear hst hst2 hth
  refine hK'.out _ _ hS2 (fun _ => ?_)
  try simp only [Act.put, List.setIfInBounds_toArray, List.set_cons_zero, List.set_cons_succ]
  refine wpAnyH_ready (rs := [9]) (by kernel_rfl) (by simp) ?_
  refine AllReadyH.cons rfl (fun K'' hK'' => ?_) AllReadyH.nil
  go_simp
  refine hK''.out _ _ hS2 (fun _ => ?_)
  try simp only [Act.put, List.setIfInBounds_toArray, List.set_cons_zero, List.set_cons_succ]
  refine wpAnyH_done (by kernel_rfl) ?_ _
  clear hS0 hS1' hS2 hK hK' hK''
  go_wp2
  (try simp only [Exit.inBlock, Exit.then])
  refine bodyPost_ret (v := .tuple #[ev x, vi er]) (results_row rfl _ _ _ rfl rfl hrg Try.underlying29 rfl einfo) rfl ?_
  exact ⟨rfl, HX2.out.dropL.pull2.dropL.pull2⟩
end
end Go.Proofs.Ytffjckdaekamgaa.Gt
