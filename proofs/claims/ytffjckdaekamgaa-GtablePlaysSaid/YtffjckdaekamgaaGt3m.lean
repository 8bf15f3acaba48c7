/-
  Chapter 16: Make. No statement is proved here.
-/
import Derived.Test.YtffjckdaekamgaaGt3
import Derived.Test.YtffjckdaekamgaaRowQ
namespace Go.Proofs.Ytffjckdaekamgaa.Gt
open Go.RowKit Ag
set_option linter.unusedVariables false

section
variable {w0 w : World} {F : Hp} {h p : Nat} {ps : List Pl} {free : List Nat}
set_option maxRecDepth 100000 in
set_option maxHeartbeats 2000000 in
theorem gt_make_ {ri ra rb : Int} {Q : Hp} (hS : Sat w0 (gtB h p * (tblP p ps free * F)) w) (x : El) (hm : mayB x = true)
    (hP : ∀ (w1 : World) (G : Hp), Sat w0 (tblP p ps free * G) w1 → Calls Try.prog 41 #[vp p, ev x] w1 fun e w' => e = .returned (.tuple #[vr ra rb, vi ri]) ∧ Sat w0 (Q * G) w') :
    Calls Try.prog 19 #[vp h, ev x] w fun e w' => e = .returned (.tuple #[vr ra rb, vi ri]) ∧ Sat w0 (gtB h p * (Q * F)) w' := by
  have HP := Lib.hid hP
  clear hP
  have hB0 := ((hS.alloc (elO x)).alloc (.cells #[vi 0, vu 0] 25))
  rw [size1] at hB0
  have hB : Sat w0 (pc (w.heap.size + 1) 25 [vi 0, vu 0] * (elB w.heap.size x * (gtB h p * (tblP p ps free * F)))) ((w.alloc (elO x)).alloc (.cells #[vi 0, vu 0] 25)) := hB0
  have HN := Lib.hid (gt_none hB.pull3)
  have HM := g_may hB x
  rw [hm] at HM
  have HM := Lib.hid HM
  have HLd := Lib.hid (range_ hB.pull2)
  clear hB hB0 hS hm
  generalize hwb : (w.alloc (elO x)).alloc (.cells #[vi 0, vu 0] 25) = wb at *
  generalize hb1 : w.heap.size + 1 = bx at *
  generalize hb2 : w.heap.size = b2 at *
  have HW := Lib.hid hwb
  have HB1 := Lib.hid hb1
  have HB2 := Lib.hid hb2
  clear hwb hb1 hb2
  go_enter Try.func19, Try.ntmps19
  go_wp2_with fail
  rw [HW.out, HB2.out, HB1.out]
  refine HN.out.mono ?_
  rintro e w' ⟨rfl, rfl⟩
  go_wp2_with (first
    | (go_at_call 6; refine HM.out.mono ?_; rintro e w1 ⟨rfl, hS1⟩; have HP2 := Lib.hid (HP.out _ _ (hS1.drew.pull4)); have H1 := Lib.hid hS1; clear hS1)
    | (refine wpList_load_mid rfl 29 _ rfl b2 0 (by rfl) (elC x) _ HLd.out Try.underlying29 rfl einfo ?_))
  have hS0 : (fun w' => w'.cell? ⟨h, 0, none⟩ = some (vp p) ∧ w'.rangeAt b2 0 (elC x)) w1.drew := ⟨H1.out.drew.pull3.cell 0 rfl, range_ H1.out.drew.pull2⟩
  refine wp_region_held (S := fun w' => w'.cell? ⟨h, 0, none⟩ = some (vp p) ∧ w'.rangeAt b2 0 (elC x)) (by kernel_rfl) ?_
  change wpAnyH _ _ _ _ _ _ _ _ (World.drew _)
  refine wpAnyH_take (i := 0) (v := vp h) rfl (by kernel_rfl) (by kernel_rfl) (by kernel_rfl) (fun _ _ _ h => h) (Or.inl ⟨by rfl, fun w' hw' => by go_simp⟩) hS0 ?_
  simp only [Act.put, List.setIfInBounds_toArray, List.set_cons_zero, List.set_cons_succ]
  refine wpAnyH_take (i := 1) (v := vp h) rfl (by kernel_rfl) (by kernel_rfl) (by kernel_rfl) (fun _ _ _ h => h) (Or.inl ⟨by rfl, fun w' hw' => by go_simp⟩) hS0 ?_
  simp only [Act.put, List.setIfInBounds_toArray, List.set_cons_zero, List.set_cons_succ]
  refine wpAnyH_take (i := 2) (v := (.pointer (some ⟨h, 0, none⟩))) rfl (by kernel_rfl) (by kernel_rfl) (by kernel_rfl) (fun _ _ _ h => h) (Or.inl ⟨by rfl, fun w' hw' => by go_simp⟩) hS0 ?_
  simp only [Act.put, List.setIfInBounds_toArray, List.set_cons_zero, List.set_cons_succ]
  refine wpAnyH_take (i := 3) (v := vp p) rfl (by kernel_rfl) (by kernel_rfl) (by kernel_rfl) (fun _ _ _ h => h) (Or.inl ⟨by rfl, fun w' hw' => by (have h1 := hw'.1; go_simp)⟩) hS0 ?_
  simp only [Act.put, List.setIfInBounds_toArray, List.set_cons_zero, List.set_cons_succ]
  refine wpAnyH_take (i := 4) rfl (by kernel_rfl) (by kernel_rfl) (by kernel_rfl) (fun _ _ _ h => h) (yieldsIf_load_mid (by rfl) 29 _ rfl b2 0 (by rfl) (elC x) _ (fun w' hw' => hw'.2) Try.underlying29 rfl einfo) hS0 ?_
  simp only [Act.put, List.setIfInBounds_toArray, List.set_cons_zero, List.set_cons_succ]
  refine wpAnyH_ready (rs := [5]) (by kernel_rfl) (by simp) ?_
  refine AllReadyH.cons rfl (fun K hK => ?_) AllReadyH.nil
  go_simp
  refine HP2.out.mono ?_
  rintro e w2 ⟨rfl, hS2⟩
  have H2 := Lib.hid hS2
  have hS2' : (fun w' => w'.cell? ⟨h, 0, none⟩ = some (vp p) ∧ w'.rangeAt b2 0 (elC x)) w2 := ⟨hS2.pull4.cell 0 rfl, range_ hS2.pull3⟩
  have s0 := hS2.pull2.cell 0 rfl
  have s1 := hS2.pull2.cell 1 rfl
  have t0 := hS2.pull2.free 0
  have t1 := hS2.pull2.free 1
  clear hS2
  refine hK.out _ _ hS2' (fun _ => ?_)
  try simp only [Act.put, List.setIfInBounds_toArray, List.set_cons_zero, List.set_cons_succ]
  refine wpAnyH_take (i := 6) (v := vr ra rb) rfl (by kernel_rfl) (by kernel_rfl) (by kernel_rfl) (fun _ _ _ h => h) (Or.inl ⟨by rfl, fun w' hw' => by go_simp⟩) hS2' ?_
  simp only [Act.put, List.setIfInBounds_toArray, List.set_cons_zero, List.set_cons_succ]
  refine wpAnyH_take (i := 7) (v := vi ri) rfl (by kernel_rfl) (by kernel_rfl) (by kernel_rfl) (fun _ _ _ h => h) (Or.inl ⟨by rfl, fun w' hw' => by go_simp⟩) hS2' ?_
  simp only [Act.put, List.setIfInBounds_toArray, List.set_cons_zero, List.set_cons_succ]
  refine wpAnyH_ready (rs := [8]) (by kernel_rfl) (by simp) ?_
  refine AllReadyH.cons rfl (fun K' hK' => ?_) AllReadyH.nil
  go_simp
  have hst : Sat w0 (pc bx 25 [vi ra, vu rb] * (Q * (elB b2 x * (gtB h p * F)))) ((w2.setCell ⟨bx, 0, none⟩ (vi ra)).setCell ⟨bx, 1, none⟩ (vu rb)) := (H2.out.pull2.store 0 (vi ra)).store 1 (vu rb)
  generalize (w2.setCell ⟨bx, 0, none⟩ (vi ra)).setCell ⟨bx, 1, none⟩ (vu rb) = w3 at *
  have H3 := Lib.hid hst
  have hS3 : (fun w' => w'.cell? ⟨h, 0, none⟩ = some (vp p) ∧ w'.rangeAt b2 0 (elC x)) w3 := ⟨hst.pull4.cell 0 rfl, range_ hst.pull3⟩
  have u0 := hst.cell 0 rfl
  have u1 := hst.cell 1 rfl
  clear hst
  refine hK'.out _ _ hS3 (fun _ => ?_)
  try simp only [Act.put, List.setIfInBounds_toArray, List.set_cons_zero, List.set_cons_succ]
  refine wpAnyH_ready (rs := [9]) (by kernel_rfl) (by simp) ?_
  refine AllReadyH.cons rfl (fun K'' hK'' => ?_) AllReadyH.nil
  go_simp
  refine hK''.out _ _ hS3 (fun _ => ?_)
  try simp only [Act.put, List.setIfInBounds_toArray, List.set_cons_zero, List.set_cons_succ]
  refine wpAnyH_done (by kernel_rfl) ?_ _
  clear hS0 hS2' hS3 hK hK' hK'' s0 s1 t0 t1
  go_wp2
  (try simp only [Exit.inBlock, Exit.then])
  refine bodyPost_ret (v := .tuple #[vr ra rb, vi ri]) (by rw [results_cell_tmp rfl]; go_simp) rfl ?_
  exact ⟨rfl, (H3.out.dropL.drop2).pull2⟩
theorem gt_make_full (hS : Sat w0 (gtB h p * (tblP p ps [] * F)) w) (x : El) (hm : mayB x = true) : Calls Try.prog 19 #[vp h, ev x] w fun e w' => e = .returned (.tuple #[vr 0 0, vi 3]) ∧ Sat w0 (gtB h p * (tblP p ps [] * F)) w' :=
  gt_make_ hS x hm (fun w1 G h1 => put_no h1 x)
theorem gt_make {k : Nat} {a : Pl} (hS : Sat w0 (gtB h p * (tblP p ps (free ++ [k]) * F)) w) (hk : ps[k]? = some a) (x : El) (hm : mayB x = true) : Calls Try.prog 19 #[vp h, ev x] w fun e w' => e = .returned (.tuple #[vr k a.gen, vi 0]) ∧ Sat w0 (gtB h p * (tblP p (ps.set k { a with there := true, x := x }) free * F)) w' :=
  gt_make_ hS x hm (fun w1 G h1 => put_yes h1 hk x)
end
end Go.Proofs.Ytffjckdaekamgaa.Gt
