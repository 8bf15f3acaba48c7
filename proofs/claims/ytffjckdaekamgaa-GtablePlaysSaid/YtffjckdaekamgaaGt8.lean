/-
  Chapter 16: gtable.Set. No statement is proved here.
-/
import Derived.Test.YtffjckdaekamgaaGt4
namespace Go.Proofs.Ytffjckdaekamgaa.Gt
open Go.RowKit Ag
set_option linter.unusedVariables false
set_option linter.unusedSimpArgs false

section
variable {w0 w : World} {F : Hp} {h p : Nat} {ps : List Pl} {free : List Nat}
set_option maxRecDepth 100000 in
set_option maxHeartbeats 4000000 in
theorem gt_set_may (hS : Sat w0 (gtB h p * (tblP p ps free * F)) w) (i g : Int) (x : El) (hm : mayB x = false) : Calls Try.prog 25 #[vp h, vr i g, ev x] w fun e w' => e = .returned (vi 2) ∧ Sat w0 (gtB h p * (tblP p ps free * F)) w' := by
  have hB0 := (hS.alloc (.cells #[vi i, vu g] 25)).alloc (elO x)
  rw [size1] at hB0
  have hB : Sat w0 (elB (w.heap.size + 1) x * (pc w.heap.size 25 [vi i, vu g] * (gtB h p * (tblP p ps free * F)))) ((w.alloc (.cells #[vi i, vu g] 25)).alloc (elO x)) := hB0
  have HN := Lib.hid (gt_none hB.pull3)
  have HM := g_may hB x
  rw [hm] at HM
  have HM := Lib.hid HM
  have HLd := Lib.hid (range_ hB)
  clear hB hB0 hS hm
  go_enter Try.func25, Try.ntmps25
  go_wp2_with (first
    | (go_at_call 30; refine HN.out.mono ?_; rintro e w' ⟨rfl, rfl⟩)
    | (refine wpList_load_mid rfl 29 _ rfl (w.heap.size + 1) 0 (by rfl) (elC x) _ HLd.out Try.underlying29 rfl einfo ?_))
  refine HM.out.mono ?_
  rintro e w1 ⟨rfl, hS1⟩
  generalize w.heap.size + 1 = bx at *
  generalize w.heap.size = b2 at *
  have H1 := Lib.hid hS1
  clear hS1 HN HM HLd
  go_wp2
  go_ret
  exact ⟨rfl, H1.out.dropL.dropL⟩
set_option maxRecDepth 100000 in
set_option maxHeartbeats 4000000 in
theorem gt_set_no (hS : Sat w0 (gtB h p * (tblP p ps free * F)) w) (i g : Int) (x : El) (hm : mayB x = true) (hE : getE ps i g = 11) : Calls Try.prog 25 #[vp h, vr i g, ev x] w fun e w' => e = .returned (vi 11) ∧ Sat w0 (gtB h p * (tblP p ps free * F)) w' := by
  have hB0 := (hS.alloc (.cells #[vi i, vu g] 25)).alloc (elO x)
  rw [size1] at hB0
  have hB : Sat w0 (elB (w.heap.size + 1) x * (pc w.heap.size 25 [vi i, vu g] * (gtB h p * (tblP p ps free * F)))) ((w.alloc (.cells #[vi i, vu g] 25)).alloc (elO x)) := hB0
  have HN := Lib.hid (gt_none hB.pull3)
  have HM := g_may hB x
  rw [hm] at HM
  have HM := Lib.hid HM
  have HLd := Lib.hid (range_ hB)
  clear hB hB0 hS hm
  have HG : Hid (∀ (w1 : World) (G : Hp), Sat w0 (tblP p ps free * G) w1 → Calls Try.prog 43 #[vp p, vr i g] w1 fun e w' => e = .returned (.tuple #[ev (getX ps i g), vi (getE ps i g)]) ∧ Sat w0 (tblP p ps free * G) w') := Lib.hid fun w1 G h1 => get_ h1 i g
  have HSet : Hid (∀ (w1 : World) (G : Hp), Sat w0 (tblP p ps free * G) w1 → Calls Try.prog 42 #[vp p, vr i g, ev x] w1 fun e w' => e = .returned (vi (getE ps i g)) ∧ Sat w0 (tblP p (setP ps i g x) free * G) w') := Lib.hid fun w1 G h1 => set_ h1 i g x
  rw [hE] at HG HSet
  clear hE
  generalize getX ps i g = y at *
  obtain ⟨cs, hcs⟩ : ∃ cs, cs = elC y := ⟨_, rfl⟩
  have hinfo : (Try.prog.info? 29).map (·.size) = some cs.length := by rw [hcs]; exact einfo
  have hone : cs.toArray.all (·.oneCell') = true := by rw [hcs]; exact all_oneCell_toArray (elOne _)
  have hlen : cs.length = 19 := by rw [hcs]; rfl
  have HG : Hid (∀ (w1 : World) (G : Hp), Sat w0 (tblP p ps free * G) w1 → Calls Try.prog 43 #[vp p, vr i g] w1 fun e w' => e = .returned (.tuple #[.agg cs.toArray, vi 11]) ∧ Sat w0 (tblP p ps free * G) w') := by rw [hcs]; exact HG
  have HCS := Lib.hid hcs
  clear hcs
  go_enter Try.func25, Try.ntmps25
  go_wp2_with (first
    | (go_at_call 30; refine HN.out.mono ?_; rintro e w' ⟨rfl, rfl⟩)
    | (refine wpList_load_mid rfl 29 _ rfl (w.heap.size + 1) 0 (by rfl) (elC x) _ HLd.out Try.underlying29 rfl einfo ?_))
  refine HM.out.mono ?_
  rintro e w1 ⟨rfl, hS1⟩
  generalize w.heap.size + 1 = bx at *
  generalize w.heap.size = b2 at *
  have H1 := Lib.hid hS1
  clear hS1 HN HM HLd
  go_wp2
  have hS0 : (fun w' => w'.cell? ⟨h, 0, none⟩ = some (vp p) ∧ w'.cell? ⟨b2, 0, none⟩ = some (vi i) ∧ w'.cell? ⟨b2, 1, none⟩ = some (vu g)) w1.drew := ⟨H1.out.drew.pull3.cell 0 rfl, H1.out.drew.pull2.cell 0 rfl, H1.out.drew.pull2.cell 1 rfl⟩
  refine wp_region_held (S := fun w' => w'.cell? ⟨h, 0, none⟩ = some (vp p) ∧ w'.cell? ⟨b2, 0, none⟩ = some (vi i) ∧ w'.cell? ⟨b2, 1, none⟩ = some (vu g)) (by kernel_rfl) ?_
  change wpAnyH _ _ _ _ _ _ _ _ (World.drew _)
  refine wpAnyH_take (i := 0) (v := vp h) rfl (by kernel_rfl) (by kernel_rfl) (by kernel_rfl) (fun _ _ _ h => h) (Or.inl ⟨by rfl, fun w' hw' => by go_simp⟩) hS0 ?_
  simp only [Act.put, List.setIfInBounds_toArray, List.set_cons_zero, List.set_cons_succ]
  refine wpAnyH_take (i := 1) (v := vp h) rfl (by kernel_rfl) (by kernel_rfl) (by kernel_rfl) (fun _ _ _ h => h) (Or.inl ⟨by rfl, fun w' hw' => by go_simp⟩) hS0 ?_
  simp only [Act.put, List.setIfInBounds_toArray, List.set_cons_zero, List.set_cons_succ]
  refine wpAnyH_take (i := 2) (v := vp h) rfl (by kernel_rfl) (by kernel_rfl) (by kernel_rfl) (fun _ _ _ h => h) (Or.inl ⟨by rfl, fun w' hw' => by go_simp⟩) hS0 ?_
  simp only [Act.put, List.setIfInBounds_toArray, List.set_cons_zero, List.set_cons_succ]
  refine wpAnyH_take (i := 3) (v := vp p) rfl (by kernel_rfl) (by kernel_rfl) (by kernel_rfl) (fun _ _ _ h => h) (Or.inl ⟨by rfl, fun w' hw' => by (have h1 := hw'.1; go_simp)⟩) hS0 ?_
  simp only [Act.put, List.setIfInBounds_toArray, List.set_cons_zero, List.set_cons_succ]
  refine wpAnyH_take (i := 4) (v := vr i g) rfl (by kernel_rfl) (by kernel_rfl) (by kernel_rfl) (fun _ _ _ h => h) (Or.inl ⟨by rfl, fun w' hw' => by (have h1 := hw'.2.1; have h2 := hw'.2.2; go_simp)⟩) hS0 ?_
  simp only [Act.put, List.setIfInBounds_toArray, List.set_cons_zero, List.set_cons_succ]
  refine wpAnyH_ready (rs := [5, 9]) (by kernel_rfl) (by simp) ?_
  refine AllReadyH.cons rfl (fun K hK => ?_) (AllReadyH.cons rfl (fun K hK => ?_) AllReadyH.nil)
  · go_simp
    refine (HG.out _ _ (H1.out.drew.cast (show _ = tblP p ps free * (gtB h p * (elB bx x * (pc b2 25 [vi i, vu g] * F))) by ac_rfl))).mono ?_
    rintro e w4 ⟨rfl, hS2⟩
    have hS2 : Sat w0 (elB bx x * (pc b2 25 [vi i, vu g] * (gtB h p * (tblP p ps free * F)))) w4 := hS2.cast (by ac_rfl)
    have hS4 : (fun w' => w'.cell? ⟨h, 0, none⟩ = some (vp p) ∧ w'.cell? ⟨b2, 0, none⟩ = some (vi i) ∧ w'.cell? ⟨b2, 1, none⟩ = some (vu g)) w4 := ⟨hS2.pull3.cell 0 rfl, hS2.pull2.cell 0 rfl, hS2.pull2.cell 1 rfl⟩
    refine hK.out _ _ hS4 (fun _ => ?_)
    try simp only [Act.put, List.setIfInBounds_toArray, List.set_cons_zero, List.set_cons_succ]
    refine wpAnyH_take (i := 6) (v := (.tuple #[.agg cs.toArray, vi 11])) rfl (by kernel_rfl) (by kernel_rfl) (by kernel_rfl) (fun _ _ _ h => h) (Or.inl ⟨by rfl, fun w' hw' => by go_simp⟩) hS4 ?_
    simp only [Act.put, List.setIfInBounds_toArray, List.set_cons_zero, List.set_cons_succ]
    refine wpAnyH_take (i := 7) (v := (.agg cs.toArray)) rfl (by kernel_rfl) (by kernel_rfl) (by kernel_rfl) (fun _ _ _ h => h) (Or.inl ⟨by rfl, fun w' hw' => by go_simp⟩) hS4 ?_
    simp only [Act.put, List.setIfInBounds_toArray, List.set_cons_zero, List.set_cons_succ]
    refine wpAnyH_take (i := 8) (v := (vi 11)) rfl (by kernel_rfl) (by kernel_rfl) (by kernel_rfl) (fun _ _ _ h => h) (Or.inl ⟨by rfl, fun w' hw' => by go_simp⟩) hS4 ?_
    simp only [Act.put, List.setIfInBounds_toArray, List.set_cons_zero, List.set_cons_succ]
    refine wpAnyH_ready (rs := [9]) (by kernel_rfl) (by simp) ?_
    refine AllReadyH.cons rfl (fun K2 hK2 => ?_) AllReadyH.nil
    go_simp
    have HA : Sat w0 (pc w4.heap.size 29 (elC ez) * (elB bx x * (pc b2 25 [vi i, vu g] * (gtB h p * (tblP p ps free * F))))) (w4.alloc (elO ez)) := hS2.alloc _
    have hS5 : (fun w' => w'.cell? ⟨h, 0, none⟩ = some (vp p) ∧ w'.cell? ⟨b2, 0, none⟩ = some (vi i) ∧ w'.cell? ⟨b2, 1, none⟩ = some (vu g)) (w4.alloc (elO ez)) := ⟨HA.pull4.cell 0 rfl, HA.pull3.cell 0 rfl, HA.pull3.cell 1 rfl⟩
    generalize w4.heap.size = bn at HA ⊢
    generalize w4.alloc (elO ez) = w5 at HA hS5 ⊢
    refine hK2.out _ _ hS5 (fun _ => ?_)
    try simp only [Act.put, List.setIfInBounds_toArray, List.set_cons_zero, List.set_cons_succ]
    refine wpAnyH_ready (rs := [10]) (by kernel_rfl) (by simp) ?_
    refine AllReadyH.cons rfl (fun K3 hK3 => ?_) AllReadyH.nil
    rw [if_pos (by rfl)]
    have hth : w5.there bn 0 cs.toArray.size := there_ (n := cs.length) HA (by rw [hlen]; rfl)
    have hst := HA.stores (elC y) 0
    rw [setL_full (elC ez) (elC y) rfl, ← HCS.out] at hst
    have hst : Sat w0 (pc bn 29 cs * (elB bx x * (pc b2 25 [vi i, vu g] * (gtB h p * (tblP p ps free * F))))) (w5.setCells bn 0 cs.toArray.toList) := hst
    refine wp_store_mid 29 _ _ rfl bn 0 cs.toArray (by rfl) (by rfl) hth hinfo hone ?_
    generalize w5.setCells bn 0 cs.toArray.toList = w6 at hst ⊢
    have hS6 : (fun w' => w'.cell? ⟨h, 0, none⟩ = some (vp p) ∧ w'.cell? ⟨b2, 0, none⟩ = some (vi i) ∧ w'.cell? ⟨b2, 1, none⟩ = some (vu g)) w6 := ⟨hst.pull4.cell 0 rfl, hst.pull3.cell 0 rfl, hst.pull3.cell 1 rfl⟩
    have H6 : Hid (Sat w0 (elB bn y * (elB bx x * (pc b2 25 [vi i, vu g] * (gtB h p * (tblP p ps free * F))))) w6) := Lib.hid (by rw [HCS.out] at hst; exact hst)
    clear hst hth
    refine hK3.out _ _ hS6 (fun _ => ?_)
    try simp only [Act.put, List.setIfInBounds_toArray, List.set_cons_zero, List.set_cons_succ]
    refine wpAnyH_take (i := 11) (v := (vi 11)) rfl (by kernel_rfl) (by kernel_rfl) (by kernel_rfl) (fun _ _ _ h => h) (Or.inl ⟨by rfl, fun w' hw' => by go_simp⟩) hS6 ?_
    simp only [Act.put, List.setIfInBounds_toArray, List.set_cons_zero, List.set_cons_succ]
    refine wpAnyH_done (by kernel_rfl) ?_ _
    clear hS0 hS4 hS5 hS6 hK hK2 hK3 HA hS2
    go_wp2
    go_ret
    exact ⟨rfl, H6.out.dropL.dropL.dropL⟩
  · go_simp
    have HA0 : Sat w0 (pc w1.heap.size 29 (elC ez) * (elB bx x * (pc b2 25 [vi i, vu g] * (gtB h p * (tblP p ps free * F))))) (w1.alloc (elO ez)).drew := (H1.out.alloc _).drew
    have hS4 : (fun w' => w'.cell? ⟨h, 0, none⟩ = some (vp p) ∧ w'.cell? ⟨b2, 0, none⟩ = some (vi i) ∧ w'.cell? ⟨b2, 1, none⟩ = some (vu g)) (w1.alloc (elO ez)).drew := ⟨HA0.pull4.cell 0 rfl, HA0.pull3.cell 0 rfl, HA0.pull3.cell 1 rfl⟩
    generalize w1.heap.size = bn at HA0 ⊢
    generalize (w1.alloc (elO ez)).drew = w4 at HA0 hS4 ⊢
    refine hK.out _ _ hS4 (fun _ => ?_)
    try simp only [Act.put, List.setIfInBounds_toArray, List.set_cons_zero, List.set_cons_succ]
    refine wpAnyH_ready (rs := [5]) (by kernel_rfl) (by simp) ?_
    refine AllReadyH.cons rfl (fun K2 hK2 => ?_) AllReadyH.nil
    go_simp
    refine (HG.out _ _ (HA0.cast (show _ = tblP p ps free * (pc bn 29 (elC ez) * (gtB h p * (elB bx x * (pc b2 25 [vi i, vu g] * F)))) by ac_rfl))).mono ?_
    rintro e w5 ⟨rfl, hS2⟩
    have HA : Sat w0 (pc bn 29 (elC ez) * (elB bx x * (pc b2 25 [vi i, vu g] * (gtB h p * (tblP p ps free * F))))) w5 := hS2.cast (by ac_rfl)
    clear hS2
    have hS5 : (fun w' => w'.cell? ⟨h, 0, none⟩ = some (vp p) ∧ w'.cell? ⟨b2, 0, none⟩ = some (vi i) ∧ w'.cell? ⟨b2, 1, none⟩ = some (vu g)) w5 := ⟨HA.pull4.cell 0 rfl, HA.pull3.cell 0 rfl, HA.pull3.cell 1 rfl⟩
    refine hK2.out _ _ hS5 (fun _ => ?_)
    try simp only [Act.put, List.setIfInBounds_toArray, List.set_cons_zero, List.set_cons_succ]
    refine wpAnyH_take (i := 6) (v := (.tuple #[.agg cs.toArray, vi 11])) rfl (by kernel_rfl) (by kernel_rfl) (by kernel_rfl) (fun _ _ _ h => h) (Or.inl ⟨by rfl, fun w' hw' => by go_simp⟩) hS5 ?_
    simp only [Act.put, List.setIfInBounds_toArray, List.set_cons_zero, List.set_cons_succ]
    refine wpAnyH_take (i := 7) (v := (.agg cs.toArray)) rfl (by kernel_rfl) (by kernel_rfl) (by kernel_rfl) (fun _ _ _ h => h) (Or.inl ⟨by rfl, fun w' hw' => by go_simp⟩) hS5 ?_
    simp only [Act.put, List.setIfInBounds_toArray, List.set_cons_zero, List.set_cons_succ]
    refine wpAnyH_take (i := 8) (v := (vi 11)) rfl (by kernel_rfl) (by kernel_rfl) (by kernel_rfl) (fun _ _ _ h => h) (Or.inl ⟨by rfl, fun w' hw' => by go_simp⟩) hS5 ?_
    simp only [Act.put, List.setIfInBounds_toArray, List.set_cons_zero, List.set_cons_succ]
    refine wpAnyH_ready (rs := [10]) (by kernel_rfl) (by simp) ?_
    refine AllReadyH.cons rfl (fun K3 hK3 => ?_) AllReadyH.nil
    rw [if_pos (by rfl)]
    have hth : w5.there bn 0 cs.toArray.size := there_ (n := cs.length) HA (by rw [hlen]; rfl)
    have hst := HA.stores (elC y) 0
    rw [setL_full (elC ez) (elC y) rfl, ← HCS.out] at hst
    have hst : Sat w0 (pc bn 29 cs * (elB bx x * (pc b2 25 [vi i, vu g] * (gtB h p * (tblP p ps free * F))))) (w5.setCells bn 0 cs.toArray.toList) := hst
    refine wp_store_mid 29 _ _ rfl bn 0 cs.toArray (by rfl) (by rfl) hth hinfo hone ?_
    generalize w5.setCells bn 0 cs.toArray.toList = w6 at hst ⊢
    have hS6 : (fun w' => w'.cell? ⟨h, 0, none⟩ = some (vp p) ∧ w'.cell? ⟨b2, 0, none⟩ = some (vi i) ∧ w'.cell? ⟨b2, 1, none⟩ = some (vu g)) w6 := ⟨hst.pull4.cell 0 rfl, hst.pull3.cell 0 rfl, hst.pull3.cell 1 rfl⟩
    have H6 : Hid (Sat w0 (elB bn y * (elB bx x * (pc b2 25 [vi i, vu g] * (gtB h p * (tblP p ps free * F))))) w6) := Lib.hid (by rw [HCS.out] at hst; exact hst)
    clear hst hth
    refine hK3.out _ _ hS6 (fun _ => ?_)
    try simp only [Act.put, List.setIfInBounds_toArray, List.set_cons_zero, List.set_cons_succ]
    refine wpAnyH_take (i := 11) (v := (vi 11)) rfl (by kernel_rfl) (by kernel_rfl) (by kernel_rfl) (fun _ _ _ h => h) (Or.inl ⟨by rfl, fun w' hw' => by go_simp⟩) hS6 ?_
    simp only [Act.put, List.setIfInBounds_toArray, List.set_cons_zero, List.set_cons_succ]
    refine wpAnyH_done (by kernel_rfl) ?_ _
    clear hS0 hS4 hS5 hS6 hK hK2 hK3 HA HA0
    go_wp2
    go_ret
    exact ⟨rfl, H6.out.dropL.dropL.dropL⟩
set_option maxRecDepth 100000 in
set_option maxHeartbeats 4000000 in
theorem gt_set_state (hS : Sat w0 (gtB h p * (tblP p ps free * F)) w) (i g : Int) (x : El) (hm : mayB x = true) (hE : getE ps i g = 0) (hv : (getX ps i g).v0 ≠ x.v0) : Calls Try.prog 25 #[vp h, vr i g, ev x] w fun e w' => e = .returned (vi 5) ∧ Sat w0 (gtB h p * (tblP p ps free * F)) w' := by
  have hB0 := (hS.alloc (.cells #[vi i, vu g] 25)).alloc (elO x)
  rw [size1] at hB0
  have hB : Sat w0 (elB (w.heap.size + 1) x * (pc w.heap.size 25 [vi i, vu g] * (gtB h p * (tblP p ps free * F)))) ((w.alloc (.cells #[vi i, vu g] 25)).alloc (elO x)) := hB0
  have HN := Lib.hid (gt_none hB.pull3)
  have HM := g_may hB x
  rw [hm] at HM
  have HM := Lib.hid HM
  have HLd := Lib.hid (range_ hB)
  clear hB hB0 hS hm
  have HG : Hid (∀ (w1 : World) (G : Hp), Sat w0 (tblP p ps free * G) w1 → Calls Try.prog 43 #[vp p, vr i g] w1 fun e w' => e = .returned (.tuple #[ev (getX ps i g), vi (getE ps i g)]) ∧ Sat w0 (tblP p ps free * G) w') := Lib.hid fun w1 G h1 => get_ h1 i g
  have HSet : Hid (∀ (w1 : World) (G : Hp), Sat w0 (tblP p ps free * G) w1 → Calls Try.prog 42 #[vp p, vr i g, ev x] w1 fun e w' => e = .returned (vi (getE ps i g)) ∧ Sat w0 (tblP p (setP ps i g x) free * G) w') := Lib.hid fun w1 G h1 => set_ h1 i g x
  rw [hE] at HG HSet
  clear hE
  generalize getX ps i g = y at *
  obtain ⟨cs, hcs⟩ : ∃ cs, cs = elC y := ⟨_, rfl⟩
  have hinfo : (Try.prog.info? 29).map (·.size) = some cs.length := by rw [hcs]; exact einfo
  have hone : cs.toArray.all (·.oneCell') = true := by rw [hcs]; exact all_oneCell_toArray (elOne _)
  have hlen : cs.length = 19 := by rw [hcs]; rfl
  have HG : Hid (∀ (w1 : World) (G : Hp), Sat w0 (tblP p ps free * G) w1 → Calls Try.prog 43 #[vp p, vr i g] w1 fun e w' => e = .returned (.tuple #[.agg cs.toArray, vi 0]) ∧ Sat w0 (tblP p ps free * G) w') := by rw [hcs]; exact HG
  have HCS := Lib.hid hcs
  clear hcs
  go_enter Try.func25, Try.ntmps25
  go_wp2_with (first
    | (go_at_call 30; refine HN.out.mono ?_; rintro e w' ⟨rfl, rfl⟩)
    | (refine wpList_load_mid rfl 29 _ rfl (w.heap.size + 1) 0 (by rfl) (elC x) _ HLd.out Try.underlying29 rfl einfo ?_))
  refine HM.out.mono ?_
  rintro e w1 ⟨rfl, hS1⟩
  generalize w.heap.size + 1 = bx at *
  generalize w.heap.size = b2 at *
  have H1 := Lib.hid hS1
  clear hS1 HN HM HLd
  go_wp2
  have hS0 : (fun w' => w'.cell? ⟨h, 0, none⟩ = some (vp p) ∧ w'.cell? ⟨b2, 0, none⟩ = some (vi i) ∧ w'.cell? ⟨b2, 1, none⟩ = some (vu g)) w1.drew := ⟨H1.out.drew.pull3.cell 0 rfl, H1.out.drew.pull2.cell 0 rfl, H1.out.drew.pull2.cell 1 rfl⟩
  refine wp_region_held (S := fun w' => w'.cell? ⟨h, 0, none⟩ = some (vp p) ∧ w'.cell? ⟨b2, 0, none⟩ = some (vi i) ∧ w'.cell? ⟨b2, 1, none⟩ = some (vu g)) (by kernel_rfl) ?_
  change wpAnyH _ _ _ _ _ _ _ _ (World.drew _)
  refine wpAnyH_take (i := 0) (v := vp h) rfl (by kernel_rfl) (by kernel_rfl) (by kernel_rfl) (fun _ _ _ h => h) (Or.inl ⟨by rfl, fun w' hw' => by go_simp⟩) hS0 ?_
  simp only [Act.put, List.setIfInBounds_toArray, List.set_cons_zero, List.set_cons_succ]
  refine wpAnyH_take (i := 1) (v := vp h) rfl (by kernel_rfl) (by kernel_rfl) (by kernel_rfl) (fun _ _ _ h => h) (Or.inl ⟨by rfl, fun w' hw' => by go_simp⟩) hS0 ?_
  simp only [Act.put, List.setIfInBounds_toArray, List.set_cons_zero, List.set_cons_succ]
  refine wpAnyH_take (i := 2) (v := vp h) rfl (by kernel_rfl) (by kernel_rfl) (by kernel_rfl) (fun _ _ _ h => h) (Or.inl ⟨by rfl, fun w' hw' => by go_simp⟩) hS0 ?_
  simp only [Act.put, List.setIfInBounds_toArray, List.set_cons_zero, List.set_cons_succ]
  refine wpAnyH_take (i := 3) (v := vp p) rfl (by kernel_rfl) (by kernel_rfl) (by kernel_rfl) (fun _ _ _ h => h) (Or.inl ⟨by rfl, fun w' hw' => by (have h1 := hw'.1; go_simp)⟩) hS0 ?_
  simp only [Act.put, List.setIfInBounds_toArray, List.set_cons_zero, List.set_cons_succ]
  refine wpAnyH_take (i := 4) (v := vr i g) rfl (by kernel_rfl) (by kernel_rfl) (by kernel_rfl) (fun _ _ _ h => h) (Or.inl ⟨by rfl, fun w' hw' => by (have h1 := hw'.2.1; have h2 := hw'.2.2; go_simp)⟩) hS0 ?_
  simp only [Act.put, List.setIfInBounds_toArray, List.set_cons_zero, List.set_cons_succ]
  refine wpAnyH_ready (rs := [5, 9]) (by kernel_rfl) (by simp) ?_
  refine AllReadyH.cons rfl (fun K hK => ?_) (AllReadyH.cons rfl (fun K hK => ?_) AllReadyH.nil)
  · go_simp
    refine (HG.out _ _ (H1.out.drew.cast (show _ = tblP p ps free * (gtB h p * (elB bx x * (pc b2 25 [vi i, vu g] * F))) by ac_rfl))).mono ?_
    rintro e w4 ⟨rfl, hS2⟩
    have hS2 : Sat w0 (elB bx x * (pc b2 25 [vi i, vu g] * (gtB h p * (tblP p ps free * F)))) w4 := hS2.cast (by ac_rfl)
    have hS4 : (fun w' => w'.cell? ⟨h, 0, none⟩ = some (vp p) ∧ w'.cell? ⟨b2, 0, none⟩ = some (vi i) ∧ w'.cell? ⟨b2, 1, none⟩ = some (vu g)) w4 := ⟨hS2.pull3.cell 0 rfl, hS2.pull2.cell 0 rfl, hS2.pull2.cell 1 rfl⟩
    refine hK.out _ _ hS4 (fun _ => ?_)
    try simp only [Act.put, List.setIfInBounds_toArray, List.set_cons_zero, List.set_cons_succ]
    refine wpAnyH_take (i := 6) (v := (.tuple #[.agg cs.toArray, vi 0])) rfl (by kernel_rfl) (by kernel_rfl) (by kernel_rfl) (fun _ _ _ h => h) (Or.inl ⟨by rfl, fun w' hw' => by go_simp⟩) hS4 ?_
    simp only [Act.put, List.setIfInBounds_toArray, List.set_cons_zero, List.set_cons_succ]
    refine wpAnyH_take (i := 7) (v := (.agg cs.toArray)) rfl (by kernel_rfl) (by kernel_rfl) (by kernel_rfl) (fun _ _ _ h => h) (Or.inl ⟨by rfl, fun w' hw' => by go_simp⟩) hS4 ?_
    simp only [Act.put, List.setIfInBounds_toArray, List.set_cons_zero, List.set_cons_succ]
    refine wpAnyH_take (i := 8) (v := (vi 0)) rfl (by kernel_rfl) (by kernel_rfl) (by kernel_rfl) (fun _ _ _ h => h) (Or.inl ⟨by rfl, fun w' hw' => by go_simp⟩) hS4 ?_
    simp only [Act.put, List.setIfInBounds_toArray, List.set_cons_zero, List.set_cons_succ]
    refine wpAnyH_ready (rs := [9]) (by kernel_rfl) (by simp) ?_
    refine AllReadyH.cons rfl (fun K2 hK2 => ?_) AllReadyH.nil
    go_simp
    have HA : Sat w0 (pc w4.heap.size 29 (elC ez) * (elB bx x * (pc b2 25 [vi i, vu g] * (gtB h p * (tblP p ps free * F))))) (w4.alloc (elO ez)) := hS2.alloc _
    have hS5 : (fun w' => w'.cell? ⟨h, 0, none⟩ = some (vp p) ∧ w'.cell? ⟨b2, 0, none⟩ = some (vi i) ∧ w'.cell? ⟨b2, 1, none⟩ = some (vu g)) (w4.alloc (elO ez)) := ⟨HA.pull4.cell 0 rfl, HA.pull3.cell 0 rfl, HA.pull3.cell 1 rfl⟩
    generalize w4.heap.size = bn at HA ⊢
    generalize w4.alloc (elO ez) = w5 at HA hS5 ⊢
    refine hK2.out _ _ hS5 (fun _ => ?_)
    try simp only [Act.put, List.setIfInBounds_toArray, List.set_cons_zero, List.set_cons_succ]
    refine wpAnyH_ready (rs := [10]) (by kernel_rfl) (by simp) ?_
    refine AllReadyH.cons rfl (fun K3 hK3 => ?_) AllReadyH.nil
    rw [if_pos (by rfl)]
    have hth : w5.there bn 0 cs.toArray.size := there_ (n := cs.length) HA (by rw [hlen]; rfl)
    have hst := HA.stores (elC y) 0
    rw [setL_full (elC ez) (elC y) rfl, ← HCS.out] at hst
    have hst : Sat w0 (pc bn 29 cs * (elB bx x * (pc b2 25 [vi i, vu g] * (gtB h p * (tblP p ps free * F))))) (w5.setCells bn 0 cs.toArray.toList) := hst
    refine wp_store_mid 29 _ _ rfl bn 0 cs.toArray (by rfl) (by rfl) hth hinfo hone ?_
    generalize w5.setCells bn 0 cs.toArray.toList = w6 at hst ⊢
    have hS6 : (fun w' => w'.cell? ⟨h, 0, none⟩ = some (vp p) ∧ w'.cell? ⟨b2, 0, none⟩ = some (vi i) ∧ w'.cell? ⟨b2, 1, none⟩ = some (vu g)) w6 := ⟨hst.pull4.cell 0 rfl, hst.pull3.cell 0 rfl, hst.pull3.cell 1 rfl⟩
    have H6 : Hid (Sat w0 (elB bn y * (elB bx x * (pc b2 25 [vi i, vu g] * (gtB h p * (tblP p ps free * F))))) w6) := Lib.hid (by rw [HCS.out] at hst; exact hst)
    clear hst hth
    refine hK3.out _ _ hS6 (fun _ => ?_)
    try simp only [Act.put, List.setIfInBounds_toArray, List.set_cons_zero, List.set_cons_succ]
    refine wpAnyH_take (i := 11) (v := (vi 0)) rfl (by kernel_rfl) (by kernel_rfl) (by kernel_rfl) (fun _ _ _ h => h) (Or.inl ⟨by rfl, fun w' hw' => by go_simp⟩) hS6 ?_
    simp only [Act.put, List.setIfInBounds_toArray, List.set_cons_zero, List.set_cons_succ]
    refine wpAnyH_done (by kernel_rfl) ?_ _
    clear hS0 hS4 hS5 hS6 hK hK2 hK3 HA hS2
    have c0 := H6.out.cell 0 rfl
    have c1 := H6.out.pull2.cell 0 rfl
    have hv2 : (y.v0 == x.v0) = false := beq_eq_false_iff_ne.2 hv
    clear hv
    go_wp2
    go_ret
    exact ⟨rfl, H6.out.dropL.dropL.dropL⟩
  · go_simp
    have HA0 : Sat w0 (pc w1.heap.size 29 (elC ez) * (elB bx x * (pc b2 25 [vi i, vu g] * (gtB h p * (tblP p ps free * F))))) (w1.alloc (elO ez)).drew := (H1.out.alloc _).drew
    have hS4 : (fun w' => w'.cell? ⟨h, 0, none⟩ = some (vp p) ∧ w'.cell? ⟨b2, 0, none⟩ = some (vi i) ∧ w'.cell? ⟨b2, 1, none⟩ = some (vu g)) (w1.alloc (elO ez)).drew := ⟨HA0.pull4.cell 0 rfl, HA0.pull3.cell 0 rfl, HA0.pull3.cell 1 rfl⟩
    generalize w1.heap.size = bn at HA0 ⊢
    generalize (w1.alloc (elO ez)).drew = w4 at HA0 hS4 ⊢
    refine hK.out _ _ hS4 (fun _ => ?_)
    try simp only [Act.put, List.setIfInBounds_toArray, List.set_cons_zero, List.set_cons_succ]
    refine wpAnyH_ready (rs := [5]) (by kernel_rfl) (by simp) ?_
    refine AllReadyH.cons rfl (fun K2 hK2 => ?_) AllReadyH.nil
    go_simp
    refine (HG.out _ _ (HA0.cast (show _ = tblP p ps free * (pc bn 29 (elC ez) * (gtB h p * (elB bx x * (pc b2 25 [vi i, vu g] * F)))) by ac_rfl))).mono ?_
    rintro e w5 ⟨rfl, hS2⟩
    have HA : Sat w0 (pc bn 29 (elC ez) * (elB bx x * (pc b2 25 [vi i, vu g] * (gtB h p * (tblP p ps free * F))))) w5 := hS2.cast (by ac_rfl)
    clear hS2
    have hS5 : (fun w' => w'.cell? ⟨h, 0, none⟩ = some (vp p) ∧ w'.cell? ⟨b2, 0, none⟩ = some (vi i) ∧ w'.cell? ⟨b2, 1, none⟩ = some (vu g)) w5 := ⟨HA.pull4.cell 0 rfl, HA.pull3.cell 0 rfl, HA.pull3.cell 1 rfl⟩
    refine hK2.out _ _ hS5 (fun _ => ?_)
    try simp only [Act.put, List.setIfInBounds_toArray, List.set_cons_zero, List.set_cons_succ]
    refine wpAnyH_take (i := 6) (v := (.tuple #[.agg cs.toArray, vi 0])) rfl (by kernel_rfl) (by kernel_rfl) (by kernel_rfl) (fun _ _ _ h => h) (Or.inl ⟨by rfl, fun w' hw' => by go_simp⟩) hS5 ?_
    simp only [Act.put, List.setIfInBounds_toArray, List.set_cons_zero, List.set_cons_succ]
    refine wpAnyH_take (i := 7) (v := (.agg cs.toArray)) rfl (by kernel_rfl) (by kernel_rfl) (by kernel_rfl) (fun _ _ _ h => h) (Or.inl ⟨by rfl, fun w' hw' => by go_simp⟩) hS5 ?_
    simp only [Act.put, List.setIfInBounds_toArray, List.set_cons_zero, List.set_cons_succ]
    refine wpAnyH_take (i := 8) (v := (vi 0)) rfl (by kernel_rfl) (by kernel_rfl) (by kernel_rfl) (fun _ _ _ h => h) (Or.inl ⟨by rfl, fun w' hw' => by go_simp⟩) hS5 ?_
    simp only [Act.put, List.setIfInBounds_toArray, List.set_cons_zero, List.set_cons_succ]
    refine wpAnyH_ready (rs := [10]) (by kernel_rfl) (by simp) ?_
    refine AllReadyH.cons rfl (fun K3 hK3 => ?_) AllReadyH.nil
    rw [if_pos (by rfl)]
    have hth : w5.there bn 0 cs.toArray.size := there_ (n := cs.length) HA (by rw [hlen]; rfl)
    have hst := HA.stores (elC y) 0
    rw [setL_full (elC ez) (elC y) rfl, ← HCS.out] at hst
    have hst : Sat w0 (pc bn 29 cs * (elB bx x * (pc b2 25 [vi i, vu g] * (gtB h p * (tblP p ps free * F))))) (w5.setCells bn 0 cs.toArray.toList) := hst
    refine wp_store_mid 29 _ _ rfl bn 0 cs.toArray (by rfl) (by rfl) hth hinfo hone ?_
    generalize w5.setCells bn 0 cs.toArray.toList = w6 at hst ⊢
    have hS6 : (fun w' => w'.cell? ⟨h, 0, none⟩ = some (vp p) ∧ w'.cell? ⟨b2, 0, none⟩ = some (vi i) ∧ w'.cell? ⟨b2, 1, none⟩ = some (vu g)) w6 := ⟨hst.pull4.cell 0 rfl, hst.pull3.cell 0 rfl, hst.pull3.cell 1 rfl⟩
    have H6 : Hid (Sat w0 (elB bn y * (elB bx x * (pc b2 25 [vi i, vu g] * (gtB h p * (tblP p ps free * F))))) w6) := Lib.hid (by rw [HCS.out] at hst; exact hst)
    clear hst hth
    refine hK3.out _ _ hS6 (fun _ => ?_)
    try simp only [Act.put, List.setIfInBounds_toArray, List.set_cons_zero, List.set_cons_succ]
    refine wpAnyH_take (i := 11) (v := (vi 0)) rfl (by kernel_rfl) (by kernel_rfl) (by kernel_rfl) (fun _ _ _ h => h) (Or.inl ⟨by rfl, fun w' hw' => by go_simp⟩) hS6 ?_
    simp only [Act.put, List.setIfInBounds_toArray, List.set_cons_zero, List.set_cons_succ]
    refine wpAnyH_done (by kernel_rfl) ?_ _
    clear hS0 hS4 hS5 hS6 hK hK2 hK3 HA HA0
    have c0 := H6.out.cell 0 rfl
    have c1 := H6.out.pull2.cell 0 rfl
    have hv2 : (y.v0 == x.v0) = false := beq_eq_false_iff_ne.2 hv
    clear hv
    go_wp2
    go_ret
    exact ⟨rfl, H6.out.dropL.dropL.dropL⟩
set_option maxRecDepth 100000 in
set_option maxHeartbeats 4000000 in
theorem gt_set_ok (hS : Sat w0 (gtB h p * (tblP p ps free * F)) w) (i g : Int) (x : El) (hm : mayB x = true) (hE : getE ps i g = 0) (hv : (getX ps i g).v0 = x.v0) : Calls Try.prog 25 #[vp h, vr i g, ev x] w fun e w' => e = .returned (vi 0) ∧ Sat w0 (gtB h p * (tblP p (setP ps i g x) free * F)) w' := by
  have hB0 := (hS.alloc (.cells #[vi i, vu g] 25)).alloc (elO x)
  rw [size1] at hB0
  have hB : Sat w0 (elB (w.heap.size + 1) x * (pc w.heap.size 25 [vi i, vu g] * (gtB h p * (tblP p ps free * F)))) ((w.alloc (.cells #[vi i, vu g] 25)).alloc (elO x)) := hB0
  have HN := Lib.hid (gt_none hB.pull3)
  have HM := g_may hB x
  rw [hm] at HM
  have HM := Lib.hid HM
  have HLd := Lib.hid (range_ hB)
  clear hB hB0 hS hm
  have HG : Hid (∀ (w1 : World) (G : Hp), Sat w0 (tblP p ps free * G) w1 → Calls Try.prog 43 #[vp p, vr i g] w1 fun e w' => e = .returned (.tuple #[ev (getX ps i g), vi (getE ps i g)]) ∧ Sat w0 (tblP p ps free * G) w') := Lib.hid fun w1 G h1 => get_ h1 i g
  have HSet : Hid (∀ (w1 : World) (G : Hp), Sat w0 (tblP p ps free * G) w1 → Calls Try.prog 42 #[vp p, vr i g, ev x] w1 fun e w' => e = .returned (vi (getE ps i g)) ∧ Sat w0 (tblP p (setP ps i g x) free * G) w') := Lib.hid fun w1 G h1 => set_ h1 i g x
  rw [hE] at HG HSet
  clear hE
  generalize getX ps i g = y at *
  obtain ⟨cs, hcs⟩ : ∃ cs, cs = elC y := ⟨_, rfl⟩
  have hinfo : (Try.prog.info? 29).map (·.size) = some cs.length := by rw [hcs]; exact einfo
  have hone : cs.toArray.all (·.oneCell') = true := by rw [hcs]; exact all_oneCell_toArray (elOne _)
  have hlen : cs.length = 19 := by rw [hcs]; rfl
  have HG : Hid (∀ (w1 : World) (G : Hp), Sat w0 (tblP p ps free * G) w1 → Calls Try.prog 43 #[vp p, vr i g] w1 fun e w' => e = .returned (.tuple #[.agg cs.toArray, vi 0]) ∧ Sat w0 (tblP p ps free * G) w') := by rw [hcs]; exact HG
  have HCS := Lib.hid hcs
  clear hcs
  go_enter Try.func25, Try.ntmps25
  go_wp2_with (first
    | (go_at_call 30; refine HN.out.mono ?_; rintro e w' ⟨rfl, rfl⟩)
    | (refine wpList_load_mid rfl 29 _ rfl (w.heap.size + 1) 0 (by rfl) (elC x) _ HLd.out Try.underlying29 rfl einfo ?_))
  refine HM.out.mono ?_
  rintro e w1 ⟨rfl, hS1⟩
  generalize w.heap.size + 1 = bx at *
  generalize w.heap.size = b2 at *
  have H1 := Lib.hid hS1
  clear hS1 HN HM HLd
  go_wp2
  have hS0 : (fun w' => w'.cell? ⟨h, 0, none⟩ = some (vp p) ∧ w'.cell? ⟨b2, 0, none⟩ = some (vi i) ∧ w'.cell? ⟨b2, 1, none⟩ = some (vu g)) w1.drew := ⟨H1.out.drew.pull3.cell 0 rfl, H1.out.drew.pull2.cell 0 rfl, H1.out.drew.pull2.cell 1 rfl⟩
  refine wp_region_held (S := fun w' => w'.cell? ⟨h, 0, none⟩ = some (vp p) ∧ w'.cell? ⟨b2, 0, none⟩ = some (vi i) ∧ w'.cell? ⟨b2, 1, none⟩ = some (vu g)) (by kernel_rfl) ?_
  change wpAnyH _ _ _ _ _ _ _ _ (World.drew _)
  refine wpAnyH_take (i := 0) (v := vp h) rfl (by kernel_rfl) (by kernel_rfl) (by kernel_rfl) (fun _ _ _ h => h) (Or.inl ⟨by rfl, fun w' hw' => by go_simp⟩) hS0 ?_
  simp only [Act.put, List.setIfInBounds_toArray, List.set_cons_zero, List.set_cons_succ]
  refine wpAnyH_take (i := 1) (v := vp h) rfl (by kernel_rfl) (by kernel_rfl) (by kernel_rfl) (fun _ _ _ h => h) (Or.inl ⟨by rfl, fun w' hw' => by go_simp⟩) hS0 ?_
  simp only [Act.put, List.setIfInBounds_toArray, List.set_cons_zero, List.set_cons_succ]
  refine wpAnyH_take (i := 2) (v := vp h) rfl (by kernel_rfl) (by kernel_rfl) (by kernel_rfl) (fun _ _ _ h => h) (Or.inl ⟨by rfl, fun w' hw' => by go_simp⟩) hS0 ?_
  simp only [Act.put, List.setIfInBounds_toArray, List.set_cons_zero, List.set_cons_succ]
  refine wpAnyH_take (i := 3) (v := vp p) rfl (by kernel_rfl) (by kernel_rfl) (by kernel_rfl) (fun _ _ _ h => h) (Or.inl ⟨by rfl, fun w' hw' => by (have h1 := hw'.1; go_simp)⟩) hS0 ?_
  simp only [Act.put, List.setIfInBounds_toArray, List.set_cons_zero, List.set_cons_succ]
  refine wpAnyH_take (i := 4) (v := vr i g) rfl (by kernel_rfl) (by kernel_rfl) (by kernel_rfl) (fun _ _ _ h => h) (Or.inl ⟨by rfl, fun w' hw' => by (have h1 := hw'.2.1; have h2 := hw'.2.2; go_simp)⟩) hS0 ?_
  simp only [Act.put, List.setIfInBounds_toArray, List.set_cons_zero, List.set_cons_succ]
  refine wpAnyH_ready (rs := [5, 9]) (by kernel_rfl) (by simp) ?_
  refine AllReadyH.cons rfl (fun K hK => ?_) (AllReadyH.cons rfl (fun K hK => ?_) AllReadyH.nil)
  · go_simp
    refine (HG.out _ _ (H1.out.drew.cast (show _ = tblP p ps free * (gtB h p * (elB bx x * (pc b2 25 [vi i, vu g] * F))) by ac_rfl))).mono ?_
    rintro e w4 ⟨rfl, hS2⟩
    have hS2 : Sat w0 (elB bx x * (pc b2 25 [vi i, vu g] * (gtB h p * (tblP p ps free * F)))) w4 := hS2.cast (by ac_rfl)
    have hS4 : (fun w' => w'.cell? ⟨h, 0, none⟩ = some (vp p) ∧ w'.cell? ⟨b2, 0, none⟩ = some (vi i) ∧ w'.cell? ⟨b2, 1, none⟩ = some (vu g)) w4 := ⟨hS2.pull3.cell 0 rfl, hS2.pull2.cell 0 rfl, hS2.pull2.cell 1 rfl⟩
    refine hK.out _ _ hS4 (fun _ => ?_)
    try simp only [Act.put, List.setIfInBounds_toArray, List.set_cons_zero, List.set_cons_succ]
    refine wpAnyH_take (i := 6) (v := (.tuple #[.agg cs.toArray, vi 0])) rfl (by kernel_rfl) (by kernel_rfl) (by kernel_rfl) (fun _ _ _ h => h) (Or.inl ⟨by rfl, fun w' hw' => by go_simp⟩) hS4 ?_
    simp only [Act.put, List.setIfInBounds_toArray, List.set_cons_zero, List.set_cons_succ]
    refine wpAnyH_take (i := 7) (v := (.agg cs.toArray)) rfl (by kernel_rfl) (by kernel_rfl) (by kernel_rfl) (fun _ _ _ h => h) (Or.inl ⟨by rfl, fun w' hw' => by go_simp⟩) hS4 ?_
    simp only [Act.put, List.setIfInBounds_toArray, List.set_cons_zero, List.set_cons_succ]
    refine wpAnyH_take (i := 8) (v := (vi 0)) rfl (by kernel_rfl) (by kernel_rfl) (by kernel_rfl) (fun _ _ _ h => h) (Or.inl ⟨by rfl, fun w' hw' => by go_simp⟩) hS4 ?_
    simp only [Act.put, List.setIfInBounds_toArray, List.set_cons_zero, List.set_cons_succ]
    refine wpAnyH_ready (rs := [9]) (by kernel_rfl) (by simp) ?_
    refine AllReadyH.cons rfl (fun K2 hK2 => ?_) AllReadyH.nil
    go_simp
    have HA : Sat w0 (pc w4.heap.size 29 (elC ez) * (elB bx x * (pc b2 25 [vi i, vu g] * (gtB h p * (tblP p ps free * F))))) (w4.alloc (elO ez)) := hS2.alloc _
    have hS5 : (fun w' => w'.cell? ⟨h, 0, none⟩ = some (vp p) ∧ w'.cell? ⟨b2, 0, none⟩ = some (vi i) ∧ w'.cell? ⟨b2, 1, none⟩ = some (vu g)) (w4.alloc (elO ez)) := ⟨HA.pull4.cell 0 rfl, HA.pull3.cell 0 rfl, HA.pull3.cell 1 rfl⟩
    generalize w4.heap.size = bn at HA ⊢
    generalize w4.alloc (elO ez) = w5 at HA hS5 ⊢
    refine hK2.out _ _ hS5 (fun _ => ?_)
    try simp only [Act.put, List.setIfInBounds_toArray, List.set_cons_zero, List.set_cons_succ]
    refine wpAnyH_ready (rs := [10]) (by kernel_rfl) (by simp) ?_
    refine AllReadyH.cons rfl (fun K3 hK3 => ?_) AllReadyH.nil
    rw [if_pos (by rfl)]
    have hth : w5.there bn 0 cs.toArray.size := there_ (n := cs.length) HA (by rw [hlen]; rfl)
    have hst := HA.stores (elC y) 0
    rw [setL_full (elC ez) (elC y) rfl, ← HCS.out] at hst
    have hst : Sat w0 (pc bn 29 cs * (elB bx x * (pc b2 25 [vi i, vu g] * (gtB h p * (tblP p ps free * F))))) (w5.setCells bn 0 cs.toArray.toList) := hst
    refine wp_store_mid 29 _ _ rfl bn 0 cs.toArray (by rfl) (by rfl) hth hinfo hone ?_
    generalize w5.setCells bn 0 cs.toArray.toList = w6 at hst ⊢
    have hS6 : (fun w' => w'.cell? ⟨h, 0, none⟩ = some (vp p) ∧ w'.cell? ⟨b2, 0, none⟩ = some (vi i) ∧ w'.cell? ⟨b2, 1, none⟩ = some (vu g)) w6 := ⟨hst.pull4.cell 0 rfl, hst.pull3.cell 0 rfl, hst.pull3.cell 1 rfl⟩
    have H6 : Hid (Sat w0 (elB bn y * (elB bx x * (pc b2 25 [vi i, vu g] * (gtB h p * (tblP p ps free * F))))) w6) := Lib.hid (by rw [HCS.out] at hst; exact hst)
    clear hst hth
    refine hK3.out _ _ hS6 (fun _ => ?_)
    try simp only [Act.put, List.setIfInBounds_toArray, List.set_cons_zero, List.set_cons_succ]
    refine wpAnyH_take (i := 11) (v := (vi 0)) rfl (by kernel_rfl) (by kernel_rfl) (by kernel_rfl) (fun _ _ _ h => h) (Or.inl ⟨by rfl, fun w' hw' => by go_simp⟩) hS6 ?_
    simp only [Act.put, List.setIfInBounds_toArray, List.set_cons_zero, List.set_cons_succ]
    refine wpAnyH_done (by kernel_rfl) ?_ _
    clear hS0 hS4 hS5 hS6 hK hK2 hK3 HA hS2
    have c0 := H6.out.cell 0 rfl
    have c1 := H6.out.pull2.cell 0 rfl
    rw [hv] at c0
    clear hv
    go_wp2
    have g0 := H6.out.pull4.cell 0 rfl
    have i0 := H6.out.pull3.cell 0 rfl
    have i1 := H6.out.pull3.cell 1 rfl
    refine wp_quiet_tail 6 (by kernel_rfl) (by kernel_rfl) ?_
    simp only [List.take_succ_cons, List.take_zero, List.drop_succ_cons, List.drop_zero]
    iterate 5 (go_big_quiet_step (fail))
    refine wpQuiet_load_row (by rfl) 29 _ rfl bx 0 (by rfl) (elC x) _ (fun w' hw' => by subst hw'; exact range_ H6.out.drew.pull2) Try.underlying29 rfl einfo ?_
    refine wpQuiet_nil ?_
    go_wp2_with (go_at_call 42; refine (HSet.out _ _ (H6.out.drew.cast (show _ = tblP p ps free * (gtB h p * (elB bn y * (elB bx x * (pc b2 25 [vi i, vu g] * F)))) by ac_rfl))).mono ?_; rintro e w7 ⟨rfl, hS7⟩)
    go_ret
    exact ⟨rfl, (hS7.cast (show _ = elB bn y * (elB bx x * (pc b2 25 [vi i, vu g] * (gtB h p * (tblP p (setP ps i g x) free * F)))) by ac_rfl)).dropL.dropL.dropL⟩
  · go_simp
    have HA0 : Sat w0 (pc w1.heap.size 29 (elC ez) * (elB bx x * (pc b2 25 [vi i, vu g] * (gtB h p * (tblP p ps free * F))))) (w1.alloc (elO ez)).drew := (H1.out.alloc _).drew
    have hS4 : (fun w' => w'.cell? ⟨h, 0, none⟩ = some (vp p) ∧ w'.cell? ⟨b2, 0, none⟩ = some (vi i) ∧ w'.cell? ⟨b2, 1, none⟩ = some (vu g)) (w1.alloc (elO ez)).drew := ⟨HA0.pull4.cell 0 rfl, HA0.pull3.cell 0 rfl, HA0.pull3.cell 1 rfl⟩
    generalize w1.heap.size = bn at HA0 ⊢
    generalize (w1.alloc (elO ez)).drew = w4 at HA0 hS4 ⊢
    refine hK.out _ _ hS4 (fun _ => ?_)
    try simp only [Act.put, List.setIfInBounds_toArray, List.set_cons_zero, List.set_cons_succ]
    refine wpAnyH_ready (rs := [5]) (by kernel_rfl) (by simp) ?_
    refine AllReadyH.cons rfl (fun K2 hK2 => ?_) AllReadyH.nil
    go_simp
    refine (HG.out _ _ (HA0.cast (show _ = tblP p ps free * (pc bn 29 (elC ez) * (gtB h p * (elB bx x * (pc b2 25 [vi i, vu g] * F)))) by ac_rfl))).mono ?_
    rintro e w5 ⟨rfl, hS2⟩
    have HA : Sat w0 (pc bn 29 (elC ez) * (elB bx x * (pc b2 25 [vi i, vu g] * (gtB h p * (tblP p ps free * F))))) w5 := hS2.cast (by ac_rfl)
    clear hS2
    have hS5 : (fun w' => w'.cell? ⟨h, 0, none⟩ = some (vp p) ∧ w'.cell? ⟨b2, 0, none⟩ = some (vi i) ∧ w'.cell? ⟨b2, 1, none⟩ = some (vu g)) w5 := ⟨HA.pull4.cell 0 rfl, HA.pull3.cell 0 rfl, HA.pull3.cell 1 rfl⟩
    refine hK2.out _ _ hS5 (fun _ => ?_)
    try simp only [Act.put, List.setIfInBounds_toArray, List.set_cons_zero, List.set_cons_succ]
    refine wpAnyH_take (i := 6) (v := (.tuple #[.agg cs.toArray, vi 0])) rfl (by kernel_rfl) (by kernel_rfl) (by kernel_rfl) (fun _ _ _ h => h) (Or.inl ⟨by rfl, fun w' hw' => by go_simp⟩) hS5 ?_
    simp only [Act.put, List.setIfInBounds_toArray, List.set_cons_zero, List.set_cons_succ]
    refine wpAnyH_take (i := 7) (v := (.agg cs.toArray)) rfl (by kernel_rfl) (by kernel_rfl) (by kernel_rfl) (fun _ _ _ h => h) (Or.inl ⟨by rfl, fun w' hw' => by go_simp⟩) hS5 ?_
    simp only [Act.put, List.setIfInBounds_toArray, List.set_cons_zero, List.set_cons_succ]
    refine wpAnyH_take (i := 8) (v := (vi 0)) rfl (by kernel_rfl) (by kernel_rfl) (by kernel_rfl) (fun _ _ _ h => h) (Or.inl ⟨by rfl, fun w' hw' => by go_simp⟩) hS5 ?_
    simp only [Act.put, List.setIfInBounds_toArray, List.set_cons_zero, List.set_cons_succ]
    refine wpAnyH_ready (rs := [10]) (by kernel_rfl) (by simp) ?_
    refine AllReadyH.cons rfl (fun K3 hK3 => ?_) AllReadyH.nil
    rw [if_pos (by rfl)]
    have hth : w5.there bn 0 cs.toArray.size := there_ (n := cs.length) HA (by rw [hlen]; rfl)
    have hst := HA.stores (elC y) 0
    rw [setL_full (elC ez) (elC y) rfl, ← HCS.out] at hst
    have hst : Sat w0 (pc bn 29 cs * (elB bx x * (pc b2 25 [vi i, vu g] * (gtB h p * (tblP p ps free * F))))) (w5.setCells bn 0 cs.toArray.toList) := hst
    refine wp_store_mid 29 _ _ rfl bn 0 cs.toArray (by rfl) (by rfl) hth hinfo hone ?_
    generalize w5.setCells bn 0 cs.toArray.toList = w6 at hst ⊢
    have hS6 : (fun w' => w'.cell? ⟨h, 0, none⟩ = some (vp p) ∧ w'.cell? ⟨b2, 0, none⟩ = some (vi i) ∧ w'.cell? ⟨b2, 1, none⟩ = some (vu g)) w6 := ⟨hst.pull4.cell 0 rfl, hst.pull3.cell 0 rfl, hst.pull3.cell 1 rfl⟩
    have H6 : Hid (Sat w0 (elB bn y * (elB bx x * (pc b2 25 [vi i, vu g] * (gtB h p * (tblP p ps free * F))))) w6) := Lib.hid (by rw [HCS.out] at hst; exact hst)
    clear hst hth
    refine hK3.out _ _ hS6 (fun _ => ?_)
    try simp only [Act.put, List.setIfInBounds_toArray, List.set_cons_zero, List.set_cons_succ]
    refine wpAnyH_take (i := 11) (v := (vi 0)) rfl (by kernel_rfl) (by kernel_rfl) (by kernel_rfl) (fun _ _ _ h => h) (Or.inl ⟨by rfl, fun w' hw' => by go_simp⟩) hS6 ?_
    simp only [Act.put, List.setIfInBounds_toArray, List.set_cons_zero, List.set_cons_succ]
    refine wpAnyH_done (by kernel_rfl) ?_ _
    clear hS0 hS4 hS5 hS6 hK hK2 hK3 HA HA0
    have c0 := H6.out.cell 0 rfl
    have c1 := H6.out.pull2.cell 0 rfl
    rw [hv] at c0
    clear hv
    go_wp2
    have g0 := H6.out.pull4.cell 0 rfl
    have i0 := H6.out.pull3.cell 0 rfl
    have i1 := H6.out.pull3.cell 1 rfl
    refine wp_quiet_tail 6 (by kernel_rfl) (by kernel_rfl) ?_
    simp only [List.take_succ_cons, List.take_zero, List.drop_succ_cons, List.drop_zero]
    iterate 5 (go_big_quiet_step (fail))
    refine wpQuiet_load_row (by rfl) 29 _ rfl bx 0 (by rfl) (elC x) _ (fun w' hw' => by subst hw'; exact range_ H6.out.drew.pull2) Try.underlying29 rfl einfo ?_
    refine wpQuiet_nil ?_
    go_wp2_with (go_at_call 42; refine (HSet.out _ _ (H6.out.drew.cast (show _ = tblP p ps free * (gtB h p * (elB bn y * (elB bx x * (pc b2 25 [vi i, vu g] * F)))) by ac_rfl))).mono ?_; rintro e w7 ⟨rfl, hS7⟩)
    go_ret
    exact ⟨rfl, (hS7.cast (show _ = elB bn y * (elB bx x * (pc b2 25 [vi i, vu g] * (gtB h p * (tblP p (setP ps i g x) free * F)))) by ac_rfl)).dropL.dropL.dropL⟩
end
end Go.Proofs.Ytffjckdaekamgaa.Gt
