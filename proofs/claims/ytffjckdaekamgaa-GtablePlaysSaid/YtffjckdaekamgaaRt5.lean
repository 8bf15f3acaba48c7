/-
  The reference of layer 16: Turn. No statement is proved here.
-/
import Derived.Test.YtffjckdaekamgaaRt4
import Derived.Test.YtffjckdaekamgaaGt4
namespace Go.Proofs.Ytffjckdaekamgaa.Gt
open Go.RowKit Ag
set_option linter.unusedVariables false
set_option linter.unusedSimpArgs false

section
variable {w0 w : World} {F : Hp} {q b cap : Nat} {ps : List Pl} {vF : Value}
set_option maxRecDepth 100000 in
set_option maxHeartbeats 4000000 in
theorem rt_turn_no (hS : Sat w0 (rtB q b ps.length cap vF * (rtL b cap ps * F)) w) (i g to : Int) (hA : isAt ps i g = none) : Calls Try.prog 27 #[vp q, vr i g, vi to] w fun e w' => e = .returned (vi 11) ∧ Sat w0 (rtB q b ps.length cap vF * (rtL b cap ps * F)) w' := by
  have hI2 := is_no hA
  clear hA
  have hB : Sat w0 (pc w.heap.size 25 [vi i, vu g] * (rtB q b ps.length cap vF * (rtL b cap ps * F))) (w.alloc (.cells #[vi i, vu g] 25)) := hS.alloc _
  have b0 := hB.cell 0 rfl
  have b1 := hB.cell 1 rfl
  have hI : Sat w0 (rtB q b ps.length cap vF * (rtL b cap ps * (pc w.heap.size 25 [vi i, vu g] * F))) (w.alloc (.cells #[vi i, vu g] 25)) := hB.cast (by ac_rfl)
  have HI := rt_is hI i g
  rw [hI2] at HI
  have HI := Lib.hid HI
  clear hS hI hI2 hB
  go_enter Try.func27, Try.ntmps27
  go_wp2_with (go_at_call 24; refine HI.out.mono ?_; rintro e w2 ⟨rfl, hS2⟩; have H2 := Lib.hid hS2; clear hS2)
  go_ret
  exact ⟨rfl, (H2.out.cast (show _ = pc w.heap.size 25 [vi i, vu g] * (rtB q b ps.length cap vF * (rtL b cap ps * F)) by ac_rfl)).dropL⟩
set_option maxRecDepth 100000 in
set_option maxHeartbeats 4000000 in
theorem rt_turn_state (hS : Sat w0 (rtB q b ps.length cap vF * (rtL b cap ps * F)) w) (i g to : Int) {k : Nat} {a : Pl} (hA : isAt ps i g = some (k, a)) (ht : turnB a.x.v0 to = false) : Calls Try.prog 27 #[vp q, vr i g, vi to] w fun e w' => e = .returned (vi 5) ∧ Sat w0 (rtB q b ps.length cap vF * (rtL b cap ps * F)) w' := by
  have hI2 := is_yes hA
  obtain ⟨ha, rfl, hz1, hz2⟩ := isAt_some hA
  clear hz1 hz2
  have hk2 : k < ps.length := (List.getElem?_eq_some_iff.1 ha).1
  have hki : (k : Int) < (ps.length : Int) := by omega
  have HK := Lib.hid ha
  clear hA ha
  have hB : Sat w0 (pc w.heap.size 25 [vi k, vu g] * (rtB q b ps.length cap vF * (rtL b cap ps * F))) (w.alloc (.cells #[vi k, vu g] 25)) := hS.alloc _
  have b0 := hB.cell 0 rfl
  have b1 := hB.cell 1 rfl
  have hI : Sat w0 (rtB q b ps.length cap vF * (rtL b cap ps * (pc w.heap.size 25 [vi k, vu g] * F))) (w.alloc (.cells #[vi k, vu g] 25)) := hB.cast (by ac_rfl)
  have HI := rt_is hI k g
  rw [hI2] at HI
  have HI := Lib.hid HI
  clear hS hI hI2 hB
  go_enter Try.func27, Try.ntmps27
  go_wp2_with (go_at_call 24; refine HI.out.mono ?_; rintro e w2 ⟨rfl, hS2⟩; have H2 := Lib.hid hS2; clear hS2)
  generalize w.heap.size = bx at *
  clear b0 b1 HI
  obtain ⟨cs, hcs⟩ : ∃ cs, cs = elC a.x := ⟨_, rfl⟩
  have hinfo : (Try.prog.info? 29).map (·.size) = some cs.length := by rw [hcs]; exact einfo
  have hone : cs.toArray.all (·.oneCell') = true := by rw [hcs]; exact all_oneCell_toArray (elOne _)
  have hlen : cs.length = 19 := by rw [hcs]; rfl
  have hS0 : (fun w' => w'.cell? ⟨q, 0, none⟩ = some (.slice (some ⟨b, 0, none⟩) ps.length cap) ∧ w'.cell? ⟨bx, 0, none⟩ = some (vi k) ∧ w'.rangeAt b (k * 21 + 2) cs) w2.drew := ⟨H2.out.drew.cell 0 rfl, H2.out.drew.pull3.cell 0 rfl, by rw [hcs]; exact slRangeG H2.out.drew.pull2 HK.out⟩
  have HA := Lib.hid (H2.out.alloc (elO ez)).drew
  have hS1 : (fun w' => w'.cell? ⟨q, 0, none⟩ = some (.slice (some ⟨b, 0, none⟩) ps.length cap) ∧ w'.cell? ⟨bx, 0, none⟩ = some (vi k) ∧ w'.rangeAt b (k * 21 + 2) cs) ((w2.alloc (elO ez)).drew) := ⟨HA.out.pull2.cell 0 rfl, HA.out.pull4.cell 0 rfl, by rw [hcs]; exact slRangeG HA.out.pull3 HK.out⟩
  have HCS := Lib.hid hcs
  clear hcs
  refine wp_region_held (S := fun w' => w'.cell? ⟨q, 0, none⟩ = some (.slice (some ⟨b, 0, none⟩) ps.length cap) ∧ w'.cell? ⟨bx, 0, none⟩ = some (vi k) ∧ w'.rangeAt b (k * 21 + 2) cs) (by kernel_rfl) ?_
  change wpAnyH _ _ _ _ _ _ _ _ (World.drew _)
  refine wpAnyH_take (i := 0) (v := vp q) rfl (by kernel_rfl) (by kernel_rfl) (by kernel_rfl) (fun _ _ _ h => h) (Or.inl ⟨by rfl, fun w' hw' => by go_simp⟩) hS0 ?_
  simp only [Act.put, List.setIfInBounds_toArray, List.set_cons_zero, List.set_cons_succ]
  refine wpAnyH_take (i := 1) (v := vp q) rfl (by kernel_rfl) (by kernel_rfl) (by kernel_rfl) (fun _ _ _ h => h) (Or.inl ⟨by rfl, fun w' hw' => by go_simp⟩) hS0 ?_
  simp only [Act.put, List.setIfInBounds_toArray, List.set_cons_zero, List.set_cons_succ]
  refine wpAnyH_take (i := 2) (v := vp q) rfl (by kernel_rfl) (by kernel_rfl) (by kernel_rfl) (fun _ _ _ h => h) (Or.inl ⟨by rfl, fun w' hw' => by go_simp⟩) hS0 ?_
  simp only [Act.put, List.setIfInBounds_toArray, List.set_cons_zero, List.set_cons_succ]
  refine wpAnyH_take (i := 3) (v := (.slice (some ⟨b, 0, none⟩) ps.length cap)) rfl (by kernel_rfl) (by kernel_rfl) (by kernel_rfl) (fun _ _ _ h => h) (Or.inl ⟨by rfl, fun w' hw' => by (have h1 := hw'.1; go_simp)⟩) hS0 ?_
  simp only [Act.put, List.setIfInBounds_toArray, List.set_cons_zero, List.set_cons_succ]
  refine wpAnyH_take (i := 4) (v := vp bx) rfl (by kernel_rfl) (by kernel_rfl) (by kernel_rfl) (fun _ _ _ h => h) (Or.inl ⟨by rfl, fun w' hw' => by go_simp⟩) hS0 ?_
  simp only [Act.put, List.setIfInBounds_toArray, List.set_cons_zero, List.set_cons_succ]
  refine wpAnyH_take (i := 5) (v := vi k) rfl (by kernel_rfl) (by kernel_rfl) (by kernel_rfl) (fun _ _ _ h => h) (Or.inl ⟨by rfl, fun w' hw' => by (have h1 := hw'.2.1; go_simp)⟩) hS0 ?_
  simp only [Act.put, List.setIfInBounds_toArray, List.set_cons_zero, List.set_cons_succ]
  refine wpAnyH_take (i := 6) (v := (.pointer (some ⟨b, k * 21, none⟩))) rfl (by kernel_rfl) (by kernel_rfl) (by kernel_rfl) (fun _ _ _ h => h) (Or.inl ⟨by rfl, fun w' hw' => by go_simp⟩) hS0 ?_
  simp only [Act.put, List.setIfInBounds_toArray, List.set_cons_zero, List.set_cons_succ]
  refine wpAnyH_take (i := 7) (v := (.pointer (some ⟨b, k * 21 + 2, none⟩))) rfl (by kernel_rfl) (by kernel_rfl) (by kernel_rfl) (fun _ _ _ h => h) (Or.inl ⟨by rfl, fun w' hw' => by go_simp⟩) hS0 ?_
  simp only [Act.put, List.setIfInBounds_toArray, List.set_cons_zero, List.set_cons_succ]
  refine wpAnyH_take (i := 8) rfl (by kernel_rfl) (by kernel_rfl) (by kernel_rfl) (fun _ _ _ h => h) (yieldsIf_load_mid (by rfl) 29 _ rfl b (k * 21 + 2) (by rfl) cs _ (fun w' hw' => hw'.2.2) Try.underlying29 rfl hinfo) hS0 ?_
  simp only [Act.put, List.setIfInBounds_toArray, List.set_cons_zero, List.set_cons_succ]
  refine wpAnyH_ready (rs := [9]) (by kernel_rfl) (by simp) ?_
  refine AllReadyH.cons rfl (fun K hK => ?_) AllReadyH.nil
  go_simp
  have HA2 : Sat w0 (pc w2.heap.size 29 (elC ez) * (rtB q b ps.length cap vF * (rtL b cap ps * (pc bx 25 [vi k, vu g] * F)))) ((w2.alloc (elO ez)).drew) := HA.out
  generalize w2.heap.size = bn at HA2 ⊢
  generalize (w2.alloc (elO ez)).drew = w5 at HA2 hS1 ⊢
  refine hK.out _ _ hS1 (fun _ => ?_)
  try simp only [Act.put, List.setIfInBounds_toArray, List.set_cons_zero, List.set_cons_succ]
  refine wpAnyH_ready (rs := [10]) (by kernel_rfl) (by simp) ?_
  refine AllReadyH.cons rfl (fun K' hK' => ?_) AllReadyH.nil
  rw [if_pos (by rfl)]
  have hth : w5.there bn 0 cs.toArray.size := there_ (n := cs.length) HA2 (by rw [hlen]; rfl)
  have hst := HA2.stores (elC a.x) 0
  rw [setL_full (elC ez) (elC a.x) rfl, ← HCS.out] at hst
  have hst : Sat w0 (pc bn 29 cs * (rtB q b ps.length cap vF * (rtL b cap ps * (pc bx 25 [vi k, vu g] * F)))) (w5.setCells bn 0 cs.toArray.toList) := hst
  refine wp_store_mid 29 _ _ rfl bn 0 cs.toArray (by rfl) (by rfl) hth hinfo hone ?_
  generalize w5.setCells bn 0 cs.toArray.toList = w3 at hst ⊢
  have hS3 : (fun w' => w'.cell? ⟨q, 0, none⟩ = some (.slice (some ⟨b, 0, none⟩) ps.length cap) ∧ w'.cell? ⟨bx, 0, none⟩ = some (vi k) ∧ w'.rangeAt b (k * 21 + 2) cs) w3 := ⟨hst.pull2.cell 0 rfl, hst.pull4.cell 0 rfl, by rw [HCS.out]; exact slRangeG hst.pull3 HK.out⟩
  have H3 : Hid (Sat w0 (elB bn a.x * (rtB q b ps.length cap vF * (rtL b cap ps * (pc bx 25 [vi k, vu g] * F)))) w3) := Lib.hid (by rw [HCS.out] at hst; exact hst)
  clear hst hth
  refine hK'.out _ _ hS3 (fun _ => ?_)
  try simp only [Act.put, List.setIfInBounds_toArray, List.set_cons_zero, List.set_cons_succ]
  refine wpAnyH_done (by kernel_rfl) ?_ _
  clear hS0 hS1 hS3 hK hK' HA HA2 H2
  have HT := Lib.hid (fun w1 => r_turns a.x.v0 to w1)
  rw [ht] at HT
  have x0 := H3.out.cell 0 rfl
  go_wp2_with (go_at_call 9; refine (HT.out _).mono ?_; rintro e w4 ⟨rfl, rfl⟩)
  go_ret
  exact ⟨rfl, (H3.out.cast (show _ = elB bn a.x * (pc bx 25 [vi k, vu g] * (rtB q b ps.length cap vF * (rtL b cap ps * F))) by ac_rfl)).dropL.dropL⟩
set_option maxRecDepth 100000 in
set_option maxHeartbeats 4000000 in
theorem rt_turn_ok (hS : Sat w0 (rtB q b ps.length cap vF * (rtL b cap ps * F)) w) (i g to : Int) {k : Nat} {a : Pl} (hA : isAt ps i g = some (k, a)) (ht : turnB a.x.v0 to = true) : Calls Try.prog 27 #[vp q, vr i g, vi to] w fun e w' => e = .returned (vi 0) ∧ Sat w0 (rtB q b (ps.set k { a with x := turnX a.x to }).length cap vF * (rtL b cap (ps.set k { a with x := turnX a.x to }) * F)) w' := by
  have hI2 := is_yes hA
  obtain ⟨ha, rfl, hz1, hz2⟩ := isAt_some hA
  clear hz1 hz2
  have hk2 : k < ps.length := (List.getElem?_eq_some_iff.1 ha).1
  have hki : (k : Int) < (ps.length : Int) := by omega
  have HK := Lib.hid ha
  clear hA ha
  have hB : Sat w0 (pc w.heap.size 25 [vi k, vu g] * (rtB q b ps.length cap vF * (rtL b cap ps * F))) (w.alloc (.cells #[vi k, vu g] 25)) := hS.alloc _
  have b0 := hB.cell 0 rfl
  have b1 := hB.cell 1 rfl
  have hI : Sat w0 (rtB q b ps.length cap vF * (rtL b cap ps * (pc w.heap.size 25 [vi k, vu g] * F))) (w.alloc (.cells #[vi k, vu g] 25)) := hB.cast (by ac_rfl)
  have HI := rt_is hI k g
  rw [hI2] at HI
  have HI := Lib.hid HI
  clear hS hI hI2 hB
  go_enter Try.func27, Try.ntmps27
  go_wp2_with (go_at_call 24; refine HI.out.mono ?_; rintro e w2 ⟨rfl, hS2⟩; have H2 := Lib.hid hS2; clear hS2)
  generalize w.heap.size = bx at *
  clear b0 b1 HI
  obtain ⟨cs, hcs⟩ : ∃ cs, cs = elC a.x := ⟨_, rfl⟩
  have hinfo : (Try.prog.info? 29).map (·.size) = some cs.length := by rw [hcs]; exact einfo
  have hone : cs.toArray.all (·.oneCell') = true := by rw [hcs]; exact all_oneCell_toArray (elOne _)
  have hlen : cs.length = 19 := by rw [hcs]; rfl
  have hS0 : (fun w' => w'.cell? ⟨q, 0, none⟩ = some (.slice (some ⟨b, 0, none⟩) ps.length cap) ∧ w'.cell? ⟨bx, 0, none⟩ = some (vi k) ∧ w'.rangeAt b (k * 21 + 2) cs) w2.drew := ⟨H2.out.drew.cell 0 rfl, H2.out.drew.pull3.cell 0 rfl, by rw [hcs]; exact slRangeG H2.out.drew.pull2 HK.out⟩
  have HA := Lib.hid (H2.out.alloc (elO ez)).drew
  have hS1 : (fun w' => w'.cell? ⟨q, 0, none⟩ = some (.slice (some ⟨b, 0, none⟩) ps.length cap) ∧ w'.cell? ⟨bx, 0, none⟩ = some (vi k) ∧ w'.rangeAt b (k * 21 + 2) cs) ((w2.alloc (elO ez)).drew) := ⟨HA.out.pull2.cell 0 rfl, HA.out.pull4.cell 0 rfl, by rw [hcs]; exact slRangeG HA.out.pull3 HK.out⟩
  have HCS := Lib.hid hcs
  clear hcs
  refine wp_region_held (S := fun w' => w'.cell? ⟨q, 0, none⟩ = some (.slice (some ⟨b, 0, none⟩) ps.length cap) ∧ w'.cell? ⟨bx, 0, none⟩ = some (vi k) ∧ w'.rangeAt b (k * 21 + 2) cs) (by kernel_rfl) ?_
  change wpAnyH _ _ _ _ _ _ _ _ (World.drew _)
  refine wpAnyH_take (i := 0) (v := vp q) rfl (by kernel_rfl) (by kernel_rfl) (by kernel_rfl) (fun _ _ _ h => h) (Or.inl ⟨by rfl, fun w' hw' => by go_simp⟩) hS0 ?_
  simp only [Act.put, List.setIfInBounds_toArray, List.set_cons_zero, List.set_cons_succ]
  refine wpAnyH_take (i := 1) (v := vp q) rfl (by kernel_rfl) (by kernel_rfl) (by kernel_rfl) (fun _ _ _ h => h) (Or.inl ⟨by rfl, fun w' hw' => by go_simp⟩) hS0 ?_
  simp only [Act.put, List.setIfInBounds_toArray, List.set_cons_zero, List.set_cons_succ]
  refine wpAnyH_take (i := 2) (v := vp q) rfl (by kernel_rfl) (by kernel_rfl) (by kernel_rfl) (fun _ _ _ h => h) (Or.inl ⟨by rfl, fun w' hw' => by go_simp⟩) hS0 ?_
  simp only [Act.put, List.setIfInBounds_toArray, List.set_cons_zero, List.set_cons_succ]
  refine wpAnyH_take (i := 3) (v := (.slice (some ⟨b, 0, none⟩) ps.length cap)) rfl (by kernel_rfl) (by kernel_rfl) (by kernel_rfl) (fun _ _ _ h => h) (Or.inl ⟨by rfl, fun w' hw' => by (have h1 := hw'.1; go_simp)⟩) hS0 ?_
  simp only [Act.put, List.setIfInBounds_toArray, List.set_cons_zero, List.set_cons_succ]
  refine wpAnyH_take (i := 4) (v := vp bx) rfl (by kernel_rfl) (by kernel_rfl) (by kernel_rfl) (fun _ _ _ h => h) (Or.inl ⟨by rfl, fun w' hw' => by go_simp⟩) hS0 ?_
  simp only [Act.put, List.setIfInBounds_toArray, List.set_cons_zero, List.set_cons_succ]
  refine wpAnyH_take (i := 5) (v := vi k) rfl (by kernel_rfl) (by kernel_rfl) (by kernel_rfl) (fun _ _ _ h => h) (Or.inl ⟨by rfl, fun w' hw' => by (have h1 := hw'.2.1; go_simp)⟩) hS0 ?_
  simp only [Act.put, List.setIfInBounds_toArray, List.set_cons_zero, List.set_cons_succ]
  refine wpAnyH_take (i := 6) (v := (.pointer (some ⟨b, k * 21, none⟩))) rfl (by kernel_rfl) (by kernel_rfl) (by kernel_rfl) (fun _ _ _ h => h) (Or.inl ⟨by rfl, fun w' hw' => by go_simp⟩) hS0 ?_
  simp only [Act.put, List.setIfInBounds_toArray, List.set_cons_zero, List.set_cons_succ]
  refine wpAnyH_take (i := 7) (v := (.pointer (some ⟨b, k * 21 + 2, none⟩))) rfl (by kernel_rfl) (by kernel_rfl) (by kernel_rfl) (fun _ _ _ h => h) (Or.inl ⟨by rfl, fun w' hw' => by go_simp⟩) hS0 ?_
  simp only [Act.put, List.setIfInBounds_toArray, List.set_cons_zero, List.set_cons_succ]
  refine wpAnyH_take (i := 8) rfl (by kernel_rfl) (by kernel_rfl) (by kernel_rfl) (fun _ _ _ h => h) (yieldsIf_load_mid (by rfl) 29 _ rfl b (k * 21 + 2) (by rfl) cs _ (fun w' hw' => hw'.2.2) Try.underlying29 rfl hinfo) hS0 ?_
  simp only [Act.put, List.setIfInBounds_toArray, List.set_cons_zero, List.set_cons_succ]
  refine wpAnyH_ready (rs := [9]) (by kernel_rfl) (by simp) ?_
  refine AllReadyH.cons rfl (fun K hK => ?_) AllReadyH.nil
  go_simp
  have HA2 : Sat w0 (pc w2.heap.size 29 (elC ez) * (rtB q b ps.length cap vF * (rtL b cap ps * (pc bx 25 [vi k, vu g] * F)))) ((w2.alloc (elO ez)).drew) := HA.out
  generalize w2.heap.size = bn at HA2 ⊢
  generalize (w2.alloc (elO ez)).drew = w5 at HA2 hS1 ⊢
  refine hK.out _ _ hS1 (fun _ => ?_)
  try simp only [Act.put, List.setIfInBounds_toArray, List.set_cons_zero, List.set_cons_succ]
  refine wpAnyH_ready (rs := [10]) (by kernel_rfl) (by simp) ?_
  refine AllReadyH.cons rfl (fun K' hK' => ?_) AllReadyH.nil
  rw [if_pos (by rfl)]
  have hth : w5.there bn 0 cs.toArray.size := there_ (n := cs.length) HA2 (by rw [hlen]; rfl)
  have hst := HA2.stores (elC a.x) 0
  rw [setL_full (elC ez) (elC a.x) rfl, ← HCS.out] at hst
  have hst : Sat w0 (pc bn 29 cs * (rtB q b ps.length cap vF * (rtL b cap ps * (pc bx 25 [vi k, vu g] * F)))) (w5.setCells bn 0 cs.toArray.toList) := hst
  refine wp_store_mid 29 _ _ rfl bn 0 cs.toArray (by rfl) (by rfl) hth hinfo hone ?_
  generalize w5.setCells bn 0 cs.toArray.toList = w3 at hst ⊢
  have hS3 : (fun w' => w'.cell? ⟨q, 0, none⟩ = some (.slice (some ⟨b, 0, none⟩) ps.length cap) ∧ w'.cell? ⟨bx, 0, none⟩ = some (vi k) ∧ w'.rangeAt b (k * 21 + 2) cs) w3 := ⟨hst.pull2.cell 0 rfl, hst.pull4.cell 0 rfl, by rw [HCS.out]; exact slRangeG hst.pull3 HK.out⟩
  have H3 : Hid (Sat w0 (elB bn a.x * (rtB q b ps.length cap vF * (rtL b cap ps * (pc bx 25 [vi k, vu g] * F)))) w3) := Lib.hid (by rw [HCS.out] at hst; exact hst)
  clear hst hth
  refine hK'.out _ _ hS3 (fun _ => ?_)
  try simp only [Act.put, List.setIfInBounds_toArray, List.set_cons_zero, List.set_cons_succ]
  refine wpAnyH_done (by kernel_rfl) ?_ _
  clear hS0 hS1 hS3 hK hK' HA HA2 H2
  have HT := Lib.hid (fun w1 => r_turns a.x.v0 to w1)
  rw [ht] at HT
  have q0 := H3.out.cell 0 rfl
  have q1 := H3.out.cell 1 rfl
  have q18 := H3.out.cell 18 rfl
  have f0 := H3.out.free 0
  have f1 := H3.out.free 1
  have f18 := H3.out.free 18
  clear ht
  by_cases t5 : to = 5
  · subst t5
    go_wp2_with (go_at_call 9; refine (HT.out _).mono ?_; rintro e w4 ⟨rfl, rfl⟩)
    obtain ⟨x2, hx2⟩ : ∃ x2 : El, x2 = ({ a.x with v0 := 5, v1 := true, v18 := 0 } : El) := ⟨_, rfl⟩
    have ex : Hid (turnX a.x 5 = x2) := Lib.hid (by rw [hx2]; simp [turnX])
    have hW : Sat w0 (elB bn x2 * (rtB q b ps.length cap vF * (rtL b cap ps * (pc bx 25 [vi k, vu g] * F)))) (((w3.setCell ⟨bn, 0, none⟩ (vi 5)).setCell ⟨bn, 18, none⟩ (vu 0)).setCell ⟨bn, 1, none⟩ (.bool true)) := by
      rw [hx2]
      exact ((H3.out.store 0 (vi 5)).store 18 (vu 0)).store 1 (.bool true)
    clear hx2
    generalize (((w3.setCell ⟨bn, 0, none⟩ (vi 5)).setCell ⟨bn, 18, none⟩ (vu 0)).setCell ⟨bn, 1, none⟩ (.bool true)) = w6 at *
    clear q0 q1 q18 f0 f1 f18
    have c4 := hW.pull2.cell 0 rfl
    have b4 := hW.pull4.cell 0 rfl
    have HTh := Lib.hid (slTherePl hW.drew.pull3 HK.out 2 19 (by omega))
    have hst := storeG hW.drew.pull3 HK.out rfl x2
    have HST : Hid (Sat w0 _ (w6.drew.setCells b (k * 21 + 2) (elC x2).toArray.toList)) := Lib.hid hst
    have HW := Lib.hid hW
    clear hW hst
    refine wp_quiet_tail 7 (by kernel_rfl) (by kernel_rfl) ?_
    simp only [List.take_succ_cons, List.take_zero, List.drop_succ_cons, List.drop_zero]
    iterate 6 (go_big_quiet_step (fail))
    refine wpQuiet_load_row (by rfl) 29 _ rfl bn 0 (by rfl) (elC x2) _ (fun w' hw' => by subst hw'; exact range_ HW.out.drew) Try.underlying29 rfl einfo ?_
    refine wpQuiet_nil ?_
    go_wp2_with (refine wpList_store_mid rfl 29 _ _ rfl b (k * 21 + 2) (elC x2).toArray (by rfl) (by rfl) HTh.out einfo (all_oneCell_toArray (elOne _)) ?_; generalize World.setCells _ _ _ _ = W2 at *)
    go_ret
    refine ⟨rfl, ?_⟩
    rw [ex.out]
    have hl : ∀ y : Pl, (ps.set k y).length = ps.length := fun y => List.length_set
    unfold rtL
    rw [hl]
    refine Sat.dropL (A := elB bn x2 * pc bx 25 [vi k, vu g]) (HST.out.cast ?_)
    ac_rfl
  · have g5 : (to == 5) = false := beq_eq_false_iff_ne.2 t5
    by_cases t1 : to = 1
    · subst t1
      go_wp2_with (go_at_call 9; refine (HT.out _).mono ?_; rintro e w4 ⟨rfl, rfl⟩)
      obtain ⟨x2, hx2⟩ : ∃ x2 : El, x2 = ({ a.x with v0 := 1, v1 := false, v18 := 0 } : El) := ⟨_, rfl⟩
      have ex : Hid (turnX a.x 1 = x2) := Lib.hid (by rw [hx2]; simp [turnX])
      have hW : Sat w0 (elB bn x2 * (rtB q b ps.length cap vF * (rtL b cap ps * (pc bx 25 [vi k, vu g] * F)))) (((w3.setCell ⟨bn, 0, none⟩ (vi 1)).setCell ⟨bn, 18, none⟩ (vu 0)).setCell ⟨bn, 1, none⟩ (.bool false)) := by
        rw [hx2]
        exact ((H3.out.store 0 (vi 1)).store 18 (vu 0)).store 1 (.bool false)
      clear hx2
      generalize (((w3.setCell ⟨bn, 0, none⟩ (vi 1)).setCell ⟨bn, 18, none⟩ (vu 0)).setCell ⟨bn, 1, none⟩ (.bool false)) = w6 at *
      clear q0 q1 q18 f0 f1 f18
      have c4 := hW.pull2.cell 0 rfl
      have b4 := hW.pull4.cell 0 rfl
      have HTh := Lib.hid (slTherePl hW.drew.pull3 HK.out 2 19 (by omega))
      have hst := storeG hW.drew.pull3 HK.out rfl x2
      have HST : Hid (Sat w0 _ (w6.drew.setCells b (k * 21 + 2) (elC x2).toArray.toList)) := Lib.hid hst
      have HW := Lib.hid hW
      clear hW hst
      refine wp_quiet_tail 7 (by kernel_rfl) (by kernel_rfl) ?_
      simp only [List.take_succ_cons, List.take_zero, List.drop_succ_cons, List.drop_zero]
      iterate 6 (go_big_quiet_step (fail))
      refine wpQuiet_load_row (by rfl) 29 _ rfl bn 0 (by rfl) (elC x2) _ (fun w' hw' => by subst hw'; exact range_ HW.out.drew) Try.underlying29 rfl einfo ?_
      refine wpQuiet_nil ?_
      go_wp2_with (refine wpList_store_mid rfl 29 _ _ rfl b (k * 21 + 2) (elC x2).toArray (by rfl) (by rfl) HTh.out einfo (all_oneCell_toArray (elOne _)) ?_; generalize World.setCells _ _ _ _ = W2 at *)
      go_ret
      refine ⟨rfl, ?_⟩
      rw [ex.out]
      have hl : ∀ y : Pl, (ps.set k y).length = ps.length := fun y => List.length_set
      unfold rtL
      rw [hl]
      refine Sat.dropL (A := elB bn x2 * pc bx 25 [vi k, vu g]) (HST.out.cast ?_)
      ac_rfl
    · have g1 : (to == 1) = false := beq_eq_false_iff_ne.2 t1
      by_cases t2 : to = 2
      · subst t2
        go_wp2_with (go_at_call 9; refine (HT.out _).mono ?_; rintro e w4 ⟨rfl, rfl⟩)
        obtain ⟨x2, hx2⟩ : ∃ x2 : El, x2 = ({ a.x with v0 := 2, v1 := false, v18 := 0 } : El) := ⟨_, rfl⟩
        have ex : Hid (turnX a.x 2 = x2) := Lib.hid (by rw [hx2]; simp [turnX])
        have hW : Sat w0 (elB bn x2 * (rtB q b ps.length cap vF * (rtL b cap ps * (pc bx 25 [vi k, vu g] * F)))) (((w3.setCell ⟨bn, 0, none⟩ (vi 2)).setCell ⟨bn, 18, none⟩ (vu 0)).setCell ⟨bn, 1, none⟩ (.bool false)) := by
          rw [hx2]
          exact ((H3.out.store 0 (vi 2)).store 18 (vu 0)).store 1 (.bool false)
        clear hx2
        generalize (((w3.setCell ⟨bn, 0, none⟩ (vi 2)).setCell ⟨bn, 18, none⟩ (vu 0)).setCell ⟨bn, 1, none⟩ (.bool false)) = w6 at *
        clear q0 q1 q18 f0 f1 f18
        have c4 := hW.pull2.cell 0 rfl
        have b4 := hW.pull4.cell 0 rfl
        have HTh := Lib.hid (slTherePl hW.drew.pull3 HK.out 2 19 (by omega))
        have hst := storeG hW.drew.pull3 HK.out rfl x2
        have HST : Hid (Sat w0 _ (w6.drew.setCells b (k * 21 + 2) (elC x2).toArray.toList)) := Lib.hid hst
        have HW := Lib.hid hW
        clear hW hst
        refine wp_quiet_tail 7 (by kernel_rfl) (by kernel_rfl) ?_
        simp only [List.take_succ_cons, List.take_zero, List.drop_succ_cons, List.drop_zero]
        iterate 6 (go_big_quiet_step (fail))
        refine wpQuiet_load_row (by rfl) 29 _ rfl bn 0 (by rfl) (elC x2) _ (fun w' hw' => by subst hw'; exact range_ HW.out.drew) Try.underlying29 rfl einfo ?_
        refine wpQuiet_nil ?_
        go_wp2_with (refine wpList_store_mid rfl 29 _ _ rfl b (k * 21 + 2) (elC x2).toArray (by rfl) (by rfl) HTh.out einfo (all_oneCell_toArray (elOne _)) ?_; generalize World.setCells _ _ _ _ = W2 at *)
        go_ret
        refine ⟨rfl, ?_⟩
        rw [ex.out]
        have hl : ∀ y : Pl, (ps.set k y).length = ps.length := fun y => List.length_set
        unfold rtL
        rw [hl]
        refine Sat.dropL (A := elB bn x2 * pc bx 25 [vi k, vu g]) (HST.out.cast ?_)
        ac_rfl
      · have g2 : (to == 2) = false := beq_eq_false_iff_ne.2 t2
        go_wp2_with (go_at_call 9; refine (HT.out _).mono ?_; rintro e w4 ⟨rfl, rfl⟩)
        obtain ⟨x2, hx2⟩ : ∃ x2 : El, x2 = ({ a.x with v0 := to, v1 := a.x.v1, v18 := 0 } : El) := ⟨_, rfl⟩
        have ex : Hid (turnX a.x to = x2) := Lib.hid (by rw [hx2]; simp [turnX, t5, t1, t2])
        have hW : Sat w0 (elB bn x2 * (rtB q b ps.length cap vF * (rtL b cap ps * (pc bx 25 [vi k, vu g] * F)))) ((w3.setCell ⟨bn, 0, none⟩ (vi to)).setCell ⟨bn, 18, none⟩ (vu 0)) := by
          rw [hx2]
          exact (H3.out.store 0 (vi to)).store 18 (vu 0)
        clear hx2
        generalize ((w3.setCell ⟨bn, 0, none⟩ (vi to)).setCell ⟨bn, 18, none⟩ (vu 0)) = w6 at *
        clear q0 q1 q18 f0 f1 f18
        have c4 := hW.pull2.cell 0 rfl
        have b4 := hW.pull4.cell 0 rfl
        have HTh := Lib.hid (slTherePl hW.drew.pull3 HK.out 2 19 (by omega))
        have hst := storeG hW.drew.pull3 HK.out rfl x2
        have HST : Hid (Sat w0 _ (w6.drew.setCells b (k * 21 + 2) (elC x2).toArray.toList)) := Lib.hid hst
        have HW := Lib.hid hW
        clear hW hst
        refine wp_quiet_tail 7 (by kernel_rfl) (by kernel_rfl) ?_
        simp only [List.take_succ_cons, List.take_zero, List.drop_succ_cons, List.drop_zero]
        iterate 6 (go_big_quiet_step (fail))
        refine wpQuiet_load_row (by rfl) 29 _ rfl bn 0 (by rfl) (elC x2) _ (fun w' hw' => by subst hw'; exact range_ HW.out.drew) Try.underlying29 rfl einfo ?_
        refine wpQuiet_nil ?_
        go_wp2_with (refine wpList_store_mid rfl 29 _ _ rfl b (k * 21 + 2) (elC x2).toArray (by rfl) (by rfl) HTh.out einfo (all_oneCell_toArray (elOne _)) ?_; generalize World.setCells _ _ _ _ = W2 at *)
        go_ret
        refine ⟨rfl, ?_⟩
        rw [ex.out]
        have hl : ∀ y : Pl, (ps.set k y).length = ps.length := fun y => List.length_set
        unfold rtL
        rw [hl]
        refine Sat.dropL (A := elB bn x2 * pc bx 25 [vi k, vu g]) (HST.out.cast ?_)
        ac_rfl
end
end Go.Proofs.Ytffjckdaekamgaa.Gt
