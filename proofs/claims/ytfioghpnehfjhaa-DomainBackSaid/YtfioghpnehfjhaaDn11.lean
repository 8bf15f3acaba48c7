/-
  Package domain: Merge. No statement is proved here.
-/
import Derived.Test.YtfioghpnehfjhaaDn9
import Derived.Test.YtfioghpnehfjhaaDa6
namespace Go.Proofs.Ytfioghpnehfjhaa.Dm
open Go.RowKit Ad
set_option linter.unusedVariables false
set_option linter.unusedSimpArgs false

abbrev mrgX (y x : El) : El := { y with v5 := y.v5 - x.v2, v6 := y.v6 - x.v3, v10 := y.v10 - 1 }
section
variable {w0 w : World} {F : Hp} {h p : Nat} {ps : List Pl} {free : List Nat}
set_option maxRecDepth 100000 in
set_option maxHeartbeats 2000000 in
theorem merge_stale (hS : Sat w0 (domB h p * (tblP p ps free * F)) w) (i g : Int) (he : getE ps i g = 11) :
    Calls Try.prog 26 #[vp h, vr i g] w fun e w' => e = .returned (vi 11) ∧ Sat w0 (domB h p * (tblP p ps free * F)) w' := by
  have hB0 : Sat w0 (pc w.heap.size 32 [vi i, vu g] * (domB h p * (tblP p ps free * F))) (w.alloc (.cells #[vi i, vu g] 32)) := hS.alloc (.cells #[vi i, vu g] 32)
  have b0 := hB0.cell 0 rfl
  have b1 := hB0.cell 1 rfl
  have hB : Sat w0 (domB h p * (tblP p ps free * (pc w.heap.size 32 [vi i, vu g] * F))) (w.alloc (.cells #[vi i, vu g] 32)) := hB0.cast (by ac_rfl)
  have HG := Lib.hid (dm_get hB i g)
  rw [he] at HG
  clear hS hB hB0 he
  generalize getX ps i g = x at *
  obtain ⟨v0, v1, v2, v3, v4, v5, v6, v7, v8, v9, v10⟩ := x
  go_enter Try.func26, Try.ntmps26
  go_wp2_with (first
    | (go_at_call 16; refine HG.out.mono ?_; rintro e w1 ⟨rfl, hS1⟩; have hA := hS1.alloc (elO ez); have HTh := Lib.hid (there_ (n := 11) hA rfl); have HA := Lib.hid hA; clear hA hS1)
    | (refine wpList_store_mid rfl 45 _ _ rfl w1.heap.size 0 (elC ⟨v0, v1, v2, v3, v4, v5, v6, v7, v8, v9, v10⟩).toArray (by rfl) (by rfl) HTh.out einfo (all_oneCell_toArray (elOne _)) ?_; have hs := HA.out.stores (elC ⟨v0, v1, v2, v3, v4, v5, v6, v7, v8, v9, v10⟩) 0; rw [setL_full (elC ez) (elC ⟨v0, v1, v2, v3, v4, v5, v6, v7, v8, v9, v10⟩) rfl] at hs; have HS := Lib.hid hs; have HS : Hid (Sat w0 _ ((w1.alloc (elO ez)).setCells w1.heap.size 0 (elC ⟨v0, v1, v2, v3, v4, v5, v6, v7, v8, v9, v10⟩).toArray.toList)) := HS; clear hs; generalize World.setCells _ _ _ _ = w2 at *))
  go_ret
  exact ⟨rfl, (HS.out.cast (show _ = pc w1.heap.size 45 (elC ⟨v0, v1, v2, v3, v4, v5, v6, v7, v8, v9, v10⟩) * (pc w.heap.size 32 [vi i, vu g] * (domB h p * (tblP p ps free * F))) by (try unfold elB); ac_rfl)).dropL.dropL⟩
set_option maxRecDepth 100000 in
set_option maxHeartbeats 2000000 in
theorem merge1_ {b bx : Nat} {y x : El} (hS : Sat w0 (elB b y * (elB bx x * F)) w) (h5 : IntKind.i64.wrap (y.v5 - x.v2) = y.v5 - x.v2) (h6 : IntKind.u64.wrap (y.v6 - x.v3) = y.v6 - x.v3) (h10 : IntKind.i64.wrap (y.v10 - 1) = y.v10 - 1) :
    Calls Try.prog 59 #[vp b, vp bx] w fun e w' => (∃ v, e = .returned v) ∧ Sat w0 (elB b (mrgX y x) * (elB bx x * F)) w' := by
  obtain ⟨y0, y1, y2, y3, y4, y5, y6, y7, y8, y9, y10⟩ := y
  obtain ⟨v0, v1, v2, v3, v4, v5, v6, v7, v8, v9, v10⟩ := x
  simp only at h5 h6 h10
  have c5 := hS.cell 5 rfl
  have f5 := hS.free 5
  have cg := hS.pull2.cell 2 rfl
  have hS1 := hS.store 5 (vi (y5 - v2))
  have c6 := hS1.cell 6 rfl
  have f6 := hS1.free 6
  have cc := hS1.pull2.cell 3 rfl
  have hS2 := hS1.store 6 (vu (y6 - v3))
  have c10 := hS2.cell 10 rfl
  have f10 := hS2.free 10
  have hS3 := hS2.store 10 (vi (y10 - 1))
  have HST : Hid (Sat w0 (elB b (mrgX ⟨y0, y1, y2, y3, y4, y5, y6, y7, y8, y9, y10⟩ ⟨v0, v1, v2, v3, v4, v5, v6, v7, v8, v9, v10⟩) * (elB bx ⟨v0, v1, v2, v3, v4, v5, v6, v7, v8, v9, v10⟩ * F)) _) := Lib.hid hS3
  clear hS hS1 hS2 hS3
  go_enter Try.func59, Try.ntmps59
  go_wp2
  refine wp_quiet_tail 7 (by kernel_rfl) (by kernel_rfl) ?_
  simp only [List.take_succ_cons, List.take_zero, List.drop_succ_cons, List.drop_zero]
  repeat (go_big_quiet_step (fail))
  refine wpQuiet_nil ?_
  go_wp2
  refine wp_quiet_tail 7 (by kernel_rfl) (by kernel_rfl) ?_
  simp only [List.take_succ_cons, List.take_zero, List.drop_succ_cons, List.drop_zero]
  repeat (go_big_quiet_step (fail))
  refine wpQuiet_nil ?_
  go_wp2
  go_end0
  first | exact ⟨⟨_, rfl⟩, HST.out⟩ | exact ⟨⟨_, rfl⟩, HST.out.drew⟩ | exact ⟨⟨_, rfl⟩, HST.out.drew.drew⟩
set_option maxRecDepth 100000 in
set_option maxHeartbeats 2000000 in
theorem change_merge (bx : Nat) (xx : El) (hS : Sat w0 (domB h p * (tblP p ps free * (elB bx xx * F))) w) (i g : Int) (X2 : El)
    (hK : getE ps i g = 0 → ∀ (b : Nat) (w1 : World) (F' : Hp), Sat w0 (elB b (getX ps i g) * (elB bx xx * F')) w1 → Calls Try.prog 59 #[vp b, vp bx] w1 fun e w' => (∃ v, e = .returned v) ∧ Sat w0 (elB b X2 * (elB bx xx * F')) w') :
    Calls Try.prog 34 #[vp h, vr i g, .func (.func 59) #[] #[vp bx]] w fun e w' => e = .returned (vi (getE ps i g)) ∧ Sat w0 (domB h p * (tblP p (setP ps i g X2) free * (elB bx xx * F))) w' := by
  have hB0 : Sat w0 (pc w.heap.size 32 [vi i, vu g] * (domB h p * (tblP p ps free * (elB bx xx * F)))) (w.alloc (.cells #[vi i, vu g] 32)) := hS.alloc (.cells #[vi i, vu g] 32)
  have hB : Sat w0 (domB h p * (tblP p ps free * (pc w.heap.size 32 [vi i, vu g] * (elB bx xx * F)))) (w.alloc (.cells #[vi i, vu g] 32)) := hB0.cast (by ac_rfl)
  have HG := Lib.hid (dm_get hB i g)
  have HSet : Hid (∀ (w1 : World) (G : Hp) (x : El), Sat w0 (tblP p ps free * G) w1 → Calls Try.prog 65 #[vp p, vr i g, ev x] w1 fun e w' => e = .returned (vi (getE ps i g)) ∧ Sat w0 (tblP p (setP ps i g x) free * G) w') := Lib.hid fun w1 G x h1 => set_ h1 i g x
  have HE := getE_cases ps i g
  have HK := Lib.hid hK
  clear hS hB hB0 hK
  generalize getX ps i g = x at *
  obtain ⟨v0, v1, v2, v3, v4, v5, v6, v7, v8, v9, v10⟩ := x
  rcases HE with he | he
  · rw [he] at HG HSet HK ⊢
    have HK2 := Lib.hid (HK.out rfl)
    clear HK
    clear he
    obtain ⟨y0, y1, y2, y3, y4, y5, y6, y7, y8, y9, y10⟩ := X2
    go_enter Try.func34, Try.ntmps34
    go_wp2_with (first
      | (go_at_call 16; refine HG.out.mono ?_; rintro e w1 ⟨rfl, hS1⟩; have hA := hS1.alloc (elO ez); have HTh := Lib.hid (there_ (n := 11) hA rfl); have HA := Lib.hid hA; clear hA hS1)
      | (refine wpList_store_mid rfl 45 _ _ rfl w1.heap.size 0 (elC ⟨v0, v1, v2, v3, v4, v5, v6, v7, v8, v9, v10⟩).toArray (by rfl) (by rfl) HTh.out einfo (all_oneCell_toArray (elOne _)) ?_; have hs := HA.out.stores (elC ⟨v0, v1, v2, v3, v4, v5, v6, v7, v8, v9, v10⟩) 0; rw [setL_full (elC ez) (elC ⟨v0, v1, v2, v3, v4, v5, v6, v7, v8, v9, v10⟩) rfl] at hs; have HS := Lib.hid hs; have HS : Hid (Sat w0 _ ((w1.alloc (elO ez)).setCells w1.heap.size 0 (elC ⟨v0, v1, v2, v3, v4, v5, v6, v7, v8, v9, v10⟩).toArray.toList)) := HS; clear hs; generalize World.setCells _ _ _ _ = w2 at *)
      | (go_at_call 59; refine (HK2.out _ _ (domB h p * (tblP p ps free * (pc w.heap.size 32 [vi i, vu g] * F))) (HS.out.cast (by (try unfold elB); skip; ac_rfl))).mono ?_; rintro e w3 ⟨⟨v3, rfl⟩, hS3⟩; have hW : Sat w0 (elB w1.heap.size ⟨y0, y1, y2, y3, y4, y5, y6, y7, y8, y9, y10⟩ * (domB h p * (tblP p ps free * (pc w.heap.size 32 [vi i, vu g] * (elB bx xx * F))))) w3 := hS3.cast (by (try unfold elB); skip; ac_rfl); have c4 := hW.pull2.cell 0 rfl; have b4 := hW.pull4.cell 0 rfl; have b5 := hW.pull4.cell 1 rfl; have HW := Lib.hid hW; clear hW hS3))
    refine wp_quiet_tail 6 (by kernel_rfl) (by kernel_rfl) ?_
    simp only [List.take_succ_cons, List.take_zero, List.drop_succ_cons, List.drop_zero]
    iterate 5 (go_big_quiet_step (fail))
    refine wpQuiet_load_row (by rfl) 45 _ rfl w1.heap.size 0 (by rfl) (elC ⟨y0, y1, y2, y3, y4, y5, y6, y7, y8, y9, y10⟩) _ (fun w' hw' => by subst hw'; exact range_ HW.out.drew) Try.underlying45 rfl einfo ?_
    refine wpQuiet_nil ?_
    go_wp2_with (go_at_call 65; refine (HSet.out _ _ ⟨y0, y1, y2, y3, y4, y5, y6, y7, y8, y9, y10⟩ (HW.out.drew.pull3)).mono ?_; rintro e w5 ⟨rfl, hS5⟩; have H5 := Lib.hid hS5; clear hS5)
    go_ret
    exact ⟨rfl, (H5.out.cast (show _ = pc w1.heap.size 45 (elC ⟨y0, y1, y2, y3, y4, y5, y6, y7, y8, y9, y10⟩) * (pc w.heap.size 32 [vi i, vu g] * (domB h p * (tblP p (setP ps i g ⟨y0, y1, y2, y3, y4, y5, y6, y7, y8, y9, y10⟩) free * (elB bx xx * F)))) by (try unfold elB); skip; ac_rfl)).dropL.dropL⟩
  · have hn := Lib.hid (setP_none he X2)
    rw [he] at HG ⊢
    clear he HSet HK
    go_enter Try.func34, Try.ntmps34
    go_wp2_with (first
      | (go_at_call 16; refine HG.out.mono ?_; rintro e w1 ⟨rfl, hS1⟩; have hA := hS1.alloc (elO ez); have HTh := Lib.hid (there_ (n := 11) hA rfl); have HA := Lib.hid hA; clear hA hS1)
      | (refine wpList_store_mid rfl 45 _ _ rfl w1.heap.size 0 (elC ⟨v0, v1, v2, v3, v4, v5, v6, v7, v8, v9, v10⟩).toArray (by rfl) (by rfl) HTh.out einfo (all_oneCell_toArray (elOne _)) ?_; have hs := HA.out.stores (elC ⟨v0, v1, v2, v3, v4, v5, v6, v7, v8, v9, v10⟩) 0; rw [setL_full (elC ez) (elC ⟨v0, v1, v2, v3, v4, v5, v6, v7, v8, v9, v10⟩) rfl] at hs; have HS := Lib.hid hs; have HS : Hid (Sat w0 _ ((w1.alloc (elO ez)).setCells w1.heap.size 0 (elC ⟨v0, v1, v2, v3, v4, v5, v6, v7, v8, v9, v10⟩).toArray.toList)) := HS; clear hs; generalize World.setCells _ _ _ _ = w2 at *))
    go_ret
    rw [hn.out]
    exact ⟨rfl, (HS.out.cast (show _ = pc w1.heap.size 45 (elC ⟨v0, v1, v2, v3, v4, v5, v6, v7, v8, v9, v10⟩) * (pc w.heap.size 32 [vi i, vu g] * (domB h p * (tblP p ps free * (elB bx xx * F)))) by (try unfold elB); skip; ac_rfl)).dropL.dropL⟩
set_option maxRecDepth 100000 in
set_option maxHeartbeats 2000000 in
theorem merge_root (hS : Sat w0 (domB h p * (tblP p ps free * F)) w) (he : getE ps 0 1 = 0) :
    Calls Try.prog 26 #[vp h, vr 0 1] w fun e w' => e = .returned (vi 2) ∧ Sat w0 (domB h p * (tblP p ps free * F)) w' := by
  have hB0 : Sat w0 (pc w.heap.size 32 [vi 0, vu 1] * (domB h p * (tblP p ps free * F))) (w.alloc (.cells #[vi 0, vu 1] 32)) := hS.alloc (.cells #[vi 0, vu 1] 32)
  have b0 := hB0.cell 0 rfl
  have b1 := hB0.cell 1 rfl
  have hB : Sat w0 (domB h p * (tblP p ps free * (pc w.heap.size 32 [vi 0, vu 1] * F))) (w.alloc (.cells #[vi 0, vu 1] 32)) := hB0.cast (by ac_rfl)
  have HG := Lib.hid (dm_get hB 0 1)
  rw [he] at HG
  clear hS hB hB0 he
  generalize getX ps 0 1 = x at *
  obtain ⟨v0, v1, v2, v3, v4, v5, v6, v7, v8, v9, v10⟩ := x
  go_enter Try.func26, Try.ntmps26
  go_wp2_with (first
    | (go_at_call 16; refine HG.out.mono ?_; rintro e w1 ⟨rfl, hS1⟩; have hA := hS1.alloc (elO ez); have HTh := Lib.hid (there_ (n := 11) hA rfl); have HA := Lib.hid hA; clear hA hS1)
    | (refine wpList_store_mid rfl 45 _ _ rfl w1.heap.size 0 (elC ⟨v0, v1, v2, v3, v4, v5, v6, v7, v8, v9, v10⟩).toArray (by rfl) (by rfl) HTh.out einfo (all_oneCell_toArray (elOne _)) ?_; have hs := HA.out.stores (elC ⟨v0, v1, v2, v3, v4, v5, v6, v7, v8, v9, v10⟩) 0; rw [setL_full (elC ez) (elC ⟨v0, v1, v2, v3, v4, v5, v6, v7, v8, v9, v10⟩) rfl] at hs; have HS := Lib.hid hs; have HS : Hid (Sat w0 _ ((w1.alloc (elO ez)).setCells w1.heap.size 0 (elC ⟨v0, v1, v2, v3, v4, v5, v6, v7, v8, v9, v10⟩).toArray.toList)) := HS; clear hs; generalize World.setCells _ _ _ _ = w2 at *; have b0' := HS.out.pull4.cell 0 rfl; have b1' := HS.out.pull4.cell 1 rfl; have d1 := HS.out.pull2.cell 1 rfl; have d2 := HS.out.pull2.cell 2 rfl))
  go_quiet (fail)
  go_wp2
  go_ret
  exact ⟨rfl, ((HS.out.cast (show _ = pc w1.heap.size 45 (elC ⟨v0, v1, v2, v3, v4, v5, v6, v7, v8, v9, v10⟩) * (pc w.heap.size 32 [vi 0, vu 1] * (domB h p * (tblP p ps free * F))) by (try unfold elB); ac_rfl)).dropL.dropL).drewN _⟩
set_option maxRecDepth 100000 in
set_option maxHeartbeats 2000000 in
theorem merge_busy (hS : Sat w0 (domB h p * (tblP p ps free * F)) w) (i g : Int) (he : getE ps i g = 0) (hr : ¬ (i = 0 ∧ g = 1)) (hb : 0 < (getX ps i g).v8 ∨ 0 < (getX ps i g).v10) :
    Calls Try.prog 26 #[vp h, vr i g] w fun e w' => e = .returned (vi 14) ∧ Sat w0 (domB h p * (tblP p ps free * F)) w' := by
  have hB0 : Sat w0 (pc w.heap.size 32 [vi i, vu g] * (domB h p * (tblP p ps free * F))) (w.alloc (.cells #[vi i, vu g] 32)) := hS.alloc (.cells #[vi i, vu g] 32)
  have b0 := hB0.cell 0 rfl
  have b1 := hB0.cell 1 rfl
  have hB : Sat w0 (domB h p * (tblP p ps free * (pc w.heap.size 32 [vi i, vu g] * F))) (w.alloc (.cells #[vi i, vu g] 32)) := hB0.cast (by ac_rfl)
  have HG := Lib.hid (dm_get hB i g)
  rw [he] at HG
  have hrb : (i == 0 && g == 1) = false := by
    cases h : (i == 0 && g == 1) with
    | false => rfl
    | true =>
      rw [Bool.and_eq_true, beq_iff_eq, beq_iff_eq] at h
      exact absurd h hr
  clear hS hB hB0 he
  generalize getX ps i g = x at *
  obtain ⟨v0, v1, v2, v3, v4, v5, v6, v7, v8, v9, v10⟩ := x
  simp only at hb
  have hb2 : (0 < v8) ∨ (¬ 0 < v8 ∧ 0 < v10) := by omega
  clear hb
  by_cases h0 : i = 0
  · subst h0
    have h1b : (g == 1) = false := beq_eq_false_iff_ne.2 fun e => hr ⟨rfl, e⟩
    clear hr hrb
    rcases hb2 with hb2 | ⟨hb1, hb2⟩
    all_goals
      go_enter Try.func26, Try.ntmps26
      go_wp2_with (first | (go_at_call 16; refine HG.out.mono ?_; rintro e w1 ⟨rfl, hS1⟩; have hA := hS1.alloc (elO ez); have HTh := Lib.hid (there_ (n := 11) hA rfl); have HA := Lib.hid hA; clear hA hS1) | (refine wpList_store_mid rfl 45 _ _ rfl w1.heap.size 0 (elC ⟨v0, v1, v2, v3, v4, v5, v6, v7, v8, v9, v10⟩).toArray (by rfl) (by rfl) HTh.out einfo (all_oneCell_toArray (elOne _)) ?_; have hs := HA.out.stores (elC ⟨v0, v1, v2, v3, v4, v5, v6, v7, v8, v9, v10⟩) 0; rw [setL_full (elC ez) (elC ⟨v0, v1, v2, v3, v4, v5, v6, v7, v8, v9, v10⟩) rfl] at hs; have HS := Lib.hid hs; have HS : Hid (Sat w0 _ ((w1.alloc (elO ez)).setCells w1.heap.size 0 (elC ⟨v0, v1, v2, v3, v4, v5, v6, v7, v8, v9, v10⟩).toArray.toList)) := HS; clear hs; generalize World.setCells _ _ _ _ = w2 at *; have d0 := HS.out.pull2.cell 0 rfl; have b0' := HS.out.pull4.cell 0 rfl; have b1' := HS.out.pull4.cell 1 rfl; have d1 := HS.out.pull2.cell 1 rfl; have d2 := HS.out.pull2.cell 2 rfl; have c8 := HS.out.cell 8 rfl; have c10 := HS.out.cell 10 rfl))
      go_quiet (fail)
      go_wp2
      go_ret
      exact ⟨rfl, ((HS.out.cast (show _ = pc w1.heap.size 45 (elC ⟨v0, v1, v2, v3, v4, v5, v6, v7, v8, v9, v10⟩) * (pc w.heap.size 32 [vi 0, vu g] * (domB h p * (tblP p ps free * F))) by (try unfold elB); ac_rfl)).dropL.dropL).drewN _⟩
  · have h0b : (i == 0) = false := beq_eq_false_iff_ne.2 h0
    clear hr hrb
    rcases hb2 with hb2 | ⟨hb1, hb2⟩
    all_goals
      go_enter Try.func26, Try.ntmps26
      go_wp2_with (first | (go_at_call 16; refine HG.out.mono ?_; rintro e w1 ⟨rfl, hS1⟩; have hA := hS1.alloc (elO ez); have HTh := Lib.hid (there_ (n := 11) hA rfl); have HA := Lib.hid hA; clear hA hS1) | (refine wpList_store_mid rfl 45 _ _ rfl w1.heap.size 0 (elC ⟨v0, v1, v2, v3, v4, v5, v6, v7, v8, v9, v10⟩).toArray (by rfl) (by rfl) HTh.out einfo (all_oneCell_toArray (elOne _)) ?_; have hs := HA.out.stores (elC ⟨v0, v1, v2, v3, v4, v5, v6, v7, v8, v9, v10⟩) 0; rw [setL_full (elC ez) (elC ⟨v0, v1, v2, v3, v4, v5, v6, v7, v8, v9, v10⟩) rfl] at hs; have HS := Lib.hid hs; have HS : Hid (Sat w0 _ ((w1.alloc (elO ez)).setCells w1.heap.size 0 (elC ⟨v0, v1, v2, v3, v4, v5, v6, v7, v8, v9, v10⟩).toArray.toList)) := HS; clear hs; generalize World.setCells _ _ _ _ = w2 at *; have d0 := HS.out.pull2.cell 0 rfl; have b0' := HS.out.pull4.cell 0 rfl; have b1' := HS.out.pull4.cell 1 rfl; have d1 := HS.out.pull2.cell 1 rfl; have d2 := HS.out.pull2.cell 2 rfl; have c8 := HS.out.cell 8 rfl; have c10 := HS.out.cell 10 rfl))
      go_quiet (fail)
      go_wp2
      go_ret
      exact ⟨rfl, ((HS.out.cast (show _ = pc w1.heap.size 45 (elC ⟨v0, v1, v2, v3, v4, v5, v6, v7, v8, v9, v10⟩) * (pc w.heap.size 32 [vi i, vu g] * (domB h p * (tblP p ps free * F))) by (try unfold elB); ac_rfl)).dropL.dropL).drewN _⟩
set_option maxRecDepth 100000 in
set_option maxHeartbeats 2000000 in
theorem merge_ok {k : Nat} {a : Pl} (hS : Sat w0 (domB h p * (tblP p ps free * F)) w) (i g : Int) (hA : isAt ps i g = some (k, a)) (hg : a.gen < 18446744073709551614) (hr : ¬ (i = 0 ∧ g = 1)) (hb : a.x.v8 ≤ 0 ∧ a.x.v10 ≤ 0)
    (psd : List Pl) (hd : psd = ps.set k { a with gen := a.gen + 1, there := false, x := ez }) (hp : getE psd a.x.v0 a.x.v1 = 0) (y : El) (hy : y = getX psd a.x.v0 a.x.v1)
    (h5 : IntKind.i64.wrap (y.v5 - a.x.v2) = y.v5 - a.x.v2) (h6 : IntKind.u64.wrap (y.v6 - a.x.v3) = y.v6 - a.x.v3) (h10 : IntKind.i64.wrap (y.v10 - 1) = y.v10 - 1) :
    Calls Try.prog 26 #[vp h, vr i g] w fun e w' => e = .returned (vi 0) ∧ Sat w0 (domB h p * (tblP p (setP psd a.x.v0 a.x.v1 (mrgX y a.x)) (free ++ [k]) * F)) w' := by
  have he : getE ps i g = 0 := by unfold getE; rw [hA]
  have hX : getX ps i g = a.x := by unfold getX; rw [hA]
  have hB0 : Sat w0 (pc w.heap.size 32 [vi i, vu g] * (domB h p * (tblP p ps free * F))) (w.alloc (.cells #[vi i, vu g] 32)) := hS.alloc (.cells #[vi i, vu g] 32)
  have b0 := hB0.cell 0 rfl
  have b1 := hB0.cell 1 rfl
  have hB : Sat w0 (domB h p * (tblP p ps free * (pc w.heap.size 32 [vi i, vu g] * F))) (w.alloc (.cells #[vi i, vu g] 32)) := hB0.cast (by ac_rfl)
  have HG := Lib.hid (dm_get hB i g)
  rw [he] at HG
  rw [hX] at HG
  have hrb : (i == 0 && g == 1) = false := by
    cases h : (i == 0 && g == 1) with
    | false => rfl
    | true =>
      rw [Bool.and_eq_true, beq_iff_eq, beq_iff_eq] at h
      exact absurd h hr
  have HDrop := Lib.hid (fun (w1 : World) (G : Hp) (h1 : Sat w0 (tblP p ps free * G) w1) => drop_yes h1 i g hA hg)
  rw [← hd] at HDrop
  have HCh := Lib.hid (fun (bx : Nat) (w1 : World) (G : Hp) (h1 : Sat w0 (domB h p * (tblP p psd (free ++ [k]) * (elB bx a.x * G))) w1) => change_merge bx a.x h1 a.x.v0 a.x.v1 (mrgX y a.x) (fun _ b w2 F' h2 => merge1_ (by rw [hy]; exact h2) h5 h6 h10))
  rw [hp] at HCh
  clear hS hB hB0 he hX hd hp h5 h6 h10 hA
  generalize hps : setP psd a.x.v0 a.x.v1 (mrgX y a.x) = psn at *
  clear hps hy hg
  obtain ⟨gen, there, retired, x⟩ := a
  obtain ⟨v0, v1, v2, v3, v4, v5, v6, v7, v8, v9, v10⟩ := x
  simp only at hb
  have hb8 : ¬ 0 < v8 := by omega
  have hb10 : ¬ 0 < v10 := by omega
  clear hb
  by_cases h0 : i = 0
  · subst h0
    have h1b : (g == 1) = false := beq_eq_false_iff_ne.2 fun e => hr ⟨rfl, e⟩
    clear hr hrb
    all_goals
      go_enter Try.func26, Try.ntmps26
      go_wp2_with (first | (go_at_call 16; refine HG.out.mono ?_; rintro e w1 ⟨rfl, hS1⟩; have hA := hS1.alloc (elO ez); have HTh := Lib.hid (there_ (n := 11) hA rfl); have HA := Lib.hid hA; clear hA hS1) | (refine wpList_store_mid rfl 45 _ _ rfl w1.heap.size 0 (elC ⟨v0, v1, v2, v3, v4, v5, v6, v7, v8, v9, v10⟩).toArray (by rfl) (by rfl) HTh.out einfo (all_oneCell_toArray (elOne _)) ?_; have hs := HA.out.stores (elC ⟨v0, v1, v2, v3, v4, v5, v6, v7, v8, v9, v10⟩) 0; rw [setL_full (elC ez) (elC ⟨v0, v1, v2, v3, v4, v5, v6, v7, v8, v9, v10⟩) rfl] at hs; have HS := Lib.hid hs; have HS : Hid (Sat w0 _ ((w1.alloc (elO ez)).setCells w1.heap.size 0 (elC ⟨v0, v1, v2, v3, v4, v5, v6, v7, v8, v9, v10⟩).toArray.toList)) := HS; clear hs; generalize World.setCells _ _ _ _ = w2 at *; have d0 := HS.out.pull2.cell 0 rfl; have b0' := HS.out.pull4.cell 0 rfl; have b1' := HS.out.pull4.cell 1 rfl; have d1 := HS.out.pull2.cell 1 rfl; have d2 := HS.out.pull2.cell 2 rfl; have c8 := HS.out.cell 8 rfl; have c10 := HS.out.cell 10 rfl))
      go_quiet (fail)
      go_wp2
      refine wp_quiet_tail 5 (by kernel_rfl) (by kernel_rfl) ?_
      simp only [List.take_succ_cons, List.take_zero, List.drop_succ_cons, List.drop_zero]
      repeat (go_big_quiet_step (fail))
      refine wpQuiet_nil ?_
      go_wp2_with (first
        | (go_at_call 58; refine (HDrop.out _ _ ((HS.out.drewN _).drew.cast (show _ = tblP p ps free * (elB w1.heap.size ⟨v0, v1, v2, v3, v4, v5, v6, v7, v8, v9, v10⟩ * (domB h p * (pc w.heap.size 32 [vi 0, vu g] * F))) by (try unfold elB); ac_rfl))).mono ?_; rintro e w5 ⟨rfl, hS5⟩; have x0 := hS5.pull2.cell 0 rfl; have x1 := hS5.pull2.cell 1 rfl; have H5 := Lib.hid hS5; clear hS5)
        | (go_at_call 34; refine (HCh.out w1.heap.size _ _ (H5.out.cast (show _ = domB h p * (tblP p psd (free ++ [k]) * (elB w1.heap.size ⟨v0, v1, v2, v3, v4, v5, v6, v7, v8, v9, v10⟩ * (pc w.heap.size 32 [vi 0, vu g] * F))) by ac_rfl))).mono ?_; rintro e w6 ⟨rfl, hS6⟩; have H6 := Lib.hid hS6; clear hS6))
      go_ret
      exact ⟨rfl, (H6.out.cast (show _ = elB w1.heap.size ⟨v0, v1, v2, v3, v4, v5, v6, v7, v8, v9, v10⟩ * (pc w.heap.size 32 [vi 0, vu g] * (domB h p * (tblP p psn (free ++ [k]) * F))) by ac_rfl)).dropL.dropL⟩
  · have h0b : (i == 0) = false := beq_eq_false_iff_ne.2 h0
    clear hr hrb
    all_goals
      go_enter Try.func26, Try.ntmps26
      go_wp2_with (first | (go_at_call 16; refine HG.out.mono ?_; rintro e w1 ⟨rfl, hS1⟩; have hA := hS1.alloc (elO ez); have HTh := Lib.hid (there_ (n := 11) hA rfl); have HA := Lib.hid hA; clear hA hS1) | (refine wpList_store_mid rfl 45 _ _ rfl w1.heap.size 0 (elC ⟨v0, v1, v2, v3, v4, v5, v6, v7, v8, v9, v10⟩).toArray (by rfl) (by rfl) HTh.out einfo (all_oneCell_toArray (elOne _)) ?_; have hs := HA.out.stores (elC ⟨v0, v1, v2, v3, v4, v5, v6, v7, v8, v9, v10⟩) 0; rw [setL_full (elC ez) (elC ⟨v0, v1, v2, v3, v4, v5, v6, v7, v8, v9, v10⟩) rfl] at hs; have HS := Lib.hid hs; have HS : Hid (Sat w0 _ ((w1.alloc (elO ez)).setCells w1.heap.size 0 (elC ⟨v0, v1, v2, v3, v4, v5, v6, v7, v8, v9, v10⟩).toArray.toList)) := HS; clear hs; generalize World.setCells _ _ _ _ = w2 at *; have d0 := HS.out.pull2.cell 0 rfl; have b0' := HS.out.pull4.cell 0 rfl; have b1' := HS.out.pull4.cell 1 rfl; have d1 := HS.out.pull2.cell 1 rfl; have d2 := HS.out.pull2.cell 2 rfl; have c8 := HS.out.cell 8 rfl; have c10 := HS.out.cell 10 rfl))
      go_quiet (fail)
      go_wp2
      refine wp_quiet_tail 5 (by kernel_rfl) (by kernel_rfl) ?_
      simp only [List.take_succ_cons, List.take_zero, List.drop_succ_cons, List.drop_zero]
      repeat (go_big_quiet_step (fail))
      refine wpQuiet_nil ?_
      go_wp2_with (first
        | (go_at_call 58; refine (HDrop.out _ _ ((HS.out.drewN _).drew.cast (show _ = tblP p ps free * (elB w1.heap.size ⟨v0, v1, v2, v3, v4, v5, v6, v7, v8, v9, v10⟩ * (domB h p * (pc w.heap.size 32 [vi i, vu g] * F))) by (try unfold elB); ac_rfl))).mono ?_; rintro e w5 ⟨rfl, hS5⟩; have x0 := hS5.pull2.cell 0 rfl; have x1 := hS5.pull2.cell 1 rfl; have H5 := Lib.hid hS5; clear hS5)
        | (go_at_call 34; refine (HCh.out w1.heap.size _ _ (H5.out.cast (show _ = domB h p * (tblP p psd (free ++ [k]) * (elB w1.heap.size ⟨v0, v1, v2, v3, v4, v5, v6, v7, v8, v9, v10⟩ * (pc w.heap.size 32 [vi i, vu g] * F))) by ac_rfl))).mono ?_; rintro e w6 ⟨rfl, hS6⟩; have H6 := Lib.hid hS6; clear hS6))
      go_ret
      exact ⟨rfl, (H6.out.cast (show _ = elB w1.heap.size ⟨v0, v1, v2, v3, v4, v5, v6, v7, v8, v9, v10⟩ * (pc w.heap.size 32 [vi i, vu g] * (domB h p * (tblP p psn (free ++ [k]) * F))) by ac_rfl)).dropL.dropL⟩
end
end Go.Proofs.Ytfioghpnehfjhaa.Dm
