/-
  Package domain: change, Use, Clear. No statement is proved here.
-/
import Derived.Test.YtfioghpnehfjhaaDn2
namespace Go.Proofs.Ytfioghpnehfjhaa.Dm
open Go.RowKit Ad
set_option linter.unusedVariables false
set_option linter.unusedSimpArgs false

theorem getE_cases (ps : List Pl) (i g : Int) : getE ps i g = 0 ∨ getE ps i g = 11 := by
  unfold getE
  split
  · exact .inr rfl
  · exact .inl rfl
theorem setP_none {ps : List Pl} {i g : Int} (h : getE ps i g = 11) (x : El) : setP ps i g x = ps := by
  unfold getE at h
  unfold setP
  split at h
  · rename_i h0; rw [h0]
  · cases h
theorem setL_full (cs vs : List Value) (h : vs.length = cs.length) : setL cs 0 vs = vs := List.ext_getElem? fun i => by
  by_cases hi : i < vs.length
  · have := setL_in vs cs 0 i hi (by omega)
    rw [Nat.zero_add] at this
    exact this
  · rw [List.getElem?_eq_none (by rw [setL_len]; omega), List.getElem?_eq_none (by omega)]
def addS (a b : Int) : Int := (addP a b).getD 18446744073709551615
section
variable {w0 w : World} {F : Hp} {h p : Nat} {ps : List Pl} {free : List Nat}
set_option maxRecDepth 100000 in
set_option maxHeartbeats 2000000 in
theorem use1_ {b bn : Nat} {n : Int} {x : El} (hS : Sat w0 (elB b x * (pc bn 22 [vu n] * F)) w) (hu : U64 x.v9) (hn : U64 n) : Calls Try.prog 35 #[vp b, vp bn] w fun e w' => (∃ v, e = .returned v) ∧ Sat w0 (elB b { x with v9 := addS x.v9 n } * (pc bn 22 [vu n] * F)) w' := by
  have c9 := hS.cell 9 rfl
  have f9 := hS.free 9
  have cn := hS.pull2.cell 0 rfl
  have HN := Lib.hid (fun w => naddSat x.v9 n hu hn w)
  rw [show ((addP x.v9 n).getD 18446744073709551615) = addS x.v9 n from rfl] at HN
  have HST := Lib.hid (hS.store 9 (vu (addS x.v9 n)))
  have HST : Hid (Sat w0 (elB b { x with v9 := addS x.v9 n } * (pc bn 22 [vu n] * F)) _) := HST
  clear hS hu hn
  generalize addS x.v9 n = r at *
  obtain ⟨v0, v1, v2, v3, v4, v5, v6, v7, v8, v9, v10⟩ := x
  go_enter Try.func35, Try.ntmps35
  go_wp2
  refine wp_quiet_tail 9 (by kernel_rfl) (by kernel_rfl) ?_
  simp only [List.take_succ_cons, List.take_zero, List.drop_succ_cons, List.drop_zero]
  repeat (go_big_quiet_step (fail))
  go_big_quiet_want
  go_big_quiet_op
  apply Exists.intro
  refine ⟨(HN.out _).mono fun _ _ h => ⟨h.1, h.2.symm⟩, ?_⟩
  go_big_quiet_on
  repeat (go_big_quiet_step (fail))
  refine wpQuiet_nil ?_
  go_wp2
  go_end0
  first | exact ⟨⟨_, rfl⟩, HST.out⟩ | exact ⟨⟨_, rfl⟩, HST.out.drew⟩ | exact ⟨⟨_, rfl⟩, HST.out.drew.drew⟩
set_option maxRecDepth 100000 in
set_option maxHeartbeats 2000000 in
theorem clear1_ {b : Nat} {x : El} (hS : Sat w0 (elB b x * F) w) : Calls Try.prog 68 #[vp b] w fun e w' => (∃ v, e = .returned v) ∧ Sat w0 (elB b { x with v9 := 0 } * F) w' := by
  have c9 := hS.cell 9 rfl
  have f9 := hS.free 9
  have HST := Lib.hid (hS.store 9 (vu 0))
  have HST : Hid (Sat w0 (elB b { x with v9 := 0 } * F) _) := HST
  clear hS
  obtain ⟨v0, v1, v2, v3, v4, v5, v6, v7, v8, v9, v10⟩ := x
  go_enter Try.func68, Try.ntmps68
  go_wp2
  go_end0
  first | exact ⟨⟨_, rfl⟩, HST.out⟩ | exact ⟨⟨_, rfl⟩, HST.out.drew⟩ | exact ⟨⟨_, rfl⟩, HST.out.drew.drew⟩
abbrev carX (x : El) (gs cpu : Int) : El := { x with v5 := x.v5 + gs, v6 := x.v6 + cpu, v10 := x.v10 + 1 }
abbrev carC (bg bc : Nat) (gs cpu : Int) : Hp := pc bg 3 [vi gs] * pc bc 22 [vu cpu]
set_option maxRecDepth 100000 in
set_option maxHeartbeats 2000000 in
theorem carve1_ {b bg bc : Nat} {gs cpu : Int} {x : El} (hS : Sat w0 (elB b x * (pc bg 3 [vi gs] * (pc bc 22 [vu cpu] * F))) w) (h5 : IntKind.i64.wrap (x.v5 + gs) = x.v5 + gs) (h6 : IntKind.u64.wrap (x.v6 + cpu) = x.v6 + cpu) (h10 : IntKind.i64.wrap (x.v10 + 1) = x.v10 + 1) :
    Calls Try.prog 62 #[vp b, vp bg, vp bc] w fun e w' => (∃ v, e = .returned v) ∧ Sat w0 (elB b (carX x gs cpu) * (pc bg 3 [vi gs] * (pc bc 22 [vu cpu] * F))) w' := by
  obtain ⟨v0, v1, v2, v3, v4, v5, v6, v7, v8, v9, v10⟩ := x
  simp only at h5 h6 h10
  have c5 := hS.cell 5 rfl
  have f5 := hS.free 5
  have cg := hS.pull2.cell 0 rfl
  have hS1 := hS.store 5 (vi (v5 + gs))
  have c6 := hS1.cell 6 rfl
  have f6 := hS1.free 6
  have cc := hS1.pull3.cell 0 rfl
  have hS2 := hS1.store 6 (vu (v6 + cpu))
  have c10 := hS2.cell 10 rfl
  have f10 := hS2.free 10
  have hS3 := hS2.store 10 (vi (v10 + 1))
  have HST : Hid (Sat w0 (elB b (carX ⟨v0, v1, v2, v3, v4, v5, v6, v7, v8, v9, v10⟩ gs cpu) * (pc bg 3 [vi gs] * (pc bc 22 [vu cpu] * F))) _) := Lib.hid hS3
  clear hS hS1 hS2 hS3
  go_enter Try.func62, Try.ntmps62
  go_wp2
  refine wp_quiet_tail 8 (by kernel_rfl) (by kernel_rfl) ?_
  simp only [List.take_succ_cons, List.take_zero, List.drop_succ_cons, List.drop_zero]
  repeat (go_big_quiet_step (fail))
  refine wpQuiet_nil ?_
  go_wp2
  refine wp_quiet_tail 8 (by kernel_rfl) (by kernel_rfl) ?_
  simp only [List.take_succ_cons, List.take_zero, List.drop_succ_cons, List.drop_zero]
  repeat (go_big_quiet_step (fail))
  refine wpQuiet_nil ?_
  go_wp2
  go_end0
  first | exact ⟨⟨_, rfl⟩, HST.out⟩ | exact ⟨⟨_, rfl⟩, HST.out.drew⟩ | exact ⟨⟨_, rfl⟩, HST.out.drew.drew⟩
set_option maxRecDepth 100000 in
set_option maxHeartbeats 2000000 in
theorem change_use (bn : Nat) (n : Int) (hS : Sat w0 (domB h p * (tblP p ps free * (pc bn 22 [vu n] * F))) w) (i g : Int) (X2 : El)
    (hK : getE ps i g = 0 → ∀ (b : Nat) (w1 : World) (F' : Hp), Sat w0 (elB b (getX ps i g) * (pc bn 22 [vu n] * F')) w1 → Calls Try.prog 35 #[vp b, vp bn] w1 fun e w' => (∃ v, e = .returned v) ∧ Sat w0 (elB b X2 * (pc bn 22 [vu n] * F')) w') :
    Calls Try.prog 34 #[vp h, vr i g, .func (.func 35) #[] #[vp bn]] w fun e w' => e = .returned (vi (getE ps i g)) ∧ Sat w0 (domB h p * (tblP p (setP ps i g X2) free * (pc bn 22 [vu n] * F))) w' := by
  have hB0 : Sat w0 (pc w.heap.size 32 [vi i, vu g] * (domB h p * (tblP p ps free * (pc bn 22 [vu n] * F)))) (w.alloc (.cells #[vi i, vu g] 32)) := hS.alloc (.cells #[vi i, vu g] 32)
  have hB : Sat w0 (domB h p * (tblP p ps free * (pc w.heap.size 32 [vi i, vu g] * (pc bn 22 [vu n] * F)))) (w.alloc (.cells #[vi i, vu g] 32)) := hB0.cast (by ac_rfl)
  have HG := Lib.hid (dm_get hB i g)
  have HSet : Hid (∀ (w1 : World) (G : Hp) (x : El), Sat w0 (tblP p ps free * G) w1 → Calls Try.prog 65 #[vp p, vr i g, ev x] w1 fun e w' => e = .returned (vi (getE ps i g)) ∧ Sat w0 (tblP p (setP ps i g x) free * G) w') := Lib.hid fun w1 G x h1 => set_ h1 i g x
  have HE := getE_cases ps i g
  have HK := Lib.hid hK
  clear hS hB hB0 hK
  generalize getX ps i g = x at *
  obtain ⟨v0, v1, v2, v3, v4, v5, v6, v7, v8, v9, v10⟩ := x
  rcases HE with he | he
  · rw [he] at HG HSet HK ⊢
    have HK2 := Lib.hid (HK.out rfl)
    clear HK
    clear he
    obtain ⟨y0, y1, y2, y3, y4, y5, y6, y7, y8, y9, y10⟩ := X2
    go_enter Try.func34, Try.ntmps34
    go_wp2_with (first
      | (go_at_call 16; refine HG.out.mono ?_; rintro e w1 ⟨rfl, hS1⟩; have hA := hS1.alloc (elO ez); have HTh := Lib.hid (there_ (n := 11) hA rfl); have HA := Lib.hid hA; clear hA hS1)
      | (refine wpList_store_mid rfl 45 _ _ rfl w1.heap.size 0 (elC ⟨v0, v1, v2, v3, v4, v5, v6, v7, v8, v9, v10⟩).toArray (by rfl) (by rfl) HTh.out einfo (all_oneCell_toArray (elOne _)) ?_; have hs := HA.out.stores (elC ⟨v0, v1, v2, v3, v4, v5, v6, v7, v8, v9, v10⟩) 0; rw [setL_full (elC ez) (elC ⟨v0, v1, v2, v3, v4, v5, v6, v7, v8, v9, v10⟩) rfl] at hs; have HS := Lib.hid hs; have HS : Hid (Sat w0 _ ((w1.alloc (elO ez)).setCells w1.heap.size 0 (elC ⟨v0, v1, v2, v3, v4, v5, v6, v7, v8, v9, v10⟩).toArray.toList)) := HS; clear hs; generalize World.setCells _ _ _ _ = w2 at *)
      | (go_at_call 35; refine (HK2.out _ _ (domB h p * (tblP p ps free * (pc w.heap.size 32 [vi i, vu g] * F))) (HS.out.cast (by (try unfold elB); (try unfold carC); ac_rfl))).mono ?_; rintro e w3 ⟨⟨v3, rfl⟩, hS3⟩; have hW : Sat w0 (elB w1.heap.size ⟨y0, y1, y2, y3, y4, y5, y6, y7, y8, y9, y10⟩ * (domB h p * (tblP p ps free * (pc w.heap.size 32 [vi i, vu g] * (pc bn 22 [vu n] * F))))) w3 := hS3.cast (by (try unfold elB); (try unfold carC); ac_rfl); have c4 := hW.pull2.cell 0 rfl; have b4 := hW.pull4.cell 0 rfl; have b5 := hW.pull4.cell 1 rfl; have HW := Lib.hid hW; clear hW hS3))
    refine wp_quiet_tail 6 (by kernel_rfl) (by kernel_rfl) ?_
    simp only [List.take_succ_cons, List.take_zero, List.drop_succ_cons, List.drop_zero]
    iterate 5 (go_big_quiet_step (fail))
    refine wpQuiet_load_row (by rfl) 45 _ rfl w1.heap.size 0 (by rfl) (elC ⟨y0, y1, y2, y3, y4, y5, y6, y7, y8, y9, y10⟩) _ (fun w' hw' => by subst hw'; exact range_ HW.out.drew) Try.underlying45 rfl einfo ?_
    refine wpQuiet_nil ?_
    go_wp2_with (go_at_call 65; refine (HSet.out _ _ ⟨y0, y1, y2, y3, y4, y5, y6, y7, y8, y9, y10⟩ (HW.out.drew.pull3)).mono ?_; rintro e w5 ⟨rfl, hS5⟩; have H5 := Lib.hid hS5; clear hS5)
    go_ret
    exact ⟨rfl, (H5.out.cast (show _ = pc w1.heap.size 45 (elC ⟨y0, y1, y2, y3, y4, y5, y6, y7, y8, y9, y10⟩) * (pc w.heap.size 32 [vi i, vu g] * (domB h p * (tblP p (setP ps i g ⟨y0, y1, y2, y3, y4, y5, y6, y7, y8, y9, y10⟩) free * (pc bn 22 [vu n] * F)))) by (try unfold elB); (try unfold carC); ac_rfl)).dropL.dropL⟩
  · have hn := Lib.hid (setP_none he X2)
    rw [he] at HG ⊢
    clear he HSet HK
    go_enter Try.func34, Try.ntmps34
    go_wp2_with (first
      | (go_at_call 16; refine HG.out.mono ?_; rintro e w1 ⟨rfl, hS1⟩; have hA := hS1.alloc (elO ez); have HTh := Lib.hid (there_ (n := 11) hA rfl); have HA := Lib.hid hA; clear hA hS1)
      | (refine wpList_store_mid rfl 45 _ _ rfl w1.heap.size 0 (elC ⟨v0, v1, v2, v3, v4, v5, v6, v7, v8, v9, v10⟩).toArray (by rfl) (by rfl) HTh.out einfo (all_oneCell_toArray (elOne _)) ?_; have hs := HA.out.stores (elC ⟨v0, v1, v2, v3, v4, v5, v6, v7, v8, v9, v10⟩) 0; rw [setL_full (elC ez) (elC ⟨v0, v1, v2, v3, v4, v5, v6, v7, v8, v9, v10⟩) rfl] at hs; have HS := Lib.hid hs; have HS : Hid (Sat w0 _ ((w1.alloc (elO ez)).setCells w1.heap.size 0 (elC ⟨v0, v1, v2, v3, v4, v5, v6, v7, v8, v9, v10⟩).toArray.toList)) := HS; clear hs; generalize World.setCells _ _ _ _ = w2 at *))
    go_ret
    rw [hn.out]
    exact ⟨rfl, (HS.out.cast (show _ = pc w1.heap.size 45 (elC ⟨v0, v1, v2, v3, v4, v5, v6, v7, v8, v9, v10⟩) * (pc w.heap.size 32 [vi i, vu g] * (domB h p * (tblP p ps free * (pc bn 22 [vu n] * F)))) by (try unfold elB); (try unfold carC); ac_rfl)).dropL.dropL⟩
set_option maxRecDepth 100000 in
set_option maxHeartbeats 2000000 in
theorem change_clear (hS : Sat w0 (domB h p * (tblP p ps free * (F))) w) (i g : Int) (X2 : El)
    (hK : getE ps i g = 0 → ∀ (b : Nat) (w1 : World) (F' : Hp), Sat w0 (elB b (getX ps i g) * (F')) w1 → Calls Try.prog 68 #[vp b] w1 fun e w' => (∃ v, e = .returned v) ∧ Sat w0 (elB b X2 * (F')) w') :
    Calls Try.prog 34 #[vp h, vr i g, .func (.func 68) #[] #[]] w fun e w' => e = .returned (vi (getE ps i g)) ∧ Sat w0 (domB h p * (tblP p (setP ps i g X2) free * (F))) w' := by
  have hB0 : Sat w0 (pc w.heap.size 32 [vi i, vu g] * (domB h p * (tblP p ps free * (F)))) (w.alloc (.cells #[vi i, vu g] 32)) := hS.alloc (.cells #[vi i, vu g] 32)
  have hB : Sat w0 (domB h p * (tblP p ps free * (pc w.heap.size 32 [vi i, vu g] * (F)))) (w.alloc (.cells #[vi i, vu g] 32)) := hB0.cast (by ac_rfl)
  have HG := Lib.hid (dm_get hB i g)
  have HSet : Hid (∀ (w1 : World) (G : Hp) (x : El), Sat w0 (tblP p ps free * G) w1 → Calls Try.prog 65 #[vp p, vr i g, ev x] w1 fun e w' => e = .returned (vi (getE ps i g)) ∧ Sat w0 (tblP p (setP ps i g x) free * G) w') := Lib.hid fun w1 G x h1 => set_ h1 i g x
  have HE := getE_cases ps i g
  have HK := Lib.hid hK
  clear hS hB hB0 hK
  generalize getX ps i g = x at *
  obtain ⟨v0, v1, v2, v3, v4, v5, v6, v7, v8, v9, v10⟩ := x
  rcases HE with he | he
  · rw [he] at HG HSet HK ⊢
    have HK2 := Lib.hid (HK.out rfl)
    clear HK
    clear he
    obtain ⟨y0, y1, y2, y3, y4, y5, y6, y7, y8, y9, y10⟩ := X2
    go_enter Try.func34, Try.ntmps34
    go_wp2_with (first
      | (go_at_call 16; refine HG.out.mono ?_; rintro e w1 ⟨rfl, hS1⟩; have hA := hS1.alloc (elO ez); have HTh := Lib.hid (there_ (n := 11) hA rfl); have HA := Lib.hid hA; clear hA hS1)
      | (refine wpList_store_mid rfl 45 _ _ rfl w1.heap.size 0 (elC ⟨v0, v1, v2, v3, v4, v5, v6, v7, v8, v9, v10⟩).toArray (by rfl) (by rfl) HTh.out einfo (all_oneCell_toArray (elOne _)) ?_; have hs := HA.out.stores (elC ⟨v0, v1, v2, v3, v4, v5, v6, v7, v8, v9, v10⟩) 0; rw [setL_full (elC ez) (elC ⟨v0, v1, v2, v3, v4, v5, v6, v7, v8, v9, v10⟩) rfl] at hs; have HS := Lib.hid hs; have HS : Hid (Sat w0 _ ((w1.alloc (elO ez)).setCells w1.heap.size 0 (elC ⟨v0, v1, v2, v3, v4, v5, v6, v7, v8, v9, v10⟩).toArray.toList)) := HS; clear hs; generalize World.setCells _ _ _ _ = w2 at *)
      | (go_at_call 68; refine (HK2.out _ _ (domB h p * (tblP p ps free * (pc w.heap.size 32 [vi i, vu g] * F))) (HS.out.cast (by (try unfold elB); (try unfold carC); ac_rfl))).mono ?_; rintro e w3 ⟨⟨v3, rfl⟩, hS3⟩; have hW : Sat w0 (elB w1.heap.size ⟨y0, y1, y2, y3, y4, y5, y6, y7, y8, y9, y10⟩ * (domB h p * (tblP p ps free * (pc w.heap.size 32 [vi i, vu g] * (F))))) w3 := hS3.cast (by (try unfold elB); (try unfold carC); ac_rfl); have c4 := hW.pull2.cell 0 rfl; have b4 := hW.pull4.cell 0 rfl; have b5 := hW.pull4.cell 1 rfl; have HW := Lib.hid hW; clear hW hS3))
    refine wp_quiet_tail 6 (by kernel_rfl) (by kernel_rfl) ?_
    simp only [List.take_succ_cons, List.take_zero, List.drop_succ_cons, List.drop_zero]
    iterate 5 (go_big_quiet_step (fail))
    refine wpQuiet_load_row (by rfl) 45 _ rfl w1.heap.size 0 (by rfl) (elC ⟨y0, y1, y2, y3, y4, y5, y6, y7, y8, y9, y10⟩) _ (fun w' hw' => by subst hw'; exact range_ HW.out.drew) Try.underlying45 rfl einfo ?_
    refine wpQuiet_nil ?_
    go_wp2_with (go_at_call 65; refine (HSet.out _ _ ⟨y0, y1, y2, y3, y4, y5, y6, y7, y8, y9, y10⟩ (HW.out.drew.pull3)).mono ?_; rintro e w5 ⟨rfl, hS5⟩; have H5 := Lib.hid hS5; clear hS5)
    go_ret
    exact ⟨rfl, (H5.out.cast (show _ = pc w1.heap.size 45 (elC ⟨y0, y1, y2, y3, y4, y5, y6, y7, y8, y9, y10⟩) * (pc w.heap.size 32 [vi i, vu g] * (domB h p * (tblP p (setP ps i g ⟨y0, y1, y2, y3, y4, y5, y6, y7, y8, y9, y10⟩) free * (F)))) by (try unfold elB); (try unfold carC); ac_rfl)).dropL.dropL⟩
  · have hn := Lib.hid (setP_none he X2)
    rw [he] at HG ⊢
    clear he HSet HK
    go_enter Try.func34, Try.ntmps34
    go_wp2_with (first
      | (go_at_call 16; refine HG.out.mono ?_; rintro e w1 ⟨rfl, hS1⟩; have hA := hS1.alloc (elO ez); have HTh := Lib.hid (there_ (n := 11) hA rfl); have HA := Lib.hid hA; clear hA hS1)
      | (refine wpList_store_mid rfl 45 _ _ rfl w1.heap.size 0 (elC ⟨v0, v1, v2, v3, v4, v5, v6, v7, v8, v9, v10⟩).toArray (by rfl) (by rfl) HTh.out einfo (all_oneCell_toArray (elOne _)) ?_; have hs := HA.out.stores (elC ⟨v0, v1, v2, v3, v4, v5, v6, v7, v8, v9, v10⟩) 0; rw [setL_full (elC ez) (elC ⟨v0, v1, v2, v3, v4, v5, v6, v7, v8, v9, v10⟩) rfl] at hs; have HS := Lib.hid hs; have HS : Hid (Sat w0 _ ((w1.alloc (elO ez)).setCells w1.heap.size 0 (elC ⟨v0, v1, v2, v3, v4, v5, v6, v7, v8, v9, v10⟩).toArray.toList)) := HS; clear hs; generalize World.setCells _ _ _ _ = w2 at *))
    go_ret
    rw [hn.out]
    exact ⟨rfl, (HS.out.cast (show _ = pc w1.heap.size 45 (elC ⟨v0, v1, v2, v3, v4, v5, v6, v7, v8, v9, v10⟩) * (pc w.heap.size 32 [vi i, vu g] * (domB h p * (tblP p ps free * (F)))) by (try unfold elB); (try unfold carC); ac_rfl)).dropL.dropL⟩
set_option maxRecDepth 100000 in
set_option maxHeartbeats 2000000 in
theorem change_carve (bg bc : Nat) (gs cpu : Int) (hS : Sat w0 (domB h p * (tblP p ps free * (carC bg bc gs cpu * F))) w) (i g : Int) (X2 : El)
    (hK : getE ps i g = 0 → ∀ (b : Nat) (w1 : World) (F' : Hp), Sat w0 (elB b (getX ps i g) * (carC bg bc gs cpu * F')) w1 → Calls Try.prog 62 #[vp b, vp bg, vp bc] w1 fun e w' => (∃ v, e = .returned v) ∧ Sat w0 (elB b X2 * (carC bg bc gs cpu * F')) w') :
    Calls Try.prog 34 #[vp h, vr i g, .func (.func 62) #[] #[vp bg, vp bc]] w fun e w' => e = .returned (vi (getE ps i g)) ∧ Sat w0 (domB h p * (tblP p (setP ps i g X2) free * (carC bg bc gs cpu * F))) w' := by
  have hB0 : Sat w0 (pc w.heap.size 32 [vi i, vu g] * (domB h p * (tblP p ps free * (carC bg bc gs cpu * F)))) (w.alloc (.cells #[vi i, vu g] 32)) := hS.alloc (.cells #[vi i, vu g] 32)
  have hB : Sat w0 (domB h p * (tblP p ps free * (pc w.heap.size 32 [vi i, vu g] * (carC bg bc gs cpu * F)))) (w.alloc (.cells #[vi i, vu g] 32)) := hB0.cast (by ac_rfl)
  have HG := Lib.hid (dm_get hB i g)
  have HSet : Hid (∀ (w1 : World) (G : Hp) (x : El), Sat w0 (tblP p ps free * G) w1 → Calls Try.prog 65 #[vp p, vr i g, ev x] w1 fun e w' => e = .returned (vi (getE ps i g)) ∧ Sat w0 (tblP p (setP ps i g x) free * G) w') := Lib.hid fun w1 G x h1 => set_ h1 i g x
  have HE := getE_cases ps i g
  have HK := Lib.hid hK
  clear hS hB hB0 hK
  generalize getX ps i g = x at *
  obtain ⟨v0, v1, v2, v3, v4, v5, v6, v7, v8, v9, v10⟩ := x
  rcases HE with he | he
  · rw [he] at HG HSet HK ⊢
    have HK2 := Lib.hid (HK.out rfl)
    clear HK
    clear he
    obtain ⟨y0, y1, y2, y3, y4, y5, y6, y7, y8, y9, y10⟩ := X2
    go_enter Try.func34, Try.ntmps34
    go_wp2_with (first
      | (go_at_call 16; refine HG.out.mono ?_; rintro e w1 ⟨rfl, hS1⟩; have hA := hS1.alloc (elO ez); have HTh := Lib.hid (there_ (n := 11) hA rfl); have HA := Lib.hid hA; clear hA hS1)
      | (refine wpList_store_mid rfl 45 _ _ rfl w1.heap.size 0 (elC ⟨v0, v1, v2, v3, v4, v5, v6, v7, v8, v9, v10⟩).toArray (by rfl) (by rfl) HTh.out einfo (all_oneCell_toArray (elOne _)) ?_; have hs := HA.out.stores (elC ⟨v0, v1, v2, v3, v4, v5, v6, v7, v8, v9, v10⟩) 0; rw [setL_full (elC ez) (elC ⟨v0, v1, v2, v3, v4, v5, v6, v7, v8, v9, v10⟩) rfl] at hs; have HS := Lib.hid hs; have HS : Hid (Sat w0 _ ((w1.alloc (elO ez)).setCells w1.heap.size 0 (elC ⟨v0, v1, v2, v3, v4, v5, v6, v7, v8, v9, v10⟩).toArray.toList)) := HS; clear hs; generalize World.setCells _ _ _ _ = w2 at *)
      | (go_at_call 62; refine (HK2.out _ _ (domB h p * (tblP p ps free * (pc w.heap.size 32 [vi i, vu g] * F))) (HS.out.cast (by (try unfold elB); (try unfold carC); ac_rfl))).mono ?_; rintro e w3 ⟨⟨v3, rfl⟩, hS3⟩; have hW : Sat w0 (elB w1.heap.size ⟨y0, y1, y2, y3, y4, y5, y6, y7, y8, y9, y10⟩ * (domB h p * (tblP p ps free * (pc w.heap.size 32 [vi i, vu g] * (carC bg bc gs cpu * F))))) w3 := hS3.cast (by (try unfold elB); (try unfold carC); ac_rfl); have c4 := hW.pull2.cell 0 rfl; have b4 := hW.pull4.cell 0 rfl; have b5 := hW.pull4.cell 1 rfl; have HW := Lib.hid hW; clear hW hS3))
    refine wp_quiet_tail 6 (by kernel_rfl) (by kernel_rfl) ?_
    simp only [List.take_succ_cons, List.take_zero, List.drop_succ_cons, List.drop_zero]
    iterate 5 (go_big_quiet_step (fail))
    refine wpQuiet_load_row (by rfl) 45 _ rfl w1.heap.size 0 (by rfl) (elC ⟨y0, y1, y2, y3, y4, y5, y6, y7, y8, y9, y10⟩) _ (fun w' hw' => by subst hw'; exact range_ HW.out.drew) Try.underlying45 rfl einfo ?_
    refine wpQuiet_nil ?_
    go_wp2_with (go_at_call 65; refine (HSet.out _ _ ⟨y0, y1, y2, y3, y4, y5, y6, y7, y8, y9, y10⟩ (HW.out.drew.pull3)).mono ?_; rintro e w5 ⟨rfl, hS5⟩; have H5 := Lib.hid hS5; clear hS5)
    go_ret
    exact ⟨rfl, (H5.out.cast (show _ = pc w1.heap.size 45 (elC ⟨y0, y1, y2, y3, y4, y5, y6, y7, y8, y9, y10⟩) * (pc w.heap.size 32 [vi i, vu g] * (domB h p * (tblP p (setP ps i g ⟨y0, y1, y2, y3, y4, y5, y6, y7, y8, y9, y10⟩) free * (carC bg bc gs cpu * F)))) by (try unfold elB); (try unfold carC); ac_rfl)).dropL.dropL⟩
  · have hn := Lib.hid (setP_none he X2)
    rw [he] at HG ⊢
    clear he HSet HK
    go_enter Try.func34, Try.ntmps34
    go_wp2_with (first
      | (go_at_call 16; refine HG.out.mono ?_; rintro e w1 ⟨rfl, hS1⟩; have hA := hS1.alloc (elO ez); have HTh := Lib.hid (there_ (n := 11) hA rfl); have HA := Lib.hid hA; clear hA hS1)
      | (refine wpList_store_mid rfl 45 _ _ rfl w1.heap.size 0 (elC ⟨v0, v1, v2, v3, v4, v5, v6, v7, v8, v9, v10⟩).toArray (by rfl) (by rfl) HTh.out einfo (all_oneCell_toArray (elOne _)) ?_; have hs := HA.out.stores (elC ⟨v0, v1, v2, v3, v4, v5, v6, v7, v8, v9, v10⟩) 0; rw [setL_full (elC ez) (elC ⟨v0, v1, v2, v3, v4, v5, v6, v7, v8, v9, v10⟩) rfl] at hs; have HS := Lib.hid hs; have HS : Hid (Sat w0 _ ((w1.alloc (elO ez)).setCells w1.heap.size 0 (elC ⟨v0, v1, v2, v3, v4, v5, v6, v7, v8, v9, v10⟩).toArray.toList)) := HS; clear hs; generalize World.setCells _ _ _ _ = w2 at *))
    go_ret
    rw [hn.out]
    exact ⟨rfl, (HS.out.cast (show _ = pc w1.heap.size 45 (elC ⟨v0, v1, v2, v3, v4, v5, v6, v7, v8, v9, v10⟩) * (pc w.heap.size 32 [vi i, vu g] * (domB h p * (tblP p ps free * (carC bg bc gs cpu * F)))) by (try unfold elB); (try unfold carC); ac_rfl)).dropL.dropL⟩
set_option maxRecDepth 100000 in
set_option maxHeartbeats 2000000 in
theorem dm_use (hS : Sat w0 (domB h p * (tblP p ps free * F)) w) (i g n : Int) (hu : getE ps i g = 0 → U64 (getX ps i g).v9) (hn : U64 n) :
    Calls Try.prog 12 #[vp h, vr i g, vu n] w fun e w' => e = .returned (vi (getE ps i g)) ∧ Sat w0 (domB h p * (tblP p (setP ps i g { getX ps i g with v9 := addS (getX ps i g).v9 n }) free * F)) w' := by
  have hB0 := (hS.alloc (.cells #[vi i, vu g] 32)).alloc (.cells #[vu n] 22)
  rw [size1] at hB0
  have hB1 : Sat w0 (pc (w.heap.size + 1) 22 [vu n] * (pc w.heap.size 32 [vi i, vu g] * (domB h p * (tblP p ps free * F)))) ((w.alloc (.cells #[vi i, vu g] 32)).alloc (.cells #[vu n] 22)) := hB0
  have b0 := hB1.pull2.cell 0 rfl
  have b1 := hB1.pull2.cell 1 rfl
  have hB : Sat w0 (domB h p * (tblP p ps free * (pc (w.heap.size + 1) 22 [vu n] * (pc w.heap.size 32 [vi i, vu g] * F)))) _ := hB1.cast (by ac_rfl)
  have HC := Lib.hid (change_use (w.heap.size + 1) n hB i g { getX ps i g with v9 := addS (getX ps i g).v9 n } (fun he b w1 F' h1 => use1_ h1 (hu he) hn))
  clear hS hB0 hB1 hB hu hn
  generalize getE ps i g = er at *
  generalize setP ps i g _ = ps' at *
  go_enter Try.func12, Try.ntmps12
  go_wp2_with (go_at_call 34; refine HC.out.mono ?_; rintro e w1 ⟨rfl, hS1⟩; have H1 := Lib.hid hS1; clear hS1)
  go_ret
  exact ⟨rfl, (H1.out.cast (show _ = pc (w.heap.size + 1) 22 [vu n] * (pc w.heap.size 32 [vi i, vu g] * (domB h p * (tblP p ps' free * F))) by ac_rfl)).dropL.dropL⟩
set_option maxRecDepth 100000 in
set_option maxHeartbeats 2000000 in
theorem dm_clear (hS : Sat w0 (domB h p * (tblP p ps free * F)) w) (i g : Int) :
    Calls Try.prog 40 #[vp h, vr i g] w fun e w' => e = .returned (vi (getE ps i g)) ∧ Sat w0 (domB h p * (tblP p (setP ps i g { getX ps i g with v9 := 0 }) free * F)) w' := by
  have hB1 : Sat w0 (pc w.heap.size 32 [vi i, vu g] * (domB h p * (tblP p ps free * F))) (w.alloc (.cells #[vi i, vu g] 32)) := hS.alloc (.cells #[vi i, vu g] 32)
  have b0 := hB1.cell 0 rfl
  have b1 := hB1.cell 1 rfl
  have hB : Sat w0 (domB h p * (tblP p ps free * (pc w.heap.size 32 [vi i, vu g] * F))) _ := hB1.cast (by ac_rfl)
  have HC := Lib.hid (change_clear hB i g { getX ps i g with v9 := 0 } (fun he b w1 F' h1 => clear1_ h1))
  clear hS hB1 hB
  generalize getE ps i g = er at *
  generalize setP ps i g _ = ps' at *
  go_enter Try.func40, Try.ntmps40
  go_wp2_with (go_at_call 34; refine HC.out.mono ?_; rintro e w1 ⟨rfl, hS1⟩; have H1 := Lib.hid hS1; clear hS1)
  go_ret
  exact ⟨rfl, (H1.out.cast (show _ = pc w.heap.size 32 [vi i, vu g] * (domB h p * (tblP p ps' free * F)) by ac_rfl)).dropL⟩
end
end Go.Proofs.Ytfioghpnehfjhaa.Dm
