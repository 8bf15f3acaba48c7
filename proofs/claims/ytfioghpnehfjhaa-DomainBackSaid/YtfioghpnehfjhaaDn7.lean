/-
  Package domain: live's closure; change at it. No statement is proved here.
-/
import Derived.Test.YtfioghpnehfjhaaDn6
import Derived.Test.YtfioghpnehfjhaaDn5
namespace Go.Proofs.Ytfioghpnehfjhaa.Dm
open Go.RowKit Ad
set_option linter.unusedVariables false
set_option linter.unusedSimpArgs false

abbrev liveX (x : El) (more : Int) (s : Bool) : El := { x with v8 := x.v8 + more, v7 := if s then x.v7 + more else x.v7 }
abbrev livC (bm ba br : Nat) (more ai ag ri rg : Int) : Hp := pc bm 3 [vi more] * (pc ba 32 [vi ai, vu ag] * pc br 32 [vi ri, vu rg])
section
variable {w0 w : World} {F : Hp} {h p : Nat} {ps : List Pl} {free : List Nat}
set_option maxRecDepth 100000 in
set_option maxHeartbeats 2000000 in
theorem live1_no {b bm ba br : Nat} {more i g r rg : Int} {x : El} (hS : Sat w0 (elB b x * (pc bm 3 [vi more] * (pc ba 32 [vi i, vu g] * (pc br 32 [vi r, vu rg] * F)))) w) (h8 : IntKind.i64.wrap (x.v8 + more) = x.v8 + more) (hne : i ≠ r) :
    Calls Try.prog 80 #[vp b, vp bm, vp ba, vp br] w fun e w' => (∃ v, e = .returned v) ∧ Sat w0 (elB b (liveX x more false) * (pc bm 3 [vi more] * (pc ba 32 [vi i, vu g] * (pc br 32 [vi r, vu rg] * F)))) w' := by
  obtain ⟨v0, v1, v2, v3, v4, v5, v6, v7, v8, v9, v10⟩ := x
  simp only at h8
  have c8 := hS.cell 8 rfl
  have f8 := hS.free 8
  have cm := hS.pull2.cell 0 rfl
  have hS1 := hS.store 8 (vi (v8 + more))
  have a0 := hS1.pull3.cell 0 rfl
  have a1 := hS1.pull3.cell 1 rfl
  have r0 := hS1.pull4.cell 0 rfl
  have r1 := hS1.pull4.cell 1 rfl
  have hb : (i == r) = false := beq_eq_false_iff_ne.2 hne
  have HST : Hid (Sat w0 (elB b (liveX ⟨v0, v1, v2, v3, v4, v5, v6, v7, v8, v9, v10⟩ more false) * (pc bm 3 [vi more] * (pc ba 32 [vi i, vu g] * (pc br 32 [vi r, vu rg] * F)))) _) := Lib.hid hS1
  clear hS hS1 hne
  go_enter Try.func80, Try.ntmps80
  go_wp2
  refine wp_quiet_tail 6 (by kernel_rfl) (by kernel_rfl) ?_
  simp only [List.take_succ_cons, List.take_zero, List.drop_succ_cons, List.drop_zero]
  repeat (go_big_quiet_step (fail))
  refine wpQuiet_nil ?_
  go_wp2
  go_end0
  first | exact ⟨⟨_, rfl⟩, HST.out⟩ | exact ⟨⟨_, rfl⟩, HST.out.drew⟩ | exact ⟨⟨_, rfl⟩, HST.out.drew.drew⟩
set_option maxRecDepth 100000 in
set_option maxHeartbeats 2000000 in
theorem live1_yes {b bm ba br : Nat} {more i g r rg : Int} {x : El} (hS : Sat w0 (elB b x * (pc bm 3 [vi more] * (pc ba 32 [vi i, vu g] * (pc br 32 [vi r, vu rg] * F)))) w) (h8 : IntKind.i64.wrap (x.v8 + more) = x.v8 + more) (h7 : IntKind.i64.wrap (x.v7 + more) = x.v7 + more) (he : i = r) (he2 : g = rg) :
    Calls Try.prog 80 #[vp b, vp bm, vp ba, vp br] w fun e w' => (∃ v, e = .returned v) ∧ Sat w0 (elB b (liveX x more true) * (pc bm 3 [vi more] * (pc ba 32 [vi i, vu g] * (pc br 32 [vi r, vu rg] * F)))) w' := by
  subst he he2
  obtain ⟨v0, v1, v2, v3, v4, v5, v6, v7, v8, v9, v10⟩ := x
  simp only at h8 h7
  have c8 := hS.cell 8 rfl
  have f8 := hS.free 8
  have cm := hS.pull2.cell 0 rfl
  have hS1 := hS.store 8 (vi (v8 + more))
  have a0 := hS1.pull3.cell 0 rfl
  have a1 := hS1.pull3.cell 1 rfl
  have r0 := hS1.pull4.cell 0 rfl
  have r1 := hS1.pull4.cell 1 rfl
  have cm1 := hS1.pull2.cell 0 rfl
  have c7 := hS1.cell 7 rfl
  have f7 := hS1.free 7
  have hS2 := hS1.store 7 (vi (v7 + more))
  have HST : Hid (Sat w0 (elB b (liveX ⟨v0, v1, v2, v3, v4, v5, v6, v7, v8, v9, v10⟩ more true) * (pc bm 3 [vi more] * (pc ba 32 [vi i, vu g] * (pc br 32 [vi i, vu g] * F)))) _) := Lib.hid hS2
  clear hS hS1 hS2
  go_enter Try.func80, Try.ntmps80
  go_wp2
  refine wp_quiet_tail 6 (by kernel_rfl) (by kernel_rfl) ?_
  simp only [List.take_succ_cons, List.take_zero, List.drop_succ_cons, List.drop_zero]
  repeat (go_big_quiet_step (fail))
  refine wpQuiet_nil ?_
  go_wp2
  refine wp_quiet_tail 6 (by kernel_rfl) (by kernel_rfl) ?_
  simp only [List.take_succ_cons, List.take_zero, List.drop_succ_cons, List.drop_zero]
  repeat (go_big_quiet_step (fail))
  refine wpQuiet_nil ?_
  go_wp2
  go_end0
  first | exact ⟨⟨_, rfl⟩, HST.out⟩ | exact ⟨⟨_, rfl⟩, HST.out.drew⟩ | exact ⟨⟨_, rfl⟩, HST.out.drew.drew⟩
set_option maxRecDepth 100000 in
set_option maxHeartbeats 2000000 in
theorem change_live (bm ba br : Nat) (more ai ag ri rg : Int) (hS : Sat w0 (domB h p * (tblP p ps free * (livC bm ba br more ai ag ri rg * F))) w) (i g : Int) (X2 : El)
    (hK : getE ps i g = 0 → ∀ (b : Nat) (w1 : World) (F' : Hp), Sat w0 (elB b (getX ps i g) * (livC bm ba br more ai ag ri rg * F')) w1 → Calls Try.prog 80 #[vp b, vp bm, vp ba, vp br] w1 fun e w' => (∃ v, e = .returned v) ∧ Sat w0 (elB b X2 * (livC bm ba br more ai ag ri rg * F')) w') :
    Calls Try.prog 34 #[vp h, vr i g, .func (.func 80) #[] #[vp bm, vp ba, vp br]] w fun e w' => e = .returned (vi (getE ps i g)) ∧ Sat w0 (domB h p * (tblP p (setP ps i g X2) free * (livC bm ba br more ai ag ri rg * F))) w' := by
  have hB0 : Sat w0 (pc w.heap.size 32 [vi i, vu g] * (domB h p * (tblP p ps free * (livC bm ba br more ai ag ri rg * F)))) (w.alloc (.cells #[vi i, vu g] 32)) := hS.alloc (.cells #[vi i, vu g] 32)
  have hB : Sat w0 (domB h p * (tblP p ps free * (pc w.heap.size 32 [vi i, vu g] * (livC bm ba br more ai ag ri rg * F)))) (w.alloc (.cells #[vi i, vu g] 32)) := hB0.cast (by ac_rfl)
  have HG := Lib.hid (dm_get hB i g)
  have HSet : Hid (∀ (w1 : World) (G : Hp) (x : El), Sat w0 (tblP p ps free * G) w1 → Calls Try.prog 65 #[vp p, vr i g, ev x] w1 fun e w' => e = .returned (vi (getE ps i g)) ∧ Sat w0 (tblP p (setP ps i g x) free * G) w') := Lib.hid fun w1 G x h1 => set_ h1 i g x
  have HE := getE_cases ps i g
  have HK := Lib.hid hK
  clear hS hB hB0 hK
  generalize getX ps i g = x at *
  obtain ⟨v0, v1, v2, v3, v4, v5, v6, v7, v8, v9, v10⟩ := x
  rcases HE with he | he
  · rw [he] at HG HSet HK ⊢
    have HK2 := Lib.hid (HK.out rfl)
    clear HK
    clear he
    obtain ⟨y0, y1, y2, y3, y4, y5, y6, y7, y8, y9, y10⟩ := X2
    go_enter Try.func34, Try.ntmps34
    go_wp2_with (first
      | (go_at_call 16; refine HG.out.mono ?_; rintro e w1 ⟨rfl, hS1⟩; have hA := hS1.alloc (elO ez); have HTh := Lib.hid (there_ (n := 11) hA rfl); have HA := Lib.hid hA; clear hA hS1)
      | (refine wpList_store_mid rfl 45 _ _ rfl w1.heap.size 0 (elC ⟨v0, v1, v2, v3, v4, v5, v6, v7, v8, v9, v10⟩).toArray (by rfl) (by rfl) HTh.out einfo (all_oneCell_toArray (elOne _)) ?_; have hs := HA.out.stores (elC ⟨v0, v1, v2, v3, v4, v5, v6, v7, v8, v9, v10⟩) 0; rw [setL_full (elC ez) (elC ⟨v0, v1, v2, v3, v4, v5, v6, v7, v8, v9, v10⟩) rfl] at hs; have HS := Lib.hid hs; have HS : Hid (Sat w0 _ ((w1.alloc (elO ez)).setCells w1.heap.size 0 (elC ⟨v0, v1, v2, v3, v4, v5, v6, v7, v8, v9, v10⟩).toArray.toList)) := HS; clear hs; generalize World.setCells _ _ _ _ = w2 at *)
      | (go_at_call 80; refine (HK2.out _ _ (domB h p * (tblP p ps free * (pc w.heap.size 32 [vi i, vu g] * F))) (HS.out.cast (by (try unfold elB); (try unfold livC); ac_rfl))).mono ?_; rintro e w3 ⟨⟨v3, rfl⟩, hS3⟩; have hW : Sat w0 (elB w1.heap.size ⟨y0, y1, y2, y3, y4, y5, y6, y7, y8, y9, y10⟩ * (domB h p * (tblP p ps free * (pc w.heap.size 32 [vi i, vu g] * (livC bm ba br more ai ag ri rg * F))))) w3 := hS3.cast (by (try unfold elB); (try unfold livC); ac_rfl); have c4 := hW.pull2.cell 0 rfl; have b4 := hW.pull4.cell 0 rfl; have b5 := hW.pull4.cell 1 rfl; have HW := Lib.hid hW; clear hW hS3))
    refine wp_quiet_tail 6 (by kernel_rfl) (by kernel_rfl) ?_
    simp only [List.take_succ_cons, List.take_zero, List.drop_succ_cons, List.drop_zero]
    iterate 5 (go_big_quiet_step (fail))
    refine wpQuiet_load_row (by rfl) 45 _ rfl w1.heap.size 0 (by rfl) (elC ⟨y0, y1, y2, y3, y4, y5, y6, y7, y8, y9, y10⟩) _ (fun w' hw' => by subst hw'; exact range_ HW.out.drew) Try.underlying45 rfl einfo ?_
    refine wpQuiet_nil ?_
    go_wp2_with (go_at_call 65; refine (HSet.out _ _ ⟨y0, y1, y2, y3, y4, y5, y6, y7, y8, y9, y10⟩ (HW.out.drew.pull3)).mono ?_; rintro e w5 ⟨rfl, hS5⟩; have H5 := Lib.hid hS5; clear hS5)
    go_ret
    exact ⟨rfl, (H5.out.cast (show _ = pc w1.heap.size 45 (elC ⟨y0, y1, y2, y3, y4, y5, y6, y7, y8, y9, y10⟩) * (pc w.heap.size 32 [vi i, vu g] * (domB h p * (tblP p (setP ps i g ⟨y0, y1, y2, y3, y4, y5, y6, y7, y8, y9, y10⟩) free * (livC bm ba br more ai ag ri rg * F)))) by (try unfold elB); (try unfold livC); ac_rfl)).dropL.dropL⟩
  · have hn := Lib.hid (setP_none he X2)
    rw [he] at HG ⊢
    clear he HSet HK
    go_enter Try.func34, Try.ntmps34
    go_wp2_with (first
      | (go_at_call 16; refine HG.out.mono ?_; rintro e w1 ⟨rfl, hS1⟩; have hA := hS1.alloc (elO ez); have HTh := Lib.hid (there_ (n := 11) hA rfl); have HA := Lib.hid hA; clear hA hS1)
      | (refine wpList_store_mid rfl 45 _ _ rfl w1.heap.size 0 (elC ⟨v0, v1, v2, v3, v4, v5, v6, v7, v8, v9, v10⟩).toArray (by rfl) (by rfl) HTh.out einfo (all_oneCell_toArray (elOne _)) ?_; have hs := HA.out.stores (elC ⟨v0, v1, v2, v3, v4, v5, v6, v7, v8, v9, v10⟩) 0; rw [setL_full (elC ez) (elC ⟨v0, v1, v2, v3, v4, v5, v6, v7, v8, v9, v10⟩) rfl] at hs; have HS := Lib.hid hs; have HS : Hid (Sat w0 _ ((w1.alloc (elO ez)).setCells w1.heap.size 0 (elC ⟨v0, v1, v2, v3, v4, v5, v6, v7, v8, v9, v10⟩).toArray.toList)) := HS; clear hs; generalize World.setCells _ _ _ _ = w2 at *))
    go_ret
    rw [hn.out]
    exact ⟨rfl, (HS.out.cast (show _ = pc w1.heap.size 45 (elC ⟨v0, v1, v2, v3, v4, v5, v6, v7, v8, v9, v10⟩) * (pc w.heap.size 32 [vi i, vu g] * (domB h p * (tblP p ps free * (livC bm ba br more ai ag ri rg * F)))) by (try unfold elB); (try unfold livC); ac_rfl)).dropL.dropL⟩
end
end Go.Proofs.Ytfioghpnehfjhaa.Dm
