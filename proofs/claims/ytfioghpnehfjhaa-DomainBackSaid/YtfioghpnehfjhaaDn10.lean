/-
  Package domain: Join, Leave. No statement is proved here.
-/
import Derived.Test.YtfioghpnehfjhaaDn9
namespace Go.Proofs.Ytfioghpnehfjhaa.Dm
open Go.RowKit Ad
set_option linter.unusedVariables false
set_option linter.unusedSimpArgs false

section
variable {w0 w : World} {F : Hp} {h p : Nat} {ps : List Pl} {free : List Nat}
set_option maxRecDepth 100000 in
set_option maxHeartbeats 2000000 in
theorem join_stale (hS : Sat w0 (domB h p * (tblP p ps free * F)) w) (i g : Int) (he : getE ps i g = 11) :
    Calls Try.prog 50 #[vp h, vr i g] w fun e w' => e = .returned (vi 11) ∧ Sat w0 (domB h p * (tblP p ps free * F)) w' := by
  have hB0 : Sat w0 (pc w.heap.size 32 [vi i, vu g] * (domB h p * (tblP p ps free * F))) (w.alloc (.cells #[vi i, vu g] 32)) := hS.alloc (.cells #[vi i, vu g] 32)
  have b0 := hB0.cell 0 rfl
  have b1 := hB0.cell 1 rfl
  have hB : Sat w0 (domB h p * (tblP p ps free * (pc w.heap.size 32 [vi i, vu g] * F))) (w.alloc (.cells #[vi i, vu g] 32)) := hB0.cast (by ac_rfl)
  have HG := Lib.hid (dm_get hB i g)
  rw [he] at HG
  clear hS hB hB0 he
  generalize getX ps i g = x at *
  obtain ⟨v0, v1, v2, v3, v4, v5, v6, v7, v8, v9, v10⟩ := x
  go_enter Try.func50, Try.ntmps50
  go_wp2_with (first
    | (go_at_call 16; refine HG.out.mono ?_; rintro e w1 ⟨rfl, hS1⟩; have hA := hS1.alloc (elO ez); have HTh := Lib.hid (there_ (n := 11) hA rfl); have HA := Lib.hid hA; clear hA hS1)
    | (refine wpList_store_mid rfl 45 _ _ rfl w1.heap.size 0 (elC ⟨v0, v1, v2, v3, v4, v5, v6, v7, v8, v9, v10⟩).toArray (by rfl) (by rfl) HTh.out einfo (all_oneCell_toArray (elOne _)) ?_; have hs := HA.out.stores (elC ⟨v0, v1, v2, v3, v4, v5, v6, v7, v8, v9, v10⟩) 0; rw [setL_full (elC ez) (elC ⟨v0, v1, v2, v3, v4, v5, v6, v7, v8, v9, v10⟩) rfl] at hs; have HS := Lib.hid hs; have HS : Hid (Sat w0 _ ((w1.alloc (elO ez)).setCells w1.heap.size 0 (elC ⟨v0, v1, v2, v3, v4, v5, v6, v7, v8, v9, v10⟩).toArray.toList)) := HS; clear hs; generalize World.setCells _ _ _ _ = w2 at *))
  go_ret
  exact ⟨rfl, (HS.out.cast (show _ = pc w1.heap.size 45 (elC ⟨v0, v1, v2, v3, v4, v5, v6, v7, v8, v9, v10⟩) * (pc w.heap.size 32 [vi i, vu g] * (domB h p * (tblP p ps free * F))) by (try unfold elB); ac_rfl)).dropL.dropL⟩
set_option maxRecDepth 100000 in
set_option maxHeartbeats 2000000 in
theorem leave_stale (hS : Sat w0 (domB h p * (tblP p ps free * F)) w) (i g : Int) (he : getE ps i g = 11) :
    Calls Try.prog 53 #[vp h, vr i g] w fun e w' => e = .returned (vi 11) ∧ Sat w0 (domB h p * (tblP p ps free * F)) w' := by
  have hB0 : Sat w0 (pc w.heap.size 32 [vi i, vu g] * (domB h p * (tblP p ps free * F))) (w.alloc (.cells #[vi i, vu g] 32)) := hS.alloc (.cells #[vi i, vu g] 32)
  have b0 := hB0.cell 0 rfl
  have b1 := hB0.cell 1 rfl
  have hB : Sat w0 (domB h p * (tblP p ps free * (pc w.heap.size 32 [vi i, vu g] * F))) (w.alloc (.cells #[vi i, vu g] 32)) := hB0.cast (by ac_rfl)
  have HG := Lib.hid (dm_get hB i g)
  rw [he] at HG
  clear hS hB hB0 he
  generalize getX ps i g = x at *
  obtain ⟨v0, v1, v2, v3, v4, v5, v6, v7, v8, v9, v10⟩ := x
  go_enter Try.func53, Try.ntmps53
  go_wp2_with (first
    | (go_at_call 16; refine HG.out.mono ?_; rintro e w1 ⟨rfl, hS1⟩; have hA := hS1.alloc (elO ez); have HTh := Lib.hid (there_ (n := 11) hA rfl); have HA := Lib.hid hA; clear hA hS1)
    | (refine wpList_store_mid rfl 45 _ _ rfl w1.heap.size 0 (elC ⟨v0, v1, v2, v3, v4, v5, v6, v7, v8, v9, v10⟩).toArray (by rfl) (by rfl) HTh.out einfo (all_oneCell_toArray (elOne _)) ?_; have hs := HA.out.stores (elC ⟨v0, v1, v2, v3, v4, v5, v6, v7, v8, v9, v10⟩) 0; rw [setL_full (elC ez) (elC ⟨v0, v1, v2, v3, v4, v5, v6, v7, v8, v9, v10⟩) rfl] at hs; have HS := Lib.hid hs; have HS : Hid (Sat w0 _ ((w1.alloc (elO ez)).setCells w1.heap.size 0 (elC ⟨v0, v1, v2, v3, v4, v5, v6, v7, v8, v9, v10⟩).toArray.toList)) := HS; clear hs; generalize World.setCells _ _ _ _ = w2 at *))
  go_ret
  exact ⟨rfl, (HS.out.cast (show _ = pc w1.heap.size 45 (elC ⟨v0, v1, v2, v3, v4, v5, v6, v7, v8, v9, v10⟩) * (pc w.heap.size 32 [vi i, vu g] * (domB h p * (tblP p ps free * F))) by (try unfold elB); ac_rfl)).dropL.dropL⟩
set_option maxRecDepth 100000 in
set_option maxHeartbeats 2000000 in
theorem join_quota (hS : Sat w0 (domB h p * (tblP p ps free * F)) w) (i g : Int) (he : getE ps i g = 0) (hx : DomOk (getX ps i g)) (hq : (getX ps i g).v2 - (getX ps i g).v5 ≤ (getX ps i g).v7) :
    Calls Try.prog 50 #[vp h, vr i g] w fun e w' => e = .returned (vi 15) ∧ Sat w0 (domB h p * (tblP p ps free * F)) w' := by
  have hB0 : Sat w0 (pc w.heap.size 32 [vi i, vu g] * (domB h p * (tblP p ps free * F))) (w.alloc (.cells #[vi i, vu g] 32)) := hS.alloc (.cells #[vi i, vu g] 32)
  have b0 := hB0.cell 0 rfl
  have b1 := hB0.cell 1 rfl
  have hB : Sat w0 (domB h p * (tblP p ps free * (pc w.heap.size 32 [vi i, vu g] * F))) (w.alloc (.cells #[vi i, vu g] 32)) := hB0.cast (by ac_rfl)
  have HG := Lib.hid (dm_get hB i g)
  rw [he] at HG
  clear hS hB hB0 he
  generalize getX ps i g = x at *
  obtain ⟨v0, v1, v2, v3, v4, v5, v6, v7, v8, v9, v10⟩ := x
  simp only [DomOk] at *
  have hw : IntKind.i64.wrap (v2 - v5) = v2 - v5 := IntWalk.i64_in _ (by omega)
  go_enter Try.func50, Try.ntmps50
  go_wp2_with (first
    | (go_at_call 16; refine HG.out.mono ?_; rintro e w1 ⟨rfl, hS1⟩; have hA := hS1.alloc (elO ez); have HTh := Lib.hid (there_ (n := 11) hA rfl); have HA := Lib.hid hA; clear hA hS1)
    | (refine wpList_store_mid rfl 45 _ _ rfl w1.heap.size 0 (elC ⟨v0, v1, v2, v3, v4, v5, v6, v7, v8, v9, v10⟩).toArray (by rfl) (by rfl) HTh.out einfo (all_oneCell_toArray (elOne _)) ?_; have hs := HA.out.stores (elC ⟨v0, v1, v2, v3, v4, v5, v6, v7, v8, v9, v10⟩) 0; rw [setL_full (elC ez) (elC ⟨v0, v1, v2, v3, v4, v5, v6, v7, v8, v9, v10⟩) rfl] at hs; have HS := Lib.hid hs; have HS : Hid (Sat w0 _ ((w1.alloc (elO ez)).setCells w1.heap.size 0 (elC ⟨v0, v1, v2, v3, v4, v5, v6, v7, v8, v9, v10⟩).toArray.toList)) := HS; clear hs; generalize World.setCells _ _ _ _ = w2 at *; have c7 := HS.out.cell 7 rfl; have c2 := HS.out.cell 2 rfl; have c5 := HS.out.cell 5 rfl; have b0' := HS.out.pull4.cell 0 rfl; have b1' := HS.out.pull4.cell 1 rfl))
  go_ret
  exact ⟨rfl, (HS.out.cast (show _ = pc w1.heap.size 45 (elC ⟨v0, v1, v2, v3, v4, v5, v6, v7, v8, v9, v10⟩) * (pc w.heap.size 32 [vi i, vu g] * (domB h p * (tblP p ps free * F))) by (try unfold elB); ac_rfl)).dropL.dropL⟩
set_option maxRecDepth 100000 in
set_option maxHeartbeats 2000000 in
theorem leave_state (hS : Sat w0 (domB h p * (tblP p ps free * F)) w) (i g : Int) (he : getE ps i g = 0) (hq : (getX ps i g).v7 = 0) :
    Calls Try.prog 53 #[vp h, vr i g] w fun e w' => e = .returned (vi 5) ∧ Sat w0 (domB h p * (tblP p ps free * F)) w' := by
  have hB0 : Sat w0 (pc w.heap.size 32 [vi i, vu g] * (domB h p * (tblP p ps free * F))) (w.alloc (.cells #[vi i, vu g] 32)) := hS.alloc (.cells #[vi i, vu g] 32)
  have b0 := hB0.cell 0 rfl
  have b1 := hB0.cell 1 rfl
  have hB : Sat w0 (domB h p * (tblP p ps free * (pc w.heap.size 32 [vi i, vu g] * F))) (w.alloc (.cells #[vi i, vu g] 32)) := hB0.cast (by ac_rfl)
  have HG := Lib.hid (dm_get hB i g)
  rw [he] at HG
  clear hS hB hB0 he
  generalize getX ps i g = x at *
  obtain ⟨v0, v1, v2, v3, v4, v5, v6, v7, v8, v9, v10⟩ := x
  simp only at hq
  have hqb : (v7 == 0) = true := beq_iff_eq.2 hq
  clear hq
  go_enter Try.func53, Try.ntmps53
  go_wp2_with (first
    | (go_at_call 16; refine HG.out.mono ?_; rintro e w1 ⟨rfl, hS1⟩; have hA := hS1.alloc (elO ez); have HTh := Lib.hid (there_ (n := 11) hA rfl); have HA := Lib.hid hA; clear hA hS1)
    | (refine wpList_store_mid rfl 45 _ _ rfl w1.heap.size 0 (elC ⟨v0, v1, v2, v3, v4, v5, v6, v7, v8, v9, v10⟩).toArray (by rfl) (by rfl) HTh.out einfo (all_oneCell_toArray (elOne _)) ?_; have hs := HA.out.stores (elC ⟨v0, v1, v2, v3, v4, v5, v6, v7, v8, v9, v10⟩) 0; rw [setL_full (elC ez) (elC ⟨v0, v1, v2, v3, v4, v5, v6, v7, v8, v9, v10⟩) rfl] at hs; have HS := Lib.hid hs; have HS : Hid (Sat w0 _ ((w1.alloc (elO ez)).setCells w1.heap.size 0 (elC ⟨v0, v1, v2, v3, v4, v5, v6, v7, v8, v9, v10⟩).toArray.toList)) := HS; clear hs; generalize World.setCells _ _ _ _ = w2 at *; have c7 := HS.out.cell 7 rfl; have c2 := HS.out.cell 2 rfl; have c5 := HS.out.cell 5 rfl; have b0' := HS.out.pull4.cell 0 rfl; have b1' := HS.out.pull4.cell 1 rfl))
  go_ret
  exact ⟨rfl, (HS.out.cast (show _ = pc w1.heap.size 45 (elC ⟨v0, v1, v2, v3, v4, v5, v6, v7, v8, v9, v10⟩) * (pc w.heap.size 32 [vi i, vu g] * (domB h p * (tblP p ps free * F))) by (try unfold elB); ac_rfl)).dropL.dropL⟩
set_option maxRecDepth 100000 in
set_option maxHeartbeats 2000000 in
theorem join_ok (hS : Sat w0 (domB h p * (tblP p ps free * F)) w) (r : Nat) (g : Int) (he : getE ps r g = 0) (c : List Nat) (hC : Ch ps ((r : Int), g) (c.map (rfp ps))) (hnd : c.Nodup) (hb : ∀ (k : Nat) (a : Pl), ps[k]? = some a → -1000 ≤ a.x.v7 ∧ a.x.v7 ≤ 1000000 ∧ -1000 ≤ a.x.v8 ∧ a.x.v8 ≤ 1000000) (hx : DomOk (getX ps r g)) (hq : (getX ps r g).v7 < (getX ps r g).v2 - (getX ps r g).v5) :
    Calls Try.prog 50 #[vp h, vr r g] w fun e w' => e = .returned (vi 0) ∧ Sat w0 (domB h p * (tblP p (livP ps c (1) r) free * F)) w' := by
  have hB0 : Sat w0 (pc w.heap.size 32 [vi r, vu g] * (domB h p * (tblP p ps free * F))) (w.alloc (.cells #[vi r, vu g] 32)) := hS.alloc (.cells #[vi r, vu g] 32)
  have b0 := hB0.cell 0 rfl
  have b1 := hB0.cell 1 rfl
  have hB : Sat w0 (domB h p * (tblP p ps free * (pc w.heap.size 32 [vi r, vu g] * F))) (w.alloc (.cells #[vi r, vu g] 32)) := hB0.cast (by ac_rfl)
  have HG := Lib.hid (dm_get hB r g)
  rw [he] at HG
  have HL : Hid (∀ (w1 : World) (G : Hp), Sat w0 (domB h p * (tblP p ps free * G)) w1 → Calls Try.prog 73 #[vp h, vr r g, vi (1)] w1 fun e w' => e = .returned (vi 0) ∧ Sat w0 (domB h p * (tblP p (livP ps c (1) r) free * G)) w') := Lib.hid fun w1 G h1 => dm_live h1 r g (1) c hC hnd hb ⟨by omega, by omega⟩
  clear hC hb hnd
  clear hS hB hB0 he
  generalize getX ps r g = x at *
  obtain ⟨v0, v1, v2, v3, v4, v5, v6, v7, v8, v9, v10⟩ := x
  simp only [DomOk] at *
  have hw : IntKind.i64.wrap (v2 - v5) = v2 - v5 := IntWalk.i64_in _ (by omega)
  go_enter Try.func50, Try.ntmps50
  go_wp2_with (first
    | (go_at_call 16; refine HG.out.mono ?_; rintro e w1 ⟨rfl, hS1⟩; have hA := hS1.alloc (elO ez); have HTh := Lib.hid (there_ (n := 11) hA rfl); have HA := Lib.hid hA; clear hA hS1)
    | (refine wpList_store_mid rfl 45 _ _ rfl w1.heap.size 0 (elC ⟨v0, v1, v2, v3, v4, v5, v6, v7, v8, v9, v10⟩).toArray (by rfl) (by rfl) HTh.out einfo (all_oneCell_toArray (elOne _)) ?_; have hs := HA.out.stores (elC ⟨v0, v1, v2, v3, v4, v5, v6, v7, v8, v9, v10⟩) 0; rw [setL_full (elC ez) (elC ⟨v0, v1, v2, v3, v4, v5, v6, v7, v8, v9, v10⟩) rfl] at hs; have HS := Lib.hid hs; have HS : Hid (Sat w0 _ ((w1.alloc (elO ez)).setCells w1.heap.size 0 (elC ⟨v0, v1, v2, v3, v4, v5, v6, v7, v8, v9, v10⟩).toArray.toList)) := HS; clear hs; generalize World.setCells _ _ _ _ = w2 at *; have c7 := HS.out.cell 7 rfl; have c2 := HS.out.cell 2 rfl; have c5 := HS.out.cell 5 rfl; have b0' := HS.out.pull4.cell 0 rfl; have b1' := HS.out.pull4.cell 1 rfl)
    | (go_at_call 73; refine (HL.out _ _ (HS.out.cast (show _ = (domB h p * (tblP p ps free * (elB w1.heap.size ⟨v0, v1, v2, v3, v4, v5, v6, v7, v8, v9, v10⟩ * (pc w.heap.size 32 [vi r, vu g] * F)))) by (try unfold elB); ac_rfl))).mono ?_; rintro e w5 ⟨rfl, hS5⟩; have H5 := Lib.hid hS5; clear hS5))
  go_ret
  exact ⟨rfl, (H5.out.cast (show _ = elB w1.heap.size ⟨v0, v1, v2, v3, v4, v5, v6, v7, v8, v9, v10⟩ * (pc w.heap.size 32 [vi r, vu g] * (domB h p * (tblP p (livP ps c (1) r) free * F))) by (try unfold elB); ac_rfl)).dropL.dropL⟩
set_option maxRecDepth 100000 in
set_option maxHeartbeats 2000000 in
theorem leave_ok (hS : Sat w0 (domB h p * (tblP p ps free * F)) w) (r : Nat) (g : Int) (he : getE ps r g = 0) (c : List Nat) (hC : Ch ps ((r : Int), g) (c.map (rfp ps))) (hnd : c.Nodup) (hb : ∀ (k : Nat) (a : Pl), ps[k]? = some a → -1000 ≤ a.x.v7 ∧ a.x.v7 ≤ 1000000 ∧ -1000 ≤ a.x.v8 ∧ a.x.v8 ≤ 1000000) (hq : (getX ps r g).v7 ≠ 0) :
    Calls Try.prog 53 #[vp h, vr r g] w fun e w' => e = .returned (vi 0) ∧ Sat w0 (domB h p * (tblP p (livP ps c (-1) r) free * F)) w' := by
  have hB0 : Sat w0 (pc w.heap.size 32 [vi r, vu g] * (domB h p * (tblP p ps free * F))) (w.alloc (.cells #[vi r, vu g] 32)) := hS.alloc (.cells #[vi r, vu g] 32)
  have b0 := hB0.cell 0 rfl
  have b1 := hB0.cell 1 rfl
  have hB : Sat w0 (domB h p * (tblP p ps free * (pc w.heap.size 32 [vi r, vu g] * F))) (w.alloc (.cells #[vi r, vu g] 32)) := hB0.cast (by ac_rfl)
  have HG := Lib.hid (dm_get hB r g)
  rw [he] at HG
  have HL : Hid (∀ (w1 : World) (G : Hp), Sat w0 (domB h p * (tblP p ps free * G)) w1 → Calls Try.prog 73 #[vp h, vr r g, vi (-1)] w1 fun e w' => e = .returned (vi 0) ∧ Sat w0 (domB h p * (tblP p (livP ps c (-1) r) free * G)) w') := Lib.hid fun w1 G h1 => dm_live h1 r g (-1) c hC hnd hb ⟨by omega, by omega⟩
  clear hC hb hnd
  clear hS hB hB0 he
  generalize getX ps r g = x at *
  obtain ⟨v0, v1, v2, v3, v4, v5, v6, v7, v8, v9, v10⟩ := x
  simp only at hq
  have hqb : (v7 == 0) = false := beq_eq_false_iff_ne.2 hq
  go_enter Try.func53, Try.ntmps53
  go_wp2_with (first
    | (go_at_call 16; refine HG.out.mono ?_; rintro e w1 ⟨rfl, hS1⟩; have hA := hS1.alloc (elO ez); have HTh := Lib.hid (there_ (n := 11) hA rfl); have HA := Lib.hid hA; clear hA hS1)
    | (refine wpList_store_mid rfl 45 _ _ rfl w1.heap.size 0 (elC ⟨v0, v1, v2, v3, v4, v5, v6, v7, v8, v9, v10⟩).toArray (by rfl) (by rfl) HTh.out einfo (all_oneCell_toArray (elOne _)) ?_; have hs := HA.out.stores (elC ⟨v0, v1, v2, v3, v4, v5, v6, v7, v8, v9, v10⟩) 0; rw [setL_full (elC ez) (elC ⟨v0, v1, v2, v3, v4, v5, v6, v7, v8, v9, v10⟩) rfl] at hs; have HS := Lib.hid hs; have HS : Hid (Sat w0 _ ((w1.alloc (elO ez)).setCells w1.heap.size 0 (elC ⟨v0, v1, v2, v3, v4, v5, v6, v7, v8, v9, v10⟩).toArray.toList)) := HS; clear hs; generalize World.setCells _ _ _ _ = w2 at *; have c7 := HS.out.cell 7 rfl; have c2 := HS.out.cell 2 rfl; have c5 := HS.out.cell 5 rfl; have b0' := HS.out.pull4.cell 0 rfl; have b1' := HS.out.pull4.cell 1 rfl)
    | (go_at_call 73; refine (HL.out _ _ (HS.out.cast (show _ = (domB h p * (tblP p ps free * (elB w1.heap.size ⟨v0, v1, v2, v3, v4, v5, v6, v7, v8, v9, v10⟩ * (pc w.heap.size 32 [vi r, vu g] * F)))) by (try unfold elB); ac_rfl))).mono ?_; rintro e w5 ⟨rfl, hS5⟩; have H5 := Lib.hid hS5; clear hS5))
  go_ret
  exact ⟨rfl, (H5.out.cast (show _ = elB w1.heap.size ⟨v0, v1, v2, v3, v4, v5, v6, v7, v8, v9, v10⟩ * (pc w.heap.size 32 [vi r, vu g] * (domB h p * (tblP p (livP ps c (-1) r) free * F))) by (try unfold elB); ac_rfl)).dropL.dropL⟩
end
end Go.Proofs.Ytfioghpnehfjhaa.Dm
