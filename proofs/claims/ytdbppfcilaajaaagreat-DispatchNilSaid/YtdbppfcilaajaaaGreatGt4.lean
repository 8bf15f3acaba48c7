/-
  Chapter 16: Turn. No statement is proved here.
-/
import Derived.Test.YtdbppfcilaajaaaGreatMg18
import Derived.Test.YtdbppfcilaajaaaGreatMg17
set_option linter.unusedVariables false
set_option linter.unusedSimpArgs false
namespace Go.Proofs.YtdbppfcilaajaaaGreat.Gt
open Go.RowKit Ag
set_option linter.unusedVariables false

/-- A goroutine turned. -/
def turnX (x : El) (to : Int) : El := { x with v0 := to, v1 := if to = 5 then true else if to = 1 ∨ to = 2 then false else x.v1, v18 := 0 }
def turnE (ps : List Pl) (i g to : Int) : Int := if getE ps i g = 0 then (if turnB (getX ps i g).v0 to then 0 else 5) else 11
def turnP (ps : List Pl) (i g to : Int) : List Pl := if getE ps i g = 0 ∧ turnB (getX ps i g).v0 to = true then setP ps i g (turnX (getX ps i g) to) else ps
theorem getE_cases (ps : List Pl) (i g : Int) : getE ps i g = 0 ∨ getE ps i g = 11 := by
  unfold getE
  split
  · exact .inr rfl
  · exact .inl rfl
theorem setL_full (cs vs : List Value) (h : vs.length = cs.length) : setL cs 0 vs = vs := List.ext_getElem? fun i => by
  by_cases hi : i < vs.length
  · have := setL_in vs cs 0 i hi (by omega)
    rw [Nat.zero_add] at this
    exact this
  · rw [List.getElem?_eq_none (by rw [setL_len]; omega), List.getElem?_eq_none (by omega)]
section
variable {w0 w : World} {F : Hp} {h p : Nat} {ps : List Pl} {free : List Nat}
set_option maxRecDepth 100000 in
set_option maxHeartbeats 2000000 in
theorem gt_turn (hS : Sat w0 (gtB h p * (tblP p ps free * F)) w) (i g to : Int) : Calls Tryz.prog 23 #[vp h, vr i g, vi to] w fun e w' => e = .returned (vi (turnE ps i g to)) ∧ Sat w0 (gtB h p * (tblP p (turnP ps i g to) free * F)) w' := by
  have hB0 : Sat w0 (pc w.heap.size 30 [vi i, vu g] * (gtB h p * (tblP p ps free * F))) (w.alloc (.cells #[vi i, vu g] 30)) := hS.alloc (.cells #[vi i, vu g] 30)
  have hB : Sat w0 (gtB h p * (tblP p ps free * (pc w.heap.size 30 [vi i, vu g] * F))) (w.alloc (.cells #[vi i, vu g] 30)) := hB0.cast (by ac_rfl)
  have HG := Lib.hid (gt_get hB i g)
  have HSet : Hid (∀ (w1 : World) (G : Hp) (x : El), Sat w0 (tblP p ps free * G) w1 → Calls Tryz.prog 83 #[vp p, vr i g, ev x] w1 fun e w' => e = .returned (vi (getE ps i g)) ∧ Sat w0 (tblP p (setP ps i g x) free * G) w') := Lib.hid fun w1 G x h1 => set_ h1 i g x
  have HE := getE_cases ps i g
  unfold turnE turnP
  clear hS hB hB0
  generalize getX ps i g = x at *
  obtain ⟨v0, v1, v2, v3, v4, v5, v6, v7, v8, v9, v10, v11, v12, v13, v14, v15, v16, v17, v18⟩ := x
  rcases HE with he | he
  · rw [he] at HG HSet ⊢
    rw [if_pos rfl]
    clear he
    cases ht : turnB v0 to with
    | false =>
      rw [if_neg (by simp), if_neg (by simp)]
      have HT : Hid (∀ (w1 : World) (G : Hp), Sat w0 G w1 → Calls Tryz.prog 82 #[vi v0, vi to] w1 fun e w' => e = .returned (.bool false) ∧ Sat w0 G w') := Lib.hid fun w1 G h1 => by
        have := g_turns h1 v0 to
        rwa [ht] at this
      clear ht HSet
      go_enter Tryz.func23, Tryz.ntmps23
      go_wp2_with (first
        | (go_at_call 81; refine HG.out.mono ?_; rintro e w1 ⟨rfl, hS1⟩; have hA := hS1.alloc (elO ez); have HTh := Lib.hid (there_ (n := 19) hA rfl); have HA := Lib.hid hA; clear hA hS1)
        | (refine wpList_store_mid rfl 134 _ _ rfl w1.heap.size 0 (elC ⟨v0, v1, v2, v3, v4, v5, v6, v7, v8, v9, v10, v11, v12, v13, v14, v15, v16, v17, v18⟩).toArray (by rfl) (by rfl) HTh.out einfo (all_oneCell_toArray (elOne _)) ?_; have HS := Lib.hid (HA.out.stores (elC ⟨v0, v1, v2, v3, v4, v5, v6, v7, v8, v9, v10, v11, v12, v13, v14, v15, v16, v17, v18⟩) 0); have hrg := World.rangeAt_setCells_same _ w1.heap.size 0 (elC ⟨v0, v1, v2, v3, v4, v5, v6, v7, v8, v9, v10, v11, v12, v13, v14, v15, v16, v17, v18⟩) HTh.out; have HS : Hid (Sat w0 _ ((w1.alloc (elO ez)).setCells w1.heap.size 0 (elC ⟨v0, v1, v2, v3, v4, v5, v6, v7, v8, v9, v10, v11, v12, v13, v14, v15, v16, v17, v18⟩).toArray.toList)) := HS; have hrg : ((w1.alloc (elO ez)).setCells w1.heap.size 0 (elC ⟨v0, v1, v2, v3, v4, v5, v6, v7, v8, v9, v10, v11, v12, v13, v14, v15, v16, v17, v18⟩).toArray.toList).rangeAt w1.heap.size 0 _ := hrg; generalize World.setCells _ _ _ _ = w2 at *; have c0 := hrg 0 _ rfl; clear hrg)
        | (go_at_call 82; refine (HT.out _ _ HS.out.dropL).mono ?_; rintro e w3 ⟨rfl, hS3⟩; have H3 := Lib.hid hS3; clear hS3))
      go_ret
      exact ⟨rfl, H3.out.cast (show _ = pc w.heap.size 30 [vi i, vu g] * (gtB h p * (tblP p ps free * F)) by ac_rfl) |>.dropL⟩
    | true =>
      rw [if_pos rfl, if_pos ⟨rfl, rfl⟩]
      have HT : Hid (∀ (w1 : World) (G : Hp), Sat w0 G w1 → Calls Tryz.prog 82 #[vi v0, vi to] w1 fun e w' => e = .returned (.bool true) ∧ Sat w0 G w') := Lib.hid fun w1 G h1 => by
        have := g_turns h1 v0 to
        rwa [ht] at this
      clear ht
      by_cases t5 : to = 5
      · subst t5
        rw [show turnX ⟨v0, v1, v2, v3, v4, v5, v6, v7, v8, v9, v10, v11, v12, v13, v14, v15, v16, v17, v18⟩ 5 = ⟨5, true, v2, v3, v4, v5, v6, v7, v8, v9, v10, v11, v12, v13, v14, v15, v16, v17, 0⟩ from by simp [turnX]]
        go_enter Tryz.func23, Tryz.ntmps23
        go_wp2_with (first
          | (go_at_call 81; refine HG.out.mono ?_; rintro e w1 ⟨rfl, hS1⟩; have hA := hS1.alloc (elO ez); have HTh := Lib.hid (there_ (n := 19) hA rfl); have HA := Lib.hid hA; clear hA hS1)
          | (refine wpList_store_mid rfl 134 _ _ rfl w1.heap.size 0 (elC ⟨v0, v1, v2, v3, v4, v5, v6, v7, v8, v9, v10, v11, v12, v13, v14, v15, v16, v17, v18⟩).toArray (by rfl) (by rfl) HTh.out einfo (all_oneCell_toArray (elOne _)) ?_; have hs := HA.out.stores (elC ⟨v0, v1, v2, v3, v4, v5, v6, v7, v8, v9, v10, v11, v12, v13, v14, v15, v16, v17, v18⟩) 0; rw [setL_full (elC ez) (elC ⟨v0, v1, v2, v3, v4, v5, v6, v7, v8, v9, v10, v11, v12, v13, v14, v15, v16, v17, v18⟩) rfl] at hs; have HS := Lib.hid hs; have hrg := World.rangeAt_setCells_same _ w1.heap.size 0 (elC ⟨v0, v1, v2, v3, v4, v5, v6, v7, v8, v9, v10, v11, v12, v13, v14, v15, v16, v17, v18⟩) HTh.out; have HS : Hid (Sat w0 _ ((w1.alloc (elO ez)).setCells w1.heap.size 0 (elC ⟨v0, v1, v2, v3, v4, v5, v6, v7, v8, v9, v10, v11, v12, v13, v14, v15, v16, v17, v18⟩).toArray.toList)) := HS; have hrg : ((w1.alloc (elO ez)).setCells w1.heap.size 0 (elC ⟨v0, v1, v2, v3, v4, v5, v6, v7, v8, v9, v10, v11, v12, v13, v14, v15, v16, v17, v18⟩).toArray.toList).rangeAt w1.heap.size 0 _ := hrg; clear hs; generalize World.setCells _ _ _ _ = w2 at *; have c0 := hrg 0 _ rfl; clear hrg)
          | (go_at_call 82; refine (HT.out _ _ HS.out).mono ?_; rintro e w3 ⟨rfl, hS3⟩; have q0 := hS3.cell 0 rfl; have q1 := hS3.cell 1 rfl; have q18 := hS3.cell 18 rfl; have f0 := hS3.free 0; have f1 := hS3.free 1; have f18 := hS3.free 18; have H3 := Lib.hid hS3; clear hS3))
        have hW : Sat w0 (elB w1.heap.size ⟨5, true, v2, v3, v4, v5, v6, v7, v8, v9, v10, v11, v12, v13, v14, v15, v16, v17, 0⟩ * (gtB h p * (tblP p ps free * (pc w.heap.size 30 [vi i, vu g] * F)))) (((w3.setCell ⟨w1.heap.size, 0, none⟩ (vi 5)).setCell ⟨w1.heap.size, 18, none⟩ (vu 0)).setCell ⟨w1.heap.size, 1, none⟩ (.bool true)) := ((H3.out.store 0 (vi 5)).store 18 (vu 0)).store 1 (.bool true)
        generalize (((w3.setCell ⟨w1.heap.size, 0, none⟩ (vi 5)).setCell ⟨w1.heap.size, 18, none⟩ (vu 0)).setCell ⟨w1.heap.size, 1, none⟩ (.bool true)) = w4 at *
        have c4 := hW.pull2.cell 0 rfl
        have b4 := hW.pull4.cell 0 rfl
        have b5 := hW.pull4.cell 1 rfl
        have HW := Lib.hid hW
        clear hW q0 q1 q18 f0 f1 f18
        refine wp_quiet_tail 6 (by kernel_rfl) (by kernel_rfl) ?_
        simp only [List.take_succ_cons, List.take_zero, List.drop_succ_cons, List.drop_zero]
        iterate 5 (go_big_quiet_step (fail))
        refine wpQuiet_load_row (by rfl) 134 _ rfl w1.heap.size 0 (by rfl) (elC ⟨5, true, v2, v3, v4, v5, v6, v7, v8, v9, v10, v11, v12, v13, v14, v15, v16, v17, 0⟩) _ (fun w' hw' => by subst hw'; exact range_ HW.out.drew) Tryz.underlying134 rfl einfo ?_
        refine wpQuiet_nil ?_
        go_wp2_with (go_at_call 83; refine (HSet.out _ _ ⟨5, true, v2, v3, v4, v5, v6, v7, v8, v9, v10, v11, v12, v13, v14, v15, v16, v17, 0⟩ (HW.out.drew.pull3)).mono ?_; rintro e w5 ⟨rfl, hS5⟩; have H5 := Lib.hid hS5; clear hS5)
        go_ret
        exact ⟨rfl, (H5.out.cast (show _ = elB w1.heap.size ⟨5, true, v2, v3, v4, v5, v6, v7, v8, v9, v10, v11, v12, v13, v14, v15, v16, v17, 0⟩ * (pc w.heap.size 30 [vi i, vu g] * (gtB h p * (tblP p (setP ps i g ⟨5, true, v2, v3, v4, v5, v6, v7, v8, v9, v10, v11, v12, v13, v14, v15, v16, v17, 0⟩) free * F))) by ac_rfl)).dropL.dropL⟩
      · have g5 : (to == 5) = false := beq_eq_false_iff_ne.2 t5
        by_cases t1 : to = 1
        · subst t1
          rw [show turnX ⟨v0, v1, v2, v3, v4, v5, v6, v7, v8, v9, v10, v11, v12, v13, v14, v15, v16, v17, v18⟩ 1 = ⟨1, false, v2, v3, v4, v5, v6, v7, v8, v9, v10, v11, v12, v13, v14, v15, v16, v17, 0⟩ from by simp [turnX]]
          go_enter Tryz.func23, Tryz.ntmps23
          go_wp2_with (first
            | (go_at_call 81; refine HG.out.mono ?_; rintro e w1 ⟨rfl, hS1⟩; have hA := hS1.alloc (elO ez); have HTh := Lib.hid (there_ (n := 19) hA rfl); have HA := Lib.hid hA; clear hA hS1)
            | (refine wpList_store_mid rfl 134 _ _ rfl w1.heap.size 0 (elC ⟨v0, v1, v2, v3, v4, v5, v6, v7, v8, v9, v10, v11, v12, v13, v14, v15, v16, v17, v18⟩).toArray (by rfl) (by rfl) HTh.out einfo (all_oneCell_toArray (elOne _)) ?_; have hs := HA.out.stores (elC ⟨v0, v1, v2, v3, v4, v5, v6, v7, v8, v9, v10, v11, v12, v13, v14, v15, v16, v17, v18⟩) 0; rw [setL_full (elC ez) (elC ⟨v0, v1, v2, v3, v4, v5, v6, v7, v8, v9, v10, v11, v12, v13, v14, v15, v16, v17, v18⟩) rfl] at hs; have HS := Lib.hid hs; have hrg := World.rangeAt_setCells_same _ w1.heap.size 0 (elC ⟨v0, v1, v2, v3, v4, v5, v6, v7, v8, v9, v10, v11, v12, v13, v14, v15, v16, v17, v18⟩) HTh.out; have HS : Hid (Sat w0 _ ((w1.alloc (elO ez)).setCells w1.heap.size 0 (elC ⟨v0, v1, v2, v3, v4, v5, v6, v7, v8, v9, v10, v11, v12, v13, v14, v15, v16, v17, v18⟩).toArray.toList)) := HS; have hrg : ((w1.alloc (elO ez)).setCells w1.heap.size 0 (elC ⟨v0, v1, v2, v3, v4, v5, v6, v7, v8, v9, v10, v11, v12, v13, v14, v15, v16, v17, v18⟩).toArray.toList).rangeAt w1.heap.size 0 _ := hrg; clear hs; generalize World.setCells _ _ _ _ = w2 at *; have c0 := hrg 0 _ rfl; clear hrg)
            | (go_at_call 82; refine (HT.out _ _ HS.out).mono ?_; rintro e w3 ⟨rfl, hS3⟩; have q0 := hS3.cell 0 rfl; have q1 := hS3.cell 1 rfl; have q18 := hS3.cell 18 rfl; have f0 := hS3.free 0; have f1 := hS3.free 1; have f18 := hS3.free 18; have H3 := Lib.hid hS3; clear hS3))
          have hW : Sat w0 (elB w1.heap.size ⟨1, false, v2, v3, v4, v5, v6, v7, v8, v9, v10, v11, v12, v13, v14, v15, v16, v17, 0⟩ * (gtB h p * (tblP p ps free * (pc w.heap.size 30 [vi i, vu g] * F)))) (((w3.setCell ⟨w1.heap.size, 0, none⟩ (vi 1)).setCell ⟨w1.heap.size, 18, none⟩ (vu 0)).setCell ⟨w1.heap.size, 1, none⟩ (.bool false)) := ((H3.out.store 0 (vi 1)).store 18 (vu 0)).store 1 (.bool false)
          generalize (((w3.setCell ⟨w1.heap.size, 0, none⟩ (vi 1)).setCell ⟨w1.heap.size, 18, none⟩ (vu 0)).setCell ⟨w1.heap.size, 1, none⟩ (.bool false)) = w4 at *
          have c4 := hW.pull2.cell 0 rfl
          have b4 := hW.pull4.cell 0 rfl
          have b5 := hW.pull4.cell 1 rfl
          have HW := Lib.hid hW
          clear hW q0 q1 q18 f0 f1 f18
          refine wp_quiet_tail 6 (by kernel_rfl) (by kernel_rfl) ?_
          simp only [List.take_succ_cons, List.take_zero, List.drop_succ_cons, List.drop_zero]
          iterate 5 (go_big_quiet_step (fail))
          refine wpQuiet_load_row (by rfl) 134 _ rfl w1.heap.size 0 (by rfl) (elC ⟨1, false, v2, v3, v4, v5, v6, v7, v8, v9, v10, v11, v12, v13, v14, v15, v16, v17, 0⟩) _ (fun w' hw' => by subst hw'; exact range_ HW.out.drew) Tryz.underlying134 rfl einfo ?_
          refine wpQuiet_nil ?_
          go_wp2_with (go_at_call 83; refine (HSet.out _ _ ⟨1, false, v2, v3, v4, v5, v6, v7, v8, v9, v10, v11, v12, v13, v14, v15, v16, v17, 0⟩ (HW.out.drew.pull3)).mono ?_; rintro e w5 ⟨rfl, hS5⟩; have H5 := Lib.hid hS5; clear hS5)
          go_ret
          exact ⟨rfl, (H5.out.cast (show _ = elB w1.heap.size ⟨1, false, v2, v3, v4, v5, v6, v7, v8, v9, v10, v11, v12, v13, v14, v15, v16, v17, 0⟩ * (pc w.heap.size 30 [vi i, vu g] * (gtB h p * (tblP p (setP ps i g ⟨1, false, v2, v3, v4, v5, v6, v7, v8, v9, v10, v11, v12, v13, v14, v15, v16, v17, 0⟩) free * F))) by ac_rfl)).dropL.dropL⟩
        · have g1 : (to == 1) = false := beq_eq_false_iff_ne.2 t1
          by_cases t2 : to = 2
          · subst t2
            rw [show turnX ⟨v0, v1, v2, v3, v4, v5, v6, v7, v8, v9, v10, v11, v12, v13, v14, v15, v16, v17, v18⟩ 2 = ⟨2, false, v2, v3, v4, v5, v6, v7, v8, v9, v10, v11, v12, v13, v14, v15, v16, v17, 0⟩ from by simp [turnX]]
            go_enter Tryz.func23, Tryz.ntmps23
            go_wp2_with (first
              | (go_at_call 81; refine HG.out.mono ?_; rintro e w1 ⟨rfl, hS1⟩; have hA := hS1.alloc (elO ez); have HTh := Lib.hid (there_ (n := 19) hA rfl); have HA := Lib.hid hA; clear hA hS1)
              | (refine wpList_store_mid rfl 134 _ _ rfl w1.heap.size 0 (elC ⟨v0, v1, v2, v3, v4, v5, v6, v7, v8, v9, v10, v11, v12, v13, v14, v15, v16, v17, v18⟩).toArray (by rfl) (by rfl) HTh.out einfo (all_oneCell_toArray (elOne _)) ?_; have hs := HA.out.stores (elC ⟨v0, v1, v2, v3, v4, v5, v6, v7, v8, v9, v10, v11, v12, v13, v14, v15, v16, v17, v18⟩) 0; rw [setL_full (elC ez) (elC ⟨v0, v1, v2, v3, v4, v5, v6, v7, v8, v9, v10, v11, v12, v13, v14, v15, v16, v17, v18⟩) rfl] at hs; have HS := Lib.hid hs; have hrg := World.rangeAt_setCells_same _ w1.heap.size 0 (elC ⟨v0, v1, v2, v3, v4, v5, v6, v7, v8, v9, v10, v11, v12, v13, v14, v15, v16, v17, v18⟩) HTh.out; have HS : Hid (Sat w0 _ ((w1.alloc (elO ez)).setCells w1.heap.size 0 (elC ⟨v0, v1, v2, v3, v4, v5, v6, v7, v8, v9, v10, v11, v12, v13, v14, v15, v16, v17, v18⟩).toArray.toList)) := HS; have hrg : ((w1.alloc (elO ez)).setCells w1.heap.size 0 (elC ⟨v0, v1, v2, v3, v4, v5, v6, v7, v8, v9, v10, v11, v12, v13, v14, v15, v16, v17, v18⟩).toArray.toList).rangeAt w1.heap.size 0 _ := hrg; clear hs; generalize World.setCells _ _ _ _ = w2 at *; have c0 := hrg 0 _ rfl; clear hrg)
              | (go_at_call 82; refine (HT.out _ _ HS.out).mono ?_; rintro e w3 ⟨rfl, hS3⟩; have q0 := hS3.cell 0 rfl; have q1 := hS3.cell 1 rfl; have q18 := hS3.cell 18 rfl; have f0 := hS3.free 0; have f1 := hS3.free 1; have f18 := hS3.free 18; have H3 := Lib.hid hS3; clear hS3))
            have hW : Sat w0 (elB w1.heap.size ⟨2, false, v2, v3, v4, v5, v6, v7, v8, v9, v10, v11, v12, v13, v14, v15, v16, v17, 0⟩ * (gtB h p * (tblP p ps free * (pc w.heap.size 30 [vi i, vu g] * F)))) (((w3.setCell ⟨w1.heap.size, 0, none⟩ (vi 2)).setCell ⟨w1.heap.size, 18, none⟩ (vu 0)).setCell ⟨w1.heap.size, 1, none⟩ (.bool false)) := ((H3.out.store 0 (vi 2)).store 18 (vu 0)).store 1 (.bool false)
            generalize (((w3.setCell ⟨w1.heap.size, 0, none⟩ (vi 2)).setCell ⟨w1.heap.size, 18, none⟩ (vu 0)).setCell ⟨w1.heap.size, 1, none⟩ (.bool false)) = w4 at *
            have c4 := hW.pull2.cell 0 rfl
            have b4 := hW.pull4.cell 0 rfl
            have b5 := hW.pull4.cell 1 rfl
            have HW := Lib.hid hW
            clear hW q0 q1 q18 f0 f1 f18
            refine wp_quiet_tail 6 (by kernel_rfl) (by kernel_rfl) ?_
            simp only [List.take_succ_cons, List.take_zero, List.drop_succ_cons, List.drop_zero]
            iterate 5 (go_big_quiet_step (fail))
            refine wpQuiet_load_row (by rfl) 134 _ rfl w1.heap.size 0 (by rfl) (elC ⟨2, false, v2, v3, v4, v5, v6, v7, v8, v9, v10, v11, v12, v13, v14, v15, v16, v17, 0⟩) _ (fun w' hw' => by subst hw'; exact range_ HW.out.drew) Tryz.underlying134 rfl einfo ?_
            refine wpQuiet_nil ?_
            go_wp2_with (go_at_call 83; refine (HSet.out _ _ ⟨2, false, v2, v3, v4, v5, v6, v7, v8, v9, v10, v11, v12, v13, v14, v15, v16, v17, 0⟩ (HW.out.drew.pull3)).mono ?_; rintro e w5 ⟨rfl, hS5⟩; have H5 := Lib.hid hS5; clear hS5)
            go_ret
            exact ⟨rfl, (H5.out.cast (show _ = elB w1.heap.size ⟨2, false, v2, v3, v4, v5, v6, v7, v8, v9, v10, v11, v12, v13, v14, v15, v16, v17, 0⟩ * (pc w.heap.size 30 [vi i, vu g] * (gtB h p * (tblP p (setP ps i g ⟨2, false, v2, v3, v4, v5, v6, v7, v8, v9, v10, v11, v12, v13, v14, v15, v16, v17, 0⟩) free * F))) by ac_rfl)).dropL.dropL⟩
          · have g2 : (to == 2) = false := beq_eq_false_iff_ne.2 t2
            rw [show turnX ⟨v0, v1, v2, v3, v4, v5, v6, v7, v8, v9, v10, v11, v12, v13, v14, v15, v16, v17, v18⟩ to = ⟨to, v1, v2, v3, v4, v5, v6, v7, v8, v9, v10, v11, v12, v13, v14, v15, v16, v17, 0⟩ from by simp [turnX, t5, t1, t2]]
            go_enter Tryz.func23, Tryz.ntmps23
            go_wp2_with (first
              | (go_at_call 81; refine HG.out.mono ?_; rintro e w1 ⟨rfl, hS1⟩; have hA := hS1.alloc (elO ez); have HTh := Lib.hid (there_ (n := 19) hA rfl); have HA := Lib.hid hA; clear hA hS1)
              | (refine wpList_store_mid rfl 134 _ _ rfl w1.heap.size 0 (elC ⟨v0, v1, v2, v3, v4, v5, v6, v7, v8, v9, v10, v11, v12, v13, v14, v15, v16, v17, v18⟩).toArray (by rfl) (by rfl) HTh.out einfo (all_oneCell_toArray (elOne _)) ?_; have hs := HA.out.stores (elC ⟨v0, v1, v2, v3, v4, v5, v6, v7, v8, v9, v10, v11, v12, v13, v14, v15, v16, v17, v18⟩) 0; rw [setL_full (elC ez) (elC ⟨v0, v1, v2, v3, v4, v5, v6, v7, v8, v9, v10, v11, v12, v13, v14, v15, v16, v17, v18⟩) rfl] at hs; have HS := Lib.hid hs; have hrg := World.rangeAt_setCells_same _ w1.heap.size 0 (elC ⟨v0, v1, v2, v3, v4, v5, v6, v7, v8, v9, v10, v11, v12, v13, v14, v15, v16, v17, v18⟩) HTh.out; have HS : Hid (Sat w0 _ ((w1.alloc (elO ez)).setCells w1.heap.size 0 (elC ⟨v0, v1, v2, v3, v4, v5, v6, v7, v8, v9, v10, v11, v12, v13, v14, v15, v16, v17, v18⟩).toArray.toList)) := HS; have hrg : ((w1.alloc (elO ez)).setCells w1.heap.size 0 (elC ⟨v0, v1, v2, v3, v4, v5, v6, v7, v8, v9, v10, v11, v12, v13, v14, v15, v16, v17, v18⟩).toArray.toList).rangeAt w1.heap.size 0 _ := hrg; clear hs; generalize World.setCells _ _ _ _ = w2 at *; have c0 := hrg 0 _ rfl; clear hrg)
              | (go_at_call 82; refine (HT.out _ _ HS.out).mono ?_; rintro e w3 ⟨rfl, hS3⟩; have q0 := hS3.cell 0 rfl; have q1 := hS3.cell 1 rfl; have q18 := hS3.cell 18 rfl; have f0 := hS3.free 0; have f1 := hS3.free 1; have f18 := hS3.free 18; have H3 := Lib.hid hS3; clear hS3))
            have hW : Sat w0 (elB w1.heap.size ⟨to, v1, v2, v3, v4, v5, v6, v7, v8, v9, v10, v11, v12, v13, v14, v15, v16, v17, 0⟩ * (gtB h p * (tblP p ps free * (pc w.heap.size 30 [vi i, vu g] * F)))) ((w3.setCell ⟨w1.heap.size, 0, none⟩ (vi to)).setCell ⟨w1.heap.size, 18, none⟩ (vu 0)) := (H3.out.store 0 (vi to)).store 18 (vu 0)
            generalize ((w3.setCell ⟨w1.heap.size, 0, none⟩ (vi to)).setCell ⟨w1.heap.size, 18, none⟩ (vu 0)) = w4 at *
            have c4 := hW.pull2.cell 0 rfl
            have b4 := hW.pull4.cell 0 rfl
            have b5 := hW.pull4.cell 1 rfl
            have HW := Lib.hid hW
            clear hW q0 q1 q18 f0 f1 f18
            refine wp_quiet_tail 6 (by kernel_rfl) (by kernel_rfl) ?_
            simp only [List.take_succ_cons, List.take_zero, List.drop_succ_cons, List.drop_zero]
            iterate 5 (go_big_quiet_step (fail))
            refine wpQuiet_load_row (by rfl) 134 _ rfl w1.heap.size 0 (by rfl) (elC ⟨to, v1, v2, v3, v4, v5, v6, v7, v8, v9, v10, v11, v12, v13, v14, v15, v16, v17, 0⟩) _ (fun w' hw' => by subst hw'; exact range_ HW.out.drew) Tryz.underlying134 rfl einfo ?_
            refine wpQuiet_nil ?_
            go_wp2_with (go_at_call 83; refine (HSet.out _ _ ⟨to, v1, v2, v3, v4, v5, v6, v7, v8, v9, v10, v11, v12, v13, v14, v15, v16, v17, 0⟩ (HW.out.drew.pull3)).mono ?_; rintro e w5 ⟨rfl, hS5⟩; have H5 := Lib.hid hS5; clear hS5)
            go_ret
            exact ⟨rfl, (H5.out.cast (show _ = elB w1.heap.size ⟨to, v1, v2, v3, v4, v5, v6, v7, v8, v9, v10, v11, v12, v13, v14, v15, v16, v17, 0⟩ * (pc w.heap.size 30 [vi i, vu g] * (gtB h p * (tblP p (setP ps i g ⟨to, v1, v2, v3, v4, v5, v6, v7, v8, v9, v10, v11, v12, v13, v14, v15, v16, v17, 0⟩) free * F))) by ac_rfl)).dropL.dropL⟩
  · rw [he] at HG ⊢
    rw [if_neg (by omega), if_neg (by omega)]
    clear he HSet
    go_enter Tryz.func23, Tryz.ntmps23
    go_wp2_with (first
      | (go_at_call 81; refine HG.out.mono ?_; rintro e w1 ⟨rfl, hS1⟩; have hA := hS1.alloc (elO ez); have HTh := Lib.hid (there_ (n := 19) hA rfl); have HA := Lib.hid hA; clear hA hS1)
      | (refine wpList_store_mid rfl 134 _ _ rfl w1.heap.size 0 (elC ⟨v0, v1, v2, v3, v4, v5, v6, v7, v8, v9, v10, v11, v12, v13, v14, v15, v16, v17, v18⟩).toArray (by rfl) (by rfl) HTh.out einfo (all_oneCell_toArray (elOne _)) ?_; have HS := Lib.hid (HA.out.stores (elC ⟨v0, v1, v2, v3, v4, v5, v6, v7, v8, v9, v10, v11, v12, v13, v14, v15, v16, v17, v18⟩) 0); have HS : Hid (Sat w0 _ ((w1.alloc (elO ez)).setCells w1.heap.size 0 (elC ⟨v0, v1, v2, v3, v4, v5, v6, v7, v8, v9, v10, v11, v12, v13, v14, v15, v16, v17, v18⟩).toArray.toList)) := HS; generalize World.setCells _ _ _ _ = w2 at *))
    go_ret
    exact ⟨rfl, (HS.out.dropL).cast (show _ = pc w.heap.size 30 [vi i, vu g] * (gtB h p * (tblP p ps free * F)) by ac_rfl) |>.dropL⟩
end
end Go.Proofs.YtdbppfcilaajaaaGreat.Gt
