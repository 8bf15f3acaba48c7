/-
  Chapter 16: the game: Get. No statement is proved here.
-/
import Derived.Test.YtffjckdaekamgaaGn3
import Derived.ChangeKeysEq
namespace Go.Proofs.Ytffjckdaekamgaa.Gt
open Go.RowKit Ag
set_option linter.unusedVariables false
set_option linter.unusedSimpArgs false

set_option maxRecDepth 100000 in
set_option maxHeartbeats 8000000 in
theorem run_eqG (w : World) (x : El) : (binOp .eql 29 (.agg (elC x).toArray) (.agg (elC x).toArray)).run Try.prog w = .ok (.bool true) w := by
  obtain ⟨v0, v1, v2, v3, v4, v5, v6, v7, v8, v9, v10, v11, v12, v13, v14, v15, v16, v17, v18⟩ := x
  obtain ⟨i, hi⟩ := info_of_underlying (P := Try.prog) Try.underlying23
  have h8 : ∀ (xs ys : Array Value) (w : World), (Op.equalIn 9999 26 (.agg xs) (.agg ys)).run Try.prog w = (Op.eqItems 9998 23 1 xs ys (List.range 8)).run Try.prog w := fun xs ys w => run_equalIn_array w 9998 xs ys Try.underlying26 hi
  have e1 : ∀ (xs ys : Array Value), Op.eqItems 9998 23 1 xs ys [] = pure true := fun _ _ => rfl
  have e2 : ∀ (xs ys : Array Value) (i : Nat) (is : List Nat), Op.eqItems 9998 23 1 xs ys (i :: is) = (do let a ← part 23 xs (i * 1); let b ← part 23 ys (i * 1); let r ← Op.equalIn 9998 23 a b; if (!r) = true then pure false else Op.eqItems 9998 23 1 xs ys is) := fun _ _ _ _ => rfl
  go_simp
section
attribute [local irreducible] loadCellsFrom storeCells
variable {w0 w : World} {F : Hp} {n T g h p q b cap : Nat} {vF vR : Value} {ps : List Pl} {free : List Nat} {rl : List (Int × Int)}
set_option maxRecDepth 100000 in
set_option maxHeartbeats 8000000 in
theorem do_get (hI : Inv n T ps free) (hT : T ≤ 1000) (hS : Sat w0 (gmC g h p q b cap vF vR ps free rl F) w) (hrl : rl.length ≤ 1000) (ri rg at_ : Int) (hat : at_ ≤ 9223372036854775807) (x : El) (hx : 0 ≤ x.v18) (st : Int) : Calls Try.prog 13 #[vp g, .agg (actC 2 ri rg at_ x st).toArray] w (DoPost w0 n T g h p q b cap rl F) := by
  have HGone := Lib.hid (hI.mono (Nat.le_succ T))
  clear hI hT
  have hl2 := ld2_eq
  have hs2 := st2_eq
  have hA0 : Sat w0 (pc w.heap.size 41 (actC 2 ri rg at_ x st) * (gmC g h p q b cap vF vR ps free rl F)) (w.alloc (.cells (actC 2 ri rg at_ x st).toArray 41)) := hS.alloc _
  have x0 : (w.alloc (.cells (actC 2 ri rg at_ x st).toArray 41)).cell? ⟨w.heap.size, 0, none⟩ = some (vi 2) := hA0.cell 0 rfl
  have x1 : (w.alloc (.cells (actC 2 ri rg at_ x st).toArray 41)).cell? ⟨w.heap.size, 1, none⟩ = some (vi ri) := hA0.cell 1 rfl
  have x2 : (w.alloc (.cells (actC 2 ri rg at_ x st).toArray 41)).cell? ⟨w.heap.size, 2, none⟩ = some (vu rg) := hA0.cell 2 rfl
  have x3 : (w.alloc (.cells (actC 2 ri rg at_ x st).toArray 41)).cell? ⟨w.heap.size, 3, none⟩ = some (vi at_) := hA0.cell 3 rfl
  have hB0 := hA0.alloc (.cells #[vi ri, vu rg] 25)
  rw [size1] at hB0
  have hB : Sat w0 (pc (w.heap.size + 1) 25 [vi ri, vu rg] * (pc w.heap.size 41 (actC 2 ri rg at_ x st) * (gmC g h p q b cap vF vR ps free rl F))) ((w.alloc (.cells (actC 2 ri rg at_ x st).toArray 41)).alloc (.cells #[vi ri, vu rg] 25)) := hB0
  have a3 : ((w.alloc (.cells (actC 2 ri rg at_ x st).toArray 41)).alloc (.cells #[vi ri, vu rg] 25)).cell? ⟨w.heap.size, 3, none⟩ = some (vi at_) := hB.pull2.cell 3 rfl
  have g2 := hB.pull3.cell 2 rfl
  obtain ⟨vo, rcap, hvo⟩ := hS.dropL.rd.len
  have hvR := hvo
  rw [hvo] at g2
  have HB := Lib.hid hB
  have HVO := Lib.hid hvo
  clear hS hA0 hB0 hB hvR hvo
  go_enter Try.func13, Try.ntmps13
  go_upto_region 2 with fail
  go_cut [25] from 13 (fun vb wc => wc = ((w.alloc (.cells (actC 2 ri rg at_ x st).toArray 41)).alloc (.cells #[vi ri, vu rg] 25)) ∧ ((vb = .bool true ∧ 1 ≤ at_ ∧ 0 < rl.length) ∨ (vb = .bool false ∧ ¬ (1 ≤ at_ ∧ 0 < rl.length))))
  case first =>
    by_cases h1 : 1 ≤ at_
    · by_cases h2 : 0 < rl.length
      · have h2i : (0 : Int) < (rl.length : Int) := by omega
        go_wp2_with fail
        go_meet
        exact ⟨rfl, .inl ⟨by simp [*], h1, h2⟩⟩
      · have h20 : rl.length = 0 := by omega
        rw [h20] at g2
        go_wp2_with fail
        go_meet
        exact ⟨rfl, .inr ⟨by simp [*], by omega⟩⟩
    · go_wp2_with fail
      go_meet
      exact ⟨rfl, .inr ⟨by simp [*], by omega⟩⟩
  case rest =>
  obtain ⟨rfl, hvb⟩ := hcut
  go_upto_if 25 with fail
  go_cut [5] from 13 (fun vr wc => ∃ i gg : Int, vr = .pointer (some ⟨w.heap.size + 1, 0, none⟩) ∧ Sat w0 (pc (w.heap.size + 1) 25 [vi i, vu gg] * (pc w.heap.size 41 (actC 2 ri rg at_ x st) * (gmC g h p q b cap vF vR ps free rl F))) wc)
  case first =>
    rcases hvb with ⟨rfl, h1, h2⟩ | ⟨rfl, _⟩
    · obtain ⟨idx, j, hidx, hj, ht1, ht2, ht3⟩ := at_fact at_ rl.length h2 h1
      have hidxi : (idx : Int) < (rl.length : Int) := by omega
      have hw1 : IntKind.i64.wrap (at_ - 1) = at_ - 1 := IntWalk.i64_in _ (by omega)
      have hw2 : IntKind.i64.wrap ((rl.length : Int) - 1) = (rl.length : Int) - 1 := IntWalk.i64_in _ (by omega)
      have hw3 : IntKind.i64.wrap ((rl.length : Int) - 1 - (j : Int)) = (idx : Int) := by rw [ht3]; exact IntWalk.i64_in _ (by omega)
      have hn0 : ¬ (rl.length : Int) = 0 := by omega
      obtain ⟨⟨i, gg⟩, hrr⟩ : ∃ r, rl[idx]? = some r := ⟨rl[idx], List.getElem?_eq_getElem hidx⟩
      have hsl := HB.out.dropL.dropL.dropL
      rw [HVO.out] at hsl
      obtain ⟨gr, rfl⟩ : ∃ gr, vo = some ⟨gr, 0, none⟩ := by
        rcases hsl.slE.2 with ⟨_, h0, _⟩ | ⟨g', c', cur, hv, _⟩
        · omega
        · injection hv with h1 h2 h3
          exact ⟨g', h1⟩
      have l0 := hsl.slCell _ (frefs_at hrr).1
      have l1 := hsl.slCell _ (frefs_at hrr).2
      dsimp only at l0 l1
      have rf0 := HB.out.free 0
      have rf1 := HB.out.free 1
      have r0 := HB.out.cell 0 rfl
      have r1 := HB.out.cell 1 rfl
      have hst : Sat w0 (pc (w.heap.size + 1) 25 [vi i, vu gg] * (pc w.heap.size 41 (actC 2 ri rg at_ x st) * (gmC g h p q b cap vF vR ps free rl F))) _ := ((HB.out.drew.store 0 (vi i)).store 1 (vu gg))
      have HST := Lib.hid hst
      clear hst hsl hrr ht3 x0 x1 x2 x3 HB
      generalize ((w.alloc (.cells (actC 2 ri rg at_ x st).toArray 41)).alloc (.cells #[vi ri, vu rg] 25)) = W1 at *
      generalize w.heap.size + 1 = bR at *
      go_wp2_with fail
      refine wp_quiet_tail 22 (by kernel_rfl) (by kernel_rfl) ?_
      simp only [List.take_succ_cons, List.take_zero, List.drop_succ_cons, List.drop_zero]
      repeat (go_big_quiet_step (fail))
      refine wpQuiet_nil ?_
      go_wp2_with fail
      go_meet
      exact ⟨i, gg, rfl, HST.out⟩
    · clear x0 x1 x2 x3
      generalize ((w.alloc (.cells (actC 2 ri rg at_ x st).toArray 41)).alloc (.cells #[vi ri, vu rg] 25)) = W1 at *
      go_wp2_with fail
      go_meet
      exact ⟨ri, rg, rfl, HB.out⟩
  case rest =>
    obtain ⟨i, gg, rfl, hS1⟩ := hcut
    generalize w.heap.size + 1 = bR at *
    generalize w.heap.size = bA at *
    have k0 : wc.cell? ⟨bA, 0, none⟩ = some (vi 2) := hS1.pull2.cell 0 rfl
    have HC := Lib.hid hS1
    clear hS1 HB x0 x1 x2 x3 a3 g2
    have hr1 := rowLd_eq
    have hr3 := rowSt_eq
    go_upto_region 13 with fail
    go_cut [10, 11] from 93 (fun v10 v11 wx => ∃ bz : Nat, v10 = .pointer (some ⟨bz, 0, none⟩) ∧ v11 = vi (getE ps i gg) ∧ Sat w0 (pc bz 29 (elC (getX ps i gg)) * (pc bR 25 [vi i, vu gg] * (pc bA 41 (actC 2 ri rg at_ x st) * (gmC g h p q b cap vF vR ps free rl F)))) wx)
    case first =>
      have e0 := HC.out.drew.pull3.cell 0 rfl
      have e1 := HC.out.drew.pull3.cell 1 rfl
      have e2 := HC.out.drew.cell 0 rfl
      have e3 := HC.out.drew.cell 1 rfl
      have hA1 : Sat w0 (pc wc.heap.size 29 (elC ez) * (pc bR 25 [vi i, vu gg] * (pc bA 41 (actC 2 ri rg at_ x st) * (gmC g h p q b cap vF vR ps free rl F)))) (wc.alloc (elO ez)).drew := (HC.out.alloc (elO ez)).drew
      have HC1 := Lib.hid (gt_get (hA1.cast (show _ = gtB h p * (tblP p ps free * (pc wc.heap.size 29 (elC ez) * (pc bR 25 [vi i, vu gg] * (pc bA 41 (actC 2 ri rg at_ x st) * (pc g 47 [vp h, vp q, vR] * (sl 25 2 vR rl.length (frefs rl) * refG q b cap vF ps free F)))))) by unfold gmC; ac_rfl)) i gg)
      have HC2 := Lib.hid (gt_get (HC.out.drew.cast (show _ = gtB h p * (tblP p ps free * (pc bR 25 [vi i, vu gg] * (pc bA 41 (actC 2 ri rg at_ x st) * (pc g 47 [vp h, vp q, vR] * (sl 25 2 vR rl.length (frefs rl) * refG q b cap vF ps free F))))) by unfold gmC; ac_rfl)) i gg)
      have a0 := hA1.dropL.pull3.cell 0 rfl
      have a1 := hA1.dropL.pull3.cell 1 rfl
      have a2 := hA1.dropL.cell 0 rfl
      have a3 := hA1.dropL.cell 1 rfl
      clear hA1
      generalize getX ps i gg = y at *
      generalize getE ps i gg = er at *
      have hr4 := fun w : World => run_rowSt_new w y
      have hr5 := fun (w : World) (b : Nat) => run_rowSt (w := w) (b := b) (o := 0) (x := y)
      have hzz : ∀ (W : World) (B : Nat) (G : Hp), Sat w0 (pc B 29 (elC ez) * G) W → Sat w0 (pc B 29 (elC y) * G) (W.setCells B 0 (elC y)) := fun W B G hh => by
        have h2 := hh.stores (elC y) 0
        rwa [setL_all (elC ez) (elC y) rfl] at h2
      have HZ := Lib.hid hzz
      clear hzz
      go_region_held3 (fun w' => w'.cell? ⟨g, 0, none⟩ = some (vp h) ∧ w'.cell? ⟨g, 1, none⟩ = some (vp q) ∧ w'.cell? ⟨bR, 0, none⟩ = some (vi i) ∧ w'.cell? ⟨bR, 1, none⟩ = some (vu gg))
        (first | with_reducible exact ⟨e0, e1, e2, e3⟩ | with_reducible exact ⟨a0, a1, a2, a3⟩ | with_reducible exact ⟨f0, f1, f2, f3⟩ | with_reducible exact ⟨m0, m1, m2, m3⟩ | with_reducible exact ⟨k0, k1, k2, k3⟩ | go_keep)
        (first
          | (go_at_call 23; (with_reducible refine HC1.out.mono ?_); rintro e w5 ⟨rfl, hS5⟩; have hV : Sat w0 (pc wc.heap.size 29 (elC ez) * (pc bR 25 [vi i, vu gg] * (pc bA 41 (actC 2 ri rg at_ x st) * (gmC g h p q b cap vF vR ps free rl F)))) w5 := hS5.cast (by unfold gmC; ac_rfl); have f0 := hV.dropL.pull3.cell 0 rfl; have f1 := hV.dropL.pull3.cell 1 rfl; have f2 := hV.dropL.cell 0 rfl; have f3 := hV.dropL.cell 1 rfl; have hth : w5.there wc.heap.size 0 19 := there_ hV rfl; have hW := HZ.out _ _ _ hV; have k0 := hW.dropL.pull3.cell 0 rfl; have k1 := hW.dropL.pull3.cell 1 rfl; have k2 := hW.dropL.cell 0 rfl; have k3 := hW.dropL.cell 1 rfl; have HW := Lib.hid hW; clear hS5 hV hW)
          | (go_at_call 23; (with_reducible refine HC2.out.mono ?_); rintro e w5 ⟨rfl, hS5⟩; have hV : Sat w0 (pc bR 25 [vi i, vu gg] * (pc bA 41 (actC 2 ri rg at_ x st) * (gmC g h p q b cap vF vR ps free rl F))) w5 := hS5.cast (by unfold gmC; ac_rfl); have f0 := hV.pull3.cell 0 rfl; have f1 := hV.pull3.cell 1 rfl; have f2 := hV.cell 0 rfl; have f3 := hV.cell 1 rfl; have hM := (hV.alloc (elO ez)).dropL; have m0 := hM.pull3.cell 0 rfl; have m1 := hM.pull3.cell 1 rfl; have m2 := hM.cell 0 rfl; have m3 := hM.cell 1 rfl; have hW0 := hV.alloc (.cells (elC y).toArray 29); have hW : Sat w0 (pc w5.heap.size 29 (elC y) * (pc bR 25 [vi i, vu gg] * (pc bA 41 (actC 2 ri rg at_ x st) * (gmC g h p q b cap vF vR ps free rl F)))) _ := hW0; have k0 := hW.dropL.pull3.cell 0 rfl; have k1 := hW.dropL.pull3.cell 1 rfl; have k2 := hW.dropL.cell 0 rfl; have k3 := hW.dropL.cell 1 rfl; have HW := Lib.hid hW; clear hS5 hV hW hW0 hM))
      · go_wp2_with fail
        go_meet
        exact ⟨_, rfl, rfl, HW.out⟩
      · go_wp2_with fail
        go_meet
        exact ⟨_, rfl, rfl, HW.out⟩
    case rest =>
      obtain ⟨bz, rfl, rfl, hS2⟩ := hcut
      generalize wc = wx at *
      have e0 := hS2.dropL.drew.pull3.cell 0 rfl
      have e1 := hS2.dropL.drew.pull3.cell 1 rfl
      have e2 := hS2.dropL.drew.cell 0 rfl
      have e3 := hS2.dropL.drew.cell 1 rfl
      clear HC
      rcases at_or ps i gg with hA | ⟨k, a, hA⟩
      · have hgx : getX ps i gg = ez := by unfold getX; rw [hA]
        rw [hgx] at hS2
        have HIs := Lib.hid (rt_is (hS2.drew.cast (show _ = rtB q b ps.length cap vF * (rtL b cap ps * (pc bz 29 (elC ez) * (pc bR 25 [vi i, vu gg] * (pc bA 41 (actC 2 ri rg at_ x st) * (pc g 47 [vp h, vp q, vR] * (sl 25 2 vR rl.length (frefs rl) * (gtB h p * (tblP p ps free * (sl 3 1 vF free.length (nats free) * F))))))))) by unfold gmC refG; ac_rfl)) i gg)
        rw [is_no hA] at HIs
        rw [getE_no hA]
        clear hS2 hgx
        go_upto_region 14 with fail
        go_region_held3 (fun w' => w'.cell? ⟨g, 0, none⟩ = some (vp h) ∧ w'.cell? ⟨g, 1, none⟩ = some (vp q) ∧ w'.cell? ⟨bR, 0, none⟩ = some (vi i) ∧ w'.cell? ⟨bR, 1, none⟩ = some (vu gg))
          (first | with_reducible exact ⟨e0, e1, e2, e3⟩ | with_reducible exact ⟨f0, f1, f2, f3⟩ | go_keep)
          (first
            | (go_at_call 24; (with_reducible refine HIs.out.mono ?_); rintro e w5 ⟨rfl, hS5⟩; have h5 := hS5.cast (show _ = pc bz 29 (elC ez) * (pc bR 25 [vi i, vu gg] * (pc bA 41 (actC 2 ri rg at_ x st) * (gmC g h p q b cap vF vR ps free rl F))) by unfold gmC refG; ac_rfl); have f0 := h5.dropL.pull3.cell 0 rfl; have f1 := h5.dropL.pull3.cell 1 rfl; have f2 := h5.dropL.cell 0 rfl; have f3 := h5.dropL.cell 1 rfl; have hrg : w5.rangeAt bz 0 (elC ez) := range_ h5; have H5 := Lib.hid h5; clear hS5 h5))
        have hr2 := fun w : World => run_rowLd (w := w) (b := bz) (o := 0) (x := ez)
        have heq := fun w : World => run_eqG w ez
        go_wp2
        go_ret
        exact ⟨ps, free, rl, vF, vR, by simp, HGone.out, by omega, H5.out.dropL.dropL.dropL⟩
      · have hgx : getX ps i gg = a.x := getX_yes hA
        rw [hgx] at hS2
        have HIs := Lib.hid (rt_is (hS2.drew.cast (show _ = rtB q b ps.length cap vF * (rtL b cap ps * (pc bz 29 (elC a.x) * (pc bR 25 [vi i, vu gg] * (pc bA 41 (actC 2 ri rg at_ x st) * (pc g 47 [vp h, vp q, vR] * (sl 25 2 vR rl.length (frefs rl) * (gtB h p * (tblP p ps free * (sl 3 1 vF free.length (nats free) * F))))))))) by unfold gmC refG; ac_rfl)) i gg)
        rw [is_yes hA] at HIs
        rw [getE_yes hA]
        obtain ⟨hk, rfl, ht, hgg⟩ := isAt_some hA
        have hki : (k : Int) < (ps.length : Int) := by have := (List.getElem?_eq_some_iff.1 hk).1; omega
        clear hS2 hgx
        go_upto_region 14 with fail
        go_region_held3 (fun w' => w'.cell? ⟨g, 0, none⟩ = some (vp h) ∧ w'.cell? ⟨g, 1, none⟩ = some (vp q) ∧ w'.cell? ⟨bR, 0, none⟩ = some (vi k) ∧ w'.cell? ⟨bR, 1, none⟩ = some (vu gg))
          (first | with_reducible exact ⟨e0, e1, e2, e3⟩ | with_reducible exact ⟨f0, f1, f2, f3⟩ | go_keep)
          (first
            | (go_at_call 24; (with_reducible refine HIs.out.mono ?_); rintro e w5 ⟨rfl, hS5⟩; have h5 := hS5.cast (show _ = pc bz 29 (elC a.x) * (pc bR 25 [vi k, vu gg] * (pc bA 41 (actC 2 ri rg at_ x st) * (gmC g h p q b cap vF vR ps free rl F))) by unfold gmC refG; ac_rfl); have f0 := h5.dropL.pull3.cell 0 rfl; have f1 := h5.dropL.pull3.cell 1 rfl; have f2 := h5.dropL.cell 0 rfl; have f3 := h5.dropL.cell 1 rfl; have hrg : ∀ n, (w5.drewN n).rangeAt bz 0 (elC a.x) := fun n => range_ (h5.drewN n); have H5 := Lib.hid h5; clear hS5 h5))
        have hr2 := fun w : World => run_rowLd (w := w) (b := bz) (o := 0) (x := a.x)
        have hr6 := fun w : World => run_rowLd (w := w) (b := b) (o := k * 21 + 2) (x := a.x)
        have heq := fun w : World => run_eqG w a.x
        have hd := H5.out.cast (show _ = rtB q b ps.length cap vF * (rtL b cap ps * (pc bz 29 (elC a.x) * (pc bR 25 [vi k, vu gg] * (pc bA 41 (actC 2 ri rg at_ x st) * (pc g 47 [vp h, vp q, vR] * (sl 25 2 vR rl.length (frefs rl) * (gtB h p * (tblP p ps free * (sl 3 1 vF free.length (nats free) * F))))))))) by unfold gmC refG; ac_rfl)
        have d0 := hd.cell 0 rfl
        have hrb : ∀ n, (w5.drewN n).rangeAt b (k * 21 + 2) (elC a.x) := fun n => slRangeG (hd.drewN n).pull2 hk
        clear hd e0 e1 e2 e3
        go_wp2_with fail
        go_quiet (fail)
        go_wp2
        go_ret
        exact ⟨ps, free, rl, vF, vR, by simp, HGone.out, by omega, (H5.out.drewN _).dropL.dropL.dropL⟩
end
end Go.Proofs.Ytffjckdaekamgaa.Gt
