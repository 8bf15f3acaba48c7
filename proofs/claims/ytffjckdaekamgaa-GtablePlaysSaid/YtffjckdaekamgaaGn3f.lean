/-
  Chapter 16: the game: Make. No statement is proved here.
-/
import Derived.Test.YtffjckdaekamgaaGn3
namespace Go.Proofs.Ytffjckdaekamgaa.Gt
open Go.RowKit Ag
set_option linter.unusedVariables false
set_option linter.unusedSimpArgs false

section
attribute [local irreducible] loadCellsFrom storeCells
variable {w0 w : World} {F : Hp} {n T g h p q b cap : Nat} {vF vR : Value} {ps : List Pl} {free : List Nat} {rl : List (Int × Int)}
set_option maxRecDepth 100000 in
set_option maxHeartbeats 8000000 in
theorem do_make (hI : Inv n T ps free) (hT : T ≤ 1000) (hS : Sat w0 (gmC g h p q b cap vF vR ps free rl F) w) (hrl : rl.length ≤ 1000) (ri rg at_ : Int) (hat : at_ ≤ 9223372036854775807) (x : El) (hx : 0 ≤ x.v18) (st : Int) : Calls Try.prog 13 #[vp g, .agg (actC 1 ri rg at_ x st).toArray] w (DoPost w0 n T g h p q b cap rl F) := by
  obtain ⟨xi, xg, code, ps', free', hRel, hP, hR⟩ := make_step hI x hx
  have HRel := Lib.hid hRel
  have HP := Lib.hid hP
  have HR := Lib.hid hR
  clear hI hT hRel hP hR
  have hl2 := ld2_eq
  have hs2 := st2_eq
  have hA0 : Sat w0 (pc w.heap.size 41 (actC 1 ri rg at_ x st) * (gmC g h p q b cap vF vR ps free rl F)) (w.alloc (.cells (actC 1 ri rg at_ x st).toArray 41)) := hS.alloc _
  have x0 : (w.alloc (.cells (actC 1 ri rg at_ x st).toArray 41)).cell? ⟨w.heap.size, 0, none⟩ = some (vi 1) := hA0.cell 0 rfl
  have x1 : (w.alloc (.cells (actC 1 ri rg at_ x st).toArray 41)).cell? ⟨w.heap.size, 1, none⟩ = some (vi ri) := hA0.cell 1 rfl
  have x2 : (w.alloc (.cells (actC 1 ri rg at_ x st).toArray 41)).cell? ⟨w.heap.size, 2, none⟩ = some (vu rg) := hA0.cell 2 rfl
  have x3 : (w.alloc (.cells (actC 1 ri rg at_ x st).toArray 41)).cell? ⟨w.heap.size, 3, none⟩ = some (vi at_) := hA0.cell 3 rfl
  have hB0 := hA0.alloc (.cells #[vi ri, vu rg] 25)
  rw [size1] at hB0
  have hB : Sat w0 (pc (w.heap.size + 1) 25 [vi ri, vu rg] * (pc w.heap.size 41 (actC 1 ri rg at_ x st) * (gmC g h p q b cap vF vR ps free rl F))) ((w.alloc (.cells (actC 1 ri rg at_ x st).toArray 41)).alloc (.cells #[vi ri, vu rg] 25)) := hB0
  have a3 : ((w.alloc (.cells (actC 1 ri rg at_ x st).toArray 41)).alloc (.cells #[vi ri, vu rg] 25)).cell? ⟨w.heap.size, 3, none⟩ = some (vi at_) := hB.pull2.cell 3 rfl
  have g2 := hB.pull3.cell 2 rfl
  obtain ⟨vo, rcap, hvo⟩ := hS.dropL.rd.len
  have hvR := hvo
  rw [hvo] at g2
  have HB := Lib.hid hB
  have HVO := Lib.hid hvo
  clear hS hA0 hB0 hB hvR hvo
  go_enter Try.func13, Try.ntmps13
  go_upto_region 2 with fail
  go_cut [25] from 13 (fun vb wc => wc = ((w.alloc (.cells (actC 1 ri rg at_ x st).toArray 41)).alloc (.cells #[vi ri, vu rg] 25)) ∧ ((vb = .bool true ∧ 1 ≤ at_ ∧ 0 < rl.length) ∨ (vb = .bool false ∧ ¬ (1 ≤ at_ ∧ 0 < rl.length))))
  case first =>
    by_cases h1 : 1 ≤ at_
    · by_cases h2 : 0 < rl.length
      · have h2i : (0 : Int) < (rl.length : Int) := by omega
        go_wp2_with fail
        go_meet
        exact ⟨rfl, .inl ⟨by simp [*], h1, h2⟩⟩
      · have h20 : rl.length = 0 := by omega
        rw [h20] at g2
        go_wp2_with fail
        go_meet
        exact ⟨rfl, .inr ⟨by simp [*], by omega⟩⟩
    · go_wp2_with fail
      go_meet
      exact ⟨rfl, .inr ⟨by simp [*], by omega⟩⟩
  case rest =>
  obtain ⟨rfl, hvb⟩ := hcut
  go_upto_if 25 with fail
  go_cut [5] from 13 (fun vr wc => ∃ i gg : Int, vr = .pointer (some ⟨w.heap.size + 1, 0, none⟩) ∧ Sat w0 (pc (w.heap.size + 1) 25 [vi i, vu gg] * (pc w.heap.size 41 (actC 1 ri rg at_ x st) * (gmC g h p q b cap vF vR ps free rl F))) wc)
  case first =>
    rcases hvb with ⟨rfl, h1, h2⟩ | ⟨rfl, _⟩
    · obtain ⟨idx, j, hidx, hj, ht1, ht2, ht3⟩ := at_fact at_ rl.length h2 h1
      have hidxi : (idx : Int) < (rl.length : Int) := by omega
      have hw1 : IntKind.i64.wrap (at_ - 1) = at_ - 1 := IntWalk.i64_in _ (by omega)
      have hw2 : IntKind.i64.wrap ((rl.length : Int) - 1) = (rl.length : Int) - 1 := IntWalk.i64_in _ (by omega)
      have hw3 : IntKind.i64.wrap ((rl.length : Int) - 1 - (j : Int)) = (idx : Int) := by rw [ht3]; exact IntWalk.i64_in _ (by omega)
      have hn0 : ¬ (rl.length : Int) = 0 := by omega
      obtain ⟨⟨i, gg⟩, hrr⟩ : ∃ r, rl[idx]? = some r := ⟨rl[idx], List.getElem?_eq_getElem hidx⟩
      have hsl := HB.out.dropL.dropL.dropL
      rw [HVO.out] at hsl
      obtain ⟨gr, rfl⟩ : ∃ gr, vo = some ⟨gr, 0, none⟩ := by
        rcases hsl.slE.2 with ⟨_, h0, _⟩ | ⟨g', c', cur, hv, _⟩
        · omega
        · injection hv with h1 h2 h3
          exact ⟨g', h1⟩
      have l0 := hsl.slCell _ (frefs_at hrr).1
      have l1 := hsl.slCell _ (frefs_at hrr).2
      dsimp only at l0 l1
      have rf0 := HB.out.free 0
      have rf1 := HB.out.free 1
      have r0 := HB.out.cell 0 rfl
      have r1 := HB.out.cell 1 rfl
      have hst : Sat w0 (pc (w.heap.size + 1) 25 [vi i, vu gg] * (pc w.heap.size 41 (actC 1 ri rg at_ x st) * (gmC g h p q b cap vF vR ps free rl F))) _ := ((HB.out.drew.store 0 (vi i)).store 1 (vu gg))
      have HST := Lib.hid hst
      clear hst hsl hrr ht3 x0 x1 x2 x3 HB
      generalize ((w.alloc (.cells (actC 1 ri rg at_ x st).toArray 41)).alloc (.cells #[vi ri, vu rg] 25)) = W1 at *
      generalize w.heap.size + 1 = bR at *
      go_wp2_with fail
      refine wp_quiet_tail 22 (by kernel_rfl) (by kernel_rfl) ?_
      simp only [List.take_succ_cons, List.take_zero, List.drop_succ_cons, List.drop_zero]
      repeat (go_big_quiet_step (fail))
      refine wpQuiet_nil ?_
      go_wp2_with fail
      go_meet
      exact ⟨i, gg, rfl, HST.out⟩
    · clear x0 x1 x2 x3
      generalize ((w.alloc (.cells (actC 1 ri rg at_ x st).toArray 41)).alloc (.cells #[vi ri, vu rg] 25)) = W1 at *
      go_wp2_with fail
      go_meet
      exact ⟨ri, rg, rfl, HB.out⟩
  case rest =>
    obtain ⟨i, gg, rfl, hS1⟩ := hcut
    generalize w.heap.size + 1 = bR at *
    generalize w.heap.size = bA at *
    have k0 : wc.cell? ⟨bA, 0, none⟩ = some (vi 1) := hS1.pull2.cell 0 rfl
    have HC := Lib.hid hS1
    clear hS1 HB x0 x1 x2 x3 a3 g2
    have hr1 := rowLd_eq
    have hr2 := fun w : World => run_rowLd (w := w) (b := bA) (o := 4) (x := x)
    go_upto_region 6 with fail
    go_cut [6, 7] from 53 (fun v6 v7 wx => ∃ b6 : Nat, v6 = .pointer (some ⟨b6, 0, none⟩) ∧ v7 = vi code ∧ Sat w0 (pc b6 25 [vi xi, vu xg] * (pc bR 25 [vi i, vu gg] * (pc bA 41 (actC 1 ri rg at_ x st) * (pc g 47 [vp h, vp q, vR] * (sl 25 2 vR rl.length (frefs rl) * (gtB h p * (tblP p ps' free' * refG q b cap vF ps free F))))))) wx)
    case first =>
      have e0 := HC.out.drew.pull3.cell 0 rfl
      have e1 := HC.out.drew.pull3.cell 1 rfl
      have e2 : World.rangeAt _ bA 4 (elC x) := rangeAct HC.out.drew.pull2
      have hA1 : Sat w0 (pc wc.heap.size 25 [vi 0, vu 0] * (pc bR 25 [vi i, vu gg] * (pc bA 41 (actC 1 ri rg at_ x st) * (gmC g h p q b cap vF vR ps free rl F)))) (wc.alloc (.cells #[vi 0, vu 0] 25)).drew := (HC.out.alloc (.cells #[vi 0, vu 0] 25)).drew
      have a0 := hA1.dropL.pull3.cell 0 rfl
      have a1 := hA1.dropL.pull3.cell 1 rfl
      have a2 : World.rangeAt _ bA 4 (elC x) := rangeAct hA1.dropL.pull2
      have HC1 := Lib.hid (HP.out w0 _ (pc wc.heap.size 25 [vi 0, vu 0] * (pc bR 25 [vi i, vu gg] * (pc bA 41 (actC 1 ri rg at_ x st) * (pc g 47 [vp h, vp q, vR] * (sl 25 2 vR rl.length (frefs rl) * refG q b cap vF ps free F))))) h p (hA1.cast (by unfold gmC; ac_rfl)))
      have HC2 := Lib.hid (HP.out w0 _ (pc bR 25 [vi i, vu gg] * (pc bA 41 (actC 1 ri rg at_ x st) * (pc g 47 [vp h, vp q, vR] * (sl 25 2 vR rl.length (frefs rl) * refG q b cap vF ps free F)))) h p (HC.out.drew.cast (by unfold gmC; ac_rfl)))
      clear hA1
      go_region_held3 (fun w' => w'.cell? ⟨g, 0, none⟩ = some (vp h) ∧ w'.cell? ⟨g, 1, none⟩ = some (vp q) ∧ w'.rangeAt bA 4 (elC x))
        (first | with_reducible exact ⟨e0, e1, e2⟩ | with_reducible exact ⟨a0, a1, a2⟩ | with_reducible exact ⟨f0, f1, f2⟩ | with_reducible exact ⟨m0, m1, m2⟩ | with_reducible exact ⟨k0, k1, k2⟩ | go_keep)
        (first
          | (go_at_call 19; (with_reducible refine HC1.out.mono ?_); rintro e w5 ⟨rfl, hS5⟩; have hV : Sat w0 (pc wc.heap.size 25 [vi 0, vu 0] * (pc bR 25 [vi i, vu gg] * (pc bA 41 (actC 1 ri rg at_ x st) * (pc g 47 [vp h, vp q, vR] * (sl 25 2 vR rl.length (frefs rl) * (gtB h p * (tblP p ps' free' * refG q b cap vF ps free F))))))) w5 := hS5.cast (by unfold refG; ac_rfl); have f0 := hV.dropL.pull3.cell 0 rfl; have f1 := hV.dropL.pull3.cell 1 rfl; have f2 : World.rangeAt _ bA 4 (elC x) := rangeAct hV.dropL.pull2; have p0 := hV.cell 0 rfl; have p1 := hV.cell 1 rfl; have pf0 := hV.free 0; have pf1 := hV.free 1; have hW := (hV.store 0 (vi xi)).store 1 (vu xg); have k0 := hW.dropL.pull3.cell 0 rfl; have k1 := hW.dropL.pull3.cell 1 rfl; have k2 : World.rangeAt _ bA 4 (elC x) := rangeAct hW.dropL.pull2; have HW : Hid (Sat w0 (pc wc.heap.size 25 [vi xi, vu xg] * (pc bR 25 [vi i, vu gg] * (pc bA 41 (actC 1 ri rg at_ x st) * (pc g 47 [vp h, vp q, vR] * (sl 25 2 vR rl.length (frefs rl) * (gtB h p * (tblP p ps' free' * refG q b cap vF ps free F))))))) _) := Lib.hid hW; clear hS5 hV hW)
          | (go_at_call 19; (with_reducible refine HC2.out.mono ?_); rintro e w5 ⟨rfl, hS5⟩; have hV : Sat w0 (pc bR 25 [vi i, vu gg] * (pc bA 41 (actC 1 ri rg at_ x st) * (pc g 47 [vp h, vp q, vR] * (sl 25 2 vR rl.length (frefs rl) * (gtB h p * (tblP p ps' free' * refG q b cap vF ps free F)))))) w5 := hS5.cast (by unfold refG; ac_rfl); have f0 := hV.pull3.cell 0 rfl; have f1 := hV.pull3.cell 1 rfl; have f2 : World.rangeAt _ bA 4 (elC x) := rangeAct hV.pull2; have hM := (hV.alloc (.cells #[vi 0, vu 0] 25)).dropL; have m0 := hM.pull3.cell 0 rfl; have m1 := hM.pull3.cell 1 rfl; have m2 : World.rangeAt _ bA 4 (elC x) := rangeAct hM.pull2; have hW0 := hV.alloc (.cells #[vi xi, vu xg] 25); have hW : Sat w0 (pc w5.heap.size 25 [vi xi, vu xg] * (pc bR 25 [vi i, vu gg] * (pc bA 41 (actC 1 ri rg at_ x st) * (pc g 47 [vp h, vp q, vR] * (sl 25 2 vR rl.length (frefs rl) * (gtB h p * (tblP p ps' free' * refG q b cap vF ps free F))))))) _ := hW0; have k0 := hW.dropL.pull3.cell 0 rfl; have k1 := hW.dropL.pull3.cell 1 rfl; have k2 : World.rangeAt _ bA 4 (elC x) := rangeAct hW.dropL.pull2; have HW := Lib.hid hW; clear hS5 hV hW hW0 hM))
      · go_wp2_with fail
        go_meet
        exact ⟨_, rfl, rfl, HW.out⟩
      · go_wp2_with fail
        go_meet
        exact ⟨_, rfl, rfl, HW.out⟩
    case rest =>
      obtain ⟨b6, rfl, rfl, hS2⟩ := hcut
      have HC6 := Lib.hid hS2
      clear HC hS2 k0
      go_upto_region 7 with fail
      go_cut [8, 9] from 63 (fun v8 v9 wx => ∃ (b8 : Nat) (vG : Value), v8 = .pointer (some ⟨b8, 0, none⟩) ∧ v9 = vi code ∧ Sat w0 (pc b8 25 [vi xi, vu xg] * (pc b6 25 [vi xi, vu xg] * (pc bR 25 [vi i, vu gg] * (pc bA 41 (actC 1 ri rg at_ x st) * (pc g 47 [vp h, vp q, vR] * (sl 25 2 vR rl.length (frefs rl) * (gtB h p * (tblP p ps' free' * refG q b cap vG ps' free' F)))))))) wx)
      case first =>
        have e0 := HC6.out.drew.dropL.pull3.cell 0 rfl
        have e1 := HC6.out.drew.dropL.pull3.cell 1 rfl
        have e2 : World.rangeAt _ bA 4 (elC x) := rangeAct HC6.out.drew.dropL.pull2
        have hA1 : Sat w0 (pc wc.heap.size 25 [vi 0, vu 0] * (pc b6 25 [vi xi, vu xg] * (pc bR 25 [vi i, vu gg] * (pc bA 41 (actC 1 ri rg at_ x st) * (pc g 47 [vp h, vp q, vR] * (sl 25 2 vR rl.length (frefs rl) * (gtB h p * (tblP p ps' free' * refG q b cap vF ps free F)))))))) (wc.alloc (.cells #[vi 0, vu 0] 25)).drew := (HC6.out.alloc (.cells #[vi 0, vu 0] 25)).drew
        have a0 := hA1.dropL.dropL.pull3.cell 0 rfl
        have a1 := hA1.dropL.dropL.pull3.cell 1 rfl
        have a2 : World.rangeAt _ bA 4 (elC x) := rangeAct hA1.dropL.dropL.pull2
        have HC1 := Lib.hid (HR.out w0 _ (pc wc.heap.size 25 [vi 0, vu 0] * (pc b6 25 [vi xi, vu xg] * (pc bR 25 [vi i, vu gg] * (pc bA 41 (actC 1 ri rg at_ x st) * (pc g 47 [vp h, vp q, vR] * (sl 25 2 vR rl.length (frefs rl) * (gtB h p * (tblP p ps' free' * F)))))))) q b cap vF (hA1.cast (by unfold refG; ac_rfl)))
        have HC2 := Lib.hid (HR.out w0 _ (pc b6 25 [vi xi, vu xg] * (pc bR 25 [vi i, vu gg] * (pc bA 41 (actC 1 ri rg at_ x st) * (pc g 47 [vp h, vp q, vR] * (sl 25 2 vR rl.length (frefs rl) * (gtB h p * (tblP p ps' free' * F))))))) q b cap vF (HC6.out.drew.cast (by unfold refG; ac_rfl)))
        clear hA1
        go_region_held3 (fun w' => w'.cell? ⟨g, 0, none⟩ = some (vp h) ∧ w'.cell? ⟨g, 1, none⟩ = some (vp q) ∧ w'.rangeAt bA 4 (elC x))
          (first | with_reducible exact ⟨e0, e1, e2⟩ | with_reducible exact ⟨a0, a1, a2⟩ | with_reducible exact ⟨f0, f1, f2⟩ | with_reducible exact ⟨m0, m1, m2⟩ | with_reducible exact ⟨k0, k1, k2⟩ | go_keep)
          (first
            | (go_at_call 22; (with_reducible refine HC1.out.mono ?_); rintro e w5 ⟨vG, rfl, hS5⟩; have hV : Sat w0 (pc wc.heap.size 25 [vi 0, vu 0] * (pc b6 25 [vi xi, vu xg] * (pc bR 25 [vi i, vu gg] * (pc bA 41 (actC 1 ri rg at_ x st) * (pc g 47 [vp h, vp q, vR] * (sl 25 2 vR rl.length (frefs rl) * (gtB h p * (tblP p ps' free' * refG q b cap vG ps' free' F)))))))) w5 := hS5.cast (by unfold refG; ac_rfl); have f0 := hV.dropL.dropL.pull3.cell 0 rfl; have f1 := hV.dropL.dropL.pull3.cell 1 rfl; have f2 : World.rangeAt _ bA 4 (elC x) := rangeAct hV.dropL.dropL.pull2; have p0 := hV.cell 0 rfl; have p1 := hV.cell 1 rfl; have pf0 := hV.free 0; have pf1 := hV.free 1; have hW := (hV.store 0 (vi xi)).store 1 (vu xg); have k0 := hW.dropL.dropL.pull3.cell 0 rfl; have k1 := hW.dropL.dropL.pull3.cell 1 rfl; have k2 : World.rangeAt _ bA 4 (elC x) := rangeAct hW.dropL.dropL.pull2; have HW : Hid (Sat w0 (pc wc.heap.size 25 [vi xi, vu xg] * (pc b6 25 [vi xi, vu xg] * (pc bR 25 [vi i, vu gg] * (pc bA 41 (actC 1 ri rg at_ x st) * (pc g 47 [vp h, vp q, vR] * (sl 25 2 vR rl.length (frefs rl) * (gtB h p * (tblP p ps' free' * refG q b cap vG ps' free' F)))))))) _) := Lib.hid hW; clear hS5 hV hW)
            | (go_at_call 22; (with_reducible refine HC2.out.mono ?_); rintro e w5 ⟨vG, rfl, hS5⟩; have hV : Sat w0 (pc b6 25 [vi xi, vu xg] * (pc bR 25 [vi i, vu gg] * (pc bA 41 (actC 1 ri rg at_ x st) * (pc g 47 [vp h, vp q, vR] * (sl 25 2 vR rl.length (frefs rl) * (gtB h p * (tblP p ps' free' * refG q b cap vG ps' free' F))))))) w5 := hS5.cast (by unfold refG; ac_rfl); have f0 := hV.dropL.pull3.cell 0 rfl; have f1 := hV.dropL.pull3.cell 1 rfl; have f2 : World.rangeAt _ bA 4 (elC x) := rangeAct hV.dropL.pull2; have hM := (hV.alloc (.cells #[vi 0, vu 0] 25)).dropL; have m0 := hM.dropL.pull3.cell 0 rfl; have m1 := hM.dropL.pull3.cell 1 rfl; have m2 : World.rangeAt _ bA 4 (elC x) := rangeAct hM.dropL.pull2; have hW0 := hV.alloc (.cells #[vi xi, vu xg] 25); have hW : Sat w0 (pc w5.heap.size 25 [vi xi, vu xg] * (pc b6 25 [vi xi, vu xg] * (pc bR 25 [vi i, vu gg] * (pc bA 41 (actC 1 ri rg at_ x st) * (pc g 47 [vp h, vp q, vR] * (sl 25 2 vR rl.length (frefs rl) * (gtB h p * (tblP p ps' free' * refG q b cap vG ps' free' F)))))))) _ := hW0; have k0 := hW.dropL.dropL.pull3.cell 0 rfl; have k1 := hW.dropL.dropL.pull3.cell 1 rfl; have k2 : World.rangeAt _ bA 4 (elC x) := rangeAct hW.dropL.dropL.pull2; have HW := Lib.hid hW; clear hS5 hV hW hW0 hM))
        · go_wp2_with fail
          go_meet
          exact ⟨_, vG, rfl, rfl, HW.out⟩
        · go_wp2_with fail
          go_meet
          exact ⟨_, vG, rfl, rfl, HW.out⟩
      case rest =>
        obtain ⟨b8, vG, rfl, rfl, hS3⟩ := hcut
        have s0 := hS3.cell 0 rfl
        have s1 := hS3.cell 1 rfl
        have t0 := hS3.pull2.cell 0 rfl
        have t1 := hS3.pull2.cell 1 rfl
        have HZ := Lib.hid hS3
        clear HC6 hS3 hr2
        by_cases hcode : code = 0
        · subst hcode
          go_wp2_with fail
          obtain ⟨vo, rcap, rfl⟩ := HZ.out.dropL.dropL.dropL.dropL.dropL.rd.len
          have hz := HZ.out.dropL.cast (show _ = pc g 47 [vp h, vp q, (.slice vo rl.length rcap)] * (sl 25 2 (.slice vo rl.length rcap) rl.length (frefs rl) * (pc b6 25 [vi xi, vu xg] * (pc bR 25 [vi i, vu gg] * (pc bA 41 (actC 1 ri rg at_ x st) * (gtB h p * (tblP p ps' free' * refG q b cap vG ps' free' F)))))) by ac_rfl)
          have z0 := hz.cell 2 rfl
          have z1 := hz.pull3.cell 0 rfl
          have z2 := hz.pull3.cell 1 rfl
          have n0 := World.new_ne wc _ z0
          have n1 := World.new_ne wc _ z1
          have l0 := hz.lt
          have l1 := hz.pull3.lt
          have HZ2 := Lib.hid hz
          clear hz s0 s1 t0 t1
          go_region_law
            ((refine step_append_sl Eref (by rfl) _ _ (by rfl) (by rfl) ((HZ2.out.pull2.alloc' _).drew) (by rfl) (rdTwo _ _ (vi xi) (vu xg) rfl) (by simp [Value.oneCell']) (by unfold maxLen; omega) (by omega) ?_; intro ao' cap' w9 hS9; have hP9 := hS9.pull2; have hF9 := hP9.free 2; have hC9 := hP9.cell 2 rfl))
          all_goals go_wp2
          all_goals go_ret
          all_goals
            have h9 := hP9.store 2 (.slice ao' (rl.length + 1) cap')
            refine ⟨ps', free', rl ++ [(xi, xg)], vG, .slice ao' (rl.length + 1) cap', by simp, HRel.out, by simp, ?_⟩
            unfold gmC
            rw [frefs_snoc, List.length_append, List.length_singleton]
            exact (h9.cast (show _ = pc b6 25 [vi xi, vu xg] * (pc bR 25 [vi i, vu gg] * (pc bA 41 (actC 1 ri rg at_ x st) * (pc g 47 [vp h, vp q, .slice ao' (rl.length + 1) cap'] * (sl 25 2 (.slice ao' (rl.length + 1) cap') (rl.length + 1) (frefs rl ++ [vi xi, vu xg]) * (gtB h p * (tblP p ps' free' * refG q b cap vG ps' free' F)))))) by simp only [List.set_cons_succ, List.set_cons_zero]; ac_rfl)).dropL.dropL.dropL
        · have hcb : (code == 0) = false := beq_eq_false_iff_ne.2 hcode
          clear hcode
          go_wp2
          go_ret
          exact ⟨ps', free', rl, vG, vR, by simp, HRel.out, by omega, (HZ.out.dropL.dropL.dropL.dropL.cast (by unfold gmC; ac_rfl))⟩
end
end Go.Proofs.Ytffjckdaekamgaa.Gt
