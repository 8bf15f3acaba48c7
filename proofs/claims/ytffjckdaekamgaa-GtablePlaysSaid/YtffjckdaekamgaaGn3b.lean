/-
  Chapter 16: the game: Set. No statement is proved here.
-/
import Derived.Test.YtffjckdaekamgaaGn3
namespace Go.Proofs.Ytffjckdaekamgaa.Gt
open Go.RowKit Ag
set_option linter.unusedVariables false
set_option linter.unusedSimpArgs false

section
attribute [local irreducible] loadCellsFrom storeCells
variable {w0 w : World} {F : Hp} {n T g h p q b cap : Nat} {vF vR : Value} {ps : List Pl} {free : List Nat} {rl : List (Int × Int)}
set_option maxRecDepth 100000 in
set_option maxHeartbeats 8000000 in
theorem do_set (hI : Inv n T ps free) (hT : T ≤ 1000) (hS : Sat w0 (gmC g h p q b cap vF vR ps free rl F) w) (hrl : rl.length ≤ 1000) (ri rg at_ : Int) (hat : at_ ≤ 9223372036854775807) (x : El) (hx : 0 ≤ x.v18) (st : Int) : Calls Try.prog 13 #[vp g, .agg (actC 3 ri rg at_ x st).toArray] w (DoPost w0 n T g h p q b cap rl F) := by
  have HSt := Lib.hid (fun (i gg : Int) => set_step hI i gg x hx)
  clear hI hT
  have hl2 := ld2_eq
  have hA0 : Sat w0 (pc w.heap.size 41 (actC 3 ri rg at_ x st) * (gmC g h p q b cap vF vR ps free rl F)) (w.alloc (.cells (actC 3 ri rg at_ x st).toArray 41)) := hS.alloc _
  have x0 : (w.alloc (.cells (actC 3 ri rg at_ x st).toArray 41)).cell? ⟨w.heap.size, 0, none⟩ = some (vi 3) := hA0.cell 0 rfl
  have x1 : (w.alloc (.cells (actC 3 ri rg at_ x st).toArray 41)).cell? ⟨w.heap.size, 1, none⟩ = some (vi ri) := hA0.cell 1 rfl
  have x2 : (w.alloc (.cells (actC 3 ri rg at_ x st).toArray 41)).cell? ⟨w.heap.size, 2, none⟩ = some (vu rg) := hA0.cell 2 rfl
  have x3 : (w.alloc (.cells (actC 3 ri rg at_ x st).toArray 41)).cell? ⟨w.heap.size, 3, none⟩ = some (vi at_) := hA0.cell 3 rfl
  have hB0 := hA0.alloc (.cells #[vi ri, vu rg] 25)
  rw [size1] at hB0
  have hB : Sat w0 (pc (w.heap.size + 1) 25 [vi ri, vu rg] * (pc w.heap.size 41 (actC 3 ri rg at_ x st) * (gmC g h p q b cap vF vR ps free rl F))) ((w.alloc (.cells (actC 3 ri rg at_ x st).toArray 41)).alloc (.cells #[vi ri, vu rg] 25)) := hB0
  have a3 : ((w.alloc (.cells (actC 3 ri rg at_ x st).toArray 41)).alloc (.cells #[vi ri, vu rg] 25)).cell? ⟨w.heap.size, 3, none⟩ = some (vi at_) := hB.pull2.cell 3 rfl
  have g2 := hB.pull3.cell 2 rfl
  obtain ⟨vo, rcap, hvo⟩ := hS.dropL.rd.len
  have hvR := hvo
  rw [hvo] at g2
  have HB := Lib.hid hB
  have HVO := Lib.hid hvo
  clear hS hA0 hB0 hB hvR hvo
  go_enter Try.func13, Try.ntmps13
  go_upto_region 2 with fail
  go_cut [25] from 13 (fun vb wc => wc = ((w.alloc (.cells (actC 3 ri rg at_ x st).toArray 41)).alloc (.cells #[vi ri, vu rg] 25)) ∧ ((vb = .bool true ∧ 1 ≤ at_ ∧ 0 < rl.length) ∨ (vb = .bool false ∧ ¬ (1 ≤ at_ ∧ 0 < rl.length))))
  case first =>
    by_cases h1 : 1 ≤ at_
    · by_cases h2 : 0 < rl.length
      · have h2i : (0 : Int) < (rl.length : Int) := by omega
        go_wp2_with fail
        go_meet
        exact ⟨rfl, .inl ⟨by simp [*], h1, h2⟩⟩
      · have h20 : rl.length = 0 := by omega
        rw [h20] at g2
        go_wp2_with fail
        go_meet
        exact ⟨rfl, .inr ⟨by simp [*], by omega⟩⟩
    · go_wp2_with fail
      go_meet
      exact ⟨rfl, .inr ⟨by simp [*], by omega⟩⟩
  case rest =>
  obtain ⟨rfl, hvb⟩ := hcut
  go_upto_if 25 with fail
  go_cut [5] from 13 (fun vr wc => ∃ i gg : Int, vr = .pointer (some ⟨w.heap.size + 1, 0, none⟩) ∧ Sat w0 (pc (w.heap.size + 1) 25 [vi i, vu gg] * (pc w.heap.size 41 (actC 3 ri rg at_ x st) * (gmC g h p q b cap vF vR ps free rl F))) wc)
  case first =>
    rcases hvb with ⟨rfl, h1, h2⟩ | ⟨rfl, _⟩
    · obtain ⟨idx, j, hidx, hj, ht1, ht2, ht3⟩ := at_fact at_ rl.length h2 h1
      have hidxi : (idx : Int) < (rl.length : Int) := by omega
      have hw1 : IntKind.i64.wrap (at_ - 1) = at_ - 1 := IntWalk.i64_in _ (by omega)
      have hw2 : IntKind.i64.wrap ((rl.length : Int) - 1) = (rl.length : Int) - 1 := IntWalk.i64_in _ (by omega)
      have hw3 : IntKind.i64.wrap ((rl.length : Int) - 1 - (j : Int)) = (idx : Int) := by rw [ht3]; exact IntWalk.i64_in _ (by omega)
      have hn0 : ¬ (rl.length : Int) = 0 := by omega
      obtain ⟨⟨i, gg⟩, hrr⟩ : ∃ r, rl[idx]? = some r := ⟨rl[idx], List.getElem?_eq_getElem hidx⟩
      have hsl := HB.out.dropL.dropL.dropL
      rw [HVO.out] at hsl
      obtain ⟨gr, rfl⟩ : ∃ gr, vo = some ⟨gr, 0, none⟩ := by
        rcases hsl.slE.2 with ⟨_, h0, _⟩ | ⟨g', c', cur, hv, _⟩
        · omega
        · injection hv with h1 h2 h3
          exact ⟨g', h1⟩
      have l0 := hsl.slCell _ (frefs_at hrr).1
      have l1 := hsl.slCell _ (frefs_at hrr).2
      dsimp only at l0 l1
      have rf0 := HB.out.free 0
      have rf1 := HB.out.free 1
      have r0 := HB.out.cell 0 rfl
      have r1 := HB.out.cell 1 rfl
      have hst : Sat w0 (pc (w.heap.size + 1) 25 [vi i, vu gg] * (pc w.heap.size 41 (actC 3 ri rg at_ x st) * (gmC g h p q b cap vF vR ps free rl F))) _ := ((HB.out.drew.store 0 (vi i)).store 1 (vu gg))
      have HST := Lib.hid hst
      clear hst hsl hrr ht3 x0 x1 x2 x3 HB
      generalize ((w.alloc (.cells (actC 3 ri rg at_ x st).toArray 41)).alloc (.cells #[vi ri, vu rg] 25)) = W1 at *
      generalize w.heap.size + 1 = bR at *
      go_wp2_with fail
      refine wp_quiet_tail 22 (by kernel_rfl) (by kernel_rfl) ?_
      simp only [List.take_succ_cons, List.take_zero, List.drop_succ_cons, List.drop_zero]
      repeat (go_big_quiet_step (fail))
      refine wpQuiet_nil ?_
      go_wp2_with fail
      go_meet
      exact ⟨i, gg, rfl, HST.out⟩
    · clear x0 x1 x2 x3
      generalize ((w.alloc (.cells (actC 3 ri rg at_ x st).toArray 41)).alloc (.cells #[vi ri, vu rg] 25)) = W1 at *
      go_wp2_with fail
      go_meet
      exact ⟨ri, rg, rfl, HB.out⟩
  case rest =>
    obtain ⟨i, gg, rfl, hS1⟩ := hcut
    generalize w.heap.size + 1 = bR at *
    generalize w.heap.size = bA at *
    have k0 : wc.cell? ⟨bA, 0, none⟩ = some (vi 3) := hS1.pull2.cell 0 rfl
    have HC := Lib.hid hS1
    clear hS1 HB x0 x1 x2 x3 a3 g2
    obtain ⟨code, ps', free', hRel, hP, hR⟩ := HSt.out i gg
    have HRel := Lib.hid hRel
    have HP := Lib.hid (fun (w5 : World) (h5 : Sat w0 (pc bR 25 [vi i, vu gg] * (pc bA 41 (actC 3 ri rg at_ x st) * (pc g 47 [vp h, vp q, vR] * (sl 25 2 vR rl.length (frefs rl) * (gtB h p * (tblP p ps free * refG q b cap vF ps free F)))))) w5) => hP w0 w5 (pc bR 25 [vi i, vu gg] * (pc bA 41 (actC 3 ri rg at_ x st) * (pc g 47 [vp h, vp q, vR] * (sl 25 2 vR rl.length (frefs rl) * refG q b cap vF ps free F)))) h p (h5.cast (by ac_rfl)))
    have HR := Lib.hid (fun (w5 : World) (h5 : Sat w0 (refG q b cap vF ps free (pc bR 25 [vi i, vu gg] * (pc bA 41 (actC 3 ri rg at_ x st) * (pc g 47 [vp h, vp q, vR] * (sl 25 2 vR rl.length (frefs rl) * (gtB h p * (tblP p ps' free' * F))))))) w5) => hR w0 w5 _ q b cap vF h5)
    have e0 := HC.out.drew.pull3.cell 0 rfl
    have e1 := HC.out.drew.pull3.cell 1 rfl
    have e2 := HC.out.drew.cell 0 rfl
    have e3 := HC.out.drew.cell 1 rfl
    have e4 : World.rangeAt _ bA 4 (elC x) := rangeAct HC.out.drew.pull2
    clear hRel hP hR
    go_wp2_with fail
    have hr1 := rowLd_eq
    have hr2 := fun w : World => run_rowLd (w := w) (b := bA) (o := 4) (x := x)
    go_region_held3 (fun w' => w'.cell? ⟨g, 0, none⟩ = some (vp h) ∧ w'.cell? ⟨g, 1, none⟩ = some (vp q) ∧ w'.cell? ⟨bR, 0, none⟩ = some (vi i) ∧ w'.cell? ⟨bR, 1, none⟩ = some (vu gg) ∧ w'.rangeAt bA 4 (elC x))
      (first | exact ⟨e0, e1, e2, e3, e4⟩ | exact ⟨f0, f1, f2, f3, f4⟩ | exact ⟨k0, k1, k2, k3, k4⟩ | go_keep)
      (first
        | (go_at_call 25; (with_reducible refine (HP.out _ HC.out.drew).mono ?_); rintro e w5 ⟨rfl, hS5⟩; have h5 := hS5.cast (show _ = pc bR 25 [vi i, vu gg] * (pc bA 41 (actC 3 ri rg at_ x st) * (pc g 47 [vp h, vp q, vR] * (sl 25 2 vR rl.length (frefs rl) * (gtB h p * (tblP p ps' free' * refG q b cap vF ps free F))))) by ac_rfl); have f0 := h5.pull3.cell 0 rfl; have f1 := h5.pull3.cell 1 rfl; have f2 := h5.cell 0 rfl; have f3 := h5.cell 1 rfl; have f4 : World.rangeAt _ bA 4 (elC x) := rangeAct h5.pull2; have H5 := Lib.hid h5; clear hS5 h5)
        | (go_at_call 26; (with_reducible refine (HR.out _ (H5.out.cast (by unfold refG; ac_rfl))).mono ?_); rintro e w6 ⟨vG, rfl, hS6⟩; have h6 := hS6.cast (show _ = pc bR 25 [vi i, vu gg] * (pc bA 41 (actC 3 ri rg at_ x st) * (pc g 47 [vp h, vp q, vR] * (sl 25 2 vR rl.length (frefs rl) * (gtB h p * (tblP p ps' free' * refG q b cap vG ps' free' F))))) by unfold refG; ac_rfl); have k0 := h6.pull3.cell 0 rfl; have k1 := h6.pull3.cell 1 rfl; have k2 := h6.cell 0 rfl; have k3 := h6.cell 1 rfl; have k4 : World.rangeAt _ bA 4 (elC x) := rangeAct h6.pull2; have H6 := Lib.hid h6; clear hS6 h6))
    go_wp2
    go_ret
    exact ⟨ps', free', rl, vG, vR, by simp, HRel.out, by omega, H6.out.dropL.dropL⟩
end
end Go.Proofs.Ytffjckdaekamgaa.Gt
