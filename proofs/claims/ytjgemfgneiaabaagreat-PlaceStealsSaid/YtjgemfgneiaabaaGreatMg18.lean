/-
  Whole structs: a result in a cell of many cells, a store of a whole struct. No statement is proved here.
-/
import Derived.Test.YtjgemfgneiaabaaGreatOwn
import Derived.Laws.ResultCell
import Derived.Deep.MidRow
import Derived.Shelf.Abstract
import Derived.Test.YtjgemfgneiaabaaGreatMg17
namespace Go.Proofs.YtjgemfgneiaabaaGreat
open Go.RowKit
theorem results_row1 {fn : Func} {p : Tmp} {ty : TypeId} (h : fn.results = #[.cell p ty]) (tmps : Array Value) (P : Program) (w : World) {b : Nat} {cs : List Value} {d : TypeDesc}
    (hp : tmps.getD p undef = .pointer (some ⟨b, 0, none⟩)) (hc : w.rangeAt b 0 cs) (hu : P.underlying ty = some d) (hd : d.isRow = true) (hi : (P.info? ty).map (·.size) = some cs.length) :
    (results fn tmps).run P w = .ok (.agg cs.toArray) w := by
  have e : (asAddr (.pointer (some ⟨b, 0, none⟩))).run P w = .ok ⟨b, 0, none⟩ w := rfl
  simp only [results, h]
  have hp' : tmps[p]?.getD undef = .pointer (some ⟨b, 0, none⟩) := by simpa using hp
  simp [Sem.run_bind, Result.andThen, hp', e, run_loadVar_mid w b 0 ty cs d hc hu hd hi]
theorem setL_full (cs vs : List Value) (h : vs.length = cs.length) : setL cs 0 vs = vs := List.ext_getElem? fun i => by
  by_cases hi : i < vs.length
  · have := setL_in vs cs 0 i hi (by omega)
    rw [Nat.zero_add] at this
    exact this
  · rw [List.getElem?_eq_none (by rw [setL_len]; omega), List.getElem?_eq_none (by omega)]
theorem Sat.rowAll {w0 w : World} {F : Hp} {b : Nat} {T : TypeId} {cs : List Value} (h : Sat w0 (pc b T cs * F) w) (vs : List Value) (hl : vs.length = cs.length) : Sat w0 (pc b T vs * F) (w.setCells b 0 vs.toArray.toList) := by
  have hs := h.stores vs 0
  rw [setL_full cs vs hl] at hs
  exact hs
theorem Sat.thereN {b : Nat} {T : TypeId} {cs : List Value} {F : Hp} {w0 w : World} (h : Sat w0 (pc b T cs * F) w) {n : Nat} (hn : cs.length = n) : w.there b 0 n := fun j hj => by
  rw [Nat.zero_add, h.cell j (List.getElem?_eq_getElem (by omega))]
  exact ⟨rfl, h.free j⟩
theorem Sat.rangeN {b : Nat} {T : TypeId} {cs : List Value} {F : Hp} {w0 w : World} (h : Sat w0 (pc b T cs * F) w) : w.rangeAt b 0 cs := fun j v hv => by
  rw [Nat.zero_add]
  exact h.cell j hv
end Go.Proofs.YtjgemfgneiaabaaGreat

namespace Go.Proofs.YtjgemfgneiaabaaGreat.Pc
open Go.RowKit Rq Gq
set_option linter.unusedVariables false
set_option linter.unusedSimpArgs false

section
variable {w0 w : World} {F : Hp} {D : Ad} {p : Nat → Pl} {gx : List Int}
abbrev ringsB (p : Nat → Pl) (n : Nat) (v : Value) (rv : Nat → Value) : Hp := sl 41 1 v n (rowsN (fun k => [rv k]) n) * star (fun i => rs 3 (rv i) ((p i).xs.map vi)) n
set_option maxRecDepth 100000 in
set_option maxHeartbeats 2000000 in
theorem told3 (h : Sat w0 (plB D p gx * F) w) (ho : D.Ok) : Calls Tryz.prog 64 #[D.v, .func (.func 65) #[] #[]] w fun e w' => ∃ v rv, e = .returned v ∧ Sat w0 (ringsB p D.n v rv * (plB D p gx * F)) w' := by
  have hn8 := ho.n8
  have H0 := Lib.hid (h.addNil 41 1)
  clear h
  go_enter Tryz.func64, Tryz.ntmps64
  go_wp2
  go_loopw [9, 4] (fun i o wr => ∃ (j : Nat) (rv : Nat → Value), j ≤ D.n ∧ i = vi j ∧ Sat w0 (sl 41 1 o j (rowsN (fun k => [rv k]) j) * (star (fun i => rs 3 (rv i) ((p i).xs.map vi)) j * (plB D p gx * F))) wr) (fun i _ _ => D.n - (intOf i).toNat)
  case atStart => exact ⟨0, fun _ => undef, Nat.zero_le _, rfl, H0.out.cast (by rw [star_zero, emp_sep]; rfl)⟩
  case round =>
    clear H0
    obtain ⟨j, rv, hj, rfl, hS⟩ := hrel
    by_cases hlt : j < D.n
    · have hji : (j : Int) < (D.n : Int) := by omega
      obtain ⟨r0, r1, r2, r3, r4⟩ := pl_row hS.dropL.dropL hlt
      obtain ⟨ao, cap, rfl⟩ := hS.rd.len
      have hj8 : j < 8 := by omega
      have hx := (hS.alloc' (.cells #[vp (D.q j), vi (p j).g, .bool (p j).runs, vi (p j).left, vu (p j).turns] 64)).cast (show _ = plB D p gx * (sl 41 1 (.slice ao j cap) j (rowsN (fun k => [rv k]) j) * (star (fun i => rs 3 (rv i) ((p i).xs.map vi)) j * F)) by ac_rfl)
      have hc := (vw3 (q := D.q j) (g := (p j).g) (ru := (p j).runs) (lf := (p j).left) (tu := (p j).turns) (pl_out hx hlt)).mono fun e w' ⟨v, he, h9⟩ => (⟨v, he, (pl_in (y := p j) (F := rs 3 v ((p j).xs.map vi) * (sl 41 1 (.slice ao j cap) j (rowsN (fun k => [rv k]) j) * (star (fun i => rs 3 (rv i) ((p i).xs.map vi)) j * F))) (h9.cast (by ac_rfl)) hlt rfl rfl rfl rfl).cast (show _ = sl 41 1 (.slice ao j cap) j (rowsN (fun k => [rv k]) j) * (rs 3 v ((p j).xs.map vi) * (star (fun i => rs 3 (rv i) ((p i).xs.map vi)) j * (plB D p gx * F))) by rw [up_self]; ac_rfl)⟩ : ∃ v, e = Ending.returned v ∧ Sat w0 (sl 41 1 (.slice ao j cap) j (rowsN (fun k => [rv k]) j) * (rs 3 v ((p j).xs.map vi) * (star (fun i => rs 3 (rv i) ((p i).xs.map vi)) j * (plB D p gx * F)))) w')
      have HC := Lib.hid hc
      clear hS hc hx
      go_wp2_with (first
        | (go_at_call 65; refine HC.out.mono ?_; rintro e w1 ⟨v1, rfl, hS1⟩; obtain ⟨a1, c1, rfl⟩ := hS1.pull2.rsRd.len; have H1 := Lib.hid hS1; clear hS1)
        | (at_builtin; refine wpList_append_sl Eintso rfl (.tmp 13) (.tmp 17) rfl rfl (H1.out.alloc' _) (by rfl) (Rd.one _ _ _) (by simp [Value.oneCell']) (by unfold maxLen; omega) (by omega) ?_; intro ao6 cap6 w6 hS6; have H7 := Lib.hid hS6; clear hS6))
      obtain ⟨rn, hrn⟩ : ∃ rn, Value.slice a1 ((p j).xs.map vi).length c1 = rn := ⟨_, rfl⟩
      go_roundw
      case rel =>
        refine ⟨j + 1, fun i => if i = j then .slice a1 ((p j).xs.map vi).length c1 else rv i, by omega, by go_num, H7.out.cast ?_⟩
        have e1 : rowsN (fun k => [(fun i => if i = j then .slice a1 ((p j).xs.map vi).length c1 else rv i) k]) (j + 1) = rowsN (fun k => [rv k]) j ++ [.slice a1 ((p j).xs.map vi).length c1] := by
          rw [rowsN_succ, rowsN_congr (row' := fun k => [rv k]) (fun i hi => by dsimp only; rw [if_neg (by omega)])]
          dsimp only
          rw [if_pos rfl]
        have e2 : star (fun i => rs 3 ((fun i => if i = j then .slice a1 ((p j).xs.map vi).length c1 else rv i) i) ((p i).xs.map vi)) (j + 1) = star (fun i => rs 3 (rv i) ((p i).xs.map vi)) j * rs 3 (.slice a1 ((p j).xs.map vi).length c1) ((p j).xs.map vi) := by
          rw [star_succ, star_congr (g := fun i => rs 3 (rv i) ((p i).xs.map vi)) (fun i hi => by dsimp only; rw [if_neg (by omega)])]
          dsimp only
          rw [if_pos rfl]
        rw [e1, e2]
        simp only [List.length_map]
        ac_rfl
      case measure => simp [intOf]; omega
    · obtain rfl : j = D.n := by omega
      have H9 := Lib.hid hS
      clear hS
      go_wp2
      go_ret
      exact ⟨_, rv, rfl, H9.out.cast (by unfold ringsB; ac_rfl)⟩
end
end Go.Proofs.YtjgemfgneiaabaaGreat.Pc

namespace Go.Proofs.YtjgemfgneiaabaaGreat.Pc
open Go.RowKit Rq Gq
set_option linter.unusedVariables false
set_option linter.unusedSimpArgs false

section
variable {w0 w : World} {F : Hp} {D : Ad} {p : Nat → Pl} {gx : List Int}
/-- A layout: what a view is made of. -/
def layB (n : Nat) (p : Nat → Pl) (gx : List Int) (v1 v2 v3 v4 v5 v6 : Value) (rv : Nat → Value) : Hp := sl 3 1 v1 n (rowsN (fun k => [vi (someV (p k).g (p k).runs)]) n) * (sl 3 1 v2 n (rowsN (fun k => [vi (someV (p k).z (p k).b)]) n) * (ringsB p n v3 rv * (sl 3 1 v4 n (rowsN (fun k => [vi (p k).left]) n) * (sl 62 1 v5 n (rowsN (fun k => [vu (p k).turns]) n) * sl 3 1 v6 gx.length (gx.map vi)))))
set_option maxRecDepth 100000 in
set_option maxHeartbeats 8000000 in
theorem pl_view (h : Sat w0 (plB D p gx * F) w) (ho : D.Ok) (hl : gx.length ≤ 1000000) : Calls Tryz.prog 14 #[vp D.s] w fun e w' => ∃ v1 v2 v3 v4 v5 v6 rv, e = .returned (.agg #[v1, v2, v3, v4, v5, v6]) ∧ Sat w0 (layB D.n p gx v1 v2 v3 v4 v5 v6 rv * (plB D p gx * F)) w' := by
  have hB : Sat w0 (pc w.heap.size 47 [.slice none 0 0, .slice none 0 0, .slice none 0 0, .slice none 0 0, .slice none 0 0, .slice none 0 0] * (plB D p gx * F)) (w.alloc (.cells #[.slice none 0 0, .slice none 0 0, .slice none 0 0, .slice none 0 0, .slice none 0 0, .slice none 0 0] 47)) := h.alloc _
  have HP := Lib.hid (pl_ps hB.pull2)
  have c1 := (pl_cells hB.pull2).1
  have c2 := (pl_cells hB.pull2).2.2
  unfold Ad.v at c1
  have hn1 := ho.n1
  have hnz : ((D.n : Int) == 0) = false := by
    rw [beq_eq_false_iff_ne]
    omega
  have hgl : ∀ (w0 w : World) (F : Hp), Sat w0 (plB D p gx * F) w → Calls Tryz.prog 70 #[vp D.a] w fun e w' => ∃ v, e = .returned v ∧ Sat w0 (sl 3 1 v gx.length (gx.map vi) * (plB D p gx * F)) w' := fun w0 w F h => (g_all (pl_glob h) hl).mono fun e w' ⟨v, he, h9⟩ => ⟨v, he, (pl_globI (F := sl 3 1 v gx.length (gx.map vi) * _) (h9.cast (by ac_rfl))).pull2⟩
  have HGL := Lib.hid hgl
  have HB := Lib.hid hB.pull2.drew
  clear h hB hn1 hgl
  go_enter Tryz.func14, Tryz.ntmps14
  go_wp2_with (go_at_call 50; refine HP.out.mono ?_; rintro e w' ⟨rfl, rfl⟩)
  go_region_held3 (fun w' => w'.cell? ⟨D.s, 0, none⟩ = some (.slice (some ⟨D.sb, 0, none⟩) D.n D.cap) ∧ w'.cell? ⟨D.s, 2, none⟩ = some (vp D.a)) (first | (with_reducible exact ⟨m1, m2⟩) | (with_reducible exact ⟨k1, k2⟩) | exact ⟨m1, m2⟩ | exact ⟨k1, k2⟩ | exact ⟨g1, g2⟩ | exact ⟨f1, f2⟩ | exact ⟨d1, d2⟩ | exact ⟨b1, b2⟩ | exact ⟨a1, a2⟩ | exact ⟨c1, c2⟩)
    (first
      | (go_at_call 60; (with_reducible refine (told1 (F := (pc w.heap.size 47 [.slice none 0 0, .slice none 0 0, .slice none 0 0, .slice none 0 0, .slice none 0 0, .slice none 0 0] * F)) HB.out ho).mono ?_); rintro e w1 ⟨v1, rfl, hS⟩; obtain ⟨ao1, cp1, rfl⟩ := hS.rd.len; have hS : Sat w0 (plB D p gx * (sl 3 1 (.slice ao1 D.n cp1) D.n (rowsN (fun k => [vi (someV (p k).g (p k).runs)]) D.n) * (pc w.heap.size 47 [.slice none 0 0, .slice none 0 0, .slice none 0 0, .slice none 0 0, .slice none 0 0, .slice none 0 0] * F))) w1 := hS.pull2; have a1 := (pl_cells hS).1; have a2 := (pl_cells hS).2.2; have HA := Lib.hid hS; clear hS)
      | (go_at_call 60; (with_reducible refine (told2 (F := (sl 3 1 (.slice ao1 D.n cp1) D.n (rowsN (fun k => [vi (someV (p k).g (p k).runs)]) D.n) * (pc w.heap.size 47 [.slice none 0 0, .slice none 0 0, .slice none 0 0, .slice none 0 0, .slice none 0 0, .slice none 0 0] * F))) HA.out ho).mono ?_); rintro e w2 ⟨v2, rfl, hS⟩; obtain ⟨ao2, cp2, rfl⟩ := hS.rd.len; have hS : Sat w0 (plB D p gx * (sl 3 1 (.slice ao2 D.n cp2) D.n (rowsN (fun k => [vi (someV (p k).z (p k).b)]) D.n) * (sl 3 1 (.slice ao1 D.n cp1) D.n (rowsN (fun k => [vi (someV (p k).g (p k).runs)]) D.n) * (pc w.heap.size 47 [.slice none 0 0, .slice none 0 0, .slice none 0 0, .slice none 0 0, .slice none 0 0, .slice none 0 0] * F)))) w2 := hS.pull2; have b1 := (pl_cells hS).1; have b2 := (pl_cells hS).2.2; have HB2 := Lib.hid hS; clear hS)
      | (go_at_call 64; (with_reducible refine (told3 (F := (sl 3 1 (.slice ao2 D.n cp2) D.n (rowsN (fun k => [vi (someV (p k).z (p k).b)]) D.n) * (sl 3 1 (.slice ao1 D.n cp1) D.n (rowsN (fun k => [vi (someV (p k).g (p k).runs)]) D.n) * (pc w.heap.size 47 [.slice none 0 0, .slice none 0 0, .slice none 0 0, .slice none 0 0, .slice none 0 0, .slice none 0 0] * F)))) HB2.out ho).mono ?_); rintro e w3 ⟨v3, rv, rfl, hS⟩; obtain ⟨ao3, cp3, rfl⟩ := (hS.cast (sep_assoc _ _ _)).rd.len; have hS : Sat w0 (plB D p gx * (ringsB p D.n (.slice ao3 D.n cp3) rv * (sl 3 1 (.slice ao2 D.n cp2) D.n (rowsN (fun k => [vi (someV (p k).z (p k).b)]) D.n) * (sl 3 1 (.slice ao1 D.n cp1) D.n (rowsN (fun k => [vi (someV (p k).g (p k).runs)]) D.n) * (pc w.heap.size 47 [.slice none 0 0, .slice none 0 0, .slice none 0 0, .slice none 0 0, .slice none 0 0, .slice none 0 0] * F))))) w3 := hS.pull2; have d1 := (pl_cells hS).1; have d2 := (pl_cells hS).2.2; have HD := Lib.hid hS; clear hS)
      | (go_at_call 60; (with_reducible refine (told4 (F := (ringsB p D.n (.slice ao3 D.n cp3) rv * (sl 3 1 (.slice ao2 D.n cp2) D.n (rowsN (fun k => [vi (someV (p k).z (p k).b)]) D.n) * (sl 3 1 (.slice ao1 D.n cp1) D.n (rowsN (fun k => [vi (someV (p k).g (p k).runs)]) D.n) * (pc w.heap.size 47 [.slice none 0 0, .slice none 0 0, .slice none 0 0, .slice none 0 0, .slice none 0 0, .slice none 0 0] * F))))) HD.out ho).mono ?_); rintro e w4 ⟨v4, rfl, hS⟩; obtain ⟨ao4, cp4, rfl⟩ := hS.rd.len; have hS : Sat w0 (plB D p gx * (sl 3 1 (.slice ao4 D.n cp4) D.n (rowsN (fun k => [vi (p k).left]) D.n) * (ringsB p D.n (.slice ao3 D.n cp3) rv * (sl 3 1 (.slice ao2 D.n cp2) D.n (rowsN (fun k => [vi (someV (p k).z (p k).b)]) D.n) * (sl 3 1 (.slice ao1 D.n cp1) D.n (rowsN (fun k => [vi (someV (p k).g (p k).runs)]) D.n) * (pc w.heap.size 47 [.slice none 0 0, .slice none 0 0, .slice none 0 0, .slice none 0 0, .slice none 0 0, .slice none 0 0] * F)))))) w4 := hS.pull2; have f1 := (pl_cells hS).1; have f2 := (pl_cells hS).2.2; have HE := Lib.hid hS; clear hS)
      | (go_at_call 68; (with_reducible refine (told5 (F := (sl 3 1 (.slice ao4 D.n cp4) D.n (rowsN (fun k => [vi (p k).left]) D.n) * (ringsB p D.n (.slice ao3 D.n cp3) rv * (sl 3 1 (.slice ao2 D.n cp2) D.n (rowsN (fun k => [vi (someV (p k).z (p k).b)]) D.n) * (sl 3 1 (.slice ao1 D.n cp1) D.n (rowsN (fun k => [vi (someV (p k).g (p k).runs)]) D.n) * (pc w.heap.size 47 [.slice none 0 0, .slice none 0 0, .slice none 0 0, .slice none 0 0, .slice none 0 0, .slice none 0 0] * F)))))) HE.out ho).mono ?_); rintro e w5 ⟨v5, rfl, hS⟩; obtain ⟨ao5, cp5, rfl⟩ := hS.rd.len; have hS : Sat w0 (plB D p gx * (sl 62 1 (.slice ao5 D.n cp5) D.n (rowsN (fun k => [vu (p k).turns]) D.n) * (sl 3 1 (.slice ao4 D.n cp4) D.n (rowsN (fun k => [vi (p k).left]) D.n) * (ringsB p D.n (.slice ao3 D.n cp3) rv * (sl 3 1 (.slice ao2 D.n cp2) D.n (rowsN (fun k => [vi (someV (p k).z (p k).b)]) D.n) * (sl 3 1 (.slice ao1 D.n cp1) D.n (rowsN (fun k => [vi (someV (p k).g (p k).runs)]) D.n) * (pc w.heap.size 47 [.slice none 0 0, .slice none 0 0, .slice none 0 0, .slice none 0 0, .slice none 0 0, .slice none 0 0] * F))))))) w5 := hS.pull2; have g1 := (pl_cells hS).1; have g2 := (pl_cells hS).2.2; have HG := Lib.hid hS; clear hS)
      | (go_at_call 70; (with_reducible refine (HGL.out _ _ ((sl 62 1 (.slice ao5 D.n cp5) D.n (rowsN (fun k => [vu (p k).turns]) D.n) * (sl 3 1 (.slice ao4 D.n cp4) D.n (rowsN (fun k => [vi (p k).left]) D.n) * (ringsB p D.n (.slice ao3 D.n cp3) rv * (sl 3 1 (.slice ao2 D.n cp2) D.n (rowsN (fun k => [vi (someV (p k).z (p k).b)]) D.n) * (sl 3 1 (.slice ao1 D.n cp1) D.n (rowsN (fun k => [vi (someV (p k).g (p k).runs)]) D.n) * (pc w.heap.size 47 [.slice none 0 0, .slice none 0 0, .slice none 0 0, .slice none 0 0, .slice none 0 0, .slice none 0 0] * F))))))) HG.out).mono ?_); rintro e w6 ⟨v6, rfl, hS⟩; obtain ⟨ao6, cp6, rfl⟩ := hS.rd.len; have hS : Sat w0 (plB D p gx * (sl 3 1 (.slice ao6 gx.length cp6) gx.length (gx.map vi) * (sl 62 1 (.slice ao5 D.n cp5) D.n (rowsN (fun k => [vu (p k).turns]) D.n) * (sl 3 1 (.slice ao4 D.n cp4) D.n (rowsN (fun k => [vi (p k).left]) D.n) * (ringsB p D.n (.slice ao3 D.n cp3) rv * (sl 3 1 (.slice ao2 D.n cp2) D.n (rowsN (fun k => [vi (someV (p k).z (p k).b)]) D.n) * (sl 3 1 (.slice ao1 D.n cp1) D.n (rowsN (fun k => [vi (someV (p k).g (p k).runs)]) D.n) * (pc w.heap.size 47 [.slice none 0 0, .slice none 0 0, .slice none 0 0, .slice none 0 0, .slice none 0 0, .slice none 0 0] * F)))))))) w6 := hS.pull2; have k1 := (pl_cells hS).1; have k2 := (pl_cells hS).2.2; have hx := hS.cast (show _ = pc w.heap.size 47 [.slice none 0 0, .slice none 0 0, .slice none 0 0, .slice none 0 0, .slice none 0 0, .slice none 0 0] * (layB D.n p gx (.slice ao1 D.n cp1) (.slice ao2 D.n cp2) (.slice ao3 D.n cp3) (.slice ao4 D.n cp4) (.slice ao5 D.n cp5) (.slice ao6 gx.length cp6) rv * (plB D p gx * F)) by unfold layB; ac_rfl); have y00 := hx.cell 0 rfl; have z00 := hx.free 0; have y01 := hx.cell 1 rfl; have z01 := hx.free 1; have y02 := hx.cell 2 rfl; have z02 := hx.free 2; have y03 := hx.cell 3 rfl; have z03 := hx.free 3; have y04 := hx.cell 4 rfl; have z04 := hx.free 4; have y05 := hx.cell 5 rfl; have z05 := hx.free 5; have s1 := hx.store 0 (.slice ao1 D.n cp1); have s2 := s1.store 1 (.slice ao2 D.n cp2); have s3 := s2.store 2 (.slice ao3 D.n cp3); have s4 := s3.store 3 (.slice ao4 D.n cp4); have s5 := s4.store 4 (.slice ao5 D.n cp5); have s6 := s5.store 5 (.slice ao6 gx.length cp6); have m1 := (pl_cells (s6.dropL.dropL)).1; have m2 := (pl_cells (s6.dropL.dropL)).2.2; have S6 := Lib.hid s6; clear hS hx s1 s2 s3 s4 s5 s6))
  all_goals go_wp2
  all_goals refine bodyPost_ret (results_row1 rfl _ _ _ rfl S6.out.rangeN Tryz.underlying47 rfl (by kernel_rfl)) rfl ?_
  all_goals exact ⟨_, _, _, _, _, _, rv, rfl, S6.out.dropL⟩
end
end Go.Proofs.YtjgemfgneiaabaaGreat.Pc
