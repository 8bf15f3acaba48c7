/-
  Whole structs: a result in a cell of many cells, a store of a whole struct. No statement is proved here.
-/
import Derived.Test.YtjgemfgneiaabaaOwn
import Derived.Laws.ResultCell
import Derived.Deep.MidRow
import Derived.Shelf.Abstract
import Derived.Test.YtjgemfgneiaabaaPm13
namespace Go.Proofs.Ytjgemfgneiaabaa
open Go.RowKit
theorem results_row1 {fn : Func} {p : Tmp} {ty : TypeId} (h : fn.results = #[.cell p ty]) (tmps : Array Value) (P : Program) (w : World) {b : Nat} {cs : List Value} {d : TypeDesc}
    (hp : tmps.getD p undef = .pointer (some ⟨b, 0, none⟩)) (hc : w.rangeAt b 0 cs) (hu : P.underlying ty = some d) (hd : d.isRow = true) (hi : (P.info? ty).map (·.size) = some cs.length) :
    (results fn tmps).run P w = .ok (.agg cs.toArray) w := by
  have e : (asAddr (.pointer (some ⟨b, 0, none⟩))).run P w = .ok ⟨b, 0, none⟩ w := rfl
  simp only [results, h]
  have hp' : tmps[p]?.getD undef = .pointer (some ⟨b, 0, none⟩) := by simpa using hp
  simp [Sem.run_bind, Result.andThen, hp', e, run_loadVar_mid w b 0 ty cs d hc hu hd hi]
theorem setL_full (cs vs : List Value) (h : vs.length = cs.length) : setL cs 0 vs = vs := List.ext_getElem? fun i => by
  by_cases hi : i < vs.length
  · have := setL_in vs cs 0 i hi (by omega)
    rw [Nat.zero_add] at this
    exact this
  · rw [List.getElem?_eq_none (by rw [setL_len]; omega), List.getElem?_eq_none (by omega)]
theorem Sat.rowAll {w0 w : World} {F : Hp} {b : Nat} {T : TypeId} {cs : List Value} (h : Sat w0 (pc b T cs * F) w) (vs : List Value) (hl : vs.length = cs.length) : Sat w0 (pc b T vs * F) (w.setCells b 0 vs.toArray.toList) := by
  have hs := h.stores vs 0
  rw [setL_full cs vs hl] at hs
  exact hs
theorem Sat.thereN {b : Nat} {T : TypeId} {cs : List Value} {F : Hp} {w0 w : World} (h : Sat w0 (pc b T cs * F) w) {n : Nat} (hn : cs.length = n) : w.there b 0 n := fun j hj => by
  rw [Nat.zero_add, h.cell j (List.getElem?_eq_getElem (by omega))]
  exact ⟨rfl, h.free j⟩
theorem Sat.rangeN {b : Nat} {T : TypeId} {cs : List Value} {F : Hp} {w0 w : World} (h : Sat w0 (pc b T cs * F) w) : w.rangeAt b 0 cs := fun j v hv => by
  rw [Nat.zero_add]
  exact h.cell j hv
end Go.Proofs.Ytjgemfgneiaabaa

namespace Go.Proofs.Ytjgemfgneiaabaa.Pc
open Go.RowKit Rq Gq
set_option linter.unusedVariables false
set_option linter.unusedSimpArgs false

section
variable {w0 w : World} {F : Hp} {D : Ad} {p : Nat → Pl} {gx : List Int}
abbrev ringsB (p : Nat → Pl) (n : Nat) (v : Value) (rv : Nat → Value) : Hp := sl 30 1 v n (rowsN (fun k => [rv k]) n) * star (fun i => rs 3 (rv i) ((p i).xs.map vi)) n
set_option maxRecDepth 100000 in
set_option maxHeartbeats 2000000 in
theorem told3 (h : Sat w0 (plB D p gx * F) w) (ho : D.Ok) : Calls Try.prog 41 #[D.v, .func (.func 42) #[] #[]] w fun e w' => ∃ v rv, e = .returned v ∧ Sat w0 (ringsB p D.n v rv * (plB D p gx * F)) w' := by
  have hn8 := ho.n8
  have H0 := Lib.hid (h.addNil 30 1)
  clear h
  go_enter Try.func41, Try.ntmps41
  go_wp2
  go_loopw [9, 4] (fun i o wr => ∃ (j : Nat) (rv : Nat → Value), j ≤ D.n ∧ i = vi j ∧ Sat w0 (sl 30 1 o j (rowsN (fun k => [rv k]) j) * (star (fun i => rs 3 (rv i) ((p i).xs.map vi)) j * (plB D p gx * F))) wr) (fun i _ _ => D.n - (intOf i).toNat)
  case atStart => exact ⟨0, fun _ => undef, Nat.zero_le _, rfl, H0.out.cast (by rw [star_zero, emp_sep]; rfl)⟩
  case round =>
    clear H0
    obtain ⟨j, rv, hj, rfl, hS⟩ := hrel
    by_cases hlt : j < D.n
    · have hji : (j : Int) < (D.n : Int) := by omega
      obtain ⟨r0, r1, r2, r3, r4⟩ := pl_row hS.dropL.dropL hlt
      obtain ⟨ao, cap, rfl⟩ := hS.rd.len
      have hj8 : j < 8 := by omega
      have hx := (hS.alloc' (.cells #[vp (D.q j), vi (p j).g, .bool (p j).runs, vi (p j).left, vu (p j).turns] 66)).cast (show _ = plB D p gx * (sl 30 1 (.slice ao j cap) j (rowsN (fun k => [rv k]) j) * (star (fun i => rs 3 (rv i) ((p i).xs.map vi)) j * F)) by ac_rfl)
      have hc := (vw3 (q := D.q j) (g := (p j).g) (ru := (p j).runs) (lf := (p j).left) (tu := (p j).turns) (pl_out hx hlt)).mono fun e w' ⟨v, he, h9⟩ => (⟨v, he, (pl_in (y := p j) (F := rs 3 v ((p j).xs.map vi) * (sl 30 1 (.slice ao j cap) j (rowsN (fun k => [rv k]) j) * (star (fun i => rs 3 (rv i) ((p i).xs.map vi)) j * F))) (h9.cast (by ac_rfl)) hlt rfl rfl rfl rfl).cast (show _ = sl 30 1 (.slice ao j cap) j (rowsN (fun k => [rv k]) j) * (rs 3 v ((p j).xs.map vi) * (star (fun i => rs 3 (rv i) ((p i).xs.map vi)) j * (plB D p gx * F))) by rw [up_self]; ac_rfl)⟩ : ∃ v, e = Ending.returned v ∧ Sat w0 (sl 30 1 (.slice ao j cap) j (rowsN (fun k => [rv k]) j) * (rs 3 v ((p j).xs.map vi) * (star (fun i => rs 3 (rv i) ((p i).xs.map vi)) j * (plB D p gx * F)))) w')
      have HC := Lib.hid hc
      clear hS hc hx
      go_wp2_with (first
        | (go_at_call 42; refine HC.out.mono ?_; rintro e w1 ⟨v1, rfl, hS1⟩; obtain ⟨a1, c1, rfl⟩ := hS1.pull2.rsRd.len; have H1 := Lib.hid hS1; clear hS1)
        | (at_builtin; refine wpList_append_sl Eintso rfl (.tmp 13) (.tmp 17) rfl rfl (H1.out.alloc' _) (by rfl) (Rd.one _ _ _) (by simp [Value.oneCell']) (by unfold maxLen; omega) (by omega) ?_; intro ao6 cap6 w6 hS6; have H7 := Lib.hid hS6; clear hS6))
      obtain ⟨rn, hrn⟩ : ∃ rn, Value.slice a1 ((p j).xs.map vi).length c1 = rn := ⟨_, rfl⟩
      go_roundw
      case rel =>
        refine ⟨j + 1, fun i => if i = j then .slice a1 ((p j).xs.map vi).length c1 else rv i, by omega, by go_num, H7.out.cast ?_⟩
        have e1 : rowsN (fun k => [(fun i => if i = j then .slice a1 ((p j).xs.map vi).length c1 else rv i) k]) (j + 1) = rowsN (fun k => [rv k]) j ++ [.slice a1 ((p j).xs.map vi).length c1] := by
          rw [rowsN_succ, rowsN_congr (row' := fun k => [rv k]) (fun i hi => by dsimp only; rw [if_neg (by omega)])]
          dsimp only
          rw [if_pos rfl]
        have e2 : star (fun i => rs 3 ((fun i => if i = j then .slice a1 ((p j).xs.map vi).length c1 else rv i) i) ((p i).xs.map vi)) (j + 1) = star (fun i => rs 3 (rv i) ((p i).xs.map vi)) j * rs 3 (.slice a1 ((p j).xs.map vi).length c1) ((p j).xs.map vi) := by
          rw [star_succ, star_congr (g := fun i => rs 3 (rv i) ((p i).xs.map vi)) (fun i hi => by dsimp only; rw [if_neg (by omega)])]
          dsimp only
          rw [if_pos rfl]
        rw [e1, e2]
        simp only [List.length_map]
        ac_rfl
      case measure => simp [intOf]; omega
    · obtain rfl : j = D.n := by omega
      have H9 := Lib.hid hS
      clear hS
      go_wp2
      go_ret
      exact ⟨_, rv, rfl, H9.out.cast (by unfold ringsB; ac_rfl)⟩
end
end Go.Proofs.Ytjgemfgneiaabaa.Pc
