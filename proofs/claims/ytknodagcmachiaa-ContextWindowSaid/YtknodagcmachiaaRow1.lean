/-
  Whole structs: a result in a cell of many cells, a store of a whole struct. No statement is proved here.
-/
import Derived.Test.YtknodagcmachiaaOwn
import Derived.Laws.ResultCell
import Derived.Deep.MidRow
import Derived.Shelf.Abstract
namespace Go.Proofs.Ytknodagcmachiaa
open Go.RowKit
theorem results_row1 {fn : Func} {p : Tmp} {ty : TypeId} (h : fn.results = #[.cell p ty]) (tmps : Array Value) (P : Program) (w : World) {b : Nat} {cs : List Value} {d : TypeDesc}
    (hp : tmps.getD p undef = .pointer (some ⟨b, 0, none⟩)) (hc : w.rangeAt b 0 cs) (hu : P.underlying ty = some d) (hd : d.isRow = true) (hi : (P.info? ty).map (·.size) = some cs.length) :
    (results fn tmps).run P w = .ok (.agg cs.toArray) w := by
  have e : (asAddr (.pointer (some ⟨b, 0, none⟩))).run P w = .ok ⟨b, 0, none⟩ w := rfl
  simp only [results, h]
  have hp' : tmps[p]?.getD undef = .pointer (some ⟨b, 0, none⟩) := by simpa using hp
  simp [Sem.run_bind, Result.andThen, hp', e, run_loadVar_mid w b 0 ty cs d hc hu hd hi]
theorem setL_full (cs vs : List Value) (h : vs.length = cs.length) : setL cs 0 vs = vs := List.ext_getElem? fun i => by
  by_cases hi : i < vs.length
  · have := setL_in vs cs 0 i hi (by omega)
    rw [Nat.zero_add] at this
    exact this
  · rw [List.getElem?_eq_none (by rw [setL_len]; omega), List.getElem?_eq_none (by omega)]
theorem Sat.rowAll {w0 w : World} {F : Hp} {b : Nat} {T : TypeId} {cs : List Value} (h : Sat w0 (pc b T cs * F) w) (vs : List Value) (hl : vs.length = cs.length) : Sat w0 (pc b T vs * F) (w.setCells b 0 vs.toArray.toList) := by
  have hs := h.stores vs 0
  rw [setL_full cs vs hl] at hs
  exact hs
theorem Sat.thereN {b : Nat} {T : TypeId} {cs : List Value} {F : Hp} {w0 w : World} (h : Sat w0 (pc b T cs * F) w) {n : Nat} (hn : cs.length = n) : w.there b 0 n := fun j hj => by
  rw [Nat.zero_add, h.cell j (List.getElem?_eq_getElem (by omega))]
  exact ⟨rfl, h.free j⟩
theorem Sat.rangeN {b : Nat} {T : TypeId} {cs : List Value} {F : Hp} {w0 w : World} (h : Sat w0 (pc b T cs * F) w) : w.rangeAt b 0 cs := fun j v hv => by
  rw [Nat.zero_add]
  exact h.cell j hv
end Go.Proofs.Ytknodagcmachiaa
