/-
  Chapter 16: the game. No statement is proved here.
-/
import Derived.Test.YtffjckdaekamgaaGn2
import Derived.Deep.RegionLaw
import Derived.Deep.DeepCutAuto
import Derived.Deep.CutBlock
namespace Go.Proofs.Ytffjckdaekamgaa.Gt
open Go.RowKit Ag
set_option linter.unusedVariables false
set_option linter.unusedSimpArgs false

theorem Eref : SlT Try.prog 45 25 2 16 (.agg #[vi 0, vu 0]) := SlT.mk' Try.underlying45 (by kernel_rfl) rfl (by decide)
theorem rdTwo (w : World) (T : TypeId) (x y : Value) {b : Nat} (hb : b = w.heap.size) : Rd (w.alloc (.cells #[x, y] T)) 2 (.slice (some ⟨b, 0, none⟩) 1 1) 1 [x, y] := by
  subst hb
  have h : Sat w (pc w.heap.size T [x, y] * emp) (w.alloc (.cells #[x, y] T)) := (Sat.start w).alloc _
  exact (h.slI (n := 1) (cap := 1) (size := 2) (xs := [x, y]) (Nat.le_refl _) (by unfold maxLen; omega) (by simp) rfl).rd

/-- Refs, as they lie in memory. -/
abbrev frefs (l : List (Int × Int)) : List Value := l.flatMap fun r => [vi r.1, vu r.2]
theorem frefs_one (l : List (Int × Int)) : ∀ u ∈ frefs l, u.oneCell' = true := by
  intro u hu
  simp only [frefs, List.mem_flatMap] at hu
  obtain ⟨r, _, hu⟩ := hu
  simp at hu
  rcases hu with rfl | rfl <;> rfl
theorem frefs_snoc (l : List (Int × Int)) (r : Int × Int) : frefs (l ++ [r]) = frefs l ++ [vi r.1, vu r.2] := by simp [frefs]
theorem frefs_at {l : List (Int × Int)} {k : Nat} {r : Int × Int} (h : l[k]? = some r) : (frefs l)[k * 2]? = some (vi r.1) ∧ (frefs l)[k * 2 + 1]? = some (vu r.2) :=
  ⟨flat_get (f := fun r : Int × Int => [vi r.1, vu r.2]) (N := 2) (j := 0) (fun _ => rfl) h rfl, flat_get (f := fun r : Int × Int => [vi r.1, vu r.2]) (N := 2) (j := 1) (fun _ => rfl) h rfl⟩
/-- An act, as it lies in memory. -/
def actC (kind ri rg at_ : Int) (x : El) (st : Int) : List Value := vi kind :: vi ri :: vu rg :: vi at_ :: (elC x ++ [vi st])
theorem actC_len (kind ri rg at_ : Int) (x : El) (st : Int) : (actC kind ri rg at_ x st).length = 24 := rfl
theorem actC_x (kind ri rg at_ : Int) (x : El) (st : Int) {j : Nat} {v : Value} (h : (elC x)[j]? = some v) : (actC kind ri rg at_ x st)[4 + j]? = some v := by
  rw [show 4 + j = j + 1 + 1 + 1 + 1 by omega]
  show (elC x ++ [vi st])[j]? = some v
  rw [List.getElem?_append_left (List.getElem?_eq_some_iff.1 h).1]
  exact h
theorem rangeAct {b : Nat} {T : TypeId} {kind ri rg at_ : Int} {x : El} {st : Int} {F : Hp} {w0 w : World} (h : Sat w0 (pc b T (actC kind ri rg at_ x st) * F) w) : w.rangeAt b 4 (elC x) := fun j v hv => h.cell (4 + j) (actC_x kind ri rg at_ x st hv)
/-- A game: the table, the reference's, the refs that came. -/
abbrev gmC (g h p q b cap : Nat) (vF vR : Value) (ps : List Pl) (free : List Nat) (rl : List (Int × Int)) (F : Hp) : Hp :=
  pc g 47 [vp h, vp q, vR] * (sl 25 2 vR rl.length (frefs rl) * (gtB h p * (tblP p ps free * refG q b cap vF ps free F)))
/-- What is there behind an act. -/
def DoPost (w0 : World) (n T g h p q b cap : Nat) (rl : List (Int × Int)) (F : Hp) (e : Ending) (w' : World) : Prop :=
  ∃ (ps' : List Pl) (free' : List Nat) (rl' : List (Int × Int)) (vG vS : Value), e = .returned (.bool true) ∧ Inv n (T + 1) ps' free' ∧ rl'.length ≤ rl.length + 1 ∧ Sat w0 (gmC g h p q b cap vG vS ps' free' rl' F) w'
theorem at_fact (x : Int) (L : Nat) (hL : 0 < L) (hx : 1 ≤ x) : ∃ idx j : Nat, idx < L ∧ j < L ∧ (x - 1).tmod (L : Int) = (j : Int) ∧ (x - 1) % (L : Int) = (j : Int) ∧ (L : Int) - 1 - (j : Int) = (idx : Int) := by
  have h0 := Int.emod_nonneg (x - 1) (show (L : Int) ≠ 0 by omega)
  have h1 := Int.emod_lt_of_pos (x - 1) (show (0 : Int) < L by omega)
  refine ⟨L - 1 - ((x - 1) % (L : Int)).toNat, ((x - 1) % (L : Int)).toNat, by omega, by omega, ?_, by omega, by omega⟩
  rw [Int.tmod_eq_emod_of_nonneg (by omega)]
  omega
/-- Nineteen cells, read in one step. -/
def rowLd (a : Addr) : Sem (Array Value) := loadCellsFrom a 0 19 #[]
theorem rowLd_eq : ∀ a : Addr, loadCellsFrom a 0 19 #[] = rowLd a := fun _ => rfl
theorem run_rowLd {w : World} {b o : Nat} {x : El} (hc : w.rangeAt b o (elC x)) : (rowLd ⟨b, o, none⟩).run Try.prog w = .ok (elC x).toArray w :=
  run_loadCells_list (P := Try.prog) w ⟨b, o, none⟩ (elC x) (fun j v hv => by rw [Addr.add_mid]; exact hc j v hv)
def rowSt (a : Addr) (x : El) : Sem Unit := storeCells a (elC x) 0
theorem rowSt_eq : ∀ (a : Addr) (x : El), storeCells a (elC x) 0 = rowSt a x := fun _ _ => rfl
theorem setCells_alloc {w : World} {t : TypeId} : ∀ (vs cs : List Value) (o : Nat), (w.alloc (.cells cs.toArray t)).setCells w.heap.size o vs = w.alloc (.cells (setL cs o vs).toArray t)
  | [], _, _ => rfl
  | v :: r, cs, o => by
    show ((w.alloc (.cells cs.toArray t)).setCell ⟨w.heap.size, o, none⟩ v).setCells w.heap.size (o + 1) r = _
    rw [World.setCell_alloc_at _ _ _ _ _ rfl, setL]
    have := setCells_alloc (w := w) (t := t) r (cs.set o v) (o + 1)
    rw [← this]
    congr 3
    simp
theorem run_rowSt {w : World} {b o : Nat} {x : El} (ht : w.there b o 19) : (rowSt ⟨b, o, none⟩ x).run Try.prog w = .ok () (w.setCells b o (elC x)) :=
  run_storeCells_cells (P := Try.prog) b o (elC x) 0 w (fun j hj => by simpa using (ht j hj).1) (fun j hj => by simpa using (ht j hj).2) (elOne x)
theorem run_rowSt_new (w : World) (x : El) : (rowSt ⟨w.heap.size, 0, none⟩ x).run Try.prog (w.alloc (elO ez)) = .ok () (w.alloc (.cells (elC x).toArray 29)) := by
  have hA : Sat w (pc w.heap.size 29 (elC ez) * emp) (w.alloc (.cells (elC ez).toArray 29)) := (Sat.start w).alloc _
  rw [run_rowSt (there_ (n := 19) hA rfl)]
  exact congrArg (Result.ok ()) ((setCells_alloc (elC x) (elC ez) 0).trans (by rw [setL_all (elC ez) (elC x) rfl]))
theorem st2_eq : ∀ (a : Addr) (v u : Value), storeCells a [v, u] 0 = (store (a.add 0) v >>= fun _ => store (a.add 1) u) := fun _ _ _ => rfl
theorem st1_eq : ∀ (a : Addr) (v : Value), storeCells a [v] 0 = store (a.add 0) v := fun _ _ => rfl
theorem ld2_eq : ∀ a : Addr, loadCellsFrom a 0 2 #[] = (load (a.add 0) >>= fun v => load (a.add 1) >>= fun u => pure #[v, u]) := fun _ => rfl
section
variable {w0 w : World} {F : Hp} {n T g h p q b cap : Nat} {vF vR : Value} {ps : List Pl} {free : List Nat} {rl : List (Int × Int)}
end
end Go.Proofs.Ytffjckdaekamgaa.Gt
