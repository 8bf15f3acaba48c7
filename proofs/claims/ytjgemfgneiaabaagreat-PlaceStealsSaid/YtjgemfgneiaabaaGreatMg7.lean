/-
  Arguments that are slices of ints, or of structs of ints, read off the row's own reading. No statement is proved here.
-/
import Derived.Test.YtjgemfgneiaabaaGreatMg1
import Derived.ProofKit
import Derived.OpenShut
import Derived.ChangeOld
import Derived.ChangeSame
import Derived.Deep.Slices
import Derived.Deep.Fields
namespace Go.Proofs.YtjgemfgneiaabaaGreat
open Go.RowKit
open Go.ChangeShapes Go.WideShapes Go.Deep
set_option linter.unusedVariables false

section
variable {H : Type} {enc : TypeId × Value → H} {P : Program} {w : World} {base : Nat} {spare : Nat → Bool} {held : Bool}
theorem open_slice_fields {t e : TypeId} {fs : Array Field} {fuel : Nat} {cs : List Value} {x : DataW H × List MemPlace} (ht : P.underlying t = some (.slice e)) (he : P.underlying e = some (.struct fs))
    (hone : oneCellFields P fs = true) (hC : P.cellsOf e = fs.size) (h : DataW.trod enc P w base spare held fuel t cs = some x) :
    (cs = [.slice none 0 0] ∧ x = (.nil, [])) ∨
    ∃ (a : Addr) (len cap m : Nat) (D : Nat → DataW H) (Pl : Nat → List MemPlace), cs = [.slice (some a) len cap] ∧ base ≤ a.block ∧ len ≤ cap ∧ cap ≤ maxLen ∧ m = (if spare a.block then cap else len) ∧
      x = (.slice ((List.range len).map D) ((List.range (m - len)).map fun j => D (len + j)), MemPlace.row a (m * fs.size) ++ (List.range m).flatMap Pl) ∧
      ∀ i, i < m → ∃ (ys : List (DataW H × List MemPlace)) (n : Nat), D i = .agg (ys.map (·.1)) ∧ Pl i = ys.flatMap (·.2) ∧ ys.length = fs.size ∧
        ∀ (j : Nat) (f : Field), fs[j]? = some f → ∃ (v : Value) (y : DataW H × List MemPlace), w.cell? (a.add (i * fs.size + j)) = some v ∧ ys[j]? = some y ∧ DataW.trod enc P w base spare held n f.type [v] = some y := by
  rcases open_slice ht h with h0 | ⟨a, len, cap, m, n, D, Pl, hcs, hb, hl, hm, hmm, hx, hi⟩
  · exact .inl h0
  · refine .inr ⟨a, len, cap, m, D, Pl, hcs, hb, hl, hm, hmm, by rw [hC] at hx; exact hx, fun i him => ?_⟩
    obtain ⟨cs', hc, ht'⟩ := hi i him
    rw [hC] at hc
    obtain ⟨ys, n', hn', hy, hlen, hyl, hf⟩ := DataW.trod_struct he ht'
    obtain ⟨_, hcl, hat⟩ := World.cells?_some hc
    simp only [Prod.mk.injEq] at hy
    refine ⟨ys, n', hy.1, hy.2, hyl, fun j f hj => ?_⟩
    obtain ⟨ho, hk⟩ := hone_of hone j f hj
    have hjl : j < fs.size := (Array.getElem?_eq_some_iff.1 hj).1
    have hcell := hat j hjl
    have hv : cs'[j]? = some (cs'[j]'(by omega)) := List.getElem?_eq_getElem (by omega)
    have h1 := hf j f hj
    rw [ho, hk] at h1
    have hone' : (cs'.drop j).take 1 = [cs'[j]'(by omega)] := by
      rw [List.drop_eq_getElem_cons (by omega)]
      rfl
    rw [hone'] at h1
    have hys : ys[j]? = some (ys[j]'(by omega)) := List.getElem?_eq_getElem (by omega)
    refine ⟨_, _, ?_, hys, h1.trans hys⟩
    rw [← Go.Deep.add_add, hcell, hv]
end

/-- A slice that came in: n elements of so many int cells each; cell j holds the number A j, of the kind that its place in the element has. -/
structure ArgK (w0 : World) (size : Nat) (K : Nat → IntKind) (v : Value) (n : Nat) (A : Nat → Int) : Prop where
  form : (n = 0 ∧ ∃ ao cap, v = .slice ao 0 cap) ∨ ∃ b off cap, v = .slice (some ⟨b, off, none⟩) n cap ∧ b < w0.heap.size ∧ ∀ j, j < n * size → w0.cell? ⟨b, off + j, none⟩ = some (.int (K (j % size)) (A j))
  wf : ∀ j, j < n * size → (Lit.int (K (j % size)) (A j)).wf = true
  small : n ≤ maxLen

def cellNum (w : World) (a : Addr) : Int := match w.cell? a with | some (.int _ x) => x | _ => 0

section
variable {H : Type} {enc : TypeId × Value → H} {P : Program} {w : World} {base : Nat} {spare : Nat → Bool} {held : Bool}
theorem ArgK.of_cells {size : Nat} {K : Nat → IntKind} {a : Addr} {len cap : Nat} (hs : 0 < size) (hl : len ≤ cap) (hm : cap ≤ maxLen)
    (h : ∀ i, i < len → ∀ j, j < size → ∃ x, w.cell? (a.add (i * size + j)) = some (.int (K j) x) ∧ (Lit.int (K j) x).wf = true) : ∃ A, ArgK w size K (.slice (some a) len cap) len A := by
  by_cases h0 : len = 0
  · subst h0
    exact ⟨fun _ => 0, .inl ⟨rfl, _, _, rfl⟩, fun j hj => by omega, Nat.zero_le _⟩
  · obtain ⟨x0, hx0, _⟩ := h 0 (by omega) 0 hs
    have hspot : a.spot = none := by simpa [Addr.add] using World.cell?_spot hx0
    obtain ⟨b, off, spot⟩ := a
    have hspot : spot = none := hspot
    subst hspot
    have hall : ∀ j, j < len * size → ∃ x, w.cell? ⟨b, off + j, none⟩ = some (.int (K (j % size)) x) ∧ (Lit.int (K (j % size)) x).wf = true := by
      intro j hj
      have h1 : j / size < len := by rw [Nat.div_lt_iff_lt_mul hs]; exact hj
      obtain ⟨x, hx, hw⟩ := h (j / size) h1 (j % size) (Nat.mod_lt _ hs)
      rw [Rd.add, Nat.mul_comm, Nat.div_add_mod] at hx
      exact ⟨x, hx, hw⟩
    refine ⟨fun j => cellNum w ⟨b, off + j, none⟩, .inr ⟨b, off, cap, rfl, by have := World.block_lt_of_cell? w _ hx0; simpa [Rd.add] using this, ?_⟩, ?_, by omega⟩
    · intro j hj
      obtain ⟨x, hx, _⟩ := hall j hj
      simp [cellNum, hx]
    · intro j hj
      obtain ⟨x, hx, hw⟩ := hall j hj
      simpa [cellNum, hx] using hw

theorem argK_ints {t e : TypeId} {k : IntKind} {v : Value} {d : DataW H} {p : List MemPlace} (ht : P.underlying t = some (.slice e)) (he : P.underlying e = some (.int k)) (hC : P.cellsOf e = 1)
    (hv : ∃ ao n cap, v = .slice ao n cap) (h : DataW.Trod enc P w base spare held t v d p) : ∃ n A, ArgK w 1 (fun _ => k) v n A := by
  obtain ⟨ao, n, cap, rfl⟩ := hv
  obtain ⟨fuel, hf⟩ := h
  rcases open_ints ht he hC hf with ⟨hcs, _⟩ | ⟨x, l, c, zs, hcs, _, hl, hm, hz, _, hcell, hwz⟩
  · simp [Value.cells] at hcs
    obtain ⟨rfl, rfl, rfl⟩ := hcs
    exact ⟨0, fun _ => 0, .inl ⟨rfl, _, _, rfl⟩, fun j hj => by omega, Nat.zero_le _⟩
  · simp [Value.cells] at hcs
    obtain ⟨rfl, rfl, rfl⟩ := hcs
    refine ⟨n, ArgK.of_cells (by omega) hl hm (fun i hi j hj => ?_)⟩
    obtain rfl : j = 0 := by omega
    have hi2 : i < zs.length := by rw [hz]; split <;> omega
    rw [Nat.mul_one, Nat.add_zero]
    refine ⟨_, hcell i hi2, ?_⟩
    have := hwz zs[i] (List.getElem_mem hi2)
    simpa [hi2] using this

theorem argK_structs {t e : TypeId} {fs : Array Field} {K : Nat → IntKind} {v : Value} {d : DataW H} {p : List MemPlace} (ht : P.underlying t = some (.slice e)) (he : P.underlying e = some (.struct fs))
    (hone : oneCellFields P fs = true) (hC : P.cellsOf e = fs.size) (hpos : 0 < fs.size) (hk : ∀ (j : Nat) (f : Field), fs[j]? = some f → P.underlying f.type = some (.int (K j)))
    (hv : ∃ ao n cap, v = .slice ao n cap) (h : DataW.Trod enc P w base spare held t v d p) : ∃ n A, ArgK w fs.size K v n A := by
  obtain ⟨ao, n, cap, rfl⟩ := hv
  obtain ⟨fuel, hf⟩ := h
  rcases open_slice_fields ht he hone hC hf with ⟨hcs, _⟩ | ⟨a, l, c, m, D, Pl, hcs, _, hl, hm, hmm, _, hcell⟩
  · simp [Value.cells] at hcs
    obtain ⟨rfl, rfl, rfl⟩ := hcs
    exact ⟨0, fun _ => 0, .inl ⟨rfl, _, _, rfl⟩, fun j hj => by omega, Nat.zero_le _⟩
  · simp [Value.cells] at hcs
    obtain ⟨rfl, rfl, rfl⟩ := hcs
    refine ⟨n, ArgK.of_cells hpos hl hm (fun i hi j hj => ?_)⟩
    have him : i < m := by rw [hmm]; split <;> omega
    obtain ⟨ys, nn, _, _, _, hfj⟩ := hcell i him
    obtain ⟨v, y, hc, _, ht⟩ := hfj j fs[j] (Array.getElem?_eq_getElem hj)
    obtain ⟨x, hx, _, hw⟩ := DataW.trod_int (hk j fs[j] (Array.getElem?_eq_getElem hj)) ht
    simp at hx
    subst hx
    exact ⟨x, hc, hw⟩
end
end Go.Proofs.YtjgemfgneiaabaaGreat

namespace Go.Proofs.YtjgemfgneiaabaaGreat
open Go.RowKit
open Go.ChangeShapes Go.WideShapes Go.Deep
set_option linter.unusedVariables false
section
variable {H : Type} {enc : TypeId × Value → H} {P : Program} {w : World} {base : Nat} {spare : Nat → Bool} {held : Bool}
theorem head_of_take {cs : List Value} {o : Nat} {v : Value} (h : (cs.drop o).take 1 = [v]) : cs[o]? = some v := by
  have : ((cs.drop o).take 1)[0]? = some v := by rw [h]; rfl
  rw [List.getElem?_take, if_pos (by omega), List.getElem?_drop] at this
  simpa using this
theorem argK_nest {t e : TypeId} {fs : Array Field} {size : Nat} {K : Nat → IntKind} {v : Value} {d : DataW H} {p : List MemPlace} (ht : P.underlying t = some (.slice e)) (he : P.underlying e = some (.struct fs))
    (hC : P.cellsOf e = size) (hpos : 0 < size)
    (hk : ∀ j, j < size → (∃ (i : Nat) (f : Field), fs[i]? = some f ∧ f.offset = j ∧ P.cellsOf f.type = 1 ∧ P.underlying f.type = some (.int (K j))) ∨
      ∃ (i : Nat) (f : Field) (gs : Array Field) (i' : Nat) (g : Field), fs[i]? = some f ∧ P.underlying f.type = some (.struct gs) ∧ gs[i']? = some g ∧ f.offset + g.offset = j ∧ g.offset < P.cellsOf f.type ∧ P.cellsOf g.type = 1 ∧ P.underlying g.type = some (.int (K j)))
    (hv : ∃ ao n cap, v = .slice ao n cap) (h : DataW.Trod enc P w base spare held t v d p) : ∃ n A, ArgK w size K v n A := by
  obtain ⟨ao, n, cap, rfl⟩ := hv
  obtain ⟨fuel, hf⟩ := h
  rcases open_slice ht hf with ⟨hcs, _⟩ | ⟨a, l, c, m, nf, D, Pl, hcs, _, hl, hm, hmm, _, hcell⟩
  · simp [Value.cells] at hcs
    obtain ⟨rfl, rfl, rfl⟩ := hcs
    exact ⟨0, fun _ => 0, .inl ⟨rfl, _, _, rfl⟩, fun j hj => by omega, Nat.zero_le _⟩
  · simp [Value.cells] at hcs
    obtain ⟨rfl, rfl, rfl⟩ := hcs
    refine ⟨n, ArgK.of_cells hpos hl hm (fun i hi j hj => ?_)⟩
    have him : i < m := by rw [hmm]; split <;> omega
    obtain ⟨cs', hc, htr⟩ := hcell i him
    rw [hC] at hc
    obtain ⟨_, hcl, hat⟩ := World.cells?_some hc
    obtain ⟨ys, n', _, _, hlen, _, hfj⟩ := DataW.trod_struct he htr
    have key : ∃ x, cs'[j]? = some (.int (K j) x) ∧ (Lit.int (K j) x).wf = true := by
      rcases hk j hj with ⟨i1, f, hf1, ho, hone, hu⟩ | ⟨i1, f, gs, i2, g, hf1, hu1, hg, ho, hlt, hone, hu⟩
      · have h1 := hfj i1 f hf1
        have hi1 : i1 < fs.size := (Array.getElem?_eq_some_iff.1 hf1).1
        rw [List.getElem?_eq_getElem (by omega), ho, hone] at h1
        obtain ⟨x, hx, _, hw⟩ := DataW.trod_int hu h1
        exact ⟨x, head_of_take hx, hw⟩
      · have h1 := hfj i1 f hf1
        have hi1 : i1 < fs.size := (Array.getElem?_eq_some_iff.1 hf1).1
        rw [List.getElem?_eq_getElem (by omega)] at h1
        obtain ⟨zs, n2, _, _, hlen2, hzl, hgj⟩ := DataW.trod_struct hu1 h1
        have h2 := hgj i2 g hg
        have hi2 : i2 < gs.size := (Array.getElem?_eq_some_iff.1 hg).1
        rw [List.getElem?_eq_getElem (by omega), hone] at h2
        obtain ⟨x, hx, _, hw⟩ := DataW.trod_int hu h2
        have h3 := head_of_take hx
        rw [List.getElem?_take, if_pos hlt, List.getElem?_drop, ho] at h3
        exact ⟨x, h3, hw⟩
    obtain ⟨x, hx, hw⟩ := key
    refine ⟨x, ?_, hw⟩
    rw [← Go.Deep.add_add, hat j hj]
    exact hx
end
end Go.Proofs.YtjgemfgneiaabaaGreat

namespace Go.Proofs.YtjgemfgneiaabaaGreat
open Go.RowKit
open Go.ChangeShapes Go.WideShapes Go.Deep
set_option linter.unusedVariables false

/-- A slice that came in: n elements of so many cells each; what cell j of an element may be, C says. -/
structure ArgS (w0 : World) (size : Nat) (C : Nat → Value → Prop) (v : Value) (n : Nat) (A : Nat → Value) : Prop where
  form : (n = 0 ∧ ∃ ao cap, v = .slice ao 0 cap) ∨ ∃ b off cap, v = .slice (some ⟨b, off, none⟩) n cap ∧ b < w0.heap.size ∧ ∀ j, j < n * size → w0.cell? ⟨b, off + j, none⟩ = some (A j)
  each : ∀ i, i < n → ∀ j, j < size → C j (A (i * size + j))
  small : n ≤ maxLen

section
variable {H : Type} {enc : TypeId × Value → H} {P : Program} {w : World} {base : Nat} {spare : Nat → Bool} {held : Bool}
theorem ArgS.of_cells {size : Nat} {C : Nat → Value → Prop} {a : Addr} {len cap : Nat} (hs : 0 < size) (hl : len ≤ cap) (hm : cap ≤ maxLen)
    (h : ∀ i, i < len → ∀ j, j < size → ∃ x, w.cell? (a.add (i * size + j)) = some x ∧ C j x) : ∃ A, ArgS w size C (.slice (some a) len cap) len A := by
  by_cases h0 : len = 0
  · subst h0
    exact ⟨fun _ => undef, .inl ⟨rfl, _, _, rfl⟩, fun j hj => by omega, Nat.zero_le _⟩
  · obtain ⟨x0, hx0, _⟩ := h 0 (by omega) 0 hs
    have hspot : a.spot = none := by simpa [Addr.add] using World.cell?_spot hx0
    obtain ⟨b, off, spot⟩ := a
    have hspot : spot = none := hspot
    subst hspot
    refine ⟨fun j => (w.cell? ⟨b, off + j, none⟩).getD undef, .inr ⟨b, off, cap, rfl, by have := World.block_lt_of_cell? w _ hx0; simpa [Rd.add] using this, ?_⟩, ?_, by omega⟩
    · intro j hj
      have h1 : j / size < len := by rw [Nat.div_lt_iff_lt_mul hs]; exact hj
      obtain ⟨x, hx, _⟩ := h (j / size) h1 (j % size) (Nat.mod_lt _ hs)
      rw [Rd.add, Nat.mul_comm, Nat.div_add_mod] at hx
      simp [hx]
    · intro i hi j hj
      obtain ⟨x, hx, hc⟩ := h i hi j hj
      rw [Rd.add] at hx
      simpa [hx] using hc

theorem argS_of {t e : TypeId} {fs : Array Field} {size : Nat} {C : Nat → Value → Prop} {v : Value} {d : DataW H} {p : List MemPlace} (ht : P.underlying t = some (.slice e)) (he : P.underlying e = some (.struct fs))
    (hC : P.cellsOf e = size) (hpos : 0 < size)
    (hk : ∀ j, j < size → (∃ (i : Nat) (f : Field), fs[i]? = some f ∧ f.offset = j ∧ P.cellsOf f.type = 1 ∧ ∀ fuel u y, DataW.trod enc P w base spare held fuel f.type [u] = some y → C j u) ∨
      ∃ (i : Nat) (f : Field) (gs : Array Field) (i' : Nat) (g : Field), fs[i]? = some f ∧ P.underlying f.type = some (.struct gs) ∧ gs[i']? = some g ∧ f.offset + g.offset = j ∧ g.offset < P.cellsOf f.type ∧ P.cellsOf g.type = 1 ∧ ∀ fuel u y, DataW.trod enc P w base spare held fuel g.type [u] = some y → C j u)
    (hv : ∃ ao n cap, v = .slice ao n cap) (h : DataW.Trod enc P w base spare held t v d p) : ∃ n A, ArgS w size C v n A := by
  obtain ⟨ao, n, cap, rfl⟩ := hv
  obtain ⟨fuel, hf⟩ := h
  rcases open_slice ht hf with ⟨hcs, _⟩ | ⟨a, l, c, m, nf, D, Pl, hcs, _, hl, hm, hmm, _, hcell⟩
  · simp [Value.cells] at hcs
    obtain ⟨rfl, rfl, rfl⟩ := hcs
    exact ⟨0, fun _ => undef, .inl ⟨rfl, _, _, rfl⟩, fun j hj => by omega, Nat.zero_le _⟩
  · simp [Value.cells] at hcs
    obtain ⟨rfl, rfl, rfl⟩ := hcs
    refine ⟨n, ArgS.of_cells hpos hl hm (fun i hi j hj => ?_)⟩
    have him : i < m := by rw [hmm]; split <;> omega
    obtain ⟨cs', hc, htr⟩ := hcell i him
    rw [hC] at hc
    obtain ⟨_, hcl, hat⟩ := World.cells?_some hc
    obtain ⟨ys, n', _, _, hlen, _, hfj⟩ := DataW.trod_struct he htr
    have one : ∀ (l : List Value) (o : Nat), o < l.length → ∃ u, (l.drop o).take 1 = [u] := by
      intro l o ho
      rw [List.drop_eq_getElem_cons ho]
      exact ⟨_, rfl⟩
    have key : ∃ x, cs'[j]? = some x ∧ C j x := by
      rcases hk j hj with ⟨i1, f, hf1, ho, hone, hu⟩ | ⟨i1, f, gs, i2, g, hf1, hu1, hg, ho, hlt, hone, hu⟩
      · have h1 := hfj i1 f hf1
        have hi1 : i1 < fs.size := (Array.getElem?_eq_some_iff.1 hf1).1
        rw [List.getElem?_eq_getElem (by omega), ho, hone] at h1
        obtain ⟨u, hu2⟩ := one cs' j (by omega)
        rw [hu2] at h1
        exact ⟨u, head_of_take hu2, hu _ _ _ h1⟩
      · have h1 := hfj i1 f hf1
        have hi1 : i1 < fs.size := (Array.getElem?_eq_some_iff.1 hf1).1
        rw [List.getElem?_eq_getElem (by omega)] at h1
        obtain ⟨zs, n2, _, _, hlen2, hzl, hgj⟩ := DataW.trod_struct hu1 h1
        have h2 := hgj i2 g hg
        have hi2 : i2 < gs.size := (Array.getElem?_eq_some_iff.1 hg).1
        rw [List.getElem?_eq_getElem (by omega), hone] at h2
        obtain ⟨u, hu2⟩ := one ((cs'.drop f.offset).take (P.cellsOf f.type)) g.offset (by omega)
        rw [hu2] at h2
        have h3 := head_of_take hu2
        rw [List.getElem?_take, if_pos hlt, List.getElem?_drop, ho] at h3
        exact ⟨u, h3, hu _ _ _ h2⟩
    obtain ⟨x, hx, hw⟩ := key
    refine ⟨x, ?_, hw⟩
    rw [← Go.Deep.add_add, hat j hj]
    exact hx
def IsInt (k : IntKind) (v : Value) : Prop := ∃ x, v = .int k x ∧ (Lit.int k x).wf = true
def IsBool (v : Value) : Prop := ∃ b, v = .bool b
def IsInts (w : World) (k : IntKind) (v : Value) : Prop := ∃ n A, ArgK w 1 (fun _ => k) v n A
theorem argC_int {t : TypeId} {k : IntKind} {fuel : Nat} {u : Value} {y : DataW H × List MemPlace} (ht : P.underlying t = some (.int k)) (h : DataW.trod enc P w base spare held fuel t [u] = some y) : IsInt k u := by
  obtain ⟨x, hx, _, hw⟩ := DataW.trod_int ht h
  cases hx
  exact ⟨x, rfl, hw⟩
theorem argC_bool {t : TypeId} {fuel : Nat} {u : Value} {y : DataW H × List MemPlace} (ht : P.underlying t = some .bool) (h : DataW.trod enc P w base spare held fuel t [u] = some y) : IsBool u := by
  obtain ⟨x, hx, _⟩ := DataW.trod_bool ht h
  cases hx
  exact ⟨x, rfl⟩
theorem argC_ints {t e : TypeId} {k : IntKind} {fuel : Nat} {u : Value} {y : DataW H × List MemPlace} (ht : P.underlying t = some (.slice e)) (he : P.underlying e = some (.int k)) (hC : P.cellsOf e = 1) (h : DataW.trod enc P w base spare held fuel t [u] = some y) : IsInts w k u := by
  have hu : ∃ ao n cap, u = .slice ao n cap := by
    rcases open_slice ht h with ⟨hcs, _⟩ | ⟨a, l, c, _, _, _, _, hcs, _⟩
    · cases hcs
      exact ⟨_, _, _, rfl⟩
    · cases hcs
      exact ⟨_, _, _, rfl⟩
  have h2 : DataW.Trod enc P w base spare held t u y.1 y.2 := by
    obtain ⟨ao, n, cap, rfl⟩ := hu
    exact ⟨fuel, by simpa [Value.cells] using h⟩
  exact argK_ints ht he hC hu h2
end
end Go.Proofs.YtjgemfgneiaabaaGreat
