/-
  Arguments that are slices of ints, or of structs of ints, read off the row's own reading. No statement is proved here.
-/
import Derived.Test.YtjgemfgneiaabaaHeap
import Derived.ProofKit
import Derived.OpenShut
import Derived.ChangeOld
import Derived.ChangeSame
import Derived.Deep.Slices
import Derived.Deep.Fields
namespace Go.Proofs.Ytjgemfgneiaabaa
open Go.RowKit
open Go.ChangeShapes Go.WideShapes Go.Deep
set_option linter.unusedVariables false

section
variable {H : Type} {enc : TypeId × Value → H} {P : Program} {w : World} {base : Nat} {spare : Nat → Bool} {held : Bool}
theorem open_slice_fields {t e : TypeId} {fs : Array Field} {fuel : Nat} {cs : List Value} {x : DataW H × List MemPlace} (ht : P.underlying t = some (.slice e)) (he : P.underlying e = some (.struct fs))
    (hone : oneCellFields P fs = true) (hC : P.cellsOf e = fs.size) (h : DataW.trod enc P w base spare held fuel t cs = some x) :
    (cs = [.slice none 0 0] ∧ x = (.nil, [])) ∨
    ∃ (a : Addr) (len cap m : Nat) (D : Nat → DataW H) (Pl : Nat → List MemPlace), cs = [.slice (some a) len cap] ∧ base ≤ a.block ∧ len ≤ cap ∧ cap ≤ maxLen ∧ m = (if spare a.block then cap else len) ∧
      x = (.slice ((List.range len).map D) ((List.range (m - len)).map fun j => D (len + j)), MemPlace.row a (m * fs.size) ++ (List.range m).flatMap Pl) ∧
      ∀ i, i < m → ∃ (ys : List (DataW H × List MemPlace)) (n : Nat), D i = .agg (ys.map (·.1)) ∧ Pl i = ys.flatMap (·.2) ∧ ys.length = fs.size ∧
        ∀ (j : Nat) (f : Field), fs[j]? = some f → ∃ (v : Value) (y : DataW H × List MemPlace), w.cell? (a.add (i * fs.size + j)) = some v ∧ ys[j]? = some y ∧ DataW.trod enc P w base spare held n f.type [v] = some y := by
  rcases open_slice ht h with h0 | ⟨a, len, cap, m, n, D, Pl, hcs, hb, hl, hm, hmm, hx, hi⟩
  · exact .inl h0
  · refine .inr ⟨a, len, cap, m, D, Pl, hcs, hb, hl, hm, hmm, by rw [hC] at hx; exact hx, fun i him => ?_⟩
    obtain ⟨cs', hc, ht'⟩ := hi i him
    rw [hC] at hc
    obtain ⟨ys, n', hn', hy, hlen, hyl, hf⟩ := DataW.trod_struct he ht'
    obtain ⟨_, hcl, hat⟩ := World.cells?_some hc
    simp only [Prod.mk.injEq] at hy
    refine ⟨ys, n', hy.1, hy.2, hyl, fun j f hj => ?_⟩
    obtain ⟨ho, hk⟩ := hone_of hone j f hj
    have hjl : j < fs.size := (Array.getElem?_eq_some_iff.1 hj).1
    have hcell := hat j hjl
    have hv : cs'[j]? = some (cs'[j]'(by omega)) := List.getElem?_eq_getElem (by omega)
    have h1 := hf j f hj
    rw [ho, hk] at h1
    have hone' : (cs'.drop j).take 1 = [cs'[j]'(by omega)] := by
      rw [List.drop_eq_getElem_cons (by omega)]
      rfl
    rw [hone'] at h1
    have hys : ys[j]? = some (ys[j]'(by omega)) := List.getElem?_eq_getElem (by omega)
    refine ⟨_, _, ?_, hys, h1.trans hys⟩
    rw [← Go.Deep.add_add, hcell, hv]
end

/-- A slice that came in: n elements of so many int cells each; cell j holds the number A j, of the kind that its place in the element has. -/
structure ArgK (w0 : World) (size : Nat) (K : Nat → IntKind) (v : Value) (n : Nat) (A : Nat → Int) : Prop where
  form : (n = 0 ∧ ∃ ao cap, v = .slice ao 0 cap) ∨ ∃ b off cap, v = .slice (some ⟨b, off, none⟩) n cap ∧ b < w0.heap.size ∧ ∀ j, j < n * size → w0.cell? ⟨b, off + j, none⟩ = some (.int (K (j % size)) (A j))
  wf : ∀ j, j < n * size → (Lit.int (K (j % size)) (A j)).wf = true
  small : n ≤ maxLen

def cellNum (w : World) (a : Addr) : Int := match w.cell? a with | some (.int _ x) => x | _ => 0

section
variable {H : Type} {enc : TypeId × Value → H} {P : Program} {w : World} {base : Nat} {spare : Nat → Bool} {held : Bool}
theorem ArgK.of_cells {size : Nat} {K : Nat → IntKind} {a : Addr} {len cap : Nat} (hs : 0 < size) (hl : len ≤ cap) (hm : cap ≤ maxLen)
    (h : ∀ i, i < len → ∀ j, j < size → ∃ x, w.cell? (a.add (i * size + j)) = some (.int (K j) x) ∧ (Lit.int (K j) x).wf = true) : ∃ A, ArgK w size K (.slice (some a) len cap) len A := by
  by_cases h0 : len = 0
  · subst h0
    exact ⟨fun _ => 0, .inl ⟨rfl, _, _, rfl⟩, fun j hj => by omega, Nat.zero_le _⟩
  · obtain ⟨x0, hx0, _⟩ := h 0 (by omega) 0 hs
    have hspot : a.spot = none := by simpa [Addr.add] using World.cell?_spot hx0
    obtain ⟨b, off, spot⟩ := a
    have hspot : spot = none := hspot
    subst hspot
    have hall : ∀ j, j < len * size → ∃ x, w.cell? ⟨b, off + j, none⟩ = some (.int (K (j % size)) x) ∧ (Lit.int (K (j % size)) x).wf = true := by
      intro j hj
      have h1 : j / size < len := by rw [Nat.div_lt_iff_lt_mul hs]; exact hj
      obtain ⟨x, hx, hw⟩ := h (j / size) h1 (j % size) (Nat.mod_lt _ hs)
      rw [Rd.add, Nat.mul_comm, Nat.div_add_mod] at hx
      exact ⟨x, hx, hw⟩
    refine ⟨fun j => cellNum w ⟨b, off + j, none⟩, .inr ⟨b, off, cap, rfl, by have := World.block_lt_of_cell? w _ hx0; simpa [Rd.add] using this, ?_⟩, ?_, by omega⟩
    · intro j hj
      obtain ⟨x, hx, _⟩ := hall j hj
      simp [cellNum, hx]
    · intro j hj
      obtain ⟨x, hx, hw⟩ := hall j hj
      simpa [cellNum, hx] using hw

theorem argK_ints {t e : TypeId} {k : IntKind} {v : Value} {d : DataW H} {p : List MemPlace} (ht : P.underlying t = some (.slice e)) (he : P.underlying e = some (.int k)) (hC : P.cellsOf e = 1)
    (hv : ∃ ao n cap, v = .slice ao n cap) (h : DataW.Trod enc P w base spare held t v d p) : ∃ n A, ArgK w 1 (fun _ => k) v n A := by
  obtain ⟨ao, n, cap, rfl⟩ := hv
  obtain ⟨fuel, hf⟩ := h
  rcases open_ints ht he hC hf with ⟨hcs, _⟩ | ⟨x, l, c, zs, hcs, _, hl, hm, hz, _, hcell, hwz⟩
  · simp [Value.cells] at hcs
    obtain ⟨rfl, rfl, rfl⟩ := hcs
    exact ⟨0, fun _ => 0, .inl ⟨rfl, _, _, rfl⟩, fun j hj => by omega, Nat.zero_le _⟩
  · simp [Value.cells] at hcs
    obtain ⟨rfl, rfl, rfl⟩ := hcs
    refine ⟨n, ArgK.of_cells (by omega) hl hm (fun i hi j hj => ?_)⟩
    obtain rfl : j = 0 := by omega
    have hi2 : i < zs.length := by rw [hz]; split <;> omega
    rw [Nat.mul_one, Nat.add_zero]
    refine ⟨_, hcell i hi2, ?_⟩
    have := hwz zs[i] (List.getElem_mem hi2)
    simpa [hi2] using this

theorem argK_structs {t e : TypeId} {fs : Array Field} {K : Nat → IntKind} {v : Value} {d : DataW H} {p : List MemPlace} (ht : P.underlying t = some (.slice e)) (he : P.underlying e = some (.struct fs))
    (hone : oneCellFields P fs = true) (hC : P.cellsOf e = fs.size) (hpos : 0 < fs.size) (hk : ∀ (j : Nat) (f : Field), fs[j]? = some f → P.underlying f.type = some (.int (K j)))
    (hv : ∃ ao n cap, v = .slice ao n cap) (h : DataW.Trod enc P w base spare held t v d p) : ∃ n A, ArgK w fs.size K v n A := by
  obtain ⟨ao, n, cap, rfl⟩ := hv
  obtain ⟨fuel, hf⟩ := h
  rcases open_slice_fields ht he hone hC hf with ⟨hcs, _⟩ | ⟨a, l, c, m, D, Pl, hcs, _, hl, hm, hmm, _, hcell⟩
  · simp [Value.cells] at hcs
    obtain ⟨rfl, rfl, rfl⟩ := hcs
    exact ⟨0, fun _ => 0, .inl ⟨rfl, _, _, rfl⟩, fun j hj => by omega, Nat.zero_le _⟩
  · simp [Value.cells] at hcs
    obtain ⟨rfl, rfl, rfl⟩ := hcs
    refine ⟨n, ArgK.of_cells hpos hl hm (fun i hi j hj => ?_)⟩
    have him : i < m := by rw [hmm]; split <;> omega
    obtain ⟨ys, nn, _, _, _, hfj⟩ := hcell i him
    obtain ⟨v, y, hc, _, ht⟩ := hfj j fs[j] (Array.getElem?_eq_getElem hj)
    obtain ⟨x, hx, _, hw⟩ := DataW.trod_int (hk j fs[j] (Array.getElem?_eq_getElem hj)) ht
    simp at hx
    subst hx
    exact ⟨x, hc, hw⟩
end
end Go.Proofs.Ytjgemfgneiaabaa
