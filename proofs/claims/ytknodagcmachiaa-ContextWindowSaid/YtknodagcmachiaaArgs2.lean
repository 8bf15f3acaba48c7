/-
  Arguments that are slices of structs whose fields are integers, or structs of integers. No statement is proved here.
-/
import Derived.Test.YtknodagcmachiaaArgs
namespace Go.Proofs.Ytknodagcmachiaa
open Go.RowKit
open Go.ChangeShapes Go.WideShapes Go.Deep
set_option linter.unusedVariables false
section
variable {H : Type} {enc : TypeId × Value → H} {P : Program} {w : World} {base : Nat} {spare : Nat → Bool} {held : Bool}
theorem head_of_take {cs : List Value} {o : Nat} {v : Value} (h : (cs.drop o).take 1 = [v]) : cs[o]? = some v := by
  have : ((cs.drop o).take 1)[0]? = some v := by rw [h]; rfl
  rw [List.getElem?_take, if_pos (by omega), List.getElem?_drop] at this
  simpa using this
theorem argK_nest {t e : TypeId} {fs : Array Field} {size : Nat} {K : Nat → IntKind} {v : Value} {d : DataW H} {p : List MemPlace} (ht : P.underlying t = some (.slice e)) (he : P.underlying e = some (.struct fs))
    (hC : P.cellsOf e = size) (hpos : 0 < size)
    (hk : ∀ j, j < size → (∃ (i : Nat) (f : Field), fs[i]? = some f ∧ f.offset = j ∧ P.cellsOf f.type = 1 ∧ P.underlying f.type = some (.int (K j))) ∨
      ∃ (i : Nat) (f : Field) (gs : Array Field) (i' : Nat) (g : Field), fs[i]? = some f ∧ P.underlying f.type = some (.struct gs) ∧ gs[i']? = some g ∧ f.offset + g.offset = j ∧ g.offset < P.cellsOf f.type ∧ P.cellsOf g.type = 1 ∧ P.underlying g.type = some (.int (K j)))
    (hv : ∃ ao n cap, v = .slice ao n cap) (h : DataW.Trod enc P w base spare held t v d p) : ∃ n A, ArgK w size K v n A := by
  obtain ⟨ao, n, cap, rfl⟩ := hv
  obtain ⟨fuel, hf⟩ := h
  rcases open_slice ht hf with ⟨hcs, _⟩ | ⟨a, l, c, m, nf, D, Pl, hcs, _, hl, hm, hmm, _, hcell⟩
  · simp [Value.cells] at hcs
    obtain ⟨rfl, rfl, rfl⟩ := hcs
    exact ⟨0, fun _ => 0, .inl ⟨rfl, _, _, rfl⟩, fun j hj => by omega, Nat.zero_le _⟩
  · simp [Value.cells] at hcs
    obtain ⟨rfl, rfl, rfl⟩ := hcs
    refine ⟨n, ArgK.of_cells hpos hl hm (fun i hi j hj => ?_)⟩
    have him : i < m := by rw [hmm]; split <;> omega
    obtain ⟨cs', hc, htr⟩ := hcell i him
    rw [hC] at hc
    obtain ⟨_, hcl, hat⟩ := World.cells?_some hc
    obtain ⟨ys, n', _, _, hlen, _, hfj⟩ := DataW.trod_struct he htr
    have key : ∃ x, cs'[j]? = some (.int (K j) x) ∧ (Lit.int (K j) x).wf = true := by
      rcases hk j hj with ⟨i1, f, hf1, ho, hone, hu⟩ | ⟨i1, f, gs, i2, g, hf1, hu1, hg, ho, hlt, hone, hu⟩
      · have h1 := hfj i1 f hf1
        have hi1 : i1 < fs.size := (Array.getElem?_eq_some_iff.1 hf1).1
        rw [List.getElem?_eq_getElem (by omega), ho, hone] at h1
        obtain ⟨x, hx, _, hw⟩ := DataW.trod_int hu h1
        exact ⟨x, head_of_take hx, hw⟩
      · have h1 := hfj i1 f hf1
        have hi1 : i1 < fs.size := (Array.getElem?_eq_some_iff.1 hf1).1
        rw [List.getElem?_eq_getElem (by omega)] at h1
        obtain ⟨zs, n2, _, _, hlen2, hzl, hgj⟩ := DataW.trod_struct hu1 h1
        have h2 := hgj i2 g hg
        have hi2 : i2 < gs.size := (Array.getElem?_eq_some_iff.1 hg).1
        rw [List.getElem?_eq_getElem (by omega), hone] at h2
        obtain ⟨x, hx, _, hw⟩ := DataW.trod_int hu h2
        have h3 := head_of_take hx
        rw [List.getElem?_take, if_pos hlt, List.getElem?_drop, ho] at h3
        exact ⟨x, h3, hw⟩
    obtain ⟨x, hx, hw⟩ := key
    refine ⟨x, ?_, hw⟩
    rw [← Go.Deep.add_add, hat j hj]
    exact hx
end
end Go.Proofs.Ytknodagcmachiaa
