/-
  Arguments whose cells are integers or Bools, however nested: structs, arrays, slices of such. No statement is proved here.
-/
import Derived.Test.YtffjckdaekamgaaArgs3
import Derived.OpenShut
namespace Go.Proofs.Ytffjckdaekamgaa
open Go.RowKit
open Go.ChangeShapes Go.WideShapes Go.Deep
set_option linter.unusedVariables false

/-- A cell's kind. -/
inductive CK where
  | int (k : IntKind)
  | bool
def IsCK : CK → Value → Prop
  | .int k, v => ∃ x, v = .int k x ∧ (Lit.int k x).wf = true
  | .bool, v => ∃ b, v = .bool b
/-- A row of cells of such kinds. -/
def IsRow (ks : List CK) (cs : List Value) : Prop := cs.length = ks.length ∧ ∀ (j : Nat) (c : CK), ks[j]? = some c → ∃ v, cs[j]? = some v ∧ IsCK c v
theorem IsRow.at_ {ks : List CK} {cs : List Value} (h : IsRow ks cs) {j : Nat} {c : CK} (hj : ks[j]? = some c) : ∃ v, cs[j]? = some v ∧ IsCK c v := h.2 j c hj

section
variable {H : Type} {enc : TypeId × Value → H} {P : Program} {w : World} {base : Nat} {spare : Nat → Bool} {held : Bool} {t e : TypeId} {ks : List CK}
/-- What reads at a type is a row of such kinds. -/
def RowT (enc : TypeId × Value → H) (P : Program) (w : World) (base : Nat) (spare : Nat → Bool) (held : Bool) (t : TypeId) (ks : List CK) : Prop :=
  ∀ fuel cs y, DataW.trod enc P w base spare held fuel t cs = some y → IsRow ks cs
theorem rowT_int {k : IntKind} (ht : P.underlying t = some (.int k)) : RowT enc P w base spare held t [.int k] := by
  intro fuel cs y h
  obtain ⟨x, rfl, _, hw⟩ := DataW.trod_int ht h
  refine ⟨rfl, fun j c hj => ?_⟩
  match j, hj with
  | 0, hj => cases hj; exact ⟨_, rfl, x, rfl, hw⟩
theorem rowT_bool (ht : P.underlying t = some .bool) : RowT enc P w base spare held t [.bool] := by
  intro fuel cs y h
  obtain ⟨x, rfl, _⟩ := DataW.trod_bool ht h
  refine ⟨rfl, fun j c hj => ?_⟩
  match j, hj with
  | 0, hj => cases hj; exact ⟨_, rfl, x, rfl⟩
theorem rowT_struct {fs : Array Field} (ht : P.underlying t = some (.struct fs)) (hl : P.cellsOf t = ks.length)
    (hf : ∀ (i : Nat) (f : Field), fs[i]? = some f → ∃ n, P.cellsOf f.type = n ∧ RowT enc P w base spare held f.type ((ks.drop f.offset).take n))
    (hcov : ∀ j, j < ks.length → ∃ (i : Nat) (f : Field) (n : Nat), fs[i]? = some f ∧ P.cellsOf f.type = n ∧ f.offset ≤ j ∧ j < f.offset + n) : RowT enc P w base spare held t ks := by
  intro fuel cs y h
  obtain ⟨ys, n, _, _, hlen, hyl, hfj⟩ := DataW.trod_struct ht h
  refine ⟨hlen.trans hl, fun j c hj => ?_⟩
  obtain ⟨i, f, m, hi, hm, h1, h2⟩ := hcov j (List.getElem?_eq_some_iff.1 hj).1
  obtain ⟨m', hm', hR⟩ := hf i f hi
  have hmm : m = m' := hm.symm.trans hm'
  subst hmm
  have h3 := hfj i f hi
  have his : i < fs.size := (Array.getElem?_eq_some_iff.1 hi).1
  rw [List.getElem?_eq_getElem (by omega), hm] at h3
  obtain ⟨hl3, h4⟩ := hR _ _ _ h3
  obtain ⟨v, hv, hc⟩ := h4 (j - f.offset) c (by rw [List.getElem?_take, if_pos (by omega), List.getElem?_drop, show f.offset + (j - f.offset) = j by omega]; exact hj)
  rw [List.getElem?_take, if_pos (by omega), List.getElem?_drop, show f.offset + (j - f.offset) = j by omega] at hv
  exact ⟨v, hv, hc⟩
theorem rowT_array {n : Nat} {c : CK} (ht : P.underlying t = some (.array n e)) (hl : P.cellsOf t = n) (he : P.cellsOf e = 1) (hR : RowT enc P w base spare held e [c]) : RowT enc P w base spare held t (List.replicate n c) := by
  intro fuel cs y h
  obtain ⟨xs, m, _, _, hlen, hxl, hi⟩ := DataW.trod_array ht h
  refine ⟨by rw [hlen, hl]; simp, fun j c' hj => ?_⟩
  have hjn : j < n := by
    have := (List.getElem?_eq_some_iff.1 hj).1
    simpa using this
  have hc : c' = c := by
    rw [List.getElem?_replicate, if_pos hjn] at hj
    exact (Option.some.inj hj).symm
  subst hc
  have h1 := hi j hjn
  rw [he, Nat.mul_one, List.getElem?_eq_getElem (by omega)] at h1
  obtain ⟨_, h2⟩ := hR _ _ _ h1
  obtain ⟨v, hv, hk⟩ := h2 0 c' rfl
  rw [List.getElem?_take, if_pos (by omega), List.getElem?_drop, Nat.add_zero] at hv
  exact ⟨v, hv, hk⟩

/-- A struct that came in. -/
theorem arg_struct {fs : Array Field} {arr : Array Value} {d : DataW H} {p : List MemPlace} (ht : P.underlying t = some (.struct fs)) (hR : RowT enc P w base spare held t ks)
    (h : DataW.Trod enc P w base spare held t (.agg arr) d p) : IsRow ks arr.toList := by
  obtain ⟨fuel, hf⟩ := h
  exact hR _ _ _ hf
/-- A slice of structs that came in. -/
theorem argS_row {size : Nat} {v : Value} {d : DataW H} {p : List MemPlace} (ht : P.underlying t = some (.slice e)) (hC : P.cellsOf e = size) (hk : ks.length = size) (hpos : 0 < size)
    (hR : RowT enc P w base spare held e ks) (hv : ∃ ao n cap, v = .slice ao n cap) (h : DataW.Trod enc P w base spare held t v d p) : ∃ n A, ArgS w size (fun j u => ∃ c : CK, ks[j]? = some c ∧ IsCK c u) v n A := by
  obtain ⟨ao, n, cap, rfl⟩ := hv
  obtain ⟨fuel, hf⟩ := h
  rcases open_slice ht hf with ⟨hcs, _⟩ | ⟨a, l, c, m, nf, D, Pl, hcs, _, hl, hm, hmm, _, hcell⟩
  · simp [Value.cells] at hcs
    obtain ⟨rfl, rfl, rfl⟩ := hcs
    exact ⟨0, fun _ => undef, .inl ⟨rfl, _, _, rfl⟩, fun j hj => by omega, Nat.zero_le _⟩
  · simp [Value.cells] at hcs
    obtain ⟨rfl, rfl, rfl⟩ := hcs
    refine ⟨n, ArgS.of_cells hpos hl hm (fun i hi j hj => ?_)⟩
    have him : i < m := by rw [hmm]; split <;> omega
    obtain ⟨cs', hc, htr⟩ := hcell i him
    rw [hC] at hc
    obtain ⟨_, hcl, hat⟩ := World.cells?_some hc
    obtain ⟨_, hrow⟩ := hR _ _ _ htr
    obtain ⟨v, hv, hk2⟩ := hrow j ks[j] (List.getElem?_eq_getElem (by omega))
    refine ⟨v, ?_, ks[j], List.getElem?_eq_getElem (by omega), hk2⟩
    rw [← Go.Deep.add_add, hat j hj]
    exact hv
end
end Go.Proofs.Ytffjckdaekamgaa
