/-
  Arguments that are slices of elements of one cell, such as slices of slices of integers. No statement is proved here.
-/
import Derived.Test.YtfioghpnehfjhaaArgs3
namespace Go.Proofs.Ytfioghpnehfjhaa
open Go.RowKit
open Go.ChangeShapes Go.WideShapes Go.Deep
set_option linter.unusedVariables false

section
variable {H : Type} {enc : TypeId × Value → H} {P : Program} {w : World} {base : Nat} {spare : Nat → Bool} {held : Bool}
theorem argS_one {t e : TypeId} {C : Value → Prop} {v : Value} {d : DataW H} {p : List MemPlace} (ht : P.underlying t = some (.slice e)) (hC : P.cellsOf e = 1)
    (hk : ∀ fuel u y, DataW.trod enc P w base spare held fuel e [u] = some y → C u)
    (hv : ∃ ao n cap, v = .slice ao n cap) (h : DataW.Trod enc P w base spare held t v d p) : ∃ n A, ArgS w 1 (fun _ => C) v n A := by
  obtain ⟨ao, n, cap, rfl⟩ := hv
  obtain ⟨fuel, hf⟩ := h
  rcases open_slice ht hf with ⟨hcs, _⟩ | ⟨a, l, c, m, nf, D, Pl, hcs, _, hl, hm, hmm, _, hcell⟩
  · simp [Value.cells] at hcs
    obtain ⟨rfl, rfl, rfl⟩ := hcs
    exact ⟨0, fun _ => undef, .inl ⟨rfl, _, _, rfl⟩, fun j hj => by omega, Nat.zero_le _⟩
  · simp [Value.cells] at hcs
    obtain ⟨rfl, rfl, rfl⟩ := hcs
    refine ⟨n, ArgS.of_cells (by omega) hl hm (fun i hi j hj => ?_)⟩
    obtain rfl : j = 0 := by omega
    have him : i < m := by rw [hmm]; split <;> omega
    obtain ⟨cs', hc, htr⟩ := hcell i him
    rw [hC] at hc
    obtain ⟨_, hcl, hat⟩ := World.cells?_some hc
    obtain ⟨u, rfl⟩ : ∃ u, cs' = [u] := List.length_eq_one_iff.1 hcl
    refine ⟨u, ?_, hk _ _ _ htr⟩
    rw [← Go.Deep.add_add, hat 0 (by omega)]
    rfl
end
end Go.Proofs.Ytfioghpnehfjhaa
