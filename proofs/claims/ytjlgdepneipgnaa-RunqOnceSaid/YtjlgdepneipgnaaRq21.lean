/-
  Chapter 05: acts, as they come in. No statement is proved here.
-/
import Derived.Test.YtjlgdepneipgnaaRq13
import Derived.Test.YtjlgdepneipgnaaArgs3
namespace Go.Proofs.Ytjlgdepneipgnaa.Rq
open Go.RowKit
set_option linter.unusedVariables false

/-- An affinity that came in: it reads so ever after. -/
def IsAff (w0 : World) (v : Value) (af : List Nat) : Prop := (∀ w, Below w0.heap.size w0 w → RdA w v af) ∧ af.length ≤ maxLen
/-- What an act's cells may be. -/
def actC (w0 : World) (j : Nat) (v : Value) : Prop := if j = 3 then IsInts w0 .u8 v else if j = 2 then IsBool v else IsInt .i64 v

theorem isAff_of {w0 : World} {v : Value} (h : IsInts w0 .u8 v) : ∃ af, IsAff w0 v af := by
  obtain ⟨n, A, h⟩ := h
  have hw : ∀ j, j < n → 0 ≤ A j ∧ A j < 256 := by
    intro j hj
    have := h.wf j (by omega)
    simp only [Lit.wf, Bool.and_eq_true, decide_eq_true_eq] at this
    have h1 := this.1
    have h2 := this.2
    rw [show IntKind.u8.min = 0 from rfl] at h1
    rw [show IntKind.u8.max = 255 from rfl] at h2
    omega
  refine ⟨(List.range n).map fun j => (A j).toNat, ⟨fun w hb => ⟨⟨by simp, ?_⟩, ?_⟩, by simpa using h.small⟩⟩
  · rcases h.form with ⟨rfl, ao, cap, rfl⟩ | ⟨b, off, cap, rfl, hlt, hc⟩
    · exact .inl ⟨by simp, ao, cap, rfl⟩
    · refine .inr ⟨b, off, cap, by simp, fun j u hj => ?_⟩
      have hjn : j < n := by
        have := (List.getElem?_eq_some_iff.1 hj).1
        simpa using this
      have h1 := hw j hjn
      simp only [List.map_map, List.getElem?_map, List.getElem?_range hjn, Option.map_some, Option.some.injEq, Function.comp] at hj
      rw [hb.cell (by exact hlt), hc j (by omega), ← hj]
      congr 2
      omega
  · intro a ha
    obtain ⟨j, hj, rfl⟩ := List.mem_map.1 ha
    have := hw j (List.mem_range.1 hj)
    omega

/-- Acts that came in: kinds, numbers, whether one inherits, affinities. -/
structure Acts (w0 : World) (v : Value) (n : Nat) (K G : Nat → Int) (Y : Nat → Bool) (V : Nat → Value) (af : Nat → List Nat) : Prop where
  form : (n = 0 ∧ ∃ ao cap, v = .slice ao 0 cap) ∨ ∃ b off cap, v = .slice (some ⟨b, off, none⟩) n cap ∧ b < w0.heap.size ∧ ∀ i, i < n →
    w0.cell? ⟨b, off + i * 4, none⟩ = some (vi (K i)) ∧ w0.cell? ⟨b, off + i * 4 + 1, none⟩ = some (vi (G i)) ∧ w0.cell? ⟨b, off + i * 4 + 2, none⟩ = some (.bool (Y i)) ∧ w0.cell? ⟨b, off + i * 4 + 3, none⟩ = some (V i)
  aff : ∀ i, i < n → IsAff w0 (V i) (af i)
  small : n ≤ maxLen

theorem acts_of {w0 : World} {v : Value} {n : Nat} {A : Nat → Value} (h : ArgS w0 4 (actC w0) v n A) : ∃ K G Y V af, Acts w0 v n K G Y V af := by
  have h0 : ∀ i, ∃ x : Int, i < n → A (i * 4) = vi x := fun i => by
    by_cases hi : i < n
    · obtain ⟨x, hx, _⟩ : IsInt .i64 (A (i * 4 + 0)) := h.each i hi 0 (by omega)
      exact ⟨x, fun _ => hx⟩
    · exact ⟨0, fun h => absurd h hi⟩
  have h1 : ∀ i, ∃ x : Int, i < n → A (i * 4 + 1) = vi x := fun i => by
    by_cases hi : i < n
    · obtain ⟨x, hx, _⟩ : IsInt .i64 (A (i * 4 + 1)) := h.each i hi 1 (by omega)
      exact ⟨x, fun _ => hx⟩
    · exact ⟨0, fun h => absurd h hi⟩
  have h2 : ∀ i, ∃ x : Bool, i < n → A (i * 4 + 2) = .bool x := fun i => by
    by_cases hi : i < n
    · obtain ⟨x, hx⟩ : IsBool (A (i * 4 + 2)) := h.each i hi 2 (by omega)
      exact ⟨x, fun _ => hx⟩
    · exact ⟨false, fun h => absurd h hi⟩
  have h3 : ∀ i, ∃ x : List Nat, i < n → IsAff w0 (A (i * 4 + 3)) x := fun i => by
    by_cases hi : i < n
    · obtain ⟨x, hx⟩ := isAff_of (show IsInts w0 .u8 (A (i * 4 + 3)) from h.each i hi 3 (by omega))
      exact ⟨x, fun _ => hx⟩
    · exact ⟨[], fun h => absurd h hi⟩
  refine ⟨fun i => (h0 i).choose, fun i => (h1 i).choose, fun i => (h2 i).choose, fun i => A (i * 4 + 3), fun i => (h3 i).choose, ?_, fun i hi => (h3 i).choose_spec hi, h.small⟩
  rcases h.form with ⟨rfl, ao, cap, rfl⟩ | ⟨b, off, cap, rfl, hb, hc⟩
  · exact .inl ⟨rfl, ao, cap, rfl⟩
  · refine .inr ⟨b, off, cap, rfl, hb, fun i hi => ⟨?_, ?_, ?_, ?_⟩⟩
    · exact (hc _ (by omega)).trans (congrArg some ((h0 i).choose_spec hi))
    · rw [Nat.add_assoc]
      exact (hc _ (by omega)).trans (congrArg some ((h1 i).choose_spec hi))
    · rw [Nat.add_assoc]
      exact (hc _ (by omega)).trans (congrArg some ((h2 i).choose_spec hi))
    · rw [Nat.add_assoc, hc _ (by omega)]
theorem Acts.len {w0 : World} {v : Value} {n : Nat} {K G : Nat → Int} {Y : Nat → Bool} {V : Nat → Value} {af : Nat → List Nat} (h : Acts w0 v n K G Y V af) : ∃ ao cap, v = .slice ao n cap := by
  rcases h.form with ⟨rfl, ao, cap, rfl⟩ | ⟨b, off, cap, rfl, _⟩
  · exact ⟨_, _, rfl⟩
  · exact ⟨_, _, rfl⟩
/-- An act's cells, later. -/
theorem Acts.at_ {w0 w : World} {ao : Option Addr} {n cap : Nat} {K G : Nat → Int} {Y : Nat → Bool} {V : Nat → Value} {af : Nat → List Nat} (h : Acts w0 (.slice ao n cap) n K G Y V af) (hS : Below w0.heap.size w0 w) (i : Nat) (hi : i < n) :
    ∃ b off, ao = some ⟨b, off, none⟩ ∧ w.cell? ⟨b, off + i * 4, none⟩ = some (vi (K i)) ∧ w.cell? ⟨b, off + i * 4 + 1, none⟩ = some (vi (G i)) ∧ w.cell? ⟨b, off + i * 4 + 2, none⟩ = some (.bool (Y i)) ∧ w.cell? ⟨b, off + i * 4 + 3, none⟩ = some (V i) := by
  rcases h.form with ⟨rfl, _⟩ | ⟨b, off, cap, e, hb, hc⟩
  · omega
  · cases e
    obtain ⟨h0, h1, h2, h3⟩ := hc i hi
    exact ⟨b, off, rfl, (hS.cell (by exact hb)).trans h0, (hS.cell (by exact hb)).trans h1, (hS.cell (by exact hb)).trans h2, (hS.cell (by exact hb)).trans h3⟩
end Go.Proofs.Ytjlgdepneipgnaa.Rq
