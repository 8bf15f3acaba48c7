/-
  The plain law of a window. No statement is proved here.
-/
import Derived.Test.YtknodagcmachiaaFiLaw2
namespace Go.Proofs.Ytknodagcmachiaa.Fi
open Go.RowKit
set_option linter.unusedVariables false

/-- What was used at those times is not there again at T. -/
def outAt (U : List Int) (period T : Int) : Nat := U.countP fun u => decide (T < u + period)
structure Win (S most period nw : Int) (X : List Rf) (U : List Int) : Prop where
  may : MayL X
  ok : OkL X
  tot : tot X = S
  len : (X.length : Int) ≤ most
  us : ∀ u ∈ U, 0 ≤ u ∧ u ≤ nw
  inv : ∀ T, nw ≤ T → (outAt U period T : Int) + totTo T X ≤ S
section
variable {S most period nw nw' : Int} {X : List Rf} {U : List Int}
theorem Win.move (h : Win S most period nw X U) (hn : nw ≤ nw') : Win S most period nw' X U :=
  ⟨h.may, h.ok, h.tot, h.len, fun u hu => ⟨(h.us u hu).1, by have := (h.us u hu).2; omega⟩, fun T hT => h.inv T (by omega)⟩
theorem Win.start (h : MayL X) (hok : OkL X) (hl : (X.length : Int) ≤ most) : Win (Go.Proofs.Ytknodagcmachiaa.Fi.tot X) most period nw X [] :=
  ⟨h, hok, rfl, hl, fun u hu => by simp at hu, fun T hT => by have := (totTo_bd T hok).2; simp [outAt]; omega⟩
theorem Win.step (h : Win S most period nw X U) (hc : ChOk X nw period most) (hn : 0 ≤ nw) (hp : 0 ≤ period) : Win S most period nw (chargeL X nw period most) (U ++ [nw]) := by
  obtain ⟨b1, b2, b3, b4⟩ := charge_law hc h.ok hn hp
  refine ⟨b1, b2, by rw [b3, h.tot], b4, fun u hu => ?_, fun T hT => ?_⟩
  · rcases List.mem_append.1 hu with h1 | h1
    · exact h.us u h1
    · simp at h1
      omega
  · have h1 := h.inv T hT
    have h2 := charge_totTo hc h.ok hn hp hT
    unfold outAt at h1 ⊢
    rw [List.countP_append, List.countP_singleton]
    by_cases h3 : T < nw + period
    · rw [if_pos h3] at h2
      rw [if_pos (by simpa using h3)]
      omega
    · rw [if_neg h3] at h2
      rw [if_neg (by simpa using h3)]
      omega
theorem Win.chOk (h : Win S most period nw X U) (hm : 1 ≤ most) (hp : period ≠ 0) (hf : nw + period ≤ 18446744073709551615) (ht : thN X nw ≠ 0) : ChOk X nw period most := ⟨h.may, hm, h.len, hp, hf, ht⟩
theorem Win.bound (h : Win S most period nw X U) (m : Nat) : (((U.drop m).countP fun u => decide (nw < u + period) : Nat) : Int) ≤ S := by
  have h1 := h.inv nw (Int.le_refl _)
  have h2 := (totTo_bd nw h.ok).1
  have h3 : (U.drop m).countP (fun u => decide (nw < u + period)) ≤ U.countP fun u => decide (nw < u + period) := (List.drop_sublist m U).countP_le
  unfold outAt at h1
  omega
theorem count_drop {j : Nat} {u : Int} (p : Int → Bool) (hj : U[j]? = some u) (hu : p u = true) : (U.drop j).countP p = (U.drop (j + 1)).countP p + 1 := by
  obtain ⟨hl, rfl⟩ := List.getElem?_eq_some_iff.1 hj
  rw [List.drop_eq_getElem_cons hl, List.countP_cons, if_pos hu]
end
end Go.Proofs.Ytknodagcmachiaa.Fi
