/-
  The walk of RefillBack. No statement is proved here.
-/
import Derived.Test.YtcchfdoeacgapaaFi13
namespace Go.Proofs.Ytcchfdoeacgapaa.Fi
open Go.RowKit
set_option linter.unusedVariables false

/-- The list behind i of budget were used at one time. -/
def backL (budget now period : Int) (i : Nat) : List Rf := if budget = 0 then [] else if i = 0 then [⟨budget, now⟩] else if (i : Int) < budget then [⟨budget - i, now⟩, ⟨i, now + period⟩] else [⟨i, now + period⟩]
section
variable {budget now period most : Int} {i : Nat}
structure BkOk (budget now period most : Int) : Prop where
  b : 0 ≤ budget
  b2 : budget ≤ 300
  n : 0 ≤ now
  n2 : now ≤ 1099511627776
  p : 1 ≤ period
  p2 : period ≤ 1099511627776
  m : 2 ≤ most
  m2 : most ≤ 60
theorem backL_ok (h : BkOk budget now period most) (hi : (i : Int) ≤ budget) : OkL (backL budget now period i) ∧ MayL (backL budget now period i) ∧ (backL budget now period i).length ≤ 2 := by
  obtain ⟨h1, h2, h3, h4, h5, h6, h7, h8⟩ := h
  unfold backL
  split
  · exact ⟨fun r hr => by simp at hr, MayL.nil, by simp⟩
  · split
    · exact ⟨ok1 _ _ ⟨by omega, by omega⟩ ⟨by omega, by omega⟩, may1 _ _ (by omega) (by omega), by simp⟩
    · split
      · exact ⟨ok2 _ _ _ _ ⟨by omega, by omega⟩ ⟨by omega, by omega⟩ ⟨by omega, by omega⟩ ⟨by omega, by omega⟩, may2 _ _ _ _ (by omega) (by omega) (by omega) (by omega), by simp⟩
      · exact ⟨ok1 _ _ ⟨by omega, by omega⟩ ⟨by omega, by omega⟩, may1 _ _ (by omega) (by omega), by simp⟩
theorem backL_0 (h : budget ≠ 0) : backL budget now period 0 = [⟨budget, now⟩] := by rw [backL, if_neg h, if_pos rfl]
theorem backL_zero : backL 0 now period i = [] := by rw [backL, if_pos rfl]
theorem backL_mid (h : (i : Int) < budget) (h0 : i ≠ 0) : backL budget now period i = [⟨budget - i, now⟩, ⟨i, now + period⟩] := by rw [backL, if_neg (by omega), if_neg h0, if_pos h]
theorem backL_end (h : (i : Int) = budget) (h0 : i ≠ 0) : backL budget now period i = [⟨i, now + period⟩] := by rw [backL, if_neg (by omega), if_neg h0, if_neg (by omega)]
theorem backL_th (h : BkOk budget now period most) (hi : (i : Int) < budget) : thN (backL budget now period i) now = 1 ∧ dueL (backL budget now period i) now = backL budget now period i := by
  by_cases h0 : i = 0
  · subst h0
    rw [backL_0 (by omega)]
    have := due_self (r := ⟨budget, now⟩) (t := []) (now := now) (by simp) (fun s hs => by simp at hs)
    exact ⟨this.2, this.1⟩
  · rw [backL_mid hi h0]
    have hp := h.p
    have := due_self (r := ⟨budget - i, now⟩) (t := [⟨i, now + period⟩]) (now := now) (by simp) (fun s hs => by simp at hs; subst hs; simp; omega)
    exact ⟨this.2, this.1⟩
theorem backL_ch (h : BkOk budget now period most) (hi : (i : Int) < budget) : ChOk (backL budget now period i) now period most ∧ chargeL (backL budget now period i) now period most = backL budget now period (i + 1) := by
  obtain ⟨a1, a2, a3⟩ := backL_ok h (i := i) (by omega)
  obtain ⟨b1, b2⟩ := backL_th h hi
  obtain ⟨h1, h2, h3, h4, h5, h6, h7, h8⟩ := h
  refine ⟨⟨a2, by omega, by omega, by omega, by omega, by omega⟩, ?_⟩
  rw [chargeL, b2]
  by_cases h0 : i = 0
  · subst h0
    rw [backL_0 (by omega)]
    by_cases hb : budget = 1
    · subst hb
      rw [show lessL [(⟨1, now⟩ : Rf)] 1 = [] from rfl, putL_nil, backL_end (by omega) (by omega)]
      rfl
    · rw [lessL_cons, if_neg (by simp only; omega), backL_mid (by omega) (by omega)]
      have := putL_app (init := []) (x := ⟨budget - 1, now⟩) (back := now + period) (most := most)
      simp only [List.nil_append, List.length_nil] at this
      rw [show ([⟨(⟨budget, now⟩ : Rf).amount - 1, (⟨budget, now⟩ : Rf).at_⟩] : List Rf) = [⟨budget - 1, now⟩] from rfl, this, if_neg (by omega), if_pos (by omega)]
      rfl
  · rw [backL_mid hi h0, lessL_cons]
    by_cases hb : (⟨budget - i, now⟩ : Rf).amount - 1 = 0
    · rw [if_pos hb]
      have hb : budget - i - 1 = 0 := hb
      have := putL_app (init := []) (x := ⟨i, now + period⟩) (back := now + period) (most := most)
      simp only [List.nil_append, List.length_nil] at this
      rw [this, if_pos (by omega), backL_end (by omega) (by omega)]
      rfl
    · rw [if_neg hb]
      have hb : ¬ (budget - i - 1 = 0) := hb
      have := putL_app (init := [⟨budget - i - 1, now⟩]) (x := ⟨i, now + period⟩) (back := now + period) (most := most)
      simp only [List.cons_append, List.nil_append] at this
      rw [this, if_pos (by omega), backL_mid (by omega) (by omega)]
      rw [show budget - ((i + 1 : Nat) : Int) = budget - i - 1 by omega]
      rfl
theorem back_no (h : BkOk budget now period most) {n : Nat} (hn : (n : Int) = budget) : ¬ ChOk (backL budget now period n) now period most := by
  intro hc
  have hp := h.p
  by_cases h0 : n = 0
  · have hb : budget = 0 := by omega
    subst hb
    have := hc.th
    rw [backL_zero] at this
    exact this rfl
  · have := hc.th
    rw [backL_end hn h0] at this
    exact this (thN_eq (by simp) (fun j r hj => by omega) (fun r hr => by simp at hr; subst hr; simp; omega))
theorem back_next (h : BkOk budget now period most) {n : Nat} (hn : (n : Int) = budget) : nextP (backL budget now period n) now = if budget = 0 then none else some (now + period) := by
  have hp := h.p
  by_cases h0 : n = 0
  · have hb : budget = 0 := by omega
    subst hb
    rw [backL_zero, if_pos rfl]
    rfl
  · rw [backL_end hn h0, if_neg (by omega)]
    simp only [nextP, List.foldl_cons, List.foldl_nil, nxF]
    rw [if_pos (by omega)]
theorem back_there (h : BkOk budget now period most) {n : Nat} (hn : (n : Int) = budget) : thereV (backL budget now period n) (now + period - 1) = 0 ∧ thereV (backL budget now period n) (now + period) = budget := by
  have hp := h.p
  have hb2 := h.b2
  obtain ⟨a1, a2, a3⟩ := backL_ok h (i := n) (by omega)
  rw [thereV_eq _ a1, thereV_eq _ a1]
  by_cases h0 : n = 0
  · have hb : budget = 0 := by omega
    subst hb
    rw [backL_zero]
    simp [totTo]
  · rw [backL_end hn h0]
    simp only [totTo]
    rw [if_pos (show now + period - 1 < now + period by omega), if_neg (show ¬ (now + period < now + period) by omega)]
    refine ⟨by simp, ?_⟩
    rw [if_neg (by omega)]
    omega
end
end Go.Proofs.Ytcchfdoeacgapaa.Fi
