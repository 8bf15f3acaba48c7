/-
  Law 10: what Reset leaves: for the plain law of QuotaHolds. No statement is proved here.
-/
import Derived.Test.YtfioghpnehfjhaaQx1
namespace Go.Proofs.Ytfioghpnehfjhaa.Dm
open Go.RowKit Ad
set_option linter.unusedVariables false

section
variable {ps : List Pl} {m : Nat}
theorem DInv.clr_wu (h : DInv ps m) (u : Nat → Int) {k : Nat} (hk : k < m) : clrP (wu ps u) (rf k) = wu ps (fun j => if j = k then 0 else u j) := by
  have hX := h.getX_wu u hk
  obtain ⟨a, ha, ht, hg, _⟩ := h.here k hk
  unfold clrP rf
  simp only
  rw [hX]
  unfold setP
  rw [isAt_wu, isAt_here ha ht hg]
  simp only [Option.map_some]
  refine List.ext_getElem? fun j => ?_
  rw [wu_at]
  by_cases hj : j = k
  · subst hj
    rw [List.getElem?_set_self (by rw [wu_len]; exact (List.getElem?_eq_some_iff.1 ha).1), ha, if_pos rfl]
    have : getX ps j 1 = a.x := (getE_here ha ht hg).2
    rw [this]
    simp
  · rw [List.getElem?_set_ne (by omega), wu_at]
    simp only [if_neg hj]
theorem DInv.reset_wu (h : DInv ps m) : ∀ (c : List Nat) (u : Nat → Int), (∀ j ∈ c, j < m) → resetP (wu ps u) (c.map rf) = wu ps (fun j => if j ∈ c then 0 else u j)
  | [], u, _ => by simp [resetP]
  | k :: c, u, hc => by
    show resetP (clrP (wu ps u) (rf k)) (c.map rf) = _
    rw [h.clr_wu u (hc k (by simp)), DInv.reset_wu h c _ fun j hj => hc j (by simp [hj])]
    congr 1
    funext j
    by_cases h1 : j ∈ c
    · simp [h1]
    · by_cases h2 : j = k <;> simp [h1, h2]
/-- Which periods begin at n. -/
def bgF (ps : List Pl) (n : Int) (k : Nat) : Bool := decide (n.tmod (getX ps k 1).v4 = 0)
theorem rsL_app (n : Int) (l l' : List (Nat × Int × El)) : rsL n (l ++ l') = rsL n l ++ rsL n l' := by simp [rsL]
theorem DInv.rsL_low (h : DInv ps m) (u : Nat → Int) (n : Int) : ∀ k, k ≤ m → rsL n (seen (wu ps u) k) = ((List.range k).filter (bgF ps n)).map rf
  | 0, _ => rfl
  | k + 1, hk => by
    obtain ⟨a, ha, ht, hg, _⟩ := h.here k (by omega)
    have hx : getX ps k 1 = a.x := (getE_here ha ht hg).2
    have hw : (wu ps u)[k]? = some { a with x := { a.x with v9 := u k } } := by rw [wu_at, ha]; rfl
    rw [seen_yes hw ht, rsL_app, DInv.rsL_low h u n k (by omega), List.range_succ, List.filter_append, List.map_append]
    congr 1
    by_cases hz : n.tmod a.x.v4 = 0
    · simp [rsL, rsF, bgF, hx, hz, rf, hg]
    · simp [rsL, rsF, bgF, hx, hz]
theorem DInv.seen_high (h : DInv ps m) (u : Nat → Int) : ∀ d, m + d ≤ 32 → seen (wu ps u) (m + d) = seen (wu ps u) m
  | 0, _ => rfl
  | d + 1, hd => by
    have hf := h.free (m + d) (by omega) (by omega)
    have hw : (wu ps u)[m + d]? = some ⟨1, false, false, { ez with v9 := u (m + d) }⟩ := by rw [wu_at, hf]; rfl
    show seen (wu ps u) (m + d + 1) = _
    rw [seen_no hw rfl, DInv.seen_high h u d (by omega)]
theorem DInv.rsL_wu (h : DInv ps m) (u : Nat → Int) (n : Int) : rsL n (seen (wu ps u) (wu ps u).length) = ((List.range m).filter (bgF ps n)).map rf := by
  have e : (wu ps u).length = m + (32 - m) := by rw [wu_len, h.len]; have := h.le; omega
  rw [e, h.seen_high u _ (by have := h.le; omega), h.rsL_low u n m (Nat.le_refl _)]
def rsU (ps : List Pl) (m : Nat) (n : Int) (u : Nat → Int) : Nat → Int := fun j => if j ∈ (List.range m).filter (bgF ps n) then 0 else u j
theorem DInv.reset_all (h : DInv ps m) (u : Nat → Int) (n : Int) : resetP (wu ps u) (rsL n (seen (wu ps u) (wu ps u).length)) = wu ps (rsU ps m n u) := by
  rw [h.rsL_wu u n, h.reset_wu _ u fun j hj => List.mem_range.1 (List.mem_filter.1 hj).1]
  rfl
theorem rsU_at {k : Nat} (hk : k < m) (n : Int) (u : Nat → Int) : rsU ps m n u k = if n.tmod (getX ps k 1).v4 = 0 then 0 else u k := by
  unfold rsU
  simp [List.mem_filter, List.mem_range, hk, bgF]
/-- No domain is used above its CPU. -/
def HoldOk (ps : List Pl) (m : Nat) (u : Nat → Int) : Prop := (∀ k, U64 (u k)) ∧ ∀ k, k < m → u k ≤ (getX ps k 1).v3
theorem HoldOk.zero (h : DInv ps m) : HoldOk ps m fun _ => 0 := ⟨fun _ => (show U64 0 from ⟨by decide, by decide⟩), fun k hk => (h.v3_le hk).2⟩
theorem HoldOk.reset {u : Nat → Int} (h : DInv ps m) (hu : HoldOk ps m u) (n : Int) : HoldOk ps m (rsU ps m n u) := by
  refine ⟨fun k => ?_, fun k hk => ?_⟩
  · unfold rsU
    split
    · exact ⟨by decide, by decide⟩
    · exact hu.1 k
  · rw [rsU_at hk]
    split
    · exact (h.v3_le hk).2
    · exact hu.2 k hk
theorem HoldOk.charge {u : Nat → Int} (h : DInv ps m) {cn : Nat → List Nat} (hc : CnOk ps m cn) (hu : HoldOk ps m u) {r : Nat} (hr : r < m) (hp : 0 < lf ps u (cn r)) : HoldOk ps m (chU (cn r) u) ∧ ∀ j, chU (cn r) u j = if j ∈ cn r then u j + 1 else u j := by
  have hne : cn r ≠ [] := fun e => by
    have := hc.self r hr
    rw [e] at this
    cases this
  have hpos := lf_pos ps hp hne
  have hstep : ∀ j, chU (cn r) u j = if j ∈ cn r then u j + 1 else u j := fun j => by
    unfold chU
    split
    · rename_i hj
      have h1 := hpos j hj
      have h2 := h.v3_le (hc.lt hr j hj)
      unfold addS addP
      rw [if_neg (by omega)]
      rfl
    · rfl
  refine ⟨⟨chU_u64 hu.1, fun k hk => ?_⟩, hstep⟩
  rw [hstep]
  split
  · rename_i hj
    have h1 := hpos k hj
    omega
  · exact hu.2 k hk
end
end Go.Proofs.Ytfioghpnehfjhaa.Dm
