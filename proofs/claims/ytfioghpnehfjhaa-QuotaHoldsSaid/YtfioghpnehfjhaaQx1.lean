/-
  Law 10: when periods begin: the plain law of QuotaNext. No statement is proved here.
-/
import Derived.Test.YtfioghpnehfjhaaDl6
import Derived.Test.YtfioghpnehfjhaaQp3
namespace Go.Proofs.Ytfioghpnehfjhaa.Dm
open Go.RowKit Ad
set_option linter.unusedVariables false

theorem nx_zero {n v : Int} (hn : 0 ≤ n) (hv : 1 ≤ v) : (n + (v - n.tmod v)).tmod v = 0 ∧ n < n + (v - n.tmod v) := by
  rw [Int.tmod_eq_emod_of_nonneg hn]
  have h1 := Int.emod_lt_of_pos n (show 0 < v by omega)
  have h0 := Int.emod_nonneg n (show v ≠ 0 by omega)
  have h2 := Int.mul_ediv_add_emod n v
  rw [Int.tmod_eq_emod_of_nonneg (by omega)]
  refine ⟨?_, by omega⟩
  have h3 : n + (v - n % v) = v * (n / v + 1) := by rw [Int.mul_add, Int.mul_one]; omega
  rw [h3]
  exact Int.mul_emod_right v _
theorem nx_least {n v b : Int} (hn : 0 ≤ n) (hv : 1 ≤ v) (h1 : n < b) (h2 : b < n + (v - n.tmod v)) : ¬ b.tmod v = 0 := by
  intro h
  rw [Int.tmod_eq_emod_of_nonneg (by omega)] at h
  rw [Int.tmod_eq_emod_of_nonneg hn] at h2
  have e1 := Int.mul_ediv_add_emod n v
  have e2 := Int.mul_ediv_add_emod b v
  have h0 := Int.emod_nonneg n (show v ≠ 0 by omega)
  have h3 : v * (b / v) < v * (n / v + 1) := by rw [Int.mul_add, Int.mul_one]; omega
  have h4 : b / v < n / v + 1 := Int.lt_of_mul_lt_mul_left h3 (by omega)
  have h5 : v * (b / v) ≤ v * (n / v) := Int.mul_le_mul_of_nonneg_left (by omega) (by omega)
  omega
theorem seen_mem {ps : List Pl} {k : Nat} {x : Nat × Int × El} : x ∈ seen ps k ↔ ∃ a, x.1 < k ∧ ps[x.1]? = some a ∧ a.there = true ∧ x = (x.1, a.gen, a.x) := by
  unfold seen
  rw [List.mem_filterMap]
  constructor
  · rintro ⟨i, hi, h⟩
    rw [List.mem_range] at hi
    unfold seenO at h
    cases ha : ps[i]? with
    | none => rw [ha] at h; cases h
    | some a =>
      rw [ha] at h
      dsimp only at h
      by_cases ht : a.there = true
      · rw [if_pos ht] at h
        cases h
        exact ⟨a, hi, ha, ht, rfl⟩
      · rw [if_neg ht] at h
        cases h
  · rintro ⟨a, hk, ha, ht, hx⟩
    refine ⟨x.1, List.mem_range.2 hk, ?_⟩
    unfold seenO
    rw [ha]
    dsimp only
    rw [if_pos ht, ← hx]
/-- What QuotaNext shows. -/
structure NextOk (n : Int) (l : List (Nat × Int × El)) (M : Int) : Prop where
  more : n < M
  some_ : (rsL M l).length ≠ 0
  none_ : ∀ b, n < b → b < M → rsL b l = []
theorem nextOk {n : Int} (hn : 0 ≤ n) {l : List (Nat × Int × El)} (hl : l ≠ []) (hper : ∀ x ∈ l, 1 ≤ x.2.2.v4) : NextOk n l (minP (l.map (nxt n))) := by
  obtain ⟨h1, h2⟩ := minP_spec (l.map (nxt n)) (by simpa using hl)
  obtain ⟨x, hx, hm⟩ := List.mem_map.1 h1
  rw [← hm]
  rw [← hm] at h2
  have hz := nx_zero hn (hper x hx)
  refine ⟨hz.2, fun h => ?_, fun b hb1 hb2 => ?_⟩
  · have : ((x.1 : Int), x.2.1) ∈ rsL (nxt n x) l := by
      unfold rsL
      refine List.mem_map.2 ⟨x, List.mem_filter.2 ⟨hx, ?_⟩, rfl⟩
      exact decide_eq_true hz.1
    rw [List.length_eq_zero_iff.1 h] at this
    cases this
  · unfold rsL
    rw [List.map_eq_nil_iff, List.filter_eq_nil_iff]
    intro y hy hf
    have hy2 := h2 _ (List.mem_map.2 ⟨y, hy, rfl⟩)
    exact nx_least hn (hper y hy) hb1 (by unfold nxt at hy2 hb2; unfold nxt at *; omega) (of_decide_eq_true hf)
theorem DInv.seen_per {ps : List Pl} {m : Nat} (h : DInv ps m) : ∀ x ∈ seen ps ps.length, 1 ≤ x.2.2.v4 ∧ x.2.2.v4 ≤ 4294967296 := by
  intro x hx
  obtain ⟨a, hk, ha, ht, hx⟩ := seen_mem.1 hx
  rw [hx]
  by_cases hm : x.1 < m
  · obtain ⟨b, hb, _, _, _, _, h4, h5, _⟩ := h.here x.1 hm
    rw [ha] at hb
    cases hb
    exact ⟨h4, h5⟩
  · have := h.free x.1 (by omega) (by rw [← h.len]; exact hk)
    rw [ha] at this
    cases this
    cases ht
theorem DInv.seen_ne {ps : List Pl} {m : Nat} (h : DInv ps m) : seen ps ps.length ≠ [] := by
  obtain ⟨a, ha, ht, _⟩ := h.here 0 (by have := h.pos; omega)
  intro e
  have : (0, a.gen, a.x) ∈ seen ps ps.length := seen_mem.2 ⟨a, by rw [h.len]; exact (show (0 : Nat) < 32 by omega), ha, ht, rfl⟩
  rw [e] at this
  cases this
end Go.Proofs.Ytfioghpnehfjhaa.Dm
