/-
  Law 10: QuotaHolds: counting along a chain; Get as it is used there. No statement is proved here.
-/
import Derived.Test.YtfioghpnehfjhaaQy3
namespace Go.Proofs.Ytfioghpnehfjhaa.Dm
open Go.RowKit Ad
set_option linter.unusedVariables false

/-- Behind n of a chain, at place i. -/
def hitU (c : List Nat) (n i : Nat) (u : Nat → Int) : Nat → Int := fun j => if j < i then chU c u j else if j = i ∧ i ∈ c.take n then u i + 1 else u j
theorem hitU_0 (c : List Nat) (i : Nat) (u : Nat → Int) (m : Nat) : usL (hitU c 0 i u) m = usL (mixU i (chU c u) u) m := usL_eq fun j _ => by simp [hitU, mixU]
theorem hitU_len {c : List Nat} {u : Nat → Int} (h : ∀ j, chU c u j = if j ∈ c then u j + 1 else u j) (i m : Nat) : usL (hitU c c.length i u) m = usL (mixU (i + 1) (chU c u) u) m := usL_eq fun j _ => by
  unfold hitU mixU
  rw [List.take_length]
  by_cases h1 : j < i
  · rw [if_pos h1, if_pos (by omega)]
  · rw [if_neg h1]
    by_cases h2 : j = i
    · subst h2
      rw [if_pos (by omega : j < j + 1), h j]
      by_cases h3 : j ∈ c <;> simp [h3]
    · rw [if_neg (by omega : ¬ j < i + 1), if_neg (fun h => h2 h.1)]
theorem hitU_ne {c : List Nat} {n i x : Nat} (hn : c[n]? = some x) (hx : x ≠ i) (u : Nat → Int) (m : Nat) : usL (hitU c n i u) m = usL (hitU c (n + 1) i u) m := usL_eq fun j _ => by
  unfold hitU
  rw [List.take_add_one, hn]
  have : i ≠ x := fun e => hx e.symm
  simp [this]
theorem hitU_at {c : List Nat} {n i m : Nat} (hc : c.Nodup) (hn : c[n]? = some i) (him : i < m) (u : Nat → Int) : (usL (hitU c n i u) m)[i]? = some (vu (u i)) := by
  rw [usL_at him]
  have : i ∉ c.take n := fun h => by
    have h1 : c = c.take n ++ c.drop n := (List.take_append_drop n c).symm
    rw [h1] at hc
    have h2 : i ∈ c.drop n := by
      have : (c.drop n)[0]? = some i := by rw [List.getElem?_drop]; simpa using hn
      exact List.mem_of_getElem? this
    exact (List.nodup_append.1 hc).2.2 i h i h2 rfl
  unfold hitU
  rw [if_neg (by omega), if_neg (fun h => this h.2)]
theorem hitU_set {c : List Nat} {n i m : Nat} (hn : c[n]? = some i) (him : i < m) (u : Nat → Int) : (usL (hitU c n i u) m).set i (vu (u i + 1)) = usL (hitU c (n + 1) i u) m := by
  rw [usL_set him]
  refine usL_eq fun j _ => ?_
  unfold hitU
  have hm : i ∈ c.take (n + 1) := by
    rw [List.take_add_one, hn]
    simp
  by_cases h1 : j = i
  · subst h1
    rw [if_pos rfl, if_neg (by omega), if_pos ⟨rfl, hm⟩]
  · rw [if_neg h1]
    by_cases h2 : j < i
    · rw [if_pos h2, if_pos h2]
    · rw [if_neg h2, if_neg h2, if_neg (fun h => h1 h.1), if_neg (fun h => h1 h.1)]
section
variable {w0 w : World} {F : Hp} {d p : Nat} {ps : List Pl} {m : Nat} {fr : List Nat}
theorem w_get2 (h : DInv ps m) (u : Nat → Int) {k : Nat} (hk : k < m) (hS : Sat w0 (domB d p * (tblP p (wu ps u) fr * F)) w) :
    ∃ v0 v1 v2 v3 v4 v5 v6 v7 v8 v10 : Int, v3 = (getX ps k 1).v3 ∧ v4 = (getX ps k 1).v4 ∧ (1 ≤ v4 ∧ v4 ≤ 4294967296) ∧ (0 ≤ v3 ∧ v3 ≤ 4294967296) ∧
      Calls Try.prog 16 #[vp d, vr k 1] w fun e w' => e = .returned (.tuple #[ev ⟨v0, v1, v2, v3, v4, v5, v6, v7, v8, u k, v10⟩, vi 0]) ∧ Sat w0 (domB d p * (tblP p (wu ps u) fr * F)) w' := by
  have h1 := w_get h u hk hS
  have h3 := h.v3_le hk
  obtain ⟨a, ha, ht, hg, _, _, h4, h5, _⟩ := h.here k hk
  have hx : getX ps k 1 = a.x := (getE_here ha ht hg).2
  rw [hx] at h1 h3
  refine ⟨a.x.v0, a.x.v1, a.x.v2, a.x.v3, a.x.v4, a.x.v5, a.x.v6, a.x.v7, a.x.v8, a.x.v10, by rw [hx], by rw [hx], ⟨h4, h5⟩, ⟨h3.2, h3.1⟩, h1⟩
/-- One of the times. -/
theorem a_time {ao : Option Addr} {cap n : Nat} {A : Nat → Value} (h : ArgS w0 1 (fun _ => IsInts w0 .i64) (.slice ao n cap) n A) {k : Nat} (hk : k < n) :
    ∃ b off, ao = some ⟨b, off, none⟩ ∧ ∃ (ao3 : Option Addr) (n3 cap3 : Nat) (B : Nat → Int), (n3 = 0 ∨ ∃ b3 off3, ao3 = some ⟨b3, off3, none⟩ ∧ ∀ (w : World) (F : Hp), Sat w0 F w → ∀ j, j < n3 → w.cell? ⟨b3, off3 + j, none⟩ = some (vi (B j))) ∧ n3 ≤ maxLen ∧
      ∀ (w : World) (F : Hp), Sat w0 F w → w.cell? ⟨b, off + k, none⟩ = some (.slice ao3 n3 cap3) := by
  obtain ⟨n3, B, hB⟩ := h.each k hk 0 (by omega)
  rcases h.form with ⟨h0, _⟩ | ⟨b, off, c, hv, hb, hc⟩
  · omega
  · cases hv
    refine ⟨b, off, rfl, ?_⟩
    have hk2 : k * 1 + 0 = k := by omega
    rw [hk2] at hB
    rcases hB.form with ⟨h0, ao3, cap3, hv⟩ | ⟨b3, off3, cap3, hv, hb3, hc3⟩
    · refine ⟨ao3, 0, cap3, B, .inl rfl, by unfold maxLen; omega, fun w F hS => ?_⟩
      rw [hS.old (by exact hb), hc k (by omega), hv]
    · refine ⟨some ⟨b3, off3, none⟩, n3, cap3, B, .inr ⟨b3, off3, rfl, fun w F hS j hj => ?_⟩, hB.small, fun w F hS => ?_⟩
      · rw [hS.old (by exact hb3), hc3 j (by omega)]
      · rw [hS.old (by exact hb), hc k (by omega), hv]
end
end Go.Proofs.Ytfioghpnehfjhaa.Dm
