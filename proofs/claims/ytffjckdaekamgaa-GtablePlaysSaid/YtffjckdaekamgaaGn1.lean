/-
  Chapter 16: each act, of both; what is kept. No statement is proved here.
-/
import Derived.Test.YtffjckdaekamgaaGt7
import Derived.Test.YtffjckdaekamgaaGt8
import Derived.Test.YtffjckdaekamgaaGt3m
import Derived.Test.YtffjckdaekamgaaGt3n
import Derived.Test.YtffjckdaekamgaaRt5
import Derived.Test.YtffjckdaekamgaaRt6
namespace Go.Proofs.Ytffjckdaekamgaa.Gt
open Go.RowKit Ag
set_option linter.unusedVariables false

/-- What is kept. -/
structure Inv (n T : Nat) (ps : List Pl) (free : List Nat) : Prop where
  len : ps.length = n
  small : n ≤ 64
  gens : ∀ (k : Nat) (a : Pl), ps[k]? = some a → 1 ≤ a.gen ∧ a.gen ≤ (T : Int) + 1
  may : ∀ (k : Nat) (a : Pl), ps[k]? = some a → a.there = true → mayP a.x ∧ 0 ≤ a.x.v18
  gone : ∀ (k : Nat) (a : Pl), ps[k]? = some a → a.there = false → a.x = ez
  mem : ∀ k : Nat, k ∈ free → ∃ a : Pl, ps[k]? = some a ∧ a.there = false
  nodup : free.Nodup
theorem nodup_le : ∀ (n : Nat) (c : List Nat), c.Nodup → (∀ j ∈ c, j < n) → c.length ≤ n
  | 0, c, _, h => by
    cases c with
    | nil => simp
    | cons x l => exact absurd (h x List.mem_cons_self) (by omega)
  | n + 1, c, hn, h => by
    have h1 := nodup_le n (c.erase n) (hn.erase n) fun j hj => by
      have h2 := (hn.mem_erase_iff).1 hj
      have h3 := h j h2.2
      have : j ≠ n := h2.1
      omega
    have h4 : c.length ≤ (c.erase n).length + 1 := by
      by_cases hm : n ∈ c
      · rw [List.length_erase_of_mem hm]
        omega
      · rw [List.erase_of_not_mem hm]
        omega
    omega
section
variable {n T : Nat} {ps : List Pl} {free : List Nat}
theorem Inv.lt (h : Inv n T ps free) {k : Nat} {a : Pl} (hk : ps[k]? = some a) : k < n := by
  rw [← h.len]
  exact (List.getElem?_eq_some_iff.1 hk).1
theorem Inv.fl (h : Inv n T ps free) : free.length ≤ 64 := by
  have h1 := nodup_le n free h.nodup fun j hj => by
    obtain ⟨a, ha, _⟩ := h.mem j hj
    exact h.lt ha
  have := h.small
  omega
theorem Inv.mono (h : Inv n T ps free) {T' : Nat} (ht : T ≤ T') : Inv n T' ps free :=
  { h with gens := fun k a hk => by have := h.gens k a hk; omega }
theorem Inv.new (n : Nat) (hn : n ≤ 64) : Inv n 0 (List.replicate n ⟨1, false, false, ez⟩) (newF n n) := by
  have hr : ∀ (k : Nat) (a : Pl), (List.replicate n (⟨1, false, false, ez⟩ : Pl))[k]? = some a → a = ⟨1, false, false, ez⟩ := fun k a hk => by
    rw [List.getElem?_replicate] at hk
    split at hk
    · exact (Option.some.inj hk).symm
    · cases hk
  refine ⟨by simp, hn, ?_, ?_, ?_, ?_, ?_⟩
  · intro k a hk
    rw [hr k a hk]
    exact ⟨by simp, by simp⟩
  · intro k a hk ht
    rw [hr k a hk] at ht
    cases ht
  · intro k a hk ht
    rw [hr k a hk]
  · intro k hk
    unfold newF at hk
    obtain ⟨j, hj, rfl⟩ := List.mem_map.1 hk
    rw [List.mem_range] at hj
    refine ⟨⟨1, false, false, ez⟩, ?_, rfl⟩
    rw [List.getElem?_replicate, if_pos (by omega)]
  · unfold newF
    refine List.pairwise_map.2 (List.Pairwise.imp_of_mem (fun {x y} hx hy hlt => ?_) List.pairwise_lt_range)
    rw [List.mem_range] at hx hy
    omega
theorem Inv.make {k : Nat} (h : Inv n T ps (free ++ [k])) {a : Pl} (hk : ps[k]? = some a) {x : El} (hx : mayP x) (h0 : 0 ≤ x.v18) : Inv n (T + 1) (ps.set k { a with there := true, x := x }) free := by
  have hnd := List.nodup_append.1 h.nodup
  refine ⟨by rw [List.length_set]; exact h.len, h.small, ?_, ?_, ?_, ?_, hnd.1⟩
  · intro j b hj
    rcases get_set hk _ j b hj with ⟨rfl, rfl⟩ | ⟨_, hb⟩
    · have := h.gens _ _ hk
      dsimp only
      omega
    · have := h.gens _ _ hb
      omega
  · intro j b hj ht
    rcases get_set hk _ j b hj with ⟨rfl, rfl⟩ | ⟨_, hb⟩
    · exact ⟨hx, h0⟩
    · exact h.may _ _ hb ht
  · intro j b hj ht
    rcases get_set hk _ j b hj with ⟨rfl, rfl⟩ | ⟨_, hb⟩
    · cases ht
    · exact h.gone _ _ hb ht
  · intro j hj
    obtain ⟨b, hb, ht⟩ := h.mem j (List.mem_append_left _ hj)
    have hjk : j ≠ k := fun e => hnd.2.2 j hj k List.mem_cons_self e
    exact ⟨b, by rw [List.getElem?_set_ne (by omega)]; exact hb, ht⟩
theorem Inv.setx (h : Inv n T ps free) {k : Nat} {a : Pl} (hk : ps[k]? = some a) (ha : a.there = true) {x : El} (hx : mayP x) (h0 : 0 ≤ x.v18) : Inv n (T + 1) (ps.set k { a with x := x }) free := by
  refine ⟨by rw [List.length_set]; exact h.len, h.small, ?_, ?_, ?_, ?_, h.nodup⟩
  · intro j b hj
    rcases get_set hk _ j b hj with ⟨rfl, rfl⟩ | ⟨_, hb⟩
    · have := h.gens _ _ hk
      dsimp only
      omega
    · have := h.gens _ _ hb
      omega
  · intro j b hj ht
    rcases get_set hk _ j b hj with ⟨rfl, rfl⟩ | ⟨_, hb⟩
    · exact ⟨hx, h0⟩
    · exact h.may _ _ hb ht
  · intro j b hj ht
    rcases get_set hk _ j b hj with ⟨rfl, rfl⟩ | ⟨_, hb⟩
    · exact absurd (ht.symm.trans ha) (by simp)
    · exact h.gone _ _ hb ht
  · intro j hj
    obtain ⟨b, hb, ht⟩ := h.mem j hj
    have hjk : j ≠ k := fun e => by
      subst e
      rw [hk] at hb
      injection hb with e2
      rw [e2] at ha
      exact absurd (ht.symm.trans ha) (by simp)
    exact ⟨b, by rw [List.getElem?_set_ne (by omega)]; exact hb, ht⟩
theorem Inv.drop (h : Inv n T ps free) {k : Nat} {a : Pl} (hk : ps[k]? = some a) (ha : a.there = true) : Inv n (T + 1) (ps.set k { a with gen := a.gen + 1, there := false, x := ez }) (free ++ [k]) := by
  have hkf : k ∉ free := fun hm => by
    obtain ⟨b, hb, ht⟩ := h.mem k hm
    rw [hk] at hb
    injection hb with e2
    rw [e2] at ha
    exact absurd (ht.symm.trans ha) (by simp)
  refine ⟨by rw [List.length_set]; exact h.len, h.small, ?_, ?_, ?_, ?_, ?_⟩
  · intro j b hj
    rcases get_set hk _ j b hj with ⟨rfl, rfl⟩ | ⟨_, hb⟩
    · have := h.gens _ _ hk
      dsimp only
      omega
    · have := h.gens _ _ hb
      omega
  · intro j b hj ht
    rcases get_set hk _ j b hj with ⟨rfl, rfl⟩ | ⟨_, hb⟩
    · cases ht
    · exact h.may _ _ hb ht
  · intro j b hj ht
    rcases get_set hk _ j b hj with ⟨rfl, rfl⟩ | ⟨_, hb⟩
    · rfl
    · exact h.gone _ _ hb ht
  · intro j hj
    by_cases hjk : j = k
    · subst hjk
      exact ⟨_, get_set_self hk _, rfl⟩
    · rcases List.mem_append.1 hj with hj | hj
      · obtain ⟨b, hb, ht⟩ := h.mem j hj
        exact ⟨b, by rw [List.getElem?_set_ne (by omega)]; exact hb, ht⟩
      · exact absurd (List.mem_singleton.1 hj) hjk
  · refine List.nodup_append.2 ⟨h.nodup, by simp, ?_⟩
    intro x hx y hy e
    rw [List.mem_singleton.1 hy] at e
    rw [e] at hx
    exact hkf hx
theorem may_turn {x : El} {to : Int} (hx : mayP x) (ht : turnB x.v0 to = true) : mayP (turnX x to) ∧ 0 ≤ (turnX x to).v18 := by
  have h1 := (trn_iff x.v0 to).1 (of_decide_eq_true ht)
  unfold mayP at hx ⊢
  unfold turnX
  dsimp only
  refine ⟨⟨by omega, by omega, by omega, by omega, by omega, by omega, ?_, ?_⟩, by omega⟩
  · intro h5
    rw [if_pos h5]
  · intro h12
    rw [if_neg (by omega), if_pos h12]
end
end Go.Proofs.Ytffjckdaekamgaa.Gt
