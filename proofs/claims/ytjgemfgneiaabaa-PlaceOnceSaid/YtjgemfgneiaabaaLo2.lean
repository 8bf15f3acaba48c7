/-
  Chapter 19: who is there, counted, in plain words (for PlaceOnce). No statement is proved here.
-/
import Derived.Test.YtjgemfgneiaabaaLo1
import Derived.Test.YtjgemfgneiaabaaPm10
namespace Go.Proofs.Ytjgemfgneiaabaa.Pc
open Go.RowKit Rq Gq
set_option linter.unusedVariables false
set_option linter.unusedSimpArgs false

theorem some_count {g : Int} {ru : Bool} {k : Int} (hk : 0 ≤ k) : b2n (someV g ru == k) = (if ru then [g] else []).count k := by
  cases ru with
  | true =>
    show b2n (g == k) = [g].count k
    rw [List.count_singleton]
    rfl
  | false =>
    show b2n (-1 == k) = 0
    have : ((-1 : Int) == k) = false := by
      rw [beq_eq_false_iff_ne]
      omega
    rw [this]
    rfl
theorem allQ_count {xs : List Int} {z : Int} {b : Bool} {k : Int} : (allQ xs z b).count k = (if b then [z] else []).count k + xs.count k := by
  cases b with
  | true =>
    show (z :: xs).count k = [z].count k + xs.count k
    rw [List.count_cons, List.count_singleton, Nat.add_comm]
  | false =>
    show xs.count k = 0 + xs.count k
    rw [Nat.zero_add]
theorem all1_count (y : Pl) {k : Int} (hk : 0 ≤ k) : (all1 y).count k = cnt1 y k := by
  unfold all1 cnt1
  rw [List.count_append, allQ_count, some_count hk, some_count hk, Nat.add_assoc]
theorem cntJ_count (p : Nat → Pl) {k : Int} (hk : 0 ≤ k) : ∀ n, ((List.range n).flatMap fun i => all1 (p i)).count k = cntJ p k n
  | 0 => rfl
  | n + 1 => by
    rw [List.range_succ, List.flatMap_append, List.count_append, cntJ_count p hk n]
    simp [cntJ, all1_count _ hk]
theorem cntV_count (p : Nat → Pl) (n : Nat) (gx : List Int) {k : Int} (hk : 0 ≤ k) : cntV p n gx k = (allP p n gx).count k := by
  unfold cntV allP
  rw [List.count_append, cntJ_count p hk]
theorem ind_count {l : List Int} (hn : l.Nodup) (k : Nat) : ((l.count (k : Int) : Nat) : Int) = ind l k := by
  unfold ind
  rw [hn.count]
  split <;> rfl
theorem mem_all {p : Nat → Pl} {n : Nat} {gx : List Int} {g : Int} : g ∈ allP p n gx ↔ (∃ k, k < n ∧ ((p k).runs = true ∧ (p k).g = g ∨ g ∈ allQ (p k).xs (p k).z (p k).b)) ∨ g ∈ gx := by
  unfold allP all1
  simp only [List.mem_append, List.mem_flatMap, List.mem_range]
  constructor
  · rintro (⟨k, hk, h | h⟩ | h)
    · refine .inl ⟨k, hk, .inl ?_⟩
      cases hr : (p k).runs with
      | true => rw [hr, if_pos rfl] at h; exact ⟨rfl, (List.mem_singleton.1 h).symm⟩
      | false => rw [hr] at h; simp at h
    · exact .inl ⟨k, hk, .inr h⟩
    · exact .inr h
  · rintro (⟨k, hk, ⟨h1, h2⟩ | h⟩ | h)
    · exact .inl ⟨k, hk, .inl (by rw [h1, ← h2]; simp)⟩
    · exact .inl ⟨k, hk, .inr h⟩
    · exact .inr h
theorem whJ_none {p : Nat → Pl} {n : Nat} {g : Int} {j : Nat} (h : whJ p n g j = none) : ∀ k, k < n → look p g j k = false := fun k hk => by
  have := List.find?_eq_none.1 h k (List.mem_range.2 hk)
  simpa using this
theorem whJ_some {p : Nat → Pl} {n : Nat} {g : Int} {j k : Nat} (h : whJ p n g j = some k) : k < n ∧ look p g j k = true :=
  ⟨List.mem_range.1 (List.mem_of_find?_eq_some h), List.find?_some h⟩
/-- Where answers a place for just those who are anywhere. -/
theorem where_mem (p : Nat → Pl) (n : Nat) (gx : List Int) (g : Int) : ((whereV p n gx g).1 ≠ 0) ↔ g ∈ allP p n gx := by
  unfold whereV
  rw [mem_all]
  cases h0 : whJ p n g 0 with
  | some k =>
    obtain ⟨hk, hl⟩ := whJ_some h0
    have hl : ((p k).runs && (p k).g == g) = true := hl
    simp only [Bool.and_eq_true, beq_iff_eq] at hl
    exact ⟨fun _ => .inl ⟨k, hk, .inl hl⟩, fun _ => by simp⟩
  | none =>
    cases h1 : whJ p n g 1 with
    | some k =>
      obtain ⟨hk, hl⟩ := whJ_some h1
      have hl : ((p k).b && (p k).z == g) = true := hl
      simp only [Bool.and_eq_true, beq_iff_eq] at hl
      refine ⟨fun _ => .inl ⟨k, hk, .inr ?_⟩, fun _ => by simp⟩
      rw [← hasQ_mem]
      unfold hasQ
      simp [hl]
    | none =>
      cases h2 : whJ p n g 2 with
      | some k =>
        obtain ⟨hk, hl⟩ := whJ_some h2
        have hl : hasQ (p k).xs (p k).z (p k).b g = true := hl
        exact ⟨fun _ => .inl ⟨k, hk, .inr (hasQ_mem.1 hl)⟩, fun _ => by simp⟩
      | none =>
        have n0 := whJ_none h0
        have n2 := whJ_none h2
        by_cases hg : g ∈ gx
        · simp [hg]
        · simp only [hg, if_false, or_false]
          refine ⟨fun h => absurd rfl h, ?_⟩
          rintro ⟨k, hk, ⟨h1, h2⟩ | h⟩
          · have := n0 k hk
            have e : look p g 0 k = ((p k).runs && (p k).g == g) := rfl
            rw [e, h1, h2] at this
            simp at this
          · have := n2 k hk
            have e : look p g 2 k = hasQ (p k).xs (p k).z (p k).b g := rfl
            rw [e, hasQ_mem.2 h] at this
            cases this
/-- Who is there, as the statement keeps it: N cells, 1 or 0. -/
def thN (N : Nat) (l : List Int) : List Int := (List.range N).map (ind l)
theorem thN_len (N : Nat) (l : List Int) : (thN N l).length = N := by simp [thN]
theorem thN_at {N : Nat} (l : List Int) {g : Nat} (hg : g < N) : (thN N l)[g]? = some (ind l g) := by
  unfold thN
  rw [List.getElem?_map, List.getElem?_range hg]
  rfl
theorem thN_congr {N : Nat} {l l' : List Int} (h : ∀ x, x ∈ l ↔ x ∈ l') : thN N l = thN N l' := by
  unfold thN
  exact List.map_congr_left fun g _ => ind_congr h g
theorem thN_set {N : Nat} {l l' : List Int} {x : Nat} (h : ∀ y, y ∈ l ↔ y = (x : Int) ∨ y ∈ l') : thN N l = (thN N l').set x 1 := by
  apply List.ext_getElem?
  intro i
  rw [List.getElem?_set]
  by_cases hi : i < N
  · rw [thN_at _ hi, thN_at _ hi, thN_len]
    by_cases hx : x = i
    · subst hx
      rw [if_pos rfl, if_pos hi]
      unfold ind
      rw [if_pos ((h _).2 (.inl rfl))]
    · rw [if_neg hx]
      unfold ind
      congr 1
      have : ((i : Int) ∈ l) ↔ ((i : Int) ∈ l') := by
        rw [h]
        constructor
        · rintro (h1 | h1)
          · exact absurd (by omega) hx
          · exact h1
        · exact .inr
      simp only [this]
  · rw [List.getElem?_eq_none (by rw [thN_len]; omega), List.getElem?_eq_none (by rw [thN_len]; omega), thN_len]
    split
    · split
      · omega
      · rfl
    · rfl
theorem thN_clr {N : Nat} {l l' : List Int} {x : Nat} (h : ∀ y, y ∈ l ↔ y = (x : Int) ∨ y ∈ l') (hx : (x : Int) ∉ l') : thN N l' = (thN N l).set x 0 := by
  rw [thN_set h, List.set_set]
  apply List.ext_getElem?
  intro i
  rw [List.getElem?_set]
  by_cases hi : i < N
  · rw [thN_at _ hi, thN_len]
    by_cases he : x = i
    · subst he
      rw [if_pos rfl, if_pos hi]
      unfold ind
      rw [if_neg hx]
    · rw [if_neg he]
  · rw [List.getElem?_eq_none (by rw [thN_len]; omega), thN_len]
    split
    · split
      · omega
      · rfl
    · rfl
/-- Who is there, is there once, and is one of 0 to 30. -/
def Good30 (l : List Int) : Prop := l.Nodup ∧ ∀ x ∈ l, 0 ≤ x ∧ x ≤ 30
theorem Good30.perm {l l' : List Int} (h : Good30 l) (p : l'.Perm l) : Good30 l' := ⟨p.nodup_iff.2 h.1, fun x hx => h.2 x (p.mem_iff.1 hx)⟩
end Go.Proofs.Ytjgemfgneiaabaa.Pc
