/-
  A heap of timers and the reference's list: plain laws. No statement is proved here.
-/
import Derived.Test.YtcchfdoeacgapaaHm22e
import Derived.Test.YtcchfdoeacgapaaHmS
namespace Go.Proofs.Ytcchfdoeacgapaa.Hm
open Go.RowKit
set_option linter.unusedVariables false

/-- S: the timers in their order. -/
structure Inv (A : List Tm) (p : Int) (S : List Tm) : Prop where
  perm : A.Perm S
  strict : S.Pairwise fun x y => ¬ nl x y
  below : ∀ t ∈ S, t.2.2 < p
section
variable {A A' S : List Tm} {p : Int}
theorem Inv.nil : Inv [] 0 [] := ⟨List.Perm.refl _, List.Pairwise.nil, fun t ht => by cases ht⟩
theorem Inv.len (h : Inv A p S) : A.length = (S.map trOf).length := by rw [List.length_map]; exact h.perm.length_eq
theorem Inv.len' (h : Inv A p S) : A.length = S.length := h.perm.length_eq
theorem Inv.has (h : Inv A p S) (id : Int) : hasT A id = (S.map trOf).any (fun t => t.2 == id) := by
  rw [hasT_perm h.perm, List.any_map]
  rfl
theorem Inv.head {t : Tm} (h : Inv A p (t :: S)) (hS : ∀ x ∈ A, nl x (gt A 0)) : gt A 0 = t := by
  have hA : A ≠ [] := fun e => by
    have := h.perm
    rw [e] at this
    cases List.nil_perm.1 this
  have hm := h.perm.mem_iff.1 (head_mem hA)
  rcases List.mem_cons.1 hm with e | hm
  · exact e
  · exact absurd (hS t (h.perm.mem_iff.2 List.mem_cons_self)) ((List.pairwise_cons.1 h.strict).1 _ hm)
theorem Inv.pop {t : Tm} (h : Inv A p (t :: S)) (hp : (t :: A').Perm A) : Inv A' p S :=
  ⟨(hp.trans h.perm).cons_inv, (List.pairwise_cons.1 h.strict).2, fun x hx => h.below x (List.mem_cons_of_mem _ hx)⟩
theorem gr_map (S : List Tm) (j : Nat) (hj : j < S.length) : gr (S.map trOf) j = trOf (gt S j) := by
  unfold gr gt
  rw [List.getElem?_map, List.getElem?_eq_getElem hj]
  rfl
theorem mem_take_ {S : List Tm} {k : Nat} {x : Tm} (h : x ∈ S.take k) : ∃ j, j < k ∧ j < S.length ∧ x = gt S j := by
  obtain ⟨j, hj, rfl⟩ := List.getElem_of_mem h
  have hj2 : j < k ∧ j < S.length := by
    rw [List.length_take] at hj
    omega
  refine ⟨j, hj2.1, hj2.2, ?_⟩
  rw [List.getElem_take]
  have := gt_eq hj2.2
  rw [List.getElem?_eq_getElem hj2.2] at this
  exact Option.some.inj this
theorem mem_drop_ {S : List Tm} {k : Nat} {x : Tm} (h : x ∈ S.drop k) : ∃ j, k ≤ j ∧ j < S.length ∧ x = gt S j := by
  obtain ⟨j, hj, rfl⟩ := List.getElem_of_mem h
  have hj2 : k + j < S.length := by
    rw [List.length_drop] at hj
    omega
  refine ⟨k + j, by omega, hj2, ?_⟩
  rw [List.getElem_drop]
  have := gt_eq hj2
  rw [List.getElem?_eq_getElem hj2] at this
  exact Option.some.inj this
theorem Inv.at_lt (h : Inv A p S) {i j : Nat} (hij : i < j) (hj : j < S.length) : ¬ nl (gt S i) (gt S j) := by
  have := List.pairwise_iff_getElem.1 h.strict i j (by omega) hj hij
  have e1 := gt_eq (show i < S.length by omega)
  have e2 := gt_eq hj
  rw [List.getElem?_eq_getElem] at e1 e2
  rw [← Option.some.inj e1, ← Option.some.inj e2]
  exact this
/-- What a Put does. -/
theorem Inv.put (h : Inv A p S) {a id : Int} (hp : A'.Perm ((a, id, p) :: A)) {k : Nat} (hk : k ≤ (S.map trOf).length) (h1 : ∀ j, j < k → (gr (S.map trOf) j).1 ≤ a) (h2 : k < (S.map trOf).length → ¬ (gr (S.map trOf) k).1 ≤ a) :
    ∃ S', Inv A' (p + 1) S' ∧ S'.map trOf = (S.map trOf).take k ++ (a, id) :: (S.map trOf).drop k := by
  rw [List.length_map] at hk h2
  have hb : ∀ j, j < S.length → (gt S j).2.2 < p := fun j hj => h.below _ (List.mem_of_getElem? (gt_eq hj))
  have q1 : ∀ x ∈ S.take k, ¬ nl x (a, id, p) := by
    intro x hx
    obtain ⟨j, hj, hjl, rfl⟩ := mem_take_ hx
    have := h1 j hj
    rw [gr_map S j hjl] at this
    have this : (gt S j).1 ≤ a := this
    have := hb j hjl
    unfold nl
    show ¬ (a < (gt S j).1 ∨ (a = (gt S j).1 ∧ p ≤ (gt S j).2.2))
    omega
  have q2 : ∀ x ∈ S.drop k, ¬ nl (a, id, p) x := by
    intro x hx
    obtain ⟨j, hj, hjl, rfl⟩ := mem_drop_ hx
    have hkl : k < S.length := by omega
    have h3 := h2 hkl
    rw [gr_map S k hkl] at h3
    have h3 : ¬ (gt S k).1 ≤ a := h3
    have h4 : (gt S k).1 ≤ (gt S j).1 := by
      by_cases e : k = j
      · rw [e]; exact Int.le_refl _
      · have := h.at_lt (show k < j by omega) hjl
        unfold nl at this
        omega
    unfold nl
    show ¬ ((gt S j).1 < a ∨ ((gt S j).1 = a ∧ (gt S j).2.2 ≤ p))
    omega
  refine ⟨S.take k ++ (a, id, p) :: S.drop k, ⟨?_, ?_, ?_⟩, ?_⟩
  · refine hp.trans ?_
    refine ((h.perm.trans (List.Perm.of_eq (List.take_append_drop k S).symm)).cons _).trans ?_
    exact List.perm_middle.symm
  · have hS := h.strict
    rw [← List.take_append_drop k S, List.pairwise_append] at hS
    rw [List.pairwise_append]
    refine ⟨hS.1, List.pairwise_cons.2 ⟨q2, hS.2.1⟩, fun x hx y hy => ?_⟩
    rcases List.mem_cons.1 hy with rfl | hy
    · exact q1 x hx
    · exact hS.2.2 x hx y hy
  · intro t ht
    rcases List.mem_append.1 ht with ht | ht
    · have := h.below t (List.mem_of_mem_take ht)
      omega
    · rcases List.mem_cons.1 ht with rfl | ht
      · show p < p + 1
        omega
      · have := h.below t (List.mem_of_mem_drop ht)
        omega
  · rw [List.map_append, List.map_cons, List.map_take, List.map_drop]
    rfl
theorem Inv.nd (h : Inv A p S) (hn : Nd A) {x y : Tm} (hx : x ∈ A) (hy : y ∈ A) (he : x.2.1 = y.2.1) : x = y := by
  obtain ⟨i, hi, rfl⟩ := List.getElem_of_mem hx
  obtain ⟨j, hj, rfl⟩ := List.getElem_of_mem hy
  have e1 := gt_eq hi
  have e2 := gt_eq hj
  rw [List.getElem?_eq_getElem] at e1 e2
  have e1 := Option.some.inj e1
  have e2 := Option.some.inj e2
  have := hn i j hi hj (by rw [← e1, ← e2]; exact he)
  subst this
  rfl
theorem findT_some {L : List Tr} {id : Int} (h : L.any (fun t => t.2 == id) = true) : ∃ k : Nat, k < L.length ∧ findT L id = k ∧ (gr L k).2 = id := by
  unfold findT
  rw [if_pos h]
  have hl : L.findIdx (fun t => t.2 == id) < L.length := List.findIdx_lt_length.2 (List.any_eq_true.1 h)
  refine ⟨_, hl, rfl, ?_⟩
  have h1 := List.findIdx_getElem (w := hl)
  have h2 := gr_eq hl
  rw [List.getElem?_eq_getElem hl] at h2
  rw [← Option.some.inj h2]
  simpa using h1
theorem findT_none {L : List Tr} {id : Int} (h : L.any (fun t => t.2 == id) = false) : findT L id = -1 := by
  unfold findT
  rw [h]
  rfl
/-- What a Remove does. -/
theorem Inv.remove (h : Inv A p S) (hn : Nd A) {id : Int} {t : Tm} (ht : t.2.1 = id) (hp : (t :: A').Perm A) {k : Nat} (hk : k < (S.map trOf).length) (he : (gr (S.map trOf) k).2 = id) :
    ∃ S', Inv A' p S' ∧ S'.map trOf = (S.map trOf).eraseIdx k := by
  rw [List.length_map] at hk
  rw [gr_map S k hk] at he
  have he : (gt S k).2.1 = id := he
  have e : gt S k = t := h.nd hn (h.perm.mem_iff.2 (List.mem_of_getElem? (gt_eq hk))) (hp.mem_iff.1 List.mem_cons_self) (by rw [he, ht])
  have hs : S = S.take k ++ t :: S.drop (k + 1) := by
    have h1 := gt_eq hk
    rw [List.getElem?_eq_getElem hk] at h1
    have h1 := Option.some.inj h1
    rw [e] at h1
    rw [← h1, List.getElem_cons_drop, List.take_append_drop]
  refine ⟨S.eraseIdx k, ⟨?_, ?_, fun x hx => h.below x (List.mem_of_mem_eraseIdx hx)⟩, ?_⟩
  · rw [List.eraseIdx_eq_take_drop_succ]
    refine List.Perm.cons_inv (a := t) ((hp.trans h.perm).trans ?_)
    conv => lhs; rw [hs]
    exact List.perm_middle
  · exact h.strict.sublist (List.eraseIdx_sublist S k)
  · rw [List.eraseIdx_eq_take_drop_succ, List.eraseIdx_eq_take_drop_succ, List.map_append, List.map_take, List.map_drop]
theorem Inv.sorted {Z : List Tm} (h : Inv A p S) (hp : Z.Perm A) (hs : SortedT Z) : Z = S := by
  refine List.Perm.eq_of_pairwise (le := fun x y => nl y x) (fun x y hx hy h1 h2 => ?_) ?_ ?_ (hp.trans h.perm)
  · have hx := (hp.trans h.perm).mem_iff.1 hx
    obtain ⟨i, hi, rfl⟩ := List.getElem_of_mem hx
    obtain ⟨j, hj, rfl⟩ := List.getElem_of_mem hy
    rcases Nat.lt_trichotomy i j with hij | rfl | hij
    · exact absurd h2 (List.pairwise_iff_getElem.1 h.strict i j hi hj hij)
    · rfl
    · exact absurd h1 (List.pairwise_iff_getElem.1 h.strict j i hj hi hij)
  · refine List.pairwise_iff_getElem.2 fun i j hi hj hij => ?_
    have := hs i j hij hj
    rw [lessT_no] at this
    have e1 := gt_eq hi
    have e2 := gt_eq hj
    rw [List.getElem?_eq_getElem hi] at e1
    rw [List.getElem?_eq_getElem hj] at e2
    rw [Option.some.inj e1, Option.some.inj e2]
    exact this
  · exact h.strict.imp fun hxy => nl_total hxy
end
end Go.Proofs.Ytcchfdoeacgapaa.Hm
