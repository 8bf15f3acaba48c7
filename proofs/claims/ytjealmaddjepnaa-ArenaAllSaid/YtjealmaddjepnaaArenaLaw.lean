/-
  The plain law of the arena: how a table and the reference's table answer alike. No statement is proved here.
-/
import Derived.Test.YtjealmaddjepnaaArena6
namespace Go.Proofs.Ytjealmaddjepnaa.Ar
open Go.RowKit
set_option linter.unusedVariables false

def RP.pl (r : RP) : Pl := ⟨r.gen, r.there, r.retired, r.x⟩
structure Rel (ps : List Pl) (free : List Nat) (rs : List RP) (times : Int) : Prop where
  eq : ps = rs.map RP.pl
  asc : free.Pairwise fun i j => frd rs i < frd rs j
  le : ∀ k ∈ free, frd rs k ≤ times
  t0 : 0 ≤ times

section
variable {ps : List Pl} {free : List Nat} {rs : List RP} {times : Int}
theorem isAt_map (rs : List RP) (i g : Int) : isAt (rs.map RP.pl) i g = (isR rs i g).map fun kr => (kr.1, kr.2.pl) := by
  unfold isAt isR
  split
  · rfl
  · rw [List.getElem?_map]
    cases h : rs[i.toNat]? with
    | none => rfl
    | some r =>
      simp only [Option.map_some, RP.pl]
      split <;> simp_all
theorem frd_set {k : Nat} {a a' : RP} (hk : rs[k]? = some a) (i : Nat) : frd (rs.set k a') i = if i = k then a'.freed else frd rs i := by
  have hl := (List.getElem?_eq_some_iff.1 hk).1
  unfold frd
  by_cases h : k = i
  · subst h
    simp [hl]
  · rw [List.getElem?_set, if_neg h, if_neg (fun e => h e.symm)]
theorem frd_same {k : Nat} {a a' : RP} (hk : rs[k]? = some a) (hf : a'.freed = a.freed) (i : Nat) : frd (rs.set k a') i = frd rs i := by
  rw [frd_set hk]
  split
  · subst_vars
    rw [hf, frd_some hk]
  · rfl
theorem Rel.upd (h : Rel ps free rs times) {k : Nat} {a a' : RP} (hk : rs[k]? = some a) (hf : a'.freed = a.freed) {free' : List Nat} (hs : free'.Sublist free) : Rel (ps.set k a'.pl) free' (rs.set k a') times := by
  refine ⟨by rw [h.eq, List.map_set], ?_, ?_, h.t0⟩
  · refine List.Pairwise.imp ?_ (h.asc.sublist hs)
    intro i j hij
    rw [frd_same hk hf, frd_same hk hf]
    exact hij
  · intro i hi
    rw [frd_same hk hf]
    exact h.le i (hs.subset hi)
theorem Rel.go (h : Rel ps free rs times) {k : Nat} {a a' : RP} (hk : rs[k]? = some a) (hn : k ∉ free) (hf : a'.freed = times + 1) : Rel (ps.set k a'.pl) (free ++ [k]) (rs.set k a') (times + 1) := by
  refine ⟨by rw [h.eq, List.map_set], ?_, ?_, by have := h.t0; omega⟩
  · rw [List.pairwise_append]
    refine ⟨?_, List.pairwise_singleton _ _, ?_⟩
    · refine List.Pairwise.imp_of_mem ?_ h.asc
      intro i j hi hj hij
      have n1 : i ≠ k := by intro e; rw [e] at hi; exact hn hi
      have n2 : j ≠ k := by intro e; rw [e] at hj; exact hn hj
      rw [frd_set hk, frd_set hk, if_neg n1, if_neg n2]
      exact hij
    · intro i hi j hj
      simp only [List.mem_singleton] at hj
      subst hj
      have n1 : i ≠ j := by intro e; rw [e] at hi; exact hn hi
      rw [frd_set hk, frd_set hk, if_neg n1, if_pos rfl, hf]
      have := h.le i hi
      omega
  · intro i hi
    rw [List.mem_append, List.mem_singleton] at hi
    rw [frd_set hk]
    split
    · omega
    · rcases hi with hi | hi
      · have := h.le i hi
        omega
      · contradiction
theorem Rel.fresh (n : Nat) (first : Int) : Rel (List.replicate n ⟨first, false, false, ez⟩) (newF n n) (rnewL first n) 0 := by
  have hf : ∀ i, i < n → frd (rnewL first n) i = -1 - (i : Int) := by
    intro i hi
    simp [frd, rnewL, hi]
  refine ⟨?_, ?_, ?_, Int.le_refl _⟩
  · apply List.ext_getElem?
    intro i
    by_cases hi : i < n <;> simp [rnewL, hi, RP.pl]
  · unfold newF
    rw [List.pairwise_map]
    refine List.Pairwise.imp_of_mem ?_ List.pairwise_lt_range
    intro i j hi hj hij
    simp only [List.mem_range] at hi hj
    rw [hf _ (by omega), hf _ (by omega)]
    omega
  · intro k hk
    simp only [newF, List.mem_map, List.mem_range] at hk
    obtain ⟨i, hi, rfl⟩ := hk
    rw [hf _ (by omega)]
    omega
theorem rfree_mem (hok : TblOk ps free) (h : Rel ps free rs times) (k : Nat) : k ∈ rfreeL rs rs.length ↔ k ∈ free := by
  rw [hok.mem]
  unfold rfreeL
  rw [List.mem_filter, List.mem_range, h.eq]
  constructor
  · rintro ⟨h1, h2⟩
    cases hr : rs[k]? with
    | none => rw [hr] at h2; cases h2
    | some r =>
      rw [hr] at h2
      simp only [Bool.and_eq_true, Bool.not_eq_true'] at h2
      exact ⟨r.pl, by rw [List.getElem?_map, hr]; rfl, h2.1, h2.2⟩
  · rintro ⟨a, ha, h1, h2⟩
    rw [List.getElem?_map, Option.map_eq_some_iff] at ha
    obtain ⟨r, hr, rfl⟩ := ha
    refine ⟨(List.getElem?_eq_some_iff.1 hr).1, ?_⟩
    rw [hr]
    show (!r.there && !r.retired) = true
    rw [show r.there = false from h1, show r.retired = false from h2]
    rfl
/-- The place that was freed last is the last of the free ones. -/
theorem rlast_max (rs : List RP) (L : List Nat) (hL : L ≠ []) (k : Nat) : ∀ i ∈ L.take k, frd rs i ≤ frd rs (rlast rs L k) := by
  induction k with
  | zero => intro i hi; simp at hi
  | succ k ih =>
    cases h : L[k]? with
    | none =>
      have e : L.take (k + 1) = L.take k := by rw [List.take_add_one, h]; simp
      have e2 : rlast rs L (k + 1) = rlast rs L k := by rw [rlast, rlast, e]
      rw [e, e2]
      exact ih
    | some j =>
      intro i hi
      rw [rlast_succ rs L k j h, rpick]
      rw [List.take_add_one, h, List.mem_append] at hi
      split
      · rcases hi with hi | hi
        · have := ih i hi
          omega
        · simp at hi
          subst hi
          exact Int.le_refl _
      · rcases hi with hi | hi
        · exact ih i hi
        · simp at hi
          subst hi
          omega
theorem rlast_eq {init : List Nat} {k : Nat} (hok : TblOk ps (init ++ [k])) (h : Rel ps (init ++ [k]) rs times) : rfreeL rs rs.length ≠ [] ∧ rlast rs (rfreeL rs rs.length) (rfreeL rs rs.length).length = k := by
  have hmem := rfree_mem hok h
  have hk : k ∈ rfreeL rs rs.length := (hmem k).2 (by simp)
  have hne : rfreeL rs rs.length ≠ [] := List.ne_nil_of_mem hk
  refine ⟨hne, ?_⟩
  have h1 := rlast_max rs _ hne (rfreeL rs rs.length).length k (by rw [List.take_length]; exact hk)
  have h2 := (hmem _).1 (rlast_mem rs _ hne (rfreeL rs rs.length).length)
  rw [List.mem_append, List.mem_singleton] at h2
  rcases h2 with h2 | h2
  · have := (List.pairwise_append.1 h.asc).2.2 _ h2 k (by simp)
    omega
  · exact h2
theorem rfree_nil (hok : TblOk ps []) (h : Rel ps [] rs times) : rfreeL rs rs.length = [] := by
  apply List.eq_nil_iff_forall_not_mem.2
  intro k hk
  have := (rfree_mem hok h k).1 hk
  simp at this
end
end Go.Proofs.Ytjealmaddjepnaa.Ar
