/-
  Chapter 05: few; the reference's Steal. No statement is proved here.
-/
import Derived.Test.YtjgemfgneiaabaaRq20
import Derived.Test.YtjgemfgneiaabaaMg5
namespace Go.Proofs.Ytjgemfgneiaabaa.Rq
open Go.RowKit
set_option linter.unusedVariables false

def fewB (n m : Nat) (ln : Nat → Nat) : Bool := decide (n ≤ m) && (List.range n).all fun i => decide (ln i ≤ 100)
theorem fewB_yes {n m : Nat} {ln : Nat → Nat} (h : fewB n m ln = true) : n ≤ m ∧ ∀ i, i < n → ln i ≤ 100 := by
  simp only [fewB, Bool.and_eq_true, decide_eq_true_eq, List.all_eq_true, List.mem_range] at h
  exact h
theorem fewB_not {n m : Nat} {ln : Nat → Nat} {k : Nat} (hk : k < n) (h : 100 < ln k) : fewB n m ln = false := by
  cases he : fewB n m ln with
  | false => rfl
  | true => exact absurd ((fewB_yes he).2 k hk) (by omega)
theorem fewB_le {n m : Nat} {ln : Nat → Nat} (h : n ≤ m → ∀ i, i < n → ln i ≤ 100) : fewB n m ln = decide (n ≤ m) := by
  unfold fewB
  by_cases hn : n ≤ m
  · have : ((List.range n).all fun i => decide (ln i ≤ 100)) = true := by
      simp only [List.all_eq_true, List.mem_range, decide_eq_true_eq]
      exact h hn
    rw [this, Bool.and_true]
  · rw [decide_eq_false hn, Bool.false_and]
section
variable {w0 w : World} {v : Value} {n : Nat} {K G : Nat → Int} {Y : Nat → Bool} {V : Nat → Value} {af : Nat → List Nat}
end

theorem steal_snoc (f : Int → Bool) (g : Int) : ∀ (ys : List Int) (h : Nat),
    stealO f h (ys ++ [g]) = (if f g = true ∧ (stealO f h ys).length < h then stealO f h ys ++ [g] else stealO f h ys) ∧
    stealL f h (ys ++ [g]) = (if f g = true ∧ (stealO f h ys).length < h then stealL f h ys else stealL f h ys ++ [g])
  | [], 0 => by simp [stealO, stealL]
  | [], h + 1 => by
    by_cases hg : f g = true <;> simp [stealO, stealL, hg]
  | x :: t, 0 => by simp [stealO, stealL]
  | x :: t, h + 1 => by
    have h1 := steal_snoc f g t h
    have h2 := steal_snoc f g t (h + 1)
    by_cases hx : f x = true
    · simp only [List.cons_append, stealO, stealL, hx, if_true, List.length_cons, Nat.add_lt_add_iff_right]
      rw [h1.1, h1.2]
      refine ⟨?_, rfl⟩
      split <;> rfl
    · simp only [List.cons_append, stealO, stealL, hx, Bool.false_eq_true, if_false]
      rw [h2.1, h2.2]
      refine ⟨rfl, ?_⟩
      split <;> rfl
section
variable {w0 w : World} {F : Hp} {q m : Nat} {vL vN : Value} {xs : List Int} {z : Int} {b : Bool}
end
end Go.Proofs.Ytjgemfgneiaabaa.Rq

namespace Go.Proofs.Ytjgemfgneiaabaa.Rq
open Go.RowKit
set_option linter.unusedVariables false

/-- Its stand: who is there; what Remove, Take do. -/
def hasQ (xs : List Int) (z : Int) (b : Bool) (g : Int) : Bool := b && z == g || decide (g ∈ xs)
def rmL (xs : List Int) (z : Int) (b : Bool) (g : Int) : List Int := if (b && z == g) = true then xs else xs.erase g
def rmB (z : Int) (b : Bool) (g : Int) : Bool := b && !(z == g)
def tkL (m : Nat) (xs : List Int) (z : Int) (b c : Bool) : List Int := if (b && c) = true then xs else (nextL m xs z b).tail
def tkS (m : Nat) (xs : List Int) (z : Int) (b c : Bool) : List Int := if (b && c) = true then [] else nextS m xs z b
def tkG (m : Nat) (xs : List Int) (z : Int) (b c : Bool) : List Int := if (b && c) = true then [z] else (nextL m xs z b).take 1
section
variable {w0 w : World} {F : Hp} {q r p m : Nat} {z : Int} {b : Bool} {xs : List Int}
theorem allQ_ns (xs : List Int) (z : Int) (b : Bool) : allQ xs z b = nsOf z b ++ xs := by cases b <;> rfl
theorem q_remove' (h : Sat w0 (quB q r z b * (ringP r m xs * F)) w) (g : Int) :
    Calls Try.prog 30 #[vp q, vi g] w fun e w' => e = .returned (.bool (hasQ xs z b g)) ∧ Sat w0 (quB q r z (rmB z b g) * (ringP r m (rmL xs z b g) * F)) w' := by
  unfold hasQ rmL rmB
  by_cases hc : b = true ∧ z = g
  · obtain ⟨rfl, rfl⟩ := hc
    refine (q_remove_next h).mono fun e w' ⟨he, hS⟩ => ?_
    simp only [beq_self_eq_true, Bool.and_self, Bool.true_or, if_true, Bool.not_true, Bool.and_false]
    exact ⟨he, hS⟩
  · have hb : (b && z == g) = false := by
      cases b with
      | false => rfl
      | true => simpa using fun e => hc ⟨rfl, e⟩
    have hb2 : (b && !(z == g)) = b := by
      cases b with
      | false => rfl
      | true => simpa using fun e => hc ⟨rfl, e⟩
    rw [hb, hb2]
    exact q_remove h g hc
theorem q_take' (h : Sat w0 (quB q r z b * (ringP r m xs * F)) w) (c : Bool) :
    Calls Try.prog 33 #[vp q, .bool c] w fun e w' => ∃ v, e = .returned (.tuple #[vi ((tkG m xs z b c).headD 0), .bool (b && c), v, .bool !(tkG m xs z b c).isEmpty]) ∧
      Sat w0 (sl 3 1 v (tkS m xs z b c).length ((tkS m xs z b c).map vi) * (quB q r z false * (ringP r m (tkL m xs z b c) * F))) w' := by
  unfold tkG tkS tkL
  by_cases hc : (b && c) = true
  · obtain ⟨rfl, rfl⟩ : b = true ∧ c = true := by simpa using hc
    exact (q_take_in h).mono fun e w' ⟨he, hS⟩ => ⟨_, he, hS.addNil 3 1⟩
  · have hc' : (b && c) = false := by simpa using hc
    rw [hc']
    simp only [Bool.false_eq_true, if_false]
    refine (q_take h c hc').mono fun e w' ⟨v, he, hS⟩ => ⟨v, ?_, hS⟩
    rw [he]
    cases nextL m xs z b <;> rfl
end
end Go.Proofs.Ytjgemfgneiaabaa.Rq

namespace Go.Proofs.Ytjgemfgneiaabaa.Rq
open Go.RowKit
set_option linter.unusedVariables false

section
variable {m : Nat} {xs : List Int} {z g : Int} {b : Bool}
theorem hasQ_mem : hasQ xs z b g = true ↔ g ∈ allQ xs z b := by
  unfold hasQ
  cases b with
  | false => simp [allQ]
  | true =>
    simp only [allQ, if_true, List.mem_cons, Bool.true_and, Bool.or_eq_true, beq_iff_eq, decide_eq_true_eq]
    exact ⟨fun h => h.imp Eq.symm id, fun h => h.imp Eq.symm id⟩
theorem allQ_append (ys : List Int) : (allQ xs z b ++ ys) = allQ (xs ++ ys) z b := by cases b <;> rfl
theorem allQ_perm {ys : List Int} (h : xs.Perm ys) : (allQ xs z b).Perm (allQ ys z b) := by
  cases b with
  | false => exact h
  | true => exact h.cons z
theorem allQ_cons : (allQ (g :: xs) z b).Perm (g :: allQ xs z b) := by
  cases b with
  | false => exact List.Perm.refl _
  | true => exact List.Perm.swap _ _ _
theorem put_permA (g : Int) : (allQ (putL m xs g) z b ++ spillL m xs g).Perm (g :: allQ xs z b) := by
  rw [allQ_append]
  exact (allQ_perm (put_perm g)).trans allQ_cons
theorem next_permA (g : Int) : (allQ (nextL m xs z b) g true ++ nextS m xs z b).Perm (g :: allQ xs z b) := by
  simp only [allQ, if_true, List.cons_append]
  exact (next_perm m xs z b).cons g
theorem take_permA (c : Bool) : (allQ (tkL m xs z b c) z false ++ (tkS m xs z b c ++ tkG m xs z b c)).Perm (allQ xs z b) := by
  unfold tkL tkS tkG
  by_cases hc : (b && c) = true
  · simp only [hc, if_true]
    obtain ⟨rfl, rfl⟩ : b = true ∧ c = true := by simpa using hc
    simp only [allQ, List.nil_append, Bool.false_eq_true, if_false, if_true]
    exact List.perm_append_comm
  · simp only [hc, Bool.false_eq_true, if_false]
    have h := next_perm m xs z b
    refine List.Perm.trans ?_ h
    simp only [allQ, Bool.false_eq_true, if_false]
    cases nextL m xs z b with
    | nil => simp
    | cons x t =>
      simp only [List.tail_cons, List.take_succ_cons, List.take_zero, List.cons_append]
      rw [← List.append_assoc]
      exact (List.perm_append_comm (l₁ := t ++ nextS m xs z b) (l₂ := [x]))
theorem remove_permA (g : Int) : (allQ (rmL xs z b g) z (rmB z b g) ++ (if hasQ xs z b g then [g] else [])).Perm (allQ xs z b) := by
  unfold rmL rmB hasQ
  by_cases hc : (b && z == g) = true
  · obtain ⟨rfl, hz⟩ : b = true ∧ (z == g) = true := by simpa using hc
    obtain rfl : z = g := by simpa using hz
    simp only [beq_self_eq_true, Bool.and_self, if_true, Bool.true_or, Bool.not_true, Bool.and_false, allQ, Bool.false_eq_true, if_false]
    exact List.perm_append_comm
  · have hb2 : (b && !(z == g)) = b := by
      cases b with
      | false => rfl
      | true => simpa using hc
    have hc' : (b && z == g) = false := by simpa using hc
    rw [hb2, hc']
    simp only [Bool.false_eq_true, if_false, Bool.false_or, decide_eq_true_eq]
    by_cases hm : g ∈ xs
    · rw [if_pos hm, allQ_append]
      exact allQ_perm (List.perm_append_comm.trans (List.perm_cons_erase hm).symm)
    · rw [if_neg hm, List.append_nil, List.erase_of_not_mem hm]
theorem tkG_cases (c : Bool) : tkG m xs z b c = [] ∨ ∃ x, tkG m xs z b c = [x] := by
  unfold tkG
  split
  · exact .inr ⟨z, rfl⟩
  · cases nextL m xs z b with
    | nil => exact .inl rfl
    | cons x t => exact .inr ⟨x, rfl⟩
theorem allQ_len : (allQ xs z b).length ≤ xs.length + 1 := by cases b <;> simp [allQ]
theorem tkS_len (c : Bool) : (tkS m xs z b c).length ≤ xs.length + 1 := by
  have h := (take_permA (m := m) (xs := xs) (z := z) (b := b) c).length_eq
  have h2 := allQ_len (xs := xs) (z := z) (b := b)
  simp only [List.length_append] at h
  omega
theorem spillL_len (g : Int) : (spillL m xs g).length ≤ xs.length + 1 := by
  have h := (put_perm (m := m) (xs := xs) g).length_eq
  simp only [List.length_append, List.length_cons] at h
  omega
theorem nextS_len : (nextS m xs z b).length ≤ xs.length + 1 := by
  have h := (next_perm m xs z b).length_eq
  have h2 := allQ_len (xs := xs) (z := z) (b := b)
  simp only [List.length_append] at h
  omega
theorem thiefO_len (f : Int → Bool) : (thiefO f xs z b).length ≤ xs.length + 1 := by
  have h := (thief_perm f xs z b).length_eq
  have h2 := allQ_len (xs := xs) (z := z) (b := b)
  simp only [List.length_append] at h
  omega
end

section
variable {w0 w : World} {F : Hp} {q r p m : Nat} {z : Int} {b : Bool} {xs : List Int} {ao : Option Addr} {n cap : Nat}
end
end Go.Proofs.Ytjgemfgneiaabaa.Rq
