/-
  Chapter 05: the contracts of both queues, each as one. No statement is proved here.
-/
import Derived.Test.YtjgemfgneiaabaaGreatRq23
namespace Go.Proofs.YtjgemfgneiaabaaGreat.Rq
open Go.RowKit
set_option linter.unusedVariables false

/-- The reference's queue, whole. -/
def refQ (p m : Nat) (xs : List Int) (z : Int) (b : Bool) : Hp := ex fun vv : Value × Value => rqB p m vv.1 vv.2 * (rs 3 vv.1 (xs.map vi) * rs 3 vv.2 ((nsOf z b).map vi))
/-- Its stand: who is there; what Remove, Take do. -/
def hasQ (xs : List Int) (z : Int) (b : Bool) (g : Int) : Bool := b && z == g || decide (g ∈ xs)
def rmL (xs : List Int) (z : Int) (b : Bool) (g : Int) : List Int := if (b && z == g) = true then xs else xs.erase g
def rmB (z : Int) (b : Bool) (g : Int) : Bool := b && !(z == g)
def tkL (m : Nat) (xs : List Int) (z : Int) (b c : Bool) : List Int := if (b && c) = true then xs else (nextL m xs z b).tail
def tkS (m : Nat) (xs : List Int) (z : Int) (b c : Bool) : List Int := if (b && c) = true then [] else nextS m xs z b
def tkG (m : Nat) (xs : List Int) (z : Int) (b c : Bool) : List Int := if (b && c) = true then [z] else (nextL m xs z b).take 1
section
variable {w0 w : World} {F : Hp} {q r p m : Nat} {z : Int} {b : Bool} {xs : List Int}
theorem refQ_open (h : Sat w0 (refQ p m xs z b * F) w) : ∃ vL vN, Sat w0 (rqB p m vL vN * (rs 3 vL (xs.map vi) * (rs 3 vN ((nsOf z b).map vi) * F))) w := by
  obtain ⟨vv, hv⟩ := h.exE
  exact ⟨vv.1, vv.2, hv.cast (by ac_rfl)⟩
theorem refQ_shut {vL vN : Value} (h : Sat w0 (rqB p m vL vN * (rs 3 vL (xs.map vi) * (rs 3 vN ((nsOf z b).map vi) * F))) w) : Sat w0 (refQ p m xs z b * F) w :=
  Sat.exI (f := fun vv : Value × Value => rqB p m vv.1 vv.2 * (rs 3 vv.1 (xs.map vi) * rs 3 vv.2 ((nsOf z b).map vi))) (vL, vN) (h.cast (by ac_rfl))

theorem refQ_shut2 {A : Hp} {vL vN : Value} (h : Sat w0 (A * (rqB p m vL vN * (rs 3 vL (xs.map vi) * (rs 3 vN ((nsOf z b).map vi) * F)))) w) : Sat w0 (A * (refQ p m xs z b * F)) w :=
  (refQ_shut (F := A * F) (h.cast (by ac_rfl))).pull2
theorem r_put' (h : Sat w0 (refQ p m xs z b * F) w) (hl : xs.length ≤ m) (hm1 : 2 ≤ m) (hm : m ≤ 4096) (g : Int) :
    Calls Tryz.prog 75 #[vp p, vi g] w fun e w' => ∃ v, e = .returned v ∧ Sat w0 (sl 3 1 v (spillL m xs g).length ((spillL m xs g).map vi) * (refQ p m (putL m xs g) z b * F)) w' := by
  obtain ⟨vL, vN, h⟩ := refQ_open h
  exact (r_put h hl hm1 hm g).mono fun e w' ⟨v, vL', he, hS⟩ => ⟨v, he, refQ_shut2 hS⟩
theorem r_putnext' (h : Sat w0 (refQ p m xs z b * F) w) (hl : xs.length ≤ m) (hm1 : 2 ≤ m) (hm : m ≤ 4096) (g : Int) :
    Calls Tryz.prog 79 #[vp p, vi g] w fun e w' => ∃ v, e = .returned v ∧ Sat w0 (sl 3 1 v (nextS m xs z b).length ((nextS m xs z b).map vi) * (refQ p m (nextL m xs z b) g true * F)) w' := by
  obtain ⟨vL, vN, h⟩ := refQ_open h
  exact (r_putnext h hl hm1 hm g).mono fun e w' ⟨v, vL', vN', he, hS⟩ => ⟨v, he, refQ_shut2 (z := g) (b := true) hS⟩
theorem r_remove' (h : Sat w0 (refQ p m xs z b * F) w) (hl : xs.length ≤ 4096) (g : Int) :
    Calls Tryz.prog 83 #[vp p, vi g] w fun e w' => e = .returned (.bool (hasQ xs z b g)) ∧ Sat w0 (refQ p m (rmL xs z b g) z (rmB z b g) * F) w' := by
  obtain ⟨vL, vN, h⟩ := refQ_open h
  unfold hasQ rmL rmB
  by_cases hc : b = true ∧ z = g
  · obtain ⟨rfl, rfl⟩ := hc
    refine (r_remove_next h).mono fun e w' ⟨he, hS⟩ => ?_
    simp only [beq_self_eq_true, Bool.and_self, Bool.true_or, if_true, Bool.not_true, Bool.and_false]
    exact ⟨he, refQ_shut hS⟩
  · have hb : (b && z == g) = false := by
      cases b with
      | false => rfl
      | true => simpa using fun e => hc ⟨rfl, e⟩
    have hb2 : (b && !(z == g)) = b := by
      cases b with
      | false => rfl
      | true => simpa using fun e => hc ⟨rfl, e⟩
    rw [hb, hb2]
    exact (r_remove h hl g hc).mono fun e w' ⟨vL', he, hS⟩ => ⟨he, refQ_shut hS⟩
theorem r_take' (h : Sat w0 (refQ p m xs z b * F) w) (hl : xs.length ≤ m) (hm1 : 2 ≤ m) (hm : m ≤ 4096) (c : Bool) :
    Calls Tryz.prog 86 #[vp p, .bool c] w fun e w' => ∃ v u, e = .returned (.tuple #[v, .bool (b && c), u]) ∧ RdI w' v (tkG m xs z b c) ∧
      Sat w0 (sl 3 1 u (tkS m xs z b c).length ((tkS m xs z b c).map vi) * (refQ p m (tkL m xs z b c) z false * F)) w' := by
  obtain ⟨vL, vN, h⟩ := refQ_open h
  unfold tkG tkS tkL
  cases b with
  | true =>
    cases c with
    | true =>
      refine (r_take_in h).mono fun e w' ⟨v, he, hR, hS⟩ => ⟨v, _, he, hR, ?_⟩
      have h2 := (hS.pull4).dropL
      exact (refQ_shut h2).addNil 3 1
    | false =>
      obtain ⟨x, t, hp, ht⟩ := putL_cons hl hm1 z
      refine (r_take_put h hl hm1 hm hp ht).mono fun e w' ⟨v, vL', u, he, hR, hS⟩ => ⟨v, u, he, ?_, ?_⟩
      · simp only [Bool.and_false, Bool.false_eq_true, if_false, nextL, if_true, hp]
        exact hR
      · simp only [Bool.and_false, Bool.false_eq_true, if_false, nextL, nextS, if_true, hp, List.tail_cons]
        exact refQ_shut2 (z := z) (b := false) hS.pull3
  | false =>
    simp only [Bool.false_and, Bool.false_eq_true, if_false, nextL, nextS]
    cases xs with
    | nil =>
      refine (r_take_nil h c).mono fun e w' ⟨he, hw⟩ => ⟨_, _, he, Rd.nil _ _, ?_⟩
      subst hw
      exact (refQ_shut (xs := []) (z := z) (b := false) h).addNil 3 1
    | cons x t =>
      refine (r_take_one h (by simp at hl; omega) c).mono fun e w' ⟨v, vL', he, hR, hS⟩ => ⟨v, _, he, hR, ?_⟩
      exact (refQ_shut (xs := t) (z := z) (b := false) hS).addNil 3 1
theorem r_steal' (h : Sat w0 (refQ p m xs z b * F) w) (hl : xs.length ≤ 4096) (t : Int) {v : Value} {af : List Nat} (hA : ∀ w', Sat w0 F w' → RdA w' v af) :
    Calls Tryz.prog 74 #[vp p, vi t, v] w fun e w' => ∃ u, e = .returned u ∧ RdI w' u (thiefO (mayG af t) xs z b) ∧ Sat w0 (refQ p m (thiefL (mayG af t) xs) z (thiefB (mayG af t) xs z b) * F) w' := by
  obtain ⟨vL, vN, h⟩ := refQ_open h
  exact (r_steal h hl t hA).mono fun e w' ⟨u, vL', vN', he, hR, hS⟩ => ⟨u, he, hR, refQ_shut hS⟩
theorem allQ_ns (xs : List Int) (z : Int) (b : Bool) : allQ xs z b = nsOf z b ++ xs := by cases b <;> rfl
theorem q_remove' (h : Sat w0 (quB q r z b * (ringP r m xs * F)) w) (g : Int) :
    Calls Tryz.prog 81 #[vp q, vi g] w fun e w' => e = .returned (.bool (hasQ xs z b g)) ∧ Sat w0 (quB q r z (rmB z b g) * (ringP r m (rmL xs z b g) * F)) w' := by
  unfold hasQ rmL rmB
  by_cases hc : b = true ∧ z = g
  · obtain ⟨rfl, rfl⟩ := hc
    refine (q_remove_next h).mono fun e w' ⟨he, hS⟩ => ?_
    simp only [beq_self_eq_true, Bool.and_self, Bool.true_or, if_true, Bool.not_true, Bool.and_false]
    exact ⟨he, hS⟩
  · have hb : (b && z == g) = false := by
      cases b with
      | false => rfl
      | true => simpa using fun e => hc ⟨rfl, e⟩
    have hb2 : (b && !(z == g)) = b := by
      cases b with
      | false => rfl
      | true => simpa using fun e => hc ⟨rfl, e⟩
    rw [hb, hb2]
    exact q_remove h g hc
theorem q_take' (h : Sat w0 (quB q r z b * (ringP r m xs * F)) w) (c : Bool) :
    Calls Tryz.prog 85 #[vp q, .bool c] w fun e w' => ∃ v, e = .returned (.tuple #[vi ((tkG m xs z b c).headD 0), .bool (b && c), v, .bool !(tkG m xs z b c).isEmpty]) ∧
      Sat w0 (sl 3 1 v (tkS m xs z b c).length ((tkS m xs z b c).map vi) * (quB q r z false * (ringP r m (tkL m xs z b c) * F))) w' := by
  unfold tkG tkS tkL
  by_cases hc : (b && c) = true
  · obtain ⟨rfl, rfl⟩ : b = true ∧ c = true := by simpa using hc
    exact (q_take_in h).mono fun e w' ⟨he, hS⟩ => ⟨_, he, hS.addNil 3 1⟩
  · have hc' : (b && c) = false := by simpa using hc
    rw [hc']
    simp only [Bool.false_eq_true, if_false]
    refine (q_take h c hc').mono fun e w' ⟨v, he, hS⟩ => ⟨v, ?_, hS⟩
    rw [he]
    cases nextL m xs z b <;> rfl
end
end Go.Proofs.YtjgemfgneiaabaaGreat.Rq

namespace Go.Proofs.YtjgemfgneiaabaaGreat.Rq
open Go.RowKit
set_option linter.unusedVariables false

section
variable {m : Nat} {xs : List Int} {z g : Int} {b : Bool}
theorem hasQ_mem : hasQ xs z b g = true ↔ g ∈ allQ xs z b := by
  unfold hasQ
  cases b with
  | false => simp [allQ]
  | true =>
    simp only [allQ, if_true, List.mem_cons, Bool.true_and, Bool.or_eq_true, beq_iff_eq, decide_eq_true_eq]
    exact ⟨fun h => h.imp Eq.symm id, fun h => h.imp Eq.symm id⟩
theorem allQ_append (ys : List Int) : (allQ xs z b ++ ys) = allQ (xs ++ ys) z b := by cases b <;> rfl
theorem allQ_perm {ys : List Int} (h : xs.Perm ys) : (allQ xs z b).Perm (allQ ys z b) := by
  cases b with
  | false => exact h
  | true => exact h.cons z
theorem allQ_cons : (allQ (g :: xs) z b).Perm (g :: allQ xs z b) := by
  cases b with
  | false => exact List.Perm.refl _
  | true => exact List.Perm.swap _ _ _
theorem put_permA (g : Int) : (allQ (putL m xs g) z b ++ spillL m xs g).Perm (g :: allQ xs z b) := by
  rw [allQ_append]
  exact (allQ_perm (put_perm g)).trans allQ_cons
theorem next_permA (g : Int) : (allQ (nextL m xs z b) g true ++ nextS m xs z b).Perm (g :: allQ xs z b) := by
  simp only [allQ, if_true, List.cons_append]
  exact (next_perm m xs z b).cons g
theorem take_permA (c : Bool) : (allQ (tkL m xs z b c) z false ++ (tkS m xs z b c ++ tkG m xs z b c)).Perm (allQ xs z b) := by
  unfold tkL tkS tkG
  by_cases hc : (b && c) = true
  · simp only [hc, if_true]
    obtain ⟨rfl, rfl⟩ : b = true ∧ c = true := by simpa using hc
    simp only [allQ, List.nil_append, Bool.false_eq_true, if_false, if_true]
    exact List.perm_append_comm
  · simp only [hc, Bool.false_eq_true, if_false]
    have h := next_perm m xs z b
    refine List.Perm.trans ?_ h
    simp only [allQ, Bool.false_eq_true, if_false]
    cases nextL m xs z b with
    | nil => simp
    | cons x t =>
      simp only [List.tail_cons, List.take_succ_cons, List.take_zero, List.cons_append]
      rw [← List.append_assoc]
      exact (List.perm_append_comm (l₁ := t ++ nextS m xs z b) (l₂ := [x]))
theorem remove_permA (g : Int) : (allQ (rmL xs z b g) z (rmB z b g) ++ (if hasQ xs z b g then [g] else [])).Perm (allQ xs z b) := by
  unfold rmL rmB hasQ
  by_cases hc : (b && z == g) = true
  · obtain ⟨rfl, hz⟩ : b = true ∧ (z == g) = true := by simpa using hc
    obtain rfl : z = g := by simpa using hz
    simp only [beq_self_eq_true, Bool.and_self, if_true, Bool.true_or, Bool.not_true, Bool.and_false, allQ, Bool.false_eq_true, if_false]
    exact List.perm_append_comm
  · have hb2 : (b && !(z == g)) = b := by
      cases b with
      | false => rfl
      | true => simpa using hc
    have hc' : (b && z == g) = false := by simpa using hc
    rw [hb2, hc']
    simp only [Bool.false_eq_true, if_false, Bool.false_or, decide_eq_true_eq]
    by_cases hm : g ∈ xs
    · rw [if_pos hm, allQ_append]
      exact allQ_perm (List.perm_append_comm.trans (List.perm_cons_erase hm).symm)
    · rw [if_neg hm, List.append_nil, List.erase_of_not_mem hm]
theorem tkG_cases (c : Bool) : tkG m xs z b c = [] ∨ ∃ x, tkG m xs z b c = [x] := by
  unfold tkG
  split
  · exact .inr ⟨z, rfl⟩
  · cases nextL m xs z b with
    | nil => exact .inl rfl
    | cons x t => exact .inr ⟨x, rfl⟩
theorem allQ_len : (allQ xs z b).length ≤ xs.length + 1 := by cases b <;> simp [allQ]
theorem tkS_len (c : Bool) : (tkS m xs z b c).length ≤ xs.length + 1 := by
  have h := (take_permA (m := m) (xs := xs) (z := z) (b := b) c).length_eq
  have h2 := allQ_len (xs := xs) (z := z) (b := b)
  simp only [List.length_append] at h
  omega
theorem spillL_len (g : Int) : (spillL m xs g).length ≤ xs.length + 1 := by
  have h := (put_perm (m := m) (xs := xs) g).length_eq
  simp only [List.length_append, List.length_cons] at h
  omega
theorem nextS_len : (nextS m xs z b).length ≤ xs.length + 1 := by
  have h := (next_perm m xs z b).length_eq
  have h2 := allQ_len (xs := xs) (z := z) (b := b)
  simp only [List.length_append] at h
  omega
theorem thiefO_len (f : Int → Bool) : (thiefO f xs z b).length ≤ xs.length + 1 := by
  have h := (thief_perm f xs z b).length_eq
  have h2 := allQ_len (xs := xs) (z := z) (b := b)
  simp only [List.length_append] at h
  omega
end

/-- Both queues. -/
abbrev bothQ (q r p m : Nat) (xs : List Int) (z : Int) (b : Bool) (F : Hp) : Hp := quB q r z b * (ringP r m xs * (refQ p m xs z b * F))
/-- What do answers. -/
def DoQ (w0 : World) (q r p m : Nat) (xs : List Int) (z : Int) (b : Bool) (F : Hp) (e : Ending) (w' : World) : Prop :=
  ∃ xs' z' b', e = .returned (.bool true) ∧ Sat w0 (bothQ q r p m xs' z' b' F) w' ∧ ((allQ xs z b).Nodup → (allQ xs' z' b').Nodup)

theorem ref_same_yes (xs : List Int) (v u : Value) (w : World) (h : RdI w v xs) (h' : RdI w u xs) (hl : xs.length ≤ 1000000) :
    Calls Tryz.prog 72 #[v, u] w fun e w' => e = .returned (.bool true) ∧ ∃ k, w' = w.drewN k := by
  have := ref_same xs xs v u w h h' hl hl
  rwa [show sameI xs xs = true from by simp [sameI]] at this
section
variable {w0 w : World} {F : Hp} {q r p m : Nat} {z : Int} {b : Bool} {xs : List Int} {ao : Option Addr} {n cap : Nat}
end
end Go.Proofs.YtjgemfgneiaabaaGreat.Rq
