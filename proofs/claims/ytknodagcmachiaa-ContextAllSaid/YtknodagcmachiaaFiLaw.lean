/-
  The plain law of refills: sums, which lists may be, what is due, what a charge leaves. No statement is proved here.
-/
import Derived.Test.YtknodagcmachiaaMg5
namespace Go.Proofs.Ytknodagcmachiaa.Fi
open Go.RowKit
set_option linter.unusedVariables false

def tot : List Rf → Int
  | [] => 0
  | r :: l => r.amount + tot l
theorem tot_append (a b : List Rf) : tot (a ++ b) = tot a + tot b := by
  induction a with
  | nil => simp [tot]
  | cons r a ih => simp only [List.cons_append, tot, ih]; omega
def OkL (l : List Rf) : Prop := ∀ r ∈ l, U64 r.amount ∧ U64 r.at_
theorem OkL.tail {r : Rf} {l : List Rf} (h : OkL (r :: l)) : OkL l := fun x hx => h x (List.mem_cons_of_mem _ hx)
theorem OkL.head {r : Rf} {l : List Rf} (h : OkL (r :: l)) : U64 r.amount ∧ U64 r.at_ := h r (List.mem_cons_self)
theorem OkL.app {a b : List Rf} (h : OkL a) (k : OkL b) : OkL (a ++ b) := fun x hx => by
  rcases List.mem_append.1 hx with hx | hx
  · exact h x hx
  · exact k x hx
theorem OkL.sub {a b : List Rf} (h : OkL b) (hs : ∀ x ∈ a, x ∈ b) : OkL a := fun x hx => h x (hs x hx)
theorem tot_nonneg {l : List Rf} (h : OkL l) : 0 ≤ tot l := by
  induction l with
  | nil => simp [tot]
  | cons r l ih =>
    have h1 := h.head.1.1
    have h2 := ih h.tail
    simp only [tot]
    omega
theorem sum_none (l : List Rf) : l.foldl (fun o r => o.bind fun s => addP s r.amount) none = none := by
  induction l with
  | nil => rfl
  | cons r l ih => simpa using ih
theorem sum_from : ∀ (l : List Rf) (s : Int), OkL l → 0 ≤ s → s ≤ 18446744073709551615 → l.foldl (fun o r => o.bind fun s => addP s r.amount) (some s) = if 18446744073709551615 < s + tot l then none else some (s + tot l)
  | [], s, _, h0, h1 => by
    simp only [List.foldl_nil, tot, Int.add_zero]
    rw [if_neg (by omega)]
  | r :: l, s, h, h0, h1 => by
    have ha := h.head.1
    have hn := tot_nonneg h.tail
    unfold U64 at ha
    rw [List.foldl_cons, Option.bind_some, show tot (r :: l) = r.amount + tot l from rfl]
    by_cases hc : 18446744073709551615 < s + r.amount
    · rw [show addP s r.amount = none by rw [addP, if_pos hc], if_pos (by omega)]
      exact sum_none l
    · rw [show addP s r.amount = some (s + r.amount) by rw [addP, if_neg hc], sum_from l (s + r.amount) h.tail (by omega) (by omega), show s + r.amount + tot l = s + (r.amount + tot l) by omega]
theorem sumP_eq {l : List Rf} (h : OkL l) : sumP l = if 18446744073709551615 < tot l then none else some (tot l) := by
  have := sum_from l 0 h (by omega) (by omega)
  rw [Int.zero_add] at this
  exact this

/-- What is there at a time, together. -/
def totTo (now : Int) : List Rf → Int
  | [] => 0
  | r :: l => (if now < r.at_ then 0 else r.amount) + totTo now l
theorem totTo_append (now : Int) (a b : List Rf) : totTo now (a ++ b) = totTo now a + totTo now b := by
  induction a with
  | nil => simp [totTo]
  | cons r a ih => simp only [List.cons_append, totTo, ih]; omega
theorem totTo_bd {l : List Rf} (now : Int) (h : OkL l) : 0 ≤ totTo now l ∧ totTo now l ≤ tot l := by
  induction l with
  | nil => simp [totTo, tot]
  | cons r l ih =>
    have h1 := h.head.1.1
    have h2 := ih h.tail
    simp only [tot, totTo]
    split <;> omega
theorem there_none (now : Int) (l : List Rf) : l.foldl (thF now) none = none := by
  induction l with
  | nil => rfl
  | cons r l ih =>
    rw [List.foldl_cons, show thF now none r = none by unfold thF; split <;> rfl]
    exact ih
theorem there_from (now : Int) : ∀ (l : List Rf) (s : Int), OkL l → 0 ≤ s → s ≤ 18446744073709551615 → l.foldl (thF now) (some s) = if 18446744073709551615 < s + totTo now l then none else some (s + totTo now l)
  | [], s, _, h0, h1 => by
    simp only [List.foldl_nil, totTo, Int.add_zero]
    rw [if_neg (by omega)]
  | r :: l, s, h, h0, h1 => by
    have ha := h.head.1
    have hn := (totTo_bd now h.tail).1
    unfold U64 at ha
    rw [List.foldl_cons]
    by_cases hat : now < r.at_
    · rw [show totTo now (r :: l) = totTo now l by rw [totTo, if_pos hat, Int.zero_add], show thF now (some s) r = some s by rw [thF, if_pos hat], there_from now l s h.tail h0 h1]
    · rw [show totTo now (r :: l) = r.amount + totTo now l by rw [totTo, if_neg hat], show thF now (some s) r = addP s r.amount by rw [thF, if_neg hat]; rfl]
      by_cases hc : 18446744073709551615 < s + r.amount
      · rw [show addP s r.amount = none by rw [addP, if_pos hc], if_pos (by omega)]
        exact there_none now l
      · rw [show addP s r.amount = some (s + r.amount) by rw [addP, if_neg hc], there_from now l (s + r.amount) h.tail (by omega) (by omega), show s + r.amount + totTo now l = s + (r.amount + totTo now l) by omega]
theorem thereV_eq {l : List Rf} (now : Int) (h : OkL l) : thereV l now = if 18446744073709551615 < totTo now l then 18446744073709551615 else totTo now l := by
  have := there_from now l 0 h (by omega) (by omega)
  rw [Int.zero_add] at this
  rw [thereV, thereP, this]
  split <;> rfl

/-- A list that may be. -/
structure MayL (l : List Rf) : Prop where
  pos : ∀ (k : Nat) (r : Rf), l[k]? = some r → 1 ≤ r.amount
  adj : ∀ (k : Nat) (r s : Rf), l[k]? = some r → l[k + 1]? = some s → r.at_ < s.at_
  fit : tot l ≤ 18446744073709551615
theorem MayL.nil : MayL [] := ⟨fun k r h => by simp at h, fun k r s h => by simp at h, by simp [tot]⟩
theorem MayL.lt {l : List Rf} (h : MayL l) {i j : Nat} {r s : Rf} (hi : l[i]? = some r) (hj : l[j]? = some s) (hij : i < j) : r.at_ < s.at_ := by
  induction j generalizing s with
  | zero => omega
  | succ j ih =>
    obtain ⟨x, hx⟩ : ∃ x, l[j]? = some x := ⟨l[j]'(by have := (List.getElem?_eq_some_iff.1 hj).1; omega), List.getElem?_eq_getElem _⟩
    have h1 := h.adj j x s hx hj
    by_cases e : i = j
    · subst e
      rw [hi] at hx
      cases hx
      exact h1
    · have := ih hx (by omega)
      omega

/-- How many are there. -/
def thN (l : List Rf) (now : Int) : Nat := (l.takeWhile fun r => decide (r.at_ ≤ now)).length
theorem thN_le (l : List Rf) (now : Int) : thN l now ≤ l.length := by
  unfold thN
  exact (List.takeWhile_prefix _).length_le
theorem thN_in : ∀ (l : List Rf) (now : Int) (j : Nat) (r : Rf), j < thN l now → l[j]? = some r → r.at_ ≤ now
  | [], now, j, r, h, hr => by simp at hr
  | x :: l, now, j, r, h, hr => by
    unfold thN at h
    rw [List.takeWhile_cons] at h
    split at h
    · rename_i hx
      match j, hr with
      | 0, hr => simp at hr; subst hr; simpa using hx
      | j + 1, hr => exact thN_in l now j r (by simpa [thN] using h) (by simpa using hr)
    · simp at h
theorem thN_at : ∀ (l : List Rf) (now : Int) (r : Rf), l[thN l now]? = some r → now < r.at_
  | [], now, r, hr => by simp at hr
  | x :: l, now, r, hr => by
    unfold thN at hr
    rw [List.takeWhile_cons] at hr
    split at hr
    · exact thN_at l now r (by simpa [thN] using hr)
    · rename_i hx
      simp at hr
      subst hr
      simpa using hx
theorem thN_eq {l : List Rf} {now : Int} {k : Nat} (hk : k ≤ l.length) (h1 : ∀ (j : Nat) (r : Rf), j < k → l[j]? = some r → r.at_ ≤ now) (h2 : ∀ r : Rf, l[k]? = some r → now < r.at_) : thN l now = k := by
  rcases Nat.lt_trichotomy (thN l now) k with h | h | h
  · obtain ⟨r, hr⟩ : ∃ r, l[thN l now]? = some r := ⟨l[thN l now]'(by omega), List.getElem?_eq_getElem _⟩
    have := thN_at l now r hr
    have := h1 _ r h hr
    omega
  · exact h
  · have hl := thN_le l now
    obtain ⟨r, hr⟩ : ∃ r, l[k]? = some r := ⟨l[k]'(by omega), List.getElem?_eq_getElem _⟩
    have := h2 r hr
    have := thN_in l now k r h hr
    omega

/-- The list in which what is there is one. -/
def dueL (l : List Rf) (now : Int) : List Rf := if thN l now = 0 then l else ⟨tot (l.take (thN l now)), ((l.take (thN l now)).getLastD ⟨0, 0⟩).at_⟩ :: l.drop (thN l now)
def lessL (l : List Rf) (k : Int) : List Rf := match l with
  | [] => []
  | r :: t => if r.amount - k = 0 then t else ⟨r.amount - k, r.at_⟩ :: t
/-- One comes at its end. -/
def putL (out : List Rf) (back : Int) (most : Int) : List Rf := match out.getLast? with
  | none => [⟨1, back⟩]
  | some x => if back ≤ x.at_ then out.dropLast ++ [⟨x.amount + 1, x.at_⟩] else if (out.length : Int) < most then out ++ [⟨1, back⟩] else out.dropLast ++ [⟨x.amount + 1, back⟩]

section
variable {l : List Rf} {now : Int}
theorem thN_zero_iff (h : MayL l) : thN l now = 0 ↔ ∀ r, l[0]? = some r → now < r.at_ := by
  constructor
  · intro e r hr
    exact thN_at l now r (by rw [e]; exact hr)
  · intro hr
    exact thN_eq (Nat.zero_le _) (fun j r hj => by omega) hr
theorem due_zero (h : thN l now = 0) : dueL l now = l := by rw [dueL, if_pos h]
/-- What is there, where the times rise: the first so many. -/
theorem totTo_take (h : MayL l) (T : Int) (hT : now ≤ T) : totTo T l = tot (l.take (thN l now)) + totTo T (l.drop (thN l now)) := by
  have e : totTo T (l.take (thN l now)) = tot (l.take (thN l now)) := by
    have hin : ∀ r ∈ l.take (thN l now), r.at_ ≤ now := by
      intro r hr
      obtain ⟨k, hk⟩ := List.getElem?_of_mem hr
      rw [List.getElem?_take] at hk
      split at hk
      · exact thN_in l now k r (by assumption) hk
      · cases hk
    clear h
    generalize l.take (thN l now) = a at *
    induction a with
    | nil => rfl
    | cons r a ih =>
      have := hin r List.mem_cons_self
      simp only [totTo, tot]
      rw [if_neg (by omega), ih fun x hx => hin x (List.mem_cons_of_mem _ hx)]
  conv => lhs; rw [← List.take_append_drop (thN l now) l]
  rw [totTo_append, e]
theorem totTo_drop (h : MayL l) : totTo now (l.drop (thN l now)) = 0 := by
  have hin : ∀ r ∈ l.drop (thN l now), now < r.at_ := by
    intro r hr
    obtain ⟨k, hk⟩ := List.getElem?_of_mem hr
    rw [List.getElem?_drop] at hk
    have hlt : thN l now < l.length := by have := (List.getElem?_eq_some_iff.1 hk).1; omega
    have h0 := thN_at l now _ (List.getElem?_eq_getElem hlt)
    by_cases e : k = 0
    · subst e
      rw [Nat.add_zero, List.getElem?_eq_getElem hlt] at hk
      cases hk
      exact h0
    · have := h.lt (List.getElem?_eq_getElem hlt) hk (by omega)
      omega
  generalize l.drop (thN l now) = a at *
  induction a with
  | nil => rfl
  | cons r a ih =>
    have := hin r List.mem_cons_self
    simp only [totTo]
    rw [if_pos this, ih fun x hx => hin x (List.mem_cons_of_mem _ hx)]
    rfl
theorem tot_due (l : List Rf) (now : Int) : tot (dueL l now) = tot l := by
  unfold dueL
  split
  · rfl
  · simp only [tot]
    conv => rhs; rw [← List.take_append_drop (thN l now) l]
    rw [tot_append]
theorem last_take {n : Nat} (hn : n < l.length) : (l.take (n + 1)).getLastD ⟨0, 0⟩ = l[n] := by
  have e : l.take (n + 1) = l.take n ++ [l[n]] := by
    rw [List.take_add_one, List.getElem?_eq_getElem hn]
    rfl
  rw [e]
  simp [-List.take_append_getElem]
theorem due_pos (h : thN l now ≠ 0) : ∃ r, l[thN l now - 1]? = some r ∧ r.at_ ≤ now ∧ dueL l now = ⟨tot (l.take (thN l now)), r.at_⟩ :: l.drop (thN l now) := by
  have hl := thN_le l now
  have hlt : thN l now - 1 < l.length := by omega
  refine ⟨l[thN l now - 1], List.getElem?_eq_getElem hlt, thN_in l now _ _ (by omega) (List.getElem?_eq_getElem hlt), ?_⟩
  have e := last_take (l := l) hlt
  rw [show thN l now - 1 + 1 = thN l now by omega] at e
  rw [dueL, if_neg h, e]
theorem tot_take_pos (h : MayL l) (n : Nat) (hn : 0 < n) (hl : 0 < l.length) (hok : OkL l) : 1 ≤ tot (l.take n) := by
  obtain ⟨m, rfl⟩ : ∃ m, n = m + 1 := ⟨n - 1, by omega⟩
  match l, hl, h, hok with
  | r :: t, _, h, hok =>
    have h1 := h.pos 0 r rfl
    have h2 : 0 ≤ tot (t.take m) := tot_nonneg (hok.tail.sub fun x hx => List.mem_of_mem_take hx)
    simp only [List.take_succ_cons, tot]
    omega
theorem may_cons {r : Rf} {t : List Rf} (h1 : 1 ≤ r.amount) (h2 : MayL t) (h3 : ∀ s, t[0]? = some s → r.at_ < s.at_) (h4 : tot (r :: t) ≤ 18446744073709551615) : MayL (r :: t) := by
  refine ⟨?_, ?_, h4⟩
  · intro k x hx
    match k, hx with
    | 0, hx => simp at hx; subst hx; exact h1
    | k + 1, hx => exact h2.pos k x (by simpa using hx)
  · intro k x y hx hy
    match k, hx, hy with
    | 0, hx, hy => simp at hx; subst hx; exact h3 y (by simpa using hy)
    | k + 1, hx, hy => exact h2.adj k x y (by simpa using hx) (by simpa using hy)
theorem may_tail {r : Rf} {t : List Rf} (h : MayL (r :: t)) : MayL t := by
  refine ⟨fun k x hx => h.pos (k + 1) x (by simpa using hx), fun k x y hx hy => h.adj (k + 1) x y (by simpa using hx) (by simpa using hy), ?_⟩
  have h1 := h.pos 0 r rfl
  have h2 := h.fit
  simp only [tot] at h2
  omega
theorem may_drop (h : MayL l) : ∀ n, MayL (l.drop n) := by
  intro n
  induction n generalizing l with
  | zero => simpa using h
  | succ n ih =>
    match l, h with
    | [], _ => simpa using MayL.nil
    | r :: t, h => simpa using ih (may_tail h)
theorem may_due (h : MayL l) (hok : OkL l) : MayL (dueL l now) := by
  by_cases h0 : thN l now = 0
  · rw [due_zero h0]; exact h
  · obtain ⟨r, hr, hat, hd⟩ := due_pos h0
    have hl := thN_le l now
    rw [hd]
    refine may_cons (tot_take_pos h _ (by omega) (by omega) hok) (may_drop h _) ?_ ?_
    · intro s hs
      rw [List.getElem?_drop, Nat.add_zero] at hs
      have h5 := h.lt (i := thN l now - 1) hr hs (by omega)
      exact h5
    · have := tot_due l now
      rw [hd] at this
      rw [this]
      exact h.fit
theorem ok_due (h : MayL l) (hok : OkL l) : OkL (dueL l now) := by
  by_cases h0 : thN l now = 0
  · rw [due_zero h0]; exact hok
  · obtain ⟨r, hr, hat, hd⟩ := due_pos h0
    rw [hd]
    intro x hx
    rcases List.mem_cons.1 hx with rfl | hx
    · have h1 := tot_nonneg (l := l.take (thN l now)) (hok.sub fun x hx => List.mem_of_mem_take hx)
      have h2 := tot_nonneg (l := l.drop (thN l now)) (hok.sub fun x hx => List.mem_of_mem_drop hx)
      have h3 : tot l = tot (l.take (thN l now)) + tot (l.drop (thN l now)) := by
        conv => lhs; rw [← List.take_append_drop (thN l now) l]
        rw [tot_append]
      have h4 := h.fit
      exact ⟨⟨h1, by simp only; omega⟩, (hok r (List.mem_of_getElem? hr)).2⟩
    · exact hok x (List.mem_of_mem_drop hx)
theorem due_len (l : List Rf) (now : Int) : (dueL l now).length ≤ l.length := by
  by_cases h0 : thN l now = 0
  · rw [due_zero h0]; exact Nat.le_refl _
  · have hl := thN_le l now
    obtain ⟨r, hr, hat, hd⟩ := due_pos h0
    rw [hd, List.length_cons, List.length_drop]
    omega
theorem totTo_due (h : MayL l) (T : Int) (hT : now ≤ T) : totTo T (dueL l now) = totTo T l := by
  by_cases h0 : thN l now = 0
  · rw [due_zero h0]
  · obtain ⟨r, hr, hat, hd⟩ := due_pos h0
    rw [hd, totTo_take h T hT]
    simp only [totTo]
    rw [if_neg (by omega)]
theorem due_nil : dueL ([] : List Rf) now = [] := by rfl
/-- A list whose first one alone is there is due as it is. -/
theorem due_self {r : Rf} {t : List Rf} (h1 : r.at_ ≤ now) (h2 : ∀ s, t[0]? = some s → now < s.at_) : dueL (r :: t) now = r :: t ∧ thN (r :: t) now = 1 := by
  have e : thN (r :: t) now = 1 := thN_eq (by simp) (fun j x hj hx => by
    obtain rfl : j = 0 := by omega
    simp at hx
    subst hx
    exact h1) (fun s hs => h2 s (by simpa using hs))
  refine ⟨?_, e⟩
  rw [dueL, e, if_neg (by omega)]
  simp [tot]
theorem due_due (h : MayL l) (hok : OkL l) (h0 : thN l now ≠ 0) : thN (dueL l now) now = 1 := by
  obtain ⟨r, hr, hat, hd⟩ := due_pos h0
  rw [hd]
  exact (due_self (r := ⟨tot (l.take (thN l now)), r.at_⟩) hat fun s hs => by
    rw [List.getElem?_drop, Nat.add_zero] at hs
    exact thN_at l now s hs).2
/-- The reference's merging, a step. -/
theorem thN_take (l : List Rf) (now : Int) (k : Nat) : thN (l.take k) now = min (thN l now) k := by
  have hl := thN_le l now
  by_cases h : thN l now ≤ k
  · rw [Nat.min_eq_left h]
    refine thN_eq (by rw [List.length_take]; omega) ?_ ?_
    · intro j r hj hr
      rw [List.getElem?_take, if_pos (by omega)] at hr
      exact thN_in l now j r hj hr
    · intro r hr
      rw [List.getElem?_take] at hr
      split at hr
      · exact thN_at l now r hr
      · cases hr
  · rw [Nat.min_eq_right (by omega)]
    refine thN_eq (by rw [List.length_take]; omega) ?_ ?_
    · intro j r hj hr
      rw [List.getElem?_take, if_pos hj] at hr
      exact thN_in l now j r (by omega) hr
    · intro r hr
      rw [List.getElem?_take, if_neg (by omega)] at hr
      cases hr
theorem due_merge {k : Nat} {r : Rf} (h : MayL l) (hk : k ≠ 0) (hr : l[k]? = some r) (hat : r.at_ ≤ now) :
    (∃ a, dueL (l.take k) now = [⟨tot (l.take k), a⟩]) ∧ dueL (l.take (k + 1)) now = [⟨tot (l.take k) + r.amount, r.at_⟩] := by
  have hlt : k < l.length := (List.getElem?_eq_some_iff.1 hr).1
  have hth : k < thN l now := by
    rcases Nat.lt_or_ge k (thN l now) with h1 | h1
    · exact h1
    · exfalso
      have hl : thN l now < l.length := by omega
      have h2 := thN_at l now _ (List.getElem?_eq_getElem hl)
      by_cases e : thN l now = k
      · have h3 : l[thN l now]? = some r := by rw [e]; exact hr
        have := thN_at l now r h3
        omega
      · have := h.lt (List.getElem?_eq_getElem hl) hr (by omega)
        omega
  constructor
  · have e : thN (l.take k) now = k := by rw [thN_take]; omega
    refine ⟨(((l.take k).take k).getLastD ⟨0, 0⟩).at_, ?_⟩
    rw [dueL, e, if_neg hk]
    simp [List.take_take]
  · have e : thN (l.take (k + 1)) now = k + 1 := by rw [thN_take]; omega
    rw [dueL, e, if_neg (by omega), List.take_take, Nat.min_self, last_take hlt]
    have e2 : l[k] = r := by
      rw [List.getElem?_eq_getElem hlt] at hr
      simpa using hr
    rw [e2]
    have e3 : l.take (k + 1) = l.take k ++ [r] := by rw [List.take_add_one, hr]; rfl
    rw [e3, tot_append]
    simp [tot]
    omega
theorem due_app {k : Nat} {r : Rf} (hr : l[k]? = some r) (hc : k = 0 ∨ now < r.at_) : dueL (l.take (k + 1)) now = dueL (l.take k) now ++ [r] := by
  have hlt : k < l.length := (List.getElem?_eq_some_iff.1 hr).1
  have e3 : l.take (k + 1) = l.take k ++ [r] := by rw [List.take_add_one, hr]; rfl
  by_cases hk : k = 0
  · subst hk
    rw [List.take_zero] at e3 ⊢
    rw [e3, due_nil, List.nil_append]
    by_cases ha : r.at_ ≤ now
    · exact (due_self ha (fun s hs => by simp at hs)).1
    · exact due_zero (thN_eq (by simp) (fun j x hj => by omega) (fun s hs => by simp at hs; subst hs; omega))
  · have ha := hc.resolve_left hk
    have hth : thN l now ≤ k := by
      rcases Nat.lt_or_ge k (thN l now) with h1 | h1
      · have := thN_in l now k r h1 hr
        omega
      · exact h1
    have t1 : thN (l.take (k + 1)) now = thN l now := by rw [thN_take]; omega
    have t2 : thN (l.take k) now = thN l now := by rw [thN_take]; omega
    unfold dueL
    rw [t1, t2]
    split
    · exact e3
    · rw [List.take_take, List.take_take, Nat.min_eq_left (by omega), Nat.min_eq_left hth, e3, List.drop_append, List.length_take, Nat.min_eq_left (by omega), show thN l now - k = 0 by omega, List.drop_zero]
      rfl
end
end Go.Proofs.Ytknodagcmachiaa.Fi
