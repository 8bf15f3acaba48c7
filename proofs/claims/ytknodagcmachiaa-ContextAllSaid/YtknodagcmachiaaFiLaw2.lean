/-
  The plain law of refills: what a charge, a gift, a pull leaves. No statement is proved here.
-/
import Derived.Test.YtknodagcmachiaaFiLaw
namespace Go.Proofs.Ytknodagcmachiaa.Fi
open Go.RowKit
set_option linter.unusedVariables false

section
variable {r x y : Rf} {t a init out l : List Rf} {k back most now T : Int}
theorem lessL_cons : lessL (r :: t) k = if r.amount - k = 0 then t else ⟨r.amount - k, r.at_⟩ :: t := rfl
theorem less_may (h : MayL (r :: t)) (hok : OkL (r :: t)) (h1 : 1 ≤ k) (h2 : k ≤ r.amount) :
    MayL (lessL (r :: t) k) ∧ OkL (lessL (r :: t) k) ∧ tot (lessL (r :: t) k) = tot (r :: t) - k ∧ (lessL (r :: t) k).length ≤ (r :: t).length := by
  rw [lessL_cons]
  have hf := h.fit
  simp only [tot] at hf
  split
  · refine ⟨may_tail h, hok.tail, ?_, by simp⟩
    simp only [tot]
    omega
  · have hu := hok.head
    unfold U64 at hu
    refine ⟨may_cons (by simp only; omega) (may_tail h) (fun s hs => h.adj 0 r s rfl (by simpa using hs)) (by simp only [tot]; omega), ?_, ?_, by simp⟩
    · intro z hz
      rcases List.mem_cons.1 hz with rfl | hz
      · exact ⟨⟨by simp only; omega, by simp only; omega⟩, hok.head.2⟩
      · exact hok z (List.mem_cons_of_mem _ hz)
    · simp only [tot]
      omega
theorem less_totTo (h2 : k ≤ r.amount) (hat : r.at_ ≤ T) : totTo T (lessL (r :: t) k) = totTo T (r :: t) - k := by
  rw [lessL_cons]
  split
  · simp only [totTo]
    rw [if_neg (by omega)]
    omega
  · simp only [totTo]
    rw [if_neg (by omega), if_neg (by omega)]
    omega
theorem putL_nil : putL [] back most = [⟨1, back⟩] := rfl
theorem putL_app : putL (init ++ [x]) back most = if back ≤ x.at_ then init ++ [⟨x.amount + 1, x.at_⟩] else if ((init.length + 1 : Nat) : Int) < most then init ++ [x] ++ [⟨1, back⟩] else init ++ [⟨x.amount + 1, back⟩] := by
  unfold putL
  rw [List.getLast?_append]
  simp
theorem may_snoc (h : MayL a) (h1 : 1 ≤ y.amount) (h2 : ∀ z, a[a.length - 1]? = some z → z.at_ < y.at_) (h3 : tot a + y.amount ≤ 18446744073709551615) : MayL (a ++ [y]) := by
  refine ⟨?_, ?_, by rw [tot_append]; simp only [tot]; omega⟩
  · intro k z hz
    by_cases hk : k < a.length
    · rw [List.getElem?_append_left hk] at hz
      exact h.pos k z hz
    · rw [List.getElem?_append_right (by omega)] at hz
      obtain ⟨hl, e⟩ := List.getElem?_eq_some_iff.1 hz
      simp at hl e
      subst e
      exact h1
  · intro k z s hz hs
    have hl := (List.getElem?_eq_some_iff.1 hs).1
    simp at hl
    by_cases hk : k + 1 < a.length
    · rw [List.getElem?_append_left (by omega)] at hz
      rw [List.getElem?_append_left hk] at hs
      exact h.adj k z s hz hs
    · rw [List.getElem?_append_left (by omega)] at hz
      rw [List.getElem?_append_right (by omega), show k + 1 - a.length = 0 by omega] at hs
      simp at hs
      subst hs
      exact h2 z (by rw [show a.length - 1 = k by omega]; exact hz)
theorem may_init (h : MayL (init ++ [x])) (hx : 0 ≤ x.amount) : MayL init ∧ ∀ z, init[init.length - 1]? = some z → z.at_ < x.at_ := by
  refine ⟨⟨?_, ?_, ?_⟩, ?_⟩
  · intro k z hz
    exact h.pos k z (by rw [List.getElem?_append_left (List.getElem?_eq_some_iff.1 hz).1]; exact hz)
  · intro k z s hz hs
    exact h.adj k z s (by rw [List.getElem?_append_left (List.getElem?_eq_some_iff.1 hz).1]; exact hz) (by rw [List.getElem?_append_left (List.getElem?_eq_some_iff.1 hs).1]; exact hs)
  · have := h.fit
    rw [tot_append] at this
    simp only [tot] at this
    omega
  · intro z hz
    have hl := (List.getElem?_eq_some_iff.1 hz).1
    refine h.adj (init.length - 1) z x (by rw [List.getElem?_append_left hl]; exact hz) ?_
    rw [show init.length - 1 + 1 = init.length by omega, List.getElem?_append_right (Nat.le_refl _), Nat.sub_self]
    rfl
theorem put_may (h : MayL out) (hok : OkL out) (hf : tot out + 1 ≤ 18446744073709551615) (hb : U64 back) :
    MayL (putL out back most) ∧ OkL (putL out back most) ∧ tot (putL out back most) = tot out + 1 := by
  rcases List.eq_nil_or_concat out with rfl | ⟨init, x, rfl⟩
  · rw [putL_nil]
    refine ⟨⟨?_, ?_, by simp [tot]⟩, ?_, by simp [tot]⟩
    · intro k z hz
      have := (List.getElem?_eq_some_iff.1 hz).1
      simp at this
      subst this
      simp at hz
      subst hz
      simp
    · intro k z s hz hs
      have := (List.getElem?_eq_some_iff.1 hs).1
      simp at this
    · intro z hz
      simp at hz
      subst hz
      exact ⟨⟨by simp, by simp⟩, hb⟩
  · rw [List.concat_eq_append] at *
    rw [putL_app]
    have hx := hok x (by simp)
    have hx1 := h.pos init.length x (by simp)
    obtain ⟨hi, hl⟩ := may_init h (by omega)
    rw [tot_append] at hf ⊢
    simp only [tot] at hf ⊢
    have hni := tot_nonneg (l := init) (OkL.sub hok fun z hz => by simp [hz])
    have hoki : OkL init := OkL.sub hok fun z hz => by simp [hz]
    have hone : ∀ y : Rf, U64 y.amount ∧ U64 y.at_ → OkL (init ++ [y]) := fun y hy => OkL.app hoki (fun z hz => by simp at hz; subst hz; exact hy)
    unfold U64 at hx
    split
    · refine ⟨may_snoc hi (by simp only; omega) (fun z hz => by have := hl z hz; simp only; omega) (by simp only; omega), hone _ ⟨⟨by simp only; omega, by simp only; omega⟩, hx.2⟩, ?_⟩
      rw [tot_append]
      simp only [tot]
      omega
    · rename_i hlt
      split
      · refine ⟨may_snoc h (by simp) (fun z hz => ?_) (by rw [tot_append]; simp only [tot]; omega), OkL.app hok (fun z hz => by simp at hz; subst hz; exact ⟨⟨by simp, by simp⟩, hb⟩), ?_⟩
        · simp at hz
          subst hz
          simp only
          omega
        · rw [tot_append, tot_append]
          simp only [tot]
          omega
      · refine ⟨may_snoc hi (by simp only; omega) (fun z hz => by have := hl z hz; simp only; omega) (by simp only; omega), hone _ ⟨⟨by simp only; omega, by simp only; omega⟩, hb⟩, ?_⟩
        rw [tot_append]
        simp only [tot]
        omega
theorem put_len (h : (out.length : Int) ≤ most) (h1 : 1 ≤ most) : ((putL out back most).length : Int) ≤ most := by
  rcases List.eq_nil_or_concat out with rfl | ⟨init, x, rfl⟩
  · rw [putL_nil]
    simpa using h1
  · rw [List.concat_eq_append] at *
    rw [putL_app]
    simp at h
    split
    · simpa using h
    · split
      · simp
        omega
      · simpa using h
theorem put_totTo (hok : OkL out) (hT : T < back) : totTo T (putL out back most) ≤ totTo T out := by
  rcases List.eq_nil_or_concat out with rfl | ⟨init, x, rfl⟩
  · rw [putL_nil]
    simp only [totTo]
    rw [if_pos hT]
    omega
  · rw [List.concat_eq_append] at *
    have hx := (hok x (by simp)).1
    unfold U64 at hx
    rw [putL_app]
    split
    · rw [totTo_append, totTo_append]
      simp only [totTo]
      rw [if_pos (by omega), if_pos (by omega)]
      omega
    · split
      · rw [totTo_append]
        simp only [totTo]
        rw [if_pos hT]
        omega
      · rw [totTo_append, totTo_append]
        simp only [totTo]
        rw [if_pos hT]
        split <;> omega
theorem put_totTo1 (hok : OkL out) (hT : back ≤ T) : totTo T (putL out back most) ≤ totTo T out + 1 := by
  rcases List.eq_nil_or_concat out with rfl | ⟨init, x, rfl⟩
  · rw [putL_nil]
    simp only [totTo]
    rw [if_neg (by omega)]
    omega
  · rw [List.concat_eq_append] at *
    have hx := (hok x (by simp)).1
    unfold U64 at hx
    rw [putL_app]
    split
    · rw [totTo_append, totTo_append]
      simp only [totTo]
      split <;> omega
    · split
      · rw [totTo_append]
        simp only [totTo]
        rw [if_neg (by omega)]
        omega
      · rw [totTo_append, totTo_append]
        simp only [totTo]
        rw [if_neg (by omega), if_neg (by omega)]
        omega

/-- When one can be used. -/
structure ChOk (l : List Rf) (now period most : Int) : Prop where
  may : MayL l
  m1 : 1 ≤ most
  len : (l.length : Int) ≤ most
  per : period ≠ 0
  fits : now + period ≤ 18446744073709551615
  th : thN l now ≠ 0
def chargeL (l : List Rf) (now period most : Int) : List Rf := putL (lessL (dueL l now) 1) (now + period) most
theorem due_cons (h : MayL l) (hok : OkL l) (h0 : thN l now ≠ 0) : ∃ r t, dueL l now = r :: t ∧ r.at_ ≤ now ∧ 1 ≤ r.amount := by
  obtain ⟨z, hz, hat, hd⟩ := due_pos h0
  have hm := may_due (now := now) h hok
  rw [hd] at hm ⊢
  exact ⟨_, _, rfl, hat, hm.pos 0 _ rfl⟩
theorem charge_law {period : Int} (h : ChOk l now period most) (hok : OkL l) (hn : 0 ≤ now) (hp : 0 ≤ period) :
    MayL (chargeL l now period most) ∧ OkL (chargeL l now period most) ∧ tot (chargeL l now period most) = tot l ∧ ((chargeL l now period most).length : Int) ≤ most := by
  obtain ⟨r, t, hd, hat, h1⟩ := due_cons h.may hok h.th
  have hm := may_due (now := now) h.may hok
  have hk := ok_due (now := now) h.may hok
  have ht := tot_due l now
  have hl := due_len l now
  unfold chargeL
  rw [hd] at hm hk ht hl ⊢
  obtain ⟨a1, a2, a3, a4⟩ := less_may hm hk (k := 1) (by omega) h1
  have hf := h.may.fit
  have hfi := h.fits
  obtain ⟨b1, b2, b3⟩ := put_may (most := most) (back := now + period) a1 a2 (by omega) ⟨by omega, by omega⟩
  have hle := h.len
  exact ⟨b1, b2, by omega, put_len (by omega) h.m1⟩
theorem charge_totTo {period : Int} (h : ChOk l now period most) (hok : OkL l) (hn : 0 ≤ now) (hp : 0 ≤ period) (hT : now ≤ T) :
    totTo T (chargeL l now period most) + (if T < now + period then 1 else 0) ≤ totTo T l := by
  obtain ⟨r, t, hd, hat, h1⟩ := due_cons h.may hok h.th
  have hm := may_due (now := now) h.may hok
  have hk := ok_due (now := now) h.may hok
  have ht := totTo_due (now := now) h.may T hT
  unfold chargeL
  rw [hd] at hm hk ht ⊢
  obtain ⟨a1, a2, a3, a4⟩ := less_may hm hk (k := 1) (by omega) h1
  have h2 := less_totTo (t := t) (T := T) (k := 1) h1 (by omega)
  split
  · have := put_totTo (most := most) (back := now + period) a2 (by assumption)
    omega
  · have := put_totTo1 (most := most) (back := now + period) (T := T) a2 (by omega)
    omega
theorem charge_there {period : Int} (h : ChOk l now period most) (hok : OkL l) (hn : 0 ≤ now) (hp : 0 ≤ period) : thereV (chargeL l now period most) now ≤ thereV l now := by
  have h1 := charge_totTo (T := now) h hok hn hp (Int.le_refl _)
  have h2 := (charge_law h hok hn hp).2.1
  rw [thereV_eq now hok, thereV_eq now h2]
  have := h.per
  rw [if_pos (by omega)] at h1
  split <;> split <;> omega
/-- Something is there just where the first one is. -/
theorem there_iff (h : MayL l) (hok : OkL l) : 0 < thereV l now ↔ thN l now ≠ 0 := by
  have ht := totTo_take (now := now) h now (Int.le_refl _)
  rw [totTo_drop h] at ht
  have hb := totTo_bd now hok
  have hf := h.fit
  rw [thereV_eq now hok, if_neg (by omega)]
  constructor
  · intro h0 e
    rw [e] at ht
    simp [tot] at ht
    omega
  · intro h0
    have hl := thN_le l now
    have := tot_take_pos h (thN l now) (by omega) (by omega) hok
    omega

/-- When so much can be given. -/
structure GvOk (l : List Rf) (amount most : Int) : Prop where
  may : MayL l
  am : amount ≠ 0
  m1 : 1 ≤ most
  len : (l.length : Int) ≤ most
def giveL (l : List Rf) (now amount : Int) : List Rf := if thN l now = 0 then ⟨amount, now⟩ :: l else match dueL l now with
  | [] => []
  | r :: t => ⟨r.amount + amount, r.at_⟩ :: t
theorem th_due_zero (h : MayL l) (hok : OkL l) : thN (dueL l now) now = 0 ↔ thN l now = 0 := by
  constructor
  · intro e
    by_cases h0 : thN l now = 0
    · exact h0
    · have := due_due h hok h0
      omega
  · intro e
    rw [due_zero e]
    exact e
theorem give_law {amount : Int} (h : GvOk l amount most) (hok : OkL l) (hn : U64 now) (ha : U64 amount) (hf : tot l + amount ≤ 18446744073709551615) (hr : thN l now = 0 → (l.length : Int) ≠ most) :
    MayL (giveL l now amount) ∧ OkL (giveL l now amount) ∧ ((giveL l now amount).length : Int) ≤ most ∧ dueL (giveL l now amount) now = giveL l now amount ∧ amount ≤ totTo now (giveL l now amount) ∧ lessL (giveL l now amount) amount = dueL l now ∧ (∃ r t, giveL l now amount = r :: t ∧ amount ≤ r.amount) := by
  have ham := h.am
  unfold U64 at ha
  have hlen := h.len
  by_cases h0 : thN l now = 0
  · have hfst : ∀ s : Rf, l[0]? = some s → now < s.at_ := (thN_zero_iff h.may).1 h0
    have hge : giveL l now amount = ⟨amount, now⟩ :: l := by rw [giveL, if_pos h0]
    rw [hge]
    have hd := due_self (r := ⟨amount, now⟩) (t := l) (now := now) (by simp) hfst
    have hm : MayL (⟨amount, now⟩ :: l) := may_cons (by simp only; omega) h.may hfst (by simp only [tot]; omega)
    have hk : OkL (⟨amount, now⟩ :: l) := fun z hz => by
      rcases List.mem_cons.1 hz with rfl | hz
      · exact ⟨ha, hn⟩
      · exact hok z hz
    refine ⟨hm, hk, ?_, hd.1, ?_, ?_, ⟨_, _, rfl, by simp⟩⟩
    · have := hr h0
      simp only [List.length_cons]
      omega
    · have := (totTo_bd now hok).1
      simp only [totTo]
      rw [if_neg (by omega)]
      omega
    · rw [due_zero h0]
      simp [lessL]
  · obtain ⟨z, hz, hat, hd⟩ := due_pos h0
    have hm := may_due (now := now) h.may hok
    have hk := ok_due (now := now) h.may hok
    have ht := tot_due l now
    have hl := due_len l now
    have hdd := due_due h.may hok h0
    have hge : giveL l now amount = ⟨tot (l.take (thN l now)) + amount, z.at_⟩ :: l.drop (thN l now) := by rw [giveL, if_neg h0, hd]
    rw [hge]
    rw [hd] at hm hk ht hl ⊢
    have hp := hm.pos 0 _ rfl
    have hnn := tot_nonneg hk.tail
    simp only [tot] at ht hp hnn
    have hfst : ∀ s : Rf, (l.drop (thN l now))[0]? = some s → now < s.at_ := fun s hs => by
      rw [List.getElem?_drop, Nat.add_zero] at hs
      exact thN_at l now s hs
    have hds := due_self (r := ⟨tot (l.take (thN l now)) + amount, z.at_⟩) (t := l.drop (thN l now)) (now := now) hat hfst
    refine ⟨may_cons (by simp only; omega) (may_tail hm) (fun s hs => by have := hfst s hs; simp only; omega) (by simp only [tot]; omega), ?_, ?_, hds.1, ?_, ?_, ⟨_, _, rfl, by simp only; omega⟩⟩
    · intro s hs
      rcases List.mem_cons.1 hs with rfl | hs
      · exact ⟨⟨by simp only; omega, by simp only; omega⟩, (hk.head).2⟩
      · exact hk.tail s hs
    · simp only [List.length_cons] at hl ⊢
      omega
    · have := (totTo_bd now hk.tail).1
      simp only [totTo]
      rw [if_neg (by omega)]
      omega
    · simp only [lessL]
      rw [if_neg (by omega)]
      congr 2
      omega
end
end Go.Proofs.Ytknodagcmachiaa.Fi
