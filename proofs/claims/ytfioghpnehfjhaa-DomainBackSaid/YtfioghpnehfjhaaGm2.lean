/-
  Law 09: the books behind Carve and Merge, plainly. No statement is proved here.
-/
import Derived.Test.YtfioghpnehfjhaaGm1
namespace Go.Proofs.Ytfioghpnehfjhaa.Dm
open Go.RowKit Ad
set_option linter.unusedVariables false

section
variable {n T : Nat} {ps : List Pl} {free : List Nat}
/-- Domains with one carved out of k, at m. -/
def carP (ps : List Pl) (k m : Nat) (a am : Pl) (gs cpu per : Int) : List Pl := (ps.set m { am with there := true, x := domX k a.gen gs cpu per }).set k { a with x := carX a.x gs cpu }
theorem carP_set {k m : Nat} {a am : Pl} (ha : ps[k]? = some a) (ht : a.there = true) (hm : ps[m]? = some am) (hmt : am.there = false) (gs cpu per : Int) :
    setP (ps.set m { am with there := true, x := domX k a.gen gs cpu per }) k a.gen (carX (getX ps k a.gen) gs cpu) = carP ps k m a am gs cpu per := by
  have hne : m ≠ k := fun e => by subst e; rw [ha] at hm; cases hm; rw [ht] at hmt; cases hmt
  rw [(getX_of ha ht).1]
  unfold setP
  rw [isAt_of (show (ps.set m { am with there := true, x := domX k a.gen gs cpu per })[k]? = some a by rw [List.getElem?_set_ne hne]; exact ha) ht]
  rfl
theorem Rel.carve {m k : Nat} {a am : Pl} (h : Rel n T ps (free ++ [m])) (ha : ps[k]? = some a) (ht : a.there = true) (hm : ps[m]? = some am) {gs cpu per : Int} (hmay : MayD gs cpu per) (hc : 0 ≤ cpu) (hf : FitsD a.x gs cpu) :
    Rel n (T + 1) (carP ps k m a am gs cpu per) free := by
  have hmt : am.there = false := by
    obtain ⟨b, hb, hbt⟩ := (h.mem m).1 (by simp)
    rw [hm] at hb
    cases hb
    exact hbt
  have hne : m ≠ k := fun e => by subst e; rw [ha] at hm; cases hm; rw [ht] at hmt; cases hmt
  have hml : m < ps.length := (List.getElem?_eq_some_iff.1 hm).1
  have hkl : k < ps.length := (List.getElem?_eq_some_iff.1 ha).1
  obtain ⟨m1, m2, m3, m4, m5⟩ := hmay
  obtain ⟨f1, f2⟩ := hf
  have hlim := h.lim k a ha ht
  -- what lies where
  have atK : (carP ps k m a am gs cpu per)[k]? = some { a with x := carX a.x gs cpu } := List.getElem?_set_self (by rw [List.length_set]; exact hkl)
  have atM : (carP ps k m a am gs cpu per)[m]? = some { am with there := true, x := domX k a.gen gs cpu per } := by
    unfold carP
    rw [List.getElem?_set_ne (by omega)]
    exact List.getElem?_set_self hml
  have atO : ∀ j : Nat, j ≠ k → j ≠ m → (carP ps k m a am gs cpu per)[j]? = ps[j]? := fun j h1 h2 => by
    unfold carP
    rw [List.getElem?_set_ne (by omega), List.getElem?_set_ne (by omega)]
  have get : ∀ (j : Nat) (b : Pl), (carP ps k m a am gs cpu per)[j]? = some b → (j = k ∧ b = { a with x := carX a.x gs cpu }) ∨ (j = m ∧ b = { am with there := true, x := domX k a.gen gs cpu per }) ∨ (j ≠ k ∧ j ≠ m ∧ ps[j]? = some b) := by
    intro j b hb
    by_cases h1 : j = k
    · subst h1
      rw [atK] at hb
      exact .inl ⟨rfl, (Option.some.inj hb).symm⟩
    · by_cases h2 : j = m
      · subst h2
        rw [atM] at hb
        exact .inr (.inl ⟨rfl, (Option.some.inj hb).symm⟩)
      · rw [atO j h1 h2] at hb
        exact .inr (.inr ⟨h1, h2, hb⟩)
  have hkid : ∀ (t : Bk) (j : Nat) (g : Int), kidS t.each (carP ps k m a am gs cpu per) j g = kidS t.each ps j g + (if kidB { am with there := true, x := domX k a.gen gs cpu per } j g then t.each (domX k a.gen gs cpu per) else 0) := by
    intro t j g
    unfold carP
    rw [kidS_set (a := a) (by rw [List.getElem?_set_ne (by omega)]; exact ha), kidS_set hm]
    have e0 : kidB am j g = false := by unfold kidB; rw [hmt]; rfl
    have e1 : kidB { a with x := carX a.x gs cpu } j g = kidB a j g := rfl
    have e2 : t.each (carX a.x gs cpu) = t.each a.x := by cases t <;> rfl
    rw [e0, e1, show ({ a with x := carX a.x gs cpu } : Pl).x = carX a.x gs cpu from rfl, e2]
    simp
  obtain ⟨rank, r1, r2⟩ := h.tree
  have hnd := List.nodup_append.1 h.nodup
  refine ⟨by simp [carP, h.len], h.n1, h.n32, ?_, hnd.1, ?_, ?_, ?_, ?_, ⟨fun j => if j = m then rank k + 1 else rank j, ?_, ?_⟩, ?_⟩
  · intro j
    by_cases h1 : j = k
    · subst h1
      constructor
      · intro hj
        obtain ⟨b, hb, hbt⟩ := (h.mem j).1 (List.mem_append_left _ hj)
        rw [ha] at hb
        cases hb
        rw [ht] at hbt
        cases hbt
      · rintro ⟨b, hb, hbt⟩
        rw [atK] at hb
        cases hb
        rw [show ({ a with x := carX a.x gs cpu } : Pl).there = a.there from rfl, ht] at hbt
        cases hbt
    · by_cases h2 : j = m
      · subst h2
        constructor
        · intro hj
          exact absurd rfl (hnd.2.2 j hj j (by simp))
        · rintro ⟨b, hb, hbt⟩
          rw [atM] at hb
          cases hb
          cases hbt
      · rw [atO j h1 h2, ← h.mem j]
        simp [h2]
  · intro j b hb
    rcases get j b hb with ⟨rfl, rfl⟩ | ⟨rfl, rfl⟩ | ⟨_, _, hb⟩
    · have := h.gens _ a ha
      exact ⟨this.1, by have := this.2; show a.gen ≤ _; omega⟩
    · have := h.gens _ am hm
      exact ⟨this.1, by have := this.2; show am.gen ≤ _; omega⟩
    · have := h.gens j b hb
      exact ⟨this.1, by omega⟩
  · intro j b hb
    rcases get j b hb with ⟨rfl, rfl⟩ | ⟨rfl, rfl⟩ | ⟨_, _, hb⟩
    · refine ⟨(h.gone _ a ha).1, fun hbt => ?_⟩
      rw [show ({ a with x := carX a.x gs cpu } : Pl).there = a.there from rfl, ht] at hbt
      cases hbt
    · exact ⟨(h.gone _ am hm).1, fun hbt => by cases hbt⟩
    · exact h.gone j b hb
  · intro j b hb hbt
    rcases get j b hb with ⟨rfl, rfl⟩ | ⟨rfl, rfl⟩ | ⟨_, _, hb⟩
    · have q1 := hlim.own
      have q2 := hlim.car
      exact ⟨hlim.gs, hlim.cpu, hlim.used, ⟨q1.1, by show a.x.v7 + (a.x.v5 + gs) ≤ a.x.v2; omega⟩, by show a.x.v6 + cpu ≤ a.x.v3; omega⟩
    · exact ⟨⟨m1, m2⟩, ⟨hc, m3⟩, ⟨Int.le_refl _, by show (0 : Int) ≤ _; omega⟩, ⟨Int.le_refl _, by show (0 : Int) + 0 ≤ gs; omega⟩, hc⟩
    · exact h.lim j b hb hbt
  · obtain ⟨b, hb, hbt, g1, g2, g3⟩ := h.root
    have h0m : (0 : Nat) ≠ m := fun e => by subst e; rw [hm] at hb; cases hb; rw [hmt] at hbt; cases hbt
    by_cases h0k : (0 : Nat) = k
    · subst h0k
      rw [ha] at hb
      cases hb
      exact ⟨_, atK, hbt, g1, g2, g3⟩
    · exact ⟨b, by rw [atO 0 h0k h0m]; exact hb, hbt, g1, g2, g3⟩
  · intro j
    simp only
    split
    · have := r1 k; omega
    · have := r1 j; omega
  · have par : ∀ (i : Nat) (d : Pl), ps[i]? = some d → d.there = true → ∃ d', (carP ps k m a am gs cpu per)[i]? = some d' ∧ d'.there = true ∧ d'.gen = d.gen ∧ i ≠ m := by
      intro i d hi hd
      have him : i ≠ m := fun e => by subst e; rw [hm] at hi; cases hi; rw [hmt] at hd; cases hd
      by_cases hik : i = k
      · subst hik
        rw [ha] at hi
        cases hi
        exact ⟨_, atK, hd, rfl, him⟩
      · exact ⟨d, by rw [atO i hik him]; exact hi, hd, rfl, him⟩
    intro j b hb hbt hj0
    rcases get j b hb with ⟨rfl, rfl⟩ | ⟨rfl, rfl⟩ | ⟨h1, h2, hb⟩
    · obtain ⟨i, d, hi, hd, q1, q2, hr⟩ := r2 _ a ha ht hj0
      obtain ⟨d', hd', hdt, hdg, him⟩ := par i d hi hd
      exact ⟨i, d', hd', hdt, q1, by rw [hdg]; exact q2, by simp only [if_neg him, if_neg (Ne.symm hne)]; exact hr⟩
    · obtain ⟨d', hd', hdt, hdg, him⟩ := par k a ha ht
      exact ⟨k, d', hd', hdt, rfl, by rw [hdg], by simp only [if_neg him, if_pos]; omega⟩
    · obtain ⟨i, d, hi, hd, q1, q2, hr⟩ := r2 j b hb hbt hj0
      obtain ⟨d', hd', hdt, hdg, him⟩ := par i d hi hd
      exact ⟨i, d', hd', hdt, q1, by rw [hdg]; exact q2, by simp only [if_neg him, if_neg h2]; exact hr⟩
  · intro t j b hb hbt
    rw [hkid]
    rcases get j b hb with ⟨rfl, rfl⟩ | ⟨rfl, rfl⟩ | ⟨h1, h2, hb⟩
    · have hbk := h.books t _ a ha ht
      have e : kidB { am with there := true, x := domX j a.gen gs cpu per } j a.gen = true := kidB_iff.2 ⟨rfl, rfl, rfl⟩
      rw [show ({ a with x := carX a.x gs cpu } : Pl).gen = a.gen from rfl, e, if_pos rfl, ← hbk]
      cases t <;> simp only [Bk.of, Bk.each]
      · omega
    · have e : kidB { am with there := true, x := domX k a.gen gs cpu per } j am.gen = false := by
        cases hx : kidB { am with there := true, x := domX k a.gen gs cpu per } j am.gen with
        | false => rfl
        | true =>
          have := (kidB_iff.1 hx).2.1
          have this : (k : Int) = j := this
          omega
      have e2 : kidS t.each ps j am.gen = 0 := kidS_none (fun i c hi => by
        cases hx : kidB c j am.gen with
        | false => rfl
        | true =>
          have := (h.kid_there hi hm hx).1
          rw [hmt] at this
          cases this) _
      rw [show ({ am with there := true, x := domX k a.gen gs cpu per } : Pl).gen = am.gen from rfl, e, e2]
      cases t <;> rfl
    · have e : kidB { am with there := true, x := domX k a.gen gs cpu per } j b.gen = false := by
        cases hx : kidB { am with there := true, x := domX k a.gen gs cpu per } j b.gen with
        | false => rfl
        | true =>
          have := (kidB_iff.1 hx).2.1
          have this : (k : Int) = j := this
          omega
      rw [e, h.books t j b hb hbt]
      simp

/-- Domains without k, which was given back to j. -/
def mrgP (ps : List Pl) (k j : Nat) (a b : Pl) : List Pl := (ps.set k { a with gen := a.gen + 1, there := false, x := ez }).set j { b with x := mrgX b.x a.x }
theorem Rel.no_kid (h : Rel n T ps free) {k : Nat} {a : Pl} (ha : ps[k]? = some a) (ht : a.there = true) (h10 : a.x.v10 ≤ 0) : ∀ (i : Nat) (c : Pl), ps[i]? = some c → kidB c k a.gen = false := by
  have hb := h.books .kid k a ha ht
  have h5 := h.v5 ha ht
  intro i c hi
  have := sum_zero (fun b => if kidB b k a.gen then Bk.each .kid b.x else 0) ps (fun j b hb => by
    split
    · exact (show (0 : Int) ≤ 1 by omega)
    · omega) (by simp only [Bk.of, kidS] at hb; omega) i c hi
  cases hx : kidB c k a.gen with
  | false => rfl
  | true =>
    rw [hx, if_pos rfl] at this
    exact absurd (show (1 : Int) = 0 from this) (by omega)
theorem Rel.merge {k j : Nat} {a b : Pl} (h : Rel n T ps free) (ha : ps[k]? = some a) (ht : a.there = true) (hk0 : k ≠ 0) (h8 : a.x.v8 ≤ 0) (h10 : a.x.v10 ≤ 0) (hb : ps[j]? = some b) (hbt : b.there = true) (e0 : a.x.v0 = (j : Nat)) (e1 : a.x.v1 = b.gen) :
    j ≠ k ∧ Rel n (T + 1) (mrgP ps k j a b) (free ++ [k]) := by
  have hnk := h.no_kid ha ht h10
  obtain ⟨rank, r1, r2⟩ := h.tree
  have hjk : j ≠ k := fun e => by
    subst e
    rw [ha] at hb
    cases hb
    have : kidB a j a.gen = true := kidB_iff.2 ⟨ht, e0, e1⟩
    rw [hnk j a ha] at this
    cases this
  refine ⟨hjk, ?_⟩
  have hkl : k < ps.length := (List.getElem?_eq_some_iff.1 ha).1
  have hjl : j < ps.length := (List.getElem?_eq_some_iff.1 hb).1
  have hlim := h.lim j b hb hbt
  have hlk := h.lim k a ha ht
  have hz8 : a.x.v8 = 0 := by have := (h.live k a ha ht).1; omega
  have atJ : (mrgP ps k j a b)[j]? = some { b with x := mrgX b.x a.x } := List.getElem?_set_self (by rw [List.length_set]; exact hjl)
  have atK : (mrgP ps k j a b)[k]? = some { a with gen := a.gen + 1, there := false, x := ez } := by
    unfold mrgP
    rw [List.getElem?_set_ne hjk]
    exact List.getElem?_set_self hkl
  have atO : ∀ i : Nat, i ≠ k → i ≠ j → (mrgP ps k j a b)[i]? = ps[i]? := fun i h1 h2 => by
    unfold mrgP
    rw [List.getElem?_set_ne (by omega), List.getElem?_set_ne (by omega)]
  have get : ∀ (i : Nat) (c : Pl), (mrgP ps k j a b)[i]? = some c → (i = j ∧ c = { b with x := mrgX b.x a.x }) ∨ (i = k ∧ c = { a with gen := a.gen + 1, there := false, x := ez }) ∨ (i ≠ j ∧ i ≠ k ∧ ps[i]? = some c) := by
    intro i c hc
    by_cases h1 : i = j
    · subst h1
      rw [atJ] at hc
      exact .inl ⟨rfl, (Option.some.inj hc).symm⟩
    · by_cases h2 : i = k
      · subst h2
        rw [atK] at hc
        exact .inr (.inl ⟨rfl, (Option.some.inj hc).symm⟩)
      · rw [atO i h2 h1] at hc
        exact .inr (.inr ⟨h1, h2, hc⟩)
  have hkid : ∀ (t : Bk) (i : Nat) (g : Int), kidS t.each (mrgP ps k j a b) i g = kidS t.each ps i g - (if kidB a i g then t.each a.x else 0) := by
    intro t i g
    unfold mrgP
    rw [kidS_set (a := b) (by rw [List.getElem?_set_ne (by omega)]; exact hb), kidS_set ha]
    have e2 : kidB { a with gen := a.gen + 1, there := false, x := ez } i g = false := rfl
    have e3 : kidB { b with x := mrgX b.x a.x } i g = kidB b i g := rfl
    have e4 : t.each (mrgX b.x a.x) = t.each b.x := by cases t <;> rfl
    rw [e2, e3, show ({ b with x := mrgX b.x a.x } : Pl).x = mrgX b.x a.x from rfl, e4]
    simp
  have hgk := h.gens k a ha
  refine ⟨by simp [mrgP, h.len], h.n1, h.n32, ?_, ?_, ?_, ?_, ?_, ?_, ⟨rank, fun i => by have := r1 i; omega, ?_⟩, ?_⟩
  · intro i
    by_cases h1 : i = j
    · subst h1
      constructor
      · intro hi
        rcases List.mem_append.1 hi with hi | hi
        · obtain ⟨c, hc, hct⟩ := (h.mem i).1 hi
          rw [hb] at hc
          cases hc
          rw [hbt] at hct
          cases hct
        · exact absurd (by simpa using hi) hjk
      · rintro ⟨c, hc, hct⟩
        rw [atJ] at hc
        cases hc
        rw [show ({ b with x := mrgX b.x a.x } : Pl).there = b.there from rfl, hbt] at hct
        cases hct
    · by_cases h2 : i = k
      · subst h2
        constructor
        · intro _
          exact ⟨_, atK, rfl⟩
        · intro _
          simp
      · rw [atO i h2 h1, ← h.mem i]
        simp [h2]
  · refine List.nodup_append.2 ⟨h.nodup, by simp, ?_⟩
    intro i hi i' hi' e
    subst e
    have : i = k := by simpa using hi'
    subst this
    obtain ⟨c, hc, hct⟩ := (h.mem i).1 hi
    rw [ha] at hc
    cases hc
    rw [ht] at hct
    cases hct
  · intro i c hc
    rcases get i c hc with ⟨rfl, rfl⟩ | ⟨rfl, rfl⟩ | ⟨_, _, hc⟩
    · have := h.gens _ b hb
      exact ⟨this.1, by have := this.2; show b.gen ≤ _; omega⟩
    · exact ⟨by show 1 ≤ a.gen + 1; omega, by show a.gen + 1 ≤ _; omega⟩
    · have := h.gens i c hc
      exact ⟨this.1, by omega⟩
  · intro i c hc
    rcases get i c hc with ⟨rfl, rfl⟩ | ⟨rfl, rfl⟩ | ⟨_, _, hc⟩
    · refine ⟨(h.gone _ b hb).1, fun hct => ?_⟩
      rw [show ({ b with x := mrgX b.x a.x } : Pl).there = b.there from rfl, hbt] at hct
      cases hct
    · exact ⟨(h.gone _ a ha).1, fun _ => rfl⟩
    · exact h.gone i c hc
  · intro i c hc hct
    rcases get i c hc with ⟨rfl, rfl⟩ | ⟨rfl, rfl⟩ | ⟨_, _, hc⟩
    · have q1 := hlim.own
      have q2 := hlim.car
      have q3 := hlk.gs
      have q4 := hlk.cpu
      exact ⟨hlim.gs, hlim.cpu, hlim.used, ⟨q1.1, by show b.x.v7 + (b.x.v5 - a.x.v2) ≤ b.x.v2; omega⟩, by show b.x.v6 - a.x.v3 ≤ b.x.v3; omega⟩
    · cases hct
    · exact h.lim i c hc hct
  · obtain ⟨c, hc, hct, g1, g2, g3⟩ := h.root
    by_cases h0j : (0 : Nat) = j
    · subst h0j
      rw [hb] at hc
      cases hc
      exact ⟨_, atJ, hct, g1, g2, g3⟩
    · exact ⟨c, by rw [atO 0 (Ne.symm hk0) h0j]; exact hc, hct, g1, g2, g3⟩
  · intro i c hc hct hi0
    have old : ∀ (c' : Pl), ps[i]? = some c' → c'.there = true → i ≠ k → c.x.v0 = c'.x.v0 → c.x.v1 = c'.x.v1 → ∃ j' b', (mrgP ps k j a b)[j']? = some b' ∧ b'.there = true ∧ c.x.v0 = ((j' : Nat) : Int) ∧ c.x.v1 = b'.gen ∧ rank j' < rank i := by
      intro c' hc' hct' hik q0 q1
      obtain ⟨p, d, hp, hd, q2, q3, hr⟩ := r2 i c' hc' hct' hi0
      have hpk : p ≠ k := fun e => by
        subst e
        rw [ha] at hp
        cases hp
        have : kidB c' p a.gen = true := kidB_iff.2 ⟨hct', q2, q3⟩
        rw [hnk i c' hc'] at this
        cases this
      by_cases hpj : p = j
      · subst hpj
        rw [hb] at hp
        cases hp
        exact ⟨p, _, atJ, hd, by rw [q0]; exact q2, by rw [q1]; exact q3, hr⟩
      · exact ⟨p, d, by rw [atO p hpk hpj]; exact hp, hd, by rw [q0]; exact q2, by rw [q1]; exact q3, hr⟩
    rcases get i c hc with ⟨rfl, rfl⟩ | ⟨rfl, rfl⟩ | ⟨h1, h2, hc⟩
    · exact old b hb hbt hjk rfl rfl
    · cases hct
    · exact old c hc hct h2 rfl rfl
  · intro t i c hc hct
    rw [hkid]
    rcases get i c hc with ⟨rfl, rfl⟩ | ⟨rfl, rfl⟩ | ⟨h1, h2, hc⟩
    · have hbk := h.books t _ b hb hbt
      have e : kidB a i b.gen = true := kidB_iff.2 ⟨ht, e0, e1⟩
      rw [show ({ b with x := mrgX b.x a.x } : Pl).gen = b.gen from rfl, e, if_pos rfl, ← hbk]
      cases t <;> simp only [Bk.of, Bk.each]
      · omega
    · cases hct
    · have e : kidB a i c.gen = false := by
        cases hx : kidB a i c.gen with
        | false => rfl
        | true =>
          have := (kidB_iff.1 hx).2.1
          omega
      rw [e, h.books t i c hc hct]
      simp
end
end Go.Proofs.Ytfioghpnehfjhaa.Dm
