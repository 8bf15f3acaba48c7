/-
  The plain law behind ArenaStale. No statement is proved here.
-/
import Derived.Test.YtjealmaddjepnaaDoA
namespace Go.Proofs.Ytjealmaddjepnaa.Ar
open Go.RowKit
set_option linter.unusedVariables false

def gflat (l : List (Nat × Int)) : List Value := l.flatMap fun r => [vi r.1, vu r.2]
theorem gflat_snoc (l : List (Nat × Int)) (r : Nat × Int) : gflat (l ++ [r]) = gflat l ++ [vi r.1, vu r.2] := by simp [gflat]
theorem gflat_0 {l : List (Nat × Int)} {j : Nat} {r : Nat × Int} (h : l[j]? = some r) : (gflat l)[j * 2 + 0]? = some (vi r.1) := flat_get (N := 2) (fun _ => rfl) h rfl
theorem gflat_1 {l : List (Nat × Int)} {j : Nat} {r : Nat × Int} (h : l[j]? = some r) : (gflat l)[j * 2 + 1]? = some (vu r.2) := flat_get (N := 2) (fun _ => rfl) h rfl

structure Inv (ps : List Pl) (given : List (Nat × Int)) (gone : List Bool) : Prop where
  len : gone.length = given.length
  ok : ∀ (j i : Nat) (g : Int), given[j]? = some (i, g) → ∃ a, ps[i]? = some a ∧ g ≤ a.gen ∧ (g = a.gen → a.busy = true)
  st : ∀ (j i : Nat) (g : Int), given[j]? = some (i, g) → gone[j]? = some true → ∃ a, ps[i]? = some a ∧ (g < a.gen ∨ a.retired = true)
theorem Inv.nil (ps : List Pl) : Inv ps [] [] := ⟨rfl, fun j i g h => by simp at h, fun j i g h => by simp at h⟩
theorem Inv.step {ps ps' : List Pl} {given : List (Nat × Int)} {gone : List Bool} (h : Inv ps given gone) (hs : Step ps ps') : Inv ps' given gone := by
  refine ⟨h.len, ?_, ?_⟩
  · intro j i g hj
    obtain ⟨a, ha, h1, h2⟩ := h.ok j i g hj
    obtain ⟨a', ha', hev⟩ := hs i a ha
    refine ⟨a', ha', ?_⟩
    rcases hev with ⟨e1, e2, e3⟩ | ⟨e0, e1, e2⟩ | ⟨e0, e1, e2⟩
    · rw [e1]
      refine ⟨h1, fun e => ?_⟩
      have := h2 e
      unfold Pl.busy at this ⊢
      rw [e2, e3]
      exact this
    · rw [e1]
      exact ⟨by omega, fun e => by omega⟩
    · rw [e1]
      exact ⟨h1, fun e => by unfold Pl.busy; rw [e2, Bool.or_true]⟩
  · intro j i g hj hg
    obtain ⟨a, ha, h1⟩ := h.st j i g hj hg
    obtain ⟨a', ha', hev⟩ := hs i a ha
    refine ⟨a', ha', ?_⟩
    rcases hev with ⟨e1, e2, e3⟩ | ⟨e0, e1, e2⟩ | ⟨e0, e1, e2⟩
    · rw [e1, e3]; exact h1
    · rw [e1, e2]
      rcases h1 with h1 | h1
      · exact .inl (by omega)
      · exact .inr h1
    · exact .inr e2
theorem Inv.fresh {ps : List Pl} {given : List (Nat × Int)} {gone : List Bool} (h : Inv ps given gone) {k : Nat} {a : Pl} (hk : ps[k]? = some a) (hb : a.busy = false) : ∀ (j i : Nat) (g : Int), given[j]? = some (i, g) → i = k → g ≠ a.gen := by
  intro j i g hj hi hg
  subst hi
  obtain ⟨b, hb', h1, h2⟩ := h.ok j i g hj
  rw [hk] at hb'
  cases hb'
  rw [h2 hg] at hb
  cases hb
theorem Inv.come {ps : List Pl} {given : List (Nat × Int)} {gone : List Bool} (h : Inv ps given gone) {k : Nat} {a : Pl} (hk : ps[k]? = some a) (hb : a.busy = false) (x : El) :
    Inv (ps.set k { a with there := true, x := x }) (given ++ [(k, a.gen)]) (gone ++ [false]) := by
  have hbb : a.there = false ∧ a.retired = false := by simpa [Pl.busy] using hb
  refine ⟨by simp [h.len], ?_, ?_⟩
  · intro j i g hj
    by_cases hjl : j < given.length
    · rw [List.getElem?_append_left hjl] at hj
      obtain ⟨b, hb', h1, h2⟩ := h.ok j i g hj
      by_cases hi : k = i
      · subst hi
        rw [hk] at hb'
        cases hb'
        exact ⟨_, get_set_self hk _, h1, fun _ => rfl⟩
      · exact ⟨b, by rw [List.getElem?_set, if_neg hi]; exact hb', h1, h2⟩
    · rw [List.getElem?_append_right (by omega)] at hj
      have hj0 : j - given.length = 0 := by
        have := (List.getElem?_eq_some_iff.1 hj).1
        simp at this
        omega
      rw [hj0] at hj
      simp at hj
      obtain ⟨rfl, rfl⟩ := hj
      exact ⟨_, get_set_self hk _, Int.le_refl _, fun _ => rfl⟩
  · intro j i g hj hg
    by_cases hjl : j < given.length
    · rw [List.getElem?_append_left hjl] at hj
      rw [List.getElem?_append_left (by rw [h.len]; exact hjl)] at hg
      obtain ⟨b, hb', h1⟩ := h.st j i g hj hg
      by_cases hi : k = i
      · subst hi
        rw [hk] at hb'
        cases hb'
        exact ⟨_, get_set_self hk _, h1⟩
      · exact ⟨b, by rw [List.getElem?_set, if_neg hi]; exact hb', h1⟩
    · rw [List.getElem?_append_right (by rw [h.len]; omega)] at hg
      have hj0 : j - gone.length = 0 := by
        have := (List.getElem?_eq_some_iff.1 hg).1
        simp at this
        omega
      rw [hj0] at hg
      simp at hg
theorem stale_no {ps : List Pl} {free : List Nat} (hok : TblOk ps free) {i : Nat} {g : Int} {a : Pl} (ha : ps[i]? = some a) (h : g < a.gen ∨ a.retired = true) : isAt ps i g = none := by
  cases hA : isAt ps i g with
  | none => rfl
  | some ka =>
    obtain ⟨k, b⟩ := ka
    obtain ⟨h1, h2, h3, h4⟩ := isAt_some hA
    have hki : k = i := by omega
    subst hki
    rw [ha] at h1
    cases h1
    rcases h with h | h
    · omega
    · have := hok.excl _ _ ha h3
      rw [h] at this
      cases this
theorem no_stale {ps : List Pl} {i : Nat} {g : Int} {a : Pl} (ha : ps[i]? = some a) (h1 : g ≤ a.gen) (h2 : g = a.gen → a.busy = true) (hA : isAt ps i g = none) : g < a.gen ∨ a.retired = true := by
  by_cases hg : g = a.gen
  · right
    have hb := h2 hg
    unfold Pl.busy at hb
    cases ht : a.there with
    | false => rw [ht] at hb; simpa using hb
    | true =>
      exfalso
      unfold isAt at hA
      rw [if_neg (by omega), Int.toNat_natCast, ha] at hA
      simp [ht, hg] at hA
  · exact .inl (by omega)
theorem Inv.gone_set {ps : List Pl} {given : List (Nat × Int)} {gone : List Bool} (h : Inv ps given gone) {j i : Nat} {g : Int} (hj : given[j]? = some (i, g)) (hA : isAt ps i g = none) : Inv ps given (gone.set j true) := by
  refine ⟨by simp [h.len], h.ok, ?_⟩
  intro j' i' g' hj' hg
  by_cases e : j = j'
  · subst e
    rw [hj] at hj'
    cases hj'
    obtain ⟨a, ha, h1, h2⟩ := h.ok j i g hj
    exact ⟨a, ha, no_stale ha h1 h2 hA⟩
  · rw [List.getElem?_set, if_neg e] at hg
    exact h.st j' i' g' hj' hg
theorem Inv.gone_no {ps : List Pl} {free : List Nat} {given : List (Nat × Int)} {gone : List Bool} (h : Inv ps given gone) (hok : TblOk ps free) {j i : Nat} {g : Int} (hj : given[j]? = some (i, g)) (hg : gone[j]? = some true) : isAt ps i g = none := by
  obtain ⟨a, ha, h1⟩ := h.st j i g hj hg
  exact stale_no hok ha h1

section
variable {w0 w : World} {p : Nat} {ps : List Pl} {free : List Nat} {F : Hp}
theorem set_no (h : Sat w0 (tblP p ps free * F) w) (i g : Int) (x : El) (hA : isAt ps i g = none) :
    Calls Try.prog 26 #[vp p, vr i g, ev x] w fun e w' => e = .returned (vi 11) ∧ Sat w0 (tblP p ps free * F) w' := by
  have := set_ h i g x
  simp only [getE, setP, hA] at this
  exact this
theorem drop_no (h : Sat w0 (tblP p ps free * F) w) (i g : Int) (hA : isAt ps i g = none) :
    Calls Try.prog 15 #[vp p, vr i g] w fun e w' => e = .returned (vi 11) ∧ Sat w0 (tblP p ps free * F) w' := by
  have := drop_ h i g
  simp only [getE, dropped, hA] at this
  exact this
theorem get_no (h : Sat w0 (tblP p ps free * F) w) (i g : Int) (hA : isAt ps i g = none) :
    Calls Try.prog 24 #[vp p, vr i g] w fun e w' => ∃ x, e = .returned (.tuple #[ev x, vi 11]) ∧ Sat w0 (tblP p ps free * F) w' :=
  (get_ h i g).mono fun e w' ⟨h1, h2⟩ => ⟨getX ps i g, by rw [h1]; simp only [getE, hA], h2⟩
theorem get_yes (h : Sat w0 (tblP p ps free * F) w) (i g : Int) {ka : Nat × Pl} (hA : isAt ps i g = some ka) :
    Calls Try.prog 24 #[vp p, vr i g] w fun e w' => ∃ x, e = .returned (.tuple #[ev x, vi 0]) ∧ Sat w0 (tblP p ps free * F) w' :=
  (get_ h i g).mono fun e w' ⟨h1, h2⟩ => ⟨getX ps i g, by rw [h1]; simp only [getE, hA], h2⟩
theorem tblOk_of (h : Sat w0 (tblP p ps free * F) w) : TblOk ps free := (open_ h).choose_spec.ok
end
end Go.Proofs.Ytjealmaddjepnaa.Ar
