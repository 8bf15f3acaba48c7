/-
  Contracts of heap.Heap: less, set. No statement is proved here.
-/
import Derived.Test.YtcchfdoeacgapaaHm2
import Derived.Test.YtcchfdoeacgapaaProg
namespace Go.Proofs.Ytcchfdoeacgapaa.Hm
open Go.RowKit
set_option linter.unusedVariables false

abbrev vi (x : Int) : Value := .int .i64 x
abbrev vp (p : Nat) : Value := .pointer (some ⟨p, 0, none⟩)
abbrev vu (x : Int) : Value := .int .u64 x
/-- A timer's cells. -/
def tmV (t : Tm) : List Value := [vu t.1, vi t.2.1, vi t.2.2]
abbrev tmA (t : Tm) : Value := .agg #[vu t.1, vi t.2.1, vi t.2.2]
def tmsV (l : List Tm) : List Value := l.flatMap tmV
theorem tmsV_len (l : List Tm) : (tmsV l).length = l.length * 3 := by
  induction l with
  | nil => rfl
  | cons t l ih =>
    show (tmV t ++ tmsV l).length = _
    rw [List.length_append, ih]
    simp [tmV]
    omega
theorem tmsV_at : ∀ (l : List Tm) (j i : Nat), j < l.length → i < 3 → (tmsV l)[j * 3 + i]? = (tmV (gt l j))[i]?
  | [], _, _, h, _ => by simp at h
  | t :: l, 0, i, _, hi => by
    show (tmV t ++ tmsV l)[0 * 3 + i]? = _
    rw [Nat.zero_mul, Nat.zero_add, List.getElem?_append_left (by simp [tmV]; omega)]
    rfl
  | t :: l, j + 1, i, h, hi => by
    show (tmV t ++ tmsV l)[(j + 1) * 3 + i]? = _
    have h3 : (tmV t).length = 3 := rfl
    rw [List.getElem?_append_right (by rw [h3]; omega), h3, show (j + 1) * 3 + i - 3 = j * 3 + i by omega, tmsV_at l j i (by simpa using h) hi]
    rfl
theorem tmsV_set : ∀ (l : List Tm) (j : Nat) (t : Tm), j < l.length → (((tmsV l).set (j * 3) (vu t.1)).set (j * 3 + 1) (vi t.2.1)).set (j * 3 + 2) (vi t.2.2) = tmsV (l.set j t)
  | [], _, _, h => by simp at h
  | x :: l, 0, t, _ => rfl
  | x :: l, j + 1, t, h => by
    have ih := tmsV_set l j t (by simpa using h)
    show ((((tmV x ++ tmsV l).set ((j + 1) * 3) _).set _ _).set _ _) = tmV x ++ tmsV (l.set j t)
    have h3 : (tmV x).length = 3 := rfl
    rw [← ih, List.set_append_right _ _ (by rw [h3]; omega), List.set_append_right _ _ (by rw [h3]; omega), List.set_append_right _ _ (by rw [h3]; omega), h3,
      show (j + 1) * 3 - 3 = j * 3 by omega, show (j + 1) * 3 + 1 - 3 = j * 3 + 1 by omega, show (j + 1) * 3 + 2 - 3 = j * 3 + 2 by omega]

section
variable {w0 w : World} {F : Hp}
set_option maxRecDepth 100000 in
theorem h_less (h : Sat w0 F w) (x y : Tm) :
    Calls Try.prog 70 #[tmA x, tmA y] w fun e w' => e = .returned (.bool (lessT x y)) ∧ Sat w0 F w' := by
  obtain ⟨xa, xi, xn⟩ := x
  obtain ⟨ya, yi, yn⟩ := y
  have hB := (h.alloc' (.cells #[vu xa, vi xi, vi xn] 82)).alloc' (.cells #[vu ya, vi yi, vi yn] 82)
  have H := Lib.hid hB
  have hl : lessT (xa, xi, xn) (ya, yi, yn) = (decide (xa < ya) || (decide (xa = ya) && decide (xn < yn))) := rfl
  rw [hl]
  clear hB h hl
  by_cases h1 : xa < ya
  · go_enter Try.func70, Try.ntmps70
    go_wp2
    go_ret
    exact ⟨by simp [h1], H.out⟩
  · by_cases h2 : xa = ya
    · subst h2
      go_enter Try.func70, Try.ntmps70
      have h3 : (xa == xa) = true := by simp
      have h4 : ¬ xa < xa := by omega
      go_wp2
      all_goals
        go_ret
        exact ⟨by simp, H.out⟩
    · have h3 : (xa == ya) = false := by simpa using h2
      go_enter Try.func70, Try.ntmps70
      go_wp2
      go_ret
      exact ⟨by simp [h1, h2], H.out⟩
end
end Go.Proofs.Ytcchfdoeacgapaa.Hm
