/-
  Law 10: QuotaHolds: the list of what is used. No statement is proved here.
-/
import Derived.Test.YtfioghpnehfjhaaQy2
namespace Go.Proofs.Ytfioghpnehfjhaa.Dm
open Go.RowKit Ad
set_option linter.unusedVariables false

def usL (f : Nat → Int) (m : Nat) : List Value := (List.range m).map fun j => vu (f j)
theorem usL_len (f : Nat → Int) (m : Nat) : (usL f m).length = m := by simp [usL]
theorem usL_at {f : Nat → Int} {m j : Nat} (h : j < m) : (usL f m)[j]? = some (vu (f j)) := by
  unfold usL
  rw [List.getElem?_map, List.getElem?_range h]
  rfl
theorem usL_eq {f g : Nat → Int} {m : Nat} (h : ∀ j, j < m → f j = g j) : usL f m = usL g m :=
  List.map_congr_left fun j hj => by rw [h j (List.mem_range.1 hj)]
theorem usL_set {f : Nat → Int} {m i : Nat} (h : i < m) (x : Int) : (usL f m).set i (vu x) = usL (fun j => if j = i then x else f j) m := by
  refine List.ext_getElem? fun j => ?_
  by_cases hj : j < m
  · rw [usL_at hj]
    by_cases hji : j = i
    · subst hji
      rw [List.getElem?_set_self (by rw [usL_len]; exact h), if_pos rfl]
    · rw [List.getElem?_set_ne (by omega), usL_at hj, if_neg hji]
  · rw [List.getElem?_eq_none (by rw [List.length_set, usL_len]; omega), List.getElem?_eq_none (by rw [usL_len]; omega)]
/-- Between two lists: the first i are of the one. -/
def mixU (i : Nat) (u' u : Nat → Int) : Nat → Int := fun j => if j < i then u' j else u j
theorem mixU_0 (u' u : Nat → Int) (m : Nat) : usL (mixU 0 u' u) m = usL u m := usL_eq fun j _ => by simp [mixU]
theorem mixU_m (u' u : Nat → Int) (m : Nat) : usL (mixU m u' u) m = usL u' m := usL_eq fun j hj => by simp [mixU, hj]
theorem mixU_set {i m : Nat} (h : i < m) (u' u : Nat → Int) : (usL (mixU i u' u) m).set i (vu (u' i)) = usL (mixU (i + 1) u' u) m := by
  rw [usL_set h]
  refine usL_eq fun j _ => ?_
  unfold mixU
  by_cases h1 : j = i
  · subst h1
    rw [if_pos rfl, if_pos (by omega)]
  · rw [if_neg h1]
    by_cases h2 : j < i
    · rw [if_pos h2, if_pos (by omega)]
    · rw [if_neg h2, if_neg (by omega)]
theorem mixU_same {i m : Nat} {u' u : Nat → Int} (h : u' i = u i) : usL (mixU i u' u) m = usL (mixU (i + 1) u' u) m := by
  refine usL_eq fun j _ => ?_
  unfold mixU
  by_cases h1 : j = i
  · subst h1
    rw [if_neg (by omega), if_pos (by omega), h]
  · by_cases h2 : j < i
    · rw [if_pos h2, if_pos (by omega)]
    · rw [if_neg h2, if_neg (by omega)]
end Go.Proofs.Ytfioghpnehfjhaa.Dm
