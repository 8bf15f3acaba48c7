/-
  Lists of structs laid flat: reading and writing one cell. No statement is proved here.
-/
import Derived.Test.YtjgemfgneiaabaaOps
import Derived.Test.YtjgemfgneiaabaaPl1
namespace Go.Proofs.Ytjgemfgneiaabaa
open Go.RowKit
set_option linter.unusedVariables false

section
variable {α : Type} {f : α → List Value} {N : Nat}
theorem flat_len (hN : ∀ a, (f a).length = N) (xs : List α) : (xs.flatMap f).length = xs.length * N := by
  induction xs with
  | nil => simp
  | cons x xs ih => rw [List.flatMap_cons, List.length_append, hN, ih, List.length_cons, Nat.add_mul, Nat.one_mul, Nat.add_comm]
theorem flat_at (hN : ∀ a, (f a).length = N) : ∀ (xs : List α) (i j : Nat), j < N → (xs.flatMap f)[i * N + j]? = (xs[i]?).bind fun a => (f a)[j]?
  | [], i, j, hj => by simp
  | x :: xs, 0, j, hj => by
    rw [List.flatMap_cons, Nat.zero_mul, Nat.zero_add, List.getElem?_append_left (by rw [hN]; exact hj)]
    rfl
  | x :: xs, i + 1, j, hj => by
    rw [List.flatMap_cons, Nat.add_mul, Nat.one_mul, Nat.add_right_comm, List.getElem?_append_right (by rw [hN]; omega), hN, Nat.add_sub_cancel, flat_at hN xs i j hj]
    rfl
theorem flat_get (hN : ∀ a, (f a).length = N) {xs : List α} {i j : Nat} {a : α} {v : Value} (hi : xs[i]? = some a) (hv : (f a)[j]? = some v) : (xs.flatMap f)[i * N + j]? = some v := by
  have hj : j < N := by rw [← hN a]; exact (List.getElem?_eq_some_iff.1 hv).1
  rw [flat_at hN xs i j hj, hi]
  exact hv
theorem flat_set (hN : ∀ a, (f a).length = N) : ∀ (xs : List α) (i j : Nat) (a a' : α) (v : Value), xs[i]? = some a → j < N → f a' = (f a).set j v → (xs.flatMap f).set (i * N + j) v = (xs.set i a').flatMap f
  | [], i, j, a, a', v, hi, hj, h => by simp at hi
  | x :: xs, 0, j, a, a', v, hi, hj, h => by
    simp only [List.getElem?_cons_zero, Option.some.injEq] at hi
    subst hi
    rw [List.flatMap_cons, Nat.zero_mul, Nat.zero_add, List.set_append, if_pos (by rw [hN]; exact hj), List.set_cons_zero, List.flatMap_cons, h]
  | x :: xs, i + 1, j, a, a', v, hi, hj, h => by
    simp only [List.getElem?_cons_succ] at hi
    rw [List.flatMap_cons, Nat.add_mul, Nat.one_mul, Nat.add_right_comm, List.set_append, if_neg (by rw [hN]; omega), hN, Nat.add_sub_cancel, flat_set hN xs i j a a' v hi hj h, List.set_cons_succ, List.flatMap_cons]
theorem flat_one (h1 : ∀ a, ∀ u ∈ f a, u.oneCell' = true) (xs : List α) : ∀ u ∈ xs.flatMap f, u.oneCell' = true := by
  intro u hu
  obtain ⟨a, _, ha⟩ := List.mem_flatMap.1 hu
  exact h1 a u ha
theorem flat_take (hN : ∀ a, (f a).length = N) : ∀ (xs : List α) (k : Nat), (xs.flatMap f).take (k * N) = (xs.take k).flatMap f
  | [], k => by simp
  | x :: xs, 0 => by simp
  | x :: xs, k + 1 => by
    rw [List.flatMap_cons, Nat.add_mul, Nat.one_mul, Nat.add_comm, List.take_append, hN, List.take_of_length_le (by rw [hN]; omega), Nat.add_sub_cancel_left, flat_take hN xs k, List.take_succ_cons, List.flatMap_cons]
theorem flat_made (hN : ∀ a, (f a).length = N) (hp : 0 < N) (z : Value) (a : α) (hz : z.cells.toList = f a) (n : Nat) : (madeCells z.cells (n * N)).toList = (List.replicate n a).flatMap f := by
  have hs : z.cells.size = N := by rw [← hN a, ← hz, Array.length_toList]
  apply List.ext_getElem?
  intro i
  by_cases hi : i < n * N
  · have hd : i / N < n := (Nat.div_lt_iff_lt_mul hp).2 hi
    have hm : i % N < N := Nat.mod_lt _ hp
    have e : i = i / N * N + i % N := by rw [Nat.mul_comm]; exact (Nat.div_add_mod i N).symm
    have h1 : ((List.replicate n a).flatMap f)[i]? = (f a)[i % N]? := by
      conv => lhs; rw [e]
      rw [flat_at hN _ _ _ hm, List.getElem?_replicate, if_pos hd]
      rfl
    rw [h1, ← hz]
    simp [madeCells, hi, hs, hm]
  · rw [List.getElem?_eq_none (by simp [madeCells]; omega), List.getElem?_eq_none (by rw [flat_len hN]; simp; omega)]
end
end Go.Proofs.Ytjgemfgneiaabaa

namespace Go.Proofs.Ytjgemfgneiaabaa.Pc
open Go.RowKit Rq
set_option linter.unusedVariables false

def starL (f : Nat → Hp) : List Nat → Hp
  | [] => emp
  | i :: r => f i * starL f r
theorem starL_perm (f : Nat → Hp) {a b : List Nat} (h : a.Perm b) : starL f a = starL f b := by
  induction h with
  | nil => rfl
  | cons x _ ih => show f x * _ = f x * _; rw [ih]
  | swap x y l => show f y * (f x * starL f l) = f x * (f y * starL f l); ac_rfl
  | trans _ _ h1 h2 => exact h1.trans h2
theorem starL_congr {f g : Nat → Hp} : ∀ {l : List Nat}, (∀ i ∈ l, f i = g i) → starL f l = starL g l
  | [], _ => rfl
  | x :: r, h => by
    show f x * starL f r = g x * starL g r
    rw [h x (by simp), starL_congr fun i hi => h i (by simp [hi])]
def star (f : Nat → Hp) (n : Nat) : Hp := starL f (List.range n)
/-- All but the k-th. -/
def starx (f : Nat → Hp) (n k : Nat) : Hp := starL f ((List.range n).erase k)
theorem star_at (f : Nat → Hp) {n k : Nat} (hk : k < n) : star f n = f k * starx f n k := by
  show starL f _ = starL f (k :: (List.range n).erase k)
  exact starL_perm f (List.perm_cons_erase (List.mem_range.2 hk))
theorem starx_congr {f g : Nat → Hp} {n k : Nat} (h : ∀ i, i ≠ k → f i = g i) : starx f n k = starx g n k :=
  starL_congr fun i hi => h i (by rintro rfl; exact not_mem_erase_range n i hi)
theorem star_zero (f : Nat → Hp) : star f 0 = emp := rfl
theorem star_succ (f : Nat → Hp) (n : Nat) : star f (n + 1) = star f n * f n := by
  have h := starL_perm f (show (List.range (n + 1)).Perm (n :: List.range n) by rw [List.range_succ]; exact List.perm_append_comm)
  show starL f _ = starL f (List.range n) * f n
  rw [h]
  exact sep_comm _ _
theorem star_congr {f g : Nat → Hp} {n : Nat} (h : ∀ i, i < n → f i = g i) : star f n = star g n := starL_congr fun i hi => h i (List.mem_range.1 hi)

section
variable {w0 w : World} {A F : Hp} {f g : Nat → Hp} {n k : Nat}
theorem Sat.star_out (h : Sat w0 (star f n * F) w) (hk : k < n) : Sat w0 (f k * (starx f n k * F)) w := h.cast (by rw [star_at f hk]; ac_rfl)
theorem Sat.star_in (h : Sat w0 (g k * (starx f n k * F)) w) (hk : k < n) (hg : ∀ i, i ≠ k → f i = g i) : Sat w0 (star g n * F) w := h.cast (by rw [star_at g hk, starx_congr hg]; ac_rfl)
end

/-- Rows of cells, one for each number below n. -/
def rowsN (row : Nat → List Value) (n : Nat) : List Value := (List.range n).flatMap row
theorem rowsN_succ (row : Nat → List Value) (n : Nat) : rowsN row (n + 1) = rowsN row n ++ row n := by unfold rowsN; rw [List.range_succ, List.flatMap_append]; simp
theorem rowsN_len {row : Nat → List Value} {N : Nat} (hN : ∀ i, (row i).length = N) (n : Nat) : (rowsN row n).length = n * N := by
  unfold rowsN
  rw [flat_len hN, List.length_range]
theorem rowsN_at {row : Nat → List Value} {N n k j : Nat} {v : Value} (hN : ∀ i, (row i).length = N) (hk : k < n) (hv : (row k)[j]? = some v) : (rowsN row n)[k * N + j]? = some v :=
  flat_get hN (a := k) (by simp [hk]) hv
theorem rowsN_congr {row row' : Nat → List Value} {n : Nat} (h : ∀ i, i < n → row i = row' i) : rowsN row n = rowsN row' n := flatMap_congr' fun i hi => h i (List.mem_range.1 hi)
theorem rowsN_set {row row' : Nat → List Value} {N k j : Nat} {v : Value} (hN : ∀ i, (row i).length = N) (hj : j < N) (hr : row' k = (row k).set j v) (ho : ∀ i, i ≠ k → row' i = row i) : ∀ n, k < n → (rowsN row n).set (k * N + j) v = rowsN row' n
  | 0, h => by omega
  | n + 1, h => by
    rw [rowsN_succ, rowsN_succ]
    by_cases he : k = n
    · subst he
      rw [List.set_append, if_neg (by rw [rowsN_len hN]; omega), rowsN_len hN, Nat.add_sub_cancel_left, ← hr, rowsN_congr fun i hi => (ho i (by omega)).symm]
    · have hk : k < n := by omega
      rw [List.set_append, if_pos (by rw [rowsN_len hN]; have := Nat.mul_le_mul_right N (show k + 1 ≤ n by omega); rw [Nat.add_mul, Nat.one_mul] at this; omega), rowsN_set hN hj hr ho n hk, ho n (by omega)]
theorem rowsN_one {row : Nat → List Value} (h1 : ∀ i, ∀ u ∈ row i, u.oneCell' = true) (n : Nat) : ∀ u ∈ rowsN row n, u.oneCell' = true := flat_one h1 _
end Go.Proofs.Ytjgemfgneiaabaa.Pc
