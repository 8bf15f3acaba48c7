/-
  Lists of structs laid flat: reading and writing one cell. No statement is proved here.
-/
import Derived.Test.YtknodagcmachiaaOps
namespace Go.Proofs.Ytknodagcmachiaa
open Go.RowKit
set_option linter.unusedVariables false

section
variable {α : Type} {f : α → List Value} {N : Nat}
theorem flat_len (hN : ∀ a, (f a).length = N) (xs : List α) : (xs.flatMap f).length = xs.length * N := by
  induction xs with
  | nil => simp
  | cons x xs ih => rw [List.flatMap_cons, List.length_append, hN, ih, List.length_cons, Nat.add_mul, Nat.one_mul, Nat.add_comm]
theorem flat_at (hN : ∀ a, (f a).length = N) : ∀ (xs : List α) (i j : Nat), j < N → (xs.flatMap f)[i * N + j]? = (xs[i]?).bind fun a => (f a)[j]?
  | [], i, j, hj => by simp
  | x :: xs, 0, j, hj => by
    rw [List.flatMap_cons, Nat.zero_mul, Nat.zero_add, List.getElem?_append_left (by rw [hN]; exact hj)]
    rfl
  | x :: xs, i + 1, j, hj => by
    rw [List.flatMap_cons, Nat.add_mul, Nat.one_mul, Nat.add_right_comm, List.getElem?_append_right (by rw [hN]; omega), hN, Nat.add_sub_cancel, flat_at hN xs i j hj]
    rfl
theorem flat_get (hN : ∀ a, (f a).length = N) {xs : List α} {i j : Nat} {a : α} {v : Value} (hi : xs[i]? = some a) (hv : (f a)[j]? = some v) : (xs.flatMap f)[i * N + j]? = some v := by
  have hj : j < N := by rw [← hN a]; exact (List.getElem?_eq_some_iff.1 hv).1
  rw [flat_at hN xs i j hj, hi]
  exact hv
theorem flat_set (hN : ∀ a, (f a).length = N) : ∀ (xs : List α) (i j : Nat) (a a' : α) (v : Value), xs[i]? = some a → j < N → f a' = (f a).set j v → (xs.flatMap f).set (i * N + j) v = (xs.set i a').flatMap f
  | [], i, j, a, a', v, hi, hj, h => by simp at hi
  | x :: xs, 0, j, a, a', v, hi, hj, h => by
    simp only [List.getElem?_cons_zero, Option.some.injEq] at hi
    subst hi
    rw [List.flatMap_cons, Nat.zero_mul, Nat.zero_add, List.set_append, if_pos (by rw [hN]; exact hj), List.set_cons_zero, List.flatMap_cons, h]
  | x :: xs, i + 1, j, a, a', v, hi, hj, h => by
    simp only [List.getElem?_cons_succ] at hi
    rw [List.flatMap_cons, Nat.add_mul, Nat.one_mul, Nat.add_right_comm, List.set_append, if_neg (by rw [hN]; omega), hN, Nat.add_sub_cancel, flat_set hN xs i j a a' v hi hj h, List.set_cons_succ, List.flatMap_cons]
theorem flat_one (h1 : ∀ a, ∀ u ∈ f a, u.oneCell' = true) (xs : List α) : ∀ u ∈ xs.flatMap f, u.oneCell' = true := by
  intro u hu
  obtain ⟨a, _, ha⟩ := List.mem_flatMap.1 hu
  exact h1 a u ha
theorem flat_take (hN : ∀ a, (f a).length = N) : ∀ (xs : List α) (k : Nat), (xs.flatMap f).take (k * N) = (xs.take k).flatMap f
  | [], k => by simp
  | x :: xs, 0 => by simp
  | x :: xs, k + 1 => by
    rw [List.flatMap_cons, Nat.add_mul, Nat.one_mul, Nat.add_comm, List.take_append, hN, List.take_of_length_le (by rw [hN]; omega), Nat.add_sub_cancel_left, flat_take hN xs k, List.take_succ_cons, List.flatMap_cons]
theorem flat_made (hN : ∀ a, (f a).length = N) (hp : 0 < N) (z : Value) (a : α) (hz : z.cells.toList = f a) (n : Nat) : (madeCells z.cells (n * N)).toList = (List.replicate n a).flatMap f := by
  have hs : z.cells.size = N := by rw [← hN a, ← hz, Array.length_toList]
  apply List.ext_getElem?
  intro i
  by_cases hi : i < n * N
  · have hd : i / N < n := (Nat.div_lt_iff_lt_mul hp).2 hi
    have hm : i % N < N := Nat.mod_lt _ hp
    have e : i = i / N * N + i % N := by rw [Nat.mul_comm]; exact (Nat.div_add_mod i N).symm
    have h1 : ((List.replicate n a).flatMap f)[i]? = (f a)[i % N]? := by
      conv => lhs; rw [e]
      rw [flat_at hN _ _ _ hm, List.getElem?_replicate, if_pos hd]
      rfl
    rw [h1, ← hz]
    simp [madeCells, hi, hs, hm]
  · rw [List.getElem?_eq_none (by simp [madeCells]; omega), List.getElem?_eq_none (by rw [flat_len hN]; simp; omega)]
end
end Go.Proofs.Ytknodagcmachiaa
