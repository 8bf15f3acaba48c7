/-
  Chapter 05: what a thief gets: plain laws. No statement is proved here.
-/
import Derived.Test.YtjlgdepneipgnaaRq18
namespace Go.Proofs.Ytjlgdepneipgnaa
section
variable {w0 w : World}
theorem Sat.pull5 {A B C D E G : Hp} (h : Sat w0 (A * (B * (C * (D * (E * G))))) w) : Sat w0 (E * (A * (B * (C * (D * G))))) w := h.cast (by ac_rfl)
theorem Sat.pull6 {A B C D E G I : Hp} (h : Sat w0 (A * (B * (C * (D * (E * (G * I)))))) w) : Sat w0 (G * (A * (B * (C * (D * (E * I)))))) w := h.cast (by ac_rfl)
theorem Sat.pull7 {A B C D E G I J : Hp} (h : Sat w0 (A * (B * (C * (D * (E * (G * (I * J))))))) w) : Sat w0 (I * (A * (B * (C * (D * (E * (G * J))))))) w := h.cast (by ac_rfl)
theorem Rd.oneB (w : World) (T : TypeId) (x : Value) {b : Nat} (hb : b = w.heap.size) : Rd (w.alloc (.cells #[x] T)) 1 (.slice (some ⟨b, 0, none⟩) 1 1) 1 [x] := by
  subst hb
  exact Rd.one w T x
end
end Go.Proofs.Ytjlgdepneipgnaa
namespace Go.Proofs.Ytjlgdepneipgnaa.Rq
open Go.RowKit
set_option linter.unusedVariables false

/-- The first k of those that f takes. -/
def stealO (f : Int → Bool) : Nat → List Int → List Int
  | _, [] => []
  | 0, _ :: _ => []
  | k + 1, x :: t => if f x then x :: stealO f k t else stealO f (k + 1) t
/-- The others. -/
def stealL (f : Int → Bool) : Nat → List Int → List Int
  | _, [] => []
  | 0, x :: t => x :: t
  | k + 1, x :: t => if f x then stealL f k t else x :: stealL f (k + 1) t
theorem stealO_zero (f : Int → Bool) (xs : List Int) : stealO f 0 xs = [] := by cases xs <;> rfl
theorem stealL_zero (f : Int → Bool) (xs : List Int) : stealL f 0 xs = xs := by cases xs <;> rfl
theorem stealO_eq (f : Int → Bool) : ∀ (xs : List Int) (k : Nat), stealO f k xs = (xs.filter f).take k
  | [], k => by cases k <;> simp [stealO]
  | x :: t, 0 => by simp [stealO]
  | x :: t, k + 1 => by
    unfold stealO
    by_cases h : f x = true
    · rw [if_pos h, List.filter_cons_of_pos h, List.take_succ_cons, stealO_eq f t k]
    · rw [if_neg h, List.filter_cons_of_neg h, stealO_eq f t (k + 1)]
theorem foldl_erase_cons (x : Int) : ∀ (os t : List Int), (∀ o ∈ os, o ≠ x) → os.foldl List.erase (x :: t) = x :: os.foldl List.erase t
  | [], _, _ => rfl
  | o :: os, t, h => by
    rw [List.foldl_cons, List.foldl_cons, List.erase_cons_tail (by simpa using fun e => h o (by simp) e.symm), foldl_erase_cons x os _ fun o' ho => h o' (by simp [ho])]
theorem stealO_mem {f : Int → Bool} {k : Nat} {xs : List Int} {o : Int} (h : o ∈ stealO f k xs) : f o = true ∧ o ∈ xs := by
  rw [stealO_eq] at h
  have := List.mem_filter.1 (List.mem_of_mem_take h)
  exact ⟨this.2, this.1⟩
theorem stealL_eq (f : Int → Bool) : ∀ (xs : List Int) (k : Nat), (stealO f k xs).foldl List.erase xs = stealL f k xs
  | [], k => by cases k <;> simp [stealO, stealL]
  | x :: t, 0 => by simp [stealO, stealL]
  | x :: t, k + 1 => by
    unfold stealO stealL
    by_cases h : f x = true
    · rw [if_pos h, if_pos h, List.foldl_cons, List.erase_cons_head, stealL_eq f t k]
    · rw [if_neg h, if_neg h, foldl_erase_cons, stealL_eq f t (k + 1)]
      intro o ho e
      exact h (e ▸ (stealO_mem ho).1)
def halfK (f : Int → Bool) (xs : List Int) : Nat := ((xs.filter f).length + 1) / 2
/-- Who is stolen, whom the ring has then, is somebody next then? -/
def thiefO (f : Int → Bool) (xs : List Int) (z : Int) (b : Bool) : List Int := if (stealO f (halfK f xs) xs).isEmpty && b && f z then [z] else stealO f (halfK f xs) xs
def thiefL (f : Int → Bool) (xs : List Int) : List Int := stealL f (halfK f xs) xs
def thiefB (f : Int → Bool) (xs : List Int) (z : Int) (b : Bool) : Bool := if (stealO f (halfK f xs) xs).isEmpty && b && f z then false else b
theorem half_empty (f : Int → Bool) (xs : List Int) : (stealO f (halfK f xs) xs).isEmpty = (xs.filter f).isEmpty := by
  rw [stealO_eq]
  unfold halfK
  generalize xs.filter f = l
  cases l with
  | nil => rfl
  | cons a l =>
    obtain ⟨k, hk⟩ : ∃ k, ((a :: l).length + 1) / 2 = k + 1 := ⟨((a :: l).length + 1) / 2 - 1, by simp; omega⟩
    rw [hk]
    rfl
end Go.Proofs.Ytjlgdepneipgnaa.Rq
