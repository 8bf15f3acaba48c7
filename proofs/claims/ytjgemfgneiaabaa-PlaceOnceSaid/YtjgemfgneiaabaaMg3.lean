/-
  Chapter 05: who may run where: the closure in Steal. No statement is proved here.
-/
import Derived.Test.YtjgemfgneiaabaaMg2
namespace Go.Proofs.Ytjgemfgneiaabaa.Rq
open Go.RowKit
set_option linter.unusedVariables false

section
variable {w : World} {v : Value} {af : List Nat} {p g : Int} {ba bp : Nat}
theorem clo_no (ha : w.cell? ⟨ba, 0, none⟩ = some v) (hp : w.cell? ⟨bp, 0, none⟩ = some (vi p)) (h : RdA w v af) (hg : g < 0 ∨ (af.length : Int) ≤ g) :
    Calls Try.prog 68 #[vi g, .pointer (some ⟨ba, 0, none⟩), .pointer (some ⟨bp, 0, none⟩)] w fun e w' => e = .returned (.bool (mayG af p g)) ∧ ∃ n, w' = w.drewN n := by
  rw [show mayG af p g = false by rw [mayG, decide_eq_false (by omega)]; rfl]
  obtain ⟨ao, cap, rfl⟩ := Rd.len h.1
  clear h
  by_cases h1 : g < 0
  · have h2 : decide (0 ≤ g) = false := decide_eq_false (by omega)
    clear hg h1
    go_enter Try.func68, Try.ntmps68
    go_wp2
    go_quiet (fail)
    go_wp2
    go_ret
    exact ⟨by simp, _, rfl⟩
  · have h2 : decide (0 ≤ g) = true := decide_eq_true (by omega)
    have h3 : decide (g < (af.length : Int)) = false := decide_eq_false (by omega)
    clear hg h1
    go_enter Try.func68, Try.ntmps68
    go_wp2
    go_quiet (fail)
    go_wp2
    go_ret
    exact ⟨by simp, _, rfl⟩
theorem clo_at (ha : w.cell? ⟨ba, 0, none⟩ = some v) (hp : w.cell? ⟨bp, 0, none⟩ = some (vi p)) (h : RdA w v af) (k : Nat) (hk : k < af.length) :
    Calls Try.prog 68 #[vi k, .pointer (some ⟨ba, 0, none⟩), .pointer (some ⟨bp, 0, none⟩)] w fun e w' => e = .returned (.bool (mayG af p k)) ∧ ∃ n, w' = w.drewN n := by
  obtain ⟨a, hka⟩ : ∃ a, af[k]? = some a := ⟨af[k], List.getElem?_eq_getElem hk⟩
  rw [show mayG af p k = hasB a p by rw [mayG, decide_eq_true (by omega), Int.toNat_natCast, hka]; rfl]
  have hab := h.2 a (List.mem_of_getElem? hka)
  obtain ⟨b, off, cap, rfl, hc⟩ : ∃ b off cap, v = .slice (some ⟨b, off, none⟩) af.length cap ∧ w.cell? ⟨b, off + k, none⟩ = some (.int .u8 a) := by
    rcases h.1.2 with ⟨h0, _⟩ | ⟨b, off, cap, hv, hc⟩
    · omega
    · exact ⟨b, off, cap, hv, hc k _ (by rw [List.getElem?_map, hka]; rfl)⟩
  have hki : (k : Int) < (af.length : Int) := by omega
  have hkd : decide (k < af.length) = true := decide_eq_true hk
  clear h hka
  go_enter Try.func68, Try.ntmps68
  go_wp2
  go_quiet ((go_at_call 23; exact Calls.quiet_of_same ((num_has a hab p _).mono fun _ _ h => ⟨h.1, h.2.symm⟩)))
  go_wp2
  go_ret
  exact ⟨rfl, _, rfl⟩
theorem clo_ (ha : w.cell? ⟨ba, 0, none⟩ = some v) (hp : w.cell? ⟨bp, 0, none⟩ = some (vi p)) (h : RdA w v af) :
    Calls Try.prog 68 #[vi g, .pointer (some ⟨ba, 0, none⟩), .pointer (some ⟨bp, 0, none⟩)] w fun e w' => e = .returned (.bool (mayG af p g)) ∧ ∃ n, w' = w.drewN n := by
  by_cases hg : g < 0 ∨ (af.length : Int) ≤ g
  · exact clo_no ha hp h hg
  · obtain ⟨k, rfl⟩ := Int.eq_ofNat_of_zero_le (show 0 ≤ g by omega)
    exact clo_at ha hp h k (by omega)
end
end Go.Proofs.Ytjgemfgneiaabaa.Rq

namespace Go.Proofs.Ytjgemfgneiaabaa.Rq
open Go.RowKit
set_option linter.unusedVariables false

section
variable {w0 w : World} {F : Hp} {q m : Nat} {vL vN : Value} {xs : List Int} {z : Int} {b : Bool}
end
end Go.Proofs.Ytjgemfgneiaabaa.Rq

namespace Go.Proofs.Ytjgemfgneiaabaa.Rq
open Go.RowKit
set_option linter.unusedVariables false

section
variable {w0 w : World} {F : Hp} {q r m : Nat} {z : Int} {b : Bool} {xs : List Int}
end
end Go.Proofs.Ytjgemfgneiaabaa.Rq

namespace Go.Proofs.Ytjgemfgneiaabaa.Rq
open Go.RowKit
set_option linter.unusedVariables false

section
variable {w0 w : World} {F : Hp}
end
end Go.Proofs.Ytjgemfgneiaabaa.Rq

namespace Go.Proofs.Ytjgemfgneiaabaa.Rq
open Go.RowKit
set_option linter.unusedVariables false

section
variable {w0 w : World} {F : Hp} {q m : Nat} {vL vN : Value} {xs ns : List Int}
end
end Go.Proofs.Ytjgemfgneiaabaa.Rq

namespace Go.Proofs.Ytjgemfgneiaabaa
section
variable {w0 w : World}
theorem Sat.pull5 {A B C D E G : Hp} (h : Sat w0 (A * (B * (C * (D * (E * G))))) w) : Sat w0 (E * (A * (B * (C * (D * G))))) w := h.cast (by ac_rfl)
theorem Sat.pull6 {A B C D E G I : Hp} (h : Sat w0 (A * (B * (C * (D * (E * (G * I)))))) w) : Sat w0 (G * (A * (B * (C * (D * (E * I)))))) w := h.cast (by ac_rfl)
theorem Sat.pull7 {A B C D E G I J : Hp} (h : Sat w0 (A * (B * (C * (D * (E * (G * (I * J))))))) w) : Sat w0 (I * (A * (B * (C * (D * (E * (G * J))))))) w := h.cast (by ac_rfl)
theorem Rd.oneB (w : World) (T : TypeId) (x : Value) {b : Nat} (hb : b = w.heap.size) : Rd (w.alloc (.cells #[x] T)) 1 (.slice (some ⟨b, 0, none⟩) 1 1) 1 [x] := by
  subst hb
  exact Rd.one w T x
end
end Go.Proofs.Ytjgemfgneiaabaa
namespace Go.Proofs.Ytjgemfgneiaabaa.Rq
open Go.RowKit
set_option linter.unusedVariables false

/-- The first k of those that f takes. -/
def stealO (f : Int → Bool) : Nat → List Int → List Int
  | _, [] => []
  | 0, _ :: _ => []
  | k + 1, x :: t => if f x then x :: stealO f k t else stealO f (k + 1) t
/-- The others. -/
def stealL (f : Int → Bool) : Nat → List Int → List Int
  | _, [] => []
  | 0, x :: t => x :: t
  | k + 1, x :: t => if f x then stealL f k t else x :: stealL f (k + 1) t
theorem stealO_zero (f : Int → Bool) (xs : List Int) : stealO f 0 xs = [] := by cases xs <;> rfl
theorem stealL_zero (f : Int → Bool) (xs : List Int) : stealL f 0 xs = xs := by cases xs <;> rfl
theorem stealO_eq (f : Int → Bool) : ∀ (xs : List Int) (k : Nat), stealO f k xs = (xs.filter f).take k
  | [], k => by cases k <;> simp [stealO]
  | x :: t, 0 => by simp [stealO]
  | x :: t, k + 1 => by
    unfold stealO
    by_cases h : f x = true
    · rw [if_pos h, List.filter_cons_of_pos h, List.take_succ_cons, stealO_eq f t k]
    · rw [if_neg h, List.filter_cons_of_neg h, stealO_eq f t (k + 1)]
theorem foldl_erase_cons (x : Int) : ∀ (os t : List Int), (∀ o ∈ os, o ≠ x) → os.foldl List.erase (x :: t) = x :: os.foldl List.erase t
  | [], _, _ => rfl
  | o :: os, t, h => by
    rw [List.foldl_cons, List.foldl_cons, List.erase_cons_tail (by simpa using fun e => h o (by simp) e.symm), foldl_erase_cons x os _ fun o' ho => h o' (by simp [ho])]
theorem stealO_mem {f : Int → Bool} {k : Nat} {xs : List Int} {o : Int} (h : o ∈ stealO f k xs) : f o = true ∧ o ∈ xs := by
  rw [stealO_eq] at h
  have := List.mem_filter.1 (List.mem_of_mem_take h)
  exact ⟨this.2, this.1⟩
theorem stealL_eq (f : Int → Bool) : ∀ (xs : List Int) (k : Nat), (stealO f k xs).foldl List.erase xs = stealL f k xs
  | [], k => by cases k <;> simp [stealO, stealL]
  | x :: t, 0 => by simp [stealO, stealL]
  | x :: t, k + 1 => by
    unfold stealO stealL
    by_cases h : f x = true
    · rw [if_pos h, if_pos h, List.foldl_cons, List.erase_cons_head, stealL_eq f t k]
    · rw [if_neg h, if_neg h, foldl_erase_cons, stealL_eq f t (k + 1)]
      intro o ho e
      exact h (e ▸ (stealO_mem ho).1)
def halfK (f : Int → Bool) (xs : List Int) : Nat := ((xs.filter f).length + 1) / 2
/-- Who is stolen, whom the ring has then, is somebody next then? -/
def thiefO (f : Int → Bool) (xs : List Int) (z : Int) (b : Bool) : List Int := if (stealO f (halfK f xs) xs).isEmpty && b && f z then [z] else stealO f (halfK f xs) xs
def thiefL (f : Int → Bool) (xs : List Int) : List Int := stealL f (halfK f xs) xs
def thiefB (f : Int → Bool) (xs : List Int) (z : Int) (b : Bool) : Bool := if (stealO f (halfK f xs) xs).isEmpty && b && f z then false else b
theorem half_empty (f : Int → Bool) (xs : List Int) : (stealO f (halfK f xs) xs).isEmpty = (xs.filter f).isEmpty := by
  rw [stealO_eq]
  unfold halfK
  generalize xs.filter f = l
  cases l with
  | nil => rfl
  | cons a l =>
    obtain ⟨k, hk⟩ : ∃ k, ((a :: l).length + 1) / 2 = k + 1 := ⟨((a :: l).length + 1) / 2 - 1, by simp; omega⟩
    rw [hk]
    rfl
end Go.Proofs.Ytjgemfgneiaabaa.Rq
