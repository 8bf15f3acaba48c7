/-
  Chapter 19: places in plain words: what each P has, the global row, what each act does to them; that nobody is lost or doubled. No statement is proved here.
-/
import Derived.Test.YtjgemfgneiaabaaGreatMg9
import Derived.Test.YtjgemfgneiaabaaGreatOps
namespace Go.Proofs.YtjgemfgneiaabaaGreat.Pc
open Go.RowKit Rq
set_option linter.unusedVariables false

/-- What a P has: its ring, who is next (z, if b), who runs (g, if runs), what is left, its turns. -/
structure Pl where
  xs : List Int
  z : Int
  b : Bool
  g : Int
  runs : Bool
  left : Int
  turns : Int

def up (p : Nat → Pl) (k : Nat) (y : Pl) : Nat → Pl := fun i => if i = k then y else p i
theorem up_at (p : Nat → Pl) (k : Nat) (y : Pl) : up p k y k = y := if_pos rfl
theorem up_ne (p : Nat → Pl) {k i : Nat} (y : Pl) (h : i ≠ k) : up p k y i = p i := if_neg h
theorem up_self (p : Nat → Pl) (k : Nat) : up p k (p k) = p := by
  funext i
  unfold up
  split
  · rename_i h; rw [h]
  · rfl
theorem up_up (p : Nat → Pl) (k : Nat) (y y' : Pl) : up (up p k y) k y' = up p k y' := by
  funext i
  unfold up
  split <;> rfl

/-- Who is at a P. -/
def all1 (y : Pl) : List Int := (if y.runs then [y.g] else []) ++ allQ y.xs y.z y.b
/-- Who is anywhere. -/
def allP (p : Nat → Pl) (n : Nat) (gx : List Int) : List Int := (List.range n).flatMap (fun i => all1 (p i)) ++ gx
theorem flatMap_congr' {α β : Type} {f g : α → List β} : ∀ {l : List α}, (∀ i ∈ l, f i = g i) → l.flatMap f = l.flatMap g
  | [], _ => rfl
  | x :: r, h => by rw [List.flatMap_cons, List.flatMap_cons, h x (by simp), flatMap_congr' fun i hi => h i (by simp [hi])]
def restP (p : Nat → Pl) (n k : Nat) : List Int := ((List.range n).erase k).flatMap fun i => all1 (p i)
theorem not_mem_erase_range (n k : Nat) : k ∉ (List.range n).erase k := fun h => (List.Nodup.mem_erase_iff List.nodup_range).1 h |>.1 rfl
theorem all_at {p : Nat → Pl} {n k : Nat} (hk : k < n) (gx : List Int) : (allP p n gx).Perm (all1 (p k) ++ (restP p n k ++ gx)) := by
  unfold allP restP
  rw [← List.append_assoc]
  refine List.Perm.append_right gx ?_
  have h : (List.range n).Perm (k :: (List.range n).erase k) := List.perm_cons_erase (List.mem_range.2 hk)
  simpa using h.flatMap_right fun i => all1 (p i)
theorem rest_up (p : Nat → Pl) (n k : Nat) (y : Pl) : restP (up p k y) n k = restP p n k := by
  unfold restP
  refine flatMap_congr' fun i hi => ?_
  rw [up_ne]
  rintro rfl
  exact not_mem_erase_range n i hi
/-- A P is turned, and the global row: who was there, with who comes, is who is there with who goes. -/
theorem all_up {p : Nat → Pl} {n k : Nat} (hk : k < n) {y : Pl} {gx gx' A B : List Int} (h : (all1 y ++ (gx' ++ A)).Perm (all1 (p k) ++ (gx ++ B))) : (allP (up p k y) n gx' ++ A).Perm (allP p n gx ++ B) := by
  have h1 := (all_at (p := up p k y) hk gx').append_right A
  have h2 := (all_at (p := p) hk gx).append_right B
  rw [rest_up, up_at] at h1
  refine h1.trans (List.Perm.trans ?_ h2.symm)
  generalize restP p n k = R
  have e1 : (all1 y ++ (R ++ gx') ++ A).Perm (R ++ (all1 y ++ (gx' ++ A))) := by
    rw [List.append_assoc, List.append_assoc, ← List.append_assoc (all1 y), ← List.append_assoc R]
    exact List.perm_append_comm.append_right _
  have e2 : (all1 (p k) ++ (R ++ gx) ++ B).Perm (R ++ (all1 (p k) ++ (gx ++ B))) := by
    rw [List.append_assoc, List.append_assoc, ← List.append_assoc (all1 (p k)), ← List.append_assoc R]
    exact List.perm_append_comm.append_right _
  exact e1.trans ((h.append_left R).trans e2.symm)

/-- One is put into a P's ring, or next: what the P has, what goes to the global row. -/
def putY (m : Nat) (y : Pl) (g : Int) : Pl := { y with xs := putL m y.xs g }
def nextY (m : Nat) (y : Pl) (g : Int) : Pl := { y with xs := nextL m y.xs y.z y.b, z := g, b := true }
def takeY (m : Nat) (y : Pl) : Pl := { y with xs := tkL m y.xs y.z y.b (decide (0 < y.left)), b := false }
def takeS (m : Nat) (y : Pl) : List Int := tkS m y.xs y.z y.b (decide (0 < y.left))
def takeG (m : Nat) (y : Pl) : List Int := tkG m y.xs y.z y.b (decide (0 < y.left))
def rmY (y : Pl) (g : Int) : Pl := { y with xs := rmL y.xs y.z y.b g, b := rmB y.z y.b g }
def hasY (y : Pl) (g : Int) : Bool := hasQ y.xs y.z y.b g
def thiefY (f : Int → Bool) (y : Pl) : Pl := { y with xs := thiefL f y.xs, b := thiefB f y.xs y.z y.b }
def thiefG (f : Int → Bool) (y : Pl) : List Int := thiefO f y.xs y.z y.b
def dropY (y : Pl) : Pl := { y with b := false }
def startY (y : Pl) (g left : Int) : Pl := { y with g := g, runs := true, left := left }
def stopY (y : Pl) : Pl := { y with runs := false }
def leftY (y : Pl) (v : Int) : Pl := { y with left := v }
def turnY (y : Pl) (v : Int) : Pl := { y with turns := v }
def runsG (y : Pl) : List Int := if y.runs then [y.g] else []

section
variable {y : Pl} {m : Nat} {g : Int} {f : Int → Bool}
theorem perm_mid {A B C D G : List Int} (h : (A ++ B).Perm (C ++ D)) (R : List Int) : ((R ++ A) ++ (G ++ B)).Perm ((R ++ C) ++ (G ++ D)) := by
  have e : ∀ X Y : List Int, ((R ++ X) ++ (G ++ Y)).Perm ((R ++ G) ++ (X ++ Y)) := fun X Y => by
    rw [List.append_assoc, List.append_assoc, ← List.append_assoc X, ← List.append_assoc G]
    exact (List.perm_append_comm.append_right Y).append_left R
  exact (e A B).trans ((h.append_left _).trans (e C D).symm)
theorem put_all (gx : List Int) : (all1 (putY m y g) ++ ((gx ++ spillL m y.xs g) ++ [])).Perm (all1 y ++ (gx ++ [g])) := by
  rw [List.append_nil]
  refine perm_mid (R := runsG y) (G := gx) (A := allQ (putL m y.xs g) y.z y.b) (C := allQ y.xs y.z y.b) ?_
  exact (put_permA g).trans (List.perm_append_comm (l₁ := [g]))
theorem next_all (gx : List Int) : (all1 (nextY m y g) ++ ((gx ++ nextS m y.xs y.z y.b) ++ [])).Perm (all1 y ++ (gx ++ [g])) := by
  rw [List.append_nil]
  refine perm_mid (R := runsG y) (G := gx) (A := allQ (nextL m y.xs y.z y.b) g true) (C := allQ y.xs y.z y.b) ?_
  exact (next_permA g).trans (List.perm_append_comm (l₁ := [g]))
theorem take_all (gx : List Int) : (all1 (takeY m y) ++ ((gx ++ takeS m y) ++ takeG m y)).Perm (all1 y ++ (gx ++ [])) := by
  rw [List.append_assoc gx]
  refine perm_mid (R := runsG y) (G := gx) (A := allQ (tkL m y.xs y.z y.b (decide (0 < y.left))) y.z false) (C := allQ y.xs y.z y.b) (D := []) ?_
  rw [List.append_nil]
  exact take_permA _
theorem rm_all (gx : List Int) : (all1 (rmY y g) ++ (gx ++ (if hasY y g then [g] else []))).Perm (all1 y ++ (gx ++ [])) := by
  refine perm_mid (R := runsG y) (G := gx) (A := allQ (rmL y.xs y.z y.b g) y.z (rmB y.z y.b g)) (C := allQ y.xs y.z y.b) (D := []) ?_
  rw [List.append_nil]
  exact remove_permA g
theorem thief_all (gx : List Int) : (all1 (thiefY f y) ++ (gx ++ thiefG f y)).Perm (all1 y ++ (gx ++ [])) := by
  refine perm_mid (R := runsG y) (G := gx) (A := allQ (thiefL f y.xs) y.z (thiefB f y.xs y.z y.b)) (C := allQ y.xs y.z y.b) (D := []) ?_
  rw [List.append_nil]
  exact thief_perm f y.xs y.z y.b
theorem start_all (gx : List Int) (left : Int) (h : y.runs = false) : (all1 (startY y g left) ++ (gx ++ [])).Perm (all1 y ++ (gx ++ [g])) := by
  have e1 : all1 (startY y g left) = g :: allQ y.xs y.z y.b := rfl
  have e2 : all1 y = allQ y.xs y.z y.b := by unfold all1; rw [h]; rfl
  rw [e1, e2, List.append_nil, ← List.append_assoc]
  exact (List.perm_append_comm (l₁ := [g])).trans (List.Perm.refl _)
theorem stop_all (gx : List Int) : (all1 (stopY y) ++ (gx ++ runsG y)).Perm (all1 y ++ (gx ++ [])) := by
  have e1 : all1 (stopY y) = allQ y.xs y.z y.b := rfl
  have e2 : all1 y = runsG y ++ allQ y.xs y.z y.b := rfl
  rw [e1, e2, List.append_nil, ← List.append_assoc, List.append_assoc (runsG y)]
  exact List.perm_append_comm
theorem drop_all (gx : List Int) (hb : y.b = true) : (all1 (dropY y) ++ (gx ++ [y.z])).Perm (all1 y ++ (gx ++ [])) := by
  refine perm_mid (R := runsG y) (G := gx) (A := allQ y.xs y.z false) (C := allQ y.xs y.z y.b) (D := []) ?_
  rw [hb, List.append_nil]
  exact List.perm_append_comm (l₂ := [y.z])
end
end Go.Proofs.YtjgemfgneiaabaaGreat.Pc

namespace Go.Proofs.YtjgemfgneiaabaaGreat
open Go.RowKit
set_option linter.unusedVariables false

section
variable {α : Type} {f : α → List Value} {N : Nat}
theorem flat_len (hN : ∀ a, (f a).length = N) (xs : List α) : (xs.flatMap f).length = xs.length * N := by
  induction xs with
  | nil => simp
  | cons x xs ih => rw [List.flatMap_cons, List.length_append, hN, ih, List.length_cons, Nat.add_mul, Nat.one_mul, Nat.add_comm]
theorem flat_at (hN : ∀ a, (f a).length = N) : ∀ (xs : List α) (i j : Nat), j < N → (xs.flatMap f)[i * N + j]? = (xs[i]?).bind fun a => (f a)[j]?
  | [], i, j, hj => by simp
  | x :: xs, 0, j, hj => by
    rw [List.flatMap_cons, Nat.zero_mul, Nat.zero_add, List.getElem?_append_left (by rw [hN]; exact hj)]
    rfl
  | x :: xs, i + 1, j, hj => by
    rw [List.flatMap_cons, Nat.add_mul, Nat.one_mul, Nat.add_right_comm, List.getElem?_append_right (by rw [hN]; omega), hN, Nat.add_sub_cancel, flat_at hN xs i j hj]
    rfl
theorem flat_get (hN : ∀ a, (f a).length = N) {xs : List α} {i j : Nat} {a : α} {v : Value} (hi : xs[i]? = some a) (hv : (f a)[j]? = some v) : (xs.flatMap f)[i * N + j]? = some v := by
  have hj : j < N := by rw [← hN a]; exact (List.getElem?_eq_some_iff.1 hv).1
  rw [flat_at hN xs i j hj, hi]
  exact hv
theorem flat_set (hN : ∀ a, (f a).length = N) : ∀ (xs : List α) (i j : Nat) (a a' : α) (v : Value), xs[i]? = some a → j < N → f a' = (f a).set j v → (xs.flatMap f).set (i * N + j) v = (xs.set i a').flatMap f
  | [], i, j, a, a', v, hi, hj, h => by simp at hi
  | x :: xs, 0, j, a, a', v, hi, hj, h => by
    simp only [List.getElem?_cons_zero, Option.some.injEq] at hi
    subst hi
    rw [List.flatMap_cons, Nat.zero_mul, Nat.zero_add, List.set_append, if_pos (by rw [hN]; exact hj), List.set_cons_zero, List.flatMap_cons, h]
  | x :: xs, i + 1, j, a, a', v, hi, hj, h => by
    simp only [List.getElem?_cons_succ] at hi
    rw [List.flatMap_cons, Nat.add_mul, Nat.one_mul, Nat.add_right_comm, List.set_append, if_neg (by rw [hN]; omega), hN, Nat.add_sub_cancel, flat_set hN xs i j a a' v hi hj h, List.set_cons_succ, List.flatMap_cons]
theorem flat_one (h1 : ∀ a, ∀ u ∈ f a, u.oneCell' = true) (xs : List α) : ∀ u ∈ xs.flatMap f, u.oneCell' = true := by
  intro u hu
  obtain ⟨a, _, ha⟩ := List.mem_flatMap.1 hu
  exact h1 a u ha
theorem flat_take (hN : ∀ a, (f a).length = N) : ∀ (xs : List α) (k : Nat), (xs.flatMap f).take (k * N) = (xs.take k).flatMap f
  | [], k => by simp
  | x :: xs, 0 => by simp
  | x :: xs, k + 1 => by
    rw [List.flatMap_cons, Nat.add_mul, Nat.one_mul, Nat.add_comm, List.take_append, hN, List.take_of_length_le (by rw [hN]; omega), Nat.add_sub_cancel_left, flat_take hN xs k, List.take_succ_cons, List.flatMap_cons]
theorem flat_made (hN : ∀ a, (f a).length = N) (hp : 0 < N) (z : Value) (a : α) (hz : z.cells.toList = f a) (n : Nat) : (madeCells z.cells (n * N)).toList = (List.replicate n a).flatMap f := by
  have hs : z.cells.size = N := by rw [← hN a, ← hz, Array.length_toList]
  apply List.ext_getElem?
  intro i
  by_cases hi : i < n * N
  · have hd : i / N < n := (Nat.div_lt_iff_lt_mul hp).2 hi
    have hm : i % N < N := Nat.mod_lt _ hp
    have e : i = i / N * N + i % N := by rw [Nat.mul_comm]; exact (Nat.div_add_mod i N).symm
    have h1 : ((List.replicate n a).flatMap f)[i]? = (f a)[i % N]? := by
      conv => lhs; rw [e]
      rw [flat_at hN _ _ _ hm, List.getElem?_replicate, if_pos hd]
      rfl
    rw [h1, ← hz]
    simp [madeCells, hi, hs, hm]
  · rw [List.getElem?_eq_none (by simp [madeCells]; omega), List.getElem?_eq_none (by rw [flat_len hN]; simp; omega)]
end
end Go.Proofs.YtjgemfgneiaabaaGreat

namespace Go.Proofs.YtjgemfgneiaabaaGreat.Pc
open Go.RowKit Rq
set_option linter.unusedVariables false

def starL (f : Nat → Hp) : List Nat → Hp
  | [] => emp
  | i :: r => f i * starL f r
theorem starL_perm (f : Nat → Hp) {a b : List Nat} (h : a.Perm b) : starL f a = starL f b := by
  induction h with
  | nil => rfl
  | cons x _ ih => show f x * _ = f x * _; rw [ih]
  | swap x y l => show f y * (f x * starL f l) = f x * (f y * starL f l); ac_rfl
  | trans _ _ h1 h2 => exact h1.trans h2
theorem starL_congr {f g : Nat → Hp} : ∀ {l : List Nat}, (∀ i ∈ l, f i = g i) → starL f l = starL g l
  | [], _ => rfl
  | x :: r, h => by
    show f x * starL f r = g x * starL g r
    rw [h x (by simp), starL_congr fun i hi => h i (by simp [hi])]
def star (f : Nat → Hp) (n : Nat) : Hp := starL f (List.range n)
/-- All but the k-th. -/
def starx (f : Nat → Hp) (n k : Nat) : Hp := starL f ((List.range n).erase k)
theorem star_at (f : Nat → Hp) {n k : Nat} (hk : k < n) : star f n = f k * starx f n k := by
  show starL f _ = starL f (k :: (List.range n).erase k)
  exact starL_perm f (List.perm_cons_erase (List.mem_range.2 hk))
theorem starx_congr {f g : Nat → Hp} {n k : Nat} (h : ∀ i, i ≠ k → f i = g i) : starx f n k = starx g n k :=
  starL_congr fun i hi => h i (by rintro rfl; exact not_mem_erase_range n i hi)
theorem star_zero (f : Nat → Hp) : star f 0 = emp := rfl
theorem star_succ (f : Nat → Hp) (n : Nat) : star f (n + 1) = star f n * f n := by
  have h := starL_perm f (show (List.range (n + 1)).Perm (n :: List.range n) by rw [List.range_succ]; exact List.perm_append_comm)
  show starL f _ = starL f (List.range n) * f n
  rw [h]
  exact sep_comm _ _
theorem star_congr {f g : Nat → Hp} {n : Nat} (h : ∀ i, i < n → f i = g i) : star f n = star g n := starL_congr fun i hi => h i (List.mem_range.1 hi)

section
variable {w0 w : World} {A F : Hp} {f g : Nat → Hp} {n k : Nat}
theorem Sat.star_out (h : Sat w0 (star f n * F) w) (hk : k < n) : Sat w0 (f k * (starx f n k * F)) w := h.cast (by rw [star_at f hk]; ac_rfl)
theorem Sat.star_in (h : Sat w0 (g k * (starx f n k * F)) w) (hk : k < n) (hg : ∀ i, i ≠ k → f i = g i) : Sat w0 (star g n * F) w := h.cast (by rw [star_at g hk, starx_congr hg]; ac_rfl)
end

/-- Rows of cells, one for each number below n. -/
def rowsN (row : Nat → List Value) (n : Nat) : List Value := (List.range n).flatMap row
theorem rowsN_succ (row : Nat → List Value) (n : Nat) : rowsN row (n + 1) = rowsN row n ++ row n := by unfold rowsN; rw [List.range_succ, List.flatMap_append]; simp
theorem rowsN_len {row : Nat → List Value} {N : Nat} (hN : ∀ i, (row i).length = N) (n : Nat) : (rowsN row n).length = n * N := by
  unfold rowsN
  rw [flat_len hN, List.length_range]
theorem rowsN_at {row : Nat → List Value} {N n k j : Nat} {v : Value} (hN : ∀ i, (row i).length = N) (hk : k < n) (hv : (row k)[j]? = some v) : (rowsN row n)[k * N + j]? = some v :=
  flat_get hN (a := k) (by simp [hk]) hv
theorem rowsN_congr {row row' : Nat → List Value} {n : Nat} (h : ∀ i, i < n → row i = row' i) : rowsN row n = rowsN row' n := flatMap_congr' fun i hi => h i (List.mem_range.1 hi)
theorem rowsN_set {row row' : Nat → List Value} {N k j : Nat} {v : Value} (hN : ∀ i, (row i).length = N) (hj : j < N) (hr : row' k = (row k).set j v) (ho : ∀ i, i ≠ k → row' i = row i) : ∀ n, k < n → (rowsN row n).set (k * N + j) v = rowsN row' n
  | 0, h => by omega
  | n + 1, h => by
    rw [rowsN_succ, rowsN_succ]
    by_cases he : k = n
    · subst he
      rw [List.set_append, if_neg (by rw [rowsN_len hN]; omega), rowsN_len hN, Nat.add_sub_cancel_left, ← hr, rowsN_congr fun i hi => (ho i (by omega)).symm]
    · have hk : k < n := by omega
      rw [List.set_append, if_pos (by rw [rowsN_len hN]; have := Nat.mul_le_mul_right N (show k + 1 ≤ n by omega); rw [Nat.add_mul, Nat.one_mul] at this; omega), rowsN_set hN hj hr ho n hk, ho n (by omega)]
theorem rowsN_one {row : Nat → List Value} (h1 : ∀ i, ∀ u ∈ row i, u.oneCell' = true) (n : Nat) : ∀ u ∈ rowsN row n, u.oneCell' = true := flat_one h1 _
end Go.Proofs.YtjgemfgneiaabaaGreat.Pc
