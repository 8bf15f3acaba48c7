/-
  Chapter 19: places in plain words: what each P has, the global row, what each act does to them; that nobody is lost or doubled. No statement is proved here.
-/
import Derived.Test.YtjgemfgneiaabaaMg6
namespace Go.Proofs.Ytjgemfgneiaabaa.Pc
open Go.RowKit Rq
set_option linter.unusedVariables false

/-- What a P has: its ring, who is next (z, if b), who runs (g, if runs), what is left, its turns. -/
structure Pl where
  xs : List Int
  z : Int
  b : Bool
  g : Int
  runs : Bool
  left : Int
  turns : Int

def up (p : Nat → Pl) (k : Nat) (y : Pl) : Nat → Pl := fun i => if i = k then y else p i
theorem up_at (p : Nat → Pl) (k : Nat) (y : Pl) : up p k y k = y := if_pos rfl
theorem up_ne (p : Nat → Pl) {k i : Nat} (y : Pl) (h : i ≠ k) : up p k y i = p i := if_neg h
theorem up_self (p : Nat → Pl) (k : Nat) : up p k (p k) = p := by
  funext i
  unfold up
  split
  · rename_i h; rw [h]
  · rfl
theorem up_up (p : Nat → Pl) (k : Nat) (y y' : Pl) : up (up p k y) k y' = up p k y' := by
  funext i
  unfold up
  split <;> rfl

/-- Who is at a P. -/
def all1 (y : Pl) : List Int := (if y.runs then [y.g] else []) ++ allQ y.xs y.z y.b
/-- Who is anywhere. -/
def allP (p : Nat → Pl) (n : Nat) (gx : List Int) : List Int := (List.range n).flatMap (fun i => all1 (p i)) ++ gx
theorem flatMap_congr' {α β : Type} {f g : α → List β} : ∀ {l : List α}, (∀ i ∈ l, f i = g i) → l.flatMap f = l.flatMap g
  | [], _ => rfl
  | x :: r, h => by rw [List.flatMap_cons, List.flatMap_cons, h x (by simp), flatMap_congr' fun i hi => h i (by simp [hi])]
def restP (p : Nat → Pl) (n k : Nat) : List Int := ((List.range n).erase k).flatMap fun i => all1 (p i)
theorem not_mem_erase_range (n k : Nat) : k ∉ (List.range n).erase k := fun h => (List.Nodup.mem_erase_iff List.nodup_range).1 h |>.1 rfl
theorem all_at {p : Nat → Pl} {n k : Nat} (hk : k < n) (gx : List Int) : (allP p n gx).Perm (all1 (p k) ++ (restP p n k ++ gx)) := by
  unfold allP restP
  rw [← List.append_assoc]
  refine List.Perm.append_right gx ?_
  have h : (List.range n).Perm (k :: (List.range n).erase k) := List.perm_cons_erase (List.mem_range.2 hk)
  simpa using h.flatMap_right fun i => all1 (p i)
theorem rest_up (p : Nat → Pl) (n k : Nat) (y : Pl) : restP (up p k y) n k = restP p n k := by
  unfold restP
  refine flatMap_congr' fun i hi => ?_
  rw [up_ne]
  rintro rfl
  exact not_mem_erase_range n i hi
/-- A P is turned, and the global row: who was there, with who comes, is who is there with who goes. -/
theorem all_up {p : Nat → Pl} {n k : Nat} (hk : k < n) {y : Pl} {gx gx' A B : List Int} (h : (all1 y ++ (gx' ++ A)).Perm (all1 (p k) ++ (gx ++ B))) : (allP (up p k y) n gx' ++ A).Perm (allP p n gx ++ B) := by
  have h1 := (all_at (p := up p k y) hk gx').append_right A
  have h2 := (all_at (p := p) hk gx).append_right B
  rw [rest_up, up_at] at h1
  refine h1.trans (List.Perm.trans ?_ h2.symm)
  generalize restP p n k = R
  have e1 : (all1 y ++ (R ++ gx') ++ A).Perm (R ++ (all1 y ++ (gx' ++ A))) := by
    rw [List.append_assoc, List.append_assoc, ← List.append_assoc (all1 y), ← List.append_assoc R]
    exact List.perm_append_comm.append_right _
  have e2 : (all1 (p k) ++ (R ++ gx) ++ B).Perm (R ++ (all1 (p k) ++ (gx ++ B))) := by
    rw [List.append_assoc, List.append_assoc, ← List.append_assoc (all1 (p k)), ← List.append_assoc R]
    exact List.perm_append_comm.append_right _
  exact e1.trans ((h.append_left R).trans e2.symm)

/-- One is put into a P's ring, or next: what the P has, what goes to the global row. -/
def putY (m : Nat) (y : Pl) (g : Int) : Pl := { y with xs := putL m y.xs g }
def nextY (m : Nat) (y : Pl) (g : Int) : Pl := { y with xs := nextL m y.xs y.z y.b, z := g, b := true }
def takeY (m : Nat) (y : Pl) : Pl := { y with xs := tkL m y.xs y.z y.b (decide (0 < y.left)), b := false }
def takeS (m : Nat) (y : Pl) : List Int := tkS m y.xs y.z y.b (decide (0 < y.left))
def takeG (m : Nat) (y : Pl) : List Int := tkG m y.xs y.z y.b (decide (0 < y.left))
def rmY (y : Pl) (g : Int) : Pl := { y with xs := rmL y.xs y.z y.b g, b := rmB y.z y.b g }
def hasY (y : Pl) (g : Int) : Bool := hasQ y.xs y.z y.b g
def thiefY (f : Int → Bool) (y : Pl) : Pl := { y with xs := thiefL f y.xs, b := thiefB f y.xs y.z y.b }
def thiefG (f : Int → Bool) (y : Pl) : List Int := thiefO f y.xs y.z y.b
def dropY (y : Pl) : Pl := { y with b := false }
def startY (y : Pl) (g left : Int) : Pl := { y with g := g, runs := true, left := left }
def stopY (y : Pl) : Pl := { y with runs := false }
def leftY (y : Pl) (v : Int) : Pl := { y with left := v }
def turnY (y : Pl) (v : Int) : Pl := { y with turns := v }
def runsG (y : Pl) : List Int := if y.runs then [y.g] else []

section
variable {y : Pl} {m : Nat} {g : Int} {f : Int → Bool}
theorem perm_mid {A B C D G : List Int} (h : (A ++ B).Perm (C ++ D)) (R : List Int) : ((R ++ A) ++ (G ++ B)).Perm ((R ++ C) ++ (G ++ D)) := by
  have e : ∀ X Y : List Int, ((R ++ X) ++ (G ++ Y)).Perm ((R ++ G) ++ (X ++ Y)) := fun X Y => by
    rw [List.append_assoc, List.append_assoc, ← List.append_assoc X, ← List.append_assoc G]
    exact (List.perm_append_comm.append_right Y).append_left R
  exact (e A B).trans ((h.append_left _).trans (e C D).symm)
theorem put_all (gx : List Int) : (all1 (putY m y g) ++ ((gx ++ spillL m y.xs g) ++ [])).Perm (all1 y ++ (gx ++ [g])) := by
  rw [List.append_nil]
  refine perm_mid (R := runsG y) (G := gx) (A := allQ (putL m y.xs g) y.z y.b) (C := allQ y.xs y.z y.b) ?_
  exact (put_permA g).trans (List.perm_append_comm (l₁ := [g]))
theorem next_all (gx : List Int) : (all1 (nextY m y g) ++ ((gx ++ nextS m y.xs y.z y.b) ++ [])).Perm (all1 y ++ (gx ++ [g])) := by
  rw [List.append_nil]
  refine perm_mid (R := runsG y) (G := gx) (A := allQ (nextL m y.xs y.z y.b) g true) (C := allQ y.xs y.z y.b) ?_
  exact (next_permA g).trans (List.perm_append_comm (l₁ := [g]))
theorem take_all (gx : List Int) : (all1 (takeY m y) ++ ((gx ++ takeS m y) ++ takeG m y)).Perm (all1 y ++ (gx ++ [])) := by
  rw [List.append_assoc gx]
  refine perm_mid (R := runsG y) (G := gx) (A := allQ (tkL m y.xs y.z y.b (decide (0 < y.left))) y.z false) (C := allQ y.xs y.z y.b) (D := []) ?_
  rw [List.append_nil]
  exact take_permA _
theorem rm_all (gx : List Int) : (all1 (rmY y g) ++ (gx ++ (if hasY y g then [g] else []))).Perm (all1 y ++ (gx ++ [])) := by
  refine perm_mid (R := runsG y) (G := gx) (A := allQ (rmL y.xs y.z y.b g) y.z (rmB y.z y.b g)) (C := allQ y.xs y.z y.b) (D := []) ?_
  rw [List.append_nil]
  exact remove_permA g
theorem thief_all (gx : List Int) : (all1 (thiefY f y) ++ (gx ++ thiefG f y)).Perm (all1 y ++ (gx ++ [])) := by
  refine perm_mid (R := runsG y) (G := gx) (A := allQ (thiefL f y.xs) y.z (thiefB f y.xs y.z y.b)) (C := allQ y.xs y.z y.b) (D := []) ?_
  rw [List.append_nil]
  exact thief_perm f y.xs y.z y.b
theorem start_all (gx : List Int) (left : Int) (h : y.runs = false) : (all1 (startY y g left) ++ (gx ++ [])).Perm (all1 y ++ (gx ++ [g])) := by
  have e1 : all1 (startY y g left) = g :: allQ y.xs y.z y.b := rfl
  have e2 : all1 y = allQ y.xs y.z y.b := by unfold all1; rw [h]; rfl
  rw [e1, e2, List.append_nil, ← List.append_assoc]
  exact (List.perm_append_comm (l₁ := [g])).trans (List.Perm.refl _)
theorem stop_all (gx : List Int) : (all1 (stopY y) ++ (gx ++ runsG y)).Perm (all1 y ++ (gx ++ [])) := by
  have e1 : all1 (stopY y) = allQ y.xs y.z y.b := rfl
  have e2 : all1 y = runsG y ++ allQ y.xs y.z y.b := rfl
  rw [e1, e2, List.append_nil, ← List.append_assoc, List.append_assoc (runsG y)]
  exact List.perm_append_comm
theorem drop_all (gx : List Int) (hb : y.b = true) : (all1 (dropY y) ++ (gx ++ [y.z])).Perm (all1 y ++ (gx ++ [])) := by
  refine perm_mid (R := runsG y) (G := gx) (A := allQ y.xs y.z false) (C := allQ y.xs y.z y.b) (D := []) ?_
  rw [hb, List.append_nil]
  exact List.perm_append_comm (l₂ := [y.z])
end
end Go.Proofs.Ytjgemfgneiaabaa.Pc
