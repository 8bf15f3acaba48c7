/-
  Chapter 19: what the program's places own. No statement is proved here.
-/
import Derived.Test.YtjgemfgneiaabaaMg7
import Derived.Test.YtjgemfgneiaabaaMg8
namespace Go.Proofs.Ytjgemfgneiaabaa.Pc
open Go.RowKit Rq Gq
set_option linter.unusedVariables false

/-- Where all lies: the places, the global queue, the array of Ps and its room; each P's queue and ring; how many Ps, and a ring's room. -/
structure Ad where
  s : Nat
  a : Nat
  sb : Nat
  cap : Nat
  q : Nat → Nat
  r : Nat → Nat
  n : Nat
  m : Nat
abbrev vu (x : Int) : Value := .int .u64 x
abbrev Ad.v (D : Ad) : Value := .slice (some ⟨D.sb, 0, none⟩) D.n D.cap
def rowP (D : Ad) (p : Nat → Pl) (i : Nat) : List Value := [vp (D.q i), vi (p i).g, .bool (p i).runs, vi (p i).left, vu (p i).turns]
def oneP (D : Ad) (p : Nat → Pl) (i : Nat) : Hp := quB (D.q i) (D.r i) (p i).z (p i).b * ringP (D.r i) D.m (p i).xs
def plB (D : Ad) (p : Nat → Pl) (gx : List Int) : Hp := pc D.s 60 [D.v, vi D.m, vp D.a] * (sl 66 5 D.v D.n (rowsN (rowP D p) D.n) * (gQ D.a gx * star (oneP D p) D.n))
theorem rowP_len (D : Ad) (p : Nat → Pl) : ∀ i, (rowP D p i).length = 5 := fun _ => rfl
section
variable {w0 w : World} {F : Hp} {D : Ad} {p : Nat → Pl} {gx : List Int} {k : Nat}
theorem pl_head (h : Sat w0 (plB D p gx * F) w) : Sat w0 (pc D.s 60 [D.v, vi D.m, vp D.a] * (sl 66 5 D.v D.n (rowsN (rowP D p) D.n) * (gQ D.a gx * (star (oneP D p) D.n * F)))) w := h.cast (by unfold plB; ac_rfl)
theorem pl_tail (h : Sat w0 (pc D.s 60 [D.v, vi D.m, vp D.a] * (sl 66 5 D.v D.n (rowsN (rowP D p) D.n) * (gQ D.a gx * (star (oneP D p) D.n * F)))) w) : Sat w0 (plB D p gx * F) w := h.cast (by unfold plB; ac_rfl)
/-- The global queue is taken out, and put back. -/
theorem pl_glob (h : Sat w0 (plB D p gx * F) w) : Sat w0 (gQ D.a gx * (pc D.s 60 [D.v, vi D.m, vp D.a] * (sl 66 5 D.v D.n (rowsN (rowP D p) D.n) * (star (oneP D p) D.n * F)))) w := h.cast (by unfold plB; ac_rfl)
theorem pl_globI (h : Sat w0 (gQ D.a gx * (pc D.s 60 [D.v, vi D.m, vp D.a] * (sl 66 5 D.v D.n (rowsN (rowP D p) D.n) * (star (oneP D p) D.n * F)))) w) : Sat w0 (plB D p gx * F) w := h.cast (by unfold plB; ac_rfl)
/-- All but the k-th P's queue. -/
def plX (D : Ad) (p : Nat → Pl) (gx : List Int) (k : Nat) : Hp := pc D.s 60 [D.v, vi D.m, vp D.a] * (sl 66 5 D.v D.n (rowsN (rowP D p) D.n) * (gQ D.a gx * starx (oneP D p) D.n k))
theorem pl_out (h : Sat w0 (plB D p gx * F) w) (hk : k < D.n) : Sat w0 (quB (D.q k) (D.r k) (p k).z (p k).b * (ringP (D.r k) D.m (p k).xs * (plX D p gx k * F))) w := h.cast (by
  unfold plB plX
  rw [star_at _ hk]
  show _ = quB (D.q k) (D.r k) (p k).z (p k).b * (ringP (D.r k) D.m (p k).xs * _)
  unfold oneP
  ac_rfl)
/-- The k-th P's queue is put back, turned; its row is as it was. -/
theorem pl_in {y : Pl} (h : Sat w0 (quB (D.q k) (D.r k) y.z y.b * (ringP (D.r k) D.m y.xs * (plX D p gx k * F))) w) (hk : k < D.n) (h1 : y.g = (p k).g) (h2 : y.runs = (p k).runs) (h3 : y.left = (p k).left) (h4 : y.turns = (p k).turns) : Sat w0 (plB D (up p k y) gx * F) w := h.cast (by
  have e1 : rowsN (rowP D (up p k y)) D.n = rowsN (rowP D p) D.n := rowsN_congr fun i _ => by
    by_cases hi : i = k
    · subst hi
      unfold rowP
      rw [up_at, h1, h2, h3, h4]
    · unfold rowP
      rw [up_ne _ _ hi]
  have e2 : starx (oneP D (up p k y)) D.n k = starx (oneP D p) D.n k := starx_congr fun i hi => by unfold oneP; rw [up_ne _ _ hi]
  unfold plB plX
  rw [star_at _ hk, e1, e2]
  show quB (D.q k) (D.r k) y.z y.b * (ringP (D.r k) D.m y.xs * _) = _
  rw [show oneP D (up p k y) k = quB (D.q k) (D.r k) y.z y.b * ringP (D.r k) D.m y.xs by unfold oneP; rw [up_at]]
  ac_rfl)
theorem pl_cells (h : Sat w0 (plB D p gx * F) w) : w.cell? ⟨D.s, 0, none⟩ = some D.v ∧ w.cell? ⟨D.s, 1, none⟩ = some (vi D.m) ∧ w.cell? ⟨D.s, 2, none⟩ = some (vp D.a) := ⟨(pl_head h).cell 0 rfl, (pl_head h).cell 1 rfl, (pl_head h).cell 2 rfl⟩
theorem pl_row (h : Sat w0 (plB D p gx * F) w) (hk : k < D.n) : w.cell? ⟨D.sb, k * 5, none⟩ = some (vp (D.q k)) ∧ w.cell? ⟨D.sb, k * 5 + 1, none⟩ = some (vi (p k).g) ∧ w.cell? ⟨D.sb, k * 5 + 2, none⟩ = some (.bool (p k).runs) ∧ w.cell? ⟨D.sb, k * 5 + 3, none⟩ = some (vi (p k).left) ∧ w.cell? ⟨D.sb, k * 5 + 4, none⟩ = some (vu (p k).turns) :=
  ⟨(pl_head h).pull2.slCell (k * 5 + 0) (rowsN_at (rowP_len D p) hk rfl), (pl_head h).pull2.slCell (k * 5 + 1) (rowsN_at (rowP_len D p) hk rfl), (pl_head h).pull2.slCell (k * 5 + 2) (rowsN_at (rowP_len D p) hk rfl), (pl_head h).pull2.slCell (k * 5 + 3) (rowsN_at (rowP_len D p) hk rfl), (pl_head h).pull2.slCell (k * 5 + 4) (rowsN_at (rowP_len D p) hk rfl)⟩
theorem pl_free (h : Sat w0 (plB D p gx * F) w) (i : Nat) : w.frozen? ⟨D.sb, i, none⟩ = false := (pl_head h).pull2.slFree i
/-- A cell of a P's row is stored. -/
theorem pl_store {y : Pl} {j : Nat} {u : Value} (h : Sat w0 (plB D p gx * F) w) (hk : k < D.n) (hj : j < 5) (hr : [vp (D.q k), vi y.g, .bool y.runs, vi y.left, vu y.turns] = (rowP D p k).set j u) (h1 : y.xs = (p k).xs) (h2 : y.z = (p k).z) (h3 : y.b = (p k).b) : Sat w0 (plB D (up p k y) gx * F) (w.setCell ⟨D.sb, k * 5 + j, none⟩ u) := by
  have h5 := (pl_head h).pull2.slStore (k * 5 + j) (by have := Nat.mul_le_mul_right 5 (show k + 1 ≤ D.n by omega); omega) u
  rw [rowsN_set (row' := rowP D (up p k y)) (rowP_len D p) hj (by unfold rowP at hr ⊢; rw [up_at]; exact hr) (fun i hi => by unfold rowP; rw [up_ne _ _ hi]) D.n hk] at h5
  have e2 : star (oneP D (up p k y)) D.n = star (oneP D p) D.n := star_congr fun i _ => by
    by_cases hi : i = k
    · subst hi
      unfold oneP
      rw [up_at, h1, h2, h3]
    · unfold oneP
      rw [up_ne _ _ hi]
  exact h5.cast (by unfold plB; rw [e2]; ac_rfl)
theorem pl_ring (h : Sat w0 (plB D p gx * F) w) (hk : k < D.n) : (p k).xs.length ≤ D.m ∧ D.m ≤ 4096 := by
  have := (pl_out h hk).pull2.ringLen
  omega
theorem pl_cap (h : Sat w0 (plB D p gx * F) w) : D.n ≤ D.cap ∧ D.cap ≤ maxLen := (pl_head h).pull2.slCap
end
end Go.Proofs.Ytjgemfgneiaabaa.Pc
