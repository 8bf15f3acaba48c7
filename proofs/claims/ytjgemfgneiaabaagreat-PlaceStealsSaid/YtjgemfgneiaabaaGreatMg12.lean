/-
  Chapter 19: what the program's places own. No statement is proved here.
-/
import Derived.Test.YtjgemfgneiaabaaGreatMg10
import Derived.Test.YtjgemfgneiaabaaGreatMg11
namespace Go.Proofs.YtjgemfgneiaabaaGreat.Pc
open Go.RowKit Rq Gq
set_option linter.unusedVariables false

/-- Where all lies: the places, the global queue, the array of Ps and its room; each P's queue and ring; how many Ps, and a ring's room. -/
structure Ad where
  s : Nat
  a : Nat
  sb : Nat
  cap : Nat
  q : Nat → Nat
  r : Nat → Nat
  n : Nat
  m : Nat
abbrev vu (x : Int) : Value := .int .u64 x
abbrev Ad.v (D : Ad) : Value := .slice (some ⟨D.sb, 0, none⟩) D.n D.cap
def rowP (D : Ad) (p : Nat → Pl) (i : Nat) : List Value := [vp (D.q i), vi (p i).g, .bool (p i).runs, vi (p i).left, vu (p i).turns]
def oneP (D : Ad) (p : Nat → Pl) (i : Nat) : Hp := quB (D.q i) (D.r i) (p i).z (p i).b * ringP (D.r i) D.m (p i).xs
def plB (D : Ad) (p : Nat → Pl) (gx : List Int) : Hp := pc D.s 58 [D.v, vi D.m, vp D.a] * (sl 64 5 D.v D.n (rowsN (rowP D p) D.n) * (gQ D.a gx * star (oneP D p) D.n))
theorem rowP_len (D : Ad) (p : Nat → Pl) : ∀ i, (rowP D p i).length = 5 := fun _ => rfl
section
variable {w0 w : World} {F : Hp} {D : Ad} {p : Nat → Pl} {gx : List Int} {k : Nat}
theorem pl_head (h : Sat w0 (plB D p gx * F) w) : Sat w0 (pc D.s 58 [D.v, vi D.m, vp D.a] * (sl 64 5 D.v D.n (rowsN (rowP D p) D.n) * (gQ D.a gx * (star (oneP D p) D.n * F)))) w := h.cast (by unfold plB; ac_rfl)
theorem pl_tail (h : Sat w0 (pc D.s 58 [D.v, vi D.m, vp D.a] * (sl 64 5 D.v D.n (rowsN (rowP D p) D.n) * (gQ D.a gx * (star (oneP D p) D.n * F)))) w) : Sat w0 (plB D p gx * F) w := h.cast (by unfold plB; ac_rfl)
/-- The global queue is taken out, and put back. -/
theorem pl_glob (h : Sat w0 (plB D p gx * F) w) : Sat w0 (gQ D.a gx * (pc D.s 58 [D.v, vi D.m, vp D.a] * (sl 64 5 D.v D.n (rowsN (rowP D p) D.n) * (star (oneP D p) D.n * F)))) w := h.cast (by unfold plB; ac_rfl)
theorem pl_globI (h : Sat w0 (gQ D.a gx * (pc D.s 58 [D.v, vi D.m, vp D.a] * (sl 64 5 D.v D.n (rowsN (rowP D p) D.n) * (star (oneP D p) D.n * F)))) w) : Sat w0 (plB D p gx * F) w := h.cast (by unfold plB; ac_rfl)
/-- All but the k-th P's queue. -/
def plX (D : Ad) (p : Nat → Pl) (gx : List Int) (k : Nat) : Hp := pc D.s 58 [D.v, vi D.m, vp D.a] * (sl 64 5 D.v D.n (rowsN (rowP D p) D.n) * (gQ D.a gx * starx (oneP D p) D.n k))
theorem pl_out (h : Sat w0 (plB D p gx * F) w) (hk : k < D.n) : Sat w0 (quB (D.q k) (D.r k) (p k).z (p k).b * (ringP (D.r k) D.m (p k).xs * (plX D p gx k * F))) w := h.cast (by
  unfold plB plX
  rw [star_at _ hk]
  show _ = quB (D.q k) (D.r k) (p k).z (p k).b * (ringP (D.r k) D.m (p k).xs * _)
  unfold oneP
  ac_rfl)
/-- The k-th P's queue is put back, turned; its row is as it was. -/
theorem pl_in {y : Pl} (h : Sat w0 (quB (D.q k) (D.r k) y.z y.b * (ringP (D.r k) D.m y.xs * (plX D p gx k * F))) w) (hk : k < D.n) (h1 : y.g = (p k).g) (h2 : y.runs = (p k).runs) (h3 : y.left = (p k).left) (h4 : y.turns = (p k).turns) : Sat w0 (plB D (up p k y) gx * F) w := h.cast (by
  have e1 : rowsN (rowP D (up p k y)) D.n = rowsN (rowP D p) D.n := rowsN_congr fun i _ => by
    by_cases hi : i = k
    · subst hi
      unfold rowP
      rw [up_at, h1, h2, h3, h4]
    · unfold rowP
      rw [up_ne _ _ hi]
  have e2 : starx (oneP D (up p k y)) D.n k = starx (oneP D p) D.n k := starx_congr fun i hi => by unfold oneP; rw [up_ne _ _ hi]
  unfold plB plX
  rw [star_at _ hk, e1, e2]
  show quB (D.q k) (D.r k) y.z y.b * (ringP (D.r k) D.m y.xs * _) = _
  rw [show oneP D (up p k y) k = quB (D.q k) (D.r k) y.z y.b * ringP (D.r k) D.m y.xs by unfold oneP; rw [up_at]]
  ac_rfl)
theorem pl_cells (h : Sat w0 (plB D p gx * F) w) : w.cell? ⟨D.s, 0, none⟩ = some D.v ∧ w.cell? ⟨D.s, 1, none⟩ = some (vi D.m) ∧ w.cell? ⟨D.s, 2, none⟩ = some (vp D.a) := ⟨(pl_head h).cell 0 rfl, (pl_head h).cell 1 rfl, (pl_head h).cell 2 rfl⟩
theorem pl_row (h : Sat w0 (plB D p gx * F) w) (hk : k < D.n) : w.cell? ⟨D.sb, k * 5, none⟩ = some (vp (D.q k)) ∧ w.cell? ⟨D.sb, k * 5 + 1, none⟩ = some (vi (p k).g) ∧ w.cell? ⟨D.sb, k * 5 + 2, none⟩ = some (.bool (p k).runs) ∧ w.cell? ⟨D.sb, k * 5 + 3, none⟩ = some (vi (p k).left) ∧ w.cell? ⟨D.sb, k * 5 + 4, none⟩ = some (vu (p k).turns) :=
  ⟨(pl_head h).pull2.slCell (k * 5 + 0) (rowsN_at (rowP_len D p) hk rfl), (pl_head h).pull2.slCell (k * 5 + 1) (rowsN_at (rowP_len D p) hk rfl), (pl_head h).pull2.slCell (k * 5 + 2) (rowsN_at (rowP_len D p) hk rfl), (pl_head h).pull2.slCell (k * 5 + 3) (rowsN_at (rowP_len D p) hk rfl), (pl_head h).pull2.slCell (k * 5 + 4) (rowsN_at (rowP_len D p) hk rfl)⟩
theorem pl_free (h : Sat w0 (plB D p gx * F) w) (i : Nat) : w.frozen? ⟨D.sb, i, none⟩ = false := (pl_head h).pull2.slFree i
/-- A cell of a P's row is stored. -/
theorem pl_store {y : Pl} {j : Nat} {u : Value} (h : Sat w0 (plB D p gx * F) w) (hk : k < D.n) (hj : j < 5) (hr : [vp (D.q k), vi y.g, .bool y.runs, vi y.left, vu y.turns] = (rowP D p k).set j u) (h1 : y.xs = (p k).xs) (h2 : y.z = (p k).z) (h3 : y.b = (p k).b) : Sat w0 (plB D (up p k y) gx * F) (w.setCell ⟨D.sb, k * 5 + j, none⟩ u) := by
  have h5 := (pl_head h).pull2.slStore (k * 5 + j) (by have := Nat.mul_le_mul_right 5 (show k + 1 ≤ D.n by omega); omega) u
  rw [rowsN_set (row' := rowP D (up p k y)) (rowP_len D p) hj (by unfold rowP at hr ⊢; rw [up_at]; exact hr) (fun i hi => by unfold rowP; rw [up_ne _ _ hi]) D.n hk] at h5
  have e2 : star (oneP D (up p k y)) D.n = star (oneP D p) D.n := star_congr fun i _ => by
    by_cases hi : i = k
    · subst hi
      unfold oneP
      rw [up_at, h1, h2, h3]
    · unfold oneP
      rw [up_ne _ _ hi]
  exact h5.cast (by unfold plB; rw [e2]; ac_rfl)
theorem pl_ring (h : Sat w0 (plB D p gx * F) w) (hk : k < D.n) : (p k).xs.length ≤ D.m ∧ D.m ≤ 4096 := by
  have := (pl_out h hk).pull2.ringLen
  omega
theorem pl_cap (h : Sat w0 (plB D p gx * F) w) : D.n ≤ D.cap ∧ D.cap ≤ maxLen := (pl_head h).pull2.slCap
end
end Go.Proofs.YtjgemfgneiaabaaGreat.Pc

namespace Go.Proofs.YtjgemfgneiaabaaGreat.Pc
open Go.RowKit Rq Gq
set_option linter.unusedVariables false
set_option linter.unusedSimpArgs false

section
variable {w0 w : World} {F : Hp} {D : Ad} {p : Nat → Pl} {gx : List Int}
/-- How many Ps there may be, and how long a ring. -/
structure Ad.Ok (D : Ad) : Prop where
  n1 : 1 ≤ D.n
  n8 : D.n ≤ 8
  m2 : 2 ≤ D.m
  m32 : D.m ≤ 32
def inP (n : Nat) (k : Int) : Bool := decide (0 ≤ k ∧ k < n)
theorem plX_cells {k i : Nat} (h : Sat w0 (plX D p gx k * F) w) (hi : i < D.n) : w.cell? ⟨D.s, 0, none⟩ = some D.v ∧ w.cell? ⟨D.s, 2, none⟩ = some (vp D.a) ∧ w.cell? ⟨D.sb, i * 5, none⟩ = some (vp (D.q i)) ∧ w.cell? ⟨D.sb, i * 5 + 3, none⟩ = some (vi (p i).left) := by
  have h1 : Sat w0 (pc D.s 58 [D.v, vi D.m, vp D.a] * (sl 64 5 D.v D.n (rowsN (rowP D p) D.n) * (gQ D.a gx * (starx (oneP D p) D.n k * F)))) w := h.cast (by unfold plX; ac_rfl)
  exact ⟨h1.cell 0 rfl, h1.cell 2 rfl, h1.pull2.slCell (i * 5 + 0) (rowsN_at (rowP_len D p) hi rfl), h1.pull2.slCell (i * 5 + 3) (rowsN_at (rowP_len D p) hi rfl)⟩
theorem slPos {e : TypeId} {size n : Nat} {v : Value} {xs : List Value} (h : Sat w0 (sl e size v n xs * F) w) (hn : n ≠ 0) : ∃ g cap, v = .slice (some ⟨g, 0, none⟩) n cap ∧ n ≤ cap := by
  rcases h.slE.2 with ⟨_, h0, _⟩ | ⟨g, cap, cur, hv, h1, _⟩
  · exact absurd h0 hn
  · exact ⟨g, cap, hv, h1⟩
theorem spill_len {m : Nat} {xs : List Int} (g : Int) : (spillL m xs g).length ≤ (m + 1) / 2 + 1 := by
  unfold spillL
  split
  · simp
  · rw [List.length_append, List.length_take, List.length_singleton]
    omega
theorem nextS_len {m : Nat} {xs : List Int} {z : Int} {b : Bool} : (nextS m xs z b).length ≤ (m + 1) / 2 + 1 := by
  unfold nextS
  split
  · exact spill_len z
  · simp
theorem inP_nat {n k : Nat} (h : k < n) : inP n k = true := by unfold inP; rw [decide_eq_true_eq]; omega
theorem inP_yes {n : Nat} {k : Int} (h : inP n k = true) : ∃ j : Nat, k = j ∧ j < n := by
  unfold inP at h
  rw [decide_eq_true_eq] at h
  obtain ⟨j, rfl⟩ := Int.eq_ofNat_of_zero_le h.1
  exact ⟨j, rfl, by omega⟩
theorem pl_ps (h : Sat w0 (plB D p gx * F) w) : Calls Tryz.prog 50 #[vp D.s] w fun e w' => e = .returned (vi D.n) ∧ w = w' := by
  have c0 := (pl_cells h).1
  unfold Ad.v at c0
  clear h
  go_enter Tryz.func50, Tryz.ntmps50
  go_wp2
  go_ret
  exact ⟨rfl, rfl⟩
theorem pl_is (h : Sat w0 (plB D p gx * F) w) (k : Int) : Calls Tryz.prog 45 #[vp D.s, vi k] w fun e w' => e = .returned (.bool (inP D.n k)) ∧ w = w' := by
  have HP := Lib.hid (pl_ps h)
  clear h
  by_cases h0 : 0 ≤ k
  · have h1 : decide (0 ≤ k) = true := decide_eq_true h0
    have h2 : inP D.n k = decide (k < (D.n : Int)) := by
      unfold inP
      by_cases h3 : k < (D.n : Int)
      · rw [decide_eq_true h3, decide_eq_true ⟨h0, h3⟩]
      · rw [decide_eq_false h3, decide_eq_false (fun h => h3 h.2)]
    rw [h2]
    clear h0 h2
    go_enter Tryz.func45, Tryz.ntmps45
    go_wp2_with (go_at_call 50; refine HP.out.mono ?_; rintro e w' ⟨rfl, rfl⟩)
    go_ret
    exact ⟨rfl, rfl⟩
  · have h1 : decide (0 ≤ k) = false := decide_eq_false h0
    have h2 : inP D.n k = false := by
      unfold inP
      rw [decide_eq_false (fun h => h0 h.1)]
    rw [h2]
    clear h0 h2
    go_enter Tryz.func45, Tryz.ntmps45
    go_wp2
    go_ret
    exact ⟨rfl, rfl⟩
theorem pl_back (h : Sat w0 (plB D p gx * F) w) (ho : D.Ok) {ys : List Int} {v : Value} (hA : ∀ w', Sat w0 F w' → RdI w' v ys) (hl : gx.length + ys.length ≤ 1000000) :
    Calls Tryz.prog 24 #[vp D.s, v] w fun e w' => e = .returned (.tuple #[]) ∧ Sat w0 (plB D p (gx ++ ys) * F) w' := by
  have c2 := (pl_cells h).2.2
  have HP := Lib.hid (pl_ps h)
  have hn1 := ho.n1
  have hnp : (0 : Int) < (D.n : Int) := by omega
  obtain ⟨ao, cap, rfl⟩ := (hA w h.dropL).len
  have HG := Lib.hid (g_put (pl_glob h) (ao := ao) (cap := cap) (ys := ys) (fun w' h' => hA w' h'.dropL.dropL.dropL) hl)
  clear h hn1 hA ho
  go_enter Tryz.func24, Tryz.ntmps24
  go_wp2_with (first
    | (go_at_call 50; refine HP.out.mono ?_; rintro e w' ⟨rfl, rfl⟩)
    | (go_at_call 80; refine HG.out.mono ?_; rintro e w1 ⟨rfl, hS⟩; have H1 := Lib.hid (pl_globI hS); clear hS))
  go_end0
  exact ⟨rfl, H1.out⟩
theorem rdI_one (w : World) (T : TypeId) (x : Int) {b : Nat} (hb : b = w.heap.size) : RdI (w.alloc (.cells #[vi x] T)) (.slice (some ⟨b, 0, none⟩) 1 1) [x] := Rd.oneB w T (vi x) hb
theorem rdI_pc {w0 w : World} {F : Hp} {b : Nat} {T : TypeId} {x : Int} (h : Sat w0 (pc b T [vi x] * F) w) : RdI w (.slice (some ⟨b, 0, none⟩) 1 1) [x] :=
  ⟨rfl, .inr ⟨b, 0, 1, rfl, fun j u hj => by
    rw [Nat.zero_add]
    exact h.cell j (by simpa using hj)⟩⟩
end
end Go.Proofs.YtjgemfgneiaabaaGreat.Pc

namespace Go.Proofs.YtjgemfgneiaabaaGreat.Pc
open Go.RowKit Rq Gq
set_option linter.unusedVariables false
set_option linter.unusedSimpArgs false

section
variable {w0 w : World} {F : Hp} {D : Ad} {p : Nat → Pl} {gx : List Int}
theorem pl_runs_no (h : Sat w0 (plB D p gx * F) w) (k : Int) (hk : inP D.n k = false) : Calls Tryz.prog 30 #[vp D.s, vi k] w fun e w' => e = .returned (.tuple #[vi 0, .bool false]) ∧ w = w' := by
  have HI := Lib.hid (pl_is h k)
  rw [hk] at HI
  clear h hk
  go_enter Tryz.func30, Tryz.ntmps30
  go_wp2_with (go_at_call 45; refine HI.out.mono ?_; rintro e w' ⟨rfl, rfl⟩)
  go_ret2
  exact ⟨rfl, rfl⟩
theorem pl_runs_at (h : Sat w0 (plB D p gx * F) w) (k : Nat) (hk : k < D.n) : Calls Tryz.prog 30 #[vp D.s, vi k] w fun e w' => e = .returned (.tuple #[vi ((runsG (p k)).headD 0), .bool (p k).runs]) ∧ w = w' := by
  obtain ⟨c1, r0, r1, r2, r3, r4⟩ : w.cell? ⟨D.s, 0, none⟩ = some D.v ∧ _ := ⟨(pl_cells h).1, pl_row h hk⟩
  have hki : (k : Int) < (D.n : Int) := by omega
  have HI := Lib.hid (pl_is h (k : Int))
  rw [inP_nat hk] at HI
  unfold runsG
  generalize (p k).g = g at *
  generalize (p k).runs = ru at *
  unfold Ad.v at c1
  clear h hk
  cases ru
  · go_enter Tryz.func30, Tryz.ntmps30
    go_wp2_with (go_at_call 45; refine HI.out.mono ?_; rintro e w' ⟨rfl, rfl⟩)
    go_ret2
    exact ⟨rfl, rfl⟩
  · go_enter Tryz.func30, Tryz.ntmps30
    go_wp2_with (go_at_call 45; refine HI.out.mono ?_; rintro e w' ⟨rfl, rfl⟩)
    go_ret2
    exact ⟨rfl, rfl⟩
theorem pl_stop_no (h : Sat w0 (plB D p gx * F) w) (k : Int) (hk : inP D.n k = false) : Calls Tryz.prog 33 #[vp D.s, vi k] w fun e w' => e = .returned (.tuple #[vi 0, .bool false]) ∧ w = w' := by
  have HI := Lib.hid (pl_runs_no h k hk)
  clear h hk
  go_enter Tryz.func33, Tryz.ntmps33
  go_wp2_with (go_at_call 30; refine HI.out.mono ?_; rintro e w' ⟨rfl, rfl⟩)
  go_ret2
  exact ⟨rfl, rfl⟩
theorem pl_stop_at (h : Sat w0 (plB D p gx * F) w) (k : Nat) (hk : k < D.n) : Calls Tryz.prog 33 #[vp D.s, vi k] w fun e w' => e = .returned (.tuple #[vi ((runsG (p k)).headD 0), .bool (p k).runs]) ∧ Sat w0 (plB D (up p k (stopY (p k))) gx * F) w' := by
  obtain ⟨c1, r0, r1, r2, r3, r4⟩ : w.cell? ⟨D.s, 0, none⟩ = some D.v ∧ _ := ⟨(pl_cells h).1, pl_row h hk⟩
  have hki : (k : Int) < (D.n : Int) := by omega
  have HI := Lib.hid (pl_runs_at h k hk)
  have f2 := pl_free h (k * 5 + 2)
  have hst := pl_store (y := stopY (p k)) (j := 2) (u := .bool false) h hk (by omega) rfl rfl rfl rfl
  have hsame : (p k).runs = false → Sat w0 (plB D (up p k (stopY (p k))) gx * F) w := fun hr => by
    have he : stopY (p k) = p k := by unfold stopY; rw [← hr]
    rw [he, up_self]
    exact h
  have HST := Lib.hid hst
  have HSM := Lib.hid hsame
  generalize (runsG (p k)).headD 0 = g at *
  clear h hst hsame hk r0 r1 r3 r4
  unfold Ad.v at c1
  generalize (p k).runs = ru at *
  cases ru
  · go_enter Tryz.func33, Tryz.ntmps33
    go_wp2_with (go_at_call 30; refine HI.out.mono ?_; rintro e w' ⟨rfl, rfl⟩)
    go_ret2
    exact ⟨rfl, HSM.out (by trivial)⟩
  · go_enter Tryz.func33, Tryz.ntmps33
    go_wp2_with (go_at_call 30; refine HI.out.mono ?_; rintro e w' ⟨rfl, rfl⟩)
    go_ret2
    exact ⟨rfl, HST.out⟩
theorem pl_turn_no (h : Sat w0 (plB D p gx * F) w) (k : Int) (hk : inP D.n k = false) : Calls Tryz.prog 43 #[vp D.s, vi k] w fun e w' => e = .returned (.int .u64 0) ∧ w = w' := by
  have HI := Lib.hid (pl_is h k)
  rw [hk] at HI
  clear h hk
  go_enter Tryz.func43, Tryz.ntmps43
  go_wp2_with (go_at_call 45; refine HI.out.mono ?_; rintro e w' ⟨rfl, rfl⟩)
  go_ret
  exact ⟨rfl, rfl⟩
theorem pl_turn_at (h : Sat w0 (plB D p gx * F) w) (k : Nat) (hk : k < D.n) : Calls Tryz.prog 43 #[vp D.s, vi k] w fun e w' => e = .returned (.int .u64 (IntKind.u64.wrap ((p k).turns + 1))) ∧ Sat w0 (plB D (up p k (turnY (p k) (IntKind.u64.wrap ((p k).turns + 1)))) gx * F) w' := by
  obtain ⟨c1, r0, r1, r2, r3, r4⟩ : w.cell? ⟨D.s, 0, none⟩ = some D.v ∧ _ := ⟨(pl_cells h).1, pl_row h hk⟩
  have hki : (k : Int) < (D.n : Int) := by omega
  have HI := Lib.hid (pl_is h (k : Int))
  rw [inP_nat hk] at HI
  have f4 := pl_free h (k * 5 + 4)
  have hst := pl_store (y := turnY (p k) (IntKind.u64.wrap ((p k).turns + 1))) (j := 4) (u := vu (IntKind.u64.wrap ((p k).turns + 1))) h hk (by omega) rfl rfl rfl rfl
  have c1' := (pl_cells hst).1
  have r4' := (pl_row hst hk).2.2.2.2
  rw [up_at] at r4'
  have r4' : World.cell? _ ⟨D.sb, k * 5 + 4, none⟩ = some (vu (IntKind.u64.wrap ((p k).turns + 1))) := r4'
  have HST := Lib.hid hst
  clear h hst hk r0 r1 r2 r3
  unfold Ad.v at c1 c1'
  generalize (p k).turns = t at *
  go_enter Tryz.func43, Tryz.ntmps43
  go_wp2_with (go_at_call 45; refine HI.out.mono ?_; rintro e w' ⟨rfl, rfl⟩)
  go_ret
  exact ⟨rfl, HST.out⟩
theorem pl_spend_no (h : Sat w0 (plB D p gx * F) w) (k : Int) (hk : inP D.n k = false) : Calls Tryz.prog 35 #[vp D.s, vi k] w fun e w' => e = .returned (vi 0) ∧ w = w' := by
  have HI := Lib.hid (pl_is h k)
  rw [hk] at HI
  clear h hk
  go_enter Tryz.func35, Tryz.ntmps35
  go_wp2_with (go_at_call 45; refine HI.out.mono ?_; rintro e w' ⟨rfl, rfl⟩)
  go_ret
  exact ⟨rfl, rfl⟩
end
end Go.Proofs.YtjgemfgneiaabaaGreat.Pc
