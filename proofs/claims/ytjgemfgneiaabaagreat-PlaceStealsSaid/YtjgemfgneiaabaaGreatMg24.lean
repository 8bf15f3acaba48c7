/-
  The reference's places: is; a P's row stored. No statement is proved here.
-/
import Derived.Test.YtjgemfgneiaabaaGreatMg23
import Derived.Test.YtjgemfgneiaabaaGreatMg12
import Derived.Test.YtjgemfgneiaabaaGreatMg16
namespace Go.Proofs.YtjgemfgneiaabaaGreat.Pc
open Go.RowKit Rq Gq
set_option linter.unusedVariables false
set_option linter.unusedSimpArgs false

section
variable {w0 w : World} {F : Hp} {D : Ar} {p : Nat → Pl} {gx : List Int} {vG : Value} {vR : Nat → Value}
set_option maxRecDepth 100000 in
theorem pr_is (h : Sat w0 (prO D vG vR p gx * F) w) (k : Int) : Calls Tryz.prog 73 #[vp D.s, vi k] w fun e w' => e = .returned (.bool (inP D.n k)) ∧ w = w' := by
  have c0 := (pr_cells h).1
  clear h
  by_cases h0 : 0 ≤ k
  · have h1 : decide (0 ≤ k) = true := decide_eq_true h0
    have h2 : inP D.n k = decide (k < (D.n : Int)) := by
      unfold inP
      by_cases h3 : k < (D.n : Int)
      · rw [decide_eq_true h3, decide_eq_true ⟨h0, h3⟩]
      · rw [decide_eq_false h3, decide_eq_false (fun h => h3 h.2)]
    rw [h2]
    clear h0 h2
    go_enter Tryz.func73, Tryz.ntmps73
    go_wp2
    go_ret
    exact ⟨rfl, rfl⟩
  · have h1 : decide (0 ≤ k) = false := decide_eq_false h0
    have h2 : inP D.n k = false := by
      unfold inP
      rw [decide_eq_false (fun h => h0 h.1)]
    rw [h2]
    clear h0 h2
    go_enter Tryz.func73, Tryz.ntmps73
    go_wp2
    go_ret
    exact ⟨rfl, rfl⟩
end
end Go.Proofs.YtjgemfgneiaabaaGreat.Pc

namespace Go.Proofs.YtjgemfgneiaabaaGreat.Pc
open Go.RowKit Rq Gq
set_option linter.unusedVariables false
set_option linter.unusedSimpArgs false

section
variable {w0 w : World} {F : Hp} {D : Ar} {p : Nat → Pl} {gx : List Int} {vG : Value} {vR : Nat → Value}

def upV (vR : Nat → Value) (k : Nat) (u : Value) : Nat → Value := fun i => if i = k then u else vR i
theorem upV_at (vR : Nat → Value) (k : Nat) (u : Value) : upV vR k u k = u := if_pos rfl
theorem upV_ne (vR : Nat → Value) {k i : Nat} (u : Value) (h : i ≠ k) : upV vR k u i = vR i := if_neg h
/-- A cell of a P's row is stored, but for who runs. -/
theorem pr_store {y : Pl} {k j : Nat} {u : Value} (h : Sat w0 (prO D vG vR p gx * F) w) (hk : k < D.n) (hj : j < 4) (hr : [vp (D.q k), vR k, vi y.left, vu y.turns] = (rowR D vR p k).set j u) (h1 : y.xs = (p k).xs) (h2 : y.z = (p k).z) (h3 : y.b = (p k).b) (h4 : y.g = (p k).g) (h5 : y.runs = (p k).runs) : Sat w0 (prO D vG vR (up p k y) gx * F) (w.setCell ⟨D.sb, k * 4 + j, none⟩ u) := by
  have h6 := (pr_head h).pull2.slStore (k * 4 + j) (by have := Nat.mul_le_mul_right 4 (show k + 1 ≤ D.n by omega); omega) u
  rw [rowsN_set (row' := rowR D vR (up p k y)) (rowR_len D vR p) hj (by unfold rowR at hr ⊢; rw [up_at]; exact hr) (fun i hi => by unfold rowR; rw [up_ne _ _ hi]) D.n hk] at h6
  have e2 : star (oneR D vR (up p k y)) D.n = star (oneR D vR p) D.n := star_congr fun i _ => by
    by_cases hi : i = k
    · subst hi
      unfold oneR
      rw [up_at, h1, h2, h3, h4, h5]
    · unfold oneR
      rw [up_ne _ _ hi]
  exact h6.cast (by unfold prO; rw [e2]; ac_rfl)
/-- Who runs is stored: a list of one, or none. -/
theorem pr_storeR {y : Pl} {k : Nat} {u : Value} (h : Sat w0 (rs 3 u ((nsOf y.g y.runs).map vi) * (prO D vG vR p gx * F)) w) (hk : k < D.n) (h1 : y.xs = (p k).xs) (h2 : y.z = (p k).z) (h3 : y.b = (p k).b) (h4 : y.left = (p k).left) (h5 : y.turns = (p k).turns) : Sat w0 (prO D vG (upV vR k u) (up p k y) gx * F) (w.setCell ⟨D.sb, k * 4 + 1, none⟩ u) := by
  have h6 := (pr_head h.pull2).pull2.slStore (k * 4 + 1) (by have := Nat.mul_le_mul_right 4 (show k + 1 ≤ D.n by omega); omega) u
  rw [rowsN_set (row' := rowR D (upV vR k u) (up p k y)) (rowR_len D vR p) (by omega) (by unfold rowR; rw [up_at, upV_at, h4, h5]; rfl) (fun i hi => by unfold rowR; rw [up_ne _ _ hi, upV_ne _ _ hi]) D.n hk] at h6
  have e2 : starx (oneR D (upV vR k u) (up p k y)) D.n k = starx (oneR D vR p) D.n k := starx_congr fun i hi => by unfold oneR; rw [up_ne _ _ hi, upV_ne _ _ hi]
  have e3 : oneR D (upV vR k u) (up p k y) k = refQ (D.q k) D.m (p k).xs (p k).z (p k).b * rs 3 u ((nsOf y.g y.runs).map vi) := by unfold oneR; rw [up_at, upV_at, h1, h2, h3]
  refine Sat.dropL (A := rs 3 (vR k) ((nsOf (p k).g (p k).runs).map vi)) (h6.cast ?_)
  unfold prO
  rw [star_at (oneR D (upV vR k u) (up p k y)) hk, star_at (oneR D vR p) hk, e2, e3]
  rw [show oneR D vR p k = refQ (D.q k) D.m (p k).xs (p k).z (p k).b * rs 3 (vR k) ((nsOf (p k).g (p k).runs).map vi) from rfl]
  ac_rfl
end
end Go.Proofs.YtjgemfgneiaabaaGreat.Pc

namespace Go.Proofs.YtjgemfgneiaabaaGreat.Pc
open Go.RowKit Rq Gq
set_option linter.unusedVariables false
set_option linter.unusedSimpArgs false

section
variable {w0 w : World} {F : Hp} {D : Ar} {p : Nat → Pl} {gx : List Int} {vG : Value} {vR : Nat → Value}
set_option maxRecDepth 100000 in
theorem pr_turn_no (h : Sat w0 (prO D vG vR p gx * F) w) (k : Int) (hk : inP D.n k = false) : Calls Tryz.prog 44 #[vp D.s, vi k] w fun e w' => e = .returned (.int .u64 0) ∧ w = w' := by
  have HI := Lib.hid (pr_is h k)
  rw [hk] at HI
  clear h hk
  go_enter Tryz.func44, Tryz.ntmps44
  go_wp2_with (go_at_call 73; refine HI.out.mono ?_; rintro e w' ⟨rfl, rfl⟩)
  go_ret
  exact ⟨rfl, rfl⟩
set_option maxRecDepth 100000 in
theorem pr_turn_at (h : Sat w0 (prO D vG vR p gx * F) w) (k : Nat) (hk : k < D.n) : Calls Tryz.prog 44 #[vp D.s, vi k] w fun e w' => e = .returned (.int .u64 (IntKind.u64.wrap ((p k).turns + 1))) ∧ Sat w0 (prO D vG vR (up p k (turnY (p k) (IntKind.u64.wrap ((p k).turns + 1)))) gx * F) w' := by
  obtain ⟨c1, r0, r1, r2, r3⟩ : w.cell? ⟨D.s, 0, none⟩ = some D.v ∧ _ := ⟨(pr_cells h).1, pr_row h hk⟩
  have hki : (k : Int) < (D.n : Int) := by omega
  have HI := Lib.hid (pr_is h (k : Int))
  rw [inP_nat hk] at HI
  have f3 := pr_free h (k * 4 + 3)
  have hst := pr_store (y := turnY (p k) (IntKind.u64.wrap ((p k).turns + 1))) (j := 3) (u := vu (IntKind.u64.wrap ((p k).turns + 1))) h hk (by omega) rfl rfl rfl rfl rfl rfl
  have c1' := (pr_cells hst).1
  have r3' := (pr_row hst hk).2.2.2
  rw [up_at] at r3'
  have r3' : World.cell? _ ⟨D.sb, k * 4 + 3, none⟩ = some (vu (IntKind.u64.wrap ((p k).turns + 1))) := r3'
  have HST := Lib.hid hst
  clear h hst hk r0 r1 r2
  unfold Ar.v at c1 c1'
  generalize (p k).turns = t at *
  go_enter Tryz.func44, Tryz.ntmps44
  go_wp2_with (go_at_call 73; refine HI.out.mono ?_; rintro e w' ⟨rfl, rfl⟩)
  go_ret
  exact ⟨rfl, HST.out⟩
end
end Go.Proofs.YtjgemfgneiaabaaGreat.Pc

namespace Go.Proofs.YtjgemfgneiaabaaGreat.Pc
open Go.RowKit Rq Gq
set_option linter.unusedVariables false
set_option linter.unusedSimpArgs false

section
variable {w0 w : World} {F : Hp} {D : Ar} {p : Nat → Pl} {gx : List Int} {vG : Value} {vR : Nat → Value}
set_option maxRecDepth 100000 in
theorem pr_spend_no (h : Sat w0 (prO D vG vR p gx * F) w) (k : Int) (hk : inP D.n k = false) : Calls Tryz.prog 36 #[vp D.s, vi k] w fun e w' => e = .returned (vi 0) ∧ w = w' := by
  have HI := Lib.hid (pr_is h k)
  rw [hk] at HI
  clear h hk
  go_enter Tryz.func36, Tryz.ntmps36
  go_wp2_with (go_at_call 73; refine HI.out.mono ?_; rintro e w' ⟨rfl, rfl⟩)
  go_ret
  exact ⟨rfl, rfl⟩
set_option maxRecDepth 100000 in
theorem pr_spend_pos (h : Sat w0 (prO D vG vR p gx * F) w) (k : Nat) (hk : k < D.n) (h0 : 0 < (p k).left) (h9 : (p k).left ≤ 9223372036854775807) : Calls Tryz.prog 36 #[vp D.s, vi k] w fun e w' => e = .returned (vi ((p k).left - 1)) ∧ Sat w0 (prO D vG vR (up p k (leftY (p k) ((p k).left - 1))) gx * F) w' := by
  obtain ⟨c1, r0, r1, r2, r3⟩ : w.cell? ⟨D.s, 0, none⟩ = some D.v ∧ _ := ⟨(pr_cells h).1, pr_row h hk⟩
  have hki : (k : Int) < (D.n : Int) := by omega
  have HI := Lib.hid (pr_is h (k : Int))
  rw [inP_nat hk] at HI
  have f2 := pr_free h (k * 4 + 2)
  have hst := pr_store (y := leftY (p k) ((p k).left - 1)) (j := 2) (u := vi ((p k).left - 1)) h hk (by omega) rfl rfl rfl rfl rfl rfl
  have c1' := (pr_cells hst).1
  have r2' := (pr_row hst hk).2.2.1
  rw [up_at] at r2'
  have r2' : World.cell? _ ⟨D.sb, k * 4 + 2, none⟩ = some (vi ((p k).left - 1)) := r2'
  have hw : IntKind.i64.wrap ((p k).left - 1) = (p k).left - 1 := IntWalk.i64_in _ (by omega)
  have HST := Lib.hid hst
  clear h hst hk r0 r1 r3
  unfold Ar.v at c1 c1'
  generalize (p k).left = lf at *
  go_enter Tryz.func36, Tryz.ntmps36
  go_wp2_with (go_at_call 73; refine HI.out.mono ?_; rintro e w' ⟨rfl, rfl⟩)
  go_ret
  exact ⟨rfl, HST.out⟩
set_option maxRecDepth 100000 in
theorem pr_spend_zero (h : Sat w0 (prO D vG vR p gx * F) w) (k : Nat) (hk : k < D.n) (h0 : (p k).left = 0) : Calls Tryz.prog 36 #[vp D.s, vi k] w fun e w' => e = .returned (vi 0) ∧ w = w' := by
  obtain ⟨c1, r0, r1, r2, r3⟩ : w.cell? ⟨D.s, 0, none⟩ = some D.v ∧ _ := ⟨(pr_cells h).1, pr_row h hk⟩
  rw [h0] at r2
  have hki : (k : Int) < (D.n : Int) := by omega
  have HI := Lib.hid (pr_is h (k : Int))
  rw [inP_nat hk] at HI
  clear h hk r0 r1 r3 h0
  unfold Ar.v at c1
  go_enter Tryz.func36, Tryz.ntmps36
  go_wp2_with (go_at_call 73; refine HI.out.mono ?_; rintro e w' ⟨rfl, rfl⟩)
  go_ret
  exact ⟨rfl, rfl⟩
end
end Go.Proofs.YtjgemfgneiaabaaGreat.Pc

namespace Go.Proofs.YtjgemfgneiaabaaGreat.Pc
open Go.RowKit Rq Gq
set_option linter.unusedVariables false
set_option linter.unusedSimpArgs false

section
variable {w0 w : World} {F : Hp} {D : Ar} {p : Nat → Pl} {gx : List Int} {vG : Value} {vR : Nat → Value}
/-- All but the k-th P's queue and who runs there. -/
def prW (D : Ar) (vG : Value) (vR : Nat → Value) (p : Nat → Pl) (gx : List Int) (k : Nat) : Hp := pc D.s 70 [D.v, vp D.a] * (sl 74 4 D.v D.n (rowsN (rowR D vR p) D.n) * (rgB D.a vG * (rs 3 vG (gx.map vi) * starx (oneR D vR p) D.n k)))
theorem prX_eq (D : Ar) (vG : Value) (vR : Nat → Value) (p : Nat → Pl) (gx : List Int) (k : Nat) : prX D vG vR p gx k = rs 3 (vR k) ((nsOf (p k).g (p k).runs).map vi) * prW D vG vR p gx k := by unfold prX prW; ac_rfl
theorem prX_cells {k i : Nat} (h : Sat w0 (prX D vG vR p gx k * F) w) (hi : i < D.n) : w.cell? ⟨D.s, 0, none⟩ = some D.v ∧ w.cell? ⟨D.s, 1, none⟩ = some (vp D.a) ∧ w.cell? ⟨D.sb, i * 4, none⟩ = some (vp (D.q i)) ∧ w.cell? ⟨D.sb, i * 4 + 1, none⟩ = some (vR i) ∧ w.cell? ⟨D.sb, i * 4 + 2, none⟩ = some (vi (p i).left) := by
  have h1 : Sat w0 (pc D.s 70 [D.v, vp D.a] * (sl 74 4 D.v D.n (rowsN (rowR D vR p) D.n) * (rs 3 (vR k) ((nsOf (p k).g (p k).runs).map vi) * (rgB D.a vG * (rs 3 vG (gx.map vi) * (starx (oneR D vR p) D.n k * F)))))) w := h.cast (by unfold prX; ac_rfl)
  exact ⟨h1.cell 0 rfl, h1.cell 1 rfl, h1.pull2.slCell (i * 4 + 0) (rowsN_at (rowR_len D vR p) hi rfl), h1.pull2.slCell (i * 4 + 1) (rowsN_at (rowR_len D vR p) hi rfl), h1.pull2.slCell (i * 4 + 2) (rowsN_at (rowR_len D vR p) hi rfl)⟩
/-- The global queue is taken out of what is left behind a P's queue. -/
theorem prX_glob {A : Hp} {k : Nat} (h : Sat w0 (A * (prX D vG vR p gx k * F)) w) : ∃ G, (∀ vG' gx' w', Sat w0 (rgB D.a vG' * (rs 3 vG' (gx'.map vi) * (A * G))) w' → Sat w0 (A * (prX D vG' vR p gx' k * F)) w') ∧ Sat w0 (rgB D.a vG * (rs 3 vG (gx.map vi) * (A * G))) w :=
  ⟨pc D.s 70 [D.v, vp D.a] * (sl 74 4 D.v D.n (rowsN (rowR D vR p) D.n) * (rs 3 (vR k) ((nsOf (p k).g (p k).runs).map vi) * (starx (oneR D vR p) D.n k * F))), fun vG' gx' w' h' => h'.cast (by unfold prX; ac_rfl), h.cast (by unfold prX; ac_rfl)⟩
theorem pr_rd {k : Nat} (h : Sat w0 (prO D vG vR p gx * F) w) (hk : k < D.n) : RdI w (vR k) (nsOf (p k).g (p k).runs) := by
  have h1 := (pr_out h hk).pull2
  rw [prX_eq, sep_assoc] at h1
  exact rsRdI h1
/-- Who runs is stored; the list that was there is kept. -/
theorem pr_storeK {y : Pl} {k : Nat} {u : Value} (h : Sat w0 (rs 3 u ((nsOf y.g y.runs).map vi) * (prO D vG vR p gx * F)) w) (hk : k < D.n) (h1 : y.xs = (p k).xs) (h2 : y.z = (p k).z) (h3 : y.b = (p k).b) (h4 : y.left = (p k).left) (h5 : y.turns = (p k).turns) : Sat w0 (rs 3 (vR k) ((nsOf (p k).g (p k).runs).map vi) * (prO D vG (upV vR k u) (up p k y) gx * F)) (w.setCell ⟨D.sb, k * 4 + 1, none⟩ u) := by
  have h6 := (pr_head h.pull2).pull2.slStore (k * 4 + 1) (by have := Nat.mul_le_mul_right 4 (show k + 1 ≤ D.n by omega); omega) u
  rw [rowsN_set (row' := rowR D (upV vR k u) (up p k y)) (rowR_len D vR p) (by omega) (by unfold rowR; rw [up_at, upV_at, h4, h5]; rfl) (fun i hi => by unfold rowR; rw [up_ne _ _ hi, upV_ne _ _ hi]) D.n hk] at h6
  have e2 : starx (oneR D (upV vR k u) (up p k y)) D.n k = starx (oneR D vR p) D.n k := starx_congr fun i hi => by unfold oneR; rw [up_ne _ _ hi, upV_ne _ _ hi]
  have e3 : oneR D (upV vR k u) (up p k y) k = refQ (D.q k) D.m (p k).xs (p k).z (p k).b * rs 3 u ((nsOf y.g y.runs).map vi) := by unfold oneR; rw [up_at, upV_at, h1, h2, h3]
  refine h6.cast ?_
  unfold prO
  rw [star_at (oneR D (upV vR k u) (up p k y)) hk, star_at (oneR D vR p) hk, e2, e3]
  rw [show oneR D vR p k = refQ (D.q k) D.m (p k).xs (p k).z (p k).b * rs 3 (vR k) ((nsOf (p k).g (p k).runs).map vi) from rfl]
  ac_rfl
set_option maxRecDepth 100000 in
theorem pr_runs_no (h : Sat w0 (prO D vG vR p gx * F) w) (k : Int) (hk : inP D.n k = false) : Calls Tryz.prog 32 #[vp D.s, vi k] w fun e w' => e = .returned (.slice none 0 0) ∧ w = w' := by
  have HI := Lib.hid (pr_is h k)
  rw [hk] at HI
  clear h hk
  go_enter Tryz.func32, Tryz.ntmps32
  go_wp2_with (go_at_call 73; refine HI.out.mono ?_; rintro e w' ⟨rfl, rfl⟩)
  go_ret
  exact ⟨rfl, rfl⟩
set_option maxRecDepth 100000 in
theorem pr_runs_at (h : Sat w0 (prO D vG vR p gx * F) w) (k : Nat) (hk : k < D.n) : Calls Tryz.prog 32 #[vp D.s, vi k] w fun e w' => e = .returned (vR k) ∧ w = w' := by
  obtain ⟨c1, r0, r1, r2, r3⟩ : w.cell? ⟨D.s, 0, none⟩ = some D.v ∧ _ := ⟨(pr_cells h).1, pr_row h hk⟩
  have hki : (k : Int) < (D.n : Int) := by omega
  have HI := Lib.hid (pr_is h (k : Int))
  rw [inP_nat hk] at HI
  obtain ⟨ao, cap, hv⟩ := (pr_rd h hk).len
  rw [hv] at r1 ⊢
  clear h hk r0 r2 r3 hv
  unfold Ar.v at c1
  generalize (nsOf (p k).g (p k).runs).length = m at *
  go_enter Tryz.func32, Tryz.ntmps32
  go_wp2_with (go_at_call 73; refine HI.out.mono ?_; rintro e w' ⟨rfl, rfl⟩)
  go_ret
  exact ⟨rfl, rfl⟩
set_option maxRecDepth 100000 in
theorem pr_stop_no (h : Sat w0 (prO D vG vR p gx * F) w) (k : Int) (hk : inP D.n k = false) : Calls Tryz.prog 34 #[vp D.s, vi k] w fun e w' => e = .returned (.slice none 0 0) ∧ w = w' := by
  have HI := Lib.hid (pr_is h k)
  rw [hk] at HI
  have HR := Lib.hid (pr_runs_no h k hk)
  clear h hk
  go_enter Tryz.func34, Tryz.ntmps34
  go_wp2_with (first | (go_at_call 73; refine HI.out.mono ?_; rintro e w' ⟨rfl, rfl⟩) | (go_at_call 32; refine HR.out.mono ?_; rintro e w' ⟨rfl, rfl⟩))
  go_ret
  exact ⟨rfl, rfl⟩
set_option maxRecDepth 100000 in
theorem pr_stop_at (h : Sat w0 (prO D vG vR p gx * F) w) (k : Nat) (hk : k < D.n) : Calls Tryz.prog 34 #[vp D.s, vi k] w fun e w' => ∃ v vR', e = .returned v ∧ RdI w' v (runsG (p k)) ∧ Sat w0 (prO D vG vR' (up p k (stopY (p k))) gx * F) w' := by
  obtain ⟨c1, r0, r1, r2, r3⟩ : w.cell? ⟨D.s, 0, none⟩ = some D.v ∧ _ := ⟨(pr_cells h).1, pr_row h hk⟩
  have hki : (k : Int) < (D.n : Int) := by omega
  have HI := Lib.hid (pr_is h (k : Int))
  rw [inP_nat hk] at HI
  have HR := Lib.hid (pr_runs_at h k hk)
  have f1 := pr_free h (k * 4 + 1)
  have hst := pr_storeK (y := stopY (p k)) (u := .slice none 0 0) (h.rsNil 3) hk rfl rfl rfl rfl rfl
  have HRD : Hid (RdI (w.setCell ⟨D.sb, k * 4 + 1, none⟩ (.slice none 0 0)) (vR k) (runsG (p k))) := Lib.hid (rsRdI hst)
  have HST := Lib.hid hst.dropL
  obtain ⟨ao, cap, hv⟩ := (pr_rd h hk).len
  rw [hv] at r1 HR HRD
  clear h hk r0 r2 r3 hv hst
  unfold Ar.v at c1
  generalize (nsOf (p k).g (p k).runs).length = m at *
  go_enter Tryz.func34, Tryz.ntmps34
  go_wp2_with (first | (go_at_call 73; refine HI.out.mono ?_; rintro e w' ⟨rfl, rfl⟩) | (go_at_call 32; refine HR.out.mono ?_; rintro e w' ⟨rfl, rfl⟩))
  go_ret
  exact ⟨_, _, rfl, HRD.out, HST.out⟩
set_option maxRecDepth 100000 in
theorem pr_start_no (h : Sat w0 (prO D vG vR p gx * F) w) (k : Int) (hk : inP D.n k = false) (g left : Int) : Calls Tryz.prog 29 #[vp D.s, vi k, vi g, vi left] w fun e w' => e = .returned (vi 2) ∧ w = w' := by
  have HI := Lib.hid (pr_is h k)
  rw [hk] at HI
  clear h hk
  go_enter Tryz.func29, Tryz.ntmps29
  go_wp2_with (go_at_call 73; refine HI.out.mono ?_; rintro e w' ⟨rfl, rfl⟩)
  go_ret
  exact ⟨rfl, rfl⟩
set_option maxRecDepth 100000 in
theorem pr_start_neg (h : Sat w0 (prO D vG vR p gx * F) w) (k : Nat) (hk : k < D.n) (g left : Int) (hl : left < 0) : Calls Tryz.prog 29 #[vp D.s, vi k, vi g, vi left] w fun e w' => e = .returned (vi 2) ∧ w = w' := by
  have HI := Lib.hid (pr_is h (k : Int))
  rw [inP_nat hk] at HI
  clear h hk
  go_enter Tryz.func29, Tryz.ntmps29
  go_wp2_with (go_at_call 73; refine HI.out.mono ?_; rintro e w' ⟨rfl, rfl⟩)
  go_ret
  exact ⟨rfl, rfl⟩
set_option maxRecDepth 100000 in
theorem pr_start_busy (h : Sat w0 (prO D vG vR p gx * F) w) (k : Nat) (hk : k < D.n) (g left : Int) (hl : ¬ left < 0) (hr : (p k).runs = true) : Calls Tryz.prog 29 #[vp D.s, vi k, vi g, vi left] w fun e w' => e = .returned (vi 14) ∧ w = w' := by
  obtain ⟨c1, r0, r1, r2, r3⟩ : w.cell? ⟨D.s, 0, none⟩ = some D.v ∧ _ := ⟨(pr_cells h).1, pr_row h hk⟩
  have hki : (k : Int) < (D.n : Int) := by omega
  have HI := Lib.hid (pr_is h (k : Int))
  rw [inP_nat hk] at HI
  obtain ⟨ao, cap, hv⟩ := (pr_rd h hk).len
  rw [hr] at hv
  have hv : vR k = .slice ao 1 cap := hv
  rw [hv] at r1
  clear h hk r0 r2 r3 hv hr
  unfold Ar.v at c1
  go_enter Tryz.func29, Tryz.ntmps29
  go_wp2_with (go_at_call 73; refine HI.out.mono ?_; rintro e w' ⟨rfl, rfl⟩)
  go_ret
  exact ⟨rfl, rfl⟩
end
end Go.Proofs.YtjgemfgneiaabaaGreat.Pc
