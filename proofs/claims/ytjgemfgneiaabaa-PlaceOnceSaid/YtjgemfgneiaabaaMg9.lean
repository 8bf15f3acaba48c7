/-
  Package place: Ps, is, Back. No statement is proved here.
-/
import Derived.Test.YtjgemfgneiaabaaPl3
namespace Go.Proofs.Ytjgemfgneiaabaa.Pc
open Go.RowKit Rq Gq
set_option linter.unusedVariables false
set_option linter.unusedSimpArgs false

section
variable {w0 w : World} {F : Hp} {D : Ad} {p : Nat → Pl} {gx : List Int}
/-- How many Ps there may be, and how long a ring. -/
structure Ad.Ok (D : Ad) : Prop where
  n1 : 1 ≤ D.n
  n8 : D.n ≤ 8
  m2 : 2 ≤ D.m
  m32 : D.m ≤ 32
def inP (n : Nat) (k : Int) : Bool := decide (0 ≤ k ∧ k < n)
theorem plX_cells {k i : Nat} (h : Sat w0 (plX D p gx k * F) w) (hi : i < D.n) : w.cell? ⟨D.s, 0, none⟩ = some D.v ∧ w.cell? ⟨D.s, 2, none⟩ = some (vp D.a) ∧ w.cell? ⟨D.sb, i * 5, none⟩ = some (vp (D.q i)) ∧ w.cell? ⟨D.sb, i * 5 + 3, none⟩ = some (vi (p i).left) := by
  have h1 : Sat w0 (pc D.s 60 [D.v, vi D.m, vp D.a] * (sl 66 5 D.v D.n (rowsN (rowP D p) D.n) * (gQ D.a gx * (starx (oneP D p) D.n k * F)))) w := h.cast (by unfold plX; ac_rfl)
  exact ⟨h1.cell 0 rfl, h1.cell 2 rfl, h1.pull2.slCell (i * 5 + 0) (rowsN_at (rowP_len D p) hi rfl), h1.pull2.slCell (i * 5 + 3) (rowsN_at (rowP_len D p) hi rfl)⟩
theorem slPos {e : TypeId} {size n : Nat} {v : Value} {xs : List Value} (h : Sat w0 (sl e size v n xs * F) w) (hn : n ≠ 0) : ∃ g cap, v = .slice (some ⟨g, 0, none⟩) n cap ∧ n ≤ cap := by
  rcases h.slE.2 with ⟨_, h0, _⟩ | ⟨g, cap, cur, hv, h1, _⟩
  · exact absurd h0 hn
  · exact ⟨g, cap, hv, h1⟩
theorem spill_len {m : Nat} {xs : List Int} (g : Int) : (spillL m xs g).length ≤ (m + 1) / 2 + 1 := by
  unfold spillL
  split
  · simp
  · rw [List.length_append, List.length_take, List.length_singleton]
    omega
theorem nextS_len {m : Nat} {xs : List Int} {z : Int} {b : Bool} : (nextS m xs z b).length ≤ (m + 1) / 2 + 1 := by
  unfold nextS
  split
  · exact spill_len z
  · simp
theorem inP_nat {n k : Nat} (h : k < n) : inP n k = true := by unfold inP; rw [decide_eq_true_eq]; omega
theorem inP_yes {n : Nat} {k : Int} (h : inP n k = true) : ∃ j : Nat, k = j ∧ j < n := by
  unfold inP at h
  rw [decide_eq_true_eq] at h
  obtain ⟨j, rfl⟩ := Int.eq_ofNat_of_zero_le h.1
  exact ⟨j, rfl, by omega⟩
theorem pl_ps (h : Sat w0 (plB D p gx * F) w) : Calls Try.prog 27 #[vp D.s] w fun e w' => e = .returned (vi D.n) ∧ w = w' := by
  have c0 := (pl_cells h).1
  unfold Ad.v at c0
  clear h
  go_enter Try.func27, Try.ntmps27
  go_wp2
  go_ret
  exact ⟨rfl, rfl⟩
theorem pl_is (h : Sat w0 (plB D p gx * F) w) (k : Int) : Calls Try.prog 22 #[vp D.s, vi k] w fun e w' => e = .returned (.bool (inP D.n k)) ∧ w = w' := by
  have HP := Lib.hid (pl_ps h)
  clear h
  by_cases h0 : 0 ≤ k
  · have h1 : decide (0 ≤ k) = true := decide_eq_true h0
    have h2 : inP D.n k = decide (k < (D.n : Int)) := by
      unfold inP
      by_cases h3 : k < (D.n : Int)
      · rw [decide_eq_true h3, decide_eq_true ⟨h0, h3⟩]
      · rw [decide_eq_false h3, decide_eq_false (fun h => h3 h.2)]
    rw [h2]
    clear h0 h2
    go_enter Try.func22, Try.ntmps22
    go_wp2_with (go_at_call 27; refine HP.out.mono ?_; rintro e w' ⟨rfl, rfl⟩)
    go_ret
    exact ⟨rfl, rfl⟩
  · have h1 : decide (0 ≤ k) = false := decide_eq_false h0
    have h2 : inP D.n k = false := by
      unfold inP
      rw [decide_eq_false (fun h => h0 h.1)]
    rw [h2]
    clear h0 h2
    go_enter Try.func22, Try.ntmps22
    go_wp2
    go_ret
    exact ⟨rfl, rfl⟩
theorem pl_back (h : Sat w0 (plB D p gx * F) w) (ho : D.Ok) {ys : List Int} {v : Value} (hA : ∀ w', Sat w0 F w' → RdI w' v ys) (hl : gx.length + ys.length ≤ 1000000) :
    Calls Try.prog 9 #[vp D.s, v] w fun e w' => e = .returned (.tuple #[]) ∧ Sat w0 (plB D p (gx ++ ys) * F) w' := by
  have c2 := (pl_cells h).2.2
  have HP := Lib.hid (pl_ps h)
  have hn1 := ho.n1
  have hnp : (0 : Int) < (D.n : Int) := by omega
  obtain ⟨ao, cap, rfl⟩ := (hA w h.dropL).len
  have HG := Lib.hid (g_put (pl_glob h) (ao := ao) (cap := cap) (ys := ys) (fun w' h' => hA w' h'.dropL.dropL.dropL) hl)
  clear h hn1 hA ho
  go_enter Try.func9, Try.ntmps9
  go_wp2_with (first
    | (go_at_call 27; refine HP.out.mono ?_; rintro e w' ⟨rfl, rfl⟩)
    | (go_at_call 29; refine HG.out.mono ?_; rintro e w1 ⟨rfl, hS⟩; have H1 := Lib.hid (pl_globI hS); clear hS))
  go_end0
  exact ⟨rfl, H1.out⟩
theorem rdI_one (w : World) (T : TypeId) (x : Int) {b : Nat} (hb : b = w.heap.size) : RdI (w.alloc (.cells #[vi x] T)) (.slice (some ⟨b, 0, none⟩) 1 1) [x] := Rd.oneB w T (vi x) hb
theorem rdI_pc {w0 w : World} {F : Hp} {b : Nat} {T : TypeId} {x : Int} (h : Sat w0 (pc b T [vi x] * F) w) : RdI w (.slice (some ⟨b, 0, none⟩) 1 1) [x] :=
  ⟨rfl, .inr ⟨b, 0, 1, rfl, fun j u hj => by
    rw [Nat.zero_add]
    exact h.cell j (by simpa using hj)⟩⟩
end
end Go.Proofs.Ytjgemfgneiaabaa.Pc

namespace Go.Proofs.Ytjgemfgneiaabaa.Pc
open Go.RowKit Rq Gq
set_option linter.unusedVariables false
set_option linter.unusedSimpArgs false

section
variable {w0 w : World} {F : Hp} {D : Ad} {p : Nat → Pl} {gx : List Int}
theorem pl_runs_no (h : Sat w0 (plB D p gx * F) w) (k : Int) (hk : inP D.n k = false) : Calls Try.prog 32 #[vp D.s, vi k] w fun e w' => e = .returned (.tuple #[vi 0, .bool false]) ∧ w = w' := by
  have HI := Lib.hid (pl_is h k)
  rw [hk] at HI
  clear h hk
  go_enter Try.func32, Try.ntmps32
  go_wp2_with (go_at_call 22; refine HI.out.mono ?_; rintro e w' ⟨rfl, rfl⟩)
  go_ret2
  exact ⟨rfl, rfl⟩
theorem pl_runs_at (h : Sat w0 (plB D p gx * F) w) (k : Nat) (hk : k < D.n) : Calls Try.prog 32 #[vp D.s, vi k] w fun e w' => e = .returned (.tuple #[vi ((runsG (p k)).headD 0), .bool (p k).runs]) ∧ w = w' := by
  obtain ⟨c1, r0, r1, r2, r3, r4⟩ : w.cell? ⟨D.s, 0, none⟩ = some D.v ∧ _ := ⟨(pl_cells h).1, pl_row h hk⟩
  have hki : (k : Int) < (D.n : Int) := by omega
  have HI := Lib.hid (pl_is h (k : Int))
  rw [inP_nat hk] at HI
  unfold runsG
  generalize (p k).g = g at *
  generalize (p k).runs = ru at *
  unfold Ad.v at c1
  clear h hk
  cases ru
  · go_enter Try.func32, Try.ntmps32
    go_wp2_with (go_at_call 22; refine HI.out.mono ?_; rintro e w' ⟨rfl, rfl⟩)
    go_ret2
    exact ⟨rfl, rfl⟩
  · go_enter Try.func32, Try.ntmps32
    go_wp2_with (go_at_call 22; refine HI.out.mono ?_; rintro e w' ⟨rfl, rfl⟩)
    go_ret2
    exact ⟨rfl, rfl⟩
theorem pl_stop_no (h : Sat w0 (plB D p gx * F) w) (k : Int) (hk : inP D.n k = false) : Calls Try.prog 12 #[vp D.s, vi k] w fun e w' => e = .returned (.tuple #[vi 0, .bool false]) ∧ w = w' := by
  have HI := Lib.hid (pl_runs_no h k hk)
  clear h hk
  go_enter Try.func12, Try.ntmps12
  go_wp2_with (go_at_call 32; refine HI.out.mono ?_; rintro e w' ⟨rfl, rfl⟩)
  go_ret2
  exact ⟨rfl, rfl⟩
theorem pl_stop_at (h : Sat w0 (plB D p gx * F) w) (k : Nat) (hk : k < D.n) : Calls Try.prog 12 #[vp D.s, vi k] w fun e w' => e = .returned (.tuple #[vi ((runsG (p k)).headD 0), .bool (p k).runs]) ∧ Sat w0 (plB D (up p k (stopY (p k))) gx * F) w' := by
  obtain ⟨c1, r0, r1, r2, r3, r4⟩ : w.cell? ⟨D.s, 0, none⟩ = some D.v ∧ _ := ⟨(pl_cells h).1, pl_row h hk⟩
  have hki : (k : Int) < (D.n : Int) := by omega
  have HI := Lib.hid (pl_runs_at h k hk)
  have f2 := pl_free h (k * 5 + 2)
  have hst := pl_store (y := stopY (p k)) (j := 2) (u := .bool false) h hk (by omega) rfl rfl rfl rfl
  have hsame : (p k).runs = false → Sat w0 (plB D (up p k (stopY (p k))) gx * F) w := fun hr => by
    have he : stopY (p k) = p k := by unfold stopY; rw [← hr]
    rw [he, up_self]
    exact h
  have HST := Lib.hid hst
  have HSM := Lib.hid hsame
  generalize (runsG (p k)).headD 0 = g at *
  clear h hst hsame hk r0 r1 r3 r4
  unfold Ad.v at c1
  generalize (p k).runs = ru at *
  cases ru
  · go_enter Try.func12, Try.ntmps12
    go_wp2_with (go_at_call 32; refine HI.out.mono ?_; rintro e w' ⟨rfl, rfl⟩)
    go_ret2
    exact ⟨rfl, HSM.out (by trivial)⟩
  · go_enter Try.func12, Try.ntmps12
    go_wp2_with (go_at_call 32; refine HI.out.mono ?_; rintro e w' ⟨rfl, rfl⟩)
    go_ret2
    exact ⟨rfl, HST.out⟩
end
end Go.Proofs.Ytjgemfgneiaabaa.Pc
