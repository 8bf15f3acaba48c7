/-
  Package place: Start, Shared, Own. No statement is proved here.
-/
import Derived.Test.YtjgemfgneiaabaaMg12
import Derived.Test.YtjgemfgneiaabaaLo2
import Derived.Test.YtjgemfgneiaabaaMg15
import Derived.Test.YtjgemfgneiaabaaMg17
import Derived.Test.YtjgemfgneiaabaaPm5
import Derived.Deep.CutBlock
import Derived.Deep.DeepCutAuto
namespace Go.Proofs.Ytjgemfgneiaabaa.Pc
open Go.RowKit Rq Gq
set_option linter.unusedVariables false
set_option linter.unusedSimpArgs false

section
variable {w0 w : World} {F : Hp} {D : Ad} {p : Nat → Pl} {gx : List Int}
theorem pl_start_no (h : Sat w0 (plB D p gx * F) w) (ho : D.Ok) (k : Int) (hk : inP D.n k = false) (g left : Int): Calls Try.prog 10 #[vp D.s, vi k, vi g, vi left] w fun e w' => e = .returned (vi 2) ∧ w = w' := by
  have HI := Lib.hid (pl_is h k)
  have HP := Lib.hid (pl_ps h)
  have hn1 := ho.n1
  have hnz : ((D.n : Int) == 0) = false := by
    rw [beq_eq_false_iff_ne]
    omega
  rw [hk] at HI
  clear h hk
  go_enter Try.func10, Try.ntmps10
  go_wp2_with (first | (go_at_call 27; refine HP.out.mono ?_; rintro e w' ⟨rfl, rfl⟩) | (go_at_call 22; refine HI.out.mono ?_; rintro e w' ⟨rfl, rfl⟩))
  go_ret
  exact ⟨rfl, rfl⟩
theorem pl_start_neg (h : Sat w0 (plB D p gx * F) w) (ho : D.Ok) (k : Nat) (hk : k < D.n) (g left : Int) (hl : left < 0) : Calls Try.prog 10 #[vp D.s, vi k, vi g, vi left] w fun e w' => e = .returned (vi 2) ∧ w = w' := by
  obtain ⟨c1, r0, r1, r2, r3, r4⟩ : w.cell? ⟨D.s, 0, none⟩ = some D.v ∧ _ := ⟨(pl_cells h).1, pl_row h hk⟩
  have hki : (k : Int) < (D.n : Int) := by omega
  have HI := Lib.hid (pl_is h (k : Int))
  rw [inP_nat hk] at HI
  have HP := Lib.hid (pl_ps h)
  have hn1 := ho.n1
  have hnz : ((D.n : Int) == 0) = false := by
    rw [beq_eq_false_iff_ne]
    omega
  clear h hk hn1
  go_enter Try.func10, Try.ntmps10
  go_wp2_with (first | (go_at_call 27; refine HP.out.mono ?_; rintro e w' ⟨rfl, rfl⟩) | (go_at_call 22; refine HI.out.mono ?_; rintro e w' ⟨rfl, rfl⟩))
  go_ret
  exact ⟨rfl, rfl⟩
theorem pl_start_busy (h : Sat w0 (plB D p gx * F) w) (ho : D.Ok) (k : Nat) (hk : k < D.n) (g left : Int) (hl : ¬ left < 0) (hr : (p k).runs = true) : Calls Try.prog 10 #[vp D.s, vi k, vi g, vi left] w fun e w' => e = .returned (vi 14) ∧ w = w' := by
  obtain ⟨c1, r0, r1, r2, r3, r4⟩ : w.cell? ⟨D.s, 0, none⟩ = some D.v ∧ _ := ⟨(pl_cells h).1, pl_row h hk⟩
  have hki : (k : Int) < (D.n : Int) := by omega
  have HI := Lib.hid (pl_is h (k : Int))
  rw [inP_nat hk] at HI
  have HP := Lib.hid (pl_ps h)
  have hn1 := ho.n1
  have hnz : ((D.n : Int) == 0) = false := by
    rw [beq_eq_false_iff_ne]
    omega
  rw [hr] at r2
  unfold Ad.v at c1
  clear h hk hn1 hr
  go_enter Try.func10, Try.ntmps10
  go_wp2_with (first | (go_at_call 27; refine HP.out.mono ?_; rintro e w' ⟨rfl, rfl⟩) | (go_at_call 22; refine HI.out.mono ?_; rintro e w' ⟨rfl, rfl⟩))
  go_ret
  exact ⟨rfl, rfl⟩
set_option maxRecDepth 100000 in
set_option maxHeartbeats 4000000 in
theorem pl_start_at (h : Sat w0 (plB D p gx * F) w) (ho : D.Ok) (k : Nat) (hk : k < D.n) (g left : Int) (hl : ¬ left < 0) (hr : (p k).runs = false) : Calls Try.prog 10 #[vp D.s, vi k, vi g, vi left] w fun e w' => e = .returned (vi 0) ∧ Sat w0 (plB D (up p k (startY (p k) g left)) gx * F) w' := by
  obtain ⟨c1, r0, r1, r2, r3, r4⟩ : w.cell? ⟨D.s, 0, none⟩ = some D.v ∧ _ := ⟨(pl_cells h).1, pl_row h hk⟩
  have hki : (k : Int) < (D.n : Int) := by omega
  have HI := Lib.hid (pl_is h (k : Int))
  rw [inP_nat hk] at HI
  have HP := Lib.hid (pl_ps h)
  have hn1 := ho.n1
  have hnz : ((D.n : Int) == 0) = false := by
    rw [beq_eq_false_iff_ne]
    omega
  rw [hr] at r2
  have f1 := pl_free h (k * 5 + 1)
  have f2 := pl_free h (k * 5 + 2)
  have f3 := pl_free h (k * 5 + 3)
  have hA := pl_store (y := { p k with g := g }) (j := 1) (u := vi g) h hk (by omega) rfl rfl rfl rfl
  have hB := pl_store (y := { p k with g := g, runs := true }) (j := 2) (u := .bool true) hA hk (by omega) (by unfold rowP; rw [up_at]; rfl) (by rw [up_at]) (by rw [up_at]) (by rw [up_at])
  have hC := pl_store (y := startY (p k) g left) (j := 3) (u := vi left) hB hk (by omega) (by unfold rowP; rw [up_at]; rfl) (by rw [up_at]; rfl) (by rw [up_at]; rfl) (by rw [up_at]; rfl)
  rw [up_up, up_up] at hC
  have a0 := (pl_cells hA).1
  have b0 := (pl_cells hB).1
  have d0 := (pl_cells hC).1
  have a2 := (pl_row hA hk).2.2.1
  have a3 := (pl_row hA hk).2.2.2.1
  have b3 := (pl_row hB hk).2.2.2.1
  rw [up_at] at a2 a3
  rw [up_at] at b3
  have ga2 := pl_free hA (k * 5 + 2)
  have ga3 := pl_free hA (k * 5 + 3)
  have gb3 := pl_free hB (k * 5 + 3)
  have HC := Lib.hid hC
  unfold Ad.v at c1 a0 b0 d0
  generalize (p k).g = pg at *
  generalize (p k).left = pl at *
  rw [hr] at a2
  clear h hk hn1 hr hA hB hC r0 r4
  go_enter Try.func10, Try.ntmps10
  go_wp2_with (first | (go_at_call 27; refine HP.out.mono ?_; rintro e w' ⟨rfl, rfl⟩) | (go_at_call 22; refine HI.out.mono ?_; rintro e w' ⟨rfl, rfl⟩))
  go_region_held3 (fun w' => w'.cell? ⟨D.s, 0, none⟩ = some (.slice (some ⟨D.sb, 0, none⟩) D.n D.cap)) (first | exact c1 | exact a0 | exact b0 | exact d0) (fail)
  all_goals go_wp2
  all_goals go_ret
  all_goals exact ⟨rfl, HC.out.drew⟩
end
end Go.Proofs.Ytjgemfgneiaabaa.Pc

namespace Go.Proofs.Ytjgemfgneiaabaa.Pc
open Go.RowKit Rq Gq Nu
set_option linter.unusedVariables false
set_option linter.unusedSimpArgs false

theorem Einton : SlT Try.prog 30 3 1 8 (.int .i64 0) := SlT.mk' Try.underlying30 (by kernel_rfl) rfl (by decide)
theorem all_zero (n : Nat) : allP (fun _ => pl0) n [] = [] := by
  unfold allP
  rw [List.append_nil, List.flatMap_eq_nil_iff]
  intro i _
  rfl
theorem thN_zero : thN 31 [] = List.replicate 31 0 := by decide
section
variable {w0 : World} {v : Value} {n : Nat} {A : Nat → Ac}
def TrueB (w0 : World) (e : Ending) (w' : World) : Prop := e = .returned (.bool true) ∧ Below w0.heap.size w0 w'
set_option maxRecDepth 100000 in
/-- Guards that are not met. -/
theorem once_no (ps ring : Int) (h : Acts w0 v n A) (hm : may19 ps ring = false) : Calls Try.prog 3 #[vi ps, vi ring, v] w0 (TrueB w0) := by
  obtain ⟨ao, cap, rfl⟩ := h.len
  have HF := Lib.hid (few19 h (Below.refl _ _) 120 (by omega))
  have HM := Lib.hid (may_19 ps ring w0)
  rw [hm] at HM
  have HN := Lib.hid (pl_new_no ps ring (by unfold may19 at hm; rw [decide_eq_false_iff_not] at hm; omega) w0)
  generalize fewB n 120 _ = f at *
  clear hm
  cases f
  all_goals
    go_enter Try.func3, Try.ntmps3
    go_wp2_with (first
      | (go_at_call 4; refine HN.out.mono ?_; rintro e w' ⟨rfl, rfl⟩)
      | (go_at_call 5; refine HF.out.mono ?_; rintro e w' ⟨rfl, rfl⟩)
      | (go_at_call 6; refine HM.out.mono ?_; rintro e w' ⟨rfl, rfl⟩)
      | (go_at_call 7; refine (known19 _).mono ?_; rintro e w3 ⟨rfl, hb⟩))
    go_ret
    exact ⟨rfl, hb⟩
set_option maxRecDepth 100000 in
theorem once_few (ps ring : Nat) (h : Acts w0 v n A) (h1 : 1 ≤ ps) (h8 : ps ≤ 8) (h2 : 2 ≤ ring) (h32 : ring ≤ 32) (hf : (fewB n 120 fun i => (A i).af.length) = false) : Calls Try.prog 3 #[vi ps, vi ring, v] w0 (TrueB w0) := by
  obtain ⟨ao, cap, rfl⟩ := h.len
  have HF : Hid (∀ w', Below w0.heap.size w0 w' → Calls Try.prog 5 #[.slice ao n cap, vi 120] w' fun e w'' => e = .returned (.bool false) ∧ w' = w'') := Lib.hid fun w' hb => by
    have := few19 h hb 120 (by omega)
    rw [hf] at this
    exact this
  have HM : Hid (∀ w', Calls Try.prog 6 #[vi ps, vi ring] w' fun e w'' => e = .returned (.bool true) ∧ w' = w'') := Lib.hid fun w' => by
    have := may_19 ps ring w'
    rw [show may19 ps ring = true by unfold may19; rw [decide_eq_true_eq]; omega] at this
    exact this
  have HN := Lib.hid (pl_new ps ring h1 h8 h2 h32 (Sat.start w0))
  clear hf h
  go_enter Try.func3, Try.ntmps3
  go_wp2_with (first
    | (go_at_call 4; refine HN.out.mono ?_; rintro e w1 ⟨D, _, _, rfl, hS⟩; have HB := Lib.hid hS.below; clear hS)
    | (go_at_call 5; refine (HF.out _ HB.out).mono ?_; rintro e w' ⟨rfl, rfl⟩)
    | (go_at_call 6; refine (HM.out _).mono ?_; rintro e w' ⟨rfl, rfl⟩)
    | (go_at_call 7; refine (known19 _).mono ?_; rintro e w3 ⟨rfl, hb⟩))
  go_ret
  exact ⟨rfl, HB.out.trans (hb.mono HB.out.size)⟩
end
end Go.Proofs.Ytjgemfgneiaabaa.Pc
