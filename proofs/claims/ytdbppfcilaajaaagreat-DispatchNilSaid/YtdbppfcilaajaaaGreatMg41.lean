/-
  Package dispatch: looks; Next where it is refused. No statement is proved here.
-/
import Derived.Test.YtdbppfcilaajaaaGreatMg40
import Derived.WalkMore
import Derived.Test.YtdbppfcilaajaaaGreatMg38
namespace Go.Proofs.YtdbppfcilaajaaaGreat.Kn
open Go.RowKit Pc Rq
set_option linter.unusedVariables false
set_option linter.unusedSimpArgs false
section
variable {w0 w : World} {F : Hp} {A : KA} {ps gs : Nat} {prv : Value} {gps : List Ag.Pl} {gfr dfr cfr : List Nat} {cs cs' : List Cn.CP} {dps dps' : List Ad.Pl} {j : Nat} {p : Nat → Pl} {gx : List Int} {bs bp bk bv bl k : Nat} {vic : Int}
abbrev lkF (bl bs bp bk bv : Nat) : List Value := [.func (.func 70) #[] #[vp bs, vp bp, vp bk], .func (.func 69) #[] #[vp bs, vp bp], .func (.func 70) #[] #[vp bs, vp bp, vp bk], .func (.func 73) #[] #[vp bs, vp bp, vp bv, vp bk]]
set_option maxRecDepth 100000 in
set_option maxHeartbeats 4000000 in
theorem looks_ (h : Sat w0 (kF A ps gs prv gps gfr cs cfr dps dfr j p gx F) w) : Calls Tryz.prog 18 #[vp A.kk, vi k, vi vic, .bool false] w fun e w' => ∃ bl bs bp bk bv, e = .returned (.slice (some ⟨bl, 1, none⟩) 3 3) ∧ Sat w0 (pc bl 61 (lkF bl bs bp bk bv) * lkB bk bp bv bs A.kk A.D.s k vic (kF A ps gs prv gps gfr cs cfr dps dfr j p gx F)) w' := by
  have a1 := h.alloc (.cells #[vp A.kk] 35)
  have a2 := a1.alloc (.cells #[vi k] 3)
  rw [sizeK] at a2
  have a3 := a2.alloc (.cells #[vi vic] 3)
  rw [sizeK, sizeK] at a3
  have HP := Lib.hid (k_places a3.pull4)
  have c0 := a3.pull3.cell 0 rfl
  have a4 := a3.alloc (.cells #[vp A.D.s] 47)
  rw [sizeK, sizeK, sizeK] at a4
  have a5 := a4.alloc (.cells (lkF (w.heap.size + 1 + 1 + 1 + 1) (w.heap.size + 1 + 1 + 1) (w.heap.size + 1) w.heap.size (w.heap.size + 1 + 1)).toArray 61)
  rw [sizeK, sizeK, sizeK, sizeK] at a5
  have H5 := Lib.hid a5
  clear h a1 a2 a3 a4 a5
  go_enter Tryz.func18, Tryz.ntmps18
  go_wp2_with (go_at_call 11; refine HP.out.mono ?_; rintro e w' ⟨rfl, rfl⟩)
  go_ret
  refine ⟨w.heap.size + 1 + 1 + 1 + 1, w.heap.size + 1 + 1 + 1, w.heap.size + 1, w.heap.size, w.heap.size + 1 + 1, rfl, H5.out.cast ?_⟩
  generalize w.heap.size + 1 + 1 + 1 + 1 = b4
  generalize w.heap.size + 1 + 1 + 1 = b3
  generalize w.heap.size + 1 + 1 = b2
  generalize w.heap.size + 1 = b1
  generalize w.heap.size = b0
  simp only [lkB, pc]
  ac_rfl
set_option maxRecDepth 100000 in
theorem runs_nil (k : Int) (w : World) : Calls Tryz.prog 12 #[.pointer none, vi k] w fun e w' => e = .returned (.tuple #[vi 0, .bool false]) ∧ w = w' := by
  have HPs : Hid (∀ w : World, Calls Tryz.prog 13 #[.pointer none] w fun e w' => e = .returned (vi 0) ∧ w = w') := Lib.hid fun w => by
    go_enter Tryz.func13, Tryz.ntmps13
    go_wp2
    go_ret
    exact ⟨rfl, rfl⟩
  have HIs : Hid (∀ w : World, Calls Tryz.prog 66 #[.pointer none, vi k] w fun e w' => e = .returned (.bool false) ∧ w = w') := Lib.hid fun w => by
    by_cases hk : 0 ≤ k
    · have hk2 : ¬ k < 0 := by omega
      go_enter Tryz.func66, Tryz.ntmps66
      go_wp2_with (go_at_call 13; refine (HPs.out _).mono ?_; rintro e w' ⟨rfl, rfl⟩)
      go_ret
      exact ⟨by simp [hk, hk2], rfl⟩
    · have hk2 : k < 0 := by omega
      go_enter Tryz.func66, Tryz.ntmps66
      go_wp2_with (go_at_call 13; refine (HPs.out _).mono ?_; rintro e w' ⟨rfl, rfl⟩)
      go_ret
      exact ⟨by simp [hk, hk2], rfl⟩
  go_enter Tryz.func12, Tryz.ntmps12
  go_wp2_with (go_at_call 66; refine (HIs.out _).mono ?_; rintro e w' ⟨rfl, rfl⟩)
  go_ret2
  exact ⟨rfl, rfl⟩
theorem results_cell_tmp2 {fn : Func} {p u v : Tmp} {ty : TypeId} (h : fn.results = #[.cell p ty, .tmp u, .tmp v]) (tmps : Array Value) (P : Program) (w : World) :
    (results fn tmps).run P w =
      ((asAddr (tmps.getD p undef)).run P w).andThen fun a w₁ => ((loadVar ty a).run P w₁).andThen fun x w₂ => .ok (.tuple #[x, tmps.getD u undef, tmps.getD v undef]) w₂ := by
  simp only [results, h]
  simp [Sem.run_bind, Result.andThen]
abbrev rf0 : Value := .agg #[.int .i64 0, .int .u64 0]
set_option maxRecDepth 100000 in
set_option maxHeartbeats 4000000 in
theorem next_nil (h : Sat w0 F w) : Calls Tryz.prog 6 #[.pointer none, vi 0, vi 0] w fun e w' => e = .returned (.tuple #[rf0, vi 0, vi 1]) ∧ Sat w0 F w' := by
  have HR := Lib.hid (runs_nil 0)
  have HP := Lib.hid k_places_nil
  have H := Lib.hid (((h.alloc' (.cells #[vi 0] 3)).alloc' (.cells #[.int .i64 0, .int .u64 0] 30)).alloc' (.cells #[.pointer none] 47))
  clear h
  go_enter Tryz.func6, Tryz.ntmps6
  go_wp2
  go_step3
  go_wp2_with (first
    | (go_at_call 11; refine (HP.out _).mono ?_; rintro e w' ⟨rfl, rfl⟩)
    | (go_at_call 12; refine (HR.out _).mono ?_; rintro e w' ⟨rfl, rfl⟩))
  rw [Exit.noGoto_ret]
  refine bodyPost_ret (v := .tuple #[rf0, vi 0, vi 1]) (by rw [results_cell_tmp2 rfl]; go_simp) rfl ?_
  exact ⟨rfl, H.out⟩
abbrev nxB (b4 b6 b9 s : Nat) (k : Int) (x y : Value) (X : Hp) : Hp := pc b4 3 [vi k] * (pc b6 30 [x, y] * (pc b9 47 [vp s] * X))
theorem nx_start {kk s : Nat} {k : Int} (h : Sat w0 F w) : Sat w0 (nxB w.heap.size (w.heap.size + 1) (w.heap.size + 1 + 1) s k (.int .i64 0) (.int .u64 0) F) (((w.alloc (.cells #[vi k] 3)).alloc (.cells #[.int .i64 0, .int .u64 0] 30)).alloc (.cells #[vp s] 47)) := by
  have a1 := h.alloc (.cells #[vi k] 3)
  have a2 := a1.alloc (.cells #[.int .i64 0, .int .u64 0] 30)
  rw [sizeK] at a2
  have a3 := a2.alloc (.cells #[vp s] 47)
  rw [sizeK, sizeK] at a3
  refine a3.cast ?_
  generalize w.heap.size + 1 + 1 = b2
  generalize w.heap.size + 1 = b1
  generalize w.heap.size = b0
  simp only [nxB, pc]
  ac_rfl
theorem nx_places {b4 b6 b9 : Nat} {k : Int} {x y : Value} : nxB b4 b6 b9 A.D.s k x y (kF A ps gs prv gps gfr cs cfr dps dfr j p gx F) = plB A.D p gx * nxB b4 b6 b9 A.D.s k x y (kP A ps gs prv gps gfr cs cfr dps dfr j F) := by rw [kF_p]; simp only [nxB]; ac_rfl
abbrev nxS (b4 b9 s : Nat) (k : Int) (w' : World) : Prop := w'.cell? ⟨b4, 0, none⟩ = some (vi k) ∧ w'.cell? ⟨b9, 0, none⟩ = some (vp s)
theorem nx_S {b4 b6 b9 s : Nat} {k : Int} {x y : Value} {X : Hp} (h : Sat w0 (nxB b4 b6 b9 s k x y X) w) : nxS b4 b9 s k w := ⟨h.cell 0 rfl, h.pull3.cell 0 rfl⟩
set_option maxRecDepth 100000 in
set_option maxHeartbeats 4000000 in
theorem next_neg (h : Sat w0 (kF A ps gs prv gps gfr cs cfr dps dfr j p gx F) w) : Calls Tryz.prog 6 #[vp A.kk, vi (-1), vi 0] w fun e w' => e = .returned (.tuple #[rf0, vi 0, vi 2]) ∧ Sat w0 (kF A ps gs prv gps gfr cs cfr dps dfr j p gx F) w' := by
  have hP := k_places ((h.alloc' (.cells #[vi (-1)] 3)).alloc' (.cells #[.int .i64 0, .int .u64 0] 30))
  have hX := nx_start (s := A.D.s) (kk := 0) (k := -1) h
  have HR := Lib.hid (pl_runs_no (hX.cast nx_places) (-1) (by unfold inP; simp))
  have HP := Lib.hid hP
  have HX := Lib.hid hX
  have x0 := hX.cell 0 rfl
  have x1 := hX.pull3.cell 0 rfl
  clear h hP hX
  go_enter Tryz.func6, Tryz.ntmps6
  go_wp2
  go_step3
  go_wp2_with (first
    | (go_at_call 11; refine HP.out.mono ?_; rintro e w' ⟨rfl, rfl⟩)
    | (go_at_call 12; refine HR.out.mono ?_; rintro e w' ⟨rfl, rfl⟩))
  generalize ((w.alloc (.cells #[vi (-1)] 3)).alloc (.cells #[.int .i64 0, .int .u64 0] 30)).alloc (.cells #[vp A.D.s] 47) = wb at *
  go_quiet (fail)
  have hY := HX.out.drewN nq
  generalize wb.drewN nq = wc at *
  have r0 := hY.pull2.cell 0 rfl
  have r1 := hY.pull2.cell 1 rfl
  have f0 := hY.pull2.free 0
  have f1 := hY.pull2.free 1
  have hst := (hY.pull2.store 0 (.int .i64 0)).store 1 (.int .u64 0)
  have s0 := hst.cell 0 rfl
  have s1 := hst.cell 1 rfl
  have HZ := Lib.hid hst
  clear hY hst
  go_wp2
  rw [Exit.noGoto_ret]
  refine bodyPost_ret (v := .tuple #[rf0, vi 0, vi 2]) (by rw [results_cell_tmp2 rfl]; go_simp) rfl ?_
  exact ⟨rfl, HZ.out.dropL.dropL.dropL⟩
set_option maxRecDepth 100000 in
set_option maxHeartbeats 4000000 in
theorem next_hi (h : Sat w0 (kF A ps gs prv gps gfr cs cfr dps dfr j p gx F) w) (k : Nat) (hk : A.D.n ≤ k) : Calls Tryz.prog 6 #[vp A.kk, vi k, vi 0] w fun e w' => e = .returned (.tuple #[rf0, vi 0, vi 2]) ∧ Sat w0 (kF A ps gs prv gps gfr cs cfr dps dfr j p gx F) w' := by
  have hP := k_places ((h.alloc' (.cells #[vi k] 3)).alloc' (.cells #[.int .i64 0, .int .u64 0] 30))
  have hX := nx_start (s := A.D.s) (kk := 0) (k := k) h
  have HR := Lib.hid (pl_runs_no (hX.cast nx_places) k (by unfold inP; simp; omega))
  have HPs := Lib.hid (pl_ps (hX.drew.cast nx_places))
  have HP := Lib.hid hP
  have HX := Lib.hid hX
  have x0 := hX.cell 0 rfl
  have x1 := hX.pull3.cell 0 rfl
  have T0 := Lib.hid (nx_S hX.drew)
  have hk0 : ¬ ((k : Int) < 0) := by omega
  have hk1 : (A.D.n : Int) ≤ (k : Int) := by omega
  have hk2 : decide ((k : Int) < 0) = false := decide_eq_false hk0
  have hk3 : decide ((A.D.n : Int) ≤ (k : Int)) = true := decide_eq_true hk1
  clear h hP hX
  go_enter Tryz.func6, Tryz.ntmps6
  go_wp2
  go_step3
  go_wp2_with (first
    | (go_at_call 11; refine HP.out.mono ?_; rintro e w' ⟨rfl, rfl⟩)
    | (go_at_call 12; refine HR.out.mono ?_; rintro e w' ⟨rfl, rfl⟩))
  generalize ((w.alloc (.cells #[vi k] 3)).alloc (.cells #[.int .i64 0, .int .u64 0] 30)).alloc (.cells #[vp A.D.s] 47) = wb at *
  clear x0 x1
  go_region_held3 (nxS w.heap.size (w.heap.size + 1 + 1) A.D.s k)
    (first | (with_reducible exact T0.out))
    (first
      | (go_at_call 13; refine HPs.out.mono ?_; rintro e w' ⟨rfl, rfl⟩))
  have hY := HX.out.drew
  generalize wb.drew = wc at *
  have r0 := hY.pull2.cell 0 rfl
  have r1 := hY.pull2.cell 1 rfl
  have f0 := hY.pull2.free 0
  have f1 := hY.pull2.free 1
  have hst := (hY.pull2.store 0 (.int .i64 0)).store 1 (.int .u64 0)
  have s0 := hst.cell 0 rfl
  have s1 := hst.cell 1 rfl
  have HZ := Lib.hid hst
  clear hY hst
  go_wp2
  rw [Exit.noGoto_ret]
  refine bodyPost_ret (v := .tuple #[rf0, vi 0, vi 2]) (by rw [results_cell_tmp2 rfl]; go_simp) rfl ?_
  exact ⟨rfl, HZ.out.dropL.dropL.dropL⟩
set_option maxRecDepth 100000 in
set_option maxHeartbeats 4000000 in
theorem next_busy (h : Sat w0 (kF A ps gs prv gps gfr cs cfr dps dfr j p gx F) w) (k : Nat) (hk : k < A.D.n) (hr : (p k).runs = true) : Calls Tryz.prog 6 #[vp A.kk, vi k, vi 0] w fun e w' => e = .returned (.tuple #[rf0, vi 0, vi 14]) ∧ Sat w0 (kF A ps gs prv gps gfr cs cfr dps dfr j p gx F) w' := by
  have hP := k_places ((h.alloc' (.cells #[vi k] 3)).alloc' (.cells #[.int .i64 0, .int .u64 0] 30))
  have hX := nx_start (s := A.D.s) (kk := 0) (k := k) h
  have hR := pl_runs_at (hX.cast nx_places) k hk
  rw [hr] at hR
  have HR := Lib.hid hR
  have HPs := Lib.hid (pl_ps (hX.drew.cast nx_places))
  have HP := Lib.hid hP
  have HX := Lib.hid hX
  have x0 := hX.cell 0 rfl
  have x1 := hX.pull3.cell 0 rfl
  have T0 := Lib.hid (nx_S hX.drew)
  have hk0 : ¬ ((k : Int) < 0) := by omega
  have hk1 : ¬ (A.D.n : Int) ≤ (k : Int) := by omega
  have hk2 : decide ((k : Int) < 0) = false := decide_eq_false hk0
  have hk3 : decide ((A.D.n : Int) ≤ (k : Int)) = false := decide_eq_false hk1
  have hk4 : ¬ (A.D.n ≤ k) := by omega
  clear h hP hX hR
  generalize (runsG (p k)).headD 0 = y at *
  go_enter Tryz.func6, Tryz.ntmps6
  go_wp2
  go_step3
  go_wp2_with (first
    | (go_at_call 11; refine HP.out.mono ?_; rintro e w' ⟨rfl, rfl⟩)
    | (go_at_call 12; refine HR.out.mono ?_; rintro e w' ⟨rfl, rfl⟩))
  generalize ((w.alloc (.cells #[vi k] 3)).alloc (.cells #[.int .i64 0, .int .u64 0] 30)).alloc (.cells #[vp A.D.s] 47) = wb at *
  clear x0 x1
  go_region_held3 (nxS w.heap.size (w.heap.size + 1 + 1) A.D.s k)
    (first | (with_reducible exact T0.out))
    (first
      | (go_at_call 13; refine HPs.out.mono ?_; rintro e w' ⟨rfl, rfl⟩))
  have hY := HX.out.drew
  generalize wb.drew = wc at *
  have r0 := hY.pull2.cell 0 rfl
  have r1 := hY.pull2.cell 1 rfl
  have f0 := hY.pull2.free 0
  have f1 := hY.pull2.free 1
  have hst := (hY.pull2.store 0 (.int .i64 0)).store 1 (.int .u64 0)
  have s0 := hst.cell 0 rfl
  have s1 := hst.cell 1 rfl
  have HZ := Lib.hid hst
  clear hY hst
  go_wp2
  rw [Exit.noGoto_ret]
  refine bodyPost_ret (v := .tuple #[rf0, vi 0, vi 14]) (by rw [results_cell_tmp2 rfl]; go_simp) rfl ?_
  exact ⟨rfl, HZ.out.dropL.dropL.dropL⟩
end
end Go.Proofs.YtdbppfcilaajaaaGreat.Kn

namespace Go.Proofs.YtdbppfcilaajaaaGreat.Pc
open Go.RowKit Rq Gq
set_option linter.unusedVariables false
set_option linter.unusedSimpArgs false

section
variable {w0 w : World} {F : Hp} {D : Ad} {p : Nat → Pl} {gx : List Int}
set_option maxRecDepth 100000 in
set_option maxHeartbeats 4000000 in
theorem pl_start_at (h : Sat w0 (plB D p gx * F) w) (ho : D.Ok) (k : Nat) (hk : k < D.n) (g left : Int) (hl : ¬ left < 0) (hr : (p k).runs = false) : Calls Tryz.prog 26 #[vp D.s, vi k, vi g, vi left] w fun e w' => e = .returned (vi 0) ∧ Sat w0 (plB D (up p k (startY (p k) g left)) gx * F) w' := by
  obtain ⟨c1, r0, r1, r2, r3, r4⟩ : w.cell? ⟨D.s, 0, none⟩ = some D.v ∧ _ := ⟨(pl_cells h).1, pl_row h hk⟩
  have hki : (k : Int) < (D.n : Int) := by omega
  have HI := Lib.hid (pl_is h (k : Int))
  rw [inP_nat hk] at HI
  have HP := Lib.hid (pl_ps h)
  have hn1 := ho.n1
  have hnz : ((D.n : Int) == 0) = false := by
    rw [beq_eq_false_iff_ne]
    omega
  rw [hr] at r2
  have f1 := pl_free h (k * 5 + 1)
  have f2 := pl_free h (k * 5 + 2)
  have f3 := pl_free h (k * 5 + 3)
  have hA := pl_store (y := { p k with g := g }) (j := 1) (u := vi g) h hk (by omega) rfl rfl rfl rfl
  have hB := pl_store (y := { p k with g := g, runs := true }) (j := 2) (u := .bool true) hA hk (by omega) (by unfold rowP; rw [up_at]; rfl) (by rw [up_at]) (by rw [up_at]) (by rw [up_at])
  have hC := pl_store (y := startY (p k) g left) (j := 3) (u := vi left) hB hk (by omega) (by unfold rowP; rw [up_at]; rfl) (by rw [up_at]; rfl) (by rw [up_at]; rfl) (by rw [up_at]; rfl)
  rw [up_up, up_up] at hC
  have a0 := (pl_cells hA).1
  have b0 := (pl_cells hB).1
  have d0 := (pl_cells hC).1
  have a2 := (pl_row hA hk).2.2.1
  have a3 := (pl_row hA hk).2.2.2.1
  have b3 := (pl_row hB hk).2.2.2.1
  rw [up_at] at a2 a3
  rw [up_at] at b3
  have ga2 := pl_free hA (k * 5 + 2)
  have ga3 := pl_free hA (k * 5 + 3)
  have gb3 := pl_free hB (k * 5 + 3)
  have HC := Lib.hid hC
  unfold Ad.v at c1 a0 b0 d0
  generalize (p k).g = pg at *
  generalize (p k).left = pl at *
  rw [hr] at a2
  clear h hk hn1 hr hA hB hC r0 r4
  go_enter Tryz.func26, Tryz.ntmps26
  go_wp2_with (first | (go_at_call 13; refine HP.out.mono ?_; rintro e w' ⟨rfl, rfl⟩) | (go_at_call 66; refine HI.out.mono ?_; rintro e w' ⟨rfl, rfl⟩))
  go_region_held3 (fun w' => w'.cell? ⟨D.s, 0, none⟩ = some (.slice (some ⟨D.sb, 0, none⟩) D.n D.cap)) (first | exact c1 | exact a0 | exact b0 | exact d0) (fail)
  all_goals go_wp2
  all_goals go_ret
  all_goals exact ⟨rfl, HC.out.drew⟩
end
end Go.Proofs.YtdbppfcilaajaaaGreat.Pc

namespace Go.Proofs.YtdbppfcilaajaaaGreat.Kn
open Go.RowKit Pc Rq
set_option linter.unusedVariables false
set_option linter.unusedSimpArgs false
section
variable {w0 w : World} {F : Hp} {A : KA} {ps gs : Nat} {prv : Value} {gps : List Ag.Pl} {gfr dfr cfr : List Nat} {cs cs' : List Cn.CP} {dps dps' : List Ad.Pl} {j : Nat} {p p1 : Nat → Pl} {gx : List Int} {bs bp bk bv bl k : Nat} {vic t gg gen aff pg : Int} {af : List Nat}
theorem nx_in {b4 b6 b9 s : Nat} {kz : Int} {x y : Value} : nxB b4 b6 b9 s kz x y (kF A ps gs prv gps gfr cs cfr dps dfr j p gx F) = kF A ps gs prv gps gfr cs cfr dps dfr j p gx (nxB b4 b6 b9 s kz x y F) := by simp only [nxB, kF]; ac_rfl
abbrev nlB (bl bs bp bk bv kk s : Nat) (k vic : Int) (X : Hp) : Hp := pc bl 61 (lkF bl bs bp bk bv) * lkB bk bp bv bs kk s k vic X
theorem nx_lk {b4 b6 b9 kk s : Nat} {kz : Int} {x y : Value} : nxB b4 b6 b9 s kz x y (nlB bl bs bp bk bv kk s kz vic (kF A ps gs prv gps gfr cs cfr dps dfr j p gx F)) = lkB bk bp bv bs kk s kz vic (kF A ps gs prv gps gfr cs cfr dps dfr j p gx (nxB b4 b6 b9 s kz x y (pc bl 61 (lkF bl bs bp bk bv) * F))) := by simp only [nxB, nlB, lkB, kF]; ac_rfl
theorem nx_bl {b4 b6 b9 s : Nat} {kz : Int} {x y : Value} {L : List Value} : kF A ps gs prv gps gfr cs cfr dps dfr j p gx (nxB b4 b6 b9 s kz x y (pc bl 61 L * F)) = pc bl 61 L * nxB b4 b6 b9 s kz x y (kF A ps gs prv gps gfr cs cfr dps dfr j p gx F) := by simp only [nxB, kF]; ac_rfl
/-- Beside the kernel: the boxes of Next, the one who comes. -/
abbrev n2B (bx b4 b6 b9 s : Nat) (k gg gen : Int) (x y : Value) (X : Hp) : Hp := pc bx 30 [.int .i64 gg, .int .u64 gen] * nxB b4 b6 b9 s k x y X
theorem n2_in {bx b4 b6 b9 s : Nat} {kz : Int} {x y : Value} : n2B bx b4 b6 b9 s kz gg gen x y (kF A ps gs prv gps gfr cs cfr dps dfr j p gx F) = kF A ps gs prv gps gfr cs cfr dps dfr j p gx (n2B bx b4 b6 b9 s kz gg gen x y F) := by simp only [n2B, nxB, kF]; ac_rfl
theorem kF_k : kF A ps gs prv gps gfr cs cfr dps dfr j p gx F = knB A.kk ps gs prv 0 (vp A.g) (vp A.c) (vp A.d) (vp A.s) (vp A.D.s) (vp A.t) (vp A.a) * (prB prv * (cG A gps gfr * (Cn.cxQ [] A.c 4 cs cfr * (domD A.d A.q2 dps dfr * (plB A.D p gx * (spQ A.s gs j * (Hm.heapP A.t [] 0 * F))))))) := by simp only [kF]; ac_rfl
theorem kF_g : kF A ps gs prv gps gfr cs cfr dps dfr j p gx F = Gt.gtB A.g A.q1 * (Ag.tblP A.q1 gps gfr * (knB A.kk ps gs prv 0 (vp A.g) (vp A.c) (vp A.d) (vp A.s) (vp A.D.s) (vp A.t) (vp A.a) * (prB prv * (Cn.cxQ [] A.c 4 cs cfr * (domD A.d A.q2 dps dfr * (plB A.D p gx * (spQ A.s gs j * (Hm.heapP A.t [] 0 * F)))))))) := by simp only [kF, cG]; ac_rfl
theorem at_F (h : Sat w0 (kF A ps gs prv gps gfr cs cfr dps dfr j p gx F) w) (hat : Ag.atR gps gg = (gg, gen, true)) : Calls Tryz.prog 21 #[vp A.g, vi gg] w fun e w' => e = .returned (.tuple #[.agg #[.int .i64 gg, .int .u64 gen], .bool true]) ∧ Sat w0 (kF A ps gs prv gps gfr cs cfr dps dfr j p gx F) w' := by
  have := Gt.gt_at (h.cast kF_g) gg
  rw [hat] at this
  refine this.mono ?_
  rintro e w' ⟨rfl, h'⟩
  exact ⟨rfl, h'.cast kF_g.symm⟩
theorem turn_F (h : Sat w0 (kF A ps gs prv gps gfr cs cfr dps dfr j p gx F) w) (htu : Gt.turnE gps gg gen 2 = 0) : Calls Tryz.prog 23 #[vp A.g, .agg #[.int .i64 gg, .int .u64 gen], vi 2] w fun e w' => e = .returned (vi 0) ∧ Sat w0 (kF A ps gs prv (Gt.turnP gps gg gen 2) gfr cs cfr dps dfr j p gx F) w' := by
  have := Gt.gt_turn (h.cast kF_g) gg gen 2
  rw [htu] at this
  refine this.mono ?_
  rintro e w' ⟨rfl, h'⟩
  exact ⟨rfl, h'.cast kF_g.symm⟩
theorem config_F (h : Sat w0 (kF A ps gs prv gps gfr cs cfr dps dfr j p gx F) w) : Calls Tryz.prog 24 #[vp A.kk] w fun e w' => (∃ pr', e = .returned (.agg (cfgL ps gs pr').toArray)) ∧ Sat w0 (kF A ps gs prv gps gfr cs cfr dps dfr j p gx F) w' := by
  refine (k_config (h.cast kF_k)).mono ?_
  rintro e w' ⟨pr', rfl, h'⟩
  exact ⟨⟨pr', rfl⟩, h'.cast kF_k.symm⟩
abbrev n2S (bx b4 b9 s : Nat) (k gg gen : Int) (w' : World) : Prop := w'.cell? ⟨bx, 0, none⟩ = some (.int .i64 gg) ∧ w'.cell? ⟨bx, 1, none⟩ = some (.int .u64 gen) ∧ w'.cell? ⟨b4, 0, none⟩ = some (vi k) ∧ w'.cell? ⟨b9, 0, none⟩ = some (vp s)
theorem n2_S {bx b4 b6 b9 s : Nat} {kz : Int} {x y : Value} {X : Hp} (h : Sat w0 (n2B bx b4 b6 b9 s kz gg gen x y X) w) : n2S bx b4 b9 s kz gg gen w := ⟨h.cell 0 rfl, h.cell 1 rfl, h.pull2.cell 0 rfl, h.pull4.cell 0 rfl⟩
set_option maxRecDepth 100000 in
theorem fld9 (ps gs : Nat) (pr : Value) (w : World) : (Instr.field 27 (.agg (cfgL ps gs pr).toArray) 9).run Tryz.prog w = .ok (vi 2) w := rfl
set_option maxRecDepth 100000 in
set_option maxHeartbeats 8000000 in
theorem next_ok (hq : ChOf w0 A cs cs' cfr dps dps' dfr) (ho : A.D.Ok) (hk : k < A.D.n) (h : Sat w0 (kF A ps gs prv gps gfr cs cfr dps dfr j p gx F) w)
    (hr : (p k).runs = false) (hb : (p k).b = false) (ht : IntKind.u64.wrap ((p k).turns + 1) = t) (ht4 : t = 1) (hp1 : up p k (turnY (p k) t) = p1)
    (h1 : takeG A.D.m (p1 k) = []) (h2 : up p1 k (takeY A.D.m (p1 k)) = p1) (h3 : takeS A.D.m (p1 k) = []) (hr1 : (p1 k).runs = false) (hl : gx.length ≤ 1000)
    (hg1 : gps.length ≤ 64) (hg2 : 1 ≤ gps.length) (haf : Gt.affL gps.length (Ag.seen gps gps.length) = af.map fun a : Nat => Value.int .u8 a) (hal : gps.length = af.length) (ha : ∀ a ∈ af, a < 256) (hf : gx.find? (mayG af k) = some gg)
    (hat : Ag.atR gps gg = (gg, gen, true)) (he : Ag.getE gps gg gen = 0) (hx : Ag.getX gps gg gen = newG 0 1 0 1 aff pg) (htu : Gt.turnE gps gg gen 2 = 0) (vic : Int) :
    Calls Tryz.prog 6 #[vp A.kk, vi k, vi vic] w fun e w' => e = .returned (.tuple #[.agg #[.int .i64 gg, .int .u64 gen], vi 3, vi 0]) ∧ Sat w0 (kF A ps gs prv (Gt.turnP gps gg gen 2) gfr cs' cfr dps' dfr j (up p1 k (startY (p1 k) gg 2)) (gx.eraseP (mayG af k)) F) w' := by
  have hP := k_places ((h.alloc' (.cells #[vi k] 3)).alloc' (.cells #[.int .i64 0, .int .u64 0] 30))
  have hX := nx_start (s := A.D.s) (kk := 0) (k := k) h
  have hR := pl_runs_at (hX.cast nx_places) k hk
  rw [hr] at hR
  have HR := Lib.hid hR
  have HPs := Lib.hid (pl_ps (hX.drew.cast nx_places))
  have HP := Lib.hid hP
  have HX := Lib.hid hX
  have x0 := hX.cell 0 rfl
  have x1 := hX.pull3.cell 0 rfl
  have T0 := Lib.hid (nx_S hX.drew)
  have hk0 : ¬ ((k : Int) < 0) := by omega
  have hk1 : ¬ (A.D.n : Int) ≤ (k : Int) := by omega
  have hk2 : decide ((k : Int) < 0) = false := decide_eq_false hk0
  have hk3 : decide ((A.D.n : Int) ≤ (k : Int)) = false := decide_eq_false hk1
  have hk4 : ¬ (A.D.n ≤ k) := by omega
  have HK := Lib.hid (And.intro hk (And.intro hg1 (And.intro hg2 hl)))
  have HBt := Lib.hid hb
  have HTe := Lib.hid (And.intro ht (And.intro ht4 hp1))
  have HOw := Lib.hid (And.intro h1 (And.intro h2 (And.intro h3 hr1)))
  have HAf := Lib.hid (And.intro haf (And.intro hal (And.intro ha hf)))
  have HGx := Lib.hid (And.intro hat (And.intro he (And.intro hx htu)))
  have HQ := Lib.hid hq
  have HO := Lib.hid ho
  clear h hP hX hR hr hb ht ht4 hp1 h1 h2 h3 hr1 haf hal ha hf hat he hx htu hq ho hg1 hg2 hl hk
  generalize (runsG (p k)).headD 0 = y at *
  go_enter Tryz.func6, Tryz.ntmps6
  go_wp2
  go_step3
  go_wp2_with (first
    | (go_at_call 11; refine HP.out.mono ?_; rintro e w' ⟨rfl, rfl⟩)
    | (go_at_call 12; refine HR.out.mono ?_; rintro e w' ⟨rfl, rfl⟩))
  generalize ((w.alloc (.cells #[vi k] 3)).alloc (.cells #[.int .i64 0, .int .u64 0] 30)).alloc (.cells #[vp A.D.s] 47) = wb at *
  clear x0 x1
  go_region_held3 (nxS w.heap.size (w.heap.size + 1 + 1) A.D.s k)
    (first | (with_reducible exact T0.out))
    (first
      | (go_at_call 13; refine HPs.out.mono ?_; rintro e w' ⟨rfl, rfl⟩))
  have hY := HX.out.drew
  generalize wb.drew = wc at *
  generalize w.heap.size + 1 + 1 = b9 at *
  generalize w.heap.size + 1 = b6 at *
  generalize w.heap.size = b4 at *
  have HY := Lib.hid hY
  clear hY T0 HPs HX HR HP
  go_wp2_with fail
  refine wp_label ?_
  have hH := HY.out.alloc' (.cells #[.func (.func 14) #[] #[vp b9, vp b4]] 61)
  generalize wc.heap.size = bh at *
  generalize wc.alloc (.cells #[.func (.func 14) #[] #[.pointer (some ⟨b9, 0, none⟩), .pointer (some ⟨b4, 0, none⟩)]] 61) = wd at *
  have HH := Lib.hid hH
  clear hH HY
  go_wp2_with fail
  go_loopw [13] (fun v wr => v = .slice none 0 0 ∧ wd = wr) (fun _ _ => 0)
  case atStart => exact ⟨rfl, rfl⟩
  case round =>
    obtain ⟨rfl, rfl⟩ := hrel
    have x0 := HH.out.cell 0 rfl
    have x1 := HH.out.pull3.cell 0 rfl
    have HIn := Lib.hid (pl_inherits (HH.out.cast nx_places) k HK.out.1 HBt.out)
    have hD := HH.out.drew
    have T0 := Lib.hid (nx_S hD)
    have hT := pl_turn_at (hD.cast nx_places) k HK.out.1
    rw [HTe.out.1, HTe.out.2.1] at hT
    have HT := Lib.hid hT
    clear hD hT
    have hsl : ∀ w : World, (binOp .eql 57 (.slice none 0 0) (.slice none 0 0)).run Tryz.prog w = .ok (.bool true) w := fun w => rfl
    go_wp2_with (go_at_call 17; refine HIn.out.mono ?_; rintro e w' ⟨rfl, rfl⟩)
    clear x0 x1 hsl
    go_region_held3 (nxS b4 b9 A.D.s k)
      (first | (with_reducible exact T2.out) | (with_reducible exact T1.out) | (with_reducible exact T0.out))
      (first
        | (go_at_call 19; refine HT.out.mono ?_; rintro e w1 ⟨rfl, hS1⟩; have hE1 : Sat w0 (nxB b4 b6 b9 A.D.s k (.int .i64 0) (.int .u64 0) (kF A ps gs prv gps gfr cs cfr dps dfr j p1 gx F)) w1 := ((hS1.cast (by rw [← HTe.out.2.2, HTe.out.2.1])).cast nx_places.symm); have T1 := Lib.hid (nx_S hE1); have HL := Lib.hid (looks_ (vic := vic) (k := k) (hE1.cast nx_in)); clear hS1 hE1)
        | (go_at_call 18; refine HL.out.mono ?_; rintro e w2 ⟨bl, bs, bp, bk, bv, rfl, hS2⟩; have hE2 : Sat w0 (nxB b4 b6 b9 A.D.s k (.int .i64 0) (.int .u64 0) (nlB bl bs bp bk bv A.kk A.D.s k vic (kF A ps gs prv gps gfr cs cfr dps dfr j p1 gx F))) w2 := (hS2.cast (by simp only [nlB, lkB, nxB, kF]; ac_rfl)); have T2 := Lib.hid (nx_S hE2); have H2 := Lib.hid hE2; clear hS2 hE2))
    go_wp2_with fail
    clear HH HIn HT T0 T1 T2 HL
    go_loopw [68] (fun i wr => (i = vi 0 ∨ i = vi 1) ∧ Sat w0 (nxB b4 b6 b9 A.D.s k (.int .i64 0) (.int .u64 0) (nlB bl bs bp bk bv A.kk A.D.s k vic (kF A ps gs prv gps gfr cs cfr dps dfr j p1 gx F))) wr) (fun i _ => 2 - (intOf i).toNat)
    case atStart => exact ⟨.inl rfl, H2.out⟩
    case round =>
      clear H2
      obtain ⟨hi, hS⟩ := hrel
      rcases hi with rfl | rfl
      · have cl1 := hS.pull4.cell 1 rfl
        have HOwn := Lib.hid (look_own (hS.cast nx_lk) HO.out HK.out.1 (by have := HK.out.2.2.2; omega) HOw.out.1 HOw.out.2.1 HOw.out.2.2.1)
        clear hS
        go_wp2_with (go_at_call 69; refine HOwn.out.mono ?_; rintro e w3 ⟨rfl, hS3⟩; have H3 := Lib.hid (hS3.cast nx_lk.symm); clear hS3)
        go_roundw
        case rel => exact ⟨.inr rfl, H3.out⟩
        case measure => simp [intOf]
      · have cl2 := hS.pull4.cell 2 rfl
        have HShd := Lib.hid (look_shared (hS.cast nx_lk) HK.out.1 (by have := HK.out.2.2.2; omega) HK.out.2.1 HK.out.2.2.1 HAf.out.1 HAf.out.2.1 HAf.out.2.2.1 HAf.out.2.2.2)
        clear hS
        go_wp2_with (go_at_call 70; refine HShd.out.mono ?_; rintro e w3 ⟨rfl, hS3⟩; have H3 : Hid (Sat w0 (nxB b4 b6 b9 A.D.s k (.int .i64 0) (.int .u64 0) (kF A ps gs prv gps gfr cs cfr dps dfr j p1 (gx.eraseP (mayG af k)) F)) w3) := Lib.hid ((hS3.dropL.dropL.dropL.dropL.cast nx_bl).dropL); clear hS3)
        have HG1 := Lib.hid (k_gs (H3.out.cast nx_in))
        have HAt := Lib.hid (at_F (H3.out.cast nx_in) HGx.out.1)
        have hf9 := fld9 ps gs
        go_wp2_with (first
          | (go_at_call 20; refine HG1.out.mono ?_; rintro e w' ⟨rfl, rfl⟩)
          | (go_at_call 21; refine HAt.out.mono ?_; rintro e w4 ⟨rfl, hS4⟩; have hB4 := (hS4.cast nx_in.symm).alloc (.cells #[.int .i64 gg, .int .u64 gen] 30); have HB4 : Hid (Sat w0 (n2B w4.heap.size b4 b6 b9 A.D.s k gg gen (.int .i64 0) (.int .u64 0) (kF A ps gs prv gps gfr cs cfr dps dfr j p1 (gx.eraseP (mayG af k)) F)) (w4.alloc (.cells #[.int .i64 gg, .int .u64 gen] 30))) := Lib.hid hB4; have HCh := Lib.hid (k_charge HQ.out (HB4.out.cast n2_in) HGx.out.2.1 HGx.out.2.2.1); clear hS4 hB4 HB4 H3 HG1 HAt)
          | (go_at_call 22; refine HCh.out.mono ?_; rintro e w5 ⟨rfl, hS5⟩; have HCo := Lib.hid (config_F hS5); clear hS5 HCh)
          | (go_at_call 24; refine HCo.out.mono ?_; rintro e w6 ⟨⟨pr6, rfl⟩, hS6⟩; have H6 := Lib.hid (hS6.cast n2_in.symm); clear hS6 HCo))
        have hE := H6.out.drew
        have U0 := Lib.hid (n2_S hE)
        have HG2 := Lib.hid (k_gs (hE.cast n2_in))
        have HTu := Lib.hid (turn_F (hE.cast n2_in) HGx.out.2.2.2)
        clear hE
        generalize w4.heap.size = bx at *
        go_region_held3 (n2S bx b4 b9 A.D.s k gg gen)
          (first | (with_reducible exact U1.out) | (with_reducible exact U0.out))
          (first
            | (go_at_call 20; refine HG2.out.mono ?_; rintro e w' ⟨rfl, rfl⟩)
            | (go_at_call 23; refine HTu.out.mono ?_; rintro e w7 ⟨rfl, hS7⟩; have hE7 := hS7.cast n2_in.symm; have U1 := Lib.hid (n2_S hE7); have H7 := Lib.hid hE7; clear hS7 hE7))
        go_wp2_with fail
        have hE := H7.out.drew
        have V0 := Lib.hid (n2_S hE)
        have HSt := Lib.hid (pl_start_at (hE.cast (show _ = plB A.D p1 (gx.eraseP (mayG af k)) * n2B bx b4 b6 b9 A.D.s k gg gen (.int .i64 0) (.int .u64 0) (kP A ps gs prv (Gt.turnP gps gg gen 2) gfr cs' cfr dps' dfr j F) by rw [kF_p]; simp only [n2B, nxB]; ac_rfl)) HO.out k HK.out.1 gg 2 (by omega) HOw.out.2.2.2)
        clear hE U0 U1 HG2 HTu H6
        go_region_held3 (n2S bx b4 b9 A.D.s k gg gen)
          (first | (with_reducible exact V2.out) | (with_reducible exact V1.out) | (with_reducible exact V0.out))
          (first
            | (go_at_call 26; refine HSt.out.mono ?_; rintro e w8 ⟨rfl, hS8⟩; have hE8 : Sat w0 (n2B bx b4 b6 b9 A.D.s k gg gen (.int .i64 0) (.int .u64 0) (kF A ps gs prv (Gt.turnP gps gg gen 2) gfr cs' cfr dps' dfr j (up p1 k (startY (p1 k) gg 2)) (gx.eraseP (mayG af k)) F)) w8 := hS8.cast (by rw [kF_p]; simp only [n2B, nxB]; ac_rfl); have V1 := Lib.hid (n2_S hE8); have q0 := hE8.pull3.cell 0 rfl; have q1 := hE8.pull3.cell 1 rfl; have g0 := hE8.pull3.free 0; have g1 := hE8.pull3.free 1; have hs8 : Sat w0 (n2B bx b4 b6 b9 A.D.s k gg gen (.int .i64 gg) (.int .u64 gen) (kF A ps gs prv (Gt.turnP gps gg gen 2) gfr cs' cfr dps' dfr j (up p1 k (startY (p1 k) gg 2)) (gx.eraseP (mayG af k)) F)) _ := (((hE8.pull3.store 0 (.int .i64 gg)).store 1 (.int .u64 gen)).cast (by simp only [n2B, nxB, List.set_cons_zero, List.set_cons_succ]; ac_rfl)); have V2 := Lib.hid (n2_S hs8); have q2 := hs8.pull3.cell 0 rfl; have q3 := hs8.pull3.cell 1 rfl; have H8 := Lib.hid hs8; clear hS8 hE8 hs8))
        go_wp2_with fail
        rw [Exit.noGoto_ret]
        refine bodyPost_ret (v := .tuple #[.agg #[.int .i64 gg, .int .u64 gen], vi 3, vi 0]) (by rw [results_cell_tmp2 rfl]; go_simp) rfl ?_
        exact ⟨rfl, H8.out.dropL.dropL.dropL.dropL⟩
end
end Go.Proofs.YtdbppfcilaajaaaGreat.Kn
