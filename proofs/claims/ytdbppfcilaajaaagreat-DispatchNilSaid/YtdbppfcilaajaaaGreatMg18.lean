/-
  Contracts of package arena at T = helmsman/api.G: Put. No statement is proved here.
-/
import Derived.Test.YtdbppfcilaajaaaGreatMg17
import Derived.Test.YtdbppfcilaajaaaGreatMg9
import Derived.Deep.RegionLaw
import Derived.Test.YtdbppfcilaajaaaGreatMg1
import Derived.Deep.MidRow
import Derived.BigQuiet
set_option linter.unusedVariables false
set_option linter.unusedSimpArgs false
namespace Go.Proofs.YtdbppfcilaajaaaGreat.Ag
open Go.RowKit
set_option linter.unusedVariables false

section
variable {w0 w : World} {p : Nat} {s : TblS} {ps : List Pl} {free : List Nat} {F : Hp}
set_option maxRecDepth 100000 in
set_option maxHeartbeats 8000000 in
theorem put_full (h : TblIs w0 p s ps [] F w) (x : El) :
    Calls Tryz.prog 169 #[vp p, ev x] w fun e w' => e = .returned (.tuple #[vr 0 0, vi 3]) ∧ Sat w0 (tblP p ps [] * F) w' := by
  have hI := (h.alloc (elO x)).alloc (.cells #[vi 0, vu 0] 30)
  have c1 := hI.c1
  have H := Lib.hid (none_ hI)
  have HB := Lib.hid (((h.sat.alloc' (elO x)).alloc' (.cells #[vi 0, vu 0] 30)))
  have hok := Lib.hid h.ok
  clear h hI
  go_enter Tryz.func169, Tryz.ntmps169
  go_wp2_with (go_at_call 139; refine H.out.mono ?_; rintro e w' ⟨rfl, rfl⟩)
  (try simp only [Exit.inBlock, Exit.then])
  refine bodyPost_ret (v := .tuple #[vr 0 0, vi 3]) (by rw [results_cell_tmp rfl]; go_simp) rfl ?_
  exact ⟨rfl, TblIs.shut (s := s) ⟨hok.out, HB.out⟩⟩
set_option maxRecDepth 100000 in
set_option maxHeartbeats 8000000 in
theorem put_come {k : Nat} {a : Pl} (h : TblIs w0 p s ps (free ++ [k]) F w) (hk : ps[k]? = some a) (x : El) :
    Calls Tryz.prog 169 #[vp p, ev x] w fun e w' => e = .returned (.tuple #[vr k a.gen, vi 0]) ∧ Sat w0 (tblP p (ps.set k { a with there := true, x := x }) free * F) w' := by
  have hok := Lib.hid (h.ok.come hk x)
  have hsm := h.ok.fsmall
  obtain ⟨n, hn⟩ : ∃ n, n = free.length := ⟨_, rfl⟩
  obtain ⟨m, hm⟩ : ∃ m, m = (free ++ [k]).length := ⟨_, rfl⟩
  have hmn : m = n + 1 := by rw [hm, hn]; simp
  have hsm' : m ≤ 4096 := hm ▸ hsm
  obtain ⟨fa, hfa⟩ : ∃ fa, s.fo = some ⟨fa, 0, none⟩ := by
    rcases h.sat.pull3.slE.2 with ⟨_, h0, _⟩ | ⟨g, c, cur, hv, _⟩
    · simp at h0
    · injection hv with h1 h2 h3
      exact ⟨g, h1⟩
  have hB0 := (h.sat.alloc (elO x)).alloc (.cells #[vi 0, vu 0] 30)
  rw [size1] at hB0
  have hB : Sat w0 (pc (w.heap.size + 1) 30 [vi 0, vu 0] * (elB w.heap.size x * (tblB p s ps.length (free ++ [k]).length * (tblL s ps * (tblF s (free ++ [k]) * F))))) ((w.alloc (elO x)).alloc (.cells #[vi 0, vu 0] 30)) := hB0
  clear hB0
  simp only [tblB, tblF, TblS.fv, hfa, ← hm] at hB
  have hgs := h.ok.gens _ _ hk
  have hkl : k < ps.length := (List.getElem?_eq_some_iff.1 hk).1
  have hsml := h.ok.small
  have hI := (h.alloc (elO x)).alloc (.cells #[vi 0, vu 0] 30)
  have H := Lib.hid (none_ hI)
  have c0 := hI.c0
  have c1 : ((w.alloc (elO x)).alloc (.cells #[vi 0, vu 0] 30)).cell? ⟨p, 1, none⟩ = some (.slice (some ⟨fa, 0, none⟩) m s.fcap) := by
    have := hI.c1
    rw [hfa, ← hm] at this
    exact this
  have e0 := hI.at_ (j := 0) hk rfl
  rw [Nat.add_zero] at e0
  have e1 := hI.at_ (j := 1) hk rfl
  have e3_0 : ((w.alloc (elO x)).alloc (.cells #[vi 0, vu 0] 30)).cell? ⟨s.a, k * 22 + 3, none⟩ = some (.int .i64 a.x.v0) := hI.at_ (j := 3) hk rfl
  have e3_1 : ((w.alloc (elO x)).alloc (.cells #[vi 0, vu 0] 30)).cell? ⟨s.a, k * 22 + 3 + 1, none⟩ = some (.bool a.x.v1) := hI.at_ (j := 4) hk rfl
  have e3_2 : ((w.alloc (elO x)).alloc (.cells #[vi 0, vu 0] 30)).cell? ⟨s.a, k * 22 + 3 + 2, none⟩ = some (.int .i64 a.x.v2) := hI.at_ (j := 5) hk rfl
  have e3_3 : ((w.alloc (elO x)).alloc (.cells #[vi 0, vu 0] 30)).cell? ⟨s.a, k * 22 + 3 + 3, none⟩ = some (.int .u64 a.x.v3) := hI.at_ (j := 6) hk rfl
  have e3_4 : ((w.alloc (elO x)).alloc (.cells #[vi 0, vu 0] 30)).cell? ⟨s.a, k * 22 + 3 + 4, none⟩ = some (.int .i64 a.x.v4) := hI.at_ (j := 7) hk rfl
  have e3_5 : ((w.alloc (elO x)).alloc (.cells #[vi 0, vu 0] 30)).cell? ⟨s.a, k * 22 + 3 + 5, none⟩ = some (.int .u64 a.x.v5) := hI.at_ (j := 8) hk rfl
  have e3_6 : ((w.alloc (elO x)).alloc (.cells #[vi 0, vu 0] 30)).cell? ⟨s.a, k * 22 + 3 + 6, none⟩ = some (.int .u8 a.x.v6) := hI.at_ (j := 9) hk rfl
  have e3_7 : ((w.alloc (elO x)).alloc (.cells #[vi 0, vu 0] 30)).cell? ⟨s.a, k * 22 + 3 + 7, none⟩ = some (.int .i64 a.x.v7) := hI.at_ (j := 10) hk rfl
  have e3_8 : ((w.alloc (elO x)).alloc (.cells #[vi 0, vu 0] 30)).cell? ⟨s.a, k * 22 + 3 + 8, none⟩ = some (.int .i64 a.x.v8) := hI.at_ (j := 11) hk rfl
  have e3_9 : ((w.alloc (elO x)).alloc (.cells #[vi 0, vu 0] 30)).cell? ⟨s.a, k * 22 + 3 + 9, none⟩ = some (.int .u64 a.x.v9) := hI.at_ (j := 12) hk rfl
  have e3_10 : ((w.alloc (elO x)).alloc (.cells #[vi 0, vu 0] 30)).cell? ⟨s.a, k * 22 + 3 + 10, none⟩ = some (.int .u64 a.x.v10) := hI.at_ (j := 13) hk rfl
  have e3_11 : ((w.alloc (elO x)).alloc (.cells #[vi 0, vu 0] 30)).cell? ⟨s.a, k * 22 + 3 + 11, none⟩ = some (.int .u64 a.x.v11) := hI.at_ (j := 14) hk rfl
  have e3_12 : ((w.alloc (elO x)).alloc (.cells #[vi 0, vu 0] 30)).cell? ⟨s.a, k * 22 + 3 + 12, none⟩ = some (.int .u64 a.x.v12) := hI.at_ (j := 15) hk rfl
  have e3_13 : ((w.alloc (elO x)).alloc (.cells #[vi 0, vu 0] 30)).cell? ⟨s.a, k * 22 + 3 + 13, none⟩ = some (.int .u64 a.x.v13) := hI.at_ (j := 16) hk rfl
  have e3_14 : ((w.alloc (elO x)).alloc (.cells #[vi 0, vu 0] 30)).cell? ⟨s.a, k * 22 + 3 + 14, none⟩ = some (.int .u64 a.x.v14) := hI.at_ (j := 17) hk rfl
  have e3_15 : ((w.alloc (elO x)).alloc (.cells #[vi 0, vu 0] 30)).cell? ⟨s.a, k * 22 + 3 + 15, none⟩ = some (.int .u64 a.x.v15) := hI.at_ (j := 18) hk rfl
  have e3_16 : ((w.alloc (elO x)).alloc (.cells #[vi 0, vu 0] 30)).cell? ⟨s.a, k * 22 + 3 + 16, none⟩ = some (.int .u64 a.x.v16) := hI.at_ (j := 19) hk rfl
  have e3_17 : ((w.alloc (elO x)).alloc (.cells #[vi 0, vu 0] 30)).cell? ⟨s.a, k * 22 + 3 + 17, none⟩ = some (.int .i64 a.x.v17) := hI.at_ (j := 20) hk rfl
  have e3_18 : ((w.alloc (elO x)).alloc (.cells #[vi 0, vu 0] 30)).cell? ⟨s.a, k * 22 + 3 + 18, none⟩ = some (.int .u64 a.x.v18) := hI.at_ (j := 21) hk rfl
  have b0 := hB.cell 0 rfl
  have b1 := hB.cell 1 rfl
  have bf0 := hB.free 0
  have bf1 := hB.free 1
  have q0 := hB.pull2.cell 0 rfl
  have q1 := hB.pull2.cell 1 rfl
  have q2 := hB.pull2.cell 2 rfl
  have q3 := hB.pull2.cell 3 rfl
  have q4 := hB.pull2.cell 4 rfl
  have q5 := hB.pull2.cell 5 rfl
  have q6 := hB.pull2.cell 6 rfl
  have q7 := hB.pull2.cell 7 rfl
  have q8 := hB.pull2.cell 8 rfl
  have q9 := hB.pull2.cell 9 rfl
  have q10 := hB.pull2.cell 10 rfl
  have q11 := hB.pull2.cell 11 rfl
  have q12 := hB.pull2.cell 12 rfl
  have q13 := hB.pull2.cell 13 rfl
  have q14 := hB.pull2.cell 14 rfl
  have q15 := hB.pull2.cell 15 rfl
  have q16 := hB.pull2.cell 16 rfl
  have q17 := hB.pull2.cell 17 rfl
  have q18 := hB.pull2.cell 18 rfl
  have fr0 := hI.free_ 0
  have fr1 := hI.free_ 1
  have lf0 := hI.lfree (k * 22 + 0)
  have lf1 := hI.lfree (k * 22 + 1)
  have lf3_0 : ((w.alloc (elO x)).alloc (.cells #[vi 0, vu 0] 30)).frozen? ⟨s.a, k * 22 + 3, none⟩ = false := hI.lfree (k * 22 + 3)
  have lf3_1 : ((w.alloc (elO x)).alloc (.cells #[vi 0, vu 0] 30)).frozen? ⟨s.a, k * 22 + 3 + 1, none⟩ = false := hI.lfree (k * 22 + 4)
  have lf3_2 : ((w.alloc (elO x)).alloc (.cells #[vi 0, vu 0] 30)).frozen? ⟨s.a, k * 22 + 3 + 2, none⟩ = false := hI.lfree (k * 22 + 5)
  have lf3_3 : ((w.alloc (elO x)).alloc (.cells #[vi 0, vu 0] 30)).frozen? ⟨s.a, k * 22 + 3 + 3, none⟩ = false := hI.lfree (k * 22 + 6)
  have lf3_4 : ((w.alloc (elO x)).alloc (.cells #[vi 0, vu 0] 30)).frozen? ⟨s.a, k * 22 + 3 + 4, none⟩ = false := hI.lfree (k * 22 + 7)
  have lf3_5 : ((w.alloc (elO x)).alloc (.cells #[vi 0, vu 0] 30)).frozen? ⟨s.a, k * 22 + 3 + 5, none⟩ = false := hI.lfree (k * 22 + 8)
  have lf3_6 : ((w.alloc (elO x)).alloc (.cells #[vi 0, vu 0] 30)).frozen? ⟨s.a, k * 22 + 3 + 6, none⟩ = false := hI.lfree (k * 22 + 9)
  have lf3_7 : ((w.alloc (elO x)).alloc (.cells #[vi 0, vu 0] 30)).frozen? ⟨s.a, k * 22 + 3 + 7, none⟩ = false := hI.lfree (k * 22 + 10)
  have lf3_8 : ((w.alloc (elO x)).alloc (.cells #[vi 0, vu 0] 30)).frozen? ⟨s.a, k * 22 + 3 + 8, none⟩ = false := hI.lfree (k * 22 + 11)
  have lf3_9 : ((w.alloc (elO x)).alloc (.cells #[vi 0, vu 0] 30)).frozen? ⟨s.a, k * 22 + 3 + 9, none⟩ = false := hI.lfree (k * 22 + 12)
  have lf3_10 : ((w.alloc (elO x)).alloc (.cells #[vi 0, vu 0] 30)).frozen? ⟨s.a, k * 22 + 3 + 10, none⟩ = false := hI.lfree (k * 22 + 13)
  have lf3_11 : ((w.alloc (elO x)).alloc (.cells #[vi 0, vu 0] 30)).frozen? ⟨s.a, k * 22 + 3 + 11, none⟩ = false := hI.lfree (k * 22 + 14)
  have lf3_12 : ((w.alloc (elO x)).alloc (.cells #[vi 0, vu 0] 30)).frozen? ⟨s.a, k * 22 + 3 + 12, none⟩ = false := hI.lfree (k * 22 + 15)
  have lf3_13 : ((w.alloc (elO x)).alloc (.cells #[vi 0, vu 0] 30)).frozen? ⟨s.a, k * 22 + 3 + 13, none⟩ = false := hI.lfree (k * 22 + 16)
  have lf3_14 : ((w.alloc (elO x)).alloc (.cells #[vi 0, vu 0] 30)).frozen? ⟨s.a, k * 22 + 3 + 14, none⟩ = false := hI.lfree (k * 22 + 17)
  have lf3_15 : ((w.alloc (elO x)).alloc (.cells #[vi 0, vu 0] 30)).frozen? ⟨s.a, k * 22 + 3 + 15, none⟩ = false := hI.lfree (k * 22 + 18)
  have lf3_16 : ((w.alloc (elO x)).alloc (.cells #[vi 0, vu 0] 30)).frozen? ⟨s.a, k * 22 + 3 + 16, none⟩ = false := hI.lfree (k * 22 + 19)
  have lf3_17 : ((w.alloc (elO x)).alloc (.cells #[vi 0, vu 0] 30)).frozen? ⟨s.a, k * 22 + 3 + 17, none⟩ = false := hI.lfree (k * 22 + 20)
  have lf3_18 : ((w.alloc (elO x)).alloc (.cells #[vi 0, vu 0] 30)).frozen? ⟨s.a, k * 22 + 3 + 18, none⟩ = false := hI.lfree (k * 22 + 21)
  have hX := hB.dropL
  have hP4 := hX.pull4
  have hfree : ((w.alloc (elO x)).alloc (.cells #[vi 0, vu 0] 30)).cell? ⟨fa, n, none⟩ = some (vi k) := hP4.slCell n (by rw [List.getElem?_map, hn]; simp)
  have hcap := hP4.slCap
  have hpa : p ≠ s.a := hI.sat.slNe
  have hbp : w.heap.size + 1 ≠ p := hB.drop2.ne
  have hba : w.heap.size + 1 ≠ s.a := hB.drop2.drop2.slNe
  have hpf : p ≠ fa := hX.dropL.drop2.slNe
  have hbf : w.heap.size + 1 ≠ fa := hB.drop2.drop3.drop2.slNe
  have haf : s.a ≠ fa := hX.dropL.dropL.slNe2
  have hxp : w.heap.size ≠ p := hX.ne
  have hxa : w.heap.size ≠ s.a := hX.drop2.slNe
  have hxf : w.heap.size ≠ fa := hX.drop3.drop2.slNe
  have hxb : w.heap.size + 1 ≠ w.heap.size := by omega
  have HB := Lib.hid hB
  have Hn := Lib.hid hn
  have Hm := Lib.hid hm
  have Hfa := Lib.hid hfa
  have HGS := Lib.hid hgs
  obtain ⟨gen, there, retired, y⟩ := a
  simp only at e0 e1 e3_0 e3_1 e3_2 e3_3 e3_4 e3_5 e3_6 e3_7 e3_8 e3_9 e3_10 e3_11 e3_12 e3_13 e3_14 e3_15 e3_16 e3_17 e3_18 ⊢
  have Hk := Lib.hid hk
  have hm0 : ((m : Int) == 0) = false := beq_eq_false_iff_ne.2 (by omega)
  have hw : IntKind.i64.wrap ((m : Int) - 1) = (n : Int) := by rw [IntWalk.i64_in _ (by omega)]; omega
  have hnm : (n : Int) < (m : Int) := by omega
  have hnc : (n : Int) ≤ (s.fcap : Int) := by omega
  have hnc' : n ≤ s.fcap := by omega
  have hkl' : (k : Int) < (ps.length : Int) := by omega
  generalize hwb : (w.alloc (elO x)).alloc (.cells #[vi 0, vu 0] 30) = wb at *
  have HW := Lib.hid hwb
  generalize hb1 : w.heap.size + 1 = bx at *
  generalize hb2 : w.heap.size = b2 at *
  have HB1 := Lib.hid hb1
  have HB2 := Lib.hid hb2
  clear hwb hb1 hb2 h hB hI hn hm hfa hgs hk hP4 hcap hsm hX
  go_enter Tryz.func169, Tryz.ntmps169
  go_wp2_with fail
  rw [HW.out, HB2.out, HB1.out]
  refine H.out.mono ?_
  rintro e w' ⟨rfl, rfl⟩
  go_wp2
  have hW1 := HB.out.pull3.store 1 (.slice (some ⟨fa, 0, none⟩) n n)
  generalize wb.setCell ⟨p, 1, none⟩ (.slice (some ⟨fa, 0, none⟩) n n) = W1 at *
  have HW1 := Lib.hid hW1.drew
  clear hW1
  have hS0 : (fun w' : World => w'.rangeAt b2 0 (elC x)) W1.drew := range_ HW1.out.pull3
  have HT1 := Lib.hid HW1.out.pull4
  have hcell : (W1.drew).cell? ⟨s.a, k * 22 + 1, none⟩ = some _ := HT1.out.slCell (k * 22 + 1) (flat_get Pl.len Hk.out rfl)
  have hfree1 : (W1.drew).frozen? ⟨s.a, k * 22 + 1, none⟩ = false := HT1.out.slFree (k * 22 + 1)
  have hT2 := HT1.out.slStore (k * 22 + 1) (by omega) (.bool true)
  rw [flat_set Pl.len ps k 1 _ (⟨gen, true, retired, y⟩ : Pl) (.bool true) Hk.out (by omega) rfl] at hT2
  refine wp_region_held (S := fun w' => w'.rangeAt b2 0 (elC x)) (by kernel_rfl) ?_
  change wpAnyH _ _ _ _ _ _ _ _ (World.drew _)
  refine wpAnyH_take (i := 0) (v := (.pointer (some ⟨s.a, k * 22, none⟩))) rfl (by kernel_rfl) (by kernel_rfl) (by kernel_rfl) (fun _ _ _ h => h) (Or.inl ⟨by rfl, fun w' hw' => by go_simp⟩) hS0 ?_
  simp only [Act.put, List.setIfInBounds_toArray, List.set_cons_zero, List.set_cons_succ]
  refine wpAnyH_take (i := 1) (v := (.pointer (some ⟨s.a, k * 22, none⟩))) rfl (by kernel_rfl) (by kernel_rfl) (by kernel_rfl) (fun _ _ _ h => h) (Or.inl ⟨by rfl, fun w' hw' => by go_simp⟩) hS0 ?_
  simp only [Act.put, List.setIfInBounds_toArray, List.set_cons_zero, List.set_cons_succ]
  refine wpAnyH_take (i := 2) rfl (by kernel_rfl) (by kernel_rfl) (by kernel_rfl) (fun _ _ _ h => h) (yieldsIf_load_mid (by rfl) 134 _ rfl b2 0 (by rfl) (elC x) _ (fun w' h => h) Tryz.underlying134 rfl einfo) hS0 ?_
  simp only [Act.put, List.setIfInBounds_toArray, List.set_cons_zero, List.set_cons_succ]
  refine wpAnyH_take (i := 3) (v := (.pointer (some ⟨s.a, k * 22, none⟩))) rfl (by kernel_rfl) (by kernel_rfl) (by kernel_rfl) (fun _ _ _ h => h) (Or.inl ⟨by rfl, fun w' hw' => by go_simp⟩) hS0 ?_
  simp only [Act.put, List.setIfInBounds_toArray, List.set_cons_zero, List.set_cons_succ]
  refine wpAnyH_take (i := 4) (v := (.pointer (some ⟨s.a, k * 22 + 1, none⟩))) rfl (by kernel_rfl) (by kernel_rfl) (by kernel_rfl) (fun _ _ _ h => h) (Or.inl ⟨by rfl, fun w' hw' => by go_simp⟩) hS0 ?_
  simp only [Act.put, List.setIfInBounds_toArray, List.set_cons_zero, List.set_cons_succ]
  refine wpAnyH_ready (rs := [5]) (by kernel_rfl) (by simp) ?_
  refine AllReadyH.cons rfl (fun K hK => ?_) AllReadyH.nil
  go_simp
  have hT2 : Sat w0 _ (W1.setCell ⟨s.a, k * 22 + 1, none⟩ (.bool true)).drew := hT2
  generalize (W1.setCell ⟨s.a, k * 22 + 1, none⟩ (.bool true)).drew = W2 at *
  have HW2 := Lib.hid hT2
  have hS2 : (fun w' : World => w'.rangeAt b2 0 (elC x)) W2 := range_ HW2.out.pull4
  refine hK.out _ _ hS2 (fun hS3 => ?_)
  refine wpAnyH_take (i := 6) (v := (.pointer (some ⟨s.a, k * 22, none⟩))) rfl (by kernel_rfl) (by kernel_rfl) (by kernel_rfl) (fun _ _ _ h => h) (Or.inl ⟨by rfl, fun w' hw' => by go_simp⟩) hS2 ?_
  simp only [Act.put, List.setIfInBounds_toArray, List.set_cons_zero, List.set_cons_succ]
  refine wpAnyH_take (i := 7) (v := (.pointer (some ⟨s.a, k * 22 + 3, none⟩))) rfl (by kernel_rfl) (by kernel_rfl) (by kernel_rfl) (fun _ _ _ h => h) (Or.inl ⟨by rfl, fun w' hw' => by go_simp⟩) hS2 ?_
  simp only [Act.put, List.setIfInBounds_toArray, List.set_cons_zero, List.set_cons_succ]
  have hth := slThere HW2.out (get_set_self Hk.out _) (by simp)
  have hT3 := storeX HW2.out (get_set_self Hk.out _) (by simp) x
  rw [List.set_set] at hT3
  have hT3 : Sat w0 _ (W2.setCells s.a (k * 22 + 3) (elC x).toArray.toList) := hT3
  refine wpAnyH_ready (rs := [8]) (by kernel_rfl) (by simp) ?_
  refine AllReadyH.cons rfl (fun K' hK' => ?_) AllReadyH.nil
  rw [if_pos (by rfl)]
  refine wp_store_mid 134 _ _ rfl s.a (k * 22 + 3) (elC x).toArray (by rfl) (by rfl) hth einfo (all_oneCell_toArray (elOne x)) ?_
  generalize W2.setCells s.a (k * 22 + 3) (elC x).toArray.toList = W3 at *
  have HW3 := Lib.hid hT3
  have hS4 : (fun w' : World => w'.rangeAt b2 0 (elC x)) W3 := range_ HW3.out.pull4
  refine hK'.out _ _ hS4 (fun hS5 => ?_)
  refine wpAnyH_done (by kernel_rfl) ?_ _
  clear hS0 hS2 hS3 hS4 hS5 hth hT2 hT3 hcell hfree1 hK hK'
  have hr0 := HW3.out.pull3.cell 0 rfl
  have hr1 := HW3.out.pull3.cell 1 rfl
  have hrf0 := HW3.out.pull3.free 0
  have hrf1 := HW3.out.pull3.free 1
  have hg0 := HW3.out.slCell (k * 22 + 0) (flat_get Pl.len (get_set_self Hk.out _) rfl)
  rw [Nat.add_zero] at hg0
  go_wp2
  (try simp only [Exit.inBlock, Exit.then])
  refine bodyPost_ret (v := .tuple #[vr k gen, vi 0]) (by rw [results_cell_tmp rfl]; go_simp) rfl ?_
  refine ⟨rfl, ?_⟩
  have a7 := (((HW3.out.pull3.store 0 (vi k)).store 1 (vu gen)).dropL.pull3.dropL.pull3).slCut n (by omega)
  refine TblIs.shut (s := ⟨s.a, s.cap, some ⟨fa, 0, none⟩, n⟩) ⟨hok.out, ?_⟩
  refine a7.cast ?_
  have hl : (ps.set k (⟨gen, true, retired, x⟩ : Pl)).length = ps.length := List.length_set
  have hx : ((free ++ [k]).map fun k : Nat => vi k).take (n * 1) = free.map fun k : Nat => vi k := by
    rw [Nat.mul_one, List.map_append, Hn.out, List.take_left' (by simp)]
  rw [hx]
  simp only [tblB, tblL, tblF, TblS.lv, TblS.fv, hl, ← Hn.out, List.set_cons_succ, List.set_cons_zero]
  ac_rfl
theorem put_no (h : Sat w0 (tblP p ps [] * F) w) (x : El) :
    Calls Tryz.prog 169 #[vp p, ev x] w fun e w' => e = .returned (.tuple #[vr 0 0, vi 3]) ∧ Sat w0 (tblP p ps [] * F) w' := by
  obtain ⟨s, hs⟩ := open_ h
  exact put_full hs x
theorem put_yes {k : Nat} {a : Pl} (h : Sat w0 (tblP p ps (free ++ [k]) * F) w) (hk : ps[k]? = some a) (x : El) :
    Calls Tryz.prog 169 #[vp p, ev x] w fun e w' => e = .returned (.tuple #[vr k a.gen, vi 0]) ∧ Sat w0 (tblP p (ps.set k { a with there := true, x := x }) free * F) w' := by
  obtain ⟨s, hs⟩ := open_ h
  exact put_come hs hk x

end
end Go.Proofs.YtdbppfcilaajaaaGreat.Ag

namespace Go.Proofs.YtdbppfcilaajaaaGreat.Ag
open Go.RowKit
set_option linter.unusedVariables false

section
variable {w0 w : World} {p : Nat} {s : TblS} {ps : List Pl} {free : List Nat} {F : Hp}
theorem Rd.one' (w : World) (T : TypeId) (x : Value) {b : Nat} (hb : b = w.heap.size) : Rd (w.alloc (.cells #[x] T)) 1 (.slice (some ⟨b, 0, none⟩) 1 1) 1 [x] := by
  subst hb
  exact Rd.one w T x

abbrev pl0 : Pl := ⟨0, false, false, ez⟩
def newL (n : Nat) (first : Int) (k : Nat) : List Pl := List.replicate k ⟨first, false, false, ez⟩ ++ List.replicate (n - k) pl0
def newF (n k : Nat) : List Nat := (List.range k).map fun i => n - 1 - i
theorem newL_at (n : Nat) (first : Int) (k : Nat) (h : k < n) : (newL n first k)[k]? = some pl0 := by
  rw [newL, List.getElem?_append_right (by simp), List.length_replicate, Nat.sub_self, List.getElem?_replicate, if_pos (by omega)]
theorem newL_set (n : Nat) (first : Int) (k : Nat) (h : k < n) : (newL n first k).set k ⟨first, false, false, ez⟩ = newL n first (k + 1) := by
  obtain ⟨m, rfl⟩ : ∃ m, n = k + (m + 1) := ⟨n - k - 1, by omega⟩
  rw [newL, newL, List.set_append, if_neg (by simp), List.length_replicate, Nat.sub_self, show k + (m + 1) - k = m + 1 by omega, List.replicate_succ, List.set_cons_zero, show k + (m + 1) - (k + 1) = m by omega, List.replicate_succ', List.append_assoc]
  rfl
theorem newL_0 (n : Nat) (first : Int) : newL n first 0 = List.replicate n pl0 := by simp [newL]
theorem newL_n (n : Nat) (first : Int) : newL n first n = List.replicate n ⟨first, false, false, ez⟩ := by simp [newL]
theorem newF_succ (n k : Nat) : newF n (k + 1) = newF n k ++ [n - 1 - k] := by simp [newF, List.range_succ]
theorem newF_len (n k : Nat) : (newF n k).length = k := by simp [newF]

def newAt (q a n : Nat) (first : Int) (k : Nat) (F : Hp) : Hp := ex fun v : Value => pc q 263 [.slice (some ⟨a, 0, none⟩) n n, v] * (sl 265 22 (.slice (some ⟨a, 0, none⟩) n n) n (flat (newL n first k)) * (sl 3 1 v k ((newF n k).map fun k : Nat => vi k) * F))

set_option maxRecDepth 100000 in
set_option maxHeartbeats 8000000 in
theorem new_ (n : Nat) (first : Int) (hn : 1 ≤ n) (hn' : n ≤ 4096) (hf : 1 ≤ first) (hf' : first ≤ 18446744073709551614) (h : Sat w0 F w) :
    Calls Tryz.prog 91 #[vi n, vu first] w fun e w' => ∃ p, e = .returned (.tuple #[vp p, vi 0]) ∧ Sat w0 (tblP p (List.replicate n ⟨first, false, false, ez⟩) (newF n n) * F) w' := by
  have hok := Lib.hid (TblOk.fresh n hn hn' first hf hf')
  have h1 : ¬ ((n : Int) < 1) := by omega
  have h2 : ¬ (4096 < (n : Int)) := by omega
  have h3 : ¬ (first < 1) := by omega
  have h4 : ¬ (18446744073709551614 < first) := by omega
  have Hf := Lib.hid hf'
  clear hf'
  obtain ⟨m, hm⟩ : ∃ m, m = n - 1 := ⟨_, rfl⟩
  have hw1 : IntKind.i64.wrap ((n : Int) - 1) = (m : Int) := by rw [IntWalk.i64_in _ (by omega)]; omega
  have Hm := Lib.hid hm
  have hm4 : m ≤ 4096 := by omega
  clear hm
  have H := Lib.hid h
  clear h
  go_enter Tryz.func91, Tryz.ntmps91
  go_wp2_with (at_make; refine wpList_make_sl Epl rfl _ _ rfl .i64 .i64 n n n n rfl rfl rfl rfl (by omega) (by omega) (by omega) H.out ?_; intro g w1 hM; have HM := Lib.hid hM; clear hM)
  have hB : Sat w0 (newAt w1.heap.size g n first 0 F) (w1.alloc (.cells #[.slice (some ⟨g, 0, none⟩) n n, .slice none 0 0] 263)) := by
    have h5 := HM.out
    rw [flat_made Pl.len (by omega) (.agg #[vu 0, .bool false, .bool false, .int .i64 0, .bool false, .int .i64 0, .int .u64 0, .int .i64 0, .int .u64 0, .int .u8 0, .int .i64 0, .int .i64 0, .int .u64 0, .int .u64 0, .int .u64 0, .int .u64 0, .int .u64 0, .int .u64 0, .int .u64 0, .int .u64 0, .int .i64 0, .int .u64 0]) pl0 rfl n] at h5
    have h6 := (h5.slI (n := n) (cap := n) (size := 22) (Nat.le_refl _) (by unfold maxLen; omega) (by rw [flat_len Pl.len]; simp) (List.take_of_length_le (by rw [flat_len Pl.len]; simp))).alloc (.cells #[.slice (some ⟨g, 0, none⟩) n n, .slice none 0 0] 263)
    have h7 := h6.addNil 3 1
    have h8 := (Sat.exI (f := fun v : Value => pc w1.heap.size 263 [.slice (some ⟨g, 0, none⟩) n n, v] * (sl 265 22 (.slice (some ⟨g, 0, none⟩) n n) n (flat (newL n first 0)) * (sl 3 1 v 0 ((newF n 0).map fun k : Nat => vi k) * F))) (F := emp) (.slice none 0 0) (h7.cast (by rw [sep_emp, newL_0]; simp only [newF, List.range_zero, List.map_nil]; simp only [pc]; ac_rfl)))
    exact h8.cast (sep_emp _)
  generalize w1.alloc (.cells #[.slice (some ⟨g, 0, none⟩) n n, .slice none 0 0] 263) = w2 at *
  generalize w1.heap.size = q at *
  obtain ⟨v0, hC⟩ : ∃ v, Sat w0 (pc q 263 [.slice (some ⟨g, 0, none⟩) n n, v] * F) w2 := by
    obtain ⟨v, hv⟩ := (hB.cast (sep_emp _).symm).exE
    exact ⟨v, (hv.cast (sep_emp _)).drop2.drop2⟩
  have c0 := hC.cell 0 rfl
  have HB := Lib.hid hB
  clear hB hC HM
  go_wp2
  clear c0
  go_loopw [31] (fun i wr => ∃ k : Nat, k ≤ n ∧ i = vi k ∧ Sat w0 (newAt q g n first k F) wr) (fun i _ => n - (intOf i).toNat)
  case atStart => exact ⟨0, Nat.zero_le _, rfl, HB.out⟩
  case round =>
    obtain ⟨k, hk, rfl, hS⟩ := hrel
    by_cases hlt : k < n
    · obtain ⟨v, hS⟩ := (hS.cast (sep_emp _).symm).exE
      have hS := hS.cast (sep_emp _)
      obtain ⟨fo, fcap, rfl⟩ := hS.pull3.rd.len
      have c0 := hS.cell 0 rfl
      have c1 := hS.cell 1 rfl
      have f0 := hS.free 0
      have f1 := hS.free 1
      have e0 := hS.pull2.slCell (k * 22 + 0) (flat_get Pl.len (newL_at n first k hlt) rfl)
      have lf := hS.pull2.slFree (k * 22 + 0)
      rw [Nat.add_zero] at e0 lf
      have hqg : q ≠ g := hS.slNe
      have a1 := hS.pull2.slStore (k * 22 + 0) (by omega) (vu first)
      rw [flat_set Pl.len _ k 0 _ ⟨first, false, false, ez⟩ (vu first) (newL_at n first k hlt) (by omega) rfl, newL_set n first k hlt, Nat.add_zero] at a1
      have A1 := Lib.hid a1
      obtain ⟨j, hj⟩ : ∃ j, j = n - 1 - k := ⟨_, rfl⟩
      have hmk : (m : Int) - (k : Int) = (j : Int) := by have := Hm.out; omega
      have Hmk := Lib.hid hmk
      have hw2 : IntKind.i64.wrap ((m : Int) - (k : Int)) = (m : Int) - (k : Int) := IntWalk.i64_in _ (by omega)
      clear hmk
      have hkn : (k : Int) < (n : Int) := by omega
      have Hj := Lib.hid hj
      clear hS a1 hj
      go_wp2_with (at_builtin; refine wpList_append_sl Einti rfl (.tmp 46) (.tmp 51) rfl rfl (A1.out.pull3.alloc' _) (by rfl) (Rd.one' _ _ (.int .i64 ((m : Int) - (k : Int))) (b := wr.heap.size) (by simp)) (by simp [Value.oneCell']) (by unfold maxLen; omega) (by omega) ?_; intro ao2 cap2 w3 hS2; rw [Hmk.out] at hS2; have hP := hS2.pull3; have d0 := hP.cell 0 rfl; have d1 := hP.cell 1 rfl; have g0 := hP.free 0; have g1 := hP.free 1; have H3 := Lib.hid hP; clear hS2 hP)
      go_roundw
      case rel =>
        refine ⟨k + 1, by omega, by go_num, ?_⟩
        refine (Sat.exI (F := emp) (.slice ao2 (k + 1) cap2) ((H3.out.store 1 (.slice ao2 (k + 1) cap2)).cast ?_)).cast (sep_emp _)
        rw [sep_emp, newF_succ, List.map_append, ← Hj.out]
        simp only [List.set_cons_succ, List.set_cons_zero, List.map_cons, List.map_nil]
        ac_rfl
      case measure => simp [intOf]; omega
    · obtain rfl : k = n := by omega
      have HS := Lib.hid hS
      clear hS
      go_wp2
      go_ret2
      refine ⟨q, rfl, ?_⟩
      obtain ⟨v, hv⟩ := (HS.out.cast (sep_emp _).symm).exE
      have hv := hv.cast (sep_emp _)
      obtain ⟨fo, fcap, rfl⟩ := hv.pull3.rd.len
      refine TblIs.shut (s := ⟨g, k, fo, fcap⟩) ⟨hok.out, hv.cast ?_⟩
      simp only [tblB, tblL, tblF, TblS.lv, TblS.fv, newL_n, List.length_replicate, newF_len]

end
end Go.Proofs.YtdbppfcilaajaaaGreat.Ag

namespace Go.Proofs.YtdbppfcilaajaaaGreat.Gt
open Go.RowKit Ag
set_option linter.unusedVariables false

abbrev gtB (h p : Nat) : Hp := pc h 157 [vp p]
section
variable {w0 w : World} {F : Hp} {h p : Nat} {ps : List Pl} {free : List Nat}
theorem gt_none (hS : Sat w0 (gtB h p * F) w) : Calls Tryz.prog 75 #[vp h] w fun e w' => e = .returned (.bool false) ∧ w = w' := by
  have c0 := hS.cell 0 rfl
  clear hS
  go_enter Tryz.func75, Tryz.ntmps75
  go_wp2
  go_ret
  exact ⟨rfl, rfl⟩
theorem gt_new (n : Nat) (hn : 1 ≤ n) (hn' : n ≤ 64) (hS : Sat w0 F w) : Calls Tryz.prog 35 #[vi n] w fun e w' => ∃ h p, e = .returned (.tuple #[vp h, vi 0]) ∧ Sat w0 (gtB h p * (tblP p (List.replicate n ⟨1, false, false, ez⟩) (newF n n) * F)) w' := by
  have HN := Lib.hid (new_ n 1 hn (by omega) (by omega) (by omega) hS)
  have h1 : ¬ ((n : Int) < 1) := by omega
  have h2 : ¬ (64 < (n : Int)) := by omega
  clear hS
  go_enter Tryz.func35, Tryz.ntmps35
  go_wp2_with (go_at_call 91; refine HN.out.mono ?_; rintro e w1 ⟨p, rfl, hS1⟩; have H1 := Lib.hid hS1; clear hS1)
  go_ret2
  exact ⟨_, p, rfl, H1.out.alloc (.cells #[vp p] 157)⟩
end
end Go.Proofs.YtdbppfcilaajaaaGreat.Gt

namespace Go.Proofs.YtdbppfcilaajaaaGreat
open Go.RowKit
theorem wpQuiet_load_row {P : Program} {ops : Array Oper} {C : World → Prop} {Q : Act → Prop} {o : Oper} {rest : List Oper} {a : Act} (hw : Region.wanted o (yielded ops a.tmps) = true) (ty : TypeId) (x : Operand) (ho : o.op = .load ty x)
    (b off : Nat) (hx : a.eval x = .pointer (some ⟨b, off, none⟩)) (cs : List Value) (d : TypeDesc) (hc : ∀ w, C w → w.rangeAt b off cs)
    (hu : P.underlying ty = some d) (hd : d.isRow = true) (hi : (P.info? ty).map (·.size) = some cs.length)
    (h : wpQuiet P ops C Q rest (a.put o.dst (.agg cs.toArray))) : wpQuiet P ops C Q (o :: rest) a :=
  BigFrame.wpQuiet_want hw fun K hK => ⟨.agg cs.toArray, fun w hC => by
    unfold Oper.quietAt execOp
    simp only [ho, hx, Instr.loadAt, Instr.sureAddr, Sem.run_bind, Sem.run_pure, Result.andThen_ok, run_loadVar_mid w b off ty cs d (hc w hC) hu hd hi, Oper.quietUpon]
    exact ⟨trivial, trivial⟩, hK _ h⟩
end Go.Proofs.YtdbppfcilaajaaaGreat

namespace Go.Proofs.YtdbppfcilaajaaaGreat.Gt
open Go.RowKit Ag
set_option linter.unusedVariables false

section
variable {w0 w : World} {F : Hp} {h p : Nat} {ps : List Pl} {free : List Nat}
set_option maxRecDepth 100000 in
set_option maxHeartbeats 2000000 in
theorem gt_get (hS : Sat w0 (gtB h p * (tblP p ps free * F)) w) (i g : Int) : Calls Tryz.prog 81 #[vp h, vr i g] w fun e w' => e = .returned (.tuple #[ev (getX ps i g), vi (getE ps i g)]) ∧ Sat w0 (gtB h p * (tblP p ps free * F)) w' := by
  have hB0 := ((hS.alloc (.cells #[vi i, vu g] 30)).alloc (elO ez))
  rw [size1] at hB0
  have hB : Sat w0 (elB (w.heap.size + 1) ez * (pc w.heap.size 30 [vi i, vu g] * (gtB h p * (tblP p ps free * F)))) ((w.alloc (.cells #[vi i, vu g] 30)).alloc (elO ez)) := hB0
  have HN := Lib.hid (gt_none hB.pull3)
  have HG := Lib.hid (get_ (hB.drew.pull4) i g)
  have HB := Lib.hid hB
  clear hB hB0 hS
  generalize hwb : (w.alloc (.cells #[vi i, vu g] 30)).alloc (elO ez) = wb at *
  generalize hb1 : w.heap.size + 1 = bx at *
  generalize hb2 : w.heap.size = b2 at *
  have HW := Lib.hid hwb
  have HB1 := Lib.hid hb1
  have HB2 := Lib.hid hb2
  clear hwb hb1 hb2
  generalize getX ps i g = x at *
  generalize getE ps i g = er at *
  go_enter Tryz.func81, Tryz.ntmps81
  go_wp2_with fail
  rw [HW.out, HB2.out, HB1.out]
  refine HN.out.mono ?_
  rintro e w' ⟨rfl, rfl⟩
  go_wp2
  have hS0 : (fun w' => w'.cell? ⟨h, 0, none⟩ = some (vp p) ∧ w'.cell? ⟨b2, 0, none⟩ = some (vi i) ∧ w'.cell? ⟨b2, 1, none⟩ = some (vu g)) wb.drew := ⟨HB.out.drew.pull3.cell 0 rfl, HB.out.drew.pull2.cell 0 rfl, HB.out.drew.pull2.cell 1 rfl⟩
  refine wp_region_held (S := fun w' => w'.cell? ⟨h, 0, none⟩ = some (vp p) ∧ w'.cell? ⟨b2, 0, none⟩ = some (vi i) ∧ w'.cell? ⟨b2, 1, none⟩ = some (vu g)) (by kernel_rfl) ?_
  change wpAnyH _ _ _ _ _ _ _ _ (World.drew _)
  refine wpAnyH_take (i := 0) (v := vp h) rfl (by kernel_rfl) (by kernel_rfl) (by kernel_rfl) (fun _ _ _ h => h) (Or.inl ⟨by rfl, fun w' hw' => by go_simp⟩) hS0 ?_
  simp only [Act.put, List.setIfInBounds_toArray, List.set_cons_zero, List.set_cons_succ]
  refine wpAnyH_take (i := 1) (v := vp h) rfl (by kernel_rfl) (by kernel_rfl) (by kernel_rfl) (fun _ _ _ h => h) (Or.inl ⟨by rfl, fun w' hw' => by go_simp⟩) hS0 ?_
  simp only [Act.put, List.setIfInBounds_toArray, List.set_cons_zero, List.set_cons_succ]
  refine wpAnyH_take (i := 2) (v := (.pointer (some ⟨h, 0, none⟩))) rfl (by kernel_rfl) (by kernel_rfl) (by kernel_rfl) (fun _ _ _ h => h) (Or.inl ⟨by rfl, fun w' hw' => by go_simp⟩) hS0 ?_
  simp only [Act.put, List.setIfInBounds_toArray, List.set_cons_zero, List.set_cons_succ]
  refine wpAnyH_take (i := 3) (v := vp p) rfl (by kernel_rfl) (by kernel_rfl) (by kernel_rfl) (fun _ _ _ h => h) (Or.inl ⟨by rfl, fun w' hw' => by (have h1 := hw'.1; go_simp)⟩) hS0 ?_
  simp only [Act.put, List.setIfInBounds_toArray, List.set_cons_zero, List.set_cons_succ]
  refine wpAnyH_take (i := 4) (v := vr i g) rfl (by kernel_rfl) (by kernel_rfl) (by kernel_rfl) (fun _ _ _ h => h) (Or.inl ⟨by rfl, fun w' hw' => by (have h1 := hw'.2.1; have h2 := hw'.2.2; go_simp)⟩) hS0 ?_
  simp only [Act.put, List.setIfInBounds_toArray, List.set_cons_zero, List.set_cons_succ]
  refine wpAnyH_ready (rs := [5]) (by kernel_rfl) (by simp) ?_
  refine AllReadyH.cons rfl (fun K hK => ?_) AllReadyH.nil
  go_simp
  refine HG.out.mono ?_
  rintro e w1 ⟨rfl, hS1⟩
  have HX := Lib.hid hS1.pull2
  have hS1' : (fun w' => w'.cell? ⟨h, 0, none⟩ = some (vp p) ∧ w'.cell? ⟨b2, 0, none⟩ = some (vi i) ∧ w'.cell? ⟨b2, 1, none⟩ = some (vu g)) w1 := ⟨HX.out.pull4.cell 0 rfl, HX.out.pull3.cell 0 rfl, HX.out.pull3.cell 1 rfl⟩
  clear hS1
  refine hK.out _ _ hS1' (fun _ => ?_)
  try simp only [Act.put, List.setIfInBounds_toArray, List.set_cons_zero, List.set_cons_succ]
  refine wpAnyH_take (i := 6) (v := ev x) rfl (by kernel_rfl) (by kernel_rfl) (by kernel_rfl) (fun _ _ _ h => h) (Or.inl ⟨by rfl, fun w' hw' => by go_simp⟩) hS1' ?_
  simp only [Act.put, List.setIfInBounds_toArray, List.set_cons_zero, List.set_cons_succ]
  refine wpAnyH_take (i := 7) (v := vi er) rfl (by kernel_rfl) (by kernel_rfl) (by kernel_rfl) (fun _ _ _ h => h) (Or.inl ⟨by rfl, fun w' hw' => by go_simp⟩) hS1' ?_
  simp only [Act.put, List.setIfInBounds_toArray, List.set_cons_zero, List.set_cons_succ]
  refine wpAnyH_ready (rs := [8]) (by kernel_rfl) (by simp) ?_
  refine AllReadyH.cons rfl (fun K' hK' => ?_) AllReadyH.nil
  rw [if_pos (by rfl)]
  have hth := there_ (n := 19) HX.out rfl
  have hrg := World.rangeAt_setCells_same w1 bx 0 (elC x) hth
  have hst : Sat w0 _ (w1.setCells bx 0 (elC x)) := HX.out.stores (elC x) 0
  refine wp_store_mid 134 _ _ rfl bx 0 (elC x).toArray (by rfl) (by rfl) hth einfo (all_oneCell_toArray (elOne x)) ?_
  have hst2 : Sat w0 _ (w1.setCells bx 0 (elC x).toArray.toList) := hst
  have hrg : (w1.setCells bx 0 (elC x).toArray.toList).rangeAt bx 0 (elC x) := hrg
  generalize w1.setCells bx 0 (elC x).toArray.toList = w2 at *
  have HX2 := Lib.hid hst2
  have hS2 : (fun w' => w'.cell? ⟨h, 0, none⟩ = some (vp p) ∧ w'.cell? ⟨b2, 0, none⟩ = some (vi i) ∧ w'.cell? ⟨b2, 1, none⟩ = some (vu g)) w2 := ⟨HX2.out.pull4.cell 0 rfl, HX2.out.pull3.cell 0 rfl, HX2.out.pull3.cell 1 rfl⟩
  clear hst hst2 hth
  refine hK'.out _ _ hS2 (fun _ => ?_)
  try simp only [Act.put, List.setIfInBounds_toArray, List.set_cons_zero, List.set_cons_succ]
  refine wpAnyH_ready (rs := [9]) (by kernel_rfl) (by simp) ?_
  refine AllReadyH.cons rfl (fun K'' hK'' => ?_) AllReadyH.nil
  go_simp
  refine hK''.out _ _ hS2 (fun _ => ?_)
  try simp only [Act.put, List.setIfInBounds_toArray, List.set_cons_zero, List.set_cons_succ]
  refine wpAnyH_done (by kernel_rfl) ?_ _
  clear hS0 hS1' hS2 hK hK' hK''
  go_wp2
  (try simp only [Exit.inBlock, Exit.then])
  refine bodyPost_ret (v := .tuple #[ev x, vi er]) (results_row rfl _ _ _ rfl rfl hrg Tryz.underlying134 rfl einfo) rfl ?_
  exact ⟨rfl, HX2.out.dropL.pull2.dropL.pull2⟩
end
end Go.Proofs.YtdbppfcilaajaaaGreat.Gt
