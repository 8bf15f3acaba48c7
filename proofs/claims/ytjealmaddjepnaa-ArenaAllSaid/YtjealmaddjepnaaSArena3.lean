/-
  Contracts of package arena: Put, Drop, At, Retired. No statement is proved here.
-/
import Derived.Test.YtjealmaddjepnaaSArena2
import Derived.Deep.RegionLaw
namespace Go.Proofs.Ytjealmaddjepnaa
open Go.RowKit
namespace As
set_option linter.unusedVariables false

section
variable {w0 w : World} {p : Nat} {s : TblS} {ps : List Pl} {free : List Nat} {F : Hp}

set_option maxRecDepth 100000 in
set_option maxHeartbeats 2000000 in
theorem put_come {k : Nat} {a : Pl} (h : TblIs w0 p s ps (free ++ [k]) F w) (hk : ps[k]? = some a) (x : El) :
    Calls Try.prog 20 #[vp p, ev x] w fun e w' => e = .returned (.tuple #[vr k a.gen, vi 0]) ∧ Sat w0 (tblP p (ps.set k { a with there := true, x := x }) free * F) w' := by
  have hok := Lib.hid (h.ok.come hk x)
  have hsm := h.ok.fsmall
  obtain ⟨n, hn⟩ : ∃ n, n = free.length := ⟨_, rfl⟩
  obtain ⟨m, hm⟩ : ∃ m, m = (free ++ [k]).length := ⟨_, rfl⟩
  have hmn : m = n + 1 := by rw [hm, hn]; simp
  have hsm' : m ≤ 4096 := hm ▸ hsm
  obtain ⟨fa, hfa⟩ : ∃ fa, s.fo = some ⟨fa, 0, none⟩ := by
    rcases h.sat.pull3.slE.2 with ⟨_, h0, _⟩ | ⟨g, c, cur, hv, _⟩
    · simp at h0
    · injection hv with h1 h2 h3
      exact ⟨g, h1⟩
  have hB : Sat w0 (pc w.heap.size 35 [vi 0, vu 0] * (tblB p s ps.length (free ++ [k]).length * (tblL s ps * (tblF s (free ++ [k]) * F)))) (w.alloc (.cells #[vi 0, vu 0] 35)) := h.sat.alloc (.cells #[vi 0, vu 0] 35)
  simp only [tblB, tblF, TblS.fv, hfa, ← hm] at hB
  have hgs := h.ok.gens _ _ hk
  have hkl : k < ps.length := (List.getElem?_eq_some_iff.1 hk).1
  have hsml := h.ok.small
  have hI := h.alloc (.cells #[vi 0, vu 0] 35)
  have H := Lib.hid (none_ hI)
  have c0 := hI.c0
  have c1 : (w.alloc (.cells #[vi 0, vu 0] 35)).cell? ⟨p, 1, none⟩ = some (.slice (some ⟨fa, 0, none⟩) m s.fcap) := by
    have := hI.c1
    rw [hfa, ← hm] at this
    exact this
  have e0 := hI.at_ (j := 0) hk rfl
  rw [Nat.add_zero] at e0
  have e1 := hI.at_ (j := 1) hk rfl
  have e3 := hI.at_ (j := 3) hk rfl
  have b0 := hB.cell 0 rfl
  have b1 := hB.cell 1 rfl
  have bf0 := hB.free 0
  have bf1 := hB.free 1
  have fr0 := hI.free_ 0
  have fr1 := hI.free_ 1
  have lf0 := hI.lfree (k * 4 + 0)
  have lf1 := hI.lfree (k * 4 + 1)
  have lf3 := hI.lfree (k * 4 + 3)
  have hP4 := hB.pull4
  have hfree : (w.alloc (.cells #[vi 0, vu 0] 35)).cell? ⟨fa, n, none⟩ = some (vi k) := hP4.slCell n (by rw [List.getElem?_map, hn]; simp)
  have hcap := hP4.slCap
  have hpa : p ≠ s.a := hI.sat.slNe
  have hbp : w.heap.size ≠ p := hB.ne
  have hba : w.heap.size ≠ s.a := by
    have := hB.drop2
    exact this.slNe
  have hpf : p ≠ fa := hB.dropL.drop2.slNe
  have hbf : w.heap.size ≠ fa := hB.drop3.drop2.slNe
  have haf : s.a ≠ fa := hB.dropL.dropL.slNe2
  have HB := Lib.hid hB
  have Hn := Lib.hid hn
  have Hm := Lib.hid hm
  have Hfa := Lib.hid hfa
  have HGS := Lib.hid hgs
  obtain ⟨gen, there, retired, y⟩ := a
  simp only at e0 e1 e3 ⊢
  have Hk := Lib.hid hk
  have hm0 : ((m : Int) == 0) = false := beq_eq_false_iff_ne.2 (by omega)
  have hw : IntKind.i64.wrap ((m : Int) - 1) = (n : Int) := by rw [IntWalk.i64_in _ (by omega)]; omega
  have hnm : (n : Int) < (m : Int) := by omega
  have hnc : (n : Int) ≤ (s.fcap : Int) := by omega
  have hnc' : n ≤ s.fcap := by omega
  have hkl' : (k : Int) < (ps.length : Int) := by omega
  generalize hwb : w.alloc (.cells #[vi 0, vu 0] 35) = wb at *
  have HW := Lib.hid hwb
  generalize hbx : w.heap.size = bx at *
  have HBX := Lib.hid hbx
  clear hwb hbx h hB hI hn hm hfa hgs hk hP4 hcap hsm
  go_enter Try.func20, Try.ntmps20
  go_wp2_with fail
  rw [HW.out, HBX.out]
  refine H.out.mono ?_
  rintro e w' ⟨rfl, rfl⟩
  go_wp2
  (try simp only [Exit.inBlock, Exit.then])
  refine bodyPost_ret (v := .tuple #[vr k gen, vi 0]) (by rw [results_cell_tmp rfl]; go_simp) rfl ?_
  refine ⟨rfl, ?_⟩
  have a2 := (HB.out.pull2.store 1 (.slice (some ⟨fa, 0, none⟩) n n)).pull3.slStore (k * 4 + 1) (by omega) (.bool true)
  rw [flat_set Pl.len ps k 1 _ ⟨gen, true, retired, y⟩ (.bool true) Hk.out (by omega) rfl] at a2
  have a3 := a2.slStore (k * 4 + 3) (by omega) (ev x)
  rw [flat_set Pl.len _ k 3 (⟨gen, true, retired, y⟩ : Pl) ⟨gen, true, retired, x⟩ (ev x) (get_set_self Hk.out _) (by omega) rfl, List.set_set] at a3
  have a7 := ((a3.pull3.store 0 (vi k)).store 1 (vu gen)).dropL.pull3.slCut n (by omega)
  refine TblIs.shut (s := ⟨s.a, s.cap, some ⟨fa, 0, none⟩, n⟩) ⟨hok.out, ?_⟩
  refine a7.cast ?_
  have hl : (ps.set k (⟨gen, true, retired, x⟩ : Pl)).length = ps.length := List.length_set
  have hx : ((free ++ [k]).map fun k : Nat => vi k).take (n * 1) = free.map fun k : Nat => vi k := by
    rw [Nat.mul_one, List.map_append, Hn.out, List.take_left' (by simp)]
  rw [hx]
  simp only [tblB, tblL, tblF, TblS.lv, TblS.fv, hl, ← Hn.out, List.set_cons_succ, List.set_cons_zero]
  ac_rfl
def dropE (ps : List Pl) (i g : Int) : Int := getE ps i g

theorem put_no (h : Sat w0 (tblP p ps [] * F) w) (x : El) :
    Calls Try.prog 20 #[vp p, ev x] w fun e w' => e = .returned (.tuple #[vr 0 0, vi 3]) ∧ Sat w0 (tblP p ps [] * F) w' := by
  obtain ⟨s, hs⟩ := open_ h
  exact put_full hs x
theorem put_yes {k : Nat} {a : Pl} (h : Sat w0 (tblP p ps (free ++ [k]) * F) w) (hk : ps[k]? = some a) (x : El) :
    Calls Try.prog 20 #[vp p, ev x] w fun e w' => e = .returned (.tuple #[vr k a.gen, vi 0]) ∧ Sat w0 (tblP p (ps.set k { a with there := true, x := x }) free * F) w' := by
  obtain ⟨s, hs⟩ := open_ h
  exact put_come hs hk x

/-- What is there behind a drop: the places, the free ones. -/
def dropped (ps : List Pl) (free : List Nat) (i g : Int) : List Pl × List Nat := match isAt ps i g with
  | none => (ps, free)
  | some (k, a) => if a.gen = 18446744073709551614 then (ps.set k { a with there := false, retired := true, x := ez }, free)
    else (ps.set k { a with gen := a.gen + 1, there := false, x := ez }, free ++ [k])

set_option maxRecDepth 100000 in
set_option maxHeartbeats 4000000 in
theorem drop_ (h : Sat w0 (tblP p ps free * F) w) (i g : Int) :
    Calls Try.prog 21 #[vp p, vr i g] w fun e w' => e = .returned (vi (getE ps i g)) ∧ Sat w0 (tblP p (dropped ps free i g).1 (dropped ps free i g).2 * F) w' := by
  obtain ⟨s, hs⟩ := open_ h
  have hI : TblIs w0 p s ps free (pc w.heap.size 35 [vi i, vu g] * F) (w.alloc (.cells #[vi i, vu g] 35)) := ⟨hs.ok, by
    have : Sat w0 (pc w.heap.size 35 [vi i, vu g] * (tblB p s ps.length free.length * (tblL s ps * (tblF s free * F)))) (w.alloc (.cells #[vi i, vu g] 35)) := hs.sat.alloc (.cells #[vi i, vu g] 35)
    refine this.cast ?_
    generalize tblB p s ps.length free.length = A
    generalize tblL s ps = B
    generalize tblF s free = C
    ac_rfl⟩
  unfold getE dropped
  cases hA : isAt ps i g with
  | none =>
    have H := Lib.hid (find_no hI hA)
    have hA' := Lib.hid hA
    clear h hI hA hs
    go_enter Try.func21, Try.ntmps21
    go_wp2_with (go_at_call 40; refine H.out.mono ?_; rintro e w' ⟨rfl, hT⟩)
    go_ret
    exact ⟨rfl, hT.shut.drop2⟩
  | some ka =>
    obtain ⟨k, a⟩ := ka
    have H := Lib.hid (find_yes hI hA)
    have ha := isAt_some hA
    have hlt : k < ps.length := (List.getElem?_eq_some_iff.1 ha.1).1
    have HA := Lib.hid ha.1
    have hik := ha.2.1
    have hth := ha.2.2.1
    have hgs := hs.ok.gens _ _ ha.1
    have hfs := hs.ok.fsmall
    have hA' := Lib.hid hA
    have hOK := Lib.hid hs.ok
    have hRe := Lib.hid (hs.ok.retire ha.1 hth)
    subst hik
    generalize hbx : w.heap.size = bx at *
    have HBX := Lib.hid hbx
    clear h hA ha hs hbx hI
    obtain ⟨gen, there, retired, y⟩ := a
    simp only at hth hgs hRe
    subst hth
    by_cases hg : gen = 18446744073709551614
    · subst hg
      simp only [if_true]
      clear hgs hOK
      go_enter Try.func21, Try.ntmps21
      go_wp2_with (go_at_call 40; refine H.out.mono ?_; rintro e w1 ⟨rfl, hT⟩; have c0 := hT.at_ (j := 0) HA.out rfl; rw [Nat.add_zero] at c0; have c1 := hT.at_ (j := 1) HA.out rfl; have c2 := hT.at_ (j := 2) HA.out rfl; have c3 := hT.at_ (j := 3) HA.out rfl; have f1 := hT.lfree (k * 4 + 1); have f2 := hT.lfree (k * 4 + 2); have f3 := hT.lfree (k * 4 + 3); have HT := Lib.hid hT; clear hT)
      go_ret
      refine ⟨rfl, ?_⟩
      have a1 := HT.out.sat.pull2.slStore (k * 4 + 1) (by omega) (.bool false)
      rw [flat_set Pl.len ps k 1 _ ⟨_, false, retired, y⟩ (.bool false) HA.out (by omega) rfl] at a1
      have a2 := a1.slStore (k * 4 + 3) (by omega) (ev ez)
      rw [flat_set Pl.len _ k 3 (⟨_, false, retired, y⟩ : Pl) ⟨_, false, retired, ez⟩ (ev ez) (get_set_self HA.out _) (by omega) rfl, List.set_set] at a2
      have a3 := a2.slStore (k * 4 + 2) (by omega) (.bool true)
      rw [flat_set Pl.len _ k 2 (⟨_, false, retired, ez⟩ : Pl) ⟨_, false, true, ez⟩ (.bool true) (get_set_self HA.out _) (by omega) rfl, List.set_set] at a3
      have hT' : TblIs w0 p s _ free (pc bx 35 [vi k, vu g] * F) _ := ⟨hRe.out, a3.pull2.cast (by simp only [tblB, tblL, List.length_set])⟩
      exact hT'.shut.drop2
    · have hgb : (gen == 18446744073709551614) = false := beq_eq_false_iff_ne.2 hg
      have hGo := Lib.hid (hOK.out.go HA.out rfl hg)
      have hw : IntKind.u64.wrap (gen + 1) = gen + 1 := IntWalk.u64_in _ (by omega)
      simp only [if_neg hg]
      clear hgs
      go_enter Try.func21, Try.ntmps21
      go_wp2_with (go_at_call 40; refine H.out.mono ?_; rintro e w1 ⟨rfl, hT⟩; have c0 := hT.at_ (j := 0) HA.out rfl; rw [Nat.add_zero] at c0; have c1 := hT.at_ (j := 1) HA.out rfl; have c2 := hT.at_ (j := 2) HA.out rfl; have c3 := hT.at_ (j := 3) HA.out rfl; have f0 := hT.lfree (k * 4); have f1 := hT.lfree (k * 4 + 1); have f3 := hT.lfree (k * 4 + 3); have HT := Lib.hid hT; clear hT)
      have a1 := HT.out.sat.pull2.slStore (k * 4 + 1) (by omega) (.bool false)
      rw [flat_set Pl.len ps k 1 _ ⟨gen, false, retired, y⟩ (.bool false) HA.out (by omega) rfl] at a1
      have a2 := a1.slStore (k * 4 + 3) (by omega) (ev ez)
      rw [flat_set Pl.len _ k 3 (⟨gen, false, retired, y⟩ : Pl) ⟨gen, false, retired, ez⟩ (ev ez) (get_set_self HA.out _) (by omega) rfl, List.set_set] at a2
      have a3 := a2.slStore (k * 4 + 0) (by omega) (vu (gen + 1))
      rw [flat_set Pl.len _ k 0 (⟨gen, false, retired, ez⟩ : Pl) ⟨gen + 1, false, retired, ez⟩ (vu (gen + 1)) (get_set_self HA.out _) (by omega) rfl, List.set_set] at a3
      obtain ⟨wc, hwc⟩ : ∃ wc, wc = (((w1.setCell ⟨s.a, k * 4 + 1, none⟩ (.bool false)).setCell ⟨s.a, k * 4 + 3, none⟩ (ev ez)).setCell ⟨s.a, k * 4, none⟩ (.int .u64 (gen + 1))) := ⟨_, rfl⟩
      have a4 : Sat w0 (tblB p s ps.length free.length * (sl 89 4 (s.lv ps.length) ps.length (flat (ps.set k ⟨gen + 1, false, retired, ez⟩)) * (tblF s free * (pc bx 35 [vi k, vu g] * F)))) wc := hwc ▸ a3.pull2
      rw [HBX.out]
      have hgoal := hwc.symm
      clear a1 a2 a3
      rw [show (((w1.setCell ⟨s.a, k * 4 + 1, none⟩ (.bool false)).setCell ⟨s.a, k * 4 + 3, none⟩ (.string ⟨#[]⟩)).setCell ⟨s.a, k * 4, none⟩ (.int .u64 (gen + 1))) = wc from hgoal]
      clear hwc hgoal H HBX c0 c1 c2 c3 f0 f1 f3 hw hgb HT hA' HA
      have d1 : wc.cell? ⟨p, 1, none⟩ = some (.slice s.fo free.length s.fcap) := a4.cell 1 rfl
      have d2 := a4.free 1
      have d3 := a4.pull4.cell 0 rfl
      have n1 := World.new_ne wc _ d1
      have n2 := World.new_ne wc _ d3
      have l1 := a4.lt
      have l2 := a4.pull4.lt
      have A4 := Lib.hid a4
      clear a4
      go_region_law
        ((refine step_append_sl Einti (by rfl) _ _ (by rfl) (by rfl) ((A4.out.pull3.alloc' _).drew) (by rfl) (Rd.one _ _ _) (by simp [Value.oneCell']) (by unfold maxLen; omega) (by omega) ?_; intro ao' cap' w2 hS2; have hP1 := hS2.pull2; have hF1 := hP1.free 1; have hC1 := hP1.cell 1 rfl))
      all_goals go_wp2
      all_goals go_ret
      all_goals refine ⟨rfl, ?_⟩
      all_goals have b1 := hP1.store 1 (.slice ao' (free.length + 1) cap')
      all_goals refine Sat.drop2 (A := tblP p (ps.set k ⟨gen + 1, false, retired, ez⟩) (free ++ [k])) (B := pc bx 35 [vi k, vu g]) (TblIs.shut (s := ⟨s.a, s.cap, ao', cap'⟩) ⟨hGo.out, b1.cast ?_⟩)
      all_goals (
        have hl : (ps.set k (⟨gen + 1, false, retired, ez⟩ : Pl)).length = ps.length := List.length_set
        simp only [tblB, tblL, tblF, TblS.lv, TblS.fv, hl, List.set_cons_succ, List.set_cons_zero, List.length_append, List.length_cons, List.length_nil, Nat.zero_add, List.map_append, List.map_cons, List.map_nil]
        ac_rfl)
end
end As
end Go.Proofs.Ytjealmaddjepnaa
