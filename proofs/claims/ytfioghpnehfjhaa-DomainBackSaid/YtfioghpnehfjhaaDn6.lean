/-
  Package domain: New, Carve. No statement is proved here.
-/
import Derived.Test.YtfioghpnehfjhaaDn3
namespace Go.Proofs.Ytfioghpnehfjhaa.Dm
open Go.RowKit Ad
set_option linter.unusedVariables false
set_option linter.unusedSimpArgs false

/-- A new domain. -/
abbrev domX (i g gs cpu per : Int) : El := ⟨i, g, gs, cpu, per, 0, 0, 0, 0, 0, 0⟩
def rootL (n : Nat) (gs cpu per : Int) : List Pl := (List.replicate n ⟨1, false, false, ez⟩).set 0 ⟨1, true, false, domX 0 0 gs cpu per⟩
theorem newF_last (n : Nat) (h : 1 ≤ n) : newF n n = newF n (n - 1) ++ [0] := by
  obtain ⟨m, rfl⟩ : ∃ m, n = m + 1 := ⟨n - 1, by omega⟩
  rw [Nat.add_sub_cancel, newF_succ]
  simp
/-- What is said of a domain's books. -/
def DomOk (x : El) : Prop := 0 ≤ x.v2 ∧ x.v2 ≤ 64 ∧ 0 ≤ x.v5 ∧ x.v5 ≤ 64 ∧ 0 ≤ x.v7 ∧ x.v7 ≤ 64 ∧ 0 ≤ x.v6 ∧ x.v6 ≤ x.v3 ∧ x.v3 ≤ 4294967296 ∧ 0 ≤ x.v10 ∧ x.v10 ≤ 1000
/-- Is there room for so much more? -/
def FitsD (x : El) (gs cpu : Int) : Prop := gs ≤ x.v2 - x.v5 - x.v7 ∧ cpu ≤ x.v3 - x.v6
instance (x : El) (gs cpu : Int) : Decidable (FitsD x gs cpu) := inferInstanceAs (Decidable (_ ∧ _))
section
variable {w0 w : World} {F : Hp} {h p : Nat} {ps : List Pl} {free : List Nat}
set_option maxRecDepth 100000 in
set_option maxHeartbeats 4000000 in
theorem dm_new (n : Nat) (hn : 1 ≤ n) (hn' : n ≤ 32) (gs cpu per : Int) (hm : MayD gs cpu per) (hS : Sat w0 F w) :
    Calls Try.prog 18 #[vi n, vi gs, vu cpu, vu per] w fun e w' => ∃ h p, e = .returned (.tuple #[vp h, vi 0]) ∧ Sat w0 (domB h p * (tblP p (rootL n gs cpu per) (newF n (n - 1)) * F)) w' := by
  have HM := Lib.hid (fun w => dm_may gs cpu per w)
  rw [decide_eq_true hm] at HM
  have HN := Lib.hid (new_ n 1 hn (by omega) (by omega) (by omega) hS)
  rw [newF_last n hn] at HN
  have HP : Hid (∀ (p : Nat) (w1 : World), Sat w0 (tblP p (List.replicate n ⟨1, false, false, ez⟩) (newF n (n - 1) ++ [0]) * F) w1 → Calls Try.prog 46 #[vp p, ev (domX 0 0 gs cpu per)] w1 fun e w' => e = .returned (.tuple #[vr 0 1, vi 0]) ∧ Sat w0 (tblP p (rootL n gs cpu per) (newF n (n - 1)) * F) w') := Lib.hid fun p w1 h1 => put_yes h1 (k := 0) (a := ⟨1, false, false, ez⟩) (by rw [List.getElem?_replicate, if_pos (by omega)]) _
  have h1 : ¬ ((n : Int) < 1) := by omega
  have h2 : ¬ (32 < (n : Int)) := by omega
  clear hS hm
  generalize rootL n gs cpu per = L at *
  go_enter Try.func18, Try.ntmps18
  go_wp2_with (first
    | (go_at_call 44; refine (HM.out _).mono ?_; rintro e w' ⟨rfl, rfl⟩)
    | (go_at_call 45; refine HN.out.mono ?_; rintro e w1 ⟨p, rfl, hS1⟩; have H1 := Lib.hid hS1; clear hS1)
    | (go_at_call 46; refine (HP.out _ _ H1.out).mono ?_; rintro e w2 ⟨rfl, hS2⟩; have hB := hS2.alloc (.cells #[vi 0, vu 1] 32); have hB2 := hB.dropL.alloc (.cells #[vp p, vi 0, vu 1] 94); rw [size1] at hB2; have c0 := hB.cell 0 rfl; have c1 := hB.cell 1 rfl; have H2 := Lib.hid hB2; clear hS2 hB hB2))
  go_ret2
  exact ⟨_, p, rfl, H2.out⟩
theorem dm_new_no (n gs cpu per : Int) (hm : n < 1 ∨ 32 < n ∨ ¬ MayD gs cpu per) (w : World) :
    Calls Try.prog 18 #[vi n, vi gs, vu cpu, vu per] w fun e w' => e = .returned (.tuple #[.pointer none, vi 2]) ∧ w = w' := by
  have HM := Lib.hid (fun w => dm_may gs cpu per w)
  by_cases h1 : n < 1
  · clear hm
    go_enter Try.func18, Try.ntmps18
    go_wp2
    go_ret2
    exact ⟨rfl, rfl⟩
  · by_cases h2 : 32 < n
    · clear hm
      go_enter Try.func18, Try.ntmps18
      go_wp2
      go_ret2
      exact ⟨rfl, rfl⟩
    · rw [decide_eq_false ((hm.resolve_left h1).resolve_left h2)] at HM
      clear hm
      go_enter Try.func18, Try.ntmps18
      go_wp2_with (go_at_call 44; refine (HM.out _).mono ?_; rintro e w' ⟨rfl, rfl⟩)
      go_ret2
      exact ⟨rfl, rfl⟩
set_option maxRecDepth 100000 in
set_option maxHeartbeats 4000000 in
theorem carve_arg (hS : Sat w0 (domB h p * (tblP p ps free * F)) w) (i g gs cpu per : Int) (hm : ¬ MayD gs cpu per) :
    Calls Try.prog 32 #[vp h, vr i g, vi gs, vu cpu, vu per] w fun e w' => e = .returned (.tuple #[vr 0 0, vi 2]) ∧ Sat w0 (domB h p * (tblP p ps free * F)) w' := by
  have HM := Lib.hid (fun w => dm_may gs cpu per w)
  rw [decide_eq_false hm] at HM
  clear hm
  have hB0 := (((hS.alloc (.cells #[vi i, vu g] 32)).alloc (.cells #[vi gs] 3)).alloc (.cells #[vu cpu] 22)).alloc (.cells #[vi 0, vu 0] 32)
  simp only [size1] at hB0
  have HSZ : Hid (w.heap.size = w.heap.size) := Lib.hid rfl
  have hB : Sat w0 (pc (w.heap.size + 3) 32 [vi 0, vu 0] * (pc (w.heap.size + 2) 22 [vu cpu] * (pc (w.heap.size + 1) 3 [vi gs] * (pc w.heap.size 32 [vi i, vu g] * (domB h p * (tblP p ps free * F)))))) ((((w.alloc (.cells #[vi i, vu g] 32)).alloc (.cells #[vi gs] 3)).alloc (.cells #[vu cpu] 22)).alloc (.cells #[vi 0, vu 0] 32)) := hB0
  clear hB0 hS
  have HB0 : Hid (∃ b0, b0 = w.heap.size) := Lib.hid ⟨_, rfl⟩
  generalize hwb : (((w.alloc (.cells #[vi i, vu g] 32)).alloc (.cells #[vi gs] 3)).alloc (.cells #[vu cpu] 22)).alloc (.cells #[vi 0, vu 0] 32) = wb at *
  generalize hb0 : w.heap.size = b0 at *
  have HW := Lib.hid hwb
  have HB0 := Lib.hid hb0
  clear hwb hb0 HSZ
  have r0 := hB.cell 0 rfl
  have r1 := hB.cell 1 rfl
  have f0 := hB.free 0
  have f1 := hB.free 1
  have cc := hB.pull2.cell 0 rfl
  have cg := hB.pull3.cell 0 rfl
  have i0 := hB.pull4.cell 0 rfl
  have i1 := hB.pull4.cell 1 rfl
  have HN := Lib.hid (dm_none (hB.cast (show _ = domB h p * (tblP p ps free * (pc (b0 + 3) 32 [vi 0, vu 0] * (pc (b0 + 2) 22 [vu cpu] * (pc (b0 + 1) 3 [vi gs] * (pc b0 32 [vi i, vu g] * F))))) by ac_rfl)))
  have HB := Lib.hid hB
  clear hB
  go_enter Try.func32, Try.ntmps32
  go_wp2_with fail
  rw [HW.out, HB0.out]
  refine HN.out.mono ?_
  rintro e w' ⟨rfl, rfl⟩
  go_wp2_with (go_at_call 44; refine (HM.out _).mono ?_; rintro e w' ⟨rfl, rfl⟩)
  (try simp only [Exit.inBlock, Exit.then])
  refine bodyPost_ret (v := .tuple #[vr 0 0, vi 2]) (by rw [results_cell_tmp rfl]; go_simp) rfl ?_
  exact ⟨rfl, ((HB.out.store 0 (vi 0)).store 1 (vu 0)).dropL.dropL.dropL.dropL⟩
set_option maxRecDepth 100000 in
set_option maxHeartbeats 4000000 in
theorem carve_stale (hS : Sat w0 (domB h p * (tblP p ps free * F)) w) (i g gs cpu per : Int) (hm : MayD gs cpu per) (he : getE ps i g = 11) :
    Calls Try.prog 32 #[vp h, vr i g, vi gs, vu cpu, vu per] w fun e w' => e = .returned (.tuple #[vr 0 0, vi 11]) ∧ Sat w0 (domB h p * (tblP p ps free * F)) w' := by
  have HM := Lib.hid (fun w => dm_may gs cpu per w)
  rw [decide_eq_true hm] at HM
  clear hm
  have hB0 := (((hS.alloc (.cells #[vi i, vu g] 32)).alloc (.cells #[vi gs] 3)).alloc (.cells #[vu cpu] 22)).alloc (.cells #[vi 0, vu 0] 32)
  simp only [size1] at hB0
  have HSZ : Hid (w.heap.size = w.heap.size) := Lib.hid rfl
  have hB : Sat w0 (pc (w.heap.size + 3) 32 [vi 0, vu 0] * (pc (w.heap.size + 2) 22 [vu cpu] * (pc (w.heap.size + 1) 3 [vi gs] * (pc w.heap.size 32 [vi i, vu g] * (domB h p * (tblP p ps free * F)))))) ((((w.alloc (.cells #[vi i, vu g] 32)).alloc (.cells #[vi gs] 3)).alloc (.cells #[vu cpu] 22)).alloc (.cells #[vi 0, vu 0] 32)) := hB0
  clear hB0 hS
  have HB0 : Hid (∃ b0, b0 = w.heap.size) := Lib.hid ⟨_, rfl⟩
  generalize hwb : (((w.alloc (.cells #[vi i, vu g] 32)).alloc (.cells #[vi gs] 3)).alloc (.cells #[vu cpu] 22)).alloc (.cells #[vi 0, vu 0] 32) = wb at *
  generalize hb0 : w.heap.size = b0 at *
  have HW := Lib.hid hwb
  have HB0 := Lib.hid hb0
  clear hwb hb0 HSZ
  have r0 := hB.cell 0 rfl
  have r1 := hB.cell 1 rfl
  have f0 := hB.free 0
  have f1 := hB.free 1
  have cc := hB.pull2.cell 0 rfl
  have cg := hB.pull3.cell 0 rfl
  have i0 := hB.pull4.cell 0 rfl
  have i1 := hB.pull4.cell 1 rfl
  have HN := Lib.hid (dm_none (hB.cast (show _ = domB h p * (tblP p ps free * (pc (b0 + 3) 32 [vi 0, vu 0] * (pc (b0 + 2) 22 [vu cpu] * (pc (b0 + 1) 3 [vi gs] * (pc b0 32 [vi i, vu g] * F))))) by ac_rfl)))
  have HB := Lib.hid hB
  clear hB
  have HG := Lib.hid (fun w1 h1 => dm_get (w := w1) (w0 := w0) (h := h) (p := p) (ps := ps) (free := free) (F := pc (b0 + 3) 32 [vi 0, vu 0] * (pc (b0 + 2) 22 [vu cpu] * (pc (b0 + 1) 3 [vi gs] * (pc b0 32 [vi i, vu g] * F)))) h1 i g)
  have HB' := Lib.hid (HB.out.cast (show _ = domB h p * (tblP p ps free * (pc (b0 + 3) 32 [vi 0, vu 0] * (pc (b0 + 2) 22 [vu cpu] * (pc (b0 + 1) 3 [vi gs] * (pc b0 32 [vi i, vu g] * F))))) by ac_rfl))
  rw [he] at HG
  clear he
  generalize getX ps i g = x at *
  obtain ⟨v0, v1, v2, v3, v4, v5, v6, v7, v8, v9, v10⟩ := x
  go_enter Try.func32, Try.ntmps32
  go_wp2_with fail
  rw [HW.out, HB0.out]
  refine HN.out.mono ?_
  rintro e w' ⟨rfl, rfl⟩
  go_wp2_with (first | (go_at_call 44; refine (HM.out _).mono ?_; rintro e w' ⟨rfl, rfl⟩) | (go_at_call 16; refine (HG.out _ HB'.out).mono ?_; rintro e w1 ⟨rfl, hS1⟩; have hT : Sat w0 (pc w1.heap.size 45 (elC ⟨v0, v1, v2, v3, v4, v5, v6, v7, v8, v9, v10⟩) * _) (w1.alloc (elO ⟨v0, v1, v2, v3, v4, v5, v6, v7, v8, v9, v10⟩)) := hS1.alloc (elO ⟨v0, v1, v2, v3, v4, v5, v6, v7, v8, v9, v10⟩); have hU : Sat w0 (pc (b0 + 3) 32 [vi 0, vu 0] * (pc (b0 + 2) 22 [vu cpu] * (pc (b0 + 1) 3 [vi gs] * (pc b0 32 [vi i, vu g] * (domB h p * (tblP p ps free * F)))))) (w1.alloc (elO ⟨v0, v1, v2, v3, v4, v5, v6, v7, v8, v9, v10⟩)) := hT.dropL.cast (by ac_rfl); have r0' := hU.cell 0 rfl; have r1' := hU.cell 1 rfl; have f0' := hU.free 0; have f1' := hU.free 1; have cc' := hU.pull2.cell 0 rfl; have cg' := hU.pull3.cell 0 rfl; have i0' := hU.pull4.cell 0 rfl; have i1' := hU.pull4.cell 1 rfl; have HU := Lib.hid hU; clear hU; have HT := Lib.hid hT; clear hS1 hT r0 r1 f0 f1 cc cg i0 i1))
  (try simp only [Exit.inBlock, Exit.then])
  refine bodyPost_ret (v := .tuple #[vr 0 0, vi 11]) (by rw [results_cell_tmp rfl]; go_simp) rfl ?_
  exact ⟨rfl, ((HU.out.store 0 (vi 0)).store 1 (vu 0)).dropL.dropL.dropL.dropL⟩
set_option maxRecDepth 100000 in
set_option maxHeartbeats 4000000 in
theorem carve_quota (hS : Sat w0 (domB h p * (tblP p ps free * F)) w) (i g gs cpu per : Int) (hm : MayD gs cpu per) (he : getE ps i g = 0) (hx : DomOk (getX ps i g)) (hf : ¬ FitsD (getX ps i g) gs cpu) :
    Calls Try.prog 32 #[vp h, vr i g, vi gs, vu cpu, vu per] w fun e w' => e = .returned (.tuple #[vr 0 0, vi 15]) ∧ Sat w0 (domB h p * (tblP p ps free * F)) w' := by
  have HM := Lib.hid (fun w => dm_may gs cpu per w)
  rw [decide_eq_true hm] at HM
  clear hm
  have hB0 := (((hS.alloc (.cells #[vi i, vu g] 32)).alloc (.cells #[vi gs] 3)).alloc (.cells #[vu cpu] 22)).alloc (.cells #[vi 0, vu 0] 32)
  simp only [size1] at hB0
  have HSZ : Hid (w.heap.size = w.heap.size) := Lib.hid rfl
  have hB : Sat w0 (pc (w.heap.size + 3) 32 [vi 0, vu 0] * (pc (w.heap.size + 2) 22 [vu cpu] * (pc (w.heap.size + 1) 3 [vi gs] * (pc w.heap.size 32 [vi i, vu g] * (domB h p * (tblP p ps free * F)))))) ((((w.alloc (.cells #[vi i, vu g] 32)).alloc (.cells #[vi gs] 3)).alloc (.cells #[vu cpu] 22)).alloc (.cells #[vi 0, vu 0] 32)) := hB0
  clear hB0 hS
  have HB0 : Hid (∃ b0, b0 = w.heap.size) := Lib.hid ⟨_, rfl⟩
  generalize hwb : (((w.alloc (.cells #[vi i, vu g] 32)).alloc (.cells #[vi gs] 3)).alloc (.cells #[vu cpu] 22)).alloc (.cells #[vi 0, vu 0] 32) = wb at *
  generalize hb0 : w.heap.size = b0 at *
  have HW := Lib.hid hwb
  have HB0 := Lib.hid hb0
  clear hwb hb0 HSZ
  have r0 := hB.cell 0 rfl
  have r1 := hB.cell 1 rfl
  have f0 := hB.free 0
  have f1 := hB.free 1
  have cc := hB.pull2.cell 0 rfl
  have cg := hB.pull3.cell 0 rfl
  have i0 := hB.pull4.cell 0 rfl
  have i1 := hB.pull4.cell 1 rfl
  have HN := Lib.hid (dm_none (hB.cast (show _ = domB h p * (tblP p ps free * (pc (b0 + 3) 32 [vi 0, vu 0] * (pc (b0 + 2) 22 [vu cpu] * (pc (b0 + 1) 3 [vi gs] * (pc b0 32 [vi i, vu g] * F))))) by ac_rfl)))
  have HB := Lib.hid hB
  clear hB
  have HG := Lib.hid (fun w1 h1 => dm_get (w := w1) (w0 := w0) (h := h) (p := p) (ps := ps) (free := free) (F := pc (b0 + 3) 32 [vi 0, vu 0] * (pc (b0 + 2) 22 [vu cpu] * (pc (b0 + 1) 3 [vi gs] * (pc b0 32 [vi i, vu g] * F)))) h1 i g)
  have HB' := Lib.hid (HB.out.cast (show _ = domB h p * (tblP p ps free * (pc (b0 + 3) 32 [vi 0, vu 0] * (pc (b0 + 2) 22 [vu cpu] * (pc (b0 + 1) 3 [vi gs] * (pc b0 32 [vi i, vu g] * F))))) by ac_rfl))
  rw [he] at HG
  clear he
  generalize getX ps i g = x at *
  obtain ⟨v0, v1, v2, v3, v4, v5, v6, v7, v8, v9, v10⟩ := x
  simp only [DomOk, FitsD] at hx hf
  obtain ⟨x1, x2, x3, x4, x5, x6, x7, x8, x9, x10, x11⟩ := hx
  have hw1 : IntKind.i64.wrap (v2 - v5) = v2 - v5 := IntWalk.i64_in _ (by omega)
  have hw2 : IntKind.i64.wrap (v2 - v5 - v7) = v2 - v5 - v7 := IntWalk.i64_in _ (by omega)
  have hw3 : IntKind.u64.wrap (v3 - v6) = v3 - v6 := IntWalk.u64_in _ (by omega)
  by_cases hg : v2 - v5 - v7 < gs
  · clear hf
    go_enter Try.func32, Try.ntmps32
    go_wp2_with fail
    rw [HW.out, HB0.out]
    refine HN.out.mono ?_
    rintro e w' ⟨rfl, rfl⟩
    go_wp2_with (first | (go_at_call 44; refine (HM.out _).mono ?_; rintro e w' ⟨rfl, rfl⟩) | (go_at_call 16; refine (HG.out _ HB'.out).mono ?_; rintro e w1 ⟨rfl, hS1⟩; have hT : Sat w0 (pc w1.heap.size 45 (elC ⟨v0, v1, v2, v3, v4, v5, v6, v7, v8, v9, v10⟩) * _) (w1.alloc (elO ⟨v0, v1, v2, v3, v4, v5, v6, v7, v8, v9, v10⟩)) := hS1.alloc (elO ⟨v0, v1, v2, v3, v4, v5, v6, v7, v8, v9, v10⟩); have hU : Sat w0 (pc (b0 + 3) 32 [vi 0, vu 0] * (pc (b0 + 2) 22 [vu cpu] * (pc (b0 + 1) 3 [vi gs] * (pc b0 32 [vi i, vu g] * (domB h p * (tblP p ps free * F)))))) (w1.alloc (elO ⟨v0, v1, v2, v3, v4, v5, v6, v7, v8, v9, v10⟩)) := hT.dropL.cast (by ac_rfl); have r0' := hU.cell 0 rfl; have r1' := hU.cell 1 rfl; have f0' := hU.free 0; have f1' := hU.free 1; have cc' := hU.pull2.cell 0 rfl; have cg' := hU.pull3.cell 0 rfl; have i0' := hU.pull4.cell 0 rfl; have i1' := hU.pull4.cell 1 rfl; have HU := Lib.hid hU; clear hU; have q2 := hT.cell 2 rfl; have q3 := hT.cell 3 rfl; have q5 := hT.cell 5 rfl; have q6 := hT.cell 6 rfl; have q7 := hT.cell 7 rfl; have HT := Lib.hid hT; clear hS1 hT r0 r1 f0 f1 cc cg i0 i1))
    (try simp only [Exit.inBlock, Exit.then])
    refine bodyPost_ret (v := .tuple #[vr 0 0, vi 15]) (by rw [results_cell_tmp rfl]; go_simp) rfl ?_
    exact ⟨rfl, ((HU.out.store 0 (vi 0)).store 1 (vu 0)).dropL.dropL.dropL.dropL⟩
  · have hc : v3 - v6 < cpu := by omega
    clear hf
    go_enter Try.func32, Try.ntmps32
    go_wp2_with fail
    rw [HW.out, HB0.out]
    refine HN.out.mono ?_
    rintro e w' ⟨rfl, rfl⟩
    go_wp2_with (first | (go_at_call 44; refine (HM.out _).mono ?_; rintro e w' ⟨rfl, rfl⟩) | (go_at_call 16; refine (HG.out _ HB'.out).mono ?_; rintro e w1 ⟨rfl, hS1⟩; have hT : Sat w0 (pc w1.heap.size 45 (elC ⟨v0, v1, v2, v3, v4, v5, v6, v7, v8, v9, v10⟩) * _) (w1.alloc (elO ⟨v0, v1, v2, v3, v4, v5, v6, v7, v8, v9, v10⟩)) := hS1.alloc (elO ⟨v0, v1, v2, v3, v4, v5, v6, v7, v8, v9, v10⟩); have hU : Sat w0 (pc (b0 + 3) 32 [vi 0, vu 0] * (pc (b0 + 2) 22 [vu cpu] * (pc (b0 + 1) 3 [vi gs] * (pc b0 32 [vi i, vu g] * (domB h p * (tblP p ps free * F)))))) (w1.alloc (elO ⟨v0, v1, v2, v3, v4, v5, v6, v7, v8, v9, v10⟩)) := hT.dropL.cast (by ac_rfl); have r0' := hU.cell 0 rfl; have r1' := hU.cell 1 rfl; have f0' := hU.free 0; have f1' := hU.free 1; have cc' := hU.pull2.cell 0 rfl; have cg' := hU.pull3.cell 0 rfl; have i0' := hU.pull4.cell 0 rfl; have i1' := hU.pull4.cell 1 rfl; have HU := Lib.hid hU; clear hU; have q2 := hT.cell 2 rfl; have q3 := hT.cell 3 rfl; have q5 := hT.cell 5 rfl; have q6 := hT.cell 6 rfl; have q7 := hT.cell 7 rfl; have HT := Lib.hid hT; clear hS1 hT r0 r1 f0 f1 cc cg i0 i1))
    (try simp only [Exit.inBlock, Exit.then])
    refine bodyPost_ret (v := .tuple #[vr 0 0, vi 15]) (by rw [results_cell_tmp rfl]; go_simp) rfl ?_
    exact ⟨rfl, ((HU.out.store 0 (vi 0)).store 1 (vu 0)).dropL.dropL.dropL.dropL⟩
set_option maxRecDepth 100000 in
set_option maxHeartbeats 4000000 in
theorem carve_full (hS : Sat w0 (domB h p * (tblP p ps [] * F)) w) (i g gs cpu per : Int) (hm : MayD gs cpu per) (he : getE ps i g = 0) (hx : DomOk (getX ps i g)) (hf : FitsD (getX ps i g) gs cpu) :
    Calls Try.prog 32 #[vp h, vr i g, vi gs, vu cpu, vu per] w fun e w' => e = .returned (.tuple #[vr 0 0, vi 3]) ∧ Sat w0 (domB h p * (tblP p ps [] * F)) w' := by
  obtain ⟨free, hfr⟩ : ∃ free : List Nat, free = [] := ⟨_, rfl⟩
  rw [← hfr] at hS ⊢
  have HM := Lib.hid (fun w => dm_may gs cpu per w)
  rw [decide_eq_true hm] at HM
  clear hm
  have hB0 := (((hS.alloc (.cells #[vi i, vu g] 32)).alloc (.cells #[vi gs] 3)).alloc (.cells #[vu cpu] 22)).alloc (.cells #[vi 0, vu 0] 32)
  simp only [size1] at hB0
  have HSZ : Hid (w.heap.size = w.heap.size) := Lib.hid rfl
  have hB : Sat w0 (pc (w.heap.size + 3) 32 [vi 0, vu 0] * (pc (w.heap.size + 2) 22 [vu cpu] * (pc (w.heap.size + 1) 3 [vi gs] * (pc w.heap.size 32 [vi i, vu g] * (domB h p * (tblP p ps free * F)))))) ((((w.alloc (.cells #[vi i, vu g] 32)).alloc (.cells #[vi gs] 3)).alloc (.cells #[vu cpu] 22)).alloc (.cells #[vi 0, vu 0] 32)) := hB0
  clear hB0 hS
  have HB0 : Hid (∃ b0, b0 = w.heap.size) := Lib.hid ⟨_, rfl⟩
  generalize hwb : (((w.alloc (.cells #[vi i, vu g] 32)).alloc (.cells #[vi gs] 3)).alloc (.cells #[vu cpu] 22)).alloc (.cells #[vi 0, vu 0] 32) = wb at *
  generalize hb0 : w.heap.size = b0 at *
  have HW := Lib.hid hwb
  have HB0 := Lib.hid hb0
  clear hwb hb0 HSZ
  have r0 := hB.cell 0 rfl
  have r1 := hB.cell 1 rfl
  have f0 := hB.free 0
  have f1 := hB.free 1
  have cc := hB.pull2.cell 0 rfl
  have cg := hB.pull3.cell 0 rfl
  have i0 := hB.pull4.cell 0 rfl
  have i1 := hB.pull4.cell 1 rfl
  have HN := Lib.hid (dm_none (hB.cast (show _ = domB h p * (tblP p ps free * (pc (b0 + 3) 32 [vi 0, vu 0] * (pc (b0 + 2) 22 [vu cpu] * (pc (b0 + 1) 3 [vi gs] * (pc b0 32 [vi i, vu g] * F))))) by ac_rfl)))
  have HB := Lib.hid hB
  clear hB
  have HG := Lib.hid (fun w1 h1 => dm_get (w := w1) (w0 := w0) (h := h) (p := p) (ps := ps) (free := free) (F := pc (b0 + 3) 32 [vi 0, vu 0] * (pc (b0 + 2) 22 [vu cpu] * (pc (b0 + 1) 3 [vi gs] * (pc b0 32 [vi i, vu g] * F)))) h1 i g)
  have HB' := Lib.hid (HB.out.cast (show _ = domB h p * (tblP p ps free * (pc (b0 + 3) 32 [vi 0, vu 0] * (pc (b0 + 2) 22 [vu cpu] * (pc (b0 + 1) 3 [vi gs] * (pc b0 32 [vi i, vu g] * F))))) by ac_rfl))
  rw [he] at HG
  clear he
  have hx0 := hx
  have hf0 := hf
  generalize getX ps i g = x at *
  obtain ⟨v0, v1, v2, v3, v4, v5, v6, v7, v8, v9, v10⟩ := x
  simp only [DomOk, FitsD] at hx hf
  obtain ⟨x1, x2, x3, x4, x5, x6, x7, x8, x9, x10, x11⟩ := hx
  obtain ⟨hf1, hf2⟩ := hf
  have hw1 : IntKind.i64.wrap (v2 - v5) = v2 - v5 := IntWalk.i64_in _ (by omega)
  have hw2 : IntKind.i64.wrap (v2 - v5 - v7) = v2 - v5 - v7 := IntWalk.i64_in _ (by omega)
  have hw3 : IntKind.u64.wrap (v3 - v6) = v3 - v6 := IntWalk.u64_in _ (by omega)
  have hg : ¬ (v2 - v5 - v7 < gs) := by omega
  have hc : ¬ (v3 - v6 < cpu) := by omega
  have HP : Hid (∀ (w1 : World) (G : Hp), Sat w0 (tblP p ps free * G) w1 → Calls Try.prog 46 #[vp p, ev (domX i g gs cpu per)] w1 fun e w' => e = .returned (.tuple #[vr 0 0, vi 3]) ∧ Sat w0 (tblP p ps free * G) w') := Lib.hid fun w1 G h1 => by
    subst hfr
    exact put_no h1 _
  clear hfr
  go_enter Try.func32, Try.ntmps32
  go_wp2_with fail
  rw [HW.out, HB0.out]
  refine HN.out.mono ?_
  rintro e w' ⟨rfl, rfl⟩
  go_wp2_with (first | (go_at_call 44; refine (HM.out _).mono ?_; rintro e w' ⟨rfl, rfl⟩) | (go_at_call 16; refine (HG.out _ HB'.out).mono ?_; rintro e w1 ⟨rfl, hS1⟩; have hT : Sat w0 (pc w1.heap.size 45 (elC ⟨v0, v1, v2, v3, v4, v5, v6, v7, v8, v9, v10⟩) * _) (w1.alloc (elO ⟨v0, v1, v2, v3, v4, v5, v6, v7, v8, v9, v10⟩)) := hS1.alloc (elO ⟨v0, v1, v2, v3, v4, v5, v6, v7, v8, v9, v10⟩); have hU : Sat w0 (pc (b0 + 3) 32 [vi 0, vu 0] * (pc (b0 + 2) 22 [vu cpu] * (pc (b0 + 1) 3 [vi gs] * (pc b0 32 [vi i, vu g] * (domB h p * (tblP p ps free * F)))))) (w1.alloc (elO ⟨v0, v1, v2, v3, v4, v5, v6, v7, v8, v9, v10⟩)) := hT.dropL.cast (by ac_rfl); have r0' := hU.cell 0 rfl; have r1' := hU.cell 1 rfl; have f0' := hU.free 0; have f1' := hU.free 1; have cc' := hU.pull2.cell 0 rfl; have cg' := hU.pull3.cell 0 rfl; have i0' := hU.pull4.cell 0 rfl; have i1' := hU.pull4.cell 1 rfl; have HU := Lib.hid hU; clear hU; have q2 := hT.cell 2 rfl; have q3 := hT.cell 3 rfl; have q5 := hT.cell 5 rfl; have q6 := hT.cell 6 rfl; have q7 := hT.cell 7 rfl; have h0 := HU.out.dropL.dropL.dropL.dropL.cell 0 rfl; have HT := Lib.hid hT; clear hS1 hT r0 r1 f0 f1 cc cg i0 i1))
  have hu2 := (HU.out.alloc (.cells #[vi 0, vu 0] 32)).drew
  rw [size1] at hu2
  have hu2 : Sat w0 (pc (w1.heap.size + 1) 32 [vi 0, vu 0] * _) _ := hu2
  have HU2 := Lib.hid (hu2.cast (show _ = tblP p ps free * (pc (w1.heap.size + 1) 32 [vi 0, vu 0] * (pc (b0 + 3) 32 [vi 0, vu 0] * (pc (b0 + 2) 22 [vu cpu] * (pc (b0 + 1) 3 [vi gs] * (pc b0 32 [vi i, vu g] * (domB h p * F)))))) by ac_rfl))
  have HU3 := Lib.hid (HU.out.drew.cast (show _ = tblP p ps free * (pc (b0 + 3) 32 [vi 0, vu 0] * (pc (b0 + 2) 22 [vu cpu] * (pc (b0 + 1) 3 [vi gs] * (pc b0 32 [vi i, vu g] * (domB h p * F))))) by ac_rfl))
  clear hu2
  go_region_held3 (fun w' => w'.cell? ⟨h, 0, none⟩ = some (vp p) ∧ w'.cell? ⟨b0, 0, none⟩ = some (vi i) ∧ w'.cell? ⟨b0, 1, none⟩ = some (vu g) ∧ w'.cell? ⟨b0 + 1, 0, none⟩ = some (vi gs) ∧ w'.cell? ⟨b0 + 2, 0, none⟩ = some (vu cpu))
    (first | exact ⟨e0, e1, e2, e3, e4⟩ | exact ⟨g0, g1, g2, g3, g4⟩ | go_keep)
    (first
      | (go_at_call 46; (with_reducible refine (HP.out _ _ HU2.out).mono ?_); rintro e w5 ⟨rfl, hS5⟩; have hV : Sat w0 (pc (w1.heap.size + 1) 32 [vi 0, vu 0] * (pc (b0 + 3) 32 [vi 0, vu 0] * (pc (b0 + 2) 22 [vu cpu] * (pc (b0 + 1) 3 [vi gs] * (pc b0 32 [vi i, vu g] * (domB h p * (tblP p ps free * F))))))) w5 := hS5.cast (by ac_rfl); have e0 := hV.dropL.dropL.dropL.dropL.dropL.cell 0 rfl; have e1 := hV.dropL.pull4.cell 0 rfl; have e2 := hV.dropL.pull4.cell 1 rfl; have e3 := hV.dropL.pull3.cell 0 rfl; have e4 := hV.dropL.pull2.cell 0 rfl; have p0 := hV.cell 0 rfl; have p1 := hV.cell 1 rfl; have pf0 := hV.free 0; have pf1 := hV.free 1; have hW := (hV.store 0 (vi 0)).store 1 (vu 0); have z0 := hW.pull2.cell 0 rfl; have z1 := hW.pull2.cell 1 rfl; have y0 := hW.pull2.free 0; have y1 := hW.pull2.free 1; have t0 := hW.cell 0 rfl; have t1 := hW.cell 1 rfl; have g0 := hW.dropL.dropL.dropL.dropL.dropL.cell 0 rfl; have g1 := hW.dropL.pull4.cell 0 rfl; have g2 := hW.dropL.pull4.cell 1 rfl; have g3 := hW.dropL.pull3.cell 0 rfl; have g4 := hW.dropL.pull2.cell 0 rfl; have HV := Lib.hid hW; clear hS5 hV hW)
      | (go_at_call 46; (with_reducible refine (HP.out _ _ HU3.out).mono ?_); rintro e w5 ⟨rfl, hS5⟩; have hV : Sat w0 (pc (b0 + 3) 32 [vi 0, vu 0] * (pc (b0 + 2) 22 [vu cpu] * (pc (b0 + 1) 3 [vi gs] * (pc b0 32 [vi i, vu g] * (domB h p * (tblP p ps free * F)))))) w5 := hS5.cast (by ac_rfl); have e0 := hV.dropL.dropL.dropL.dropL.cell 0 rfl; have e1 := hV.pull4.cell 0 rfl; have e2 := hV.pull4.cell 1 rfl; have e3 := hV.pull3.cell 0 rfl; have e4 := hV.pull2.cell 0 rfl; have hW := hV.alloc (.cells #[vi 0, vu 0] 32); have hW : Sat w0 (pc w5.heap.size 32 [vi 0, vu 0] * _) _ := hW; have z0 := hW.pull2.cell 0 rfl; have z1 := hW.pull2.cell 1 rfl; have y0 := hW.pull2.free 0; have y1 := hW.pull2.free 1; have t0 := hW.cell 0 rfl; have t1 := hW.cell 1 rfl; have g0 := hW.dropL.dropL.dropL.dropL.dropL.cell 0 rfl; have g1 := hW.dropL.pull4.cell 0 rfl; have g2 := hW.dropL.pull4.cell 1 rfl; have g3 := hW.dropL.pull3.cell 0 rfl; have g4 := hW.dropL.pull2.cell 0 rfl; have HV := Lib.hid hW; clear hS5 hV hW))
  all_goals
    go_wp2
    (try simp only [Exit.inBlock, Exit.then])
    refine bodyPost_ret (v := .tuple #[vr 0 0, vi 3]) (by rw [results_cell_tmp rfl]; go_simp) rfl ?_
    first | exact ⟨rfl, HV.out.dropL.dropL.dropL.dropL.dropL⟩ | exact ⟨rfl, ((HV.out.pull2.store 0 (vi 0)).store 1 (vu 0)).dropL.dropL.dropL.dropL.dropL⟩
theorem isAt_set {k : Nat} {a a' : Pl} {i g : Int} (hk : ps[k]? = some a) (ht : a.there = false) (he : getE ps i g = 0) : isAt (ps.set k a') i g = isAt ps i g := by
  unfold getE at he
  cases hA : isAt ps i g with
  | none => rw [hA] at he; cases he
  | some kb =>
    obtain ⟨k', b⟩ := kb
    obtain ⟨h1, h2, h3, h4⟩ := isAt_some hA
    have hne : k ≠ k' := fun e => by
      subst e
      rw [hk] at h1
      cases h1
      rw [ht] at h3
      cases h3
    unfold isAt at hA ⊢
    split at hA
    · cases hA
    · rename_i h0
      rw [if_neg h0]
      subst h2
      rw [Int.toNat_natCast] at hA ⊢
      rw [List.getElem?_set_ne hne]
      exact hA
theorem getE_set {k : Nat} {a a' : Pl} {i g : Int} (hk : ps[k]? = some a) (ht : a.there = false) (he : getE ps i g = 0) : getE (ps.set k a') i g = getE ps i g ∧ getX (ps.set k a') i g = getX ps i g := by
  unfold getE getX
  have := isAt_set (a' := a') hk ht he
  unfold getE at he
  rw [this]
  exact ⟨rfl, rfl⟩
set_option maxRecDepth 100000 in
set_option maxHeartbeats 4000000 in
theorem carve_ok {k : Nat} {a : Pl} (hS : Sat w0 (domB h p * (tblP p ps (free ++ [k]) * F)) w) (hk : ps[k]? = some a) (i g gs cpu per : Int) (hm : MayD gs cpu per) (he : getE ps i g = 0) (hx : DomOk (getX ps i g)) (hf : FitsD (getX ps i g) gs cpu) (hcpu : 0 ≤ cpu) :
    Calls Try.prog 32 #[vp h, vr i g, vi gs, vu cpu, vu per] w fun e w' => e = .returned (.tuple #[vr k a.gen, vi 0]) ∧ Sat w0 (domB h p * (tblP p (setP (ps.set k { a with there := true, x := domX i g gs cpu per }) i g (carX (getX ps i g) gs cpu)) free * F)) w' := by
  have hth : a.there = false := by
    obtain ⟨s, hs⟩ := open_ hS.dropL
    obtain ⟨b, hb, h1, _⟩ := (hs.ok.mem k).1 (by simp)
    rw [hk] at hb
    cases hb
    exact h1
  obtain ⟨hE, hX⟩ := getE_set (a' := { a with there := true, x := domX i g gs cpu per }) hk hth he
  have hwr : IntKind.i64.wrap ((getX ps i g).v5 + gs) = (getX ps i g).v5 + gs ∧ IntKind.u64.wrap ((getX ps i g).v6 + cpu) = (getX ps i g).v6 + cpu ∧ IntKind.i64.wrap ((getX ps i g).v10 + 1) = (getX ps i g).v10 + 1 := by
    unfold DomOk at hx
    unfold FitsD at hf
    unfold MayD at hm
    refine ⟨IntWalk.i64_in _ (by omega), IntWalk.u64_in _ (by omega), IntWalk.i64_in _ (by omega)⟩
  have HC0 : ∀ (b0 : Nat) (w1 : World) (G : Hp), Sat w0 (domB h p * (tblP p (ps.set k { a with there := true, x := domX i g gs cpu per }) free * (carC (b0 + 1) (b0 + 2) gs cpu * G))) w1 → Calls Try.prog 34 #[vp h, vr i g, .func (.func 62) #[] #[vp (b0 + 1), vp (b0 + 2)]] w1 fun e w' => e = .returned (vi 0) ∧ Sat w0 (domB h p * (tblP p (setP (ps.set k { a with there := true, x := domX i g gs cpu per }) i g (carX (getX ps i g) gs cpu)) free * (carC (b0 + 1) (b0 + 2) gs cpu * G))) w' := fun b0 w1 G h1 => by
    have := change_carve (b0 + 1) (b0 + 2) gs cpu h1 i g (carX (getX ps i g) gs cpu) (fun _ b w2 F' h2 => by
      rw [hX] at h2
      have := carve1_ (h2.cast (by unfold carC; ac_rfl)) hwr.1 hwr.2.1 hwr.2.2
      exact this.mono fun e w' ⟨h3, h4⟩ => ⟨h3, h4.cast (by unfold carC; ac_rfl)⟩)
    rw [hE, he] at this
    exact this
  have HP : Hid (∀ (w1 : World) (G : Hp), Sat w0 (tblP p ps (free ++ [k]) * G) w1 → Calls Try.prog 46 #[vp p, ev (domX i g gs cpu per)] w1 fun e w' => e = .returned (.tuple #[vr k a.gen, vi 0]) ∧ Sat w0 (tblP p (ps.set k { a with there := true, x := domX i g gs cpu per }) free * G) w') := Lib.hid fun w1 G h1 => put_yes h1 hk _
  clear hwr hE hX hth hk
  have HC1 := Lib.hid HC0
  clear HC0
  have HM := Lib.hid (fun w => dm_may gs cpu per w)
  rw [decide_eq_true hm] at HM
  clear hm
  have hB0 := (((hS.alloc (.cells #[vi i, vu g] 32)).alloc (.cells #[vi gs] 3)).alloc (.cells #[vu cpu] 22)).alloc (.cells #[vi 0, vu 0] 32)
  simp only [size1] at hB0
  have HSZ : Hid (w.heap.size = w.heap.size) := Lib.hid rfl
  have hB : Sat w0 (pc (w.heap.size + 3) 32 [vi 0, vu 0] * (pc (w.heap.size + 2) 22 [vu cpu] * (pc (w.heap.size + 1) 3 [vi gs] * (pc w.heap.size 32 [vi i, vu g] * (domB h p * (tblP p ps (free ++ [k]) * F)))))) ((((w.alloc (.cells #[vi i, vu g] 32)).alloc (.cells #[vi gs] 3)).alloc (.cells #[vu cpu] 22)).alloc (.cells #[vi 0, vu 0] 32)) := hB0
  clear hB0 hS
  have HB0 : Hid (∃ b0, b0 = w.heap.size) := Lib.hid ⟨_, rfl⟩
  generalize hwb : (((w.alloc (.cells #[vi i, vu g] 32)).alloc (.cells #[vi gs] 3)).alloc (.cells #[vu cpu] 22)).alloc (.cells #[vi 0, vu 0] 32) = wb at *
  generalize hb0 : w.heap.size = b0 at *
  have HW := Lib.hid hwb
  have HB0 := Lib.hid hb0
  clear hwb hb0 HSZ
  have r0 := hB.cell 0 rfl
  have r1 := hB.cell 1 rfl
  have f0 := hB.free 0
  have f1 := hB.free 1
  have cc := hB.pull2.cell 0 rfl
  have cg := hB.pull3.cell 0 rfl
  have i0 := hB.pull4.cell 0 rfl
  have i1 := hB.pull4.cell 1 rfl
  have HN := Lib.hid (dm_none (hB.cast (show _ = domB h p * (tblP p ps (free ++ [k]) * (pc (b0 + 3) 32 [vi 0, vu 0] * (pc (b0 + 2) 22 [vu cpu] * (pc (b0 + 1) 3 [vi gs] * (pc b0 32 [vi i, vu g] * F))))) by ac_rfl)))
  have HB := Lib.hid hB
  clear hB
  have HG := Lib.hid (fun w1 h1 => dm_get (w := w1) (w0 := w0) (h := h) (p := p) (ps := ps) (free := free ++ [k]) (F := pc (b0 + 3) 32 [vi 0, vu 0] * (pc (b0 + 2) 22 [vu cpu] * (pc (b0 + 1) 3 [vi gs] * (pc b0 32 [vi i, vu g] * F)))) h1 i g)
  have HB' := Lib.hid (HB.out.cast (show _ = domB h p * (tblP p ps (free ++ [k]) * (pc (b0 + 3) 32 [vi 0, vu 0] * (pc (b0 + 2) 22 [vu cpu] * (pc (b0 + 1) 3 [vi gs] * (pc b0 32 [vi i, vu g] * F))))) by ac_rfl))
  rw [he] at HG
  clear he
  have hx0 := hx
  have hf0 := hf
  generalize getX ps i g = x at *
  obtain ⟨v0, v1, v2, v3, v4, v5, v6, v7, v8, v9, v10⟩ := x
  simp only [DomOk, FitsD] at hx hf
  obtain ⟨x1, x2, x3, x4, x5, x6, x7, x8, x9, x10, x11⟩ := hx
  obtain ⟨hf1, hf2⟩ := hf
  have hw1 : IntKind.i64.wrap (v2 - v5) = v2 - v5 := IntWalk.i64_in _ (by omega)
  have hw2 : IntKind.i64.wrap (v2 - v5 - v7) = v2 - v5 - v7 := IntWalk.i64_in _ (by omega)
  have hw3 : IntKind.u64.wrap (v3 - v6) = v3 - v6 := IntWalk.u64_in _ (by omega)
  have hg : ¬ (v2 - v5 - v7 < gs) := by omega
  have hc : ¬ (v3 - v6 < cpu) := by omega

  have HC := Lib.hid (HC1.out b0)
  clear HC1
  have hpn : ∃ PSN, PSN = setP (ps.set k { a with there := true, x := domX i g gs cpu per }) i g (carX ⟨v0, v1, v2, v3, v4, v5, v6, v7, v8, v9, v10⟩ gs cpu) := ⟨_, rfl⟩
  obtain ⟨PSN, hpn⟩ := hpn
  rw [← hpn] at HC ⊢
  clear hpn
  go_enter Try.func32, Try.ntmps32
  go_wp2_with fail
  rw [HW.out, HB0.out]
  refine HN.out.mono ?_
  rintro e w' ⟨rfl, rfl⟩
  go_wp2_with (first | (go_at_call 44; refine (HM.out _).mono ?_; rintro e w' ⟨rfl, rfl⟩) | (go_at_call 16; refine (HG.out _ HB'.out).mono ?_; rintro e w1 ⟨rfl, hS1⟩; have hT : Sat w0 (pc w1.heap.size 45 (elC ⟨v0, v1, v2, v3, v4, v5, v6, v7, v8, v9, v10⟩) * _) (w1.alloc (elO ⟨v0, v1, v2, v3, v4, v5, v6, v7, v8, v9, v10⟩)) := hS1.alloc (elO ⟨v0, v1, v2, v3, v4, v5, v6, v7, v8, v9, v10⟩); have hU : Sat w0 (pc (b0 + 3) 32 [vi 0, vu 0] * (pc (b0 + 2) 22 [vu cpu] * (pc (b0 + 1) 3 [vi gs] * (pc b0 32 [vi i, vu g] * (domB h p * (tblP p ps (free ++ [k]) * F)))))) (w1.alloc (elO ⟨v0, v1, v2, v3, v4, v5, v6, v7, v8, v9, v10⟩)) := hT.dropL.cast (by ac_rfl); have r0' := hU.cell 0 rfl; have r1' := hU.cell 1 rfl; have f0' := hU.free 0; have f1' := hU.free 1; have cc' := hU.pull2.cell 0 rfl; have cg' := hU.pull3.cell 0 rfl; have i0' := hU.pull4.cell 0 rfl; have i1' := hU.pull4.cell 1 rfl; have HU := Lib.hid hU; clear hU; have q2 := hT.cell 2 rfl; have q3 := hT.cell 3 rfl; have q5 := hT.cell 5 rfl; have q6 := hT.cell 6 rfl; have q7 := hT.cell 7 rfl; have h0 := HU.out.dropL.dropL.dropL.dropL.cell 0 rfl; have HT := Lib.hid hT; clear hS1 hT r0 r1 f0 f1 cc cg i0 i1))
  have hu2 := (HU.out.alloc (.cells #[vi 0, vu 0] 32)).drew
  rw [size1] at hu2
  have hu2 : Sat w0 (pc (w1.heap.size + 1) 32 [vi 0, vu 0] * _) _ := hu2
  have HU2 := Lib.hid (hu2.cast (show _ = tblP p ps (free ++ [k]) * (pc (w1.heap.size + 1) 32 [vi 0, vu 0] * (pc (b0 + 3) 32 [vi 0, vu 0] * (pc (b0 + 2) 22 [vu cpu] * (pc (b0 + 1) 3 [vi gs] * (pc b0 32 [vi i, vu g] * (domB h p * F)))))) by ac_rfl))
  have HU3 := Lib.hid (HU.out.drew.cast (show _ = tblP p ps (free ++ [k]) * (pc (b0 + 3) 32 [vi 0, vu 0] * (pc (b0 + 2) 22 [vu cpu] * (pc (b0 + 1) 3 [vi gs] * (pc b0 32 [vi i, vu g] * (domB h p * F))))) by ac_rfl))
  clear hu2
  go_region_held3 (fun w' => w'.cell? ⟨h, 0, none⟩ = some (vp p) ∧ w'.cell? ⟨b0, 0, none⟩ = some (vi i) ∧ w'.cell? ⟨b0, 1, none⟩ = some (vu g) ∧ w'.cell? ⟨b0 + 1, 0, none⟩ = some (vi gs) ∧ w'.cell? ⟨b0 + 2, 0, none⟩ = some (vu cpu))
    (first | exact ⟨e0, e1, e2, e3, e4⟩ | exact ⟨g0, g1, g2, g3, g4⟩ | go_keep)
    (first
      | (go_at_call 46; (with_reducible refine (HP.out _ _ HU2.out).mono ?_); rintro e w5 ⟨rfl, hS5⟩; have hV : Sat w0 (pc (w1.heap.size + 1) 32 [vi 0, vu 0] * (pc (b0 + 3) 32 [vi 0, vu 0] * (pc (b0 + 2) 22 [vu cpu] * (pc (b0 + 1) 3 [vi gs] * (pc b0 32 [vi i, vu g] * (domB h p * (tblP p (ps.set k { a with there := true, x := domX i g gs cpu per }) free * F))))))) w5 := hS5.cast (by ac_rfl); have e0 := hV.dropL.dropL.dropL.dropL.dropL.cell 0 rfl; have e1 := hV.dropL.pull4.cell 0 rfl; have e2 := hV.dropL.pull4.cell 1 rfl; have e3 := hV.dropL.pull3.cell 0 rfl; have e4 := hV.dropL.pull2.cell 0 rfl; have p0 := hV.cell 0 rfl; have p1 := hV.cell 1 rfl; have pf0 := hV.free 0; have pf1 := hV.free 1; have hW := (hV.store 0 (vi k)).store 1 (vu a.gen); have z0 := hW.pull2.cell 0 rfl; have z1 := hW.pull2.cell 1 rfl; have y0 := hW.pull2.free 0; have y1 := hW.pull2.free 1; have t0 := hW.cell 0 rfl; have t1 := hW.cell 1 rfl; have g0 := hW.dropL.dropL.dropL.dropL.dropL.cell 0 rfl; have g1 := hW.dropL.pull4.cell 0 rfl; have g2 := hW.dropL.pull4.cell 1 rfl; have g3 := hW.dropL.pull3.cell 0 rfl; have g4 := hW.dropL.pull2.cell 0 rfl; have HV := Lib.hid hW; clear hS5 hV hW)
      | (go_at_call 46; (with_reducible refine (HP.out _ _ HU3.out).mono ?_); rintro e w5 ⟨rfl, hS5⟩; have hV : Sat w0 (pc (b0 + 3) 32 [vi 0, vu 0] * (pc (b0 + 2) 22 [vu cpu] * (pc (b0 + 1) 3 [vi gs] * (pc b0 32 [vi i, vu g] * (domB h p * (tblP p (ps.set k { a with there := true, x := domX i g gs cpu per }) free * F)))))) w5 := hS5.cast (by ac_rfl); have e0 := hV.dropL.dropL.dropL.dropL.cell 0 rfl; have e1 := hV.pull4.cell 0 rfl; have e2 := hV.pull4.cell 1 rfl; have e3 := hV.pull3.cell 0 rfl; have e4 := hV.pull2.cell 0 rfl; have hW := hV.alloc (.cells #[vi k, vu a.gen] 32); have hW : Sat w0 (pc w5.heap.size 32 [vi k, vu a.gen] * _) _ := hW; have z0 := hW.pull2.cell 0 rfl; have z1 := hW.pull2.cell 1 rfl; have y0 := hW.pull2.free 0; have y1 := hW.pull2.free 1; have t0 := hW.cell 0 rfl; have t1 := hW.cell 1 rfl; have g0 := hW.dropL.dropL.dropL.dropL.dropL.cell 0 rfl; have g1 := hW.dropL.pull4.cell 0 rfl; have g2 := hW.dropL.pull4.cell 1 rfl; have g3 := hW.dropL.pull3.cell 0 rfl; have g4 := hW.dropL.pull2.cell 0 rfl; have HV := Lib.hid hW; clear hS5 hV hW))
  · go_wp2_with fail
    have hq := HV.out.drew.cast (show _ = domB h p * (tblP p (ps.set k { a with there := true, x := domX i g gs cpu per }) free * (carC (b0 + 1) (b0 + 2) gs cpu * (pc (w5.heap.size) 32 [vi k, vu a.gen] * (pc (b0 + 3) 32 [vi 0, vu 0] * (pc b0 32 [vi i, vu g] * F))))) by unfold carC; (try simp only [List.set_cons_zero, List.set_cons_succ]); ac_rfl)
    have HQ := Lib.hid hq
    clear hq
    go_region_held3 (fun w' => w'.cell? ⟨w5.heap.size, 0, none⟩ = some (vi k) ∧ w'.cell? ⟨w5.heap.size, 1, none⟩ = some (vu a.gen) ∧ w'.cell? ⟨b0, 0, none⟩ = some (vi i) ∧ w'.cell? ⟨b0, 1, none⟩ = some (vu g))
      (first | exact ⟨e5, e6, e7, e8⟩ | exact ⟨e9, e10, e11, e12⟩ | go_keep)
      (first | (go_at_call 34; refine (HC.out _ _ HQ.out).mono ?_; rintro e w7 ⟨rfl, hS7⟩; have hR : Sat w0 (pc (b0 + 3) 32 [vi 0, vu 0] * (pc (w5.heap.size) 32 [vi k, vu a.gen] * (pc b0 32 [vi i, vu g] * (carC (b0 + 1) (b0 + 2) gs cpu * (domB h p * (tblP p PSN free * F)))))) w7 := hS7.cast (by ac_rfl); have e5 := hR.pull2.cell 0 rfl; have e6 := hR.pull2.cell 1 rfl; have e7 := hR.pull3.cell 0 rfl; have e8 := hR.pull3.cell 1 rfl; have z0 := hR.cell 0 rfl; have z1 := hR.cell 1 rfl; have y0 := hR.free 0; have y1 := hR.free 1; have hR2 := (hR.store 0 (vi k)).store 1 (vu a.gen); have u0 := hR2.cell 0 rfl; have u1 := hR2.cell 1 rfl; have e9 := hR2.pull2.cell 0 rfl; have e10 := hR2.pull2.cell 1 rfl; have e11 := hR2.pull3.cell 0 rfl; have e12 := hR2.pull3.cell 1 rfl; have HR := Lib.hid hR2; clear hS7 hR hR2))
    go_wp2
    (try simp only [Exit.inBlock, Exit.then])
    refine bodyPost_ret (v := .tuple #[vr k a.gen, vi 0]) (by rw [results_cell_tmp rfl]; go_simp) rfl ?_
    exact ⟨rfl, HR.out.dropL.dropL.dropL.dropL⟩
  · go_wp2_with fail
    have hq := HV.out.drew.cast (show _ = domB h p * (tblP p (ps.set k { a with there := true, x := domX i g gs cpu per }) free * (carC (b0 + 1) (b0 + 2) gs cpu * (pc (w1.heap.size + 1) 32 [vi k, vu a.gen] * (pc (b0 + 3) 32 [vi 0, vu 0] * (pc b0 32 [vi i, vu g] * F))))) by unfold carC; (try simp only [List.set_cons_zero, List.set_cons_succ]); ac_rfl)
    have HQ := Lib.hid hq
    clear hq
    go_region_held3 (fun w' => w'.cell? ⟨w1.heap.size + 1, 0, none⟩ = some (vi k) ∧ w'.cell? ⟨w1.heap.size + 1, 1, none⟩ = some (vu a.gen) ∧ w'.cell? ⟨b0, 0, none⟩ = some (vi i) ∧ w'.cell? ⟨b0, 1, none⟩ = some (vu g))
      (first | exact ⟨e5, e6, e7, e8⟩ | exact ⟨e9, e10, e11, e12⟩ | go_keep)
      (first | (go_at_call 34; refine (HC.out _ _ HQ.out).mono ?_; rintro e w7 ⟨rfl, hS7⟩; have hR : Sat w0 (pc (b0 + 3) 32 [vi 0, vu 0] * (pc (w1.heap.size + 1) 32 [vi k, vu a.gen] * (pc b0 32 [vi i, vu g] * (carC (b0 + 1) (b0 + 2) gs cpu * (domB h p * (tblP p PSN free * F)))))) w7 := hS7.cast (by ac_rfl); have e5 := hR.pull2.cell 0 rfl; have e6 := hR.pull2.cell 1 rfl; have e7 := hR.pull3.cell 0 rfl; have e8 := hR.pull3.cell 1 rfl; have z0 := hR.cell 0 rfl; have z1 := hR.cell 1 rfl; have y0 := hR.free 0; have y1 := hR.free 1; have hR2 := (hR.store 0 (vi k)).store 1 (vu a.gen); have u0 := hR2.cell 0 rfl; have u1 := hR2.cell 1 rfl; have e9 := hR2.pull2.cell 0 rfl; have e10 := hR2.pull2.cell 1 rfl; have e11 := hR2.pull3.cell 0 rfl; have e12 := hR2.pull3.cell 1 rfl; have HR := Lib.hid hR2; clear hS7 hR hR2))
    go_wp2
    (try simp only [Exit.inBlock, Exit.then])
    refine bodyPost_ret (v := .tuple #[vr k a.gen, vi 0]) (by rw [results_cell_tmp rfl]; go_simp) rfl ?_
    exact ⟨rfl, HR.out.dropL.dropL.dropL.dropL⟩
end
end Go.Proofs.Ytfioghpnehfjhaa.Dm
