/-
  The reference of layer 9: Carve. No statement is proved here.
-/
import Derived.Test.YtfioghpnehfjhaaRd6
namespace Go.Proofs.Ytfioghpnehfjhaa.Dm
open Go.RowKit Ad
set_option linter.unusedVariables false
set_option linter.unusedSimpArgs false

/-- The reference's domain at a ref. -/
def getRR (rs : List One) (cl : Nat → List (Int × Int)) (k : Nat) (a : One) : El := getRX rs cl ((k : Int), a.gen) a (childL rs k a.gen rs.length) rs.length
def FitsR (x : El) (gs cpu : Int) : Prop := gs + x.v5 + x.v7 ≤ x.v2 ∧ cpu + x.v6 ≤ x.v3
instance (x : El) (gs cpu : Int) : Decidable (FitsR x gs cpu) := inferInstanceAs (Decidable (_ ∧ _))
theorem getRR_bd {rs : List One} (h : OneOk rs) (cl : Nat → List (Int × Int)) {k : Nat} {a : One} (ha : rs[k]? = some a) :
    0 ≤ (getRR rs cl k a).v5 ∧ (getRR rs cl k a).v5 ≤ 64000 ∧ 0 ≤ (getRR rs cl k a).v6 ∧ (getRR rs cl k a).v6 ≤ 4294967296000 ∧ 0 ≤ (getRR rs cl k a).v7 ∧ (getRR rs cl k a).v7 ≤ 64 ∧ 0 ≤ (getRR rs cl k a).v2 ∧ (getRR rs cl k a).v2 ≤ 64 ∧ 0 ≤ (getRR rs cl k a).v3 ∧ (getRR rs cl k a).v3 ≤ 4294967296 := by
  have h5 := sumO_bd One.gs 64 (by omega) (fun k a ha => ⟨(h.2 k a ha).1, (h.2 k a ha).2.1⟩) (childL rs k a.gen rs.length)
  have h6 := sumO_bd One.cpu 4294967296 (by omega) (fun k a ha => ⟨(h.2 k a ha).2.2.1, (h.2 k a ha).2.2.2.1⟩) (childL rs k a.gen rs.length)
  have hl := childL_len rs k a.gen rs.length
  have hl2 := h.1
  have ha2 := h.2 k a ha
  simp only [getRR, getRX]
  omega
section
variable {w0 w : World} {F : Hp} {q b cap : Nat} {rs : List One} {fr : List Nat} {vF : Value}
set_option maxRecDepth 100000 in
set_option maxHeartbeats 4000000 in
theorem rcarve_arg (hS : Sat w0 (rdB q b rs.length cap vF * (rdL b cap rs * (sl 3 1 vF fr.length (nats fr) * F))) w) (i g gs cpu per : Int) (hm : ¬ MayD gs cpu per) :
    Calls Try.prog 33 #[vp q, vr i g, vi gs, vu cpu, vu per] w fun e w' => e = .returned (.tuple #[vr 0 0, vi 2]) ∧ Sat w0 (rdB q b rs.length cap vF * (rdL b cap rs * (sl 3 1 vF fr.length (nats fr) * F))) w' := by
  have HM := Lib.hid (fun w => rd_may gs cpu per w)
  rw [decide_eq_false hm] at HM
  have hB0 := (hS.alloc (.cells #[vi i, vu g] 32)).alloc (.cells #[vi 0, vu 0] 32)
  rw [size1] at hB0
  have hB : Sat w0 (pc (w.heap.size + 1) 32 [vi 0, vu 0] * (pc w.heap.size 32 [vi i, vu g] * (rdB q b rs.length cap vF * (rdL b cap rs * (sl 3 1 vF fr.length (nats fr) * F))))) ((w.alloc (.cells #[vi i, vu g] 32)).alloc (.cells #[vi 0, vu 0] 32)) := hB0
  have r0 := hB.cell 0 rfl
  have r1 := hB.cell 1 rfl
  have f0 := hB.free 0
  have f1 := hB.free 1
  have i0 := hB.pull2.cell 0 rfl
  have i1 := hB.pull2.cell 1 rfl
  have HB := Lib.hid hB
  clear hS hB0 hB hm
  go_enter Try.func33, Try.ntmps33
  go_wp2_with (go_at_call 29; refine (HM.out _).mono ?_; rintro e w' ⟨rfl, rfl⟩)
  (try simp only [Exit.inBlock, Exit.then])
  refine bodyPost_ret (v := .tuple #[vr 0 0, vi 2]) (by rw [results_cell_tmp rfl]; go_simp) rfl ?_
  exact ⟨rfl, by first | exact ((HB.out.store 0 (vi 0)).store 1 (vu 0)).dropL.dropL | exact HB.out.dropL.dropL⟩
set_option maxRecDepth 100000 in
set_option maxHeartbeats 4000000 in
theorem rcarve_stale (hS : Sat w0 (rdB q b rs.length cap vF * (rdL b cap rs * (sl 3 1 vF fr.length (nats fr) * F))) w) (i g gs cpu per : Int) (hm : MayD gs cpu per) (hi : isR rs i g = false) :
    Calls Try.prog 33 #[vp q, vr i g, vi gs, vu cpu, vu per] w fun e w' => e = .returned (.tuple #[vr 0 0, vi 11]) ∧ Sat w0 (rdB q b rs.length cap vF * (rdL b cap rs * (sl 3 1 vF fr.length (nats fr) * F))) w' := by
  have HM := Lib.hid (fun w => rd_may gs cpu per w)
  rw [decide_eq_true hm] at HM
  have hB0 := (hS.alloc (.cells #[vi i, vu g] 32)).alloc (.cells #[vi 0, vu 0] 32)
  rw [size1] at hB0
  have hB : Sat w0 (pc (w.heap.size + 1) 32 [vi 0, vu 0] * (pc w.heap.size 32 [vi i, vu g] * (rdB q b rs.length cap vF * (rdL b cap rs * (sl 3 1 vF fr.length (nats fr) * F))))) ((w.alloc (.cells #[vi i, vu g] 32)).alloc (.cells #[vi 0, vu 0] 32)) := hB0
  have r0 := hB.cell 0 rfl
  have r1 := hB.cell 1 rfl
  have f0 := hB.free 0
  have f1 := hB.free 1
  have i0 := hB.pull2.cell 0 rfl
  have i1 := hB.pull2.cell 1 rfl
  have HB := Lib.hid hB
  have HI := Lib.hid (rd_is (hB.cast (show _ = rdB q b rs.length cap vF * (rdL b cap rs * (pc (w.heap.size + 1) 32 [vi 0, vu 0] * (pc w.heap.size 32 [vi i, vu g] * (sl 3 1 vF fr.length (nats fr) * F)))) by ac_rfl)) i g)
  rw [hi] at HI
  clear hS hB0 hB hm hi
  go_enter Try.func33, Try.ntmps33
  go_wp2_with (first | (go_at_call 29; refine (HM.out _).mono ?_; rintro e w' ⟨rfl, rfl⟩) | (go_at_call 63; refine HI.out.mono ?_; rintro e w1 ⟨rfl, hS1⟩; have hT : Sat w0 (pc (w.heap.size + 1) 32 [vi 0, vu 0] * (pc w.heap.size 32 [vi i, vu g] * (rdB q b rs.length cap vF * (rdL b cap rs * (sl 3 1 vF fr.length (nats fr) * F))))) w1 := hS1.cast (by ac_rfl); clear r0 r1 f0 f1 i0 i1; have r0 := hT.cell 0 rfl; have r1 := hT.cell 1 rfl; have f0 := hT.free 0; have f1 := hT.free 1; have i0 := hT.pull2.cell 0 rfl; have i1 := hT.pull2.cell 1 rfl; have HT := Lib.hid hT; clear hS1 hT))
  (try simp only [Exit.inBlock, Exit.then])
  refine bodyPost_ret (v := .tuple #[vr 0 0, vi 11]) (by rw [results_cell_tmp rfl]; go_simp) rfl ?_
  exact ⟨rfl, ((HT.out.store 0 (vi 0)).store 1 (vu 0)).dropL.dropL⟩
set_option maxRecDepth 100000 in
set_option maxHeartbeats 4000000 in
theorem rcarve_quota (hS : Sat w0 (rdB q b rs.length cap vF * (rdL b cap rs * (sl 3 1 vF fr.length (nats fr) * F))) w) (k : Nat) (a : One) (ha : rs[k]? = some a) (his : a.is = true) (gs cpu per : Int) (hm : MayD gs cpu per) (hc0 : 0 ≤ cpu) (cl : Nat → List (Int × Int)) (hcl : Chains rs cl) (hok : OneOk rs) (hf : ¬ FitsR (getRR rs cl k a) gs cpu) :
    Calls Try.prog 33 #[vp q, vr k a.gen, vi gs, vu cpu, vu per] w fun e w' => e = .returned (.tuple #[vr 0 0, vi 15]) ∧ Sat w0 (rdB q b rs.length cap vF * (rdL b cap rs * (sl 3 1 vF fr.length (nats fr) * F))) w' := by
  have HM := Lib.hid (fun w => rd_may gs cpu per w)
  rw [decide_eq_true hm] at HM
  have hB0 := (hS.alloc (.cells #[vi k, vu a.gen] 32)).alloc (.cells #[vi 0, vu 0] 32)
  rw [size1] at hB0
  have hB : Sat w0 (pc (w.heap.size + 1) 32 [vi 0, vu 0] * (pc w.heap.size 32 [vi k, vu a.gen] * (rdB q b rs.length cap vF * (rdL b cap rs * (sl 3 1 vF fr.length (nats fr) * F))))) ((w.alloc (.cells #[vi k, vu a.gen] 32)).alloc (.cells #[vi 0, vu 0] 32)) := hB0
  have r0 := hB.cell 0 rfl
  have r1 := hB.cell 1 rfl
  have f0 := hB.free 0
  have f1 := hB.free 1
  have i0 := hB.pull2.cell 0 rfl
  have i1 := hB.pull2.cell 1 rfl
  have HB := Lib.hid hB
  have hbd := getRR_bd hok cl ha
  have HI := Lib.hid (rd_is (hB.cast (show _ = rdB q b rs.length cap vF * (rdL b cap rs * (pc (w.heap.size + 1) 32 [vi 0, vu 0] * (pc w.heap.size 32 [vi k, vu a.gen] * (sl 3 1 vF fr.length (nats fr) * F)))) by ac_rfl)) k a.gen)
  have hi : isR rs k a.gen = true := by
    unfold isR
    rw [if_neg (by omega), Int.toNat_natCast, ha]
    simp [his]
  rw [hi] at HI
  have HG : Hid (∀ (w1 : World), Sat w0 (rdB q b rs.length cap vF * (rdL b cap rs * (pc (w.heap.size + 1) 32 [vi 0, vu 0] * (pc w.heap.size 32 [vi k, vu a.gen] * (sl 3 1 vF fr.length (nats fr) * F))))) w1 → Calls Try.prog 64 #[vp q, vr k a.gen] w1 fun e w' => e = .returned (ev (getRR rs cl k a)) ∧ Sat w0 (rdB q b rs.length cap vF * (rdL b cap rs * (pc (w.heap.size + 1) 32 [vi 0, vu 0] * (pc w.heap.size 32 [vi k, vu a.gen] * (sl 3 1 vF fr.length (nats fr) * F))))) w') := Lib.hid fun w1 h1 => rd_get h1 k a.gen a ha cl hcl hok
  unfold MayD at hm
  obtain ⟨m1, m2, m3, m4, m5⟩ := hm
  clear hS hB0 hB hcl hi his
  generalize getRR rs cl k a = x at *
  obtain ⟨v0, v1, v2, v3, v4, v5, v6, v7, v8, v9, v10⟩ := x
  simp only [FitsR] at hbd hf
  generalize a.gen = ag at *
  have hw1 : IntKind.i64.wrap (gs + v5) = gs + v5 := IntWalk.i64_in _ (by omega)
  have hw2 : IntKind.i64.wrap (gs + v5 + v7) = gs + v5 + v7 := IntWalk.i64_in _ (by omega)
  have hw3 : IntKind.u64.wrap (cpu + v6) = cpu + v6 := IntWalk.u64_in _ (by omega)
  by_cases hg : v2 < gs + v5 + v7
  · clear hf
    go_enter Try.func33, Try.ntmps33
    go_wp2_with (first | (go_at_call 29; refine (HM.out _).mono ?_; rintro e w' ⟨rfl, rfl⟩) | (go_at_call 63; refine HI.out.mono ?_; rintro e w1 ⟨rfl, hS1⟩; have hT : Sat w0 (pc (w.heap.size + 1) 32 [vi 0, vu 0] * (pc w.heap.size 32 [vi k, vu ag] * (rdB q b rs.length cap vF * (rdL b cap rs * (sl 3 1 vF fr.length (nats fr) * F))))) w1 := hS1.cast (by ac_rfl); clear r0 r1 f0 f1 i0 i1; have r0 := hT.cell 0 rfl; have r1 := hT.cell 1 rfl; have f0 := hT.free 0; have f1 := hT.free 1; have i0 := hT.pull2.cell 0 rfl; have i1 := hT.pull2.cell 1 rfl; have HT := Lib.hid hT; clear hS1 hT) | (go_at_call 64; refine (HG.out _ (HT.out.cast (show _ = rdB q b rs.length cap vF * (rdL b cap rs * (pc (w.heap.size + 1) 32 [vi 0, vu 0] * (pc w.heap.size 32 [vi k, vu ag] * (sl 3 1 vF fr.length (nats fr) * F)))) by ac_rfl))).mono ?_; rintro e w2 ⟨rfl, hS2⟩; have hX := hS2.alloc (elO ⟨v0, v1, v2, v3, v4, v5, v6, v7, v8, v9, v10⟩); have hX2 : Sat w0 (pc w2.heap.size 45 (elC ⟨v0, v1, v2, v3, v4, v5, v6, v7, v8, v9, v10⟩) * (pc (w.heap.size + 1) 32 [vi 0, vu 0] * (pc w.heap.size 32 [vi k, vu ag] * (rdB q b rs.length cap vF * (rdL b cap rs * (sl 3 1 vF fr.length (nats fr) * F)))))) (w2.alloc (elO ⟨v0, v1, v2, v3, v4, v5, v6, v7, v8, v9, v10⟩)) := hX.cast (show _ = pc w2.heap.size 45 (elC ⟨v0, v1, v2, v3, v4, v5, v6, v7, v8, v9, v10⟩) * (rdB q b rs.length cap vF * (rdL b cap rs * (pc (w.heap.size + 1) 32 [vi 0, vu 0] * (pc w.heap.size 32 [vi k, vu ag] * (sl 3 1 vF fr.length (nats fr) * F))))) from rfl) |>.cast (by ac_rfl); clear r0 r1 f0 f1 i0 i1; have x2 := hX2.cell 2 rfl; have x3 := hX2.cell 3 rfl; have x5 := hX2.cell 5 rfl; have x6 := hX2.cell 6 rfl; have x7 := hX2.cell 7 rfl; have r0 := hX2.pull2.cell 0 rfl; have r1 := hX2.pull2.cell 1 rfl; have f0 := hX2.pull2.free 0; have f1 := hX2.pull2.free 1; have i0 := hX2.pull3.cell 0 rfl; have i1 := hX2.pull3.cell 1 rfl; have q1 := hX2.dropL.dropL.dropL.cell 1 rfl; have HX := Lib.hid hX2; clear hS2 hX hX2))
    (try simp only [Exit.inBlock, Exit.then])
    refine bodyPost_ret (v := .tuple #[vr 0 0, vi 15]) (by rw [results_cell_tmp rfl]; go_simp) rfl ?_
    exact ⟨rfl, ((HX.out.pull2.store 0 (vi 0)).store 1 (vu 0)).dropL.dropL.dropL⟩
  · have hc : v3 < cpu + v6 := by omega
    clear hf
    go_enter Try.func33, Try.ntmps33
    go_wp2_with (first | (go_at_call 29; refine (HM.out _).mono ?_; rintro e w' ⟨rfl, rfl⟩) | (go_at_call 63; refine HI.out.mono ?_; rintro e w1 ⟨rfl, hS1⟩; have hT : Sat w0 (pc (w.heap.size + 1) 32 [vi 0, vu 0] * (pc w.heap.size 32 [vi k, vu ag] * (rdB q b rs.length cap vF * (rdL b cap rs * (sl 3 1 vF fr.length (nats fr) * F))))) w1 := hS1.cast (by ac_rfl); clear r0 r1 f0 f1 i0 i1; have r0 := hT.cell 0 rfl; have r1 := hT.cell 1 rfl; have f0 := hT.free 0; have f1 := hT.free 1; have i0 := hT.pull2.cell 0 rfl; have i1 := hT.pull2.cell 1 rfl; have HT := Lib.hid hT; clear hS1 hT) | (go_at_call 64; refine (HG.out _ (HT.out.cast (show _ = rdB q b rs.length cap vF * (rdL b cap rs * (pc (w.heap.size + 1) 32 [vi 0, vu 0] * (pc w.heap.size 32 [vi k, vu ag] * (sl 3 1 vF fr.length (nats fr) * F)))) by ac_rfl))).mono ?_; rintro e w2 ⟨rfl, hS2⟩; have hX := hS2.alloc (elO ⟨v0, v1, v2, v3, v4, v5, v6, v7, v8, v9, v10⟩); have hX2 : Sat w0 (pc w2.heap.size 45 (elC ⟨v0, v1, v2, v3, v4, v5, v6, v7, v8, v9, v10⟩) * (pc (w.heap.size + 1) 32 [vi 0, vu 0] * (pc w.heap.size 32 [vi k, vu ag] * (rdB q b rs.length cap vF * (rdL b cap rs * (sl 3 1 vF fr.length (nats fr) * F)))))) (w2.alloc (elO ⟨v0, v1, v2, v3, v4, v5, v6, v7, v8, v9, v10⟩)) := hX.cast (show _ = pc w2.heap.size 45 (elC ⟨v0, v1, v2, v3, v4, v5, v6, v7, v8, v9, v10⟩) * (rdB q b rs.length cap vF * (rdL b cap rs * (pc (w.heap.size + 1) 32 [vi 0, vu 0] * (pc w.heap.size 32 [vi k, vu ag] * (sl 3 1 vF fr.length (nats fr) * F))))) from rfl) |>.cast (by ac_rfl); clear r0 r1 f0 f1 i0 i1; have x2 := hX2.cell 2 rfl; have x3 := hX2.cell 3 rfl; have x5 := hX2.cell 5 rfl; have x6 := hX2.cell 6 rfl; have x7 := hX2.cell 7 rfl; have r0 := hX2.pull2.cell 0 rfl; have r1 := hX2.pull2.cell 1 rfl; have f0 := hX2.pull2.free 0; have f1 := hX2.pull2.free 1; have i0 := hX2.pull3.cell 0 rfl; have i1 := hX2.pull3.cell 1 rfl; have q1 := hX2.dropL.dropL.dropL.cell 1 rfl; have HX := Lib.hid hX2; clear hS2 hX hX2))
    (try simp only [Exit.inBlock, Exit.then])
    refine bodyPost_ret (v := .tuple #[vr 0 0, vi 15]) (by rw [results_cell_tmp rfl]; go_simp) rfl ?_
    exact ⟨rfl, ((HX.out.pull2.store 0 (vi 0)).store 1 (vu 0)).dropL.dropL.dropL⟩
set_option maxRecDepth 100000 in
set_option maxHeartbeats 4000000 in
theorem rcarve_full (hfr : fr = []) (hS : Sat w0 (rdB q b rs.length cap vF * (rdL b cap rs * (sl 3 1 vF fr.length (nats fr) * F))) w) (k : Nat) (a : One) (ha : rs[k]? = some a) (his : a.is = true) (gs cpu per : Int) (hm : MayD gs cpu per) (hc0 : 0 ≤ cpu) (cl : Nat → List (Int × Int)) (hcl : Chains rs cl) (hok : OneOk rs) (hf : FitsR (getRR rs cl k a) gs cpu) :
    Calls Try.prog 33 #[vp q, vr k a.gen, vi gs, vu cpu, vu per] w fun e w' => e = .returned (.tuple #[vr 0 0, vi 3]) ∧ Sat w0 (rdB q b rs.length cap vF * (rdL b cap rs * (sl 3 1 vF fr.length (nats fr) * F))) w' := by
  obtain ⟨vo, vc, rfl⟩ := hS.dropL.dropL.rd.len
  have hz : ((fr.length : Int) == 0) = true := by rw [hfr]; rfl
  clear hfr
  have HM := Lib.hid (fun w => rd_may gs cpu per w)
  rw [decide_eq_true hm] at HM
  have hB0 := (hS.alloc (.cells #[vi k, vu a.gen] 32)).alloc (.cells #[vi 0, vu 0] 32)
  rw [size1] at hB0
  have hB : Sat w0 (pc (w.heap.size + 1) 32 [vi 0, vu 0] * (pc w.heap.size 32 [vi k, vu a.gen] * (rdB q b rs.length cap (.slice vo fr.length vc) * (rdL b cap rs * (sl 3 1 (.slice vo fr.length vc) fr.length (nats fr) * F))))) ((w.alloc (.cells #[vi k, vu a.gen] 32)).alloc (.cells #[vi 0, vu 0] 32)) := hB0
  have r0 := hB.cell 0 rfl
  have r1 := hB.cell 1 rfl
  have f0 := hB.free 0
  have f1 := hB.free 1
  have i0 := hB.pull2.cell 0 rfl
  have i1 := hB.pull2.cell 1 rfl
  have HB := Lib.hid hB
  have hbd := getRR_bd hok cl ha
  have HI := Lib.hid (rd_is (hB.cast (show _ = rdB q b rs.length cap (.slice vo fr.length vc) * (rdL b cap rs * (pc (w.heap.size + 1) 32 [vi 0, vu 0] * (pc w.heap.size 32 [vi k, vu a.gen] * (sl 3 1 (.slice vo fr.length vc) fr.length (nats fr) * F)))) by ac_rfl)) k a.gen)
  have hi : isR rs k a.gen = true := by
    unfold isR
    rw [if_neg (by omega), Int.toNat_natCast, ha]
    simp [his]
  rw [hi] at HI
  have HG : Hid (∀ (w1 : World), Sat w0 (rdB q b rs.length cap (.slice vo fr.length vc) * (rdL b cap rs * (pc (w.heap.size + 1) 32 [vi 0, vu 0] * (pc w.heap.size 32 [vi k, vu a.gen] * (sl 3 1 (.slice vo fr.length vc) fr.length (nats fr) * F))))) w1 → Calls Try.prog 64 #[vp q, vr k a.gen] w1 fun e w' => e = .returned (ev (getRR rs cl k a)) ∧ Sat w0 (rdB q b rs.length cap (.slice vo fr.length vc) * (rdL b cap rs * (pc (w.heap.size + 1) 32 [vi 0, vu 0] * (pc w.heap.size 32 [vi k, vu a.gen] * (sl 3 1 (.slice vo fr.length vc) fr.length (nats fr) * F))))) w') := Lib.hid fun w1 h1 => rd_get h1 k a.gen a ha cl hcl hok
  unfold MayD at hm
  obtain ⟨m1, m2, m3, m4, m5⟩ := hm
  clear hS hB0 hB hcl hi his
  generalize getRR rs cl k a = x at *
  obtain ⟨v0, v1, v2, v3, v4, v5, v6, v7, v8, v9, v10⟩ := x
  simp only [FitsR] at hbd hf
  generalize a.gen = ag at *
  have hw1 : IntKind.i64.wrap (gs + v5) = gs + v5 := IntWalk.i64_in _ (by omega)
  have hw2 : IntKind.i64.wrap (gs + v5 + v7) = gs + v5 + v7 := IntWalk.i64_in _ (by omega)
  have hw3 : IntKind.u64.wrap (cpu + v6) = cpu + v6 := IntWalk.u64_in _ (by omega)
  have hg : ¬ v2 < gs + v5 + v7 := by omega
  have hc : ¬ v3 < cpu + v6 := by omega
  go_enter Try.func33, Try.ntmps33
  go_wp2_with (first | (go_at_call 29; refine (HM.out _).mono ?_; rintro e w' ⟨rfl, rfl⟩) | (go_at_call 63; refine HI.out.mono ?_; rintro e w1 ⟨rfl, hS1⟩; have hT : Sat w0 (pc (w.heap.size + 1) 32 [vi 0, vu 0] * (pc w.heap.size 32 [vi k, vu ag] * (rdB q b rs.length cap (.slice vo fr.length vc) * (rdL b cap rs * (sl 3 1 (.slice vo fr.length vc) fr.length (nats fr) * F))))) w1 := hS1.cast (by ac_rfl); clear r0 r1 f0 f1 i0 i1; have r0 := hT.cell 0 rfl; have r1 := hT.cell 1 rfl; have f0 := hT.free 0; have f1 := hT.free 1; have i0 := hT.pull2.cell 0 rfl; have i1 := hT.pull2.cell 1 rfl; have HT := Lib.hid hT; clear hS1 hT) | (go_at_call 64; refine (HG.out _ (HT.out.cast (show _ = rdB q b rs.length cap (.slice vo fr.length vc) * (rdL b cap rs * (pc (w.heap.size + 1) 32 [vi 0, vu 0] * (pc w.heap.size 32 [vi k, vu ag] * (sl 3 1 (.slice vo fr.length vc) fr.length (nats fr) * F)))) by ac_rfl))).mono ?_; rintro e w2 ⟨rfl, hS2⟩; have hX := hS2.alloc (elO ⟨v0, v1, v2, v3, v4, v5, v6, v7, v8, v9, v10⟩); have hX2 : Sat w0 (pc w2.heap.size 45 (elC ⟨v0, v1, v2, v3, v4, v5, v6, v7, v8, v9, v10⟩) * (pc (w.heap.size + 1) 32 [vi 0, vu 0] * (pc w.heap.size 32 [vi k, vu ag] * (rdB q b rs.length cap (.slice vo fr.length vc) * (rdL b cap rs * (sl 3 1 (.slice vo fr.length vc) fr.length (nats fr) * F)))))) (w2.alloc (elO ⟨v0, v1, v2, v3, v4, v5, v6, v7, v8, v9, v10⟩)) := hX.cast (show _ = pc w2.heap.size 45 (elC ⟨v0, v1, v2, v3, v4, v5, v6, v7, v8, v9, v10⟩) * (rdB q b rs.length cap (.slice vo fr.length vc) * (rdL b cap rs * (pc (w.heap.size + 1) 32 [vi 0, vu 0] * (pc w.heap.size 32 [vi k, vu ag] * (sl 3 1 (.slice vo fr.length vc) fr.length (nats fr) * F))))) from rfl) |>.cast (by ac_rfl); clear r0 r1 f0 f1 i0 i1; have x2 := hX2.cell 2 rfl; have x3 := hX2.cell 3 rfl; have x5 := hX2.cell 5 rfl; have x6 := hX2.cell 6 rfl; have x7 := hX2.cell 7 rfl; have r0 := hX2.pull2.cell 0 rfl; have r1 := hX2.pull2.cell 1 rfl; have f0 := hX2.pull2.free 0; have f1 := hX2.pull2.free 1; have i0 := hX2.pull3.cell 0 rfl; have i1 := hX2.pull3.cell 1 rfl; have q1 := hX2.dropL.dropL.dropL.cell 1 rfl; have HX := Lib.hid hX2; clear hS2 hX hX2))
  (try simp only [Exit.inBlock, Exit.then])
  refine bodyPost_ret (v := .tuple #[vr 0 0, vi 3]) (by rw [results_cell_tmp rfl]; go_simp) rfl ?_
  exact ⟨rfl, ((HX.out.pull2.store 0 (vi 0)).store 1 (vu 0)).dropL.dropL.dropL⟩
set_option maxRecDepth 100000 in
set_option maxHeartbeats 4000000 in
theorem rcarve_ok {fa fcap j : Nat} {aj : One} (hS : Sat w0 (rdB q b rs.length cap (.slice (some ⟨fa, 0, none⟩) (fr.length + 1) fcap) * (rdL b cap rs * (sl 3 1 (.slice (some ⟨fa, 0, none⟩) (fr.length + 1) fcap) (fr.length + 1) (nats (fr ++ [j])) * F))) w) (hj : rs[j]? = some aj) (hfl : fr.length ≤ 500) (k : Nat) (a : One) (ha : rs[k]? = some a) (his : a.is = true) (gs cpu per : Int) (hm : MayD gs cpu per) (hc0 : 0 ≤ cpu) (cl : Nat → List (Int × Int)) (hcl : Chains rs cl) (hok : OneOk rs) (hf : FitsR (getRR rs cl k a) gs cpu) :
    Calls Try.prog 33 #[vp q, vr k a.gen, vi gs, vu cpu, vu per] w fun e w' => e = .returned (.tuple #[vr j aj.gen, vi 0]) ∧ Sat w0 (rdB q b rs.length cap (.slice (some ⟨fa, 0, none⟩) fr.length fcap) * (rdL b cap (rs.set j ⟨aj.gen, true, gs, cpu, per, k, a.gen, 0, 0⟩) * (sl 3 1 (.slice (some ⟨fa, 0, none⟩) fr.length fcap) fr.length (nats fr) * F))) w' := by
  have hz : ((fr.length + 1 : Nat) : Int) ≠ 0 := by omega
  have hz2 : (((fr.length + 1 : Nat) : Int) == 0) = false := beq_eq_false_iff_ne.2 hz
  have hl1 := hok.1
  have HP : Hid (∀ (G : Hp) (w1 : World), Sat w0 (rdB q b rs.length cap (.slice (some ⟨fa, 0, none⟩) (fr.length + 1) fcap) * (rdL b cap rs * (sl 3 1 (.slice (some ⟨fa, 0, none⟩) (fr.length + 1) fcap) (fr.length + 1) (nats (fr ++ [j])) * G))) w1 → Calls Try.prog 61 #[vp q, .agg #[vu 0, .bool false, vi gs, vu cpu, vu per, vi k, vu a.gen, vi 0, vu 0]] w1 fun e w' => e = .returned (vr j aj.gen) ∧ Sat w0 (rdB q b rs.length cap (.slice (some ⟨fa, 0, none⟩) fr.length fcap) * (rdL b cap (rs.set j ⟨aj.gen, true, gs, cpu, per, k, a.gen, 0, 0⟩) * (sl 3 1 (.slice (some ⟨fa, 0, none⟩) fr.length fcap) fr.length (nats fr) * G))) w') := Lib.hid fun G w1 h1 => rd_put (fr.length + 1) j aj rfl h1 hj hl1 (by omega) ⟨0, false, gs, cpu, per, k, a.gen, 0, 0⟩
  clear hz hj
  have HM := Lib.hid (fun w => rd_may gs cpu per w)
  rw [decide_eq_true hm] at HM
  have hB0 := (hS.alloc (.cells #[vi k, vu a.gen] 32)).alloc (.cells #[vi 0, vu 0] 32)
  rw [size1] at hB0
  have hB : Sat w0 (pc (w.heap.size + 1) 32 [vi 0, vu 0] * (pc w.heap.size 32 [vi k, vu a.gen] * (rdB q b rs.length cap (.slice (some ⟨fa, 0, none⟩) (fr.length + 1) fcap) * (rdL b cap rs * (sl 3 1 (.slice (some ⟨fa, 0, none⟩) (fr.length + 1) fcap) (fr.length + 1) (nats (fr ++ [j])) * F))))) ((w.alloc (.cells #[vi k, vu a.gen] 32)).alloc (.cells #[vi 0, vu 0] 32)) := hB0
  have r0 := hB.cell 0 rfl
  have r1 := hB.cell 1 rfl
  have f0 := hB.free 0
  have f1 := hB.free 1
  have i0 := hB.pull2.cell 0 rfl
  have i1 := hB.pull2.cell 1 rfl
  have HB := Lib.hid hB
  have hbd := getRR_bd hok cl ha
  have HI := Lib.hid (rd_is (hB.cast (show _ = rdB q b rs.length cap (.slice (some ⟨fa, 0, none⟩) (fr.length + 1) fcap) * (rdL b cap rs * (pc (w.heap.size + 1) 32 [vi 0, vu 0] * (pc w.heap.size 32 [vi k, vu a.gen] * (sl 3 1 (.slice (some ⟨fa, 0, none⟩) (fr.length + 1) fcap) (fr.length + 1) (nats (fr ++ [j])) * F)))) by ac_rfl)) k a.gen)
  have hi : isR rs k a.gen = true := by
    unfold isR
    rw [if_neg (by omega), Int.toNat_natCast, ha]
    simp [his]
  rw [hi] at HI
  have HG : Hid (∀ (w1 : World), Sat w0 (rdB q b rs.length cap (.slice (some ⟨fa, 0, none⟩) (fr.length + 1) fcap) * (rdL b cap rs * (pc (w.heap.size + 1) 32 [vi 0, vu 0] * (pc w.heap.size 32 [vi k, vu a.gen] * (sl 3 1 (.slice (some ⟨fa, 0, none⟩) (fr.length + 1) fcap) (fr.length + 1) (nats (fr ++ [j])) * F))))) w1 → Calls Try.prog 64 #[vp q, vr k a.gen] w1 fun e w' => e = .returned (ev (getRR rs cl k a)) ∧ Sat w0 (rdB q b rs.length cap (.slice (some ⟨fa, 0, none⟩) (fr.length + 1) fcap) * (rdL b cap rs * (pc (w.heap.size + 1) 32 [vi 0, vu 0] * (pc w.heap.size 32 [vi k, vu a.gen] * (sl 3 1 (.slice (some ⟨fa, 0, none⟩) (fr.length + 1) fcap) (fr.length + 1) (nats (fr ++ [j])) * F))))) w') := Lib.hid fun w1 h1 => rd_get h1 k a.gen a ha cl hcl hok
  unfold MayD at hm
  obtain ⟨m1, m2, m3, m4, m5⟩ := hm
  clear hS hB0 hB hcl hi his
  generalize getRR rs cl k a = x at *
  obtain ⟨v0, v1, v2, v3, v4, v5, v6, v7, v8, v9, v10⟩ := x
  simp only [FitsR] at hbd hf
  generalize a.gen = ag at *
  have hw1 : IntKind.i64.wrap (gs + v5) = gs + v5 := IntWalk.i64_in _ (by omega)
  have hw2 : IntKind.i64.wrap (gs + v5 + v7) = gs + v5 + v7 := IntWalk.i64_in _ (by omega)
  have hw3 : IntKind.u64.wrap (cpu + v6) = cpu + v6 := IntWalk.u64_in _ (by omega)
  have hg : ¬ v2 < gs + v5 + v7 := by omega
  have hc : ¬ v3 < cpu + v6 := by omega
  go_enter Try.func33, Try.ntmps33
  go_wp2_with (first | (go_at_call 29; refine (HM.out _).mono ?_; rintro e w' ⟨rfl, rfl⟩) | (go_at_call 63; refine HI.out.mono ?_; rintro e w1 ⟨rfl, hS1⟩; have hT : Sat w0 (pc (w.heap.size + 1) 32 [vi 0, vu 0] * (pc w.heap.size 32 [vi k, vu ag] * (rdB q b rs.length cap (.slice (some ⟨fa, 0, none⟩) (fr.length + 1) fcap) * (rdL b cap rs * (sl 3 1 (.slice (some ⟨fa, 0, none⟩) (fr.length + 1) fcap) (fr.length + 1) (nats (fr ++ [j])) * F))))) w1 := hS1.cast (by ac_rfl); clear r0 r1 f0 f1 i0 i1; have r0 := hT.cell 0 rfl; have r1 := hT.cell 1 rfl; have f0 := hT.free 0; have f1 := hT.free 1; have i0 := hT.pull2.cell 0 rfl; have i1 := hT.pull2.cell 1 rfl; have HT := Lib.hid hT; clear hS1 hT) | (go_at_call 64; refine (HG.out _ (HT.out.cast (show _ = rdB q b rs.length cap (.slice (some ⟨fa, 0, none⟩) (fr.length + 1) fcap) * (rdL b cap rs * (pc (w.heap.size + 1) 32 [vi 0, vu 0] * (pc w.heap.size 32 [vi k, vu ag] * (sl 3 1 (.slice (some ⟨fa, 0, none⟩) (fr.length + 1) fcap) (fr.length + 1) (nats (fr ++ [j])) * F)))) by ac_rfl))).mono ?_; rintro e w2 ⟨rfl, hS2⟩; have hX := hS2.alloc (elO ⟨v0, v1, v2, v3, v4, v5, v6, v7, v8, v9, v10⟩); have hX2 : Sat w0 (pc w2.heap.size 45 (elC ⟨v0, v1, v2, v3, v4, v5, v6, v7, v8, v9, v10⟩) * (pc (w.heap.size + 1) 32 [vi 0, vu 0] * (pc w.heap.size 32 [vi k, vu ag] * (rdB q b rs.length cap (.slice (some ⟨fa, 0, none⟩) (fr.length + 1) fcap) * (rdL b cap rs * (sl 3 1 (.slice (some ⟨fa, 0, none⟩) (fr.length + 1) fcap) (fr.length + 1) (nats (fr ++ [j])) * F)))))) (w2.alloc (elO ⟨v0, v1, v2, v3, v4, v5, v6, v7, v8, v9, v10⟩)) := hX.cast (show _ = pc w2.heap.size 45 (elC ⟨v0, v1, v2, v3, v4, v5, v6, v7, v8, v9, v10⟩) * (rdB q b rs.length cap (.slice (some ⟨fa, 0, none⟩) (fr.length + 1) fcap) * (rdL b cap rs * (pc (w.heap.size + 1) 32 [vi 0, vu 0] * (pc w.heap.size 32 [vi k, vu ag] * (sl 3 1 (.slice (some ⟨fa, 0, none⟩) (fr.length + 1) fcap) (fr.length + 1) (nats (fr ++ [j])) * F))))) from rfl) |>.cast (by ac_rfl); clear r0 r1 f0 f1 i0 i1; have x2 := hX2.cell 2 rfl; have x3 := hX2.cell 3 rfl; have x5 := hX2.cell 5 rfl; have x6 := hX2.cell 6 rfl; have x7 := hX2.cell 7 rfl; have r0 := hX2.pull2.cell 0 rfl; have r1 := hX2.pull2.cell 1 rfl; have f0 := hX2.pull2.free 0; have f1 := hX2.pull2.free 1; have i0 := hX2.pull3.cell 0 rfl; have i1 := hX2.pull3.cell 1 rfl; have q1 := hX2.dropL.dropL.dropL.cell 1 rfl; have HX := Lib.hid hX2; clear hS2 hX hX2) | (go_at_call 61; refine (HP.out _ _ (HX.out.cast (show _ = rdB q b rs.length cap (.slice (some ⟨fa, 0, none⟩) (fr.length + 1) fcap) * (rdL b cap rs * (sl 3 1 (.slice (some ⟨fa, 0, none⟩) (fr.length + 1) fcap) (fr.length + 1) (nats (fr ++ [j])) * (pc (w.heap.size + 1) 32 [vi 0, vu 0] * (pc w2.heap.size 45 (elC ⟨v0, v1, v2, v3, v4, v5, v6, v7, v8, v9, v10⟩) * (pc w.heap.size 32 [vi k, vu ag] * F))))) by ac_rfl))).mono ?_; rintro e w4 ⟨rfl, hS4⟩; have hP : Sat w0 (pc (w.heap.size + 1) 32 [vi 0, vu 0] * (pc w2.heap.size 45 (elC ⟨v0, v1, v2, v3, v4, v5, v6, v7, v8, v9, v10⟩) * (pc w.heap.size 32 [vi k, vu ag] * (rdB q b rs.length cap (.slice (some ⟨fa, 0, none⟩) fr.length fcap) * (rdL b cap (rs.set j ⟨aj.gen, true, gs, cpu, per, k, ag, 0, 0⟩) * (sl 3 1 (.slice (some ⟨fa, 0, none⟩) fr.length fcap) fr.length (nats fr) * F)))))) w4 := hS4.cast (by ac_rfl); clear r0 r1 f0 f1; have r0 := hP.cell 0 rfl; have r1 := hP.cell 1 rfl; have f0 := hP.free 0; have f1 := hP.free 1; have hQ := (hP.store 0 (vi j)).store 1 (vu aj.gen); have u0 := hQ.cell 0 rfl; have u1 := hQ.cell 1 rfl; have HQ := Lib.hid hQ; clear hS4 hP hQ))
  (try simp only [Exit.inBlock, Exit.then])
  refine bodyPost_ret (v := .tuple #[vr j aj.gen, vi 0]) (by rw [results_cell_tmp rfl]; go_simp) rfl ?_
  exact ⟨rfl, HQ.out.dropL.dropL.dropL⟩
end
end Go.Proofs.Ytfioghpnehfjhaa.Dm
