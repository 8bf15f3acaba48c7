/-
  The reference of layer 16: Set. No statement is proved here.
-/
import Derived.Test.YtffjckdaekamgaaRt3
import Derived.Test.YtffjckdaekamgaaGa3
namespace Go.Proofs.Ytffjckdaekamgaa.Gt
open Go.RowKit Ag
set_option linter.unusedVariables false
set_option linter.unusedSimpArgs false

section
variable {w0 w : World} {F : Hp} {q b cap : Nat} {ps : List Pl} {vF : Value}
theorem is_no {i g : Int} (h : isAt ps i g = none) : (isAt ps i g).isSome = false := by rw [h]; rfl
theorem is_yes {i g : Int} {k : Nat} {a : Pl} (h : isAt ps i g = some (k, a)) : (isAt ps i g).isSome = true := by rw [h]; rfl
set_option maxRecDepth 100000 in
set_option maxHeartbeats 4000000 in
theorem rt_set_may (hS : Sat w0 (rtB q b ps.length cap vF * (rtL b cap ps * F)) w) (i g : Int) (x : El) (hx : 0 ≤ x.v18) (hm : mayB x = false) : Calls Try.prog 26 #[vp q, vr i g, ev x] w fun e w' => e = .returned (vi 2) ∧ Sat w0 (rtB q b ps.length cap vF * (rtL b cap ps * F)) w' := by
  have hB0 := (hS.alloc (.cells #[vi i, vu g] 25)).alloc (elO x)
  rw [size1] at hB0
  have hB : Sat w0 (elB (w.heap.size + 1) x * (pc w.heap.size 25 [vi i, vu g] * (rtB q b ps.length cap vF * (rtL b cap ps * F)))) ((w.alloc (.cells #[vi i, vu g] 25)).alloc (elO x)) := hB0
  have HM := r_may hB x hx
  rw [hm] at HM
  have HM := Lib.hid HM
  have HLd := Lib.hid (range_ hB)
  clear hB hB0 hS hm hx
  go_enter Try.func26, Try.ntmps26
  go_wp2_with (refine wpList_load_mid rfl 29 _ rfl (w.heap.size + 1) 0 (by rfl) (elC x) _ HLd.out Try.underlying29 rfl einfo ?_)
  generalize hb1 : w.heap.size + 1 = bx at *
  generalize hb2 : w.heap.size = b2 at *
  have HB1 := Lib.hid hb1
  have HB2 := Lib.hid hb2
  clear hb1 hb2 HLd
  refine HM.out.mono ?_
  rintro e w1 ⟨rfl, hS1⟩
  have H1 := Lib.hid hS1
  clear hS1
  go_wp2
  go_ret
  exact ⟨rfl, H1.out.dropL.dropL⟩
set_option maxRecDepth 100000 in
set_option maxHeartbeats 4000000 in
theorem rt_set_no (hS : Sat w0 (rtB q b ps.length cap vF * (rtL b cap ps * F)) w) (i g : Int) (x : El) (hx : 0 ≤ x.v18) (hm : mayB x = true) (hA : isAt ps i g = none) : Calls Try.prog 26 #[vp q, vr i g, ev x] w fun e w' => e = .returned (vi 11) ∧ Sat w0 (rtB q b ps.length cap vF * (rtL b cap ps * F)) w' := by
  have hI2 := is_no hA
  clear hA
  have hB0 := (hS.alloc (.cells #[vi i, vu g] 25)).alloc (elO x)
  rw [size1] at hB0
  have hB : Sat w0 (elB (w.heap.size + 1) x * (pc w.heap.size 25 [vi i, vu g] * (rtB q b ps.length cap vF * (rtL b cap ps * F)))) ((w.alloc (.cells #[vi i, vu g] 25)).alloc (elO x)) := hB0
  have HM := r_may hB x hx
  rw [hm] at HM
  have HM := Lib.hid HM
  have HLd := Lib.hid (range_ hB)
  clear hB hB0 hS hm hx
  go_enter Try.func26, Try.ntmps26
  go_wp2_with (refine wpList_load_mid rfl 29 _ rfl (w.heap.size + 1) 0 (by rfl) (elC x) _ HLd.out Try.underlying29 rfl einfo ?_)
  generalize hb1 : w.heap.size + 1 = bx at *
  generalize hb2 : w.heap.size = b2 at *
  have HB1 := Lib.hid hb1
  have HB2 := Lib.hid hb2
  clear hb1 hb2 HLd
  refine HM.out.mono ?_
  rintro e w1 ⟨rfl, hS1⟩
  have b0 := hS1.pull2.cell 0 rfl
  have b1 := hS1.pull2.cell 1 rfl
  have hI : Sat w0 (rtB q b ps.length cap vF * (rtL b cap ps * (elB bx x * (pc b2 25 [vi i, vu g] * F)))) w1 := hS1.cast (by ac_rfl)
  have HI := rt_is hI i g
  rw [hI2] at HI
  have HI := Lib.hid HI
  clear hS1 hI hI2
  go_wp2_with (go_at_call 24; refine HI.out.mono ?_; rintro e w2 ⟨rfl, hS2⟩; have H2 := Lib.hid hS2; clear hS2)
  go_ret
  exact ⟨rfl, (H2.out.cast (show _ = elB bx x * (pc b2 25 [vi i, vu g] * (rtB q b ps.length cap vF * (rtL b cap ps * F))) by ac_rfl)).dropL.dropL⟩
set_option maxRecDepth 100000 in
set_option maxHeartbeats 4000000 in
theorem rt_set_state (hS : Sat w0 (rtB q b ps.length cap vF * (rtL b cap ps * F)) w) (i g : Int) (x : El) (hx : 0 ≤ x.v18) (hm : mayB x = true) {k : Nat} {a : Pl} (hA : isAt ps i g = some (k, a)) (hv : a.x.v0 ≠ x.v0) : Calls Try.prog 26 #[vp q, vr i g, ev x] w fun e w' => e = .returned (vi 5) ∧ Sat w0 (rtB q b ps.length cap vF * (rtL b cap ps * F)) w' := by
  have hv2 : (a.x.v0 == x.v0) = false := beq_eq_false_iff_ne.2 hv
  have hI2 := is_yes hA
  obtain ⟨ha, rfl, _, _⟩ := isAt_some hA
  have hk2 : k < ps.length := (List.getElem?_eq_some_iff.1 ha).1
  have hki : (k : Int) < (ps.length : Int) := by omega
  have HK := Lib.hid ha
  clear hA ha
  have hB0 := (hS.alloc (.cells #[vi k, vu g] 25)).alloc (elO x)
  rw [size1] at hB0
  have hB : Sat w0 (elB (w.heap.size + 1) x * (pc w.heap.size 25 [vi k, vu g] * (rtB q b ps.length cap vF * (rtL b cap ps * F)))) ((w.alloc (.cells #[vi k, vu g] 25)).alloc (elO x)) := hB0
  have HM := r_may hB x hx
  rw [hm] at HM
  have HM := Lib.hid HM
  have HLd := Lib.hid (range_ hB)
  clear hB hB0 hS hm hx
  go_enter Try.func26, Try.ntmps26
  go_wp2_with (refine wpList_load_mid rfl 29 _ rfl (w.heap.size + 1) 0 (by rfl) (elC x) _ HLd.out Try.underlying29 rfl einfo ?_)
  generalize hb1 : w.heap.size + 1 = bx at *
  generalize hb2 : w.heap.size = b2 at *
  have HB1 := Lib.hid hb1
  have HB2 := Lib.hid hb2
  clear hb1 hb2 HLd
  refine HM.out.mono ?_
  rintro e w1 ⟨rfl, hS1⟩
  have b0 := hS1.pull2.cell 0 rfl
  have b1 := hS1.pull2.cell 1 rfl
  have hI : Sat w0 (rtB q b ps.length cap vF * (rtL b cap ps * (elB bx x * (pc b2 25 [vi k, vu g] * F)))) w1 := hS1.cast (by ac_rfl)
  have HI := rt_is hI k g
  rw [hI2] at HI
  have HI := Lib.hid HI
  clear hS1 hI hI2
  go_wp2_with (go_at_call 24; refine HI.out.mono ?_; rintro e w2 ⟨rfl, hS2⟩; have q0 := hS2.cell 0 rfl; have c0 := hS2.pull4.cell 0 rfl; have c1 := hS2.pull4.cell 1 rfl; have x0 := hS2.pull3.cell 0 rfl; have e2 := hS2.pull2.slCell _ (flat_get (j := 2) pcl_len HK.out rfl); skip; have H2 := Lib.hid hS2; clear hS2)
  go_quiet (fail)
  go_wp2
  go_ret
  exact ⟨rfl, ((H2.out.drewN _).cast (show _ = elB bx x * (pc b2 25 [vi k, vu g] * (rtB q b ps.length cap vF * (rtL b cap ps * F))) by ac_rfl)).dropL.dropL⟩
set_option maxRecDepth 100000 in
set_option maxHeartbeats 4000000 in
theorem rt_set_ok (hS : Sat w0 (rtB q b ps.length cap vF * (rtL b cap ps * F)) w) (i g : Int) (x : El) (hx : 0 ≤ x.v18) (hm : mayB x = true) {k : Nat} {a : Pl} (hA : isAt ps i g = some (k, a)) (hv : a.x.v0 = x.v0) : Calls Try.prog 26 #[vp q, vr i g, ev x] w fun e w' => e = .returned (vi 0) ∧ Sat w0 (rtB q b (ps.set k { a with x := x }).length cap vF * (rtL b cap (ps.set k { a with x := x }) * F)) w' := by
  have hI2 := is_yes hA
  obtain ⟨ha, rfl, _, _⟩ := isAt_some hA
  have hk2 : k < ps.length := (List.getElem?_eq_some_iff.1 ha).1
  have hki : (k : Int) < (ps.length : Int) := by omega
  have HK := Lib.hid ha
  clear hA ha
  have hB0 := (hS.alloc (.cells #[vi k, vu g] 25)).alloc (elO x)
  rw [size1] at hB0
  have hB : Sat w0 (elB (w.heap.size + 1) x * (pc w.heap.size 25 [vi k, vu g] * (rtB q b ps.length cap vF * (rtL b cap ps * F)))) ((w.alloc (.cells #[vi k, vu g] 25)).alloc (elO x)) := hB0
  have HM := r_may hB x hx
  rw [hm] at HM
  have HM := Lib.hid HM
  have HLd := Lib.hid (range_ hB)
  clear hB hB0 hS hm hx
  go_enter Try.func26, Try.ntmps26
  go_wp2_with (refine wpList_load_mid rfl 29 _ rfl (w.heap.size + 1) 0 (by rfl) (elC x) _ HLd.out Try.underlying29 rfl einfo ?_)
  generalize hb1 : w.heap.size + 1 = bx at *
  generalize hb2 : w.heap.size = b2 at *
  have HB1 := Lib.hid hb1
  have HB2 := Lib.hid hb2
  clear hb1 hb2 HLd
  refine HM.out.mono ?_
  rintro e w1 ⟨rfl, hS1⟩
  have b0 := hS1.pull2.cell 0 rfl
  have b1 := hS1.pull2.cell 1 rfl
  have hI : Sat w0 (rtB q b ps.length cap vF * (rtL b cap ps * (elB bx x * (pc b2 25 [vi k, vu g] * F)))) w1 := hS1.cast (by ac_rfl)
  have HI := rt_is hI k g
  rw [hI2] at HI
  have HI := Lib.hid HI
  clear hS1 hI hI2
  go_wp2_with (go_at_call 24; refine HI.out.mono ?_; rintro e w2 ⟨rfl, hS2⟩; have q0 := hS2.cell 0 rfl; have c0 := hS2.pull4.cell 0 rfl; have c1 := hS2.pull4.cell 1 rfl; have x0 := hS2.pull3.cell 0 rfl; have e2 := hS2.pull2.slCell _ (flat_get (j := 2) pcl_len HK.out rfl); rw [hv] at e2; have H2 := Lib.hid hS2; clear hS2)
  go_quiet (fail)
  go_wp2
  have hz := H2.out.drewN nq
  generalize World.drewN w2 nq = W at *
  clear q0 c0 c1 x0 e2 H2 HI HM b0 b1
  have q0 := hz.cell 0 rfl
  have c0 := hz.pull4.cell 0 rfl
  have HTh := Lib.hid (slTherePl hz.drew.pull2 HK.out 2 19 (by omega))
  have hst := storeG hz.drew.pull2 HK.out rfl x
  have HST : Hid (Sat w0 _ (W.drew.setCells b (k * 21 + 2) (elC x).toArray.toList)) := Lib.hid hst
  have HZ := Lib.hid hz
  clear hz hst
  refine wp_quiet_tail 7 (by kernel_rfl) (by kernel_rfl) ?_
  simp only [List.take_succ_cons, List.take_zero, List.drop_succ_cons, List.drop_zero]
  iterate 6 (go_big_quiet_step (fail))
  refine wpQuiet_load_row (by rfl) 29 _ rfl bx 0 (by rfl) (elC x) _ (fun w' hw' => by subst hw'; exact range_ HZ.out.drew.pull3) Try.underlying29 rfl einfo ?_
  refine wpQuiet_nil ?_
  go_wp2_with (refine wpList_store_mid rfl 29 _ _ rfl b (k * 21 + 2) (elC x).toArray (by rfl) (by rfl) HTh.out einfo (all_oneCell_toArray (elOne x)) ?_; generalize World.setCells _ _ _ _ = W2 at *)
  go_ret
  refine ⟨rfl, ?_⟩
  have hl : (ps.set k ({ a with x := x } : Pl)).length = ps.length := List.length_set
  unfold rtL
  rw [hl]
  refine Sat.dropL (A := elB bx x * pc b2 25 [vi k, vu g]) (HST.out.cast ?_)
  ac_rfl
end
end Go.Proofs.Ytffjckdaekamgaa.Gt
