/-
  Package context: Bind, Unbind, Drop. No statement is proved here.
-/
import Derived.Test.YtknodagcmachiaaMg9
import Derived.Test.YtknodagcmachiaaMg11
namespace Go.Proofs.Ytknodagcmachiaa.Cn
open Go.RowKit Ac Fi
set_option linter.unusedVariables false
set_option linter.unusedSimpArgs false

section
variable {w0 w : World} {F : Hp} {h p : Nat} {most : Int} {ps : List Pl} {free : List Nat}
set_option maxRecDepth 100000 in
set_option maxHeartbeats 2000000 in
theorem bind_no (hS : Sat w0 (cxB h p most * (tblP p ps free * (F))) w) (i g : Int) (he : getE ps i g = 11) :
    Calls Try.prog 15 #[vp h, vr i g] w fun e w' => e = .returned (vi 11) ∧ Sat w0 (cxB h p most * (tblP p ps free * (F))) w' := by
  have hB0 : Sat w0 (pc w.heap.size 30 [vi i, vu g] * (cxB h p most * (tblP p ps free * (F)))) (w.alloc (.cells #[vi i, vu g] 30)) := hS.alloc (.cells #[vi i, vu g] 30)
  have b0 := hB0.cell 0 rfl
  have b1 := hB0.cell 1 rfl
  have hB : Sat w0 (cxB h p most * (tblP p ps free * (pc w.heap.size 30 [vi i, vu g] * (F)))) (w.alloc (.cells #[vi i, vu g] 30)) := hB0.cast (by ac_rfl)
  have HG := Lib.hid (cx_find hB i g)
  rw [he] at HG
  clear hB hB0
  clear hS he
  generalize getX ps i g = x at *
  obtain ⟨v0, v1, a2, n2, c2, v3⟩ := x
  go_enter Try.func15, Try.ntmps15
  go_wp2_with (go_at_call 38; refine HG.out.mono ?_; rintro e w1 ⟨rfl, hS1⟩; have HS1 := Lib.hid hS1; have hA : Sat w0 (pc w1.heap.size 49 (elC ⟨v0, v1, a2, n2, c2, v3⟩) * _) (w1.alloc (elO ⟨v0, v1, a2, n2, c2, v3⟩)) := hS1.alloc (elO ⟨v0, v1, a2, n2, c2, v3⟩); have H1 := Lib.hid hA; have hx0 := hA.cell 0 rfl; have hx1 := hA.cell 1 rfl; have hx2 := hA.cell 2 rfl; have hx3 := hA.cell 3 rfl; clear hA hS1)
  go_ret
  exact ⟨rfl, ((H1.out).cast (show _ = pc w1.heap.size 49 (elC ⟨v0, v1, a2, n2, c2, v3⟩) * (pc w.heap.size 30 [vi i, vu g] * (cxB h p most * (tblP p ps free * (F)))) by ac_rfl)).dropL.dropL⟩
set_option maxRecDepth 100000 in
set_option maxHeartbeats 2000000 in
theorem unbind_no (hS : Sat w0 (cxB h p most * (tblP p ps free * (F))) w) (i g : Int) (he : getE ps i g = 11) :
    Calls Try.prog 31 #[vp h, vr i g] w fun e w' => e = .returned (vi 11) ∧ Sat w0 (cxB h p most * (tblP p ps free * (F))) w' := by
  have hB0 : Sat w0 (pc w.heap.size 30 [vi i, vu g] * (cxB h p most * (tblP p ps free * (F)))) (w.alloc (.cells #[vi i, vu g] 30)) := hS.alloc (.cells #[vi i, vu g] 30)
  have b0 := hB0.cell 0 rfl
  have b1 := hB0.cell 1 rfl
  have hB : Sat w0 (cxB h p most * (tblP p ps free * (pc w.heap.size 30 [vi i, vu g] * (F)))) (w.alloc (.cells #[vi i, vu g] 30)) := hB0.cast (by ac_rfl)
  have HG := Lib.hid (cx_find hB i g)
  rw [he] at HG
  clear hB hB0
  clear hS he
  generalize getX ps i g = x at *
  obtain ⟨v0, v1, a2, n2, c2, v3⟩ := x
  go_enter Try.func31, Try.ntmps31
  go_wp2_with (go_at_call 38; refine HG.out.mono ?_; rintro e w1 ⟨rfl, hS1⟩; have HS1 := Lib.hid hS1; have hA : Sat w0 (pc w1.heap.size 49 (elC ⟨v0, v1, a2, n2, c2, v3⟩) * _) (w1.alloc (elO ⟨v0, v1, a2, n2, c2, v3⟩)) := hS1.alloc (elO ⟨v0, v1, a2, n2, c2, v3⟩); have H1 := Lib.hid hA; have hx0 := hA.cell 0 rfl; have hx1 := hA.cell 1 rfl; have hx2 := hA.cell 2 rfl; have hx3 := hA.cell 3 rfl; clear hA hS1)
  go_ret
  exact ⟨rfl, ((H1.out).cast (show _ = pc w1.heap.size 49 (elC ⟨v0, v1, a2, n2, c2, v3⟩) * (pc w.heap.size 30 [vi i, vu g] * (cxB h p most * (tblP p ps free * (F)))) by ac_rfl)).dropL.dropL⟩
set_option maxRecDepth 100000 in
set_option maxHeartbeats 2000000 in
theorem drop_no (hS : Sat w0 (cxB h p most * (tblP p ps free * (F))) w) (i g : Int) (he : getE ps i g = 11) :
    Calls Try.prog 22 #[vp h, vr i g] w fun e w' => e = .returned (vi 11) ∧ Sat w0 (cxB h p most * (tblP p ps free * (F))) w' := by
  have hB0 : Sat w0 (pc w.heap.size 30 [vi i, vu g] * (cxB h p most * (tblP p ps free * (F)))) (w.alloc (.cells #[vi i, vu g] 30)) := hS.alloc (.cells #[vi i, vu g] 30)
  have b0 := hB0.cell 0 rfl
  have b1 := hB0.cell 1 rfl
  have hB : Sat w0 (cxB h p most * (tblP p ps free * (pc w.heap.size 30 [vi i, vu g] * (F)))) (w.alloc (.cells #[vi i, vu g] 30)) := hB0.cast (by ac_rfl)
  have HG := Lib.hid (cx_find hB i g)
  rw [he] at HG
  clear hB hB0
  clear hS he
  generalize getX ps i g = x at *
  obtain ⟨v0, v1, a2, n2, c2, v3⟩ := x
  go_enter Try.func22, Try.ntmps22
  go_wp2_with (go_at_call 38; refine HG.out.mono ?_; rintro e w1 ⟨rfl, hS1⟩; have HS1 := Lib.hid hS1; have hA : Sat w0 (pc w1.heap.size 49 (elC ⟨v0, v1, a2, n2, c2, v3⟩) * _) (w1.alloc (elO ⟨v0, v1, a2, n2, c2, v3⟩)) := hS1.alloc (elO ⟨v0, v1, a2, n2, c2, v3⟩); have H1 := Lib.hid hA; have hx0 := hA.cell 0 rfl; have hx1 := hA.cell 1 rfl; have hx2 := hA.cell 2 rfl; have hx3 := hA.cell 3 rfl; clear hA hS1)
  go_ret
  exact ⟨rfl, ((H1.out).cast (show _ = pc w1.heap.size 49 (elC ⟨v0, v1, a2, n2, c2, v3⟩) * (pc w.heap.size 30 [vi i, vu g] * (cxB h p most * (tblP p ps free * (F)))) by ac_rfl)).dropL.dropL⟩
set_option maxRecDepth 100000 in
set_option maxHeartbeats 2000000 in
theorem bind_yes (hS : Sat w0 (cxB h p most * (tblP p ps free * (F))) w) (i g : Int) (he : getE ps i g = 0) (hw : 0 ≤ (getX ps i g).v3 ∧ (getX ps i g).v3 ≤ 1000000) :
    Calls Try.prog 15 #[vp h, vr i g] w fun e w' => e = .returned (vi 0) ∧ Sat w0 (cxB h p most * (tblP p (setP ps i g { getX ps i g with v3 := (getX ps i g).v3 + 1 }) free * (F))) w' := by
  have hB0 : Sat w0 (pc w.heap.size 30 [vi i, vu g] * (cxB h p most * (tblP p ps free * (F)))) (w.alloc (.cells #[vi i, vu g] 30)) := hS.alloc (.cells #[vi i, vu g] 30)
  have b0 := hB0.cell 0 rfl
  have b1 := hB0.cell 1 rfl
  have hB : Sat w0 (cxB h p most * (tblP p ps free * (pc w.heap.size 30 [vi i, vu g] * (F)))) (w.alloc (.cells #[vi i, vu g] 30)) := hB0.cast (by ac_rfl)
  have HG := Lib.hid (cx_find hB i g)
  rw [he] at HG
  clear hB hB0
  have HSET := Lib.hid (fun (w' : World) (G : Hp) (h' : Sat w0 (tblP p ps free * G) w') (x : El) => set_ h' i g x)
  rw [he] at HSET
  clear hS he
  generalize getX ps i g = x at *
  obtain ⟨v0, v1, a2, n2, c2, v3⟩ := x
  have hwr : IntKind.i64.wrap (v3 + 1) = v3 + 1 := IntWalk.i64_in _ (by simp only at hw; omega)
  clear hw
  go_enter Try.func15, Try.ntmps15
  go_wp2_with (go_at_call 38; refine HG.out.mono ?_; rintro e w1 ⟨rfl, hS1⟩; have HS1 := Lib.hid hS1; have hA : Sat w0 (pc w1.heap.size 49 (elC ⟨v0, v1, a2, n2, c2, v3⟩) * _) (w1.alloc (elO ⟨v0, v1, a2, n2, c2, v3⟩)) := hS1.alloc (elO ⟨v0, v1, a2, n2, c2, v3⟩); have H1 := Lib.hid hA; have hx0 := hA.cell 0 rfl; have hx1 := hA.cell 1 rfl; have hx2 := hA.cell 2 rfl; have hx3 := hA.cell 3 rfl; clear hA hS1)
  have hA2 : Sat w0 (pc w1.heap.size 49 (elC ⟨v0, v1, a2, n2, c2, v3 + 1⟩) * (cxB h p most * (tblP p ps free * (pc w.heap.size 30 [vi i, vu g] * (F))))) (w1.alloc (elO ⟨v0, v1, a2, n2, c2, v3 + 1⟩)) := HS1.out.alloc _
  have HA2 := Lib.hid hA2
  clear hA2
  have d0 := (HA2.out).pull2.cell 0 rfl; have d1 := (HA2.out).pull4.cell 0 rfl; have d2 := (HA2.out).pull4.cell 1 rfl; have d3 := (HA2.out).cell 0 rfl; have d4 := (HA2.out).cell 1 rfl; have d5 := (HA2.out).cell 2 rfl; have d6 := (HA2.out).cell 3 rfl
  go_region_held3 (fun w' => w'.cell? ⟨h, 0, none⟩ = some (vp p) ∧ w'.cell? ⟨w.heap.size, 0, none⟩ = some (vi i) ∧ w'.cell? ⟨w.heap.size, 1, none⟩ = some (vu g) ∧ w'.cell? ⟨w1.heap.size, 0, none⟩ = some (vu v0) ∧ w'.cell? ⟨w1.heap.size, 1, none⟩ = some (vu v1) ∧ w'.cell? ⟨w1.heap.size, 2, none⟩ = some (.slice a2 n2 c2) ∧ w'.cell? ⟨w1.heap.size, 3, none⟩ = some (vi (v3 + 1)))
    (first | exact ⟨d0, d1, d2, d3, d4, d5, d6⟩ | exact ⟨e0, e1, e2, e3, e4, e5, e6⟩ | go_keep)
    ((go_at_call 41; refine (HSET.out _ _ ((HA2.out.drew).cast (show _ = tblP p ps free * (cxB h p most * (pc w1.heap.size 49 (elC ⟨v0, v1, a2, n2, c2, v3 + 1⟩) * (pc w.heap.size 30 [vi i, vu g] * (F)))) by ac_rfl)) ⟨v0, v1, a2, n2, c2, v3 + 1⟩).mono ?_; rintro e w3 ⟨rfl, hS3⟩; have H3 := Lib.hid ((hS3).cast (show _ = pc w1.heap.size 49 (elC ⟨v0, v1, a2, n2, c2, v3 + 1⟩) * (cxB h p most * (tblP p (setP ps i g ⟨v0, v1, a2, n2, c2, v3 + 1⟩) free * (pc w.heap.size 30 [vi i, vu g] * (F)))) by ac_rfl)); clear hS3; have e0 := (H3.out).pull2.cell 0 rfl; have e1 := (H3.out).pull4.cell 0 rfl; have e2 := (H3.out).pull4.cell 1 rfl; have e3 := (H3.out).cell 0 rfl; have e4 := (H3.out).cell 1 rfl; have e5 := (H3.out).cell 2 rfl; have e6 := (H3.out).cell 3 rfl))
  go_wp2
  go_ret
  exact ⟨rfl, ((H3.out).cast (show _ = pc w1.heap.size 49 (elC ⟨v0, v1, a2, n2, c2, v3 + 1⟩) * (pc w.heap.size 30 [vi i, vu g] * (cxB h p most * (tblP p (setP ps i g ⟨v0, v1, a2, n2, c2, v3 + 1⟩) free * (F)))) by ac_rfl)).dropL.dropL⟩
set_option maxRecDepth 100000 in
set_option maxHeartbeats 2000000 in
theorem unbind_zero (hS : Sat w0 (cxB h p most * (tblP p ps free * (F))) w) (i g : Int) (he : getE ps i g = 0) (hz : (getX ps i g).v3 = 0) :
    Calls Try.prog 31 #[vp h, vr i g] w fun e w' => e = .returned (vi 5) ∧ Sat w0 (cxB h p most * (tblP p ps free * (F))) w' := by
  have hB0 : Sat w0 (pc w.heap.size 30 [vi i, vu g] * (cxB h p most * (tblP p ps free * (F)))) (w.alloc (.cells #[vi i, vu g] 30)) := hS.alloc (.cells #[vi i, vu g] 30)
  have b0 := hB0.cell 0 rfl
  have b1 := hB0.cell 1 rfl
  have hB : Sat w0 (cxB h p most * (tblP p ps free * (pc w.heap.size 30 [vi i, vu g] * (F)))) (w.alloc (.cells #[vi i, vu g] 30)) := hB0.cast (by ac_rfl)
  have HG := Lib.hid (cx_find hB i g)
  rw [he] at HG
  clear hB hB0
  clear hS he
  generalize getX ps i g = x at *
  obtain ⟨v0, v1, a2, n2, c2, v3⟩ := x
  have hz' : v3 = 0 := hz
  subst hz'
  clear hz
  go_enter Try.func31, Try.ntmps31
  go_wp2_with (go_at_call 38; refine HG.out.mono ?_; rintro e w1 ⟨rfl, hS1⟩; have HS1 := Lib.hid hS1; have hA : Sat w0 (pc w1.heap.size 49 (elC ⟨v0, v1, a2, n2, c2, 0⟩) * _) (w1.alloc (elO ⟨v0, v1, a2, n2, c2, 0⟩)) := hS1.alloc (elO ⟨v0, v1, a2, n2, c2, 0⟩); have H1 := Lib.hid hA; have hx0 := hA.cell 0 rfl; have hx1 := hA.cell 1 rfl; have hx2 := hA.cell 2 rfl; have hx3 := hA.cell 3 rfl; clear hA hS1)
  go_ret
  exact ⟨rfl, ((H1.out).cast (show _ = pc w1.heap.size 49 (elC ⟨v0, v1, a2, n2, c2, 0⟩) * (pc w.heap.size 30 [vi i, vu g] * (cxB h p most * (tblP p ps free * (F)))) by ac_rfl)).dropL.dropL⟩
set_option maxRecDepth 100000 in
set_option maxHeartbeats 2000000 in
theorem unbind_yes (hS : Sat w0 (cxB h p most * (tblP p ps free * (F))) w) (i g : Int) (he : getE ps i g = 0) (hw : 0 < (getX ps i g).v3 ∧ (getX ps i g).v3 ≤ 1000000) :
    Calls Try.prog 31 #[vp h, vr i g] w fun e w' => e = .returned (vi 0) ∧ Sat w0 (cxB h p most * (tblP p (setP ps i g { getX ps i g with v3 := (getX ps i g).v3 - 1 }) free * (F))) w' := by
  have hB0 : Sat w0 (pc w.heap.size 30 [vi i, vu g] * (cxB h p most * (tblP p ps free * (F)))) (w.alloc (.cells #[vi i, vu g] 30)) := hS.alloc (.cells #[vi i, vu g] 30)
  have b0 := hB0.cell 0 rfl
  have b1 := hB0.cell 1 rfl
  have hB : Sat w0 (cxB h p most * (tblP p ps free * (pc w.heap.size 30 [vi i, vu g] * (F)))) (w.alloc (.cells #[vi i, vu g] 30)) := hB0.cast (by ac_rfl)
  have HG := Lib.hid (cx_find hB i g)
  rw [he] at HG
  clear hB hB0
  have HSET := Lib.hid (fun (w' : World) (G : Hp) (h' : Sat w0 (tblP p ps free * G) w') (x : El) => set_ h' i g x)
  rw [he] at HSET
  clear hS he
  generalize getX ps i g = x at *
  obtain ⟨v0, v1, a2, n2, c2, v3⟩ := x
  have hwr : IntKind.i64.wrap (v3 - 1) = v3 - 1 := IntWalk.i64_in _ (by simp only at hw; omega)
  have hne : (v3 == 0) = false := beq_eq_false_iff_ne.2 (by simp only at hw; omega)
  clear hw
  go_enter Try.func31, Try.ntmps31
  go_wp2_with (go_at_call 38; refine HG.out.mono ?_; rintro e w1 ⟨rfl, hS1⟩; have HS1 := Lib.hid hS1; have hA : Sat w0 (pc w1.heap.size 49 (elC ⟨v0, v1, a2, n2, c2, v3⟩) * _) (w1.alloc (elO ⟨v0, v1, a2, n2, c2, v3⟩)) := hS1.alloc (elO ⟨v0, v1, a2, n2, c2, v3⟩); have H1 := Lib.hid hA; have hx0 := hA.cell 0 rfl; have hx1 := hA.cell 1 rfl; have hx2 := hA.cell 2 rfl; have hx3 := hA.cell 3 rfl; clear hA hS1)
  have hA2 : Sat w0 (pc w1.heap.size 49 (elC ⟨v0, v1, a2, n2, c2, v3 - 1⟩) * (cxB h p most * (tblP p ps free * (pc w.heap.size 30 [vi i, vu g] * (F))))) (w1.alloc (elO ⟨v0, v1, a2, n2, c2, v3 - 1⟩)) := HS1.out.alloc _
  have HA2 := Lib.hid hA2
  clear hA2
  have d0 := (HA2.out).pull2.cell 0 rfl; have d1 := (HA2.out).pull4.cell 0 rfl; have d2 := (HA2.out).pull4.cell 1 rfl; have d3 := (HA2.out).cell 0 rfl; have d4 := (HA2.out).cell 1 rfl; have d5 := (HA2.out).cell 2 rfl; have d6 := (HA2.out).cell 3 rfl
  go_region_held3 (fun w' => w'.cell? ⟨h, 0, none⟩ = some (vp p) ∧ w'.cell? ⟨w.heap.size, 0, none⟩ = some (vi i) ∧ w'.cell? ⟨w.heap.size, 1, none⟩ = some (vu g) ∧ w'.cell? ⟨w1.heap.size, 0, none⟩ = some (vu v0) ∧ w'.cell? ⟨w1.heap.size, 1, none⟩ = some (vu v1) ∧ w'.cell? ⟨w1.heap.size, 2, none⟩ = some (.slice a2 n2 c2) ∧ w'.cell? ⟨w1.heap.size, 3, none⟩ = some (vi (v3 - 1)))
    (first | exact ⟨d0, d1, d2, d3, d4, d5, d6⟩ | exact ⟨e0, e1, e2, e3, e4, e5, e6⟩ | go_keep)
    ((go_at_call 41; refine (HSET.out _ _ ((HA2.out.drew).cast (show _ = tblP p ps free * (cxB h p most * (pc w1.heap.size 49 (elC ⟨v0, v1, a2, n2, c2, v3 - 1⟩) * (pc w.heap.size 30 [vi i, vu g] * (F)))) by ac_rfl)) ⟨v0, v1, a2, n2, c2, v3 - 1⟩).mono ?_; rintro e w3 ⟨rfl, hS3⟩; have H3 := Lib.hid ((hS3).cast (show _ = pc w1.heap.size 49 (elC ⟨v0, v1, a2, n2, c2, v3 - 1⟩) * (cxB h p most * (tblP p (setP ps i g ⟨v0, v1, a2, n2, c2, v3 - 1⟩) free * (pc w.heap.size 30 [vi i, vu g] * (F)))) by ac_rfl)); clear hS3; have e0 := (H3.out).pull2.cell 0 rfl; have e1 := (H3.out).pull4.cell 0 rfl; have e2 := (H3.out).pull4.cell 1 rfl; have e3 := (H3.out).cell 0 rfl; have e4 := (H3.out).cell 1 rfl; have e5 := (H3.out).cell 2 rfl; have e6 := (H3.out).cell 3 rfl))
  go_wp2
  go_ret
  exact ⟨rfl, ((H3.out).cast (show _ = pc w1.heap.size 49 (elC ⟨v0, v1, a2, n2, c2, v3 - 1⟩) * (pc w.heap.size 30 [vi i, vu g] * (cxB h p most * (tblP p (setP ps i g ⟨v0, v1, a2, n2, c2, v3 - 1⟩) free * (F)))) by ac_rfl)).dropL.dropL⟩
set_option maxRecDepth 100000 in
set_option maxHeartbeats 2000000 in
theorem drop_busy (hS : Sat w0 (cxB h p most * (tblP p ps free * (F))) w) (i g : Int) (he : getE ps i g = 0) (hz : 0 < (getX ps i g).v3) :
    Calls Try.prog 22 #[vp h, vr i g] w fun e w' => e = .returned (vi 14) ∧ Sat w0 (cxB h p most * (tblP p ps free * (F))) w' := by
  have hB0 : Sat w0 (pc w.heap.size 30 [vi i, vu g] * (cxB h p most * (tblP p ps free * (F)))) (w.alloc (.cells #[vi i, vu g] 30)) := hS.alloc (.cells #[vi i, vu g] 30)
  have b0 := hB0.cell 0 rfl
  have b1 := hB0.cell 1 rfl
  have hB : Sat w0 (cxB h p most * (tblP p ps free * (pc w.heap.size 30 [vi i, vu g] * (F)))) (w.alloc (.cells #[vi i, vu g] 30)) := hB0.cast (by ac_rfl)
  have HG := Lib.hid (cx_find hB i g)
  rw [he] at HG
  clear hB hB0
  clear hS he
  generalize getX ps i g = x at *
  obtain ⟨v0, v1, a2, n2, c2, v3⟩ := x
  have hz' : 0 < v3 := hz
  clear hz
  go_enter Try.func22, Try.ntmps22
  go_wp2_with (go_at_call 38; refine HG.out.mono ?_; rintro e w1 ⟨rfl, hS1⟩; have HS1 := Lib.hid hS1; have hA : Sat w0 (pc w1.heap.size 49 (elC ⟨v0, v1, a2, n2, c2, v3⟩) * _) (w1.alloc (elO ⟨v0, v1, a2, n2, c2, v3⟩)) := hS1.alloc (elO ⟨v0, v1, a2, n2, c2, v3⟩); have H1 := Lib.hid hA; have hx0 := hA.cell 0 rfl; have hx1 := hA.cell 1 rfl; have hx2 := hA.cell 2 rfl; have hx3 := hA.cell 3 rfl; clear hA hS1)
  go_ret
  exact ⟨rfl, ((H1.out).cast (show _ = pc w1.heap.size 49 (elC ⟨v0, v1, a2, n2, c2, v3⟩) * (pc w.heap.size 30 [vi i, vu g] * (cxB h p most * (tblP p ps free * (F)))) by ac_rfl)).dropL.dropL⟩
set_option maxRecDepth 100000 in
set_option maxHeartbeats 2000000 in
theorem cx_drop_yes (hS : Sat w0 (cxB h p most * (tblP p ps free * (F))) w) (i g : Int) {k : Nat} {a : Pl} (hA : isAt ps i g = some (k, a)) (hz : (getX ps i g).v3 = 0) (hg : a.gen < 18446744073709551614) :
    Calls Try.prog 22 #[vp h, vr i g] w fun e w' => e = .returned (vi 0) ∧ Sat w0 (cxB h p most * (tblP p (ps.set k { a with gen := a.gen + 1, there := false, x := ez }) (free ++ [k]) * (F))) w' := by
  have he : getE ps i g = 0 := by unfold getE; rw [hA]
  have hB0 : Sat w0 (pc w.heap.size 30 [vi i, vu g] * (cxB h p most * (tblP p ps free * (F)))) (w.alloc (.cells #[vi i, vu g] 30)) := hS.alloc (.cells #[vi i, vu g] 30)
  have b0 := hB0.cell 0 rfl
  have b1 := hB0.cell 1 rfl
  have hB : Sat w0 (cxB h p most * (tblP p ps free * (pc w.heap.size 30 [vi i, vu g] * (F)))) (w.alloc (.cells #[vi i, vu g] 30)) := hB0.cast (by ac_rfl)
  have HG := Lib.hid (cx_find hB i g)
  rw [he] at HG
  clear hB hB0
  have HD := Lib.hid (fun (w' : World) (G : Hp) (h' : Sat w0 (tblP p ps free * G) w') => drop_yes h' i g hA hg)
  clear hS he hg
  obtain ⟨psn, hpsn⟩ : ∃ q, q = ps.set k { a with gen := a.gen + 1, there := false, x := ez } := ⟨_, rfl⟩
  rw [← hpsn] at HD ⊢
  clear hpsn hA
  generalize getX ps i g = x at *
  obtain ⟨v0, v1, a2, n2, c2, v3⟩ := x
  have hz' : v3 = 0 := hz
  subst hz'
  clear hz
  go_enter Try.func22, Try.ntmps22
  go_wp2_with (go_at_call 38; refine HG.out.mono ?_; rintro e w1 ⟨rfl, hS1⟩; have HS1 := Lib.hid hS1; have hA : Sat w0 (pc w1.heap.size 49 (elC ⟨v0, v1, a2, n2, c2, 0⟩) * _) (w1.alloc (elO ⟨v0, v1, a2, n2, c2, 0⟩)) := hS1.alloc (elO ⟨v0, v1, a2, n2, c2, 0⟩); have H1 := Lib.hid hA; have hx0 := hA.cell 0 rfl; have hx1 := hA.cell 1 rfl; have hx2 := hA.cell 2 rfl; have hx3 := hA.cell 3 rfl; clear hA hS1)
  have d0 := (H1.out).pull2.cell 0 rfl; have d1 := (H1.out).pull4.cell 0 rfl; have d2 := (H1.out).pull4.cell 1 rfl
  go_region_held3 (fun w' => w'.cell? ⟨h, 0, none⟩ = some (vp p) ∧ w'.cell? ⟨w.heap.size, 0, none⟩ = some (vi i) ∧ w'.cell? ⟨w.heap.size, 1, none⟩ = some (vu g))
    (first | exact ⟨d0, d1, d2⟩ | exact ⟨e0, e1, e2⟩ | go_keep)
    ((go_at_call 56; refine (HD.out _ _ ((H1.out.drew).cast (show _ = tblP p ps free * (cxB h p most * (pc w1.heap.size 49 (elC ⟨v0, v1, a2, n2, c2, 0⟩) * (pc w.heap.size 30 [vi i, vu g] * (F)))) by ac_rfl))).mono ?_; rintro e w3 ⟨rfl, hS3⟩; have H3 := Lib.hid ((hS3).cast (show _ = pc w1.heap.size 49 (elC ⟨v0, v1, a2, n2, c2, 0⟩) * (cxB h p most * (tblP p psn (free ++ [k]) * (pc w.heap.size 30 [vi i, vu g] * (F)))) by ac_rfl)); clear hS3; have e0 := (H3.out).pull2.cell 0 rfl; have e1 := (H3.out).pull4.cell 0 rfl; have e2 := (H3.out).pull4.cell 1 rfl))
  go_wp2
  go_ret
  exact ⟨rfl, ((H3.out).cast (show _ = pc w1.heap.size 49 (elC ⟨v0, v1, a2, n2, c2, 0⟩) * (pc w.heap.size 30 [vi i, vu g] * (cxB h p most * (tblP p psn (free ++ [k]) * (F)))) by ac_rfl)).dropL.dropL⟩
end
end Go.Proofs.Ytknodagcmachiaa.Cn
