/-
  Package context: Can, Next, Charge. No statement is proved here.
-/
import Derived.Test.YtknodagcmachiaaCn3
import Derived.Test.YtknodagcmachiaaCx1
import Derived.Test.YtknodagcmachiaaFi21
import Derived.Test.YtknodagcmachiaaFi20
namespace Go.Proofs.Ytknodagcmachiaa.Cn
open Go.RowKit Ac Fi
set_option linter.unusedVariables false
set_option linter.unusedSimpArgs false

section
variable {w0 w : World} {F : Hp} {h p : Nat} {most : Int} {ps : List Pl} {free : List Nat} {L : Blks} {l : List Rf}
set_option maxRecDepth 100000 in
set_option maxHeartbeats 2000000 in
theorem can_no (hS : Sat w0 (cxB h p most * (tblP p ps free * (plB L * (F)))) w) (i g : Int) (now : Int) (he : getE ps i g = 11) :
    Calls Try.prog 12 #[vp h, vr i g, vu now] w fun e w' => e = .returned (.bool false) ∧ Sat w0 (cxB h p most * (tblP p ps free * (plB L * (F)))) w' := by
  have hB0 : Sat w0 (pc w.heap.size 30 [vi i, vu g] * (cxB h p most * (tblP p ps free * (plB L * (F))))) (w.alloc (.cells #[vi i, vu g] 30)) := hS.alloc (.cells #[vi i, vu g] 30)
  have b0 := hB0.cell 0 rfl
  have b1 := hB0.cell 1 rfl
  have hB : Sat w0 (cxB h p most * (tblP p ps free * (pc w.heap.size 30 [vi i, vu g] * (plB L * (F))))) (w.alloc (.cells #[vi i, vu g] 30)) := hB0.cast (by ac_rfl)
  have HG := Lib.hid (cx_find hB i g)
  rw [he] at HG
  clear hB hB0
  clear hS he
  generalize getX ps i g = x at *
  obtain ⟨v0, v1, a2, n2, c2, v3⟩ := x
  go_enter Try.func12, Try.ntmps12
  go_wp2_with (go_at_call 38; refine HG.out.mono ?_; rintro e w1 ⟨rfl, hS1⟩; have HS1 := Lib.hid hS1; have hA : Sat w0 (pc w1.heap.size 49 (elC ⟨v0, v1, a2, n2, c2, v3⟩) * _) (w1.alloc (elO ⟨v0, v1, a2, n2, c2, v3⟩)) := hS1.alloc (elO ⟨v0, v1, a2, n2, c2, v3⟩); have H1 := Lib.hid hA; have hx0 := hA.cell 0 rfl; have hx1 := hA.cell 1 rfl; have hx2 := hA.cell 2 rfl; have hx3 := hA.cell 3 rfl; clear hA hS1)
  go_ret
  exact ⟨rfl, ((H1.out).cast (show _ = pc w1.heap.size 49 (elC ⟨v0, v1, a2, n2, c2, v3⟩) * (pc w.heap.size 30 [vi i, vu g] * (cxB h p most * (tblP p ps free * (plB L * (F))))) by ac_rfl)).dropL.dropL⟩
set_option maxRecDepth 100000 in
set_option maxHeartbeats 2000000 in
theorem can_yes (hS : Sat w0 (cxB h p most * (tblP p ps free * (plB L * (F)))) w) (i g : Int) (now : Int) (he : getE ps i g = 0) (hi : InP L (.slice (getX ps i g).a2 (getX ps i g).n2 (getX ps i g).c2) l) (hl : l.length ≤ 1000) :
    Calls Try.prog 12 #[vp h, vr i g, vu now] w fun e w' => e = .returned (.bool (decide (0 < thereV l now))) ∧ Sat w0 (cxB h p most * (tblP p ps free * (plB L * (F)))) w' := by
  have hB0 : Sat w0 (pc w.heap.size 30 [vi i, vu g] * (cxB h p most * (tblP p ps free * (plB L * (F))))) (w.alloc (.cells #[vi i, vu g] 30)) := hS.alloc (.cells #[vi i, vu g] 30)
  have b0 := hB0.cell 0 rfl
  have b1 := hB0.cell 1 rfl
  have hB : Sat w0 (cxB h p most * (tblP p ps free * (pc w.heap.size 30 [vi i, vu g] * (plB L * (F))))) (w.alloc (.cells #[vi i, vu g] 30)) := hB0.cast (by ac_rfl)
  have HG := Lib.hid (cx_find hB i g)
  rw [he] at HG
  clear hB hB0
  have HI := Lib.hid hi
  clear hS he hi
  generalize getX ps i g = x at *
  obtain ⟨v0, v1, a2, n2, c2, v3⟩ := x
  go_enter Try.func12, Try.ntmps12
  go_wp2_with (first
    | (go_at_call 38; refine HG.out.mono ?_; rintro e w1 ⟨rfl, hS1⟩; have HS1 := Lib.hid hS1; have hA : Sat w0 (pc w1.heap.size 49 (elC ⟨v0, v1, a2, n2, c2, v3⟩) * _) (w1.alloc (elO ⟨v0, v1, a2, n2, c2, v3⟩)) := hS1.alloc (elO ⟨v0, v1, a2, n2, c2, v3⟩); have H1 := Lib.hid hA; have hx0 := hA.cell 0 rfl; have hx1 := hA.cell 1 rfl; have hx2 := hA.cell 2 rfl; have hx3 := hA.cell 3 rfl; clear hA hS1)
    | (go_at_call 39; refine (there_ l now _ _ (Sat.plRd ((H1.out).cast (show _ = plB L * (pc w1.heap.size 49 (elC ⟨v0, v1, a2, n2, c2, v3⟩) * (pc w.heap.size 30 [vi i, vu g] * (cxB h p most * (tblP p ps free * (F))))) by ac_rfl)) HI.out) (by omega)).mono ?_; rintro e w2 ⟨rfl, hb⟩; have H2 := Lib.hid (Sat.after H1.out hb); clear hb))
  go_ret
  exact ⟨by simp, ((H2.out).cast (show _ = pc w1.heap.size 49 (elC ⟨v0, v1, a2, n2, c2, v3⟩) * (pc w.heap.size 30 [vi i, vu g] * (cxB h p most * (tblP p ps free * (plB L * (F))))) by ac_rfl)).dropL.dropL⟩
set_option maxRecDepth 100000 in
set_option maxHeartbeats 2000000 in
theorem next_no (hS : Sat w0 (cxB h p most * (tblP p ps free * (plB L * (F)))) w) (i g : Int) (now : Int) (he : getE ps i g = 11) :
    Calls Try.prog 30 #[vp h, vr i g, vu now] w fun e w' => e = .returned (addV none) ∧ Sat w0 (cxB h p most * (tblP p ps free * (plB L * (F)))) w' := by
  have hB0 : Sat w0 (pc w.heap.size 30 [vi i, vu g] * (cxB h p most * (tblP p ps free * (plB L * (F))))) (w.alloc (.cells #[vi i, vu g] 30)) := hS.alloc (.cells #[vi i, vu g] 30)
  have b0 := hB0.cell 0 rfl
  have b1 := hB0.cell 1 rfl
  have hB : Sat w0 (cxB h p most * (tblP p ps free * (pc w.heap.size 30 [vi i, vu g] * (plB L * (F))))) (w.alloc (.cells #[vi i, vu g] 30)) := hB0.cast (by ac_rfl)
  have HG := Lib.hid (cx_find hB i g)
  rw [he] at HG
  clear hB hB0
  clear hS he
  generalize getX ps i g = x at *
  obtain ⟨v0, v1, a2, n2, c2, v3⟩ := x
  go_enter Try.func30, Try.ntmps30
  go_wp2_with (go_at_call 38; refine HG.out.mono ?_; rintro e w1 ⟨rfl, hS1⟩; have HS1 := Lib.hid hS1; have hA : Sat w0 (pc w1.heap.size 49 (elC ⟨v0, v1, a2, n2, c2, v3⟩) * _) (w1.alloc (elO ⟨v0, v1, a2, n2, c2, v3⟩)) := hS1.alloc (elO ⟨v0, v1, a2, n2, c2, v3⟩); have H1 := Lib.hid hA; have hx0 := hA.cell 0 rfl; have hx1 := hA.cell 1 rfl; have hx2 := hA.cell 2 rfl; have hx3 := hA.cell 3 rfl; clear hA hS1)
  go_ret2
  exact ⟨rfl, ((H1.out).cast (show _ = pc w1.heap.size 49 (elC ⟨v0, v1, a2, n2, c2, v3⟩) * (pc w.heap.size 30 [vi i, vu g] * (cxB h p most * (tblP p ps free * (plB L * (F))))) by ac_rfl)).dropL.dropL⟩
set_option maxRecDepth 100000 in
set_option maxHeartbeats 2000000 in
theorem next_yes (hS : Sat w0 (cxB h p most * (tblP p ps free * (plB L * (F)))) w) (i g : Int) (now : Int) (he : getE ps i g = 0) (hi : InP L (.slice (getX ps i g).a2 (getX ps i g).n2 (getX ps i g).c2) l) (hl : l.length ≤ 1000) :
    Calls Try.prog 30 #[vp h, vr i g, vu now] w fun e w' => e = .returned (addV (nextP l now)) ∧ Sat w0 (cxB h p most * (tblP p ps free * (plB L * (F)))) w' := by
  have hB0 : Sat w0 (pc w.heap.size 30 [vi i, vu g] * (cxB h p most * (tblP p ps free * (plB L * (F))))) (w.alloc (.cells #[vi i, vu g] 30)) := hS.alloc (.cells #[vi i, vu g] 30)
  have b0 := hB0.cell 0 rfl
  have b1 := hB0.cell 1 rfl
  have hB : Sat w0 (cxB h p most * (tblP p ps free * (pc w.heap.size 30 [vi i, vu g] * (plB L * (F))))) (w.alloc (.cells #[vi i, vu g] 30)) := hB0.cast (by ac_rfl)
  have HG := Lib.hid (cx_find hB i g)
  rw [he] at HG
  clear hB hB0
  have HI := Lib.hid hi
  have HN := Lib.hid (fun v w (h : RdF w v l) => next_ l now v w h (by omega))
  obtain ⟨nx, nb, hnx, _⟩ := addV_form (nextP l now)
  rw [hnx] at HN ⊢
  clear hS he hi hnx
  generalize getX ps i g = x at *
  obtain ⟨v0, v1, a2, n2, c2, v3⟩ := x
  go_enter Try.func30, Try.ntmps30
  go_wp2_with (first
    | (go_at_call 38; refine HG.out.mono ?_; rintro e w1 ⟨rfl, hS1⟩; have HS1 := Lib.hid hS1; have hA : Sat w0 (pc w1.heap.size 49 (elC ⟨v0, v1, a2, n2, c2, v3⟩) * _) (w1.alloc (elO ⟨v0, v1, a2, n2, c2, v3⟩)) := hS1.alloc (elO ⟨v0, v1, a2, n2, c2, v3⟩); have H1 := Lib.hid hA; have hx0 := hA.cell 0 rfl; have hx1 := hA.cell 1 rfl; have hx2 := hA.cell 2 rfl; have hx3 := hA.cell 3 rfl; clear hA hS1)
    | (go_at_call 63; refine (HN.out _ _ (Sat.plRd ((H1.out).cast (show _ = plB L * (pc w1.heap.size 49 (elC ⟨v0, v1, a2, n2, c2, v3⟩) * (pc w.heap.size 30 [vi i, vu g] * (cxB h p most * (tblP p ps free * (F))))) by ac_rfl)) HI.out)).mono ?_; rintro e w2 ⟨rfl, hb⟩; have H2 := Lib.hid (Sat.after H1.out hb); clear hb))
  go_ret2
  exact ⟨rfl, ((H2.out).cast (show _ = pc w1.heap.size 49 (elC ⟨v0, v1, a2, n2, c2, v3⟩) * (pc w.heap.size 30 [vi i, vu g] * (cxB h p most * (tblP p ps free * (plB L * (F))))) by ac_rfl)).dropL.dropL⟩
set_option maxRecDepth 100000 in
set_option maxHeartbeats 2000000 in
theorem charge_stale (hS : Sat w0 (cxB h p most * (tblP p ps free * (plB L * (F)))) w) (i g : Int) (now : Int) (he : getE ps i g = 11) :
    Calls Try.prog 13 #[vp h, vr i g, vu now] w fun e w' => e = .returned (.bool false) ∧ Sat w0 (cxB h p most * (tblP p ps free * (plB L * (F)))) w' := by
  have hB0 : Sat w0 (pc w.heap.size 30 [vi i, vu g] * (cxB h p most * (tblP p ps free * (plB L * (F))))) (w.alloc (.cells #[vi i, vu g] 30)) := hS.alloc (.cells #[vi i, vu g] 30)
  have b0 := hB0.cell 0 rfl
  have b1 := hB0.cell 1 rfl
  have hB : Sat w0 (cxB h p most * (tblP p ps free * (pc w.heap.size 30 [vi i, vu g] * (plB L * (F))))) (w.alloc (.cells #[vi i, vu g] 30)) := hB0.cast (by ac_rfl)
  have HG := Lib.hid (cx_find hB i g)
  rw [he] at HG
  clear hB hB0
  clear hS he
  generalize getX ps i g = x at *
  obtain ⟨v0, v1, a2, n2, c2, v3⟩ := x
  go_enter Try.func13, Try.ntmps13
  go_wp2_with (go_at_call 38; refine HG.out.mono ?_; rintro e w1 ⟨rfl, hS1⟩; have HS1 := Lib.hid hS1; have hA : Sat w0 (pc w1.heap.size 49 (elC ⟨v0, v1, a2, n2, c2, v3⟩) * _) (w1.alloc (elO ⟨v0, v1, a2, n2, c2, v3⟩)) := hS1.alloc (elO ⟨v0, v1, a2, n2, c2, v3⟩); have H1 := Lib.hid hA; have hx0 := hA.cell 0 rfl; have hx1 := hA.cell 1 rfl; have hx2 := hA.cell 2 rfl; have hx3 := hA.cell 3 rfl; clear hA hS1)
  go_ret
  exact ⟨rfl, ((H1.out).cast (show _ = pc w1.heap.size 49 (elC ⟨v0, v1, a2, n2, c2, v3⟩) * (pc w.heap.size 30 [vi i, vu g] * (cxB h p most * (tblP p ps free * (plB L * (F))))) by ac_rfl)).dropL.dropL⟩
set_option maxRecDepth 100000 in
set_option maxHeartbeats 2000000 in
theorem charge_not (hS : Sat w0 (cxB h p most * (tblP p ps free * (plB L * (F)))) w) (i g : Int) (now : Int) (he : getE ps i g = 0) (hi : InP L (.slice (getX ps i g).a2 (getX ps i g).n2 (getX ps i g).c2) l) (hl : l.length ≤ 1000) (hn : U64 now) (hp : U64 (getX ps i g).v1) (hc : ¬ ChOk l now (getX ps i g).v1 most) :
    Calls Try.prog 13 #[vp h, vr i g, vu now] w fun e w' => e = .returned (.bool false) ∧ Sat w0 (cxB h p most * (tblP p ps free * (plB L * (F)))) w' := by
  have hB0 : Sat w0 (pc w.heap.size 30 [vi i, vu g] * (cxB h p most * (tblP p ps free * (plB L * (F))))) (w.alloc (.cells #[vi i, vu g] 30)) := hS.alloc (.cells #[vi i, vu g] 30)
  have b0 := hB0.cell 0 rfl
  have b1 := hB0.cell 1 rfl
  have hB : Sat w0 (cxB h p most * (tblP p ps free * (pc w.heap.size 30 [vi i, vu g] * (plB L * (F))))) (w.alloc (.cells #[vi i, vu g] 30)) := hB0.cast (by ac_rfl)
  have HG := Lib.hid (cx_find hB i g)
  rw [he] at HG
  clear hB hB0
  have HI := Lib.hid hi
  have HN := Lib.hid (fun v w (h : RdF w v l) => charge_no (w := w) (v := v) h (by omega) hn hp hc)
  clear hS he hi hn hp hc
  generalize getX ps i g = x at *
  obtain ⟨v0, v1, a2, n2, c2, v3⟩ := x
  go_enter Try.func13, Try.ntmps13
  go_wp2_with (go_at_call 38; refine HG.out.mono ?_; rintro e w1 ⟨rfl, hS1⟩; have HS1 := Lib.hid hS1; have hA : Sat w0 (pc w1.heap.size 49 (elC ⟨v0, v1, a2, n2, c2, v3⟩) * _) (w1.alloc (elO ⟨v0, v1, a2, n2, c2, v3⟩)) := hS1.alloc (elO ⟨v0, v1, a2, n2, c2, v3⟩); have H1 := Lib.hid hA; have hx0 := hA.cell 0 rfl; have hx1 := hA.cell 1 rfl; have hx2 := hA.cell 2 rfl; have hx3 := hA.cell 3 rfl; clear hA hS1)
  have d0 := (H1.out).pull2.cell 0 rfl; have d1 := (H1.out).pull2.cell 1 rfl; have d2 := (H1.out).pull4.cell 0 rfl; have d3 := (H1.out).pull4.cell 1 rfl; have d4 := (H1.out).cell 0 rfl; have d5 := (H1.out).cell 1 rfl; have d6 := (H1.out).cell 2 rfl; have d7 := (H1.out).cell 3 rfl
  go_region_held3 (fun w' => w'.cell? ⟨h, 0, none⟩ = some (vp p) ∧ w'.cell? ⟨h, 1, none⟩ = some (vi most) ∧ w'.cell? ⟨w.heap.size, 0, none⟩ = some (vi i) ∧ w'.cell? ⟨w.heap.size, 1, none⟩ = some (vu g) ∧ w'.cell? ⟨w1.heap.size, 0, none⟩ = some (vu v0) ∧ w'.cell? ⟨w1.heap.size, 1, none⟩ = some (vu v1) ∧ w'.cell? ⟨w1.heap.size, 2, none⟩ = some (.slice a2 n2 c2) ∧ w'.cell? ⟨w1.heap.size, 3, none⟩ = some (vi v3))
    (first | exact ⟨d0, d1, d2, d3, d4, d5, d6, d7⟩ | exact ⟨q0, q1, q2, q3, q4, q5, q6, q7⟩ | go_keep)
    ((go_at_call 40; refine (HN.out _ _ (Sat.plRd ((H1.out.drew).cast (show _ = plB L * (pc w1.heap.size 49 (elC ⟨v0, v1, a2, n2, c2, v3⟩) * (pc w.heap.size 30 [vi i, vu g] * (cxB h p most * (tblP p ps free * (F))))) by ac_rfl)) HI.out)).mono ?_; rintro e w2 ⟨rfl, hb⟩; have H2 := Lib.hid (Sat.after H1.out.drew hb); clear hb; have q0 := (H2.out).pull2.cell 0 rfl; have q1 := (H2.out).pull2.cell 1 rfl; have q2 := (H2.out).pull4.cell 0 rfl; have q3 := (H2.out).pull4.cell 1 rfl; have q4 := (H2.out).cell 0 rfl; have q5 := (H2.out).cell 1 rfl; have q6 := (H2.out).cell 2 rfl; have q7 := (H2.out).cell 3 rfl))
  go_wp2
  go_ret
  exact ⟨rfl, ((H2.out).cast (show _ = pc w1.heap.size 49 (elC ⟨v0, v1, a2, n2, c2, v3⟩) * (pc w.heap.size 30 [vi i, vu g] * (cxB h p most * (tblP p ps free * (plB L * (F))))) by ac_rfl)).dropL.dropL⟩
set_option maxRecDepth 100000 in
set_option maxHeartbeats 2000000 in
theorem charge_ok (hS : Sat w0 (cxB h p most * (tblP p ps free * (plB L * (F)))) w) (i g : Int) (now : Int) (he : getE ps i g = 0) (hi : InP L (.slice (getX ps i g).a2 (getX ps i g).n2 (getX ps i g).c2) l) (hl : l.length ≤ 1000) (hn : U64 now) (hp : U64 (getX ps i g).v1) (hc : ChOk l now (getX ps i g).v1 most) (hok : OkL (chargeL l now (getX ps i g).v1 most)) :
    Calls Try.prog 13 #[vp h, vr i g, vu now] w fun e w' => ∃ ao lc L2, e = .returned (.bool true) ∧ (∀ x ∈ L, x ∈ L2) ∧ InP L2 (.slice ao (chargeL l now (getX ps i g).v1 most).length lc) (chargeL l now (getX ps i g).v1 most) ∧ Sat w0 (cxB h p most * (tblP p (setP ps i g { getX ps i g with a2 := ao, n2 := (chargeL l now (getX ps i g).v1 most).length, c2 := lc }) free * (plB L2 * (F)))) w' := by
  have hB0 : Sat w0 (pc w.heap.size 30 [vi i, vu g] * (cxB h p most * (tblP p ps free * (plB L * (F))))) (w.alloc (.cells #[vi i, vu g] 30)) := hS.alloc (.cells #[vi i, vu g] 30)
  have b0 := hB0.cell 0 rfl
  have b1 := hB0.cell 1 rfl
  have hB : Sat w0 (cxB h p most * (tblP p ps free * (pc w.heap.size 30 [vi i, vu g] * (plB L * (F))))) (w.alloc (.cells #[vi i, vu g] 30)) := hB0.cast (by ac_rfl)
  have HG := Lib.hid (cx_find hB i g)
  rw [he] at HG
  clear hB hB0
  have HI := Lib.hid hi
  have HN := Lib.hid (fun v w (h : RdF w v l) (hr : Room v l.length) => charge_yes (w := w) (v := v) h hr (by omega) hn hp hc)
  have HSET := Lib.hid (fun (w' : World) (G : Hp) (h' : Sat w0 (tblP p ps free * G) w') (x : El) => set_ h' i g x)
  rw [he] at HSET
  clear hS he hi hn hp hc
  generalize chargeL l now (getX ps i g).v1 most = ln at *
  have HOK := Lib.hid hok
  clear hok
  generalize getX ps i g = x at *
  obtain ⟨v0, v1, a2, n2, c2, v3⟩ := x
  go_enter Try.func13, Try.ntmps13
  go_wp2_with (go_at_call 38; refine HG.out.mono ?_; rintro e w1 ⟨rfl, hS1⟩; have HS1 := Lib.hid hS1; have hA : Sat w0 (pc w1.heap.size 49 (elC ⟨v0, v1, a2, n2, c2, v3⟩) * _) (w1.alloc (elO ⟨v0, v1, a2, n2, c2, v3⟩)) := hS1.alloc (elO ⟨v0, v1, a2, n2, c2, v3⟩); have H1 := Lib.hid hA; have hx0 := hA.cell 0 rfl; have hx1 := hA.cell 1 rfl; have hx2 := hA.cell 2 rfl; have hx3 := hA.cell 3 rfl; clear hA hS1)
  have d0 := (H1.out).pull2.cell 0 rfl; have d1 := (H1.out).pull2.cell 1 rfl; have d2 := (H1.out).pull4.cell 0 rfl; have d3 := (H1.out).pull4.cell 1 rfl; have d4 := (H1.out).cell 0 rfl; have d5 := (H1.out).cell 1 rfl; have d6 := (H1.out).cell 2 rfl; have d7 := (H1.out).cell 3 rfl
  go_region_held3 (fun w' => w'.cell? ⟨h, 0, none⟩ = some (vp p) ∧ w'.cell? ⟨h, 1, none⟩ = some (vi most) ∧ w'.cell? ⟨w.heap.size, 0, none⟩ = some (vi i) ∧ w'.cell? ⟨w.heap.size, 1, none⟩ = some (vu g) ∧ w'.cell? ⟨w1.heap.size, 0, none⟩ = some (vu v0) ∧ w'.cell? ⟨w1.heap.size, 1, none⟩ = some (vu v1) ∧ w'.cell? ⟨w1.heap.size, 2, none⟩ = some (.slice a2 n2 c2) ∧ w'.cell? ⟨w1.heap.size, 3, none⟩ = some (vi v3))
    (first | exact ⟨d0, d1, d2, d3, d4, d5, d6, d7⟩ | exact ⟨q0, q1, q2, q3, q4, q5, q6, q7⟩ | go_keep)
    ((go_at_call 40; refine (HN.out _ _ (Sat.plRd ((H1.out.drew).cast (show _ = plB L * (pc w1.heap.size 49 (elC ⟨v0, v1, a2, n2, c2, v3⟩) * (pc w.heap.size 30 [vi i, vu g] * (cxB h p most * (tblP p ps free * (F))))) by ac_rfl)) HI.out) (InP.room HI.out)).mono ?_; rintro e w2 ⟨vn, rfl, hS2⟩; have h2 := (Sat.link H1.out.drew hS2).cast (show _ = fiS vn ln * (plB L * (pc w1.heap.size 49 (elC ⟨v0, v1, a2, n2, c2, v3⟩) * (cxB h p most * (tblP p ps free * (pc w.heap.size 30 [vi i, vu g] * (F)))))) by ac_rfl); obtain ⟨L2, hsub, hin, h3⟩ := h2.plIn HOK.out; obtain ⟨ao, lc, rfl⟩ := hin.form; have HSUB := Lib.hid hsub; have HIN := Lib.hid hin; have H2 := Lib.hid ((h3).cast (show _ = pc w1.heap.size 49 (elC ⟨v0, v1, a2, n2, c2, v3⟩) * (cxB h p most * (tblP p ps free * (pc w.heap.size 30 [vi i, vu g] * (plB L2 * (F))))) by ac_rfl)); have fz2 := H2.out.free 2; clear hS2 h2 h3 hsub hin; have q0 := (H2.out).pull2.cell 0 rfl; have q1 := (H2.out).pull2.cell 1 rfl; have q2 := (H2.out).pull4.cell 0 rfl; have q3 := (H2.out).pull4.cell 1 rfl; have q4 := (H2.out).cell 0 rfl; have q5 := (H2.out).cell 1 rfl; have q6 := (H2.out).cell 2 rfl; have q7 := (H2.out).cell 3 rfl))
  go_wp2
  have hA3 : Sat w0 (pc w1.heap.size 49 (elC ⟨v0, v1, ao, ln.length, lc, v3⟩) * (cxB h p most * (tblP p ps free * (pc w.heap.size 30 [vi i, vu g] * (plB L2 * (F)))))) (w2.setCell ⟨w1.heap.size, 2, none⟩ (.slice ao ln.length lc)) := H2.out.store 2 _
  have HA3 := Lib.hid hA3
  clear hA3
  have r0 := (HA3.out).pull2.cell 0 rfl; have r1 := (HA3.out).pull2.cell 1 rfl; have r2 := (HA3.out).pull4.cell 0 rfl; have r3 := (HA3.out).pull4.cell 1 rfl; have r4 := (HA3.out).cell 0 rfl; have r5 := (HA3.out).cell 1 rfl; have r6 := (HA3.out).cell 2 rfl; have r7 := (HA3.out).cell 3 rfl
  go_region_held3 (fun w' => w'.cell? ⟨h, 0, none⟩ = some (vp p) ∧ w'.cell? ⟨h, 1, none⟩ = some (vi most) ∧ w'.cell? ⟨w.heap.size, 0, none⟩ = some (vi i) ∧ w'.cell? ⟨w.heap.size, 1, none⟩ = some (vu g) ∧ w'.cell? ⟨w1.heap.size, 0, none⟩ = some (vu v0) ∧ w'.cell? ⟨w1.heap.size, 1, none⟩ = some (vu v1) ∧ w'.cell? ⟨w1.heap.size, 2, none⟩ = some (.slice ao ln.length lc) ∧ w'.cell? ⟨w1.heap.size, 3, none⟩ = some (vi v3))
    (first | exact ⟨r0, r1, r2, r3, r4, r5, r6, r7⟩ | exact ⟨s0, s1, s2, s3, s4, s5, s6, s7⟩ | go_keep)
    ((go_at_call 41; refine (HSET.out _ _ ((HA3.out.drew).cast (show _ = tblP p ps free * (cxB h p most * (pc w1.heap.size 49 (elC ⟨v0, v1, ao, ln.length, lc, v3⟩) * (pc w.heap.size 30 [vi i, vu g] * (plB L2 * (F))))) by ac_rfl)) ⟨v0, v1, ao, ln.length, lc, v3⟩).mono ?_; rintro e w3 ⟨rfl, hS3⟩; have H4 := Lib.hid ((hS3).cast (show _ = pc w1.heap.size 49 (elC ⟨v0, v1, ao, ln.length, lc, v3⟩) * (cxB h p most * (tblP p (setP ps i g ⟨v0, v1, ao, ln.length, lc, v3⟩) free * (pc w.heap.size 30 [vi i, vu g] * (plB L2 * (F))))) by ac_rfl)); clear hS3; have s0 := (H4.out).pull2.cell 0 rfl; have s1 := (H4.out).pull2.cell 1 rfl; have s2 := (H4.out).pull4.cell 0 rfl; have s3 := (H4.out).pull4.cell 1 rfl; have s4 := (H4.out).cell 0 rfl; have s5 := (H4.out).cell 1 rfl; have s6 := (H4.out).cell 2 rfl; have s7 := (H4.out).cell 3 rfl))
  go_wp2
  go_ret
  exact ⟨ao, lc, L2, rfl, HSUB.out, HIN.out, ((H4.out).cast (show _ = pc w1.heap.size 49 (elC ⟨v0, v1, ao, ln.length, lc, v3⟩) * (pc w.heap.size 30 [vi i, vu g] * (cxB h p most * (tblP p (setP ps i g ⟨v0, v1, ao, ln.length, lc, v3⟩) free * (plB L2 * (F))))) by ac_rfl)).dropL.dropL⟩
end
end Go.Proofs.Ytknodagcmachiaa.Cn
