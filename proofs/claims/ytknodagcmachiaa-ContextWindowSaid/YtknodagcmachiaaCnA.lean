/-
  Package context: New, none, when. No statement is proved here.
-/
import Derived.Test.YtknodagcmachiaaCa3
import Derived.Test.YtknodagcmachiaaCa4
import Derived.Test.YtknodagcmachiaaCa5
import Derived.Test.YtknodagcmachiaaRowQ
import Derived.Test.YtknodagcmachiaaCa6
import Derived.Test.YtknodagcmachiaaCx1
import Derived.Test.YtknodagcmachiaaFi21
import Derived.Test.YtknodagcmachiaaFi20
namespace Go.Proofs.Ytknodagcmachiaa.Cn
open Go.RowKit Ac Fi
set_option linter.unusedVariables false

/-- Contexts: a table, and how many refills each has at most. -/
abbrev cxB (h p : Nat) (most : Int) : Hp := pc h 70 [vp p, vi most]
section
variable {w0 w : World} {F : Hp} {h p : Nat} {most : Int}
theorem cx_none (hS : Sat w0 (cxB h p most * F) w) : Calls Try.prog 35 #[vp h] w fun e w' => e = .returned (.bool false) ∧ w = w' := by
  have c0 := hS.cell 0 rfl
  clear hS
  go_enter Try.func35, Try.ntmps35
  go_wp2
  go_ret
  exact ⟨rfl, rfl⟩
theorem cx_when (b : Bool) (n : Int) (w : World) : Calls Try.prog 68 #[.bool b, vi n] w fun e w' => e = .returned (vi (if b then n else 0)) ∧ w = w' := by
  cases b
  all_goals
    go_enter Try.func68, Try.ntmps68
    go_wp2
    go_ret
    exact ⟨rfl, rfl⟩
theorem cx_new_no (n most : Int) (hn : n < 1 ∨ 32 < n ∨ most < 2 ∨ 16 < most) (w : World) : Calls Try.prog 10 #[vi n, vi most] w fun e w' => e = .returned (.tuple #[.pointer none, vi 2]) ∧ w = w' := by
  by_cases h1 : n < 1
  · clear hn
    go_enter Try.func10, Try.ntmps10
    go_wp2
    go_ret2
    exact ⟨rfl, rfl⟩
  by_cases h2 : 32 < n
  · clear hn
    go_enter Try.func10, Try.ntmps10
    go_wp2
    go_ret2
    exact ⟨rfl, rfl⟩
  by_cases h3 : most < 2
  · clear hn
    go_enter Try.func10, Try.ntmps10
    go_wp2
    go_ret2
    exact ⟨rfl, rfl⟩
  · have h4 : 16 < most := by omega
    clear hn
    go_enter Try.func10, Try.ntmps10
    go_wp2
    go_ret2
    exact ⟨rfl, rfl⟩
theorem cx_new (n : Nat) (hn : 1 ≤ n) (hn' : n ≤ 32) (hm : 2 ≤ most) (hm' : most ≤ 16) (hS : Sat w0 F w) : Calls Try.prog 10 #[vi n, vi most] w fun e w' => ∃ h p, e = .returned (.tuple #[vp h, vi 0]) ∧ Sat w0 (cxB h p most * (tblP p (List.replicate n ⟨1, false, false, ez⟩) (newF n n) * F)) w' := by
  have HN := Lib.hid (new_ n 1 hn (by omega) (by omega) (by omega) hS)
  have h1 : ¬ ((n : Int) < 1) := by omega
  have h2 : ¬ (32 < (n : Int)) := by omega
  have h3 : ¬ (most < 2) := by omega
  have h4 : ¬ (16 < most) := by omega
  clear hS
  go_enter Try.func10, Try.ntmps10
  go_wp2_with (go_at_call 34; refine HN.out.mono ?_; rintro e w1 ⟨p, rfl, hS1⟩; have H1 := Lib.hid hS1; clear hS1)
  go_ret2
  exact ⟨_, p, rfl, H1.out.alloc (.cells #[vp p, vi most] 70)⟩
end
end Go.Proofs.Ytknodagcmachiaa.Cn

namespace Go.Proofs.Ytknodagcmachiaa.Cn
open Go.RowKit Ac Fi
set_option linter.unusedVariables false

section
variable {w0 w : World} {F : Hp} {h p : Nat} {most : Int} {ps : List Pl} {free : List Nat}
set_option maxRecDepth 100000 in
set_option maxHeartbeats 2000000 in
theorem cx_find (hS : Sat w0 (cxB h p most * (tblP p ps free * F)) w) (i g : Int) : Calls Try.prog 38 #[vp h, vr i g] w fun e w' => e = .returned (.tuple #[ev (getX ps i g), vi (getE ps i g)]) ∧ Sat w0 (cxB h p most * (tblP p ps free * F)) w' := by
  have hB0 := ((hS.alloc (.cells #[vi i, vu g] 30)).alloc (elO ez))
  rw [size1] at hB0
  have hB : Sat w0 (elB (w.heap.size + 1) ez * (pc w.heap.size 30 [vi i, vu g] * (cxB h p most * (tblP p ps free * F)))) ((w.alloc (.cells #[vi i, vu g] 30)).alloc (elO ez)) := hB0
  have HN := Lib.hid (cx_none hB.pull3)
  have HG := Lib.hid (get_ (hB.drew.pull4) i g)
  have HB := Lib.hid hB
  clear hB hB0 hS
  generalize hwb : (w.alloc (.cells #[vi i, vu g] 30)).alloc (elO ez) = wb at *
  generalize hb1 : w.heap.size + 1 = bx at *
  generalize hb2 : w.heap.size = b2 at *
  have HW := Lib.hid hwb
  have HB1 := Lib.hid hb1
  have HB2 := Lib.hid hb2
  clear hwb hb1 hb2
  generalize getX ps i g = x at *
  generalize getE ps i g = er at *
  go_enter Try.func38, Try.ntmps38
  go_wp2_with fail
  rw [HW.out, HB2.out, HB1.out]
  refine HN.out.mono ?_
  rintro e w' ⟨rfl, rfl⟩
  go_wp2
  have hS0 : (fun w' => w'.cell? ⟨h, 0, none⟩ = some (vp p) ∧ w'.cell? ⟨b2, 0, none⟩ = some (vi i) ∧ w'.cell? ⟨b2, 1, none⟩ = some (vu g)) wb.drew := ⟨HB.out.drew.pull3.cell 0 rfl, HB.out.drew.pull2.cell 0 rfl, HB.out.drew.pull2.cell 1 rfl⟩
  refine wp_region_held (S := fun w' => w'.cell? ⟨h, 0, none⟩ = some (vp p) ∧ w'.cell? ⟨b2, 0, none⟩ = some (vi i) ∧ w'.cell? ⟨b2, 1, none⟩ = some (vu g)) (by kernel_rfl) ?_
  change wpAnyH _ _ _ _ _ _ _ _ (World.drew _)
  refine wpAnyH_take (i := 0) (v := vp h) rfl (by kernel_rfl) (by kernel_rfl) (by kernel_rfl) (fun _ _ _ h => h) (Or.inl ⟨by rfl, fun w' hw' => by go_simp⟩) hS0 ?_
  simp only [Act.put, List.setIfInBounds_toArray, List.set_cons_zero, List.set_cons_succ]
  refine wpAnyH_take (i := 1) (v := vp h) rfl (by kernel_rfl) (by kernel_rfl) (by kernel_rfl) (fun _ _ _ h => h) (Or.inl ⟨by rfl, fun w' hw' => by go_simp⟩) hS0 ?_
  simp only [Act.put, List.setIfInBounds_toArray, List.set_cons_zero, List.set_cons_succ]
  refine wpAnyH_take (i := 2) (v := (.pointer (some ⟨h, 0, none⟩))) rfl (by kernel_rfl) (by kernel_rfl) (by kernel_rfl) (fun _ _ _ h => h) (Or.inl ⟨by rfl, fun w' hw' => by go_simp⟩) hS0 ?_
  simp only [Act.put, List.setIfInBounds_toArray, List.set_cons_zero, List.set_cons_succ]
  refine wpAnyH_take (i := 3) (v := vp p) rfl (by kernel_rfl) (by kernel_rfl) (by kernel_rfl) (fun _ _ _ h => h) (Or.inl ⟨by rfl, fun w' hw' => by (have h1 := hw'.1; go_simp)⟩) hS0 ?_
  simp only [Act.put, List.setIfInBounds_toArray, List.set_cons_zero, List.set_cons_succ]
  refine wpAnyH_take (i := 4) (v := vr i g) rfl (by kernel_rfl) (by kernel_rfl) (by kernel_rfl) (fun _ _ _ h => h) (Or.inl ⟨by rfl, fun w' hw' => by (have h1 := hw'.2.1; have h2 := hw'.2.2; go_simp)⟩) hS0 ?_
  simp only [Act.put, List.setIfInBounds_toArray, List.set_cons_zero, List.set_cons_succ]
  refine wpAnyH_ready (rs := [5]) (by kernel_rfl) (by simp) ?_
  refine AllReadyH.cons rfl (fun K hK => ?_) AllReadyH.nil
  go_simp
  refine HG.out.mono ?_
  rintro e w1 ⟨rfl, hS1⟩
  have HX := Lib.hid hS1.pull2
  have hS1' : (fun w' => w'.cell? ⟨h, 0, none⟩ = some (vp p) ∧ w'.cell? ⟨b2, 0, none⟩ = some (vi i) ∧ w'.cell? ⟨b2, 1, none⟩ = some (vu g)) w1 := ⟨HX.out.pull4.cell 0 rfl, HX.out.pull3.cell 0 rfl, HX.out.pull3.cell 1 rfl⟩
  clear hS1
  refine hK.out _ _ hS1' (fun _ => ?_)
  try simp only [Act.put, List.setIfInBounds_toArray, List.set_cons_zero, List.set_cons_succ]
  refine wpAnyH_take (i := 6) (v := ev x) rfl (by kernel_rfl) (by kernel_rfl) (by kernel_rfl) (fun _ _ _ h => h) (Or.inl ⟨by rfl, fun w' hw' => by go_simp⟩) hS1' ?_
  simp only [Act.put, List.setIfInBounds_toArray, List.set_cons_zero, List.set_cons_succ]
  refine wpAnyH_take (i := 7) (v := vi er) rfl (by kernel_rfl) (by kernel_rfl) (by kernel_rfl) (fun _ _ _ h => h) (Or.inl ⟨by rfl, fun w' hw' => by go_simp⟩) hS1' ?_
  simp only [Act.put, List.setIfInBounds_toArray, List.set_cons_zero, List.set_cons_succ]
  refine wpAnyH_ready (rs := [8]) (by kernel_rfl) (by simp) ?_
  refine AllReadyH.cons rfl (fun K' hK' => ?_) AllReadyH.nil
  rw [if_pos (by rfl)]
  have hth := there_ (n := 4) HX.out rfl
  have hrg := World.rangeAt_setCells_same w1 bx 0 (elC x) hth
  have hst : Sat w0 _ (w1.setCells bx 0 (elC x)) := HX.out.stores (elC x) 0
  refine wp_store_mid 49 _ _ rfl bx 0 (elC x).toArray (by rfl) (by rfl) hth einfo (all_oneCell_toArray (elOne x)) ?_
  have hst2 : Sat w0 _ (w1.setCells bx 0 (elC x).toArray.toList) := hst
  have hrg : (w1.setCells bx 0 (elC x).toArray.toList).rangeAt bx 0 (elC x) := hrg
  generalize w1.setCells bx 0 (elC x).toArray.toList = w2 at *
  have HX2 := Lib.hid hst2
  have hS2 : (fun w' => w'.cell? ⟨h, 0, none⟩ = some (vp p) ∧ w'.cell? ⟨b2, 0, none⟩ = some (vi i) ∧ w'.cell? ⟨b2, 1, none⟩ = some (vu g)) w2 := ⟨HX2.out.pull4.cell 0 rfl, HX2.out.pull3.cell 0 rfl, HX2.out.pull3.cell 1 rfl⟩
  clear hst hst2 hth
  refine hK'.out _ _ hS2 (fun _ => ?_)
  try simp only [Act.put, List.setIfInBounds_toArray, List.set_cons_zero, List.set_cons_succ]
  refine wpAnyH_ready (rs := [9]) (by kernel_rfl) (by simp) ?_
  refine AllReadyH.cons rfl (fun K'' hK'' => ?_) AllReadyH.nil
  go_simp
  refine hK''.out _ _ hS2 (fun _ => ?_)
  try simp only [Act.put, List.setIfInBounds_toArray, List.set_cons_zero, List.set_cons_succ]
  refine wpAnyH_done (by kernel_rfl) ?_ _
  clear hS0 hS1' hS2 hK hK' hK''
  go_wp2
  (try simp only [Exit.inBlock, Exit.then])
  refine bodyPost_ret (v := .tuple #[ev x, vi er]) (results_row rfl _ _ _ rfl rfl hrg Try.underlying49 rfl einfo) rfl ?_
  exact ⟨rfl, HX2.out.dropL.pull2.dropL.pull2⟩
end
end Go.Proofs.Ytknodagcmachiaa.Cn

namespace Go.Proofs.Ytknodagcmachiaa.Cn
open Go.RowKit Ac Fi
set_option linter.unusedVariables false
set_option linter.unusedSimpArgs false

section
variable {w0 w : World} {F : Hp} {h p : Nat} {most : Int} {ps : List Pl} {free : List Nat}
set_option maxRecDepth 100000 in
set_option maxHeartbeats 2000000 in
theorem bind_no (hS : Sat w0 (cxB h p most * (tblP p ps free * (F))) w) (i g : Int) (he : getE ps i g = 11) :
    Calls Try.prog 15 #[vp h, vr i g] w fun e w' => e = .returned (vi 11) ∧ Sat w0 (cxB h p most * (tblP p ps free * (F))) w' := by
  have hB0 : Sat w0 (pc w.heap.size 30 [vi i, vu g] * (cxB h p most * (tblP p ps free * (F)))) (w.alloc (.cells #[vi i, vu g] 30)) := hS.alloc (.cells #[vi i, vu g] 30)
  have b0 := hB0.cell 0 rfl
  have b1 := hB0.cell 1 rfl
  have hB : Sat w0 (cxB h p most * (tblP p ps free * (pc w.heap.size 30 [vi i, vu g] * (F)))) (w.alloc (.cells #[vi i, vu g] 30)) := hB0.cast (by ac_rfl)
  have HG := Lib.hid (cx_find hB i g)
  rw [he] at HG
  clear hB hB0
  clear hS he
  generalize getX ps i g = x at *
  obtain ⟨v0, v1, a2, n2, c2, v3⟩ := x
  go_enter Try.func15, Try.ntmps15
  go_wp2_with (go_at_call 38; refine HG.out.mono ?_; rintro e w1 ⟨rfl, hS1⟩; have HS1 := Lib.hid hS1; have hA : Sat w0 (pc w1.heap.size 49 (elC ⟨v0, v1, a2, n2, c2, v3⟩) * _) (w1.alloc (elO ⟨v0, v1, a2, n2, c2, v3⟩)) := hS1.alloc (elO ⟨v0, v1, a2, n2, c2, v3⟩); have H1 := Lib.hid hA; have hx0 := hA.cell 0 rfl; have hx1 := hA.cell 1 rfl; have hx2 := hA.cell 2 rfl; have hx3 := hA.cell 3 rfl; clear hA hS1)
  go_ret
  exact ⟨rfl, ((H1.out).cast (show _ = pc w1.heap.size 49 (elC ⟨v0, v1, a2, n2, c2, v3⟩) * (pc w.heap.size 30 [vi i, vu g] * (cxB h p most * (tblP p ps free * (F)))) by ac_rfl)).dropL.dropL⟩
set_option maxRecDepth 100000 in
set_option maxHeartbeats 2000000 in
theorem unbind_no (hS : Sat w0 (cxB h p most * (tblP p ps free * (F))) w) (i g : Int) (he : getE ps i g = 11) :
    Calls Try.prog 31 #[vp h, vr i g] w fun e w' => e = .returned (vi 11) ∧ Sat w0 (cxB h p most * (tblP p ps free * (F))) w' := by
  have hB0 : Sat w0 (pc w.heap.size 30 [vi i, vu g] * (cxB h p most * (tblP p ps free * (F)))) (w.alloc (.cells #[vi i, vu g] 30)) := hS.alloc (.cells #[vi i, vu g] 30)
  have b0 := hB0.cell 0 rfl
  have b1 := hB0.cell 1 rfl
  have hB : Sat w0 (cxB h p most * (tblP p ps free * (pc w.heap.size 30 [vi i, vu g] * (F)))) (w.alloc (.cells #[vi i, vu g] 30)) := hB0.cast (by ac_rfl)
  have HG := Lib.hid (cx_find hB i g)
  rw [he] at HG
  clear hB hB0
  clear hS he
  generalize getX ps i g = x at *
  obtain ⟨v0, v1, a2, n2, c2, v3⟩ := x
  go_enter Try.func31, Try.ntmps31
  go_wp2_with (go_at_call 38; refine HG.out.mono ?_; rintro e w1 ⟨rfl, hS1⟩; have HS1 := Lib.hid hS1; have hA : Sat w0 (pc w1.heap.size 49 (elC ⟨v0, v1, a2, n2, c2, v3⟩) * _) (w1.alloc (elO ⟨v0, v1, a2, n2, c2, v3⟩)) := hS1.alloc (elO ⟨v0, v1, a2, n2, c2, v3⟩); have H1 := Lib.hid hA; have hx0 := hA.cell 0 rfl; have hx1 := hA.cell 1 rfl; have hx2 := hA.cell 2 rfl; have hx3 := hA.cell 3 rfl; clear hA hS1)
  go_ret
  exact ⟨rfl, ((H1.out).cast (show _ = pc w1.heap.size 49 (elC ⟨v0, v1, a2, n2, c2, v3⟩) * (pc w.heap.size 30 [vi i, vu g] * (cxB h p most * (tblP p ps free * (F)))) by ac_rfl)).dropL.dropL⟩
set_option maxRecDepth 100000 in
set_option maxHeartbeats 2000000 in
theorem drop_no (hS : Sat w0 (cxB h p most * (tblP p ps free * (F))) w) (i g : Int) (he : getE ps i g = 11) :
    Calls Try.prog 22 #[vp h, vr i g] w fun e w' => e = .returned (vi 11) ∧ Sat w0 (cxB h p most * (tblP p ps free * (F))) w' := by
  have hB0 : Sat w0 (pc w.heap.size 30 [vi i, vu g] * (cxB h p most * (tblP p ps free * (F)))) (w.alloc (.cells #[vi i, vu g] 30)) := hS.alloc (.cells #[vi i, vu g] 30)
  have b0 := hB0.cell 0 rfl
  have b1 := hB0.cell 1 rfl
  have hB : Sat w0 (cxB h p most * (tblP p ps free * (pc w.heap.size 30 [vi i, vu g] * (F)))) (w.alloc (.cells #[vi i, vu g] 30)) := hB0.cast (by ac_rfl)
  have HG := Lib.hid (cx_find hB i g)
  rw [he] at HG
  clear hB hB0
  clear hS he
  generalize getX ps i g = x at *
  obtain ⟨v0, v1, a2, n2, c2, v3⟩ := x
  go_enter Try.func22, Try.ntmps22
  go_wp2_with (go_at_call 38; refine HG.out.mono ?_; rintro e w1 ⟨rfl, hS1⟩; have HS1 := Lib.hid hS1; have hA : Sat w0 (pc w1.heap.size 49 (elC ⟨v0, v1, a2, n2, c2, v3⟩) * _) (w1.alloc (elO ⟨v0, v1, a2, n2, c2, v3⟩)) := hS1.alloc (elO ⟨v0, v1, a2, n2, c2, v3⟩); have H1 := Lib.hid hA; have hx0 := hA.cell 0 rfl; have hx1 := hA.cell 1 rfl; have hx2 := hA.cell 2 rfl; have hx3 := hA.cell 3 rfl; clear hA hS1)
  go_ret
  exact ⟨rfl, ((H1.out).cast (show _ = pc w1.heap.size 49 (elC ⟨v0, v1, a2, n2, c2, v3⟩) * (pc w.heap.size 30 [vi i, vu g] * (cxB h p most * (tblP p ps free * (F)))) by ac_rfl)).dropL.dropL⟩
set_option maxRecDepth 100000 in
set_option maxHeartbeats 2000000 in
theorem bind_yes (hS : Sat w0 (cxB h p most * (tblP p ps free * (F))) w) (i g : Int) (he : getE ps i g = 0) (hw : 0 ≤ (getX ps i g).v3 ∧ (getX ps i g).v3 ≤ 1000000) :
    Calls Try.prog 15 #[vp h, vr i g] w fun e w' => e = .returned (vi 0) ∧ Sat w0 (cxB h p most * (tblP p (setP ps i g { getX ps i g with v3 := (getX ps i g).v3 + 1 }) free * (F))) w' := by
  have hB0 : Sat w0 (pc w.heap.size 30 [vi i, vu g] * (cxB h p most * (tblP p ps free * (F)))) (w.alloc (.cells #[vi i, vu g] 30)) := hS.alloc (.cells #[vi i, vu g] 30)
  have b0 := hB0.cell 0 rfl
  have b1 := hB0.cell 1 rfl
  have hB : Sat w0 (cxB h p most * (tblP p ps free * (pc w.heap.size 30 [vi i, vu g] * (F)))) (w.alloc (.cells #[vi i, vu g] 30)) := hB0.cast (by ac_rfl)
  have HG := Lib.hid (cx_find hB i g)
  rw [he] at HG
  clear hB hB0
  have HSET := Lib.hid (fun (w' : World) (G : Hp) (h' : Sat w0 (tblP p ps free * G) w') (x : El) => set_ h' i g x)
  rw [he] at HSET
  clear hS he
  generalize getX ps i g = x at *
  obtain ⟨v0, v1, a2, n2, c2, v3⟩ := x
  have hwr : IntKind.i64.wrap (v3 + 1) = v3 + 1 := IntWalk.i64_in _ (by simp only at hw; omega)
  clear hw
  go_enter Try.func15, Try.ntmps15
  go_wp2_with (go_at_call 38; refine HG.out.mono ?_; rintro e w1 ⟨rfl, hS1⟩; have HS1 := Lib.hid hS1; have hA : Sat w0 (pc w1.heap.size 49 (elC ⟨v0, v1, a2, n2, c2, v3⟩) * _) (w1.alloc (elO ⟨v0, v1, a2, n2, c2, v3⟩)) := hS1.alloc (elO ⟨v0, v1, a2, n2, c2, v3⟩); have H1 := Lib.hid hA; have hx0 := hA.cell 0 rfl; have hx1 := hA.cell 1 rfl; have hx2 := hA.cell 2 rfl; have hx3 := hA.cell 3 rfl; clear hA hS1)
  have hA2 : Sat w0 (pc w1.heap.size 49 (elC ⟨v0, v1, a2, n2, c2, v3 + 1⟩) * (cxB h p most * (tblP p ps free * (pc w.heap.size 30 [vi i, vu g] * (F))))) (w1.alloc (elO ⟨v0, v1, a2, n2, c2, v3 + 1⟩)) := HS1.out.alloc _
  have HA2 := Lib.hid hA2
  clear hA2
  have d0 := (HA2.out).pull2.cell 0 rfl; have d1 := (HA2.out).pull4.cell 0 rfl; have d2 := (HA2.out).pull4.cell 1 rfl; have d3 := (HA2.out).cell 0 rfl; have d4 := (HA2.out).cell 1 rfl; have d5 := (HA2.out).cell 2 rfl; have d6 := (HA2.out).cell 3 rfl
  go_region_held3 (fun w' => w'.cell? ⟨h, 0, none⟩ = some (vp p) ∧ w'.cell? ⟨w.heap.size, 0, none⟩ = some (vi i) ∧ w'.cell? ⟨w.heap.size, 1, none⟩ = some (vu g) ∧ w'.cell? ⟨w1.heap.size, 0, none⟩ = some (vu v0) ∧ w'.cell? ⟨w1.heap.size, 1, none⟩ = some (vu v1) ∧ w'.cell? ⟨w1.heap.size, 2, none⟩ = some (.slice a2 n2 c2) ∧ w'.cell? ⟨w1.heap.size, 3, none⟩ = some (vi (v3 + 1)))
    (first | exact ⟨d0, d1, d2, d3, d4, d5, d6⟩ | exact ⟨e0, e1, e2, e3, e4, e5, e6⟩ | go_keep)
    ((go_at_call 41; refine (HSET.out _ _ ((HA2.out.drew).cast (show _ = tblP p ps free * (cxB h p most * (pc w1.heap.size 49 (elC ⟨v0, v1, a2, n2, c2, v3 + 1⟩) * (pc w.heap.size 30 [vi i, vu g] * (F)))) by ac_rfl)) ⟨v0, v1, a2, n2, c2, v3 + 1⟩).mono ?_; rintro e w3 ⟨rfl, hS3⟩; have H3 := Lib.hid ((hS3).cast (show _ = pc w1.heap.size 49 (elC ⟨v0, v1, a2, n2, c2, v3 + 1⟩) * (cxB h p most * (tblP p (setP ps i g ⟨v0, v1, a2, n2, c2, v3 + 1⟩) free * (pc w.heap.size 30 [vi i, vu g] * (F)))) by ac_rfl)); clear hS3; have e0 := (H3.out).pull2.cell 0 rfl; have e1 := (H3.out).pull4.cell 0 rfl; have e2 := (H3.out).pull4.cell 1 rfl; have e3 := (H3.out).cell 0 rfl; have e4 := (H3.out).cell 1 rfl; have e5 := (H3.out).cell 2 rfl; have e6 := (H3.out).cell 3 rfl))
  go_wp2
  go_ret
  exact ⟨rfl, ((H3.out).cast (show _ = pc w1.heap.size 49 (elC ⟨v0, v1, a2, n2, c2, v3 + 1⟩) * (pc w.heap.size 30 [vi i, vu g] * (cxB h p most * (tblP p (setP ps i g ⟨v0, v1, a2, n2, c2, v3 + 1⟩) free * (F)))) by ac_rfl)).dropL.dropL⟩
set_option maxRecDepth 100000 in
set_option maxHeartbeats 2000000 in
theorem unbind_zero (hS : Sat w0 (cxB h p most * (tblP p ps free * (F))) w) (i g : Int) (he : getE ps i g = 0) (hz : (getX ps i g).v3 = 0) :
    Calls Try.prog 31 #[vp h, vr i g] w fun e w' => e = .returned (vi 5) ∧ Sat w0 (cxB h p most * (tblP p ps free * (F))) w' := by
  have hB0 : Sat w0 (pc w.heap.size 30 [vi i, vu g] * (cxB h p most * (tblP p ps free * (F)))) (w.alloc (.cells #[vi i, vu g] 30)) := hS.alloc (.cells #[vi i, vu g] 30)
  have b0 := hB0.cell 0 rfl
  have b1 := hB0.cell 1 rfl
  have hB : Sat w0 (cxB h p most * (tblP p ps free * (pc w.heap.size 30 [vi i, vu g] * (F)))) (w.alloc (.cells #[vi i, vu g] 30)) := hB0.cast (by ac_rfl)
  have HG := Lib.hid (cx_find hB i g)
  rw [he] at HG
  clear hB hB0
  clear hS he
  generalize getX ps i g = x at *
  obtain ⟨v0, v1, a2, n2, c2, v3⟩ := x
  have hz' : v3 = 0 := hz
  subst hz'
  clear hz
  go_enter Try.func31, Try.ntmps31
  go_wp2_with (go_at_call 38; refine HG.out.mono ?_; rintro e w1 ⟨rfl, hS1⟩; have HS1 := Lib.hid hS1; have hA : Sat w0 (pc w1.heap.size 49 (elC ⟨v0, v1, a2, n2, c2, 0⟩) * _) (w1.alloc (elO ⟨v0, v1, a2, n2, c2, 0⟩)) := hS1.alloc (elO ⟨v0, v1, a2, n2, c2, 0⟩); have H1 := Lib.hid hA; have hx0 := hA.cell 0 rfl; have hx1 := hA.cell 1 rfl; have hx2 := hA.cell 2 rfl; have hx3 := hA.cell 3 rfl; clear hA hS1)
  go_ret
  exact ⟨rfl, ((H1.out).cast (show _ = pc w1.heap.size 49 (elC ⟨v0, v1, a2, n2, c2, 0⟩) * (pc w.heap.size 30 [vi i, vu g] * (cxB h p most * (tblP p ps free * (F)))) by ac_rfl)).dropL.dropL⟩
set_option maxRecDepth 100000 in
set_option maxHeartbeats 2000000 in
theorem unbind_yes (hS : Sat w0 (cxB h p most * (tblP p ps free * (F))) w) (i g : Int) (he : getE ps i g = 0) (hw : 0 < (getX ps i g).v3 ∧ (getX ps i g).v3 ≤ 1000000) :
    Calls Try.prog 31 #[vp h, vr i g] w fun e w' => e = .returned (vi 0) ∧ Sat w0 (cxB h p most * (tblP p (setP ps i g { getX ps i g with v3 := (getX ps i g).v3 - 1 }) free * (F))) w' := by
  have hB0 : Sat w0 (pc w.heap.size 30 [vi i, vu g] * (cxB h p most * (tblP p ps free * (F)))) (w.alloc (.cells #[vi i, vu g] 30)) := hS.alloc (.cells #[vi i, vu g] 30)
  have b0 := hB0.cell 0 rfl
  have b1 := hB0.cell 1 rfl
  have hB : Sat w0 (cxB h p most * (tblP p ps free * (pc w.heap.size 30 [vi i, vu g] * (F)))) (w.alloc (.cells #[vi i, vu g] 30)) := hB0.cast (by ac_rfl)
  have HG := Lib.hid (cx_find hB i g)
  rw [he] at HG
  clear hB hB0
  have HSET := Lib.hid (fun (w' : World) (G : Hp) (h' : Sat w0 (tblP p ps free * G) w') (x : El) => set_ h' i g x)
  rw [he] at HSET
  clear hS he
  generalize getX ps i g = x at *
  obtain ⟨v0, v1, a2, n2, c2, v3⟩ := x
  have hwr : IntKind.i64.wrap (v3 - 1) = v3 - 1 := IntWalk.i64_in _ (by simp only at hw; omega)
  have hne : (v3 == 0) = false := beq_eq_false_iff_ne.2 (by simp only at hw; omega)
  clear hw
  go_enter Try.func31, Try.ntmps31
  go_wp2_with (go_at_call 38; refine HG.out.mono ?_; rintro e w1 ⟨rfl, hS1⟩; have HS1 := Lib.hid hS1; have hA : Sat w0 (pc w1.heap.size 49 (elC ⟨v0, v1, a2, n2, c2, v3⟩) * _) (w1.alloc (elO ⟨v0, v1, a2, n2, c2, v3⟩)) := hS1.alloc (elO ⟨v0, v1, a2, n2, c2, v3⟩); have H1 := Lib.hid hA; have hx0 := hA.cell 0 rfl; have hx1 := hA.cell 1 rfl; have hx2 := hA.cell 2 rfl; have hx3 := hA.cell 3 rfl; clear hA hS1)
  have hA2 : Sat w0 (pc w1.heap.size 49 (elC ⟨v0, v1, a2, n2, c2, v3 - 1⟩) * (cxB h p most * (tblP p ps free * (pc w.heap.size 30 [vi i, vu g] * (F))))) (w1.alloc (elO ⟨v0, v1, a2, n2, c2, v3 - 1⟩)) := HS1.out.alloc _
  have HA2 := Lib.hid hA2
  clear hA2
  have d0 := (HA2.out).pull2.cell 0 rfl; have d1 := (HA2.out).pull4.cell 0 rfl; have d2 := (HA2.out).pull4.cell 1 rfl; have d3 := (HA2.out).cell 0 rfl; have d4 := (HA2.out).cell 1 rfl; have d5 := (HA2.out).cell 2 rfl; have d6 := (HA2.out).cell 3 rfl
  go_region_held3 (fun w' => w'.cell? ⟨h, 0, none⟩ = some (vp p) ∧ w'.cell? ⟨w.heap.size, 0, none⟩ = some (vi i) ∧ w'.cell? ⟨w.heap.size, 1, none⟩ = some (vu g) ∧ w'.cell? ⟨w1.heap.size, 0, none⟩ = some (vu v0) ∧ w'.cell? ⟨w1.heap.size, 1, none⟩ = some (vu v1) ∧ w'.cell? ⟨w1.heap.size, 2, none⟩ = some (.slice a2 n2 c2) ∧ w'.cell? ⟨w1.heap.size, 3, none⟩ = some (vi (v3 - 1)))
    (first | exact ⟨d0, d1, d2, d3, d4, d5, d6⟩ | exact ⟨e0, e1, e2, e3, e4, e5, e6⟩ | go_keep)
    ((go_at_call 41; refine (HSET.out _ _ ((HA2.out.drew).cast (show _ = tblP p ps free * (cxB h p most * (pc w1.heap.size 49 (elC ⟨v0, v1, a2, n2, c2, v3 - 1⟩) * (pc w.heap.size 30 [vi i, vu g] * (F)))) by ac_rfl)) ⟨v0, v1, a2, n2, c2, v3 - 1⟩).mono ?_; rintro e w3 ⟨rfl, hS3⟩; have H3 := Lib.hid ((hS3).cast (show _ = pc w1.heap.size 49 (elC ⟨v0, v1, a2, n2, c2, v3 - 1⟩) * (cxB h p most * (tblP p (setP ps i g ⟨v0, v1, a2, n2, c2, v3 - 1⟩) free * (pc w.heap.size 30 [vi i, vu g] * (F)))) by ac_rfl)); clear hS3; have e0 := (H3.out).pull2.cell 0 rfl; have e1 := (H3.out).pull4.cell 0 rfl; have e2 := (H3.out).pull4.cell 1 rfl; have e3 := (H3.out).cell 0 rfl; have e4 := (H3.out).cell 1 rfl; have e5 := (H3.out).cell 2 rfl; have e6 := (H3.out).cell 3 rfl))
  go_wp2
  go_ret
  exact ⟨rfl, ((H3.out).cast (show _ = pc w1.heap.size 49 (elC ⟨v0, v1, a2, n2, c2, v3 - 1⟩) * (pc w.heap.size 30 [vi i, vu g] * (cxB h p most * (tblP p (setP ps i g ⟨v0, v1, a2, n2, c2, v3 - 1⟩) free * (F)))) by ac_rfl)).dropL.dropL⟩
set_option maxRecDepth 100000 in
set_option maxHeartbeats 2000000 in
theorem drop_busy (hS : Sat w0 (cxB h p most * (tblP p ps free * (F))) w) (i g : Int) (he : getE ps i g = 0) (hz : 0 < (getX ps i g).v3) :
    Calls Try.prog 22 #[vp h, vr i g] w fun e w' => e = .returned (vi 14) ∧ Sat w0 (cxB h p most * (tblP p ps free * (F))) w' := by
  have hB0 : Sat w0 (pc w.heap.size 30 [vi i, vu g] * (cxB h p most * (tblP p ps free * (F)))) (w.alloc (.cells #[vi i, vu g] 30)) := hS.alloc (.cells #[vi i, vu g] 30)
  have b0 := hB0.cell 0 rfl
  have b1 := hB0.cell 1 rfl
  have hB : Sat w0 (cxB h p most * (tblP p ps free * (pc w.heap.size 30 [vi i, vu g] * (F)))) (w.alloc (.cells #[vi i, vu g] 30)) := hB0.cast (by ac_rfl)
  have HG := Lib.hid (cx_find hB i g)
  rw [he] at HG
  clear hB hB0
  clear hS he
  generalize getX ps i g = x at *
  obtain ⟨v0, v1, a2, n2, c2, v3⟩ := x
  have hz' : 0 < v3 := hz
  clear hz
  go_enter Try.func22, Try.ntmps22
  go_wp2_with (go_at_call 38; refine HG.out.mono ?_; rintro e w1 ⟨rfl, hS1⟩; have HS1 := Lib.hid hS1; have hA : Sat w0 (pc w1.heap.size 49 (elC ⟨v0, v1, a2, n2, c2, v3⟩) * _) (w1.alloc (elO ⟨v0, v1, a2, n2, c2, v3⟩)) := hS1.alloc (elO ⟨v0, v1, a2, n2, c2, v3⟩); have H1 := Lib.hid hA; have hx0 := hA.cell 0 rfl; have hx1 := hA.cell 1 rfl; have hx2 := hA.cell 2 rfl; have hx3 := hA.cell 3 rfl; clear hA hS1)
  go_ret
  exact ⟨rfl, ((H1.out).cast (show _ = pc w1.heap.size 49 (elC ⟨v0, v1, a2, n2, c2, v3⟩) * (pc w.heap.size 30 [vi i, vu g] * (cxB h p most * (tblP p ps free * (F)))) by ac_rfl)).dropL.dropL⟩
set_option maxRecDepth 100000 in
set_option maxHeartbeats 2000000 in
theorem cx_drop_yes (hS : Sat w0 (cxB h p most * (tblP p ps free * (F))) w) (i g : Int) {k : Nat} {a : Pl} (hA : isAt ps i g = some (k, a)) (hz : (getX ps i g).v3 = 0) (hg : a.gen < 18446744073709551614) :
    Calls Try.prog 22 #[vp h, vr i g] w fun e w' => e = .returned (vi 0) ∧ Sat w0 (cxB h p most * (tblP p (ps.set k { a with gen := a.gen + 1, there := false, x := ez }) (free ++ [k]) * (F))) w' := by
  have he : getE ps i g = 0 := by unfold getE; rw [hA]
  have hB0 : Sat w0 (pc w.heap.size 30 [vi i, vu g] * (cxB h p most * (tblP p ps free * (F)))) (w.alloc (.cells #[vi i, vu g] 30)) := hS.alloc (.cells #[vi i, vu g] 30)
  have b0 := hB0.cell 0 rfl
  have b1 := hB0.cell 1 rfl
  have hB : Sat w0 (cxB h p most * (tblP p ps free * (pc w.heap.size 30 [vi i, vu g] * (F)))) (w.alloc (.cells #[vi i, vu g] 30)) := hB0.cast (by ac_rfl)
  have HG := Lib.hid (cx_find hB i g)
  rw [he] at HG
  clear hB hB0
  have HD := Lib.hid (fun (w' : World) (G : Hp) (h' : Sat w0 (tblP p ps free * G) w') => drop_yes h' i g hA hg)
  clear hS he hg
  obtain ⟨psn, hpsn⟩ : ∃ q, q = ps.set k { a with gen := a.gen + 1, there := false, x := ez } := ⟨_, rfl⟩
  rw [← hpsn] at HD ⊢
  clear hpsn hA
  generalize getX ps i g = x at *
  obtain ⟨v0, v1, a2, n2, c2, v3⟩ := x
  have hz' : v3 = 0 := hz
  subst hz'
  clear hz
  go_enter Try.func22, Try.ntmps22
  go_wp2_with (go_at_call 38; refine HG.out.mono ?_; rintro e w1 ⟨rfl, hS1⟩; have HS1 := Lib.hid hS1; have hA : Sat w0 (pc w1.heap.size 49 (elC ⟨v0, v1, a2, n2, c2, 0⟩) * _) (w1.alloc (elO ⟨v0, v1, a2, n2, c2, 0⟩)) := hS1.alloc (elO ⟨v0, v1, a2, n2, c2, 0⟩); have H1 := Lib.hid hA; have hx0 := hA.cell 0 rfl; have hx1 := hA.cell 1 rfl; have hx2 := hA.cell 2 rfl; have hx3 := hA.cell 3 rfl; clear hA hS1)
  have d0 := (H1.out).pull2.cell 0 rfl; have d1 := (H1.out).pull4.cell 0 rfl; have d2 := (H1.out).pull4.cell 1 rfl
  go_region_held3 (fun w' => w'.cell? ⟨h, 0, none⟩ = some (vp p) ∧ w'.cell? ⟨w.heap.size, 0, none⟩ = some (vi i) ∧ w'.cell? ⟨w.heap.size, 1, none⟩ = some (vu g))
    (first | exact ⟨d0, d1, d2⟩ | exact ⟨e0, e1, e2⟩ | go_keep)
    ((go_at_call 56; refine (HD.out _ _ ((H1.out.drew).cast (show _ = tblP p ps free * (cxB h p most * (pc w1.heap.size 49 (elC ⟨v0, v1, a2, n2, c2, 0⟩) * (pc w.heap.size 30 [vi i, vu g] * (F)))) by ac_rfl))).mono ?_; rintro e w3 ⟨rfl, hS3⟩; have H3 := Lib.hid ((hS3).cast (show _ = pc w1.heap.size 49 (elC ⟨v0, v1, a2, n2, c2, 0⟩) * (cxB h p most * (tblP p psn (free ++ [k]) * (pc w.heap.size 30 [vi i, vu g] * (F)))) by ac_rfl)); clear hS3; have e0 := (H3.out).pull2.cell 0 rfl; have e1 := (H3.out).pull4.cell 0 rfl; have e2 := (H3.out).pull4.cell 1 rfl))
  go_wp2
  go_ret
  exact ⟨rfl, ((H3.out).cast (show _ = pc w1.heap.size 49 (elC ⟨v0, v1, a2, n2, c2, 0⟩) * (pc w.heap.size 30 [vi i, vu g] * (cxB h p most * (tblP p psn (free ++ [k]) * (F)))) by ac_rfl)).dropL.dropL⟩
end
end Go.Proofs.Ytknodagcmachiaa.Cn

namespace Go.Proofs.Ytknodagcmachiaa.Cn
open Go.RowKit Ac Fi
set_option linter.unusedVariables false
set_option linter.unusedSimpArgs false

section
variable {w0 w : World} {F : Hp} {h p : Nat} {most : Int} {ps : List Pl} {free : List Nat} {L : Blks} {l : List Rf}
set_option maxRecDepth 100000 in
set_option maxHeartbeats 2000000 in
theorem can_no (hS : Sat w0 (cxB h p most * (tblP p ps free * (plB L * (F)))) w) (i g : Int) (now : Int) (he : getE ps i g = 11) :
    Calls Try.prog 12 #[vp h, vr i g, vu now] w fun e w' => e = .returned (.bool false) ∧ Sat w0 (cxB h p most * (tblP p ps free * (plB L * (F)))) w' := by
  have hB0 : Sat w0 (pc w.heap.size 30 [vi i, vu g] * (cxB h p most * (tblP p ps free * (plB L * (F))))) (w.alloc (.cells #[vi i, vu g] 30)) := hS.alloc (.cells #[vi i, vu g] 30)
  have b0 := hB0.cell 0 rfl
  have b1 := hB0.cell 1 rfl
  have hB : Sat w0 (cxB h p most * (tblP p ps free * (pc w.heap.size 30 [vi i, vu g] * (plB L * (F))))) (w.alloc (.cells #[vi i, vu g] 30)) := hB0.cast (by ac_rfl)
  have HG := Lib.hid (cx_find hB i g)
  rw [he] at HG
  clear hB hB0
  clear hS he
  generalize getX ps i g = x at *
  obtain ⟨v0, v1, a2, n2, c2, v3⟩ := x
  go_enter Try.func12, Try.ntmps12
  go_wp2_with (go_at_call 38; refine HG.out.mono ?_; rintro e w1 ⟨rfl, hS1⟩; have HS1 := Lib.hid hS1; have hA : Sat w0 (pc w1.heap.size 49 (elC ⟨v0, v1, a2, n2, c2, v3⟩) * _) (w1.alloc (elO ⟨v0, v1, a2, n2, c2, v3⟩)) := hS1.alloc (elO ⟨v0, v1, a2, n2, c2, v3⟩); have H1 := Lib.hid hA; have hx0 := hA.cell 0 rfl; have hx1 := hA.cell 1 rfl; have hx2 := hA.cell 2 rfl; have hx3 := hA.cell 3 rfl; clear hA hS1)
  go_ret
  exact ⟨rfl, ((H1.out).cast (show _ = pc w1.heap.size 49 (elC ⟨v0, v1, a2, n2, c2, v3⟩) * (pc w.heap.size 30 [vi i, vu g] * (cxB h p most * (tblP p ps free * (plB L * (F))))) by ac_rfl)).dropL.dropL⟩
set_option maxRecDepth 100000 in
set_option maxHeartbeats 2000000 in
theorem can_yes (hS : Sat w0 (cxB h p most * (tblP p ps free * (plB L * (F)))) w) (i g : Int) (now : Int) (he : getE ps i g = 0) (hi : InP L (.slice (getX ps i g).a2 (getX ps i g).n2 (getX ps i g).c2) l) (hl : l.length ≤ 1000) :
    Calls Try.prog 12 #[vp h, vr i g, vu now] w fun e w' => e = .returned (.bool (decide (0 < thereV l now))) ∧ Sat w0 (cxB h p most * (tblP p ps free * (plB L * (F)))) w' := by
  have hB0 : Sat w0 (pc w.heap.size 30 [vi i, vu g] * (cxB h p most * (tblP p ps free * (plB L * (F))))) (w.alloc (.cells #[vi i, vu g] 30)) := hS.alloc (.cells #[vi i, vu g] 30)
  have b0 := hB0.cell 0 rfl
  have b1 := hB0.cell 1 rfl
  have hB : Sat w0 (cxB h p most * (tblP p ps free * (pc w.heap.size 30 [vi i, vu g] * (plB L * (F))))) (w.alloc (.cells #[vi i, vu g] 30)) := hB0.cast (by ac_rfl)
  have HG := Lib.hid (cx_find hB i g)
  rw [he] at HG
  clear hB hB0
  have HI := Lib.hid hi
  clear hS he hi
  generalize getX ps i g = x at *
  obtain ⟨v0, v1, a2, n2, c2, v3⟩ := x
  go_enter Try.func12, Try.ntmps12
  go_wp2_with (first
    | (go_at_call 38; refine HG.out.mono ?_; rintro e w1 ⟨rfl, hS1⟩; have HS1 := Lib.hid hS1; have hA : Sat w0 (pc w1.heap.size 49 (elC ⟨v0, v1, a2, n2, c2, v3⟩) * _) (w1.alloc (elO ⟨v0, v1, a2, n2, c2, v3⟩)) := hS1.alloc (elO ⟨v0, v1, a2, n2, c2, v3⟩); have H1 := Lib.hid hA; have hx0 := hA.cell 0 rfl; have hx1 := hA.cell 1 rfl; have hx2 := hA.cell 2 rfl; have hx3 := hA.cell 3 rfl; clear hA hS1)
    | (go_at_call 39; refine (there_ l now _ _ (Sat.plRd ((H1.out).cast (show _ = plB L * (pc w1.heap.size 49 (elC ⟨v0, v1, a2, n2, c2, v3⟩) * (pc w.heap.size 30 [vi i, vu g] * (cxB h p most * (tblP p ps free * (F))))) by ac_rfl)) HI.out) (by omega)).mono ?_; rintro e w2 ⟨rfl, hb⟩; have H2 := Lib.hid (Sat.after H1.out hb); clear hb))
  go_ret
  exact ⟨by simp, ((H2.out).cast (show _ = pc w1.heap.size 49 (elC ⟨v0, v1, a2, n2, c2, v3⟩) * (pc w.heap.size 30 [vi i, vu g] * (cxB h p most * (tblP p ps free * (plB L * (F))))) by ac_rfl)).dropL.dropL⟩
set_option maxRecDepth 100000 in
set_option maxHeartbeats 2000000 in
theorem next_no (hS : Sat w0 (cxB h p most * (tblP p ps free * (plB L * (F)))) w) (i g : Int) (now : Int) (he : getE ps i g = 11) :
    Calls Try.prog 30 #[vp h, vr i g, vu now] w fun e w' => e = .returned (addV none) ∧ Sat w0 (cxB h p most * (tblP p ps free * (plB L * (F)))) w' := by
  have hB0 : Sat w0 (pc w.heap.size 30 [vi i, vu g] * (cxB h p most * (tblP p ps free * (plB L * (F))))) (w.alloc (.cells #[vi i, vu g] 30)) := hS.alloc (.cells #[vi i, vu g] 30)
  have b0 := hB0.cell 0 rfl
  have b1 := hB0.cell 1 rfl
  have hB : Sat w0 (cxB h p most * (tblP p ps free * (pc w.heap.size 30 [vi i, vu g] * (plB L * (F))))) (w.alloc (.cells #[vi i, vu g] 30)) := hB0.cast (by ac_rfl)
  have HG := Lib.hid (cx_find hB i g)
  rw [he] at HG
  clear hB hB0
  clear hS he
  generalize getX ps i g = x at *
  obtain ⟨v0, v1, a2, n2, c2, v3⟩ := x
  go_enter Try.func30, Try.ntmps30
  go_wp2_with (go_at_call 38; refine HG.out.mono ?_; rintro e w1 ⟨rfl, hS1⟩; have HS1 := Lib.hid hS1; have hA : Sat w0 (pc w1.heap.size 49 (elC ⟨v0, v1, a2, n2, c2, v3⟩) * _) (w1.alloc (elO ⟨v0, v1, a2, n2, c2, v3⟩)) := hS1.alloc (elO ⟨v0, v1, a2, n2, c2, v3⟩); have H1 := Lib.hid hA; have hx0 := hA.cell 0 rfl; have hx1 := hA.cell 1 rfl; have hx2 := hA.cell 2 rfl; have hx3 := hA.cell 3 rfl; clear hA hS1)
  go_ret2
  exact ⟨rfl, ((H1.out).cast (show _ = pc w1.heap.size 49 (elC ⟨v0, v1, a2, n2, c2, v3⟩) * (pc w.heap.size 30 [vi i, vu g] * (cxB h p most * (tblP p ps free * (plB L * (F))))) by ac_rfl)).dropL.dropL⟩
set_option maxRecDepth 100000 in
set_option maxHeartbeats 2000000 in
theorem next_yes (hS : Sat w0 (cxB h p most * (tblP p ps free * (plB L * (F)))) w) (i g : Int) (now : Int) (he : getE ps i g = 0) (hi : InP L (.slice (getX ps i g).a2 (getX ps i g).n2 (getX ps i g).c2) l) (hl : l.length ≤ 1000) :
    Calls Try.prog 30 #[vp h, vr i g, vu now] w fun e w' => e = .returned (addV (nextP l now)) ∧ Sat w0 (cxB h p most * (tblP p ps free * (plB L * (F)))) w' := by
  have hB0 : Sat w0 (pc w.heap.size 30 [vi i, vu g] * (cxB h p most * (tblP p ps free * (plB L * (F))))) (w.alloc (.cells #[vi i, vu g] 30)) := hS.alloc (.cells #[vi i, vu g] 30)
  have b0 := hB0.cell 0 rfl
  have b1 := hB0.cell 1 rfl
  have hB : Sat w0 (cxB h p most * (tblP p ps free * (pc w.heap.size 30 [vi i, vu g] * (plB L * (F))))) (w.alloc (.cells #[vi i, vu g] 30)) := hB0.cast (by ac_rfl)
  have HG := Lib.hid (cx_find hB i g)
  rw [he] at HG
  clear hB hB0
  have HI := Lib.hid hi
  have HN := Lib.hid (fun v w (h : RdF w v l) => next_ l now v w h (by omega))
  obtain ⟨nx, nb, hnx, _⟩ := addV_form (nextP l now)
  rw [hnx] at HN ⊢
  clear hS he hi hnx
  generalize getX ps i g = x at *
  obtain ⟨v0, v1, a2, n2, c2, v3⟩ := x
  go_enter Try.func30, Try.ntmps30
  go_wp2_with (first
    | (go_at_call 38; refine HG.out.mono ?_; rintro e w1 ⟨rfl, hS1⟩; have HS1 := Lib.hid hS1; have hA : Sat w0 (pc w1.heap.size 49 (elC ⟨v0, v1, a2, n2, c2, v3⟩) * _) (w1.alloc (elO ⟨v0, v1, a2, n2, c2, v3⟩)) := hS1.alloc (elO ⟨v0, v1, a2, n2, c2, v3⟩); have H1 := Lib.hid hA; have hx0 := hA.cell 0 rfl; have hx1 := hA.cell 1 rfl; have hx2 := hA.cell 2 rfl; have hx3 := hA.cell 3 rfl; clear hA hS1)
    | (go_at_call 63; refine (HN.out _ _ (Sat.plRd ((H1.out).cast (show _ = plB L * (pc w1.heap.size 49 (elC ⟨v0, v1, a2, n2, c2, v3⟩) * (pc w.heap.size 30 [vi i, vu g] * (cxB h p most * (tblP p ps free * (F))))) by ac_rfl)) HI.out)).mono ?_; rintro e w2 ⟨rfl, hb⟩; have H2 := Lib.hid (Sat.after H1.out hb); clear hb))
  go_ret2
  exact ⟨rfl, ((H2.out).cast (show _ = pc w1.heap.size 49 (elC ⟨v0, v1, a2, n2, c2, v3⟩) * (pc w.heap.size 30 [vi i, vu g] * (cxB h p most * (tblP p ps free * (plB L * (F))))) by ac_rfl)).dropL.dropL⟩
set_option maxRecDepth 100000 in
set_option maxHeartbeats 2000000 in
theorem charge_stale (hS : Sat w0 (cxB h p most * (tblP p ps free * (plB L * (F)))) w) (i g : Int) (now : Int) (he : getE ps i g = 11) :
    Calls Try.prog 13 #[vp h, vr i g, vu now] w fun e w' => e = .returned (.bool false) ∧ Sat w0 (cxB h p most * (tblP p ps free * (plB L * (F)))) w' := by
  have hB0 : Sat w0 (pc w.heap.size 30 [vi i, vu g] * (cxB h p most * (tblP p ps free * (plB L * (F))))) (w.alloc (.cells #[vi i, vu g] 30)) := hS.alloc (.cells #[vi i, vu g] 30)
  have b0 := hB0.cell 0 rfl
  have b1 := hB0.cell 1 rfl
  have hB : Sat w0 (cxB h p most * (tblP p ps free * (pc w.heap.size 30 [vi i, vu g] * (plB L * (F))))) (w.alloc (.cells #[vi i, vu g] 30)) := hB0.cast (by ac_rfl)
  have HG := Lib.hid (cx_find hB i g)
  rw [he] at HG
  clear hB hB0
  clear hS he
  generalize getX ps i g = x at *
  obtain ⟨v0, v1, a2, n2, c2, v3⟩ := x
  go_enter Try.func13, Try.ntmps13
  go_wp2_with (go_at_call 38; refine HG.out.mono ?_; rintro e w1 ⟨rfl, hS1⟩; have HS1 := Lib.hid hS1; have hA : Sat w0 (pc w1.heap.size 49 (elC ⟨v0, v1, a2, n2, c2, v3⟩) * _) (w1.alloc (elO ⟨v0, v1, a2, n2, c2, v3⟩)) := hS1.alloc (elO ⟨v0, v1, a2, n2, c2, v3⟩); have H1 := Lib.hid hA; have hx0 := hA.cell 0 rfl; have hx1 := hA.cell 1 rfl; have hx2 := hA.cell 2 rfl; have hx3 := hA.cell 3 rfl; clear hA hS1)
  go_ret
  exact ⟨rfl, ((H1.out).cast (show _ = pc w1.heap.size 49 (elC ⟨v0, v1, a2, n2, c2, v3⟩) * (pc w.heap.size 30 [vi i, vu g] * (cxB h p most * (tblP p ps free * (plB L * (F))))) by ac_rfl)).dropL.dropL⟩
set_option maxRecDepth 100000 in
set_option maxHeartbeats 2000000 in
theorem charge_not (hS : Sat w0 (cxB h p most * (tblP p ps free * (plB L * (F)))) w) (i g : Int) (now : Int) (he : getE ps i g = 0) (hi : InP L (.slice (getX ps i g).a2 (getX ps i g).n2 (getX ps i g).c2) l) (hl : l.length ≤ 1000) (hn : U64 now) (hp : U64 (getX ps i g).v1) (hc : ¬ ChOk l now (getX ps i g).v1 most) :
    Calls Try.prog 13 #[vp h, vr i g, vu now] w fun e w' => e = .returned (.bool false) ∧ Sat w0 (cxB h p most * (tblP p ps free * (plB L * (F)))) w' := by
  have hB0 : Sat w0 (pc w.heap.size 30 [vi i, vu g] * (cxB h p most * (tblP p ps free * (plB L * (F))))) (w.alloc (.cells #[vi i, vu g] 30)) := hS.alloc (.cells #[vi i, vu g] 30)
  have b0 := hB0.cell 0 rfl
  have b1 := hB0.cell 1 rfl
  have hB : Sat w0 (cxB h p most * (tblP p ps free * (pc w.heap.size 30 [vi i, vu g] * (plB L * (F))))) (w.alloc (.cells #[vi i, vu g] 30)) := hB0.cast (by ac_rfl)
  have HG := Lib.hid (cx_find hB i g)
  rw [he] at HG
  clear hB hB0
  have HI := Lib.hid hi
  have HN := Lib.hid (fun v w (h : RdF w v l) => charge_no (w := w) (v := v) h (by omega) hn hp hc)
  clear hS he hi hn hp hc
  generalize getX ps i g = x at *
  obtain ⟨v0, v1, a2, n2, c2, v3⟩ := x
  go_enter Try.func13, Try.ntmps13
  go_wp2_with (go_at_call 38; refine HG.out.mono ?_; rintro e w1 ⟨rfl, hS1⟩; have HS1 := Lib.hid hS1; have hA : Sat w0 (pc w1.heap.size 49 (elC ⟨v0, v1, a2, n2, c2, v3⟩) * _) (w1.alloc (elO ⟨v0, v1, a2, n2, c2, v3⟩)) := hS1.alloc (elO ⟨v0, v1, a2, n2, c2, v3⟩); have H1 := Lib.hid hA; have hx0 := hA.cell 0 rfl; have hx1 := hA.cell 1 rfl; have hx2 := hA.cell 2 rfl; have hx3 := hA.cell 3 rfl; clear hA hS1)
  have d0 := (H1.out).pull2.cell 0 rfl; have d1 := (H1.out).pull2.cell 1 rfl; have d2 := (H1.out).pull4.cell 0 rfl; have d3 := (H1.out).pull4.cell 1 rfl; have d4 := (H1.out).cell 0 rfl; have d5 := (H1.out).cell 1 rfl; have d6 := (H1.out).cell 2 rfl; have d7 := (H1.out).cell 3 rfl
  go_region_held3 (fun w' => w'.cell? ⟨h, 0, none⟩ = some (vp p) ∧ w'.cell? ⟨h, 1, none⟩ = some (vi most) ∧ w'.cell? ⟨w.heap.size, 0, none⟩ = some (vi i) ∧ w'.cell? ⟨w.heap.size, 1, none⟩ = some (vu g) ∧ w'.cell? ⟨w1.heap.size, 0, none⟩ = some (vu v0) ∧ w'.cell? ⟨w1.heap.size, 1, none⟩ = some (vu v1) ∧ w'.cell? ⟨w1.heap.size, 2, none⟩ = some (.slice a2 n2 c2) ∧ w'.cell? ⟨w1.heap.size, 3, none⟩ = some (vi v3))
    (first | exact ⟨d0, d1, d2, d3, d4, d5, d6, d7⟩ | exact ⟨q0, q1, q2, q3, q4, q5, q6, q7⟩ | go_keep)
    ((go_at_call 40; refine (HN.out _ _ (Sat.plRd ((H1.out.drew).cast (show _ = plB L * (pc w1.heap.size 49 (elC ⟨v0, v1, a2, n2, c2, v3⟩) * (pc w.heap.size 30 [vi i, vu g] * (cxB h p most * (tblP p ps free * (F))))) by ac_rfl)) HI.out)).mono ?_; rintro e w2 ⟨rfl, hb⟩; have H2 := Lib.hid (Sat.after H1.out.drew hb); clear hb; have q0 := (H2.out).pull2.cell 0 rfl; have q1 := (H2.out).pull2.cell 1 rfl; have q2 := (H2.out).pull4.cell 0 rfl; have q3 := (H2.out).pull4.cell 1 rfl; have q4 := (H2.out).cell 0 rfl; have q5 := (H2.out).cell 1 rfl; have q6 := (H2.out).cell 2 rfl; have q7 := (H2.out).cell 3 rfl))
  go_wp2
  go_ret
  exact ⟨rfl, ((H2.out).cast (show _ = pc w1.heap.size 49 (elC ⟨v0, v1, a2, n2, c2, v3⟩) * (pc w.heap.size 30 [vi i, vu g] * (cxB h p most * (tblP p ps free * (plB L * (F))))) by ac_rfl)).dropL.dropL⟩
set_option maxRecDepth 100000 in
set_option maxHeartbeats 2000000 in
theorem charge_ok (hS : Sat w0 (cxB h p most * (tblP p ps free * (plB L * (F)))) w) (i g : Int) (now : Int) (he : getE ps i g = 0) (hi : InP L (.slice (getX ps i g).a2 (getX ps i g).n2 (getX ps i g).c2) l) (hl : l.length ≤ 1000) (hn : U64 now) (hp : U64 (getX ps i g).v1) (hc : ChOk l now (getX ps i g).v1 most) (hok : OkL (chargeL l now (getX ps i g).v1 most)) :
    Calls Try.prog 13 #[vp h, vr i g, vu now] w fun e w' => ∃ ao lc L2, e = .returned (.bool true) ∧ (∀ x ∈ L, x ∈ L2) ∧ InP L2 (.slice ao (chargeL l now (getX ps i g).v1 most).length lc) (chargeL l now (getX ps i g).v1 most) ∧ Sat w0 (cxB h p most * (tblP p (setP ps i g { getX ps i g with a2 := ao, n2 := (chargeL l now (getX ps i g).v1 most).length, c2 := lc }) free * (plB L2 * (F)))) w' := by
  have hB0 : Sat w0 (pc w.heap.size 30 [vi i, vu g] * (cxB h p most * (tblP p ps free * (plB L * (F))))) (w.alloc (.cells #[vi i, vu g] 30)) := hS.alloc (.cells #[vi i, vu g] 30)
  have b0 := hB0.cell 0 rfl
  have b1 := hB0.cell 1 rfl
  have hB : Sat w0 (cxB h p most * (tblP p ps free * (pc w.heap.size 30 [vi i, vu g] * (plB L * (F))))) (w.alloc (.cells #[vi i, vu g] 30)) := hB0.cast (by ac_rfl)
  have HG := Lib.hid (cx_find hB i g)
  rw [he] at HG
  clear hB hB0
  have HI := Lib.hid hi
  have HN := Lib.hid (fun v w (h : RdF w v l) (hr : Room v l.length) => charge_yes (w := w) (v := v) h hr (by omega) hn hp hc)
  have HSET := Lib.hid (fun (w' : World) (G : Hp) (h' : Sat w0 (tblP p ps free * G) w') (x : El) => set_ h' i g x)
  rw [he] at HSET
  clear hS he hi hn hp hc
  generalize chargeL l now (getX ps i g).v1 most = ln at *
  have HOK := Lib.hid hok
  clear hok
  generalize getX ps i g = x at *
  obtain ⟨v0, v1, a2, n2, c2, v3⟩ := x
  go_enter Try.func13, Try.ntmps13
  go_wp2_with (go_at_call 38; refine HG.out.mono ?_; rintro e w1 ⟨rfl, hS1⟩; have HS1 := Lib.hid hS1; have hA : Sat w0 (pc w1.heap.size 49 (elC ⟨v0, v1, a2, n2, c2, v3⟩) * _) (w1.alloc (elO ⟨v0, v1, a2, n2, c2, v3⟩)) := hS1.alloc (elO ⟨v0, v1, a2, n2, c2, v3⟩); have H1 := Lib.hid hA; have hx0 := hA.cell 0 rfl; have hx1 := hA.cell 1 rfl; have hx2 := hA.cell 2 rfl; have hx3 := hA.cell 3 rfl; clear hA hS1)
  have d0 := (H1.out).pull2.cell 0 rfl; have d1 := (H1.out).pull2.cell 1 rfl; have d2 := (H1.out).pull4.cell 0 rfl; have d3 := (H1.out).pull4.cell 1 rfl; have d4 := (H1.out).cell 0 rfl; have d5 := (H1.out).cell 1 rfl; have d6 := (H1.out).cell 2 rfl; have d7 := (H1.out).cell 3 rfl
  go_region_held3 (fun w' => w'.cell? ⟨h, 0, none⟩ = some (vp p) ∧ w'.cell? ⟨h, 1, none⟩ = some (vi most) ∧ w'.cell? ⟨w.heap.size, 0, none⟩ = some (vi i) ∧ w'.cell? ⟨w.heap.size, 1, none⟩ = some (vu g) ∧ w'.cell? ⟨w1.heap.size, 0, none⟩ = some (vu v0) ∧ w'.cell? ⟨w1.heap.size, 1, none⟩ = some (vu v1) ∧ w'.cell? ⟨w1.heap.size, 2, none⟩ = some (.slice a2 n2 c2) ∧ w'.cell? ⟨w1.heap.size, 3, none⟩ = some (vi v3))
    (first | exact ⟨d0, d1, d2, d3, d4, d5, d6, d7⟩ | exact ⟨q0, q1, q2, q3, q4, q5, q6, q7⟩ | go_keep)
    ((go_at_call 40; refine (HN.out _ _ (Sat.plRd ((H1.out.drew).cast (show _ = plB L * (pc w1.heap.size 49 (elC ⟨v0, v1, a2, n2, c2, v3⟩) * (pc w.heap.size 30 [vi i, vu g] * (cxB h p most * (tblP p ps free * (F))))) by ac_rfl)) HI.out) (InP.room HI.out)).mono ?_; rintro e w2 ⟨vn, rfl, hS2⟩; have h2 := (Sat.link H1.out.drew hS2).cast (show _ = fiS vn ln * (plB L * (pc w1.heap.size 49 (elC ⟨v0, v1, a2, n2, c2, v3⟩) * (cxB h p most * (tblP p ps free * (pc w.heap.size 30 [vi i, vu g] * (F)))))) by ac_rfl); obtain ⟨L2, hsub, hin, h3⟩ := h2.plIn HOK.out; obtain ⟨ao, lc, rfl⟩ := hin.form; have HSUB := Lib.hid hsub; have HIN := Lib.hid hin; have H2 := Lib.hid ((h3).cast (show _ = pc w1.heap.size 49 (elC ⟨v0, v1, a2, n2, c2, v3⟩) * (cxB h p most * (tblP p ps free * (pc w.heap.size 30 [vi i, vu g] * (plB L2 * (F))))) by ac_rfl)); have fz2 := H2.out.free 2; clear hS2 h2 h3 hsub hin; have q0 := (H2.out).pull2.cell 0 rfl; have q1 := (H2.out).pull2.cell 1 rfl; have q2 := (H2.out).pull4.cell 0 rfl; have q3 := (H2.out).pull4.cell 1 rfl; have q4 := (H2.out).cell 0 rfl; have q5 := (H2.out).cell 1 rfl; have q6 := (H2.out).cell 2 rfl; have q7 := (H2.out).cell 3 rfl))
  go_wp2
  have hA3 : Sat w0 (pc w1.heap.size 49 (elC ⟨v0, v1, ao, ln.length, lc, v3⟩) * (cxB h p most * (tblP p ps free * (pc w.heap.size 30 [vi i, vu g] * (plB L2 * (F)))))) (w2.setCell ⟨w1.heap.size, 2, none⟩ (.slice ao ln.length lc)) := H2.out.store 2 _
  have HA3 := Lib.hid hA3
  clear hA3
  have r0 := (HA3.out).pull2.cell 0 rfl; have r1 := (HA3.out).pull2.cell 1 rfl; have r2 := (HA3.out).pull4.cell 0 rfl; have r3 := (HA3.out).pull4.cell 1 rfl; have r4 := (HA3.out).cell 0 rfl; have r5 := (HA3.out).cell 1 rfl; have r6 := (HA3.out).cell 2 rfl; have r7 := (HA3.out).cell 3 rfl
  go_region_held3 (fun w' => w'.cell? ⟨h, 0, none⟩ = some (vp p) ∧ w'.cell? ⟨h, 1, none⟩ = some (vi most) ∧ w'.cell? ⟨w.heap.size, 0, none⟩ = some (vi i) ∧ w'.cell? ⟨w.heap.size, 1, none⟩ = some (vu g) ∧ w'.cell? ⟨w1.heap.size, 0, none⟩ = some (vu v0) ∧ w'.cell? ⟨w1.heap.size, 1, none⟩ = some (vu v1) ∧ w'.cell? ⟨w1.heap.size, 2, none⟩ = some (.slice ao ln.length lc) ∧ w'.cell? ⟨w1.heap.size, 3, none⟩ = some (vi v3))
    (first | exact ⟨r0, r1, r2, r3, r4, r5, r6, r7⟩ | exact ⟨s0, s1, s2, s3, s4, s5, s6, s7⟩ | go_keep)
    ((go_at_call 41; refine (HSET.out _ _ ((HA3.out.drew).cast (show _ = tblP p ps free * (cxB h p most * (pc w1.heap.size 49 (elC ⟨v0, v1, ao, ln.length, lc, v3⟩) * (pc w.heap.size 30 [vi i, vu g] * (plB L2 * (F))))) by ac_rfl)) ⟨v0, v1, ao, ln.length, lc, v3⟩).mono ?_; rintro e w3 ⟨rfl, hS3⟩; have H4 := Lib.hid ((hS3).cast (show _ = pc w1.heap.size 49 (elC ⟨v0, v1, ao, ln.length, lc, v3⟩) * (cxB h p most * (tblP p (setP ps i g ⟨v0, v1, ao, ln.length, lc, v3⟩) free * (pc w.heap.size 30 [vi i, vu g] * (plB L2 * (F))))) by ac_rfl)); clear hS3; have s0 := (H4.out).pull2.cell 0 rfl; have s1 := (H4.out).pull2.cell 1 rfl; have s2 := (H4.out).pull4.cell 0 rfl; have s3 := (H4.out).pull4.cell 1 rfl; have s4 := (H4.out).cell 0 rfl; have s5 := (H4.out).cell 1 rfl; have s6 := (H4.out).cell 2 rfl; have s7 := (H4.out).cell 3 rfl))
  go_wp2
  go_ret
  exact ⟨ao, lc, L2, rfl, HSUB.out, HIN.out, ((H4.out).cast (show _ = pc w1.heap.size 49 (elC ⟨v0, v1, ao, ln.length, lc, v3⟩) * (pc w.heap.size 30 [vi i, vu g] * (cxB h p most * (tblP p (setP ps i g ⟨v0, v1, ao, ln.length, lc, v3⟩) free * (plB L2 * (F))))) by ac_rfl)).dropL.dropL⟩
end
end Go.Proofs.Ytknodagcmachiaa.Cn
