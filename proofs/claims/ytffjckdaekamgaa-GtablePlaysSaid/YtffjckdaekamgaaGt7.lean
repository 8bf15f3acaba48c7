/-
  Chapter 16: gtable.Drop. No statement is proved here.
-/
import Derived.Test.YtffjckdaekamgaaGt3g
import Derived.Test.YtffjckdaekamgaaGa6
namespace Go.Proofs.Ytffjckdaekamgaa.Gt
open Go.RowKit Ag
set_option linter.unusedVariables false

section
variable {w0 w : World} {F : Hp} {h p : Nat} {ps : List Pl} {free : List Nat}
set_option maxRecDepth 100000 in
set_option maxHeartbeats 4000000 in
theorem gt_drop_no (hS : Sat w0 (gtB h p * (tblP p ps free * F)) w) (i g : Int) (hA : isAt ps i g = none) : Calls Try.prog 28 #[vp h, vr i g] w fun e w' => e = .returned (vi 11) ∧ Sat w0 (gtB h p * (tblP p ps free * F)) w' := by
  have hB0 : Sat w0 (pc w.heap.size 25 [vi i, vu g] * (gtB h p * (tblP p ps free * F))) (w.alloc (.cells #[vi i, vu g] 25)) := hS.alloc _
  have HN := Lib.hid (gt_none hB0.pull2)
  have h0 := hB0.pull2.cell 0 rfl
  have i0 := hB0.cell 0 rfl
  have i1 := hB0.cell 1 rfl
  have HD := Lib.hid (drop_no hB0.drew.pull3 i g hA)
  clear hS hB0 hA
  go_enter Try.func28, Try.ntmps28
  go_wp2_with (go_at_call 30; refine HN.out.mono ?_; rintro e w' ⟨rfl, rfl⟩)
  refine wp_quiet_tail 5 (by kernel_rfl) (by kernel_rfl) ?_
  simp only [List.take_succ_cons, List.take_zero, List.drop_succ_cons, List.drop_zero]
  repeat (go_big_quiet_step (fail))
  refine wpQuiet_nil ?_
  go_wp2_with (go_at_call 44; refine HD.out.mono ?_; rintro e w3 ⟨rfl, hS3⟩)
  go_ret
  exact ⟨rfl, (hS3.cast (show _ = pc w.heap.size 25 [vi i, vu g] * (gtB h p * (tblP p ps free * F)) by ac_rfl)).dropL⟩
set_option maxRecDepth 100000 in
set_option maxHeartbeats 4000000 in
theorem gt_drop_yes (hS : Sat w0 (gtB h p * (tblP p ps free * F)) w) (i g : Int) {k : Nat} {a : Pl} (hA : isAt ps i g = some (k, a)) (hg : a.gen < 18446744073709551614) : Calls Try.prog 28 #[vp h, vr i g] w fun e w' => e = .returned (vi 0) ∧ Sat w0 (gtB h p * (tblP p (ps.set k { a with gen := a.gen + 1, there := false, x := ez }) (free ++ [k]) * F)) w' := by
  have hB0 : Sat w0 (pc w.heap.size 25 [vi i, vu g] * (gtB h p * (tblP p ps free * F))) (w.alloc (.cells #[vi i, vu g] 25)) := hS.alloc _
  have HN := Lib.hid (gt_none hB0.pull2)
  have h0 := hB0.pull2.cell 0 rfl
  have i0 := hB0.cell 0 rfl
  have i1 := hB0.cell 1 rfl
  have HD := Lib.hid (drop_yes hB0.drew.pull3 i g hA hg)
  clear hS hB0 hA hg
  go_enter Try.func28, Try.ntmps28
  go_wp2_with (go_at_call 30; refine HN.out.mono ?_; rintro e w' ⟨rfl, rfl⟩)
  refine wp_quiet_tail 5 (by kernel_rfl) (by kernel_rfl) ?_
  simp only [List.take_succ_cons, List.take_zero, List.drop_succ_cons, List.drop_zero]
  repeat (go_big_quiet_step (fail))
  refine wpQuiet_nil ?_
  go_wp2_with (go_at_call 44; refine HD.out.mono ?_; rintro e w3 ⟨rfl, hS3⟩)
  go_ret
  exact ⟨rfl, (hS3.cast (show _ = pc w.heap.size 25 [vi i, vu g] * (gtB h p * (tblP p (ps.set k { a with gen := a.gen + 1, there := false, x := ez }) (free ++ [k]) * F)) by ac_rfl)).dropL⟩
end
end Go.Proofs.Ytffjckdaekamgaa.Gt
