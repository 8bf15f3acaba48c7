/-
  Chapter 16: Make, refused. No statement is proved here.
-/
import Derived.Test.YtffjckdaekamgaaGt3
import Derived.Test.YtffjckdaekamgaaRowQ
namespace Go.Proofs.Ytffjckdaekamgaa.Gt
open Go.RowKit Ag
set_option linter.unusedVariables false

section
variable {w0 w : World} {F : Hp} {h p : Nat} {ps : List Pl} {free : List Nat}
set_option maxRecDepth 100000 in
set_option maxHeartbeats 2000000 in
theorem gt_make_no (hS : Sat w0 (gtB h p * F) w) (x : El) (hm : mayB x = false) : Calls Try.prog 19 #[vp h, ev x] w fun e w' => e = .returned (.tuple #[vr 0 0, vi 2]) ∧ Sat w0 (gtB h p * F) w' := by
  have hB0 := ((hS.alloc (elO x)).alloc (.cells #[vi 0, vu 0] 25))
  rw [size1] at hB0
  have hB : Sat w0 (pc (w.heap.size + 1) 25 [vi 0, vu 0] * (elB w.heap.size x * (gtB h p * F))) ((w.alloc (elO x)).alloc (.cells #[vi 0, vu 0] 25)) := hB0
  have HN := Lib.hid (gt_none hB.pull3)
  have HM := g_may hB x
  rw [hm] at HM
  have HM := Lib.hid HM
  have HLd := Lib.hid (range_ hB.pull2)
  clear hB hB0 hS hm
  generalize hwb : (w.alloc (elO x)).alloc (.cells #[vi 0, vu 0] 25) = wb at *
  generalize hb1 : w.heap.size + 1 = bx at *
  generalize hb2 : w.heap.size = b2 at *
  have HW := Lib.hid hwb
  have HB1 := Lib.hid hb1
  have HB2 := Lib.hid hb2
  clear hwb hb1 hb2
  go_enter Try.func19, Try.ntmps19
  go_wp2_with fail
  rw [HW.out, HB2.out, HB1.out]
  refine HN.out.mono ?_
  rintro e w' ⟨rfl, rfl⟩
  go_wp2_with (first
    | (go_at_call 6; refine HM.out.mono ?_; rintro e w1 ⟨rfl, hS1⟩; have s0 := hS1.cell 0 rfl; have s1 := hS1.cell 1 rfl; have t0 := hS1.free 0; have t1 := hS1.free 1; have H1 := Lib.hid hS1; clear hS1)
    | (refine wpList_load_mid rfl 29 _ rfl b2 0 (by rfl) (elC x) _ HLd.out Try.underlying29 rfl einfo ?_))
  (try simp only [Exit.inBlock, Exit.then])
  refine bodyPost_ret (v := .tuple #[vr 0 0, vi 2]) (by rw [results_cell_tmp rfl]; go_simp) rfl ?_
  exact ⟨rfl, by first | exact H1.out.dropL.dropL | exact ((H1.out.store 0 (vi 0)).store 1 (vu 0)).dropL.dropL⟩
end
end Go.Proofs.Ytffjckdaekamgaa.Gt
