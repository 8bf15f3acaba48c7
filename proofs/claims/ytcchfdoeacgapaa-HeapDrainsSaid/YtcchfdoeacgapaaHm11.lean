/-
  known of chapter 04; the walk of HeapSorts. No statement is proved here.
-/
import Derived.Test.YtcchfdoeacgapaaHm10
import Derived.Test.YtcchfdoeacgapaaArgs
namespace Go.Proofs.Ytcchfdoeacgapaa.Hm
open Go.RowKit
set_option linter.unusedVariables false

theorem hasT_perm {A B : List Tm} (h : A.Perm B) (id : Int) : hasT A id = hasT B id := by
  unfold hasT
  exact h.any_eq
set_option maxRecDepth 100000 in
set_option maxHeartbeats 2000000 in
theorem known4 (w0 : World) : Calls Try.prog 14 #[] w0 (TrueBelow w0) := by
  go_enter Try.func14, Try.ntmps14
  go_wp2_with fail
  refine (h_new (Sat.start w0)).mono ?_
  rintro e w1 ⟨h, rfl, hS1⟩
  have H1 := Lib.hid hS1
  clear hS1
  go_wp2_with fail
  refine (h_put H1.out 5 1 rfl (by simp) (by omega) (by omega)).mono ?_
  rintro e w2 ⟨rfl, A1, hp1, hS2⟩
  have H2 := Lib.hid hS2
  have HP1 := Lib.hid hp1
  have hl1 := Lib.hid hp1.length_eq
  clear hS2 hp1
  go_wp2_with fail
  refine (h_put H2.out 3 2 (by rw [hasT_perm HP1.out]; rfl) (by rw [hl1.out]; simp) (by omega) (by omega)).mono ?_
  rintro e w3 ⟨rfl, A2, hp2, hS3⟩
  have H3 := Lib.hid hS3
  have HP2 := Lib.hid (hp2.trans (HP1.out.cons _))
  have hl2 := Lib.hid HP2.out.length_eq
  clear hS3 hp2
  go_wp2_with fail
  refine (h_put H3.out 5 3 (by rw [hasT_perm HP2.out]; rfl) (by rw [hl2.out]; simp) (by omega) (by omega)).mono ?_
  rintro e w4 ⟨rfl, A3, hp3, hS4⟩
  have H4 := Lib.hid hS4
  have HP3 := Lib.hid (hp3.trans (HP2.out.cons _))
  have hl3 := HP3.out.length_eq
  have hg3 : gt A3 0 = (3, 2, 1) := head_is H4.out HP3.out (by simp) (fun x hx => by simp at hx; rcases hx with rfl | rfl | rfl <;> simp [nl])
  have HQ3 := Lib.hid (h_pop H4.out (fun e => by rw [e] at hl3; simp at hl3) (by rw [hl3]; simp) 4 (by rw [hg3]; decide))
  rw [hg3] at HQ3
  clear hS4 hp3 hl3 hg3
  go_wp2_with fail
  refine HQ3.out.mono ?_
  rintro e w5 ⟨rfl, A4, hp4, hS5⟩
  have H5 := Lib.hid hS5
  have HP4 : Hid (A4.Perm [(5, 3, 2), (5, 1, 0)]) := Lib.hid ((hp4.trans (HP3.out.trans (by decide : List.Perm ([(5, 3, 0 + 1 + 1), (3, 2, 0 + 1), (5, 1, 0)] : List Tm) [(3, 2, 1), (5, 3, 2), (5, 1, 0)]))).cons_inv)
  have hl4 := HP4.out.length_eq
  have hg4 : gt A4 0 = (5, 1, 0) := head_is H5.out HP4.out (by simp) (fun x hx => by simp at hx; rcases hx with rfl | rfl <;> simp [nl])
  have HQ4 := Lib.hid (h_pop_no H5.out (fun e => by rw [e] at hl4; simp at hl4) (by rw [hl4]; simp) 4 (by rw [hg4]; decide))
  have HQ5 := Lib.hid (h_pop H5.out (fun e => by rw [e] at hl4; simp at hl4) (by rw [hl4]; simp) 5 (by rw [hg4]; decide))
  rw [hg4] at HQ5
  clear hS5 hp4 hl4 hg4
  go_wp2_with fail
  refine HQ4.out.mono ?_
  rintro e w' ⟨rfl, rfl⟩
  go_wp2_with fail
  refine HQ5.out.mono ?_
  rintro e w6 ⟨rfl, A5, hp5, hS6⟩
  have H6 := Lib.hid hS6
  have HP5 : Hid (A5.Perm [(5, 3, 2)]) := Lib.hid ((hp5.trans (HP4.out.trans (by decide : List.Perm ([(5, 3, 2), (5, 1, 0)] : List Tm) [(5, 1, 0), (5, 3, 2)]))).cons_inv)
  have hl5 := HP5.out.length_eq
  have hg5 : gt A5 0 = (5, 3, 2) := head_is H6.out HP5.out (by simp) (fun x hx => by simp at hx; rcases hx with rfl; simp [nl])
  have HQ6 := Lib.hid (h_pop H6.out (fun e => by rw [e] at hl5; simp at hl5) (by rw [hl5]; simp) 5 (by rw [hg5]; decide))
  rw [hg5] at HQ6
  clear hS6 hp5 hl5 hg5
  go_wp2_with fail
  refine HQ6.out.mono ?_
  rintro e w7 ⟨rfl, A6, hp6, hS7⟩
  have H7 := Lib.hid hS7
  clear hS7 hp6
  go_wp2
  go_ret
  exact ⟨rfl, H7.out.below⟩
end Go.Proofs.Ytcchfdoeacgapaa.Hm
