/-
  What the statements' own helpers of layer 3 (known, do, same) answer. No statement is proved here.
-/
import Derived.Test.YtaaplmihmginpaaRing5
namespace Go.Proofs.Ytaaplmihmginpaa
open Go.RowKit
set_option linter.unusedVariables false

/-! ### known -/
set_option maxRecDepth 100000 in
set_option maxHeartbeats 1000000 in
theorem known3 {w0 w : World} {F : Hp} (h : Sat w0 F w) : Calls Try.prog 15 #[] w fun e w' => e = .returned (.bool true) ∧ Sat w0 F w' := by
  have H := Lib.hid h
  clear h
  go_enter Try.func15, Try.ntmps15
  go_wp2_with fail
  refine (ring_new 2 (by omega) (by omega) H.out).mono ?_
  rintro e w1 ⟨p, rfl, hS⟩
  have H1 := Lib.hid hS
  clear hS
  go_wp2_with fail
  refine (show Calls _ _ _ _ (fun e w' => e = .returned (vi 0) ∧ Sat w0 (ringP p 2 [5] * F) w') from ring_push H1.out 5).mono ?_
  rintro e w2 ⟨rfl, hS⟩
  have H2 := Lib.hid hS
  clear hS
  go_wp2_with fail
  refine (show Calls _ _ _ _ (fun e w' => e = .returned (vi 0) ∧ Sat w0 (ringP p 2 [5, 6] * F) w') from ring_push H2.out 6).mono ?_
  rintro e w3 ⟨rfl, hS⟩
  have H3 := Lib.hid hS
  clear hS
  go_wp2_with fail
  refine (show Calls _ _ _ _ (fun e w' => e = .returned (vi 3) ∧ Sat w0 (ringP p 2 [5, 6] * F) w') from ring_push H3.out 7).mono ?_
  rintro e w4 ⟨rfl, hS⟩
  have H4 := Lib.hid hS
  clear hS
  go_wp2_with fail
  refine (show Calls _ _ _ _ (fun e w' => e = .returned (.tuple #[vi 5, .bool true]) ∧ Sat w0 (ringP p 2 [6] * F) w') from ring_pop H4.out).mono ?_
  rintro e w5 ⟨rfl, hS⟩
  have H5 := Lib.hid hS
  clear hS
  go_wp2_with fail
  refine (show Calls _ _ _ _ (fun e w' => e = .returned (vi 0) ∧ Sat w0 (ringP p 2 [6, 7] * F) w') from ring_push H5.out 7).mono ?_
  rintro e w6 ⟨rfl, hS⟩
  have H6 := Lib.hid hS
  clear hS
  go_wp2_with fail
  refine (ring_all H6.out).mono ?_
  rintro e w7 ⟨v, rfl, hS⟩
  have H7 := Lib.hid hS
  clear hS
  go_wp2_with fail
  have hlit : RdI (w7.alloc (.cells #[vi 6, vi 7] 3)) (.slice (some ⟨w7.heap.size, 0, none⟩) 2 2) [6, 7] :=
    (show Sat w0 (pc w7.heap.size 3 [vi 6, vi 7] * _) _ from H7.out.alloc (.cells #[vi 6, vi 7] 3)).slI (n := 2) (cap := 2) (size := 1) (xs := [vi 6, vi 7]) (Nat.le_refl _) (by unfold maxLen; omega) (by simp) (by simp) |>.rd
  refine (ref_same [6, 7] [6, 7] v _ _ (H7.out.alloc' _).rdI hlit (by simp) (by simp)).mono ?_
  rintro e w8 ⟨rfl, k, rfl⟩
  go_wp2
  go_ret
  exact ⟨rfl, ((H7.out.alloc' _).dropL.dropL).drewN k⟩
end Go.Proofs.Ytaaplmihmginpaa
