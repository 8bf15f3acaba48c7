/-
  Law 08: do: binding, letting go. No statement is proved here.
-/
import Derived.Test.YtknodagcmachiaaMg16
import Derived.Deep.RegionHeld3
namespace Go.Proofs.Ytknodagcmachiaa.Cn
open Go.RowKit Ac Fi
set_option linter.unusedVariables false
set_option linter.unusedSimpArgs false

section
variable {w0 w : World} {F : Hp} {n T h q : Nat} {most : Int} {L0 L1 : Blks} {s : CS}
set_option maxRecDepth 100000 in
set_option maxHeartbeats 4000000 in
theorem do_bind (hI : InvS n most T s) (hT : T ≤ 100000) (hS : Sat w0 (bothC h q most L0 L1 s F) w) (i g j t a b now : Int) (hx : (⟨2, i, g, j, t, a, b, now⟩ : Act8).Ok) : Calls Try.prog 18 #[vp h, vp q, Act8.val ⟨2, i, g, j, t, a, b, now⟩] w (DoC w0 h q most L0 L1 (stepS most s ⟨2, i, g, j, t, a, b, now⟩) F) := by
  have h0 : Inv n most T s.cs s.free s.times := hI
  have hB : Sat w0 (pc w.heap.size 35 [vi 2, vi i, vu g, vi j, vu t, vu a, vu b, vu now] * (cxQ L0 h most s.cs s.free * (cyQ L1 q most s.cs s.times * F))) (w.alloc (.cells #[vi 2, vi i, vu g, vi j, vu t, vu a, vu b, vu now] 35)) := hS.alloc (.cells #[vi 2, vi i, vu g, vi j, vu t, vu a, vu b, vu now] 35)
  have a0 := hB.cell 0 rfl
  have a1 := hB.cell 1 rfl
  have a2 := hB.cell 2 rfl
  have a3 := hB.cell 3 rfl
  have a4 := hB.cell 4 rfl
  have a5 := hB.cell 5 rfl
  have a6 := hB.cell 6 rfl
  have a7 := hB.cell 7 rfl
  have hst : stepS most s ⟨2, i, g, j, t, a, b, now⟩ = ⟨bindL s.cs i g 1, s.free, s.times⟩ := by unfold stepS; simp
  rw [hst]
  clear hst
  have hP : ∀ (w : World) (F : Hp), Sat w0 (cxQ L0 h most s.cs s.free * F) w → Calls Try.prog 15 #[vp h, vr i g] w fun e w' => e = .returned (vi (bindE s.cs i g 1)) ∧ Sat w0 (cxQ L0 h most (bindL s.cs i g 1) s.free * F) w' := fun w F hS => p_bind h0 hT hS i g
  have hR : ∀ (w : World) (F : Hp), Sat w0 (cyQ L1 q most s.cs s.times * F) w → Calls Try.prog 45 #[vp q, vr i g, vi 1] w fun e w' => e = .returned (vi (bindE s.cs i g 1)) ∧ Sat w0 (cyQ L1 q most (bindL s.cs i g 1) s.times * F) w' := fun w F hS => r_bind h0 hT hS i g 1 (by omega)
  generalize bindE s.cs i g 1 = E at *
  have HP := Lib.hid hP
  have HR := Lib.hid hR
  clear hP hR
  have HB := Lib.hid hB
  clear hS hB h0 hI hx
  go_enter Try.func18, Try.ntmps18
  go_wp2_with fail
  generalize (w.alloc (.cells #[vi 2, vi i, vu g, vi j, vu t, vu a, vu b, vu now] 35)) = W1 at *
  generalize w.heap.size = bA at *
  have e0 := True.intro
  have e1 := HB.out.cell 1 rfl
  have e2 := HB.out.cell 2 rfl
  go_region_held3 (fun w' => w'.cell? ⟨bA, 1, none⟩ = some (vi i) ∧ w'.cell? ⟨bA, 2, none⟩ = some (vu g))
    (first | exact ⟨e1, e2⟩ | exact ⟨f1, f2⟩ | exact ⟨k1, k2⟩ | go_keep)
    (first
      | (go_at_call 15; (with_reducible refine (HP.out _ _ (HB.out.drew.cast (show _ = cxQ L0 h most s.cs s.free * (pc bA 35 [vi 2, vi i, vu g, vi j, vu t, vu a, vu b, vu now] * (cyQ L1 q most s.cs s.times * F)) by ac_rfl))).mono ?_); rintro e w5 ⟨rfl, hS5⟩; have h5 : Sat w0 (pc bA 35 [vi 2, vi i, vu g, vi j, vu t, vu a, vu b, vu now] * (cxQ L0 h most (bindL s.cs i g 1) s.free * (cyQ L1 q most s.cs s.times * F))) w5 := hS5.cast (by ac_rfl); have f1 := (h5).cell 1 rfl; have f2 := (h5).cell 2 rfl; have H5 := Lib.hid h5; clear hS5 h5)
      | (go_at_call 45; (with_reducible refine (HR.out _ _ (H5.out.cast (show _ = cyQ L1 q most s.cs s.times * (pc bA 35 [vi 2, vi i, vu g, vi j, vu t, vu a, vu b, vu now] * (cxQ L0 h most (bindL s.cs i g 1) s.free * F)) by ac_rfl))).mono ?_); rintro e w6 ⟨rfl, hS6⟩; have h6 : Sat w0 (pc bA 35 [vi 2, vi i, vu g, vi j, vu t, vu a, vu b, vu now] * (cxQ L0 h most (bindL s.cs i g 1) s.free * (cyQ L1 q most (bindL s.cs i g 1) s.times * F))) w6 := hS6.cast (by ac_rfl); have k1 := (h6).cell 1 rfl; have k2 := (h6).cell 2 rfl; have H6 := Lib.hid h6; clear hS6 h6))
  go_wp2
  go_ret
  exact ⟨by simp, H6.out.dropL⟩
set_option maxRecDepth 100000 in
set_option maxHeartbeats 4000000 in
theorem do_unbind (hI : InvS n most T s) (hT : T ≤ 100000) (hS : Sat w0 (bothC h q most L0 L1 s F) w) (i g j t a b now : Int) (hx : (⟨3, i, g, j, t, a, b, now⟩ : Act8).Ok) : Calls Try.prog 18 #[vp h, vp q, Act8.val ⟨3, i, g, j, t, a, b, now⟩] w (DoC w0 h q most L0 L1 (stepS most s ⟨3, i, g, j, t, a, b, now⟩) F) := by
  have h0 : Inv n most T s.cs s.free s.times := hI
  have hB : Sat w0 (pc w.heap.size 35 [vi 3, vi i, vu g, vi j, vu t, vu a, vu b, vu now] * (cxQ L0 h most s.cs s.free * (cyQ L1 q most s.cs s.times * F))) (w.alloc (.cells #[vi 3, vi i, vu g, vi j, vu t, vu a, vu b, vu now] 35)) := hS.alloc (.cells #[vi 3, vi i, vu g, vi j, vu t, vu a, vu b, vu now] 35)
  have a0 := hB.cell 0 rfl
  have a1 := hB.cell 1 rfl
  have a2 := hB.cell 2 rfl
  have a3 := hB.cell 3 rfl
  have a4 := hB.cell 4 rfl
  have a5 := hB.cell 5 rfl
  have a6 := hB.cell 6 rfl
  have a7 := hB.cell 7 rfl
  have hst : stepS most s ⟨3, i, g, j, t, a, b, now⟩ = ⟨bindL s.cs i g (-1), s.free, s.times⟩ := by unfold stepS; simp
  rw [hst]
  clear hst
  have hP : ∀ (w : World) (F : Hp), Sat w0 (cxQ L0 h most s.cs s.free * F) w → Calls Try.prog 31 #[vp h, vr i g] w fun e w' => e = .returned (vi (bindE s.cs i g (-1))) ∧ Sat w0 (cxQ L0 h most (bindL s.cs i g (-1)) s.free * F) w' := fun w F hS => p_unbind h0 hT hS i g
  have hR : ∀ (w : World) (F : Hp), Sat w0 (cyQ L1 q most s.cs s.times * F) w → Calls Try.prog 45 #[vp q, vr i g, vi (-1)] w fun e w' => e = .returned (vi (bindE s.cs i g (-1))) ∧ Sat w0 (cyQ L1 q most (bindL s.cs i g (-1)) s.times * F) w' := fun w F hS => r_bind h0 hT hS i g (-1) (by omega)
  generalize bindE s.cs i g (-1) = E at *
  have HP := Lib.hid hP
  have HR := Lib.hid hR
  clear hP hR
  have HB := Lib.hid hB
  clear hS hB h0 hI hx
  go_enter Try.func18, Try.ntmps18
  go_wp2_with fail
  generalize (w.alloc (.cells #[vi 3, vi i, vu g, vi j, vu t, vu a, vu b, vu now] 35)) = W1 at *
  generalize w.heap.size = bA at *
  have e0 := True.intro
  have e1 := HB.out.cell 1 rfl
  have e2 := HB.out.cell 2 rfl
  go_region_held3 (fun w' => w'.cell? ⟨bA, 1, none⟩ = some (vi i) ∧ w'.cell? ⟨bA, 2, none⟩ = some (vu g))
    (first | exact ⟨e1, e2⟩ | exact ⟨f1, f2⟩ | exact ⟨k1, k2⟩ | go_keep)
    (first
      | (go_at_call 31; (with_reducible refine (HP.out _ _ (HB.out.drew.cast (show _ = cxQ L0 h most s.cs s.free * (pc bA 35 [vi 3, vi i, vu g, vi j, vu t, vu a, vu b, vu now] * (cyQ L1 q most s.cs s.times * F)) by ac_rfl))).mono ?_); rintro e w5 ⟨rfl, hS5⟩; have h5 : Sat w0 (pc bA 35 [vi 3, vi i, vu g, vi j, vu t, vu a, vu b, vu now] * (cxQ L0 h most (bindL s.cs i g (-1)) s.free * (cyQ L1 q most s.cs s.times * F))) w5 := hS5.cast (by ac_rfl); have f1 := (h5).cell 1 rfl; have f2 := (h5).cell 2 rfl; have H5 := Lib.hid h5; clear hS5 h5)
      | (go_at_call 45; (with_reducible refine (HR.out _ _ (H5.out.cast (show _ = cyQ L1 q most s.cs s.times * (pc bA 35 [vi 3, vi i, vu g, vi j, vu t, vu a, vu b, vu now] * (cxQ L0 h most (bindL s.cs i g (-1)) s.free * F)) by ac_rfl))).mono ?_); rintro e w6 ⟨rfl, hS6⟩; have h6 : Sat w0 (pc bA 35 [vi 3, vi i, vu g, vi j, vu t, vu a, vu b, vu now] * (cxQ L0 h most (bindL s.cs i g (-1)) s.free * (cyQ L1 q most (bindL s.cs i g (-1)) s.times * F))) w6 := hS6.cast (by ac_rfl); have k1 := (h6).cell 1 rfl; have k2 := (h6).cell 2 rfl; have H6 := Lib.hid h6; clear hS6 h6))
  go_wp2
  go_ret
  exact ⟨by simp, H6.out.dropL⟩
set_option maxRecDepth 100000 in
set_option maxHeartbeats 4000000 in
theorem do_drop (hI : InvS n most T s) (hT : T ≤ 100000) (hS : Sat w0 (bothC h q most L0 L1 s F) w) (i g j t a b now : Int) (hx : (⟨7, i, g, j, t, a, b, now⟩ : Act8).Ok) : Calls Try.prog 18 #[vp h, vp q, Act8.val ⟨7, i, g, j, t, a, b, now⟩] w (DoC w0 h q most L0 L1 (stepS most s ⟨7, i, g, j, t, a, b, now⟩) F) := by
  have h0 : Inv n most T s.cs s.free s.times := hI
  have hB : Sat w0 (pc w.heap.size 35 [vi 7, vi i, vu g, vi j, vu t, vu a, vu b, vu now] * (cxQ L0 h most s.cs s.free * (cyQ L1 q most s.cs s.times * F))) (w.alloc (.cells #[vi 7, vi i, vu g, vi j, vu t, vu a, vu b, vu now] 35)) := hS.alloc (.cells #[vi 7, vi i, vu g, vi j, vu t, vu a, vu b, vu now] 35)
  have a0 := hB.cell 0 rfl
  have a1 := hB.cell 1 rfl
  have a2 := hB.cell 2 rfl
  have a3 := hB.cell 3 rfl
  have a4 := hB.cell 4 rfl
  have a5 := hB.cell 5 rfl
  have a6 := hB.cell 6 rfl
  have a7 := hB.cell 7 rfl
  have hst : stepS most s ⟨7, i, g, j, t, a, b, now⟩ = ⟨drL s.cs i g s.times, drF s.cs s.free i g, drT s.cs i g s.times⟩ := by unfold stepS; simp
  rw [hst]
  clear hst
  have hP : ∀ (w : World) (F : Hp), Sat w0 (cxQ L0 h most s.cs s.free * F) w → Calls Try.prog 22 #[vp h, vr i g] w fun e w' => e = .returned (vi (drE s.cs i g)) ∧ Sat w0 (cxQ L0 h most (drL s.cs i g s.times) (drF s.cs s.free i g) * F) w' := fun w F hS => p_drop h0 hT hS i g
  have hR : ∀ (w : World) (F : Hp), Sat w0 (cyQ L1 q most s.cs s.times * F) w → Calls Try.prog 50 #[vp q, vr i g] w fun e w' => e = .returned (vi (drE s.cs i g)) ∧ Sat w0 (cyQ L1 q most (drL s.cs i g s.times) (drT s.cs i g s.times) * F) w' := fun w F hS => r_drop h0 hT hS i g
  generalize drE s.cs i g = E at *
  have HP := Lib.hid hP
  have HR := Lib.hid hR
  clear hP hR
  have HB := Lib.hid hB
  clear hS hB h0 hI hx
  go_enter Try.func18, Try.ntmps18
  go_wp2_with fail
  generalize (w.alloc (.cells #[vi 7, vi i, vu g, vi j, vu t, vu a, vu b, vu now] 35)) = W1 at *
  generalize w.heap.size = bA at *
  have e0 := True.intro
  have e1 := HB.out.cell 1 rfl
  have e2 := HB.out.cell 2 rfl
  go_region_held3 (fun w' => w'.cell? ⟨bA, 1, none⟩ = some (vi i) ∧ w'.cell? ⟨bA, 2, none⟩ = some (vu g))
    (first | exact ⟨e1, e2⟩ | exact ⟨f1, f2⟩ | exact ⟨k1, k2⟩ | go_keep)
    (first
      | (go_at_call 22; (with_reducible refine (HP.out _ _ (HB.out.drew.cast (show _ = cxQ L0 h most s.cs s.free * (pc bA 35 [vi 7, vi i, vu g, vi j, vu t, vu a, vu b, vu now] * (cyQ L1 q most s.cs s.times * F)) by ac_rfl))).mono ?_); rintro e w5 ⟨rfl, hS5⟩; have h5 : Sat w0 (pc bA 35 [vi 7, vi i, vu g, vi j, vu t, vu a, vu b, vu now] * (cxQ L0 h most (drL s.cs i g s.times) (drF s.cs s.free i g) * (cyQ L1 q most s.cs s.times * F))) w5 := hS5.cast (by ac_rfl); have f1 := (h5).cell 1 rfl; have f2 := (h5).cell 2 rfl; have H5 := Lib.hid h5; clear hS5 h5)
      | (go_at_call 50; (with_reducible refine (HR.out _ _ (H5.out.cast (show _ = cyQ L1 q most s.cs s.times * (pc bA 35 [vi 7, vi i, vu g, vi j, vu t, vu a, vu b, vu now] * (cxQ L0 h most (drL s.cs i g s.times) (drF s.cs s.free i g) * F)) by ac_rfl))).mono ?_); rintro e w6 ⟨rfl, hS6⟩; have h6 : Sat w0 (pc bA 35 [vi 7, vi i, vu g, vi j, vu t, vu a, vu b, vu now] * (cxQ L0 h most (drL s.cs i g s.times) (drF s.cs s.free i g) * (cyQ L1 q most (drL s.cs i g s.times) (drT s.cs i g s.times) * F))) w6 := hS6.cast (by ac_rfl); have k1 := (h6).cell 1 rfl; have k2 := (h6).cell 2 rfl; have H6 := Lib.hid h6; clear hS6 h6))
  go_wp2
  go_ret
  exact ⟨by simp, H6.out.dropL⟩
end
end Go.Proofs.Ytknodagcmachiaa.Cn
