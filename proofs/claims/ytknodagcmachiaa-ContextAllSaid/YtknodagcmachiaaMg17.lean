/-
  Law 08: do: donating, nothing. No statement is proved here.
-/
import Derived.Test.YtknodagcmachiaaMg16
import Derived.Deep.RegionHeld3
namespace Go.Proofs.Ytknodagcmachiaa.Cn
open Go.RowKit Ac Fi
set_option linter.unusedVariables false
set_option linter.unusedSimpArgs false

section
variable {w0 w : World} {F : Hp} {n T h q : Nat} {most : Int} {L0 L1 : Blks} {s : CS}
set_option maxRecDepth 100000 in
set_option maxHeartbeats 4000000 in
theorem do_donate (hI : InvS n most T s) (hT : T ≤ 100000) (hS : Sat w0 (bothC h q most L0 L1 s F) w) (i g j t a b now : Int) (hx : (⟨6, i, g, j, t, a, b, now⟩ : Act8).Ok) : Calls Try.prog 18 #[vp h, vp q, Act8.val ⟨6, i, g, j, t, a, b, now⟩] w (DoC w0 h q most L0 L1 (stepS most s ⟨6, i, g, j, t, a, b, now⟩) F) := by
  have h0 : Inv n most T s.cs s.free s.times := hI
  have hB : Sat w0 (pc w.heap.size 35 [vi 6, vi i, vu g, vi j, vu t, vu a, vu b, vu now] * (cxQ L0 h most s.cs s.free * (cyQ L1 q most s.cs s.times * F))) (w.alloc (.cells #[vi 6, vi i, vu g, vi j, vu t, vu a, vu b, vu now] 35)) := hS.alloc (.cells #[vi 6, vi i, vu g, vi j, vu t, vu a, vu b, vu now] 35)
  have a0 := hB.cell 0 rfl
  have a1 := hB.cell 1 rfl
  have a2 := hB.cell 2 rfl
  have a3 := hB.cell 3 rfl
  have a4 := hB.cell 4 rfl
  have a5 := hB.cell 5 rfl
  have a6 := hB.cell 6 rfl
  have a7 := hB.cell 7 rfl
  have hst : stepS most s ⟨6, i, g, j, t, a, b, now⟩ = ⟨doL most s.cs i g j t a now, s.free, s.times⟩ := by unfold stepS; simp
  rw [hst]
  clear hst
  have hP : ∀ (w : World) (F : Hp), Sat w0 (cxQ L0 h most s.cs s.free * F) w → Calls Try.prog 32 #[vp h, vr i g, vr j t, vu a, vu now] w fun e w' => e = .returned (vi (doE most s.cs i g j t a now)) ∧ Sat w0 (cxQ L0 h most (doL most s.cs i g j t a now) s.free * F) w' := fun w F hS => p_donate h0 hS i g j t a now hx.a hx.now
  have hR : ∀ (w : World) (F : Hp), Sat w0 (cyQ L1 q most s.cs s.times * F) w → Calls Try.prog 49 #[vp q, vr i g, vr j t, vu a, vu now] w fun e w' => e = .returned (vi (doE most s.cs i g j t a now)) ∧ Sat w0 (cyQ L1 q most (doL most s.cs i g j t a now) s.times * F) w' := fun w F hS => r_donate h0 hS i g j t a now hx.a hx.now
  generalize doE most s.cs i g j t a now = E at *
  have HP := Lib.hid hP
  have HR := Lib.hid hR
  clear hP hR
  have HB := Lib.hid hB
  clear hS hB h0 hI hx
  go_enter Try.func18, Try.ntmps18
  go_wp2_with fail
  generalize (w.alloc (.cells #[vi 6, vi i, vu g, vi j, vu t, vu a, vu b, vu now] 35)) = W1 at *
  generalize w.heap.size = bA at *
  have e0 := True.intro
  have e1 := HB.out.cell 1 rfl
  have e2 := HB.out.cell 2 rfl
  have e3 := HB.out.cell 3 rfl
  have e4 := HB.out.cell 4 rfl
  have e5 := HB.out.cell 5 rfl
  have e7 := HB.out.cell 7 rfl
  go_region_held3 (fun w' => w'.cell? ⟨bA, 1, none⟩ = some (vi i) ∧ w'.cell? ⟨bA, 2, none⟩ = some (vu g) ∧ w'.cell? ⟨bA, 3, none⟩ = some (vi j) ∧ w'.cell? ⟨bA, 4, none⟩ = some (vu t) ∧ w'.cell? ⟨bA, 5, none⟩ = some (vu a) ∧ w'.cell? ⟨bA, 7, none⟩ = some (vu now))
    (first | exact ⟨e1, e2, e3, e4, e5, e7⟩ | exact ⟨f1, f2, f3, f4, f5, f7⟩ | exact ⟨k1, k2, k3, k4, k5, k7⟩ | go_keep)
    (first
      | (go_at_call 32; (with_reducible refine (HP.out _ _ (HB.out.drew.cast (show _ = cxQ L0 h most s.cs s.free * (pc bA 35 [vi 6, vi i, vu g, vi j, vu t, vu a, vu b, vu now] * (cyQ L1 q most s.cs s.times * F)) by ac_rfl))).mono ?_); rintro e w5 ⟨rfl, hS5⟩; have h5 : Sat w0 (pc bA 35 [vi 6, vi i, vu g, vi j, vu t, vu a, vu b, vu now] * (cxQ L0 h most (doL most s.cs i g j t a now) s.free * (cyQ L1 q most s.cs s.times * F))) w5 := hS5.cast (by ac_rfl); have f1 := (h5).cell 1 rfl; have f2 := (h5).cell 2 rfl; have f3 := (h5).cell 3 rfl; have f4 := (h5).cell 4 rfl; have f5 := (h5).cell 5 rfl; have f7 := (h5).cell 7 rfl; have H5 := Lib.hid h5; clear hS5 h5)
      | (go_at_call 49; (with_reducible refine (HR.out _ _ (H5.out.cast (show _ = cyQ L1 q most s.cs s.times * (pc bA 35 [vi 6, vi i, vu g, vi j, vu t, vu a, vu b, vu now] * (cxQ L0 h most (doL most s.cs i g j t a now) s.free * F)) by ac_rfl))).mono ?_); rintro e w6 ⟨rfl, hS6⟩; have h6 : Sat w0 (pc bA 35 [vi 6, vi i, vu g, vi j, vu t, vu a, vu b, vu now] * (cxQ L0 h most (doL most s.cs i g j t a now) s.free * (cyQ L1 q most (doL most s.cs i g j t a now) s.times * F))) w6 := hS6.cast (by ac_rfl); have k1 := (h6).cell 1 rfl; have k2 := (h6).cell 2 rfl; have k3 := (h6).cell 3 rfl; have k4 := (h6).cell 4 rfl; have k5 := (h6).cell 5 rfl; have k7 := (h6).cell 7 rfl; have H6 := Lib.hid h6; clear hS6 h6))
  go_wp2
  go_ret
  exact ⟨by simp, H6.out.dropL⟩
set_option maxRecDepth 100000 in
set_option maxHeartbeats 4000000 in
theorem do_none (k : Int) (hI : InvS n most T s) (hT : T ≤ 100000) (hS : Sat w0 (bothC h q most L0 L1 s F) w) (i g j t a b now : Int) (hx : (⟨k, i, g, j, t, a, b, now⟩ : Act8).Ok) (hk : k ≠ 1 ∧ k ≠ 2 ∧ k ≠ 3 ∧ k ≠ 4 ∧ k ≠ 5 ∧ k ≠ 6 ∧ k ≠ 7) : Calls Try.prog 18 #[vp h, vp q, Act8.val ⟨k, i, g, j, t, a, b, now⟩] w (DoC w0 h q most L0 L1 (stepS most s ⟨k, i, g, j, t, a, b, now⟩) F) := by
  have h0 : Inv n most T s.cs s.free s.times := hI
  have hB : Sat w0 (pc w.heap.size 35 [vi k, vi i, vu g, vi j, vu t, vu a, vu b, vu now] * (cxQ L0 h most s.cs s.free * (cyQ L1 q most s.cs s.times * F))) (w.alloc (.cells #[vi k, vi i, vu g, vi j, vu t, vu a, vu b, vu now] 35)) := hS.alloc (.cells #[vi k, vi i, vu g, vi j, vu t, vu a, vu b, vu now] 35)
  have a0 := hB.cell 0 rfl
  have a1 := hB.cell 1 rfl
  have a2 := hB.cell 2 rfl
  have a3 := hB.cell 3 rfl
  have a4 := hB.cell 4 rfl
  have a5 := hB.cell 5 rfl
  have a6 := hB.cell 6 rfl
  have a7 := hB.cell 7 rfl
  have hst : stepS most s ⟨k, i, g, j, t, a, b, now⟩ = s := by unfold stepS; simp [hk.1, hk.2.1, hk.2.2.1, hk.2.2.2.1, hk.2.2.2.2.1, hk.2.2.2.2.2.1, hk.2.2.2.2.2.2]
  rw [hst]
  obtain ⟨k1, k2, k3, k4, k5, k6, k7⟩ := hk
  have b1 : (k == 1) = false := beq_eq_false_iff_ne.2 k1
  have b2 : (k == 2) = false := beq_eq_false_iff_ne.2 k2
  have b3 : (k == 3) = false := beq_eq_false_iff_ne.2 k3
  have b4 : (k == 4) = false := beq_eq_false_iff_ne.2 k4
  have b5 : (k == 5) = false := beq_eq_false_iff_ne.2 k5
  have b6 : (k == 6) = false := beq_eq_false_iff_ne.2 k6
  have b7 : (k == 7) = false := beq_eq_false_iff_ne.2 k7
  clear hst k1 k2 k3 k4 k5 k6 k7
  have HB := Lib.hid hB
  clear hS hB h0 hI hx
  go_enter Try.func18, Try.ntmps18
  go_wp2_with fail
  go_ret
  exact ⟨rfl, HB.out.dropL⟩
end
end Go.Proofs.Ytknodagcmachiaa.Cn

namespace Go.Proofs.Ytknodagcmachiaa.Cn
open Go.RowKit Ac Fi
set_option linter.unusedVariables false
set_option linter.unusedSimpArgs false

section
variable {w0 w : World} {F : Hp} {n T h q : Nat} {most : Int} {L0 L1 : Blks} {s : CS}
set_option maxRecDepth 100000 in
set_option maxHeartbeats 4000000 in
theorem do_make (hI : InvS n most T s) (hT : T ≤ 100000) (hS : Sat w0 (bothC h q most L0 L1 s F) w) (i g j t a b now : Int) (hx : (⟨1, i, g, j, t, a, b, now⟩ : Act8).Ok) : Calls Try.prog 18 #[vp h, vp q, Act8.val ⟨1, i, g, j, t, a, b, now⟩] w (DoC w0 h q most L0 L1 (stepS most s ⟨1, i, g, j, t, a, b, now⟩) F) := by
  have h0 : Inv n most T s.cs s.free s.times := hI
  have hB : Sat w0 (pc w.heap.size 35 [vi 1, vi i, vu g, vi j, vu t, vu a, vu b, vu now] * (cxQ L0 h most s.cs s.free * (cyQ L1 q most s.cs s.times * F))) (w.alloc (.cells #[vi 1, vi i, vu g, vi j, vu t, vu a, vu b, vu now] 35)) := hS.alloc (.cells #[vi 1, vi i, vu g, vi j, vu t, vu a, vu b, vu now] 35)
  have a0 := hB.cell 0 rfl
  have a1 := hB.cell 1 rfl
  have a2 := hB.cell 2 rfl
  have a3 := hB.cell 3 rfl
  have a4 := hB.cell 4 rfl
  have a5 := hB.cell 5 rfl
  have a6 := hB.cell 6 rfl
  have a7 := hB.cell 7 rfl
  have hst : stepS most s ⟨1, i, g, j, t, a, b, now⟩ = ⟨mkL s.cs s.free a b now, mkF s.free a b now, s.times⟩ := by unfold stepS; simp
  rw [hst]
  clear hst
  have hP : ∀ (w : World) (F : Hp), Sat w0 (cxQ L0 h most s.cs s.free * F) w → Calls Try.prog 11 #[vp h, vu a, vu b, vu now] w fun e w' => e = .returned (.tuple #[vr (mkI s.free a b now) (mkG s.cs s.free a b now), vi (mkE s.free a b now)]) ∧ Sat w0 (cxQ L0 h most (mkL s.cs s.free a b now) (mkF s.free a b now) * F) w' := fun w F hS => p_make h0 hS a b now hx.now.1
  have hR : ∀ (w : World) (F : Hp), Sat w0 (cyQ L1 q most s.cs s.times * F) w → Calls Try.prog 44 #[vp q, vu a, vu b, vu now] w fun e w' => e = .returned (.tuple #[vr (mkI s.free a b now) (mkG s.cs s.free a b now), vi (mkE s.free a b now)]) ∧ Sat w0 (cyQ L1 q most (mkL s.cs s.free a b now) s.times * F) w' := fun w F hS => r_make h0 hS a b now hx.now.1
  generalize mkI s.free a b now = I at *
  generalize mkG s.cs s.free a b now = G at *
  generalize mkE s.free a b now = E at *
  have HP := Lib.hid hP
  have HR := Lib.hid hR
  clear hP hR
  have HB := Lib.hid hB
  clear hS hB h0 hI hx
  go_enter Try.func18, Try.ntmps18
  go_wp2_with (first
    | (go_at_call 11; (with_reducible refine (HP.out _ _ (HB.out.cast (show _ = cxQ L0 h most s.cs s.free * (pc w.heap.size 35 [vi 1, vi i, vu g, vi j, vu t, vu a, vu b, vu now] * (cyQ L1 q most s.cs s.times * F)) by ac_rfl))).mono ?_); rintro e w5 ⟨rfl, hS5⟩; have h5 : Sat w0 (pc w.heap.size 35 [vi 1, vi i, vu g, vi j, vu t, vu a, vu b, vu now] * (pc w5.heap.size 30 [vi I, vu G] * (cxQ L0 h most (mkL s.cs s.free a b now) (mkF s.free a b now) * (cyQ L1 q most s.cs s.times * F)))) _ := (show Sat w0 (pc w5.heap.size 30 [vi I, vu G] * _) _ from hS5.alloc (.cells #[vi I, vu G] 30)).cast (by ac_rfl); have f5 := (h5).cell 5 rfl; have f6 := (h5).cell 6 rfl; have f7 := (h5).cell 7 rfl; have H5 := Lib.hid h5; clear hS5 h5)
    | (go_at_call 44; (with_reducible refine (HR.out _ _ (H5.out.cast (show _ = cyQ L1 q most s.cs s.times * (pc w.heap.size 35 [vi 1, vi i, vu g, vi j, vu t, vu a, vu b, vu now] * (pc w5.heap.size 30 [vi I, vu G] * (cxQ L0 h most (mkL s.cs s.free a b now) (mkF s.free a b now) * F))) by ac_rfl))).mono ?_); rintro e w6 ⟨rfl, hS6⟩; have h6 : Sat w0 (pc w5.heap.size 30 [vi I, vu G] * (pc w6.heap.size 30 [vi I, vu G] * (pc w.heap.size 35 [vi 1, vi i, vu g, vi j, vu t, vu a, vu b, vu now] * (cxQ L0 h most (mkL s.cs s.free a b now) (mkF s.free a b now) * (cyQ L1 q most (mkL s.cs s.free a b now) s.times * F))))) _ := (show Sat w0 (pc w6.heap.size 30 [vi I, vu G] * _) _ from hS6.alloc (.cells #[vi I, vu G] 30)).cast (by ac_rfl); have c0 := h6.cell 0 rfl; have c1 := h6.cell 1 rfl; have d0 := h6.pull2.cell 0 rfl; have d1 := h6.pull2.cell 1 rfl; have H6 := Lib.hid h6; clear hS6 h6))
  go_ret
  exact ⟨by simp, H6.out.dropL.dropL.dropL⟩
set_option maxRecDepth 100000 in
set_option maxHeartbeats 4000000 in
theorem do_split (hI : InvS n most T s) (hT : T ≤ 100000) (hS : Sat w0 (bothC h q most L0 L1 s F) w) (i g j t a b now : Int) (hx : (⟨5, i, g, j, t, a, b, now⟩ : Act8).Ok) : Calls Try.prog 18 #[vp h, vp q, Act8.val ⟨5, i, g, j, t, a, b, now⟩] w (DoC w0 h q most L0 L1 (stepS most s ⟨5, i, g, j, t, a, b, now⟩) F) := by
  have h0 : Inv n most T s.cs s.free s.times := hI
  have hB : Sat w0 (pc w.heap.size 35 [vi 5, vi i, vu g, vi j, vu t, vu a, vu b, vu now] * (cxQ L0 h most s.cs s.free * (cyQ L1 q most s.cs s.times * F))) (w.alloc (.cells #[vi 5, vi i, vu g, vi j, vu t, vu a, vu b, vu now] 35)) := hS.alloc (.cells #[vi 5, vi i, vu g, vi j, vu t, vu a, vu b, vu now] 35)
  have a0 := hB.cell 0 rfl
  have a1 := hB.cell 1 rfl
  have a2 := hB.cell 2 rfl
  have a3 := hB.cell 3 rfl
  have a4 := hB.cell 4 rfl
  have a5 := hB.cell 5 rfl
  have a6 := hB.cell 6 rfl
  have a7 := hB.cell 7 rfl
  have hst : stepS most s ⟨5, i, g, j, t, a, b, now⟩ = ⟨spL s.cs s.free i g a now, spF s.cs s.free i g a now, s.times⟩ := by unfold stepS; simp
  rw [hst]
  clear hst
  have hP : ∀ (w : World) (F : Hp), Sat w0 (cxQ L0 h most s.cs s.free * F) w → Calls Try.prog 14 #[vp h, vr i g, vu a, vu now] w fun e w' => e = .returned (.tuple #[vr (spI s.cs s.free i g a now) (spG s.cs s.free i g a now), vi (spE s.cs s.free i g a now)]) ∧ Sat w0 (cxQ L0 h most (spL s.cs s.free i g a now) (spF s.cs s.free i g a now) * F) w' := fun w F hS => p_split h0 hS i g a now hx.a hx.now
  have hR : ∀ (w : World) (F : Hp), Sat w0 (cyQ L1 q most s.cs s.times * F) w → Calls Try.prog 48 #[vp q, vr i g, vu a, vu now] w fun e w' => e = .returned (.tuple #[vr (spI s.cs s.free i g a now) (spG s.cs s.free i g a now), vi (spE s.cs s.free i g a now)]) ∧ Sat w0 (cyQ L1 q most (spL s.cs s.free i g a now) s.times * F) w' := fun w F hS => r_split h0 hS i g a now hx.a hx.now
  generalize spI s.cs s.free i g a now = I at *
  generalize spG s.cs s.free i g a now = G at *
  generalize spE s.cs s.free i g a now = E at *
  have HP := Lib.hid hP
  have HR := Lib.hid hR
  clear hP hR
  have HB := Lib.hid hB
  clear hS hB h0 hI hx
  go_enter Try.func18, Try.ntmps18
  go_wp2_with (first
    | (go_at_call 14; (with_reducible refine (HP.out _ _ (HB.out.cast (show _ = cxQ L0 h most s.cs s.free * (pc w.heap.size 35 [vi 5, vi i, vu g, vi j, vu t, vu a, vu b, vu now] * (cyQ L1 q most s.cs s.times * F)) by ac_rfl))).mono ?_); rintro e w5 ⟨rfl, hS5⟩; have h5 : Sat w0 (pc w.heap.size 35 [vi 5, vi i, vu g, vi j, vu t, vu a, vu b, vu now] * (pc w5.heap.size 30 [vi I, vu G] * (cxQ L0 h most (spL s.cs s.free i g a now) (spF s.cs s.free i g a now) * (cyQ L1 q most s.cs s.times * F)))) _ := (show Sat w0 (pc w5.heap.size 30 [vi I, vu G] * _) _ from hS5.alloc (.cells #[vi I, vu G] 30)).cast (by ac_rfl); have f1 := (h5).cell 1 rfl; have f2 := (h5).cell 2 rfl; have f5 := (h5).cell 5 rfl; have f7 := (h5).cell 7 rfl; have H5 := Lib.hid h5; clear hS5 h5)
    | (go_at_call 48; (with_reducible refine (HR.out _ _ (H5.out.cast (show _ = cyQ L1 q most s.cs s.times * (pc w.heap.size 35 [vi 5, vi i, vu g, vi j, vu t, vu a, vu b, vu now] * (pc w5.heap.size 30 [vi I, vu G] * (cxQ L0 h most (spL s.cs s.free i g a now) (spF s.cs s.free i g a now) * F))) by ac_rfl))).mono ?_); rintro e w6 ⟨rfl, hS6⟩; have h6 : Sat w0 (pc w5.heap.size 30 [vi I, vu G] * (pc w6.heap.size 30 [vi I, vu G] * (pc w.heap.size 35 [vi 5, vi i, vu g, vi j, vu t, vu a, vu b, vu now] * (cxQ L0 h most (spL s.cs s.free i g a now) (spF s.cs s.free i g a now) * (cyQ L1 q most (spL s.cs s.free i g a now) s.times * F))))) _ := (show Sat w0 (pc w6.heap.size 30 [vi I, vu G] * _) _ from hS6.alloc (.cells #[vi I, vu G] 30)).cast (by ac_rfl); have c0 := h6.cell 0 rfl; have c1 := h6.cell 1 rfl; have d0 := h6.pull2.cell 0 rfl; have d1 := h6.pull2.cell 1 rfl; have H6 := Lib.hid h6; clear hS6 h6))
  go_ret
  exact ⟨by simp, H6.out.dropL.dropL.dropL⟩
end
end Go.Proofs.Ytknodagcmachiaa.Cn
