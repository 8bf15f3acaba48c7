/-
  Law 08: do: charging. No statement is proved here.
-/
import Derived.Test.YtknodagcmachiaaMg16
import Derived.Deep.RegionHeld3
import Derived.Test.YtknodagcmachiaaCd2
import Derived.Test.YtknodagcmachiaaMg17
import Derived.Test.YtknodagcmachiaaMg13
namespace Go.Proofs.Ytknodagcmachiaa.Cn
open Go.RowKit Ac Fi
set_option linter.unusedVariables false
set_option linter.unusedSimpArgs false

section
variable {w0 w : World} {F : Hp} {n T h q : Nat} {most : Int} {L0 L1 : Blks} {s : CS}
set_option maxRecDepth 100000 in
set_option maxHeartbeats 4000000 in
theorem do_charge (hI : InvS n most T s) (hT : T ≤ 100000) (hS : Sat w0 (bothC h q most L0 L1 s F) w) (i g j t a b now : Int) (hx : (⟨4, i, g, j, t, a, b, now⟩ : Act8).Ok) : Calls Try.prog 18 #[vp h, vp q, Act8.val ⟨4, i, g, j, t, a, b, now⟩] w (DoC w0 h q most L0 L1 (stepS most s ⟨4, i, g, j, t, a, b, now⟩) F) := by
  have h0 : Inv n most T s.cs s.free s.times := hI
  have hB : Sat w0 (pc w.heap.size 35 [vi 4, vi i, vu g, vi j, vu t, vu a, vu b, vu now] * (cxQ L0 h most s.cs s.free * (cyQ L1 q most s.cs s.times * F))) (w.alloc (.cells #[vi 4, vi i, vu g, vi j, vu t, vu a, vu b, vu now] 35)) := hS.alloc (.cells #[vi 4, vi i, vu g, vi j, vu t, vu a, vu b, vu now] 35)
  have a0 := hB.cell 0 rfl
  have a1 := hB.cell 1 rfl
  have a2 := hB.cell 2 rfl
  have a3 := hB.cell 3 rfl
  have a4 := hB.cell 4 rfl
  have a5 := hB.cell 5 rfl
  have a6 := hB.cell 6 rfl
  have a7 := hB.cell 7 rfl
  have hst : stepS most s ⟨4, i, g, j, t, a, b, now⟩ = ⟨chgL most s.cs i g now, s.free, s.times⟩ := by unfold stepS; simp
  rw [hst]
  clear hst
  have hP : ∀ (w : World) (F : Hp), Sat w0 (cxQ L0 h most s.cs s.free * F) w → Calls Try.prog 13 #[vp h, vr i g, vu now] w fun e w' => e = .returned (.bool (chgB most s.cs i g now)) ∧ Sat w0 (cxQ L0 h most (chgL most s.cs i g now) s.free * F) w' := fun w F hS => p_charge h0 hS i g now hx.now
  have hR : ∀ (w : World) (F : Hp), Sat w0 (cyQ L1 q most s.cs s.times * F) w → Calls Try.prog 47 #[vp q, vr i g, vu now] w fun e w' => e = .returned (.bool (chgB most s.cs i g now)) ∧ Sat w0 (cyQ L1 q most (chgL most s.cs i g now) s.times * F) w' := fun w F hS => r_charge h0 hS i g now hx.now
  have hPC : ∀ (w : World) (F : Hp), Sat w0 (cxQ L0 h most s.cs s.free * F) w → Calls Try.prog 12 #[vp h, vr i g, vu now] w fun e w' => e = .returned (.bool (canB s.cs i g now)) ∧ Sat w0 (cxQ L0 h most s.cs s.free * F) w' := fun w F hS => p_can h0 hS i g now
  have hRC : ∀ (w : World) (F : Hp), Sat w0 (cyQ L1 q most s.cs s.times * F) w → Calls Try.prog 46 #[vp q, vr i g, vu now] w fun e w' => e = .returned (.bool (canB s.cs i g now)) ∧ Sat w0 (cyQ L1 q most s.cs s.times * F) w' := fun w F hS => r_can h0 hS i g now
  generalize canB s.cs i g now = cb at *
  generalize chgB most s.cs i g now = xb at *
  have HP := Lib.hid hP
  have HR := Lib.hid hR
  have HPC := Lib.hid hPC
  have HRC := Lib.hid hRC
  have hcb : (cb == cb) = true := by simp
  have hxb : (xb == xb) = true := by simp
  clear hP hR hPC hRC
  have HB := Lib.hid hB
  clear hS hB h0 hI hx
  go_enter Try.func18, Try.ntmps18
  go_wp2_with (go_at_call 46; (with_reducible refine (HRC.out _ _ (HB.out.cast (show _ = cyQ L1 q most s.cs s.times * (pc w.heap.size 35 [vi 4, vi i, vu g, vi j, vu t, vu a, vu b, vu now] * (cxQ L0 h most s.cs s.free * F)) by ac_rfl))).mono ?_); rintro e w4 ⟨rfl, hS4⟩; have h4 : Sat w0 (pc w.heap.size 35 [vi 4, vi i, vu g, vi j, vu t, vu a, vu b, vu now] * (cxQ L0 h most s.cs s.free * (cyQ L1 q most s.cs s.times * F))) w4 := hS4.cast (by ac_rfl); have e1 := (h4).cell 1 rfl; have e2 := (h4).cell 2 rfl; have e7 := (h4).cell 7 rfl; have H4 := Lib.hid h4; clear hS4 h4)
  generalize w.heap.size = bA at *
  go_region_held3 (fun w' => w'.cell? ⟨bA, 1, none⟩ = some (vi i) ∧ w'.cell? ⟨bA, 2, none⟩ = some (vu g) ∧ w'.cell? ⟨bA, 7, none⟩ = some (vu now))
    (first | exact ⟨e1, e2, e7⟩ | exact ⟨f1, f2, f7⟩ | exact ⟨k1, k2, k7⟩ | exact ⟨l1, l2, l7⟩ | go_keep)
    (first
      | (go_at_call 12; (with_reducible refine (HPC.out _ _ (H4.out.drew.cast (show _ = cxQ L0 h most s.cs s.free * (pc bA 35 [vi 4, vi i, vu g, vi j, vu t, vu a, vu b, vu now] * (cyQ L1 q most s.cs s.times * F)) by ac_rfl))).mono ?_); rintro e w5 ⟨rfl, hS5⟩; have h5 : Sat w0 (pc bA 35 [vi 4, vi i, vu g, vi j, vu t, vu a, vu b, vu now] * (cxQ L0 h most s.cs s.free * (cyQ L1 q most s.cs s.times * F))) w5 := hS5.cast (by ac_rfl); have f1 := (h5).cell 1 rfl; have f2 := (h5).cell 2 rfl; have f7 := (h5).cell 7 rfl; have H5 := Lib.hid h5; clear hS5 h5)
      | (go_at_call 13; (with_reducible refine (HP.out _ _ (H5.out.cast (show _ = cxQ L0 h most s.cs s.free * (pc bA 35 [vi 4, vi i, vu g, vi j, vu t, vu a, vu b, vu now] * (cyQ L1 q most s.cs s.times * F)) by ac_rfl))).mono ?_); rintro e w6 ⟨rfl, hS6⟩; have h6 : Sat w0 (pc bA 35 [vi 4, vi i, vu g, vi j, vu t, vu a, vu b, vu now] * (cxQ L0 h most (chgL most s.cs i g now) s.free * (cyQ L1 q most s.cs s.times * F))) w6 := hS6.cast (by ac_rfl); have k1 := (h6).cell 1 rfl; have k2 := (h6).cell 2 rfl; have k7 := (h6).cell 7 rfl; have H6 := Lib.hid h6; clear hS6 h6)
      | (go_at_call 47; (with_reducible refine (HR.out _ _ (H6.out.cast (show _ = cyQ L1 q most s.cs s.times * (pc bA 35 [vi 4, vi i, vu g, vi j, vu t, vu a, vu b, vu now] * (cxQ L0 h most (chgL most s.cs i g now) s.free * F)) by ac_rfl))).mono ?_); rintro e w7 ⟨rfl, hS7⟩; have h7 : Sat w0 (pc bA 35 [vi 4, vi i, vu g, vi j, vu t, vu a, vu b, vu now] * (cxQ L0 h most (chgL most s.cs i g now) s.free * (cyQ L1 q most (chgL most s.cs i g now) s.times * F))) w7 := hS7.cast (by ac_rfl); have l1 := (h7).cell 1 rfl; have l2 := (h7).cell 2 rfl; have l7 := (h7).cell 7 rfl; have H7 := Lib.hid h7; clear hS7 h7))
  go_wp2
  go_ret
  exact ⟨by simp, H7.out.dropL⟩
end
end Go.Proofs.Ytknodagcmachiaa.Cn

namespace Go.Proofs.Ytknodagcmachiaa.Cn
open Go.RowKit Ac Fi
set_option linter.unusedVariables false
set_option linter.unusedSimpArgs false

section
variable {w0 w : World} {F : Hp} {n T h q : Nat} {most : Int} {L0 L1 : Blks} {s : CS}
theorem do8 (hI : InvS n most T s) (hT : T ≤ 100000) (hS : Sat w0 (bothC h q most L0 L1 s F) w) (x : Act8) (hx : x.Ok) : Calls Try.prog 18 #[vp h, vp q, x.val] w (DoC w0 h q most L0 L1 (stepS most s x) F) := by
  obtain ⟨k, i, g, j, t, a, b, now⟩ := x
  by_cases k1 : k = 1
  · subst k1
    exact do_make hI hT hS i g j t a b now hx
  by_cases k2 : k = 2
  · subst k2
    exact do_bind hI hT hS i g j t a b now hx
  by_cases k3 : k = 3
  · subst k3
    exact do_unbind hI hT hS i g j t a b now hx
  by_cases k4 : k = 4
  · subst k4
    exact do_charge hI hT hS i g j t a b now hx
  by_cases k5 : k = 5
  · subst k5
    exact do_split hI hT hS i g j t a b now hx
  by_cases k6 : k = 6
  · subst k6
    exact do_donate hI hT hS i g j t a b now hx
  by_cases k7 : k = 7
  · subst k7
    exact do_drop hI hT hS i g j t a b now hx
  exact do_none k hI hT hS i g j t a b now hx ⟨k1, k2, k3, k4, k5, k6, k7⟩
end
/-- How many of the first k are there. -/
def cntC (cs : List CP) (k : Nat) : Nat := (cs.take k).countP fun c => c.there
theorem cntC_succ {cs : List CP} {k : Nat} {c : CP} (h : cs[k]? = some c) : cntC cs (k + 1) = cntC cs k + if c.there = true then 1 else 0 := by
  unfold cntC
  rw [List.take_add_one, h]
  simp [List.countP_append, List.countP_cons]
theorem cntC_le (cs : List CP) (k : Nat) : cntC cs k ≤ k := by
  unfold cntC
  have := List.countP_le_length (p := fun c : CP => c.there) (l := cs.take k)
  rw [List.length_take] at this
  omega
theorem PM.seen {L : Blks} {ps : List Pl} {cs : List CP} (h : PM L ps cs) (k : Nat) (hk : k ≤ ps.length) : (Ac.seen ps k).length = cntC cs k := by
  induction k with
  | zero => rfl
  | succ k ih =>
    have ih := ih (by omega)
    obtain ⟨a, ha⟩ : ∃ a, ps[k]? = some a := ⟨ps[k], List.getElem?_eq_getElem (by omega)⟩
    obtain ⟨c, hc⟩ : ∃ c, cs[k]? = some c := ⟨cs[k]'(by have := h.len; omega), List.getElem?_eq_getElem _⟩
    obtain ⟨_, h2, _⟩ := h.at_ k a c ha hc
    rw [cntC_succ hc]
    cases ht : a.there with
    | true =>
      rw [Ac.seen_yes ha ht, List.length_append, ih, if_pos (h2 ▸ ht)]
      rfl
    | false =>
      rw [Ac.seen_no ha ht, ih, if_neg (by rw [← h2, ht]; simp)]
      rfl
section
variable {w0 w : World} {F : Hp} {n T h q : Nat} {most times : Int} {L0 L1 : Blks} {cs : List CP} {free : List Nat}
theorem p_len (hI : Inv n most T cs free times) (hS : Sat w0 (cxQ L0 h most cs free * F) w) :
    Calls Try.prog 33 #[vp h] w fun e w' => e = .returned (vi (cntC cs cs.length)) ∧ Sat w0 (cxQ L0 h most cs free * F) w' := by
  obtain ⟨p, ps, L, hL, hp, hs⟩ := cx_open hS
  have h1 := hp.len
  have h2 := hI.len
  have h3 := hI.small
  refine (cx_len hs (by omega)).mono fun e w' ⟨he, hw⟩ => ⟨?_, cx_shut hL hp hw⟩
  rw [he, hp.seen ps.length (Nat.le_refl _), h1]
theorem same_ok {b p m : Int} {a1 a2 : Option Addr} {c1 c2 : Nat} {l : List Rf} {w : World} (h1 : RdF w (.slice a1 l.length c1) l) (h2 : RdF w (.slice a2 l.length c2) l) (hl : l.length ≤ 1000) :
    Calls Try.prog 23 #[ev ⟨b, p, a1, l.length, c1, m⟩, ev ⟨b, p, a2, l.length, c2, m⟩] w fun e w' => e = .returned (.bool true) ∧ Below w.heap.size w w' :=
  (sameOne_ ⟨b, p, a1, l.length, c1, m⟩ ⟨b, p, a2, l.length, c2, m⟩ l l w h1 h2 (by omega) (by omega)).mono fun e w' hh => by
    obtain ⟨x, he, hx, hb⟩ := hh
    have : x = true := hx.2 ⟨rfl, rfl, rfl, rfl⟩
    subst this
    exact ⟨he, hb⟩
theorem RdF.alloc_ {v : Value} {l : List Rf} {w : World} (h : RdF w v l) (o : Obj) : RdF (w.alloc o) v l := h.below ((Sat.start w).alloc o).below
end
end Go.Proofs.Ytknodagcmachiaa.Cn
