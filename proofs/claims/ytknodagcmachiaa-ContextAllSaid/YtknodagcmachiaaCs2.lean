/-
  Law 08: both look the same. No statement is proved here.
-/
import Derived.Test.YtknodagcmachiaaMg18
import Derived.Deep.RegionHeld3
namespace Go.Proofs.Ytknodagcmachiaa.Cn
open Go.RowKit Ac Fi
set_option linter.unusedVariables false
set_option linter.unusedSimpArgs false

section
variable {w0 w : World} {F : Hp} {n T h q : Nat} {most : Int} {L0 L1 : Blks} {s : CS}
set_option maxRecDepth 100000 in
set_option maxHeartbeats 8000000 in
theorem same8 (hI : InvS n most T s) (hS : Sat w0 (bothC h q most L0 L1 s F) w) (x : Act8) : Calls Try.prog 24 #[vp h, vp q, x.val] w fun e w' => e = .returned (.bool true) ∧ Sat w0 (bothC h q most L0 L1 s F) w' := by
  have h0 : Inv n most T s.cs s.free s.times := hI
  have hlen := h0.len
  have hsm := h0.small
  have hGP : ∀ (i g : Int) (w : World) (F : Hp), Sat w0 (cxQ L0 h most s.cs s.free * F) w → Calls Try.prog 29 #[vp h, vr i g] w fun e w' => ∃ ao lc, e = .returned (.tuple #[ev ⟨(gC s.cs i g).b, (gC s.cs i g).p, ao, (gC s.cs i g).l.length, lc, (gC s.cs i g).n⟩, vi (eC s.cs i g)]) ∧ Sat w0 (fiS (.slice ao (gC s.cs i g).l.length lc) (gC s.cs i g).l * (cxQ L0 h most s.cs s.free * F)) w' := fun i g w F hS => p_get h0 hS i g
  have hGR : ∀ (i g : Int) (w : World) (F : Hp), Sat w0 (cyQ L1 q most s.cs s.times * F) w → Calls Try.prog 58 #[vp q, vr i g] w fun e w' => ∃ ao lc, e = .returned (.tuple #[ev ⟨(gC s.cs i g).b, (gC s.cs i g).p, ao, (gC s.cs i g).l.length, lc, (gC s.cs i g).n⟩, vi (eC s.cs i g)]) ∧ RdF w' (.slice ao (gC s.cs i g).l.length lc) (gC s.cs i g).l ∧ Sat w0 (cyQ L1 q most s.cs s.times * F) w' := fun i g w F hS => r_get h0 hS i g
  have hNP : ∀ (w : World) (F : Hp), Sat w0 (cxQ L0 h most s.cs s.free * F) w → Calls Try.prog 30 #[vp h, vr x.i x.g, vu x.now] w fun e w' => e = .returned (addV (nxtO s.cs x.i x.g x.now)) ∧ Sat w0 (cxQ L0 h most s.cs s.free * F) w' := fun w F hS => p_next h0 hS x.i x.g x.now
  have hNR : ∀ (w : World) (F : Hp), Sat w0 (cyQ L1 q most s.cs s.times * F) w → Calls Try.prog 59 #[vp q, vr x.i x.g, vu x.now] w fun e w' => e = .returned (addV (nxtO s.cs x.i x.g x.now)) ∧ Sat w0 (cyQ L1 q most s.cs s.times * F) w' := fun w F hS => r_next h0 hS x.i x.g x.now
  have hC1 : ∀ (w : World) (F : Hp), Sat w0 (cxQ L0 h most s.cs s.free * F) w → Calls Try.prog 12 #[vp h, vr x.i x.g, vu x.now] w fun e w' => e = .returned (.bool (canB s.cs x.i x.g x.now)) ∧ Sat w0 (cxQ L0 h most s.cs s.free * F) w' := fun w F hS => p_can h0 hS x.i x.g x.now
  have hC2 : ∀ (w : World) (F : Hp), Sat w0 (cyQ L1 q most s.cs s.times * F) w → Calls Try.prog 46 #[vp q, vr x.i x.g, vu x.now] w fun e w' => e = .returned (.bool (canB s.cs x.i x.g x.now)) ∧ Sat w0 (cyQ L1 q most s.cs s.times * F) w' := fun w F hS => r_can h0 hS x.i x.g x.now
  have hC3 : ∀ (w : World) (F : Hp), Sat w0 (cxQ L0 h most s.cs s.free * F) w → Calls Try.prog 12 #[vp h, vr x.j x.t, vu x.now] w fun e w' => e = .returned (.bool (canB s.cs x.j x.t x.now)) ∧ Sat w0 (cxQ L0 h most s.cs s.free * F) w' := fun w F hS => p_can h0 hS x.j x.t x.now
  have hC4 : ∀ (w : World) (F : Hp), Sat w0 (cyQ L1 q most s.cs s.times * F) w → Calls Try.prog 46 #[vp q, vr x.j x.t, vu x.now] w fun e w' => e = .returned (.bool (canB s.cs x.j x.t x.now)) ∧ Sat w0 (cyQ L1 q most s.cs s.times * F) w' := fun w F hS => r_can h0 hS x.j x.t x.now
  have hLN : ∀ (w : World) (F : Hp), Sat w0 (cxQ L0 h most s.cs s.free * F) w → Calls Try.prog 33 #[vp h] w fun e w' => e = .returned (vi (cntC s.cs s.cs.length)) ∧ Sat w0 (cxQ L0 h most s.cs s.free * F) w' := fun w F hS => p_len h0 hS
  have HAN := Lib.hid (fun i g => h0.anyC i g)
  obtain ⟨zt, zb, hz, -⟩ := addV_form (nxtO s.cs x.i x.g x.now)
  rw [hz] at hNP hNR
  generalize canB s.cs x.i x.g x.now = cb1 at *
  generalize canB s.cs x.j x.t x.now = cb2 at *
  have HGP := Lib.hid hGP
  have HGR := Lib.hid hGR
  have HNP := Lib.hid hNP
  have HNR := Lib.hid hNR
  have HC1 := Lib.hid hC1
  have HC2 := Lib.hid hC2
  have HC3 := Lib.hid hC3
  have HC4 := Lib.hid hC4
  have HLN := Lib.hid hLN
  clear hGP hGR hNP hNR hC1 hC2 hC3 hC4 hLN hz h0 hI
  have hB : Sat w0 (pc w.heap.size 35 x.cells * (cxQ L0 h most s.cs s.free * (cyQ L1 q most s.cs s.times * F))) (w.alloc (.cells x.cells.toArray 35)) := hS.alloc (.cells x.cells.toArray 35)
  have HB := Lib.hid hB
  clear hS hB
  go_enter Try.func24, Try.ntmps24
  go_wp2_with fail
  generalize (World.alloc w _) = W1 at *
  generalize w.heap.size = bA at *
  go_loopw [7, 8] (fun nx ix wr => ∃ k m : Nat, k ≤ s.cs.length ∧ m ≤ k ∧ nx = vi m ∧ ix = vi k ∧ Hid (m = cntC s.cs k) ∧ Sat w0 (pc bA 35 (Act8.cells x) * (cxQ L0 h most s.cs s.free * (cyQ L1 q most s.cs s.times * F))) wr) (fun _ ix _ => s.cs.length - (intOf ix).toNat)
  case atStart => exact ⟨0, 0, Nat.zero_le _, Nat.le_refl _, rfl, rfl, Lib.hid rfl, HB.out⟩
  case round =>
    clear HB
    obtain ⟨k, m, hk, hmk, rfl, rfl, hm, hS⟩ := hrel
    obtain ⟨b, cap, rs, L, hL, hp, hs⟩ := cy_open (hS.cast (show _ = cyQ L1 q most s.cs s.times * (pc bA 35 (Act8.cells x) * (cxQ L0 h most s.cs s.free * F)) by ac_rfl))
    have hrs := hp.len
    have c0 := hs.cell 0 rfl
    by_cases hlt : k < s.cs.length
    · have hki : (k : Int) < (rs.length : Int) := by omega
      have hkr : k < rs.length := by omega
      obtain ⟨c, hc⟩ : ∃ c, s.cs[k]? = some c := ⟨s.cs[k], List.getElem?_eq_getElem hlt⟩
      obtain ⟨a, ha⟩ : ∃ a, rs[k]? = some a := ⟨rs[k], List.getElem?_eq_getElem hkr⟩
      obtain ⟨hg, hth, hem, _⟩ := hp.at_ k a c ha hc
      have g0 := rx_at hs.pull2 (j := 0) ha rfl
      rw [Nat.add_zero, hg] at g0
      have hcn := cntC_succ hc
      have hee : eC s.cs k c.gen = if c.there = true then 0 else 11 := by
        cases hct : c.there with
        | true => exact (isC_gC (isC_of hc hct)).2
        | false =>
          rcases eC_01 s.cs k c.gen with he | he
          · obtain ⟨k', c', hcc⟩ := eC_yes he
            obtain ⟨d1, d2, d3, d4⟩ := isC_some hcc
            have : k' = k := by omega
            subst this
            rw [hc] at d1
            cases d1
            rw [hct] at d3
            cases d3
          · rw [he]; rfl
      have HG1 := Lib.hid (HGP.out k c.gen)
      have HG2 := Lib.hid (HGR.out k c.gen)
      obtain ⟨hok, hl16, -⟩ := HAN.out k c.gen
      rw [hee] at HG1 HG2
      clear hee hem hg
      have hBR : Sat w0 (pc wr.heap.size 30 [vi k, vu c.gen] * (pc bA 35 (Act8.cells x) * (cxQ L0 h most s.cs s.free * (cyQ L1 q most s.cs s.times * F)))) (wr.alloc (.cells #[vi k, vu c.gen] 30)) := hS.alloc (.cells #[vi k, vu c.gen] 30)
      have r0 := hBR.cell 0 rfl
      have r1 := hBR.cell 1 rfl
      have HBR := Lib.hid hBR
      clear hBR hs hp hS hth hc ha hL
      generalize hX : gC s.cs k c.gen = X at *
      clear hX
      obtain ⟨xb, xp, xl, xn⟩ := X
      dsimp only at HG1 HG2 hok hl16
      have HOK := Lib.hid hok
      clear hok
      generalize c.gen = cg at *
      cases hct : c.there with
      | true =>
        rw [hct, if_pos rfl] at HG1 HG2 hcn
        clear hct
        go_wp2_with (first
          | (go_at_call 29; (with_reducible refine (HG1.out _ _ (HBR.out.cast (show _ = cxQ L0 h most s.cs s.free * (pc wr.heap.size 30 [vi k, vu cg] * (pc bA 35 (Act8.cells x) * (cyQ L1 q most s.cs s.times * F))) by ac_rfl))).mono ?_); rintro e w4 ⟨ao, lc, rfl, hS4⟩; have h4 := (show Sat w0 (pc w4.heap.size 49 (elC ⟨xb, xp, ao, xl.length, lc, xn⟩) * _) _ from hS4.alloc (elO ⟨xb, xp, ao, xl.length, lc, xn⟩)).cast (show _ = pc wr.heap.size 30 [vi k, vu cg] * (pc w4.heap.size 49 (elC ⟨xb, xp, ao, xl.length, lc, xn⟩) * (fiS (.slice ao xl.length lc) xl * (pc bA 35 (Act8.cells x) * (cxQ L0 h most s.cs s.free * (cyQ L1 q most s.cs s.times * F))))) by ac_rfl); have r2 := h4.cell 0 rfl; have r3 := h4.cell 1 rfl; have H4 := Lib.hid h4; clear hS4 h4)
          | (go_at_call 58; (with_reducible refine (HG2.out _ _ (H4.out.cast (show _ = cyQ L1 q most s.cs s.times * (fiS (.slice ao xl.length lc) xl * (pc w4.heap.size 49 (elC ⟨xb, xp, ao, xl.length, lc, xn⟩) * (pc wr.heap.size 30 [vi k, vu cg] * (pc bA 35 (Act8.cells x) * (cxQ L0 h most s.cs s.free * F))))) by ac_rfl))).mono ?_); rintro e w5 ⟨bo, bc, rfl, hrd, hS5⟩; have h5 := (show Sat w0 (pc w5.heap.size 49 (elC ⟨xb, xp, bo, xl.length, bc, xn⟩) * _) _ from hS5.alloc (elO ⟨xb, xp, bo, xl.length, bc, xn⟩)).cast (show _ = fiS (.slice ao xl.length lc) xl * (pc w4.heap.size 49 (elC ⟨xb, xp, ao, xl.length, lc, xn⟩) * (pc w5.heap.size 49 (elC ⟨xb, xp, bo, xl.length, bc, xn⟩) * (pc bA 35 (Act8.cells x) * (cxQ L0 h most s.cs s.free * (cyQ L1 q most s.cs s.times * F)) * pc wr.heap.size 30 [vi k, vu cg]))) by ac_rfl); have x0 := h5.pull2.cell 0 rfl; have x1 := h5.pull2.cell 1 rfl; have x2 := h5.pull2.cell 2 rfl; have x3 := h5.pull2.cell 3 rfl; have y0 := h5.pull3.cell 0 rfl; have y1 := h5.pull3.cell 1 rfl; have y2 := h5.pull3.cell 2 rfl; have y3 := h5.pull3.cell 3 rfl; have HRD := Lib.hid (RdF.alloc_ hrd (elO ⟨xb, xp, bo, xl.length, bc, xn⟩)); have H5 := Lib.hid h5; clear hS5 h5 hrd)
          | (go_at_call 23; (with_reducible refine (same_ok (Sat.fiR H5.out HOK.out) HRD.out (by omega)).mono ?_); rintro e w6 ⟨rfl, hb⟩; have h6 := (Sat.after H5.out hb).cast (show _ = pc wr.heap.size 30 [vi k, vu cg] * (pc w5.heap.size 49 (elC ⟨xb, xp, bo, xl.length, bc, xn⟩) * (fiS (.slice ao xl.length lc) xl * (pc w4.heap.size 49 (elC ⟨xb, xp, ao, xl.length, lc, xn⟩) * (pc bA 35 (Act8.cells x) * (cxQ L0 h most s.cs s.free * (cyQ L1 q most s.cs s.times * F)))))) by ac_rfl); have H6 := Lib.hid h6.dropL.dropL; clear hb h6))
        go_loopw [14] (fun ix wy => ∃ (j : Nat) (l' : List Rf), j ≤ xl.length ∧ l'.length = xl.length ∧ ix = vi j ∧ Sat w0 (slo 61 2 (.slice ao xl.length lc) xl.length (rflat l') * (pc w4.heap.size 49 (elC ⟨xb, xp, ao, xl.length, lc, xn⟩) * (pc bA 35 (Act8.cells x) * (cxQ L0 h most s.cs s.free * (cyQ L1 q most s.cs s.times * F))))) wy) (fun ix _ => xl.length - (intOf ix).toNat)
        case atStart => exact ⟨0, xl, Nat.zero_le _, rfl, rfl, H6.out⟩
        case round =>
          obtain ⟨j, l', hj, hl', rfl, hS7⟩ := hrel
          have x2 := hS7.pull2.cell 2 rfl
          by_cases hjl : j < xl.length
          · have hji : (j : Int) < (xl.length : Int) := by omega
            obtain ⟨r, hr⟩ : ∃ r, l'[j]? = some r := ⟨l'[j]'(by omega), List.getElem?_eq_getElem _⟩
            obtain ⟨gb, so, cap5, hv5⟩ := hS7.sloPos (by omega)
            cases hv5
            have q0 := hS7.sloCell (j * 2 + 0) (flat_get Rf.len hr rfl)
            have f0 := hS7.sloFree (so + j * 2)
            have hst := hS7.sloStore (j * 2 + 0) (by omega) (vu (IntKind.u64.wrap (r.amount + 1)))
            rw [flat_set Rf.len l' j 0 r ⟨IntKind.u64.wrap (r.amount + 1), r.at_⟩ _ hr (by omega) rfl] at hst
            rw [Nat.add_zero] at q0 hst
            have HST := Lib.hid hst
            clear hst hS7
            go_wp2
            go_roundw
            case rel => exact ⟨j + 1, _, by omega, by rw [List.length_set]; exact hl', by go_num, HST.out⟩
            case measure => (simp [intOf]; try omega)
          · obtain rfl : j = xl.length := by omega
            have hji : ¬ (xl.length : Int) < (xl.length : Int) := by omega
            have H7 := Lib.hid hS7
            clear hS7
            go_wp2
            go_roundw
            case rel => exact ⟨k + 1, m + 1, by omega, by omega, by go_num, by go_num, Lib.hid (by rw [hcn, hm.out]), H7.out.dropL.dropL⟩
            case measure => (simp [intOf]; try omega)
      | false =>
        rw [hct, if_neg (by simp)] at HG1 HG2 hcn
        clear hct
        go_wp2_with (first
          | (go_at_call 29; (with_reducible refine (HG1.out _ _ (HBR.out.cast (show _ = cxQ L0 h most s.cs s.free * (pc wr.heap.size 30 [vi k, vu cg] * (pc bA 35 (Act8.cells x) * (cyQ L1 q most s.cs s.times * F))) by ac_rfl))).mono ?_); rintro e w4 ⟨ao, lc, rfl, hS4⟩; have h4 := (show Sat w0 (pc w4.heap.size 49 (elC ⟨xb, xp, ao, xl.length, lc, xn⟩) * _) _ from hS4.alloc (elO ⟨xb, xp, ao, xl.length, lc, xn⟩)).cast (show _ = pc wr.heap.size 30 [vi k, vu cg] * (pc w4.heap.size 49 (elC ⟨xb, xp, ao, xl.length, lc, xn⟩) * (fiS (.slice ao xl.length lc) xl * (pc bA 35 (Act8.cells x) * (cxQ L0 h most s.cs s.free * (cyQ L1 q most s.cs s.times * F))))) by ac_rfl); have r2 := h4.cell 0 rfl; have r3 := h4.cell 1 rfl; have H4 := Lib.hid h4; clear hS4 h4)
          | (go_at_call 58; (with_reducible refine (HG2.out _ _ (H4.out.cast (show _ = cyQ L1 q most s.cs s.times * (fiS (.slice ao xl.length lc) xl * (pc w4.heap.size 49 (elC ⟨xb, xp, ao, xl.length, lc, xn⟩) * (pc wr.heap.size 30 [vi k, vu cg] * (pc bA 35 (Act8.cells x) * (cxQ L0 h most s.cs s.free * F))))) by ac_rfl))).mono ?_); rintro e w5 ⟨bo, bc, rfl, hrd, hS5⟩; have h5 := (show Sat w0 (pc w5.heap.size 49 (elC ⟨xb, xp, bo, xl.length, bc, xn⟩) * _) _ from hS5.alloc (elO ⟨xb, xp, bo, xl.length, bc, xn⟩)).cast (show _ = fiS (.slice ao xl.length lc) xl * (pc w4.heap.size 49 (elC ⟨xb, xp, ao, xl.length, lc, xn⟩) * (pc w5.heap.size 49 (elC ⟨xb, xp, bo, xl.length, bc, xn⟩) * (pc bA 35 (Act8.cells x) * (cxQ L0 h most s.cs s.free * (cyQ L1 q most s.cs s.times * F)) * pc wr.heap.size 30 [vi k, vu cg]))) by ac_rfl); have x0 := h5.pull2.cell 0 rfl; have x1 := h5.pull2.cell 1 rfl; have x2 := h5.pull2.cell 2 rfl; have x3 := h5.pull2.cell 3 rfl; have y0 := h5.pull3.cell 0 rfl; have y1 := h5.pull3.cell 1 rfl; have y2 := h5.pull3.cell 2 rfl; have y3 := h5.pull3.cell 3 rfl; have HRD := Lib.hid (RdF.alloc_ hrd (elO ⟨xb, xp, bo, xl.length, bc, xn⟩)); have H5 := Lib.hid h5; clear hS5 h5 hrd)
          | (go_at_call 23; (with_reducible refine (same_ok (Sat.fiR H5.out HOK.out) HRD.out (by omega)).mono ?_); rintro e w6 ⟨rfl, hb⟩; have h6 := (Sat.after H5.out hb).cast (show _ = pc wr.heap.size 30 [vi k, vu cg] * (pc w5.heap.size 49 (elC ⟨xb, xp, bo, xl.length, bc, xn⟩) * (fiS (.slice ao xl.length lc) xl * (pc w4.heap.size 49 (elC ⟨xb, xp, ao, xl.length, lc, xn⟩) * (pc bA 35 (Act8.cells x) * (cxQ L0 h most s.cs s.free * (cyQ L1 q most s.cs s.times * F)))))) by ac_rfl); have H6 := Lib.hid h6.dropL.dropL; clear hb h6))
        go_roundw
        case rel => exact ⟨k + 1, m, by omega, by omega, by go_num, by go_num, Lib.hid (by rw [hcn, hm.out]; rfl), H6.out.dropL.dropL⟩
        case measure => (simp [intOf]; try omega)
    · obtain rfl : k = s.cs.length := by omega
      have hki : ¬ (s.cs.length : Int) < (rs.length : Int) := by omega
      have HS' := Lib.hid hS
      have hml : vi m = vi (cntC s.cs s.cs.length) := by rw [hm.out]
      clear hL hp hs hS
      have a1 := HS'.out.cell 1 rfl
      have a2 := HS'.out.cell 2 rfl
      have a7 := HS'.out.cell 7 rfl
      have HG1 := Lib.hid (HGP.out x.i x.g)
      have HG2 := Lib.hid (HGR.out x.i x.g)
      generalize hX : gC s.cs x.i x.g = X at *
      clear hX
      obtain ⟨xb, xp, xl, xn⟩ := X
      generalize eC s.cs x.i x.g = xe at *
      dsimp only at HG1 HG2
      rw [hml]
      clear hml
      generalize cntC s.cs s.cs.length = cn at *
      go_wp2_with (first
        | (go_at_call 30; (with_reducible refine (HNP.out _ _ (HS'.out.cast (show _ = cxQ L0 h most s.cs s.free * (pc bA 35 (Act8.cells x) * (cyQ L1 q most s.cs s.times * F)) by ac_rfl))).mono ?_); rintro e w4 ⟨rfl, hS4⟩; have h4 : Sat w0 (pc bA 35 (Act8.cells x) * (cxQ L0 h most s.cs s.free * (cyQ L1 q most s.cs s.times * F))) w4 := hS4.cast (by ac_rfl); have b1 := (h4).cell 1 rfl; have b2 := (h4).cell 2 rfl; have b3 := (h4).cell 3 rfl; have b4 := (h4).cell 4 rfl; have b7 := (h4).cell 7 rfl; have H4 := Lib.hid h4; clear hS4 h4)
        | (go_at_call 59; (with_reducible refine (HNR.out _ _ (H4.out.cast (show _ = cyQ L1 q most s.cs s.times * (pc bA 35 (Act8.cells x) * (cxQ L0 h most s.cs s.free * F)) by ac_rfl))).mono ?_); rintro e w5 ⟨rfl, hS5⟩; have h5 : Sat w0 (pc bA 35 (Act8.cells x) * (cxQ L0 h most s.cs s.free * (cyQ L1 q most s.cs s.times * F))) w5 := hS5.cast (by ac_rfl); have c1 := (h5).cell 1 rfl; have c2 := (h5).cell 2 rfl; have c3 := (h5).cell 3 rfl; have c4 := (h5).cell 4 rfl; have c7 := (h5).cell 7 rfl; have H5 := Lib.hid h5; clear hS5 h5)
        | (go_at_call 29; (with_reducible refine (HG1.out _ _ (H5.out.cast (show _ = cxQ L0 h most s.cs s.free * (pc bA 35 (Act8.cells x) * (cyQ L1 q most s.cs s.times * F)) by ac_rfl))).mono ?_); rintro e w6 ⟨ao, lc, rfl, hS6⟩; have h6 : Sat w0 (pc bA 35 (Act8.cells x) * (cxQ L0 h most s.cs s.free * (cyQ L1 q most s.cs s.times * F))) (w6.alloc (elO ⟨xb, xp, ao, xl.length, lc, xn⟩)) := (hS6.dropL.alloc' (elO ⟨xb, xp, ao, xl.length, lc, xn⟩)).cast (by ac_rfl); have d1 := (h6).cell 1 rfl; have d2 := (h6).cell 2 rfl; have d3 := (h6).cell 3 rfl; have d4 := (h6).cell 4 rfl; have d7 := (h6).cell 7 rfl; have H6 := Lib.hid h6; clear hS6 h6)
        | (go_at_call 58; (with_reducible refine (HG2.out _ _ (H6.out.cast (show _ = cyQ L1 q most s.cs s.times * (pc bA 35 (Act8.cells x) * (cxQ L0 h most s.cs s.free * F)) by ac_rfl))).mono ?_); rintro e w7 ⟨bo, bc, rfl, hrd, hS7⟩; have h7 : Sat w0 (pc bA 35 (Act8.cells x) * (cxQ L0 h most s.cs s.free * (cyQ L1 q most s.cs s.times * F))) (w7.alloc (elO ⟨xb, xp, bo, xl.length, bc, xn⟩)) := (hS7.alloc' (elO ⟨xb, xp, bo, xl.length, bc, xn⟩)).cast (by ac_rfl); have i1 := (h7).cell 1 rfl; have i2 := (h7).cell 2 rfl; have i3 := (h7).cell 3 rfl; have i4 := (h7).cell 4 rfl; have i7 := (h7).cell 7 rfl; have H7 := Lib.hid h7; clear hS7 h7 hrd))
      generalize (World.alloc w7 _) = W7 at *
      go_region_held3 (fun w' => w'.cell? ⟨bA, 1, none⟩ = some (vi x.i) ∧ w'.cell? ⟨bA, 2, none⟩ = some (vu x.g) ∧ w'.cell? ⟨bA, 3, none⟩ = some (vi x.j) ∧ w'.cell? ⟨bA, 4, none⟩ = some (vu x.t) ∧ w'.cell? ⟨bA, 7, none⟩ = some (vu x.now))
        (first | exact ⟨i1, i2, i3, i4, i7⟩ | exact ⟨ja1, ja2, ja3, ja4, ja7⟩ | exact ⟨jb1, jb2, jb3, jb4, jb7⟩ | exact ⟨jc1, jc2, jc3, jc4, jc7⟩ | exact ⟨jd1, jd2, jd3, jd4, jd7⟩ | exact ⟨je1, je2, je3, je4, je7⟩ | go_keep)
        (first
          | (go_at_call 33; (with_reducible refine (HLN.out _ _ (H7.out.drew.cast (show _ = cxQ L0 h most s.cs s.free * (pc bA 35 (Act8.cells x) * (cyQ L1 q most s.cs s.times * F)) by ac_rfl))).mono ?_); rintro e w8 ⟨rfl, hSn⟩; have hn : Sat w0 (pc bA 35 (Act8.cells x) * (cxQ L0 h most s.cs s.free * (cyQ L1 q most s.cs s.times * F))) w8 := hSn.cast (by ac_rfl); have ja1 := (hn).cell 1 rfl; have ja2 := (hn).cell 2 rfl; have ja3 := (hn).cell 3 rfl; have ja4 := (hn).cell 4 rfl; have ja7 := (hn).cell 7 rfl; have H8 := Lib.hid hn; clear hSn hn)
          | (go_at_call 12; (with_reducible refine (HC1.out _ _ (H8.out.cast (show _ = cxQ L0 h most s.cs s.free * (pc bA 35 (Act8.cells x) * (cyQ L1 q most s.cs s.times * F)) by ac_rfl))).mono ?_); rintro e w9 ⟨rfl, hSn⟩; have hn : Sat w0 (pc bA 35 (Act8.cells x) * (cxQ L0 h most s.cs s.free * (cyQ L1 q most s.cs s.times * F))) w9 := hSn.cast (by ac_rfl); have jb1 := (hn).cell 1 rfl; have jb2 := (hn).cell 2 rfl; have jb3 := (hn).cell 3 rfl; have jb4 := (hn).cell 4 rfl; have jb7 := (hn).cell 7 rfl; have H9 := Lib.hid hn; clear hSn hn)
          | (go_at_call 46; (with_reducible refine (HC2.out _ _ (H9.out.cast (show _ = cyQ L1 q most s.cs s.times * (pc bA 35 (Act8.cells x) * (cxQ L0 h most s.cs s.free * F)) by ac_rfl))).mono ?_); rintro e w10 ⟨rfl, hSn⟩; have hn : Sat w0 (pc bA 35 (Act8.cells x) * (cxQ L0 h most s.cs s.free * (cyQ L1 q most s.cs s.times * F))) w10 := hSn.cast (by ac_rfl); have jc1 := (hn).cell 1 rfl; have jc2 := (hn).cell 2 rfl; have jc3 := (hn).cell 3 rfl; have jc4 := (hn).cell 4 rfl; have jc7 := (hn).cell 7 rfl; have H10 := Lib.hid hn; clear hSn hn)
          | (go_at_call 12; (with_reducible refine (HC3.out _ _ (H10.out.cast (show _ = cxQ L0 h most s.cs s.free * (pc bA 35 (Act8.cells x) * (cyQ L1 q most s.cs s.times * F)) by ac_rfl))).mono ?_); rintro e w11 ⟨rfl, hSn⟩; have hn : Sat w0 (pc bA 35 (Act8.cells x) * (cxQ L0 h most s.cs s.free * (cyQ L1 q most s.cs s.times * F))) w11 := hSn.cast (by ac_rfl); have jd1 := (hn).cell 1 rfl; have jd2 := (hn).cell 2 rfl; have jd3 := (hn).cell 3 rfl; have jd4 := (hn).cell 4 rfl; have jd7 := (hn).cell 7 rfl; have H11 := Lib.hid hn; clear hSn hn)
          | (go_at_call 46; (with_reducible refine (HC4.out _ _ (H11.out.cast (show _ = cyQ L1 q most s.cs s.times * (pc bA 35 (Act8.cells x) * (cxQ L0 h most s.cs s.free * F)) by ac_rfl))).mono ?_); rintro e w12 ⟨rfl, hSn⟩; have hn : Sat w0 (pc bA 35 (Act8.cells x) * (cxQ L0 h most s.cs s.free * (cyQ L1 q most s.cs s.times * F))) w12 := hSn.cast (by ac_rfl); have je1 := (hn).cell 1 rfl; have je2 := (hn).cell 2 rfl; have je3 := (hn).cell 3 rfl; have je4 := (hn).cell 4 rfl; have je7 := (hn).cell 7 rfl; have H12 := Lib.hid hn; clear hSn hn))
      go_wp2
      go_ret
      exact ⟨by simp, H12.out.dropL⟩
end
end Go.Proofs.Ytknodagcmachiaa.Cn
