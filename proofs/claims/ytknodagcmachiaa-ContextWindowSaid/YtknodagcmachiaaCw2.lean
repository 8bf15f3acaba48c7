/-
  Law 08: ContextWindow, the walk. No statement is proved here.
-/
import Derived.Test.YtknodagcmachiaaCw1
import Derived.Test.YtknodagcmachiaaArgs2
import Derived.Deep.DeepCutAuto
namespace Go.Proofs.Ytknodagcmachiaa.Cn
open Go.RowKit Ac Fi
set_option linter.unusedVariables false
set_option linter.unusedSimpArgs false

def QT8 (w0 : World) : Ending → World → Prop := fun e w' => e = .returned (.bool true) ∧ Below w0.heap.size w0 w'
theorem Eu64 : SlT Try.prog 33 22 1 8 (vu 0) := SlT.mk' Try.underlying33 (by kernel_rfl) rfl (by decide)
theorem Rd.one8 (w : World) (T : TypeId) (x : Value) {b : Nat} (hb : b = w.heap.size) : Rd (w.alloc (.cells #[x] T)) 1 (.slice (some ⟨b, 0, none⟩) 1 1) 1 [x] := by
  subst hb
  refine ⟨rfl, .inr ⟨_, _, _, rfl, fun j u hj => ?_⟩⟩
  rcases j with _ | j
  · simp at hj
    subst hj
    simp
  · simp at hj
set_option maxRecDepth 100000 in
set_option maxHeartbeats 4000000 in
theorem window_early (w0 : World) (bud per most : Int) (ao : Option Addr) (n cap : Nat) (hc : ¬ (n ≤ 200 ∧ 1 ≤ bud ∧ bud ≤ 1000 ∧ 1 ≤ per ∧ per ≤ 4294967296 ∧ 2 ≤ most ∧ most ≤ 16)) :
    Calls Try.prog 3 #[vu bud, vu per, vi most, .slice ao n cap] w0 (QT8 w0) := by
  by_cases h0 : (200 : Int) < (n : Int)
  · clear hc
    go_enter Try.func3, Try.ntmps3
    go_wp2_with (go_at_call 9; refine (known08 w0).mono ?_; rintro e w2 ⟨rfl, hS⟩)
    go_ret
    exact ⟨rfl, hS⟩
  · by_cases h1 : bud < 1
    · clear hc
      go_enter Try.func3, Try.ntmps3
      go_wp2_with (go_at_call 9; refine (known08 w0).mono ?_; rintro e w2 ⟨rfl, hS⟩)
      go_ret
      exact ⟨rfl, hS⟩
    · by_cases h2 : 1000 < bud
      · clear hc
        go_enter Try.func3, Try.ntmps3
        go_wp2_with (go_at_call 9; refine (known08 w0).mono ?_; rintro e w2 ⟨rfl, hS⟩)
        go_ret
        exact ⟨rfl, hS⟩
      · by_cases h3 : per < 1
        · clear hc
          go_enter Try.func3, Try.ntmps3
          go_wp2_with (go_at_call 9; refine (known08 w0).mono ?_; rintro e w2 ⟨rfl, hS⟩)
          go_ret
          exact ⟨rfl, hS⟩
        · by_cases h4 : 4294967296 < per
          · clear hc
            go_enter Try.func3, Try.ntmps3
            go_wp2_with (go_at_call 9; refine (known08 w0).mono ?_; rintro e w2 ⟨rfl, hS⟩)
            go_ret
            exact ⟨rfl, hS⟩
          · by_cases h5 : most < 2
            · clear hc
              go_enter Try.func3, Try.ntmps3
              go_wp2_with (go_at_call 9; refine (known08 w0).mono ?_; rintro e w2 ⟨rfl, hS⟩)
              go_ret
              exact ⟨rfl, hS⟩
            · by_cases h6 : 16 < most
              · clear hc
                go_enter Try.func3, Try.ntmps3
                go_wp2_with (go_at_call 9; refine (known08 w0).mono ?_; rintro e w2 ⟨rfl, hS⟩)
                go_ret
                exact ⟨rfl, hS⟩
              · exact absurd ⟨by omega, by omega, by omega, by omega, by omega, by omega, by omega⟩ hc

set_option maxRecDepth 100000 in
set_option maxHeartbeats 8000000 in
theorem window_core (w0 : World) (bud per most : Int) (v2 : Value) (n : Nat) (A : Nat → Int) (h2 : ArgK w0 8 kA8 v2 n A) (hn : n ≤ 200) (hb : 1 ≤ bud ∧ bud ≤ 1000) (hp : 1 ≤ per ∧ per ≤ 4294967296) (hm : 2 ≤ most ∧ most ≤ 16) :
    Calls Try.prog 3 #[vu bud, vu per, vi most, v2] w0 (QT8 w0) := by
  obtain ⟨ao, cap, rfl⟩ : ∃ ao cap, v2 = .slice ao n cap := by
    rcases h2.form with ⟨rfl, ao, cap, h⟩ | ⟨b, off, cap, h, _⟩
    · exact ⟨_, _, h⟩
    · exact ⟨_, _, h⟩
  have HA := Lib.hid h2
  obtain ⟨e1, e2, e3, e4, e5, e6, hI1, hW⟩ := WIn.begin hb hp hm
  have HNEW := Lib.hid (p_new (most := most) 8 ⟨by omega, by omega⟩ hm (Sat.start w0))
  have HMK1 : Hid (∀ (w1 : World) (h : Nat) (F : Hp), Sat w0 (cxP h most (newC 8) (newF 8 8) * F) w1 → Calls Try.prog 11 #[vp h, vu bud, vu per, vu 0] w1 fun e w' => e = .returned (.tuple #[vr 0 1, vi 0]) ∧ Sat w0 (cxP h most (mkL (newC 8) (newF 8 8) bud per 0) (mkF (newF 8 8) bud per 0) * F) w') := Lib.hid (fun w1 h F hS => by
    have := p_make (Inv.new 8 ⟨by omega, by omega⟩ most hm) hS bud per 0 (by omega)
    rw [e1, e2, e3] at this
    exact this)
  have HMK2 : Hid (∀ (w1 : World) (h : Nat) (F : Hp), Sat w0 (cxP h most (mkL (newC 8) (newF 8 8) bud per 0) (mkF (newF 8 8) bud per 0) * F) w1 → Calls Try.prog 11 #[vp h, vu 7, vu 3, vu 0] w1 fun e w' => e = .returned (.tuple #[vr 1 1, vi 0]) ∧ Sat w0 (cxP h most (mkL (mkL (newC 8) (newF 8 8) bud per 0) (mkF (newF 8 8) bud per 0) 7 3 0) (mkF (mkF (newF 8 8) bud per 0) 7 3 0) * F) w') := Lib.hid (fun w1 h F hS => by
    have := p_make hI1 hS 7 3 0 (by omega)
    rw [e4, e5, e6] at this
    exact this)
  have HW := Lib.hid hW
  clear hW e1 e2 e3 e4 e5 e6 hI1 h2
  generalize mkL (mkL (newC 8) (newF 8 8) bud per 0) (mkF (newF 8 8) bud per 0) 7 3 0 = csb at *
  generalize mkF (mkF (newF 8 8) bud per 0) 7 3 0 = frb at *
  generalize mkL (newC 8) (newF 8 8) bud per 0 = csa at *
  generalize mkF (newF 8 8) bud per 0 = fra at *
  obtain ⟨b1, b2⟩ := hb
  obtain ⟨p1, p2⟩ := hp
  obtain ⟨m1, m2⟩ := hm
  have k1 : ¬ (200 : Int) < (n : Int) := by omega
  have k2 : ¬ bud < 1 := by omega
  have k3 : ¬ 1000 < bud := by omega
  have k4 : ¬ per < 1 := by omega
  have k5 : ¬ 4294967296 < per := by omega
  have k6 : ¬ most < 2 := by omega
  have k7 : ¬ 16 < most := by omega
  go_enter Try.func3, Try.ntmps3
  go_wp2_with (first
    | (go_at_call 10; refine HNEW.out.mono ?_; rintro e w1 ⟨h, rfl, hS⟩; have H1 := Lib.hid hS; clear hS)
    | (go_at_call 11; (with_reducible refine (HMK1.out _ _ _ H1.out).mono ?_); rintro e w2 ⟨rfl, hS⟩; have ha : Sat w0 (pc w2.heap.size 30 [vi 0, vu 1] * _) _ := hS.alloc (.cells #[vi 0, vu 1] 30); have H2 := Lib.hid ha.pull2; clear hS ha)
    | (go_at_call 11; (with_reducible refine (HMK2.out _ _ _ H2.out).mono ?_); rintro e w3 ⟨rfl, hS⟩; have ha : Sat w0 (pc w3.heap.size 30 [vi 1, vu 1] * _) _ := hS.alloc (.cells #[vi 1, vu 1] 30); have H3 := Lib.hid ((ha).cast (show _ = cxP h most csb frb * (pc w2.heap.size 30 [vi 0, vu 1] * (pc w3.heap.size 30 [vi 1, vu 1] * (emp))) by ac_rfl)); clear hS ha))
  clear HNEW HMK1 HMK2 H2 H1
  generalize w2.heap.size = ra at *
  generalize w3.heap.size = rb at *
  go_loopw [14, 15, 16] (fun nv u i wr => ∃ (k : Nat) (nw : Int) (cs : List CP) (free : List Nat) (Tk : Nat) (U : List Int) (G : Hp), k ≤ n ∧ i = vi k ∧ nv = vu nw ∧ 0 ≤ nw ∧ nw ≤ 99 * k ∧ U.length ≤ k ∧ Tk ≤ 2 * k + 2 ∧ Hid (WIn bud per most nw Tk cs free U) ∧ Sat w0 (cxP h most cs free * (pc ra 30 [vi 0, vu 1] * (pc rb 30 [vi 1, vu 1] * (slo 22 1 u U.length (U.map vu) * (G))))) wr) (fun _ _ i _ => n - (intOf i).toNat)
  case atStart => exact ⟨0, 0, csb, frb, 2, [], _, Nat.zero_le _, rfl, rfl, by omega, by omega, by simp, by omega, HW, ((H3.out.sloNil 22 1)).cast (show _ = cxP h most csb frb * (pc ra 30 [vi 0, vu 1] * (pc rb 30 [vi 1, vu 1] * (slo 22 1 (.slice none 0 0) 0 [] * (emp)))) by ac_rfl)⟩
  case round =>
    clear H3 HW
    obtain ⟨k, nw, cs, free, Tk, U, G, hk, rfl, rfl, hw1, hw2, hul, hTk, HWI, hS⟩ := hrel
    by_cases hlt : k < n
    · have hki : (k : Int) < (n : Int) := by omega
      obtain ⟨ab, aoff, rfl, x0, x1, x2, x3, x4, x5, x6, x7, hx2, hx4, hx5, hx6, hx7, hca⟩ := a_act8 HA.out hlt
      obtain ⟨a0, a1, a2, a3, a4, a5, a6, a7⟩ := hca _ _ hS
      obtain ⟨uo, ucap, rfl⟩ := hS.dropL.dropL.dropL.sloForm
      have hB : Sat w0 (pc wr.heap.size 35 [vi x0, vi x1, vu x2, vi x3, vu x4, vu x5, vu x6, vu x7] * (cxP h most cs free * (pc ra 30 [vi 0, vu 1] * (pc rb 30 [vi 1, vu 1] * (slo 22 1 (.slice uo U.length ucap) U.length (U.map vu) * (G)))))) (wr.alloc (.cells #[vi x0, vi x1, vu x2, vi x3, vu x4, vu x5, vu x6, vu x7] 35)) := hS.alloc _
      have q0 := hB.cell 0 rfl
      have q3 := hB.cell 3 rfl
      have q4 := hB.cell 4 rfl
      have q5 := hB.cell 5 rfl
      have q7 := hB.cell 7 rfl
      have r0 := hB.dropL.dropL.cell 0 rfl
      have r1 := hB.dropL.dropL.cell 1 rfl
      have s0 := hB.dropL.dropL.dropL.cell 0 rfl
      have s1 := hB.dropL.dropL.dropL.cell 1 rfl
      have HB := Lib.hid hB
      clear hS hB hca
      have w1' := Int.emod_nonneg x7 (show (100 : Int) ≠ 0 by omega)
      have w2' := Int.emod_lt_of_pos x7 (show (0 : Int) < 100 by omega)
      have hwz : IntKind.u64.wrap (nw + x7 % 100) = nw + x7 % 100 := IntWalk.u64_in _ (by omega)
      obtain ⟨x7a, x7b⟩ := hx7
      go_upto_if 95 with fail
      generalize hz : nw + x7 % 100 = z at *
      have z1 : nw ≤ z := by omega
      have z2 : z ≤ 99 * ((k : Int) + 1) := by omega
      have z0 : 0 ≤ z := by omega
      have zU : U64 z := ⟨by omega, by omega⟩
      have HWZ := Lib.hid (HWI.out.move z1)
      clear hz w1' w2' hwz HWI a0 a1 a2 a3 a4 a5 a6 a7 x7a x7b
      have HG := HB
      go_cut [15] (fun u wx => ∃ (cs2 : List CP) (fr2 : List Nat) (V : List Int), V.length ≤ k + 1 ∧ Hid (WIn bud per most z (Tk + 2) cs2 fr2 V) ∧ Sat w0 (pc wr.heap.size 35 [vi x0, vi x1, vu x2, vi x3, vu x4, vu x5, vu x6, vu x7] * (cxP h most cs2 fr2 * (pc ra 30 [vi 0, vu 1] * (pc rb 30 [vi 1, vu 1] * (slo 22 1 u V.length (V.map vu) * (G)))))) wx)
      case first =>
        by_cases h4 : x0 = 4
        · have h4b : (x0 == 4) = true := by simpa using h4
          clear h4
          have hcc := HWZ.out.can (by omega) (by omega)
          have HCAN := Lib.hid (fun (w : World) (F : Hp) (hS : Sat w0 (cxP h most cs free * F) w) => p_can HWZ.out.inv hS 0 1 z)
          have HCHG := Lib.hid (fun (w : World) (F : Hp) (hS : Sat w0 (cxP h most cs free * F) w) => p_charge HWZ.out.inv hS 0 1 z zU)
          have HST : Hid (chgB most cs 0 1 z = true → WIn bud per most z (Tk + 2) (chgL most cs 0 1 z) free (U ++ [z])) := Lib.hid (fun hx => (HWZ.out.step (by omega) z0 hx).up (by omega))
          have HSY : Hid (chgB most cs 0 1 z = false → WIn bud per most z (Tk + 2) (chgL most cs 0 1 z) free U) := Lib.hid (fun hx => (HWZ.out.stay hx).up (by omega))
          rw [← hcc] at HCAN
          clear hcc
          generalize chgL most cs 0 1 z = cs3 at *
          generalize chgB most cs 0 1 z = cb at *
          cases cb with
          | true =>
            have HST2 := Lib.hid (HST.out rfl)
            clear HST HSY
            go_wp2_with (first
              | (go_at_call 12; refine (HCAN.out _ _ ((HB.out).cast (show _ = cxP h most cs free * (pc wr.heap.size 35 [vi x0, vi x1, vu x2, vi x3, vu x4, vu x5, vu x6, vu x7] * (pc ra 30 [vi 0, vu 1] * (pc rb 30 [vi 1, vu 1] * (slo 22 1 (.slice uo U.length ucap) U.length (U.map vu) * (G))))) by ac_rfl))).mono ?_; rintro e w4 ⟨rfl, hS4⟩; have g0 := hS4.dropL.dropL.cell 0 rfl; have g1 := hS4.dropL.dropL.cell 1 rfl; have H4 := Lib.hid hS4; clear hS4)
              | (go_at_call 13; refine (HCHG.out _ _ H4.out).mono ?_; rintro e w5 ⟨rfl, hS5⟩; have H5 := Lib.hid ((hS5).cast (show _ = slo 22 1 (.slice uo U.length ucap) U.length (U.map vu) * (pc wr.heap.size 35 [vi x0, vi x1, vu x2, vi x3, vu x4, vu x5, vu x6, vu x7] * (cxP h most cs3 free * (pc ra 30 [vi 0, vu 1] * (pc rb 30 [vi 1, vu 1] * (G))))) by ac_rfl)); clear hS5)
              | (at_builtin; refine wpList_append_slo Eu64 rfl (.tmp 107) (.tmp 109) rfl (by rfl) (H5.out.alloc' _) (by rfl) (Rd.one8 _ _ _ rfl) (by simp [Value.oneCell']) (by unfold maxLen; omega) (by omega) ?_; intro ao6 cap6 w6 hS6; have H6 := Lib.hid hS6; clear hS6))
            go_meet
            case rel => exact ⟨cs3, free, U ++ [z], by simp; omega, HST2, by rw [List.length_append, List.length_singleton, List.map_append]; exact (H6.out).cast (show _ = pc wr.heap.size 35 [vi x0, vi x1, vu x2, vi x3, vu x4, vu x5, vu x6, vu x7] * (cxP h most cs3 free * (pc ra 30 [vi 0, vu 1] * (pc rb 30 [vi 1, vu 1] * (slo 22 1 (.slice ao6 (U.length + 1) cap6) (U.length + 1) (U.map vu ++ [vu z]) * (G))))) by ac_rfl)⟩
          | false =>
            have HSY2 := Lib.hid (HSY.out rfl)
            clear HST HSY
            go_wp2_with (first
              | (go_at_call 12; refine (HCAN.out _ _ ((HB.out).cast (show _ = cxP h most cs free * (pc wr.heap.size 35 [vi x0, vi x1, vu x2, vi x3, vu x4, vu x5, vu x6, vu x7] * (pc ra 30 [vi 0, vu 1] * (pc rb 30 [vi 1, vu 1] * (slo 22 1 (.slice uo U.length ucap) U.length (U.map vu) * (G))))) by ac_rfl))).mono ?_; rintro e w4 ⟨rfl, hS4⟩; have g0 := hS4.dropL.dropL.cell 0 rfl; have g1 := hS4.dropL.dropL.cell 1 rfl; have H4 := Lib.hid hS4; clear hS4)
              | (go_at_call 13; refine (HCHG.out _ _ H4.out).mono ?_; rintro e w5 ⟨rfl, hS5⟩; have H5 := Lib.hid ((hS5).cast (show _ = slo 22 1 (.slice uo U.length ucap) U.length (U.map vu) * (pc wr.heap.size 35 [vi x0, vi x1, vu x2, vi x3, vu x4, vu x5, vu x6, vu x7] * (cxP h most cs3 free * (pc ra 30 [vi 0, vu 1] * (pc rb 30 [vi 1, vu 1] * (G))))) by ac_rfl)); clear hS5))
            go_meet
            case rel => exact ⟨cs3, free, U, by omega, HSY2, (H5.out).cast (show _ = pc wr.heap.size 35 [vi x0, vi x1, vu x2, vi x3, vu x4, vu x5, vu x6, vu x7] * (cxP h most cs3 free * (pc ra 30 [vi 0, vu 1] * (pc rb 30 [vi 1, vu 1] * (slo 22 1 (.slice uo U.length ucap) U.length (U.map vu) * (G))))) by ac_rfl)⟩
        · have h4b : (x0 == 4) = false := beq_eq_false_iff_ne.2 h4
          obtain ⟨c0, _, _, _, hc0, ht0, _, _, _, _⟩ := HWZ.out.is
          by_cases h5 : x0 = 5
          · have h5b : (x0 == 5) = true := by simpa using h5
            clear h5
            have HSP := Lib.hid (fun (w : World) (F : Hp) (hS : Sat w0 (cxP h most cs free * F) w) => p_split HWZ.out.inv hS 1 1 x5 z hx5 zU)
            have HWN := Lib.hid (HWZ.out.far (HWZ.out.inv.sp (i := 1) (g := 1) x5 z hx5.1 z0) (sp_far HWZ.out.inv hc0 ht0 (by omega) x5 z))
            clear hc0 ht0 h4
            go_wp2_with (go_at_call 14; refine (HSP.out _ _ ((HB.out).cast (show _ = cxP h most cs free * (pc wr.heap.size 35 [vi x0, vi x1, vu x2, vi x3, vu x4, vu x5, vu x6, vu x7] * (pc ra 30 [vi 0, vu 1] * (pc rb 30 [vi 1, vu 1] * (slo 22 1 (.slice uo U.length ucap) U.length (U.map vu) * (G))))) by ac_rfl))).mono ?_; rintro e w4 ⟨rfl, hS4⟩; have H4 := Lib.hid hS4; clear hS4)
            go_meet
            case rel => exact ⟨_, _, U, by omega, HWN, (H4.out).cast (show _ = pc wr.heap.size 35 [vi x0, vi x1, vu x2, vi x3, vu x4, vu x5, vu x6, vu x7] * (cxP h most _ _ * (pc ra 30 [vi 0, vu 1] * (pc rb 30 [vi 1, vu 1] * (slo 22 1 (.slice uo U.length ucap) U.length (U.map vu) * (G))))) by ac_rfl)⟩
          · have h5b : (x0 == 5) = false := beq_eq_false_iff_ne.2 h5
            by_cases h6 : x0 = 6
            · have h6b : (x0 == 6) = true := by simpa using h6
              clear h6
              have HSP := Lib.hid (fun (w : World) (F : Hp) (hS : Sat w0 (cxP h most cs free * F) w) => p_charge HWZ.out.inv hS 1 1 z zU)
              have HWN := Lib.hid ((HWZ.out.far (HWZ.out.inv.chg (i := 1) (g := 1) z z0) (chg_far (by omega) z)).up (Nat.le_succ _))
              clear hc0 ht0 h4 h5
              go_wp2_with (go_at_call 13; refine (HSP.out _ _ ((HB.out).cast (show _ = cxP h most cs free * (pc wr.heap.size 35 [vi x0, vi x1, vu x2, vi x3, vu x4, vu x5, vu x6, vu x7] * (pc ra 30 [vi 0, vu 1] * (pc rb 30 [vi 1, vu 1] * (slo 22 1 (.slice uo U.length ucap) U.length (U.map vu) * (G))))) by ac_rfl))).mono ?_; rintro e w4 ⟨rfl, hS4⟩; have H4 := Lib.hid hS4; clear hS4)
              go_meet
              case rel => exact ⟨_, _, U, by omega, HWN, (H4.out).cast (show _ = pc wr.heap.size 35 [vi x0, vi x1, vu x2, vi x3, vu x4, vu x5, vu x6, vu x7] * (cxP h most _ _ * (pc ra 30 [vi 0, vu 1] * (pc rb 30 [vi 1, vu 1] * (slo 22 1 (.slice uo U.length ucap) U.length (U.map vu) * (G))))) by ac_rfl)⟩
            · have h6b : (x0 == 6) = false := beq_eq_false_iff_ne.2 h6
              have HW1 := Lib.hid HWZ.out.bind
              have HBI := Lib.hid (fun (w : World) (F : Hp) (hS : Sat w0 (cxP h most cs free * F) w) => p_bind HWZ.out.inv (by omega) hS 0 1)
              clear hc0 ht0
              generalize bindL cs 0 1 1 = csx at *
              obtain ⟨c0, _, _, _, hc0, ht0, _, _, _, _⟩ := HW1.out.is
              have HMK := Lib.hid (fun (w : World) (F : Hp) (hS : Sat w0 (cxP h most csx free * F) w) => p_make HW1.out.inv hS x5 x6 z z0)
              have HWN := Lib.hid (HW1.out.far (HW1.out.inv.mk_ x5 x6 z z0) (mk_far HW1.out.inv hc0 ht0 x5 x6 z))
              clear hc0 ht0 h4 h5 h6
              go_wp2_with (first
                | (go_at_call 15; refine (HBI.out _ _ ((HB.out).cast (show _ = cxP h most cs free * (pc wr.heap.size 35 [vi x0, vi x1, vu x2, vi x3, vu x4, vu x5, vu x6, vu x7] * (pc ra 30 [vi 0, vu 1] * (pc rb 30 [vi 1, vu 1] * (slo 22 1 (.slice uo U.length ucap) U.length (U.map vu) * (G))))) by ac_rfl))).mono ?_; rintro e w4 ⟨rfl, hS4⟩; have g3 := hS4.dropL.cell 3 rfl; have g5 := hS4.dropL.cell 5 rfl; have g6 := hS4.dropL.cell 6 rfl; have H4 := Lib.hid hS4; clear hS4)
                | (go_at_call 11; refine (HMK.out _ _ H4.out).mono ?_; rintro e w5 ⟨rfl, hS5⟩; have H5 := Lib.hid hS5; clear hS5))
              go_meet
              case rel => exact ⟨_, _, U, by omega, HWN, (H5.out).cast (show _ = pc wr.heap.size 35 [vi x0, vi x1, vu x2, vi x3, vu x4, vu x5, vu x6, vu x7] * (cxP h most _ _ * (pc ra 30 [vi 0, vu 1] * (pc rb 30 [vi 1, vu 1] * (slo 22 1 (.slice uo U.length ucap) U.length (U.map vu) * (G))))) by ac_rfl)⟩
      case rest =>
        clear HB HG
        generalize wr.heap.size = bx at *
        obtain ⟨cs2, fr2, V, hvl, HWN, hS⟩ := hcut
        obtain ⟨vo, vcap, rfl⟩ := hS.dropL.dropL.dropL.dropL.sloForm
        have HV := Lib.hid ((hS).cast (show _ = slo 22 1 (.slice vo V.length vcap) V.length (V.map vu) * (pc bx 35 [vi x0, vi x1, vu x2, vi x3, vu x4, vu x5, vu x6, vu x7] * (cxP h most cs2 fr2 * (pc ra 30 [vi 0, vu 1] * (pc rb 30 [vi 1, vu 1] * (G))))) by ac_rfl))
        obtain ⟨_, _, _, _, _, _, _, _, _, hwin⟩ := HWN.out.is
        have hus : Hid (∀ u ∈ V, 0 ≤ u ∧ u ≤ z) := Lib.hid hwin.us
        have hbo : Hid (∀ m, (((V.drop m).countP fun u => decide (z < u + per) : Nat) : Int) ≤ bud) := Lib.hid hwin.bound
        clear hS hwin
        have hvl2 : V.length ≤ 201 := by omega
        have hm1 : IntKind.i64.wrap ((V.length : Int) - 1) = (V.length : Int) - 1 := IntWalk.i64_in _ (by omega)
        go_wp2_with fail
        go_loopw [19, 20] (fun c kk wy => ∃ (m q : Nat), m ≤ V.length ∧ c = vu q ∧ (m = 0 ∧ kk = vi (-1) ∨ ∃ j : Nat, m = j + 1 ∧ kk = vi j) ∧ Hid (q + m = V.length ∧ (V.drop m).countP (fun u => decide (z < u + per)) = q) ∧ Sat w0 (slo 22 1 (.slice vo V.length vcap) V.length (V.map vu) * (pc bx 35 [vi x0, vi x1, vu x2, vi x3, vu x4, vu x5, vu x6, vu x7] * (cxP h most cs2 fr2 * (pc ra 30 [vi 0, vu 1] * (pc rb 30 [vi 1, vu 1] * (G)))))) wy) (fun _ kk _ => (intOf kk + 1).toNat)
        case atStart =>
          refine ⟨V.length, 0, Nat.le_refl _, rfl, ?_, Lib.hid ⟨by omega, by rw [List.drop_length]; rfl⟩, HV.out⟩
          rcases hV : V.length with _ | j
          · exact .inl ⟨rfl, by first | rfl | simp⟩
          · exact .inr ⟨j, rfl, by simp⟩
        case round =>
          obtain ⟨m, q, hmu, rfl, hkk, hq, hS7⟩ := hrel
          have hqb := hbo.out m
          rw [hq.out.2] at hqb
          have hq1 := hq.out.1
          have H7 := Lib.hid hS7
          clear hS7
          rcases hkk with ⟨rfl, rfl⟩ | ⟨j, rfl, rfl⟩
          · have hqs : ¬ bud < (q : Int) := by omega
            go_wp2
            go_roundw
            case rel => exact ⟨k + 1, z, cs2, fr2, Tk + 2, V, _, by omega, by go_num, rfl, by omega, by omega, by omega, by omega, HWN, (H7.out).cast (show _ = cxP h most cs2 fr2 * (pc ra 30 [vi 0, vu 1] * (pc rb 30 [vi 1, vu 1] * (slo 22 1 (.slice vo V.length vcap) V.length (V.map vu) * (pc bx 35 [vi x0, vi x1, vu x2, vi x3, vu x4, vu x5, vu x6, vu x7] * G)))) by ac_rfl)⟩
            case measure => (simp [intOf]; try omega)
          · obtain ⟨u, hu⟩ : ∃ u, V[j]? = some u := ⟨V[j]'(by omega), List.getElem?_eq_getElem _⟩
            obtain ⟨gb, so, cap5, hv5⟩ := H7.out.sloPos (by omega)
            cases hv5
            have cu := H7.out.sloCell j (by rw [List.getElem?_map, hu]; rfl)
            have hub := hus.out u (List.mem_of_getElem? hu)
            have hqs : ¬ bud < (q : Int) := by omega
            have hju : (j : Int) < (V.length : Int) := by omega
            have hwu : IntKind.u64.wrap (z - u) = z - u := U64.wrap ⟨by omega, by omega⟩
            have hwq : IntKind.u64.wrap ((q : Int) + 1) = (q : Int) + 1 := U64.wrap ⟨by omega, by omega⟩
            by_cases hin : z - u < per
            · have hcd := count_drop (fun u => decide (z < u + per)) hu (by simp; omega)
              have hq2 := Lib.hid (show (q + 1) + j = V.length ∧ (V.drop j).countP (fun u => decide (z < u + per)) = q + 1 from ⟨by omega, by rw [hcd, hq.out.2]⟩)
              clear hcd hq
              go_wp2
              go_roundw
              case rel =>
                refine ⟨j, q + 1, by omega, by simp, ?_, hq2, H7.out⟩
                rcases j with _ | j
                · exact .inl ⟨rfl, by go_num⟩
                · exact .inr ⟨j, rfl, by go_num⟩
              case measure => (simp [intOf]; try omega)
            · go_wp2
              go_roundw
              case rel => exact ⟨k + 1, z, cs2, fr2, Tk + 2, V, _, by omega, by go_num, rfl, by omega, by omega, by omega, by omega, HWN, (H7.out).cast (show _ = cxP h most cs2 fr2 * (pc ra 30 [vi 0, vu 1] * (pc rb 30 [vi 1, vu 1] * (slo 22 1 (.slice (some ⟨gb, so, none⟩) V.length vcap) V.length (V.map vu) * (pc bx 35 [vi x0, vi x1, vu x2, vi x3, vu x4, vu x5, vu x6, vu x7] * G)))) by ac_rfl)⟩
              case measure => (simp [intOf]; try omega)
    · obtain rfl : k = n := by omega
      have hki : ¬ (k : Int) < (k : Int) := by omega
      have HS' := Lib.hid hS
      clear hS
      go_wp2_with (go_at_call 9; refine (known08 _).mono ?_; rintro e w9 ⟨rfl, hb⟩; have H9 := Lib.hid (Sat.after HS'.out hb); clear hb)
      go_ret
      exact ⟨rfl, H9.out.below⟩
theorem window_row (w0 : World) (bud : Int) (wb : (Lit.int .u64 bud).wf = true) (per : Int) (wp : (Lit.int .u64 per).wf = true) (most : Int) (wm : (Lit.int .i64 most).wf = true) (v2 : Value) (n : Nat) (A : Nat → Int) (h2 : ArgK w0 8 kA8 v2 n A) :
    Calls Try.prog 3 #[vu bud, vu per, vi most, v2] w0 (QT8 w0) := by
  by_cases hc : n ≤ 200 ∧ 1 ≤ bud ∧ bud ≤ 1000 ∧ 1 ≤ per ∧ per ≤ 4294967296 ∧ 2 ≤ most ∧ most ≤ 16
  · obtain ⟨c1, c2, c3, c4, c5, c6, c7⟩ := hc
    exact window_core w0 bud per most v2 n A h2 c1 ⟨c2, c3⟩ ⟨c4, c5⟩ ⟨c6, c7⟩
  · obtain ⟨ao, cap, rfl⟩ : ∃ ao cap, v2 = .slice ao n cap := by
      rcases h2.form with ⟨rfl, ao, cap, h⟩ | ⟨b, off, cap, h, _⟩
      · exact ⟨_, _, h⟩
      · exact ⟨_, _, h⟩
    exact window_early w0 bud per most ao n cap hc
end Go.Proofs.Ytknodagcmachiaa.Cn
