/-
  The reference's places: View. No statement is proved here.
-/
import Derived.Test.YtjgemfgneiaabaaGreatMg34
import Derived.Deep.CutBlock
import Derived.Deep.DeepCutAuto
import Derived.Deep.RegionLaw
namespace Go.Proofs.YtjgemfgneiaabaaGreat.Pc
open Go.RowKit Rq Gq
set_option linter.unusedVariables false
set_option linter.unusedSimpArgs false

section
variable {w0 w : World} {F : Hp} {D : Ar} {p : Nat → Pl} {gx : List Int} {vG : Value} {vR : Nat → Value}
set_option maxRecDepth 100000 in
set_option maxHeartbeats 16000000 in
theorem pr_view (h : Sat w0 (prO D vG vR p gx * F) w) (ho : D.Ok) (hx : ∀ k, k < D.n → (p k).xs.length ≤ D.m) (hl : gx.length ≤ 1000000) : Calls Tryz.prog 18 #[vp D.s] w fun e w' => ∃ v1 v2 v3 v4 v5 v6 rv, e = .returned (.agg #[v1, v2, v3, v4, v5, v6]) ∧ Sat w0 (layB D.n p gx v1 v2 v3 v4 v5 v6 rv * (prO D vG vR p gx * F)) w' := by
  have hB : Sat w0 (vwB (w.heap.size + 1) p (fun _ => undef) 0 0 0 0 0 (.slice none 0 0) (.slice none 0 0) (.slice none 0 0) (.slice none 0 0) (.slice none 0 0) * (prO D vG vR p gx * (pc w.heap.size 47 [.slice none 0 0, .slice none 0 0, .slice none 0 0, .slice none 0 0, .slice none 0 0, .slice none 0 0] * F))) ((w.alloc (.cells #[.slice none 0 0, .slice none 0 0, .slice none 0 0, .slice none 0 0, .slice none 0 0, .slice none 0 0] 47)).alloc (.cells #[.slice none 0 0, .slice none 0 0, .slice none 0 0, .slice none 0 0, .slice none 0 0, .slice none 0 0] 47)) := by
    have h4 := (h.alloc (.cells #[.slice none 0 0, .slice none 0 0, .slice none 0 0, .slice none 0 0, .slice none 0 0, .slice none 0 0] 47)).alloc (.cells #[.slice none 0 0, .slice none 0 0, .slice none 0 0, .slice none 0 0, .slice none 0 0, .slice none 0 0] 47)
    simp only [World.size_alloc] at h4
    have h5 := ((((h4.addNil 3 1).addNil 3 1).addNil 41 1).addNil 3 1).addNil 62 1
    refine h5.cast ?_
    unfold vwB
    rw [star_zero, emp_sep]
    show sl 62 1 (.slice none 0 0) 0 [] * (sl 3 1 (.slice none 0 0) 0 [] * (sl 41 1 (.slice none 0 0) 0 [] * (sl 3 1 (.slice none 0 0) 0 [] * (sl 3 1 (.slice none 0 0) 0 [] * (pc (w.heap.size + 1) 47 [.slice none 0 0, .slice none 0 0, .slice none 0 0, .slice none 0 0, .slice none 0 0, .slice none 0 0] * (pc w.heap.size 47 [.slice none 0 0, .slice none 0 0, .slice none 0 0, .slice none 0 0, .slice none 0 0, .slice none 0 0] * (prO D vG vR p gx * F))))))) = (pc (w.heap.size + 1) 47 [.slice none 0 0, .slice none 0 0, .slice none 0 0, .slice none 0 0, .slice none 0 0, .slice none 0 0] * (sl 3 1 (.slice none 0 0) 0 [] * (sl 3 1 (.slice none 0 0) 0 [] * (sl 41 1 (.slice none 0 0) 0 [] * (sl 3 1 (.slice none 0 0) 0 [] * sl 62 1 (.slice none 0 0) 0 []))))) * (prO D vG vR p gx * (pc w.heap.size 47 [.slice none 0 0, .slice none 0 0, .slice none 0 0, .slice none 0 0, .slice none 0 0, .slice none 0 0] * F))
    ac_rfl
  have HB := Lib.hid hB
  have HX := Lib.hid hx
  have hn8 := ho.n8
  have hm32 := ho.m32
  clear h hB hx
  go_enter Tryz.func18, Tryz.ntmps18
  go_wp2
  go_loopw [4] (fun i wr => ∃ (j : Nat) (rv : Nat → Value) (o1 o2 o3 o4 o5 : Value), j ≤ D.n ∧ i = vi j ∧ Sat w0 (vwB (w.heap.size + 1) p rv j j j j j o1 o2 o3 o4 o5 * (prO D vG vR p gx * (pc w.heap.size 47 [.slice none 0 0, .slice none 0 0, .slice none 0 0, .slice none 0 0, .slice none 0 0, .slice none 0 0] * F))) wr) (fun i _ => D.n - (intOf i).toNat)
  case atStart => exact ⟨0, fun _ => undef, .slice none 0 0, .slice none 0 0, .slice none 0 0, .slice none 0 0, .slice none 0 0, Nat.zero_le _, rfl, HB.out⟩
  case round =>
    clear HB
    obtain ⟨j, rv, o1, o2, o3, o4, o5, hj, rfl, hS⟩ := hrel
    have c1 := (pr_cells hS.dropL).1
    unfold Ar.v at c1
    by_cases hlt : j < D.n
    · have hji : (j : Int) < (D.n : Int) := by omega
      have hj0 : (0 : Int) ≤ (j : Int) := by omega
      have hxj := HX.out j hlt
      have HLT := Lib.hid hlt
      obtain ⟨⟨a1, k1, rfl⟩, ⟨a2, k2, rfl⟩, ⟨a3, k3, rfl⟩, ⟨a4, k4, rfl⟩, ⟨a5, k5, rfl⟩⟩ := vw_forms hS
      have HS := Lib.hid hS
      clear hS hlt
      go_upto_region 5 with fail
      go_cut [] (fun wx => ∃ (b : Option Addr) (m : Nat), Sat w0 (vwB (w.heap.size + 1) p rv (j + 1) j j j j (.slice b (j + 1) m) (.slice a2 j k2) (.slice a3 j k3) (.slice a4 j k4) (.slice a5 j k5) * (prO D vG vR p gx * (pc w.heap.size 47 [.slice none 0 0, .slice none 0 0, .slice none 0 0, .slice none 0 0, .slice none 0 0, .slice none 0 0] * F))) wx)
      case first =>
        have hS := HS.out
        have hO := vw_out1 hS
        have y0 := hO.pull2.cell 0 rfl
        have f0 := hO.pull2.free 0
        have c1 := (pr_cells hS.dropL).1
        unfold Ar.v at c1
        obtain ⟨r0, r1, r2, r3⟩ := pr_row hS.dropL HLT.out
        obtain ⟨vL, vN, x0, x2, rL, rN, rR⟩ := pr_lists hS.dropL HLT.out
        have HONE := Lib.hid (fun w' (hR : RdI w' (vR j) (nsOf (p j).g (p j).runs)) => one19 hR)
        have HR1 := Lib.hid rR
        have HR2 := Lib.hid (show RdI wr.drew (vR j) (nsOf (p j).g (p j).runs) from pr_rd hS.drew.dropL HLT.out)
        have hA := hS.alloc' (.cells #[vi (someV (p j).g (p j).runs)] 3)
        have z0 := (vw_out1 hA).pull2.cell 0 rfl
        have z1 := (vw_out1 hA).pull2.free 0
        obtain ⟨aq, cq, hq⟩ := rR.len
        rw [hq] at r1 HONE HR2
        clear hS hO hA rL rN rR HR1
        generalize hxv : someV (p j).g (p j).runs = xv at *
        have HXV := Lib.hid hxv
        clear hxv
        go_region_law
          (first
            | (go_simp; go_at_call 76; refine (HONE.out _ HR2.out).mono ?_; rintro e w2 ⟨rfl, rfl⟩; go_wp2_with fail)
            | (refine step_append_sl Einto (by rfl) (.tmp 15) (.tmp 25) (by rfl) (by rfl) (((vw_out1 HS.out).alloc' (.cells #[vi xv] 3)).drew) (by rfl) (Rd.one _ _ _) (by simp [Value.oneCell']) (by unfold maxLen; omega) (by omega) ?_; intro ao6 cap6 w6 hS6; have o6 := hS6.pull2.cell 0 rfl; have f6 := hS6.pull2.free 0; have H7 := Lib.hid (hS6.pull2.store 0 (.slice ao6 (j + 1) cap6)); clear hS6))
        all_goals go_wp2_with fail
        all_goals go_meet
        all_goals exact ⟨ao6, cap6, vw_in1 (by rw [HXV.out]; exact H7.out)⟩
      case rest =>
      obtain ⟨b1, m1, hS⟩ := hcut
      clear HS
      have HS := Lib.hid hS
      clear hS
      go_upto_region 6 with fail
      go_cut [] (fun wx => ∃ (b : Option Addr) (m : Nat), Sat w0 (vwB (w.heap.size + 1) p rv (j + 1) (j + 1) j j j (.slice b1 (j + 1) m1) (.slice b (j + 1) m) (.slice a3 j k3) (.slice a4 j k4) (.slice a5 j k5) * (prO D vG vR p gx * (pc w.heap.size 47 [.slice none 0 0, .slice none 0 0, .slice none 0 0, .slice none 0 0, .slice none 0 0, .slice none 0 0] * F))) wx)
      case first =>
        have hS := HS.out
        have hO := vw_out2 hS
        have y0 := hO.pull2.cell 1 rfl
        have f0 := hO.pull2.free 1
        have c1 := (pr_cells hS.dropL).1
        unfold Ar.v at c1
        obtain ⟨r0, r1, r2, r3⟩ := pr_row hS.dropL HLT.out
        obtain ⟨vL, vN, x0, x2, rL, rN, rR⟩ := pr_lists hS.dropL HLT.out
        have HONE := Lib.hid (fun w' (hR : RdI w' vN (nsOf (p j).z (p j).b)) => one19 hR)
        have HR1 := Lib.hid rN
        have HR2 := Lib.hid (show RdI wc.drew vN (nsOf (p j).z (p j).b) from rN)
        have hA := hS.alloc' (.cells #[vi (someV (p j).z (p j).b)] 3)
        have z0 := (vw_out2 hA).pull2.cell 1 rfl
        have z1 := (vw_out2 hA).pull2.free 1
        obtain ⟨aq, cq, hq⟩ := rN.len
        subst hq
        clear hS hO hA rL rN rR HR1
        generalize hxv : someV (p j).z (p j).b = xv at *
        have HXV := Lib.hid hxv
        clear hxv
        go_region_law
          (first
            | (go_simp; go_at_call 76; refine (HONE.out _ HR2.out).mono ?_; rintro e w2 ⟨rfl, rfl⟩; go_wp2_with fail)
            | (refine step_append_sl Einto (by rfl) (.tmp 29) (.tmp 42) (by rfl) (by rfl) (((vw_out2 HS.out).alloc' (.cells #[vi xv] 3)).drew) (by rfl) (Rd.one _ _ _) (by simp [Value.oneCell']) (by unfold maxLen; omega) (by omega) ?_; intro ao6 cap6 w6 hS6; have o6 := hS6.pull2.cell 1 rfl; have f6 := hS6.pull2.free 1; have H7 := Lib.hid (hS6.pull2.store 1 (.slice ao6 (j + 1) cap6)); clear hS6))
        all_goals go_wp2_with fail
        all_goals go_meet
        all_goals exact ⟨ao6, cap6, vw_in2 (by rw [HXV.out]; exact H7.out)⟩
      case rest =>
      obtain ⟨b2, m2, hS⟩ := hcut
      clear HS
      have HS := Lib.hid hS
      clear hS
      go_upto_region 7 with fail
      go_cut [] (fun wx => ∃ (b : Option Addr) (m : Nat) (rv' : Nat → Value), Sat w0 (vwB (w.heap.size + 1) p rv' (j + 1) (j + 1) (j + 1) j j (.slice b1 (j + 1) m1) (.slice b2 (j + 1) m2) (.slice b (j + 1) m) (.slice a4 j k4) (.slice a5 j k5) * (prO D vG vR p gx * (pc w.heap.size 47 [.slice none 0 0, .slice none 0 0, .slice none 0 0, .slice none 0 0, .slice none 0 0, .slice none 0 0] * F))) wx)
      case first =>
        have hS := HS.out
        have hO := vw_out3 hS
        have y0 := hO.pull2.cell 2 rfl
        have f0 := hO.pull2.free 2
        have c1 := (pr_cells hS.dropL).1
        unfold Ar.v at c1
        obtain ⟨r0, r1, r2, r3⟩ := pr_row hS.dropL HLT.out
        obtain ⟨vL, vN, x0, x2, rL, rN, rR⟩ := pr_lists hS.dropL HLT.out
        have hxl : (p j).xs.length ≤ 32 := by omega
        have HRL := Lib.hid (show RdI _ vL (p j).xs from rL)
        have hone := Lib.hid (oneI (p j).xs)
        obtain ⟨aq, cq, hq⟩ := rL.len
        subst hq
        have HO3 := Lib.hid (hS.drew.addNil 3 1)
        clear hS hO rL rN rR
        go_region_law
          (first
            | (refine step_append_sl Einto (by rfl) (.const (.slice none 0 0)) (.tmp 57) (by rfl) (by rfl) HO3.out (by rfl) HRL.out hone.out (by unfold maxLen; omega) (by omega) ?_; intro ao5 cap5 w5 hS5; simp only [Nat.zero_add, List.nil_append] at hS5; have h5 : Sat w0 (vwB (w.heap.size + 1) p rv (j + 1) (j + 1) j j j (.slice b1 (j + 1) m1) (.slice b2 (j + 1) m2) (.slice a3 j k3) (.slice a4 j k4) (.slice a5 j k5) * (rs 3 (.slice ao5 (p j).xs.length cap5) ((p j).xs.map vi) * (prO D vG vR p gx * (pc w.heap.size 47 [.slice none 0 0, .slice none 0 0, .slice none 0 0, .slice none 0 0, .slice none 0 0, .slice none 0 0] * F)))) w5 := (hS5.rsOfSl).pull2; have z0 := (vw_out3 h5).pull2.cell 2 rfl; have z1 := (vw_out3 h5).pull2.free 2; have hA := h5.alloc' (.cells #[.slice ao5 (p j).xs.length cap5] 41); have q0 := (vw_out3 hA).pull2.cell 2 rfl; have q1 := (vw_out3 hA).pull2.free 2; have H5 := Lib.hid h5; clear hS5 h5 hA)
            | (refine step_append_sl Eintso (by rfl) (.tmp 46) (.tmp 59) (by rfl) (by rfl) ((vw_out3 H5.out).alloc' (.cells #[.slice ao5 (p j).xs.length cap5] 41)) (by rfl) (Rd.one _ _ _) (by simp [Value.oneCell']) (by unfold maxLen; omega) (by omega) ?_; intro ao6 cap6 w6 hS6; have o6 := hS6.pull2.cell 2 rfl; have f6 := hS6.pull2.free 2; have H7 := Lib.hid (hS6.pull2.store 2 (.slice ao6 (j + 1) cap6)); clear hS6))
        all_goals go_wp2_with fail
        all_goals go_meet
        all_goals exact ⟨ao6, cap6, _, vw_in3 H7.out⟩
      case rest =>
      obtain ⟨b3, m3, rv3, hS⟩ := hcut
      clear HS
      have HS := Lib.hid hS
      clear hS
      go_upto_region 8 with fail
      go_cut [] (fun wx => ∃ (b : Option Addr) (m : Nat), Sat w0 (vwB (w.heap.size + 1) p rv3 (j + 1) (j + 1) (j + 1) (j + 1) j (.slice b1 (j + 1) m1) (.slice b2 (j + 1) m2) (.slice b3 (j + 1) m3) (.slice b (j + 1) m) (.slice a5 j k5) * (prO D vG vR p gx * (pc w.heap.size 47 [.slice none 0 0, .slice none 0 0, .slice none 0 0, .slice none 0 0, .slice none 0 0, .slice none 0 0] * F))) wx)
      case first =>
        have hS := HS.out
        have hO := vw_out4 hS
        have y0 := hO.pull2.cell 3 rfl
        have f0 := hO.pull2.free 3
        have c1 := (pr_cells hS.dropL).1
        unfold Ar.v at c1
        obtain ⟨r0, r1, r2, r3⟩ := pr_row hS.dropL HLT.out
        obtain ⟨vL, vN, x0, x2, rL, rN, rR⟩ := pr_lists hS.dropL HLT.out
        have hA := hS.alloc' (.cells #[vi (p j).left] 3)
        have z0 := (vw_out4 hA).pull2.cell 3 rfl
        have z1 := (vw_out4 hA).pull2.free 3
        clear hS hO hA rL rN rR
        generalize hxv : (p j).left = xv at *
        have HXV := Lib.hid hxv
        clear hxv
        go_region_law
          (refine step_append_sl Einto (by rfl) (.tmp 63) (.tmp 72) (by rfl) (by rfl) (((vw_out4 HS.out).alloc' (.cells #[vi xv] 3)).drew) (by rfl) (Rd.one _ _ _) (by simp [Value.oneCell']) (by unfold maxLen; omega) (by omega) ?_; intro ao6 cap6 w6 hS6; have o6 := hS6.pull2.cell 3 rfl; have f6 := hS6.pull2.free 3; have H7 := Lib.hid (hS6.pull2.store 3 (.slice ao6 (j + 1) cap6)); clear hS6)
        all_goals go_wp2_with fail
        all_goals go_meet
        all_goals exact ⟨ao6, cap6, vw_in4 (by rw [HXV.out]; exact H7.out)⟩
      case rest =>
      obtain ⟨b4, m4, hS⟩ := hcut
      clear HS
      have HS := Lib.hid hS
      clear hS
      go_upto_region 9 with fail
      have hS := HS.out
      have hO := vw_out5 hS
      have y0 := hO.pull2.cell 4 rfl
      have f0 := hO.pull2.free 4
      have c1 := (pr_cells hS.dropL).1
      unfold Ar.v at c1
      obtain ⟨r0, r1, r2, r3⟩ := pr_row hS.dropL HLT.out
      obtain ⟨vL, vN, x0, x2, rL, rN, rR⟩ := pr_lists hS.dropL HLT.out
      have hA := hS.alloc' (.cells #[vu (p j).turns] 62)
      have z0 := (vw_out5 hA).pull2.cell 4 rfl
      have z1 := (vw_out5 hA).pull2.free 4
      clear hS hO hA rL rN rR
      generalize hxv : (p j).turns = xv at *
      have HXV := Lib.hid hxv
      clear hxv
      go_region_law
        (refine step_append_sl Eu64o (by rfl) (.tmp 76) (.tmp 85) (by rfl) (by rfl) (((vw_out5 HS.out).alloc' (.cells #[vu xv] 62)).drew) (by rfl) (Rd.one _ _ _) (by simp [Value.oneCell']) (by unfold maxLen; omega) (by omega) ?_; intro ao6 cap6 w6 hS6; have o6 := hS6.pull2.cell 4 rfl; have f6 := hS6.pull2.free 4; have H7 := Lib.hid (hS6.pull2.store 4 (.slice ao6 (j + 1) cap6)); clear hS6)
      all_goals go_wp2_with fail
      all_goals go_roundw
      all_goals first
        | exact ⟨j + 1, rv3, _, _, _, _, _, by have := HLT.out; omega, by go_num, vw_in5 (by rw [HXV.out]; exact H7.out)⟩
        | (have := HLT.out; simp [intOf]; omega)
    · obtain rfl : j = D.n := by omega
      have c2 := (pr_cells hS.dropL).2
      obtain ⟨g0, rG⟩ := pr_gl hS.dropL
      obtain ⟨aG, cG, rfl⟩ := rG.len
      have HRG := Lib.hid rG
      have honeG := Lib.hid (oneI gx)
      have HZ := Lib.hid (hS.addNil 3 1)
      obtain ⟨⟨a1, k1, rfl⟩, ⟨a2, k2, rfl⟩, ⟨a3, k3, rfl⟩, ⟨a4, k4, rfl⟩, ⟨a5, k5, rfl⟩⟩ := vw_forms hS
      clear hS rG
      go_wp2_with (at_builtin; refine wpList_append_sl Einto rfl (.const (.slice none 0 0)) (.tmp 94) rfl rfl HZ.out (by rfl) HRG.out honeG.out (by unfold maxLen; omega) (by omega) ?_; intro ao6 cp6 w6 hS6; simp only [Nat.zero_add, List.nil_append] at hS6; have hV := vw_out1 hS6.pull2; have hb : Sat w0 (pc (w.heap.size + 1) 47 [(.slice a1 D.n k1), (.slice a2 D.n k2), (.slice a3 D.n k3), (.slice a4 D.n k4), (.slice a5 D.n k5), .slice none 0 0] * _) w6 := hV.pull2; have u0 := hb.cell 0 rfl; have u1 := hb.cell 1 rfl; have u2 := hb.cell 2 rfl; have u3 := hb.cell 3 rfl; have u4 := hb.cell 4 rfl; have u5 := hb.cell 5 rfl; have t5 := hb.free 5; have hb6 := hb.store 5 (.slice ao6 gx.length cp6); have x0 := hb6.cell 0 rfl; have x1 := hb6.cell 1 rfl; have x2 := hb6.cell 2 rfl; have x3 := hb6.cell 3 rfl; have x4 := hb6.cell 4 rfl; have x5 := hb6.cell 5 rfl; have hr : Sat w0 (pc w.heap.size 47 [.slice none 0 0, .slice none 0 0, .slice none 0 0, .slice none 0 0, .slice none 0 0, .slice none 0 0] * (layB D.n p gx (.slice a1 D.n k1) (.slice a2 D.n k2) (.slice a3 D.n k3) (.slice a4 D.n k4) (.slice a5 D.n k5) (.slice ao6 gx.length cp6) rv * (prO D (.slice aG gx.length cG) vR p gx * F))) _ := hb6.dropL.cast (by unfold layB ringsB; ac_rfl); have y0 := hr.cell 0 rfl; have y1 := hr.cell 1 rfl; have y2 := hr.cell 2 rfl; have y3 := hr.cell 3 rfl; have y4 := hr.cell 4 rfl; have y5 := hr.cell 5 rfl; have z0 := hr.free 0; have z1 := hr.free 1; have z2 := hr.free 2; have z3 := hr.free 3; have z4 := hr.free 4; have z5 := hr.free 5; have s6 := (((((hr.store 0 (.slice a1 D.n k1)).store 1 (.slice a2 D.n k2)).store 2 (.slice a3 D.n k3)).store 3 (.slice a4 D.n k4)).store 4 (.slice a5 D.n k5)).store 5 (.slice ao6 gx.length cp6); have S6 := Lib.hid s6; clear hS6 hV hb hb6 hr s6)
      refine bodyPost_ret (results_row1 rfl _ _ _ rfl S6.out.rangeN Tryz.underlying47 rfl (by kernel_rfl)) rfl ?_
      exact ⟨_, _, _, _, _, _, rv, rfl, S6.out.dropL⟩
end
end Go.Proofs.YtjgemfgneiaabaaGreat.Pc
