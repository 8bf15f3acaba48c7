/-
  Package context: Make. No statement is proved here.
-/
import Derived.Test.YtknodagcmachiaaCn6
namespace Go.Proofs.Ytknodagcmachiaa.Cn
open Go.RowKit Ac Fi
set_option linter.unusedVariables false
set_option linter.unusedSimpArgs false

section
variable {w0 w : World} {F : Hp} {h p : Nat} {most : Int} {ps : List Pl} {free : List Nat} {L : Blks} {l : List Rf}
/-- Such a context may be made. -/
def MkOk (b p now : Int) : Prop := 1 ≤ b ∧ b ≤ 4294967296 ∧ 1 ≤ p ∧ p ≤ 4294967296 ∧ now ≤ 1152921504606846976
instance (b p now : Int) : Decidable (MkOk b p now) := inferInstanceAs (Decidable (_ ∧ _))
set_option maxRecDepth 100000 in
set_option maxHeartbeats 2000000 in
theorem make_arg (hS : Sat w0 (cxB h p most * (tblP p ps free * (plB L * (F)))) w) (b per now : Int) (hc : ¬ MkOk b per now) :
    Calls Try.prog 11 #[vp h, vu b, vu per, vu now] w fun e w' => e = .returned (.tuple #[vr 0 0, vi 2]) ∧ Sat w0 (cxB h p most * (tblP p ps free * (plB L * (F)))) w' := by
  have hB : Sat w0 (pc w.heap.size 30 [vi 0, vu 0] * (cxB h p most * (tblP p ps free * (plB L * (F))))) (w.alloc (.cells #[vi 0, vu 0] 30)) := hS.alloc (.cells #[vi 0, vu 0] 30)
  have HN := Lib.hid (cx_none hB.pull2)
  have z0 := hB.cell 0 rfl
  have z1 := hB.cell 1 rfl
  have f0 := hB.free 0
  have f1 := hB.free 1
  have HB := Lib.hid hB
  clear hS hB
  by_cases h1 : b < 1
  · clear hc
    go_enter Try.func11, Try.ntmps11
    go_wp2_with (go_at_call 35; refine HN.out.mono ?_; rintro e w' ⟨rfl, rfl⟩)
    refine bodyPost_ret (v := .tuple #[vr 0 0, vi 2]) (by rw [results_cell_tmp rfl]; go_simp) rfl ?_
    first | exact ⟨rfl, HB.out.dropL⟩ | exact ⟨rfl, ((HB.out.store 0 (vi 0)).store 1 (vu 0)).dropL⟩
  · by_cases h2 : 4294967296 < b
    · clear hc
      go_enter Try.func11, Try.ntmps11
      go_wp2_with (go_at_call 35; refine HN.out.mono ?_; rintro e w' ⟨rfl, rfl⟩)
      refine bodyPost_ret (v := .tuple #[vr 0 0, vi 2]) (by rw [results_cell_tmp rfl]; go_simp) rfl ?_
      first | exact ⟨rfl, HB.out.dropL⟩ | exact ⟨rfl, ((HB.out.store 0 (vi 0)).store 1 (vu 0)).dropL⟩
    · by_cases h3 : per < 1
      · clear hc
        go_enter Try.func11, Try.ntmps11
        go_wp2_with (go_at_call 35; refine HN.out.mono ?_; rintro e w' ⟨rfl, rfl⟩)
        refine bodyPost_ret (v := .tuple #[vr 0 0, vi 2]) (by rw [results_cell_tmp rfl]; go_simp) rfl ?_
        first | exact ⟨rfl, HB.out.dropL⟩ | exact ⟨rfl, ((HB.out.store 0 (vi 0)).store 1 (vu 0)).dropL⟩
      · by_cases h4 : 4294967296 < per
        · clear hc
          go_enter Try.func11, Try.ntmps11
          go_wp2_with (go_at_call 35; refine HN.out.mono ?_; rintro e w' ⟨rfl, rfl⟩)
          refine bodyPost_ret (v := .tuple #[vr 0 0, vi 2]) (by rw [results_cell_tmp rfl]; go_simp) rfl ?_
          first | exact ⟨rfl, HB.out.dropL⟩ | exact ⟨rfl, ((HB.out.store 0 (vi 0)).store 1 (vu 0)).dropL⟩
        · have h5 : 1152921504606846976 < now := by unfold MkOk at hc; omega
          clear hc
          go_enter Try.func11, Try.ntmps11
          go_wp2_with (go_at_call 35; refine HN.out.mono ?_; rintro e w' ⟨rfl, rfl⟩)
          refine bodyPost_ret (v := .tuple #[vr 0 0, vi 2]) (by rw [results_cell_tmp rfl]; go_simp) rfl ?_
          first | exact ⟨rfl, HB.out.dropL⟩ | exact ⟨rfl, ((HB.out.store 0 (vi 0)).store 1 (vu 0)).dropL⟩
set_option maxRecDepth 100000 in
set_option maxHeartbeats 2000000 in
theorem make_full (hS : Sat w0 (cxB h p most * (tblP p ps [] * (plB L * (F)))) w) (b per now : Int) (hc : MkOk b per now) (hn0 : 0 ≤ now) :
    Calls Try.prog 11 #[vp h, vu b, vu per, vu now] w fun e w' => ∃ L2, e = .returned (.tuple #[vr 0 0, vi 3]) ∧ (∀ x ∈ L, x ∈ L2) ∧ Sat w0 (cxB h p most * (tblP p ps [] * (plB L2 * (F)))) w' := by
  have hB : Sat w0 (pc w.heap.size 30 [vi 0, vu 0] * (cxB h p most * (tblP p ps [] * (plB L * (F))))) (w.alloc (.cells #[vi 0, vu 0] 30)) := hS.alloc (.cells #[vi 0, vu 0] 30)
  have HN := Lib.hid (cx_none hB.pull2)
  have z0 := hB.cell 0 rfl
  have z1 := hB.cell 1 rfl
  have f0 := hB.free 0
  have f1 := hB.free 1
  have HB := Lib.hid hB
  have HI : Hid (OkL [⟨b, now⟩]) := Lib.hid (ok1 b now ⟨by unfold MkOk at hc; omega, by unfold MkOk at hc; omega⟩ ⟨hn0, by unfold MkOk at hc; omega⟩)
  obtain ⟨h1, h2, h3, h4, h5⟩ := hc
  have hb0 : b ≠ 0 := by omega
  have HNW := Lib.hid (fun w => new_pos b now hb0 w)
  have h1' : ¬ (b < 1) := by omega
  have h2' : ¬ (4294967296 < b) := by omega
  have h3' : ¬ (per < 1) := by omega
  have h4' : ¬ (4294967296 < per) := by omega
  have h5' : ¬ (1152921504606846976 < now) := by omega
  clear h1 h2 h3 h4 h5 hb0 hn0
  have c0 := hB.pull2.cell 0 rfl
  clear hS hB
  go_enter Try.func11, Try.ntmps11
  go_wp2_with (go_at_call 35; refine HN.out.mono ?_; rintro e w' ⟨rfl, rfl⟩)
  go_region_held3 (fun w' => w'.cell? ⟨h, 0, none⟩ = some (vp p))
    (first | exact c0 | exact d0 | exact e0 | exact g0 | go_keep)
    (first
      | (go_at_call 37; refine (HNW.out _).mono ?_; rintro e w2 ⟨vn, rfl, hS2⟩; have h2 := (Sat.link HB.out.drew hS2).cast (show _ = fiS vn [⟨b, now⟩] * (plB L * (pc w.heap.size 30 [vi 0, vu 0] * (cxB h p most * (tblP p ps [] * (F))))) by ac_rfl); obtain ⟨L2, hsub, hin, h3⟩ := h2.plIn HI.out; obtain ⟨ao, lc, hvn⟩ := hin.form; have hvn : vn = .slice ao 1 lc := hvn; subst hvn; have HSUB := Lib.hid hsub; have HIN := Lib.hid hin; have H2 := Lib.hid ((h3).cast (show _ = tblP p ps [] * (cxB h p most * (pc w.heap.size 30 [vi 0, vu 0] * (plB L2 * (F)))) by ac_rfl)); have d0 := H2.out.pull2.cell 0 rfl; clear hS2 h2 h3 hsub hin)
      | (go_at_call 36; refine (put_no H2.out ⟨b, per, ao, 1, lc, 0⟩).mono ?_; rintro e w3 ⟨rfl, hS3⟩; have H3 := Lib.hid ((hS3).cast (show _ = pc w.heap.size 30 [vi 0, vu 0] * (cxB h p most * (tblP p ps [] * (plB L2 * (F)))) by ac_rfl)); have e0 := H3.out.pull2.cell 0 rfl; have y0 := H3.out.cell 0 rfl; have y1 := H3.out.cell 1 rfl; have yf := H3.out.free 0; have yg := H3.out.free 1; have h4 : Sat w0 (pc w.heap.size 30 [vi 0, vu 0] * (cxB h p most * (tblP p ps [] * (plB L2 * (F))))) _ := (H3.out.store 0 (vi 0)).store 1 (vu 0); have g0 := h4.pull2.cell 0 rfl; have H4 := Lib.hid h4; clear hS3 h4))
  go_wp2
  (try simp only [Exit.inBlock, Exit.then])
  refine bodyPost_ret (v := .tuple #[vr 0 0, vi 3]) (by rw [results_cell_tmp rfl]; go_simp) rfl ?_
  first | exact ⟨L2, rfl, HSUB.out, H4.out.dropL⟩ | exact ⟨L2, rfl, HSUB.out, H3.out.dropL⟩
set_option maxRecDepth 100000 in
set_option maxHeartbeats 2000000 in
theorem make_ok {k : Nat} {a : Pl} (hS : Sat w0 (cxB h p most * (tblP p ps (free ++ [k]) * (plB L * (F)))) w) (b per now : Int) (hc : MkOk b per now) (hn0 : 0 ≤ now) (hk : ps[k]? = some a) :
    Calls Try.prog 11 #[vp h, vu b, vu per, vu now] w fun e w' => ∃ ao lc L2, e = .returned (.tuple #[vr k a.gen, vi 0]) ∧ (∀ x ∈ L, x ∈ L2) ∧ InP L2 (.slice ao 1 lc) [⟨b, now⟩] ∧ Sat w0 (cxB h p most * (tblP p (ps.set k { a with there := true, x := ⟨b, per, ao, 1, lc, 0⟩ }) free * (plB L2 * (F)))) w' := by
  have hB : Sat w0 (pc w.heap.size 30 [vi 0, vu 0] * (cxB h p most * (tblP p ps (free ++ [k]) * (plB L * (F))))) (w.alloc (.cells #[vi 0, vu 0] 30)) := hS.alloc (.cells #[vi 0, vu 0] 30)
  have HN := Lib.hid (cx_none hB.pull2)
  have z0 := hB.cell 0 rfl
  have z1 := hB.cell 1 rfl
  have f0 := hB.free 0
  have f1 := hB.free 1
  have HB := Lib.hid hB
  have HI : Hid (OkL [⟨b, now⟩]) := Lib.hid (ok1 b now ⟨by unfold MkOk at hc; omega, by unfold MkOk at hc; omega⟩ ⟨hn0, by unfold MkOk at hc; omega⟩)
  obtain ⟨h1, h2, h3, h4, h5⟩ := hc
  have hb0 : b ≠ 0 := by omega
  have HNW := Lib.hid (fun w => new_pos b now hb0 w)
  have h1' : ¬ (b < 1) := by omega
  have h2' : ¬ (4294967296 < b) := by omega
  have h3' : ¬ (per < 1) := by omega
  have h4' : ¬ (4294967296 < per) := by omega
  have h5' : ¬ (1152921504606846976 < now) := by omega
  clear h1 h2 h3 h4 h5 hb0 hn0
  have c0 := hB.pull2.cell 0 rfl
  have HK := Lib.hid hk
  clear hk
  clear hS hB
  go_enter Try.func11, Try.ntmps11
  go_wp2_with (go_at_call 35; refine HN.out.mono ?_; rintro e w' ⟨rfl, rfl⟩)
  go_region_held3 (fun w' => w'.cell? ⟨h, 0, none⟩ = some (vp p))
    (first | exact c0 | exact d0 | exact e0 | exact g0 | go_keep)
    (first
      | (go_at_call 37; refine (HNW.out _).mono ?_; rintro e w2 ⟨vn, rfl, hS2⟩; have h2 := (Sat.link HB.out.drew hS2).cast (show _ = fiS vn [⟨b, now⟩] * (plB L * (pc w.heap.size 30 [vi 0, vu 0] * (cxB h p most * (tblP p ps (free ++ [k]) * (F))))) by ac_rfl); obtain ⟨L2, hsub, hin, h3⟩ := h2.plIn HI.out; obtain ⟨ao, lc, hvn⟩ := hin.form; have hvn : vn = .slice ao 1 lc := hvn; subst hvn; have HSUB := Lib.hid hsub; have HIN := Lib.hid hin; have H2 := Lib.hid ((h3).cast (show _ = tblP p ps (free ++ [k]) * (cxB h p most * (pc w.heap.size 30 [vi 0, vu 0] * (plB L2 * (F)))) by ac_rfl)); have d0 := H2.out.pull2.cell 0 rfl; clear hS2 h2 h3 hsub hin)
      | (go_at_call 36; refine (put_yes H2.out HK.out ⟨b, per, ao, 1, lc, 0⟩).mono ?_; rintro e w3 ⟨rfl, hS3⟩; have H3 := Lib.hid ((hS3).cast (show _ = pc w.heap.size 30 [vi 0, vu 0] * (cxB h p most * (tblP p (ps.set k { a with there := true, x := ⟨b, per, ao, 1, lc, 0⟩ }) free * (plB L2 * (F)))) by ac_rfl)); have e0 := H3.out.pull2.cell 0 rfl; have y0 := H3.out.cell 0 rfl; have y1 := H3.out.cell 1 rfl; have yf := H3.out.free 0; have yg := H3.out.free 1; have h4 : Sat w0 (pc w.heap.size 30 [vi k, vu a.gen] * (cxB h p most * (tblP p (ps.set k { a with there := true, x := ⟨b, per, ao, 1, lc, 0⟩ }) free * (plB L2 * (F))))) _ := (H3.out.store 0 (vi k)).store 1 (vu a.gen); have g0 := h4.pull2.cell 0 rfl; have H4 := Lib.hid h4; clear hS3 h4))
  go_wp2
  (try simp only [Exit.inBlock, Exit.then])
  refine bodyPost_ret (v := .tuple #[vr k a.gen, vi 0]) (by rw [results_cell_tmp rfl]; go_simp) rfl ?_
  exact ⟨ao, lc, L2, rfl, HSUB.out, HIN.out, H4.out.dropL⟩
end
end Go.Proofs.Ytknodagcmachiaa.Cn
