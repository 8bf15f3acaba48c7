/-
  Contexts that are not there: what each method answers. No statement is proved here.
-/
import Derived.Test.YtknodagcmachiaaMg21
import Derived.Test.YtknodagcmachiaaCn10
import Derived.Test.YtknodagcmachiaaMg20
import Derived.Deep.LoopGhost
import Derived.Test.YtknodagcmachiaaMg19
import Derived.Laws.EntriesVeiled
namespace Go.Proofs.Ytknodagcmachiaa.Cn
open Go.RowKit Ac Fi
set_option linter.unusedVariables false
set_option linter.unusedSimpArgs false

/-- None are there at v, while Z holds. -/
def NoC (v : Value) (Z : Hp) : Prop := ∀ (w0 w : World) (F : Hp), Sat w0 (Z * F) w → Calls Try.prog 35 #[v] w fun e w' => e = .returned (.bool true) ∧ w = w'
theorem noC_nil : NoC (.pointer none) emp := fun w0 w F hS => by
  clear hS
  go_enter Try.func35, Try.ntmps35
  go_wp2
  go_ret
  exact ⟨rfl, rfl⟩
theorem noC_zero (z : Nat) (m : Int) : NoC (vp z) (pc z 70 [.pointer none, vi m]) := fun w0 w F hS => by
  have c0 := hS.cell 0 rfl
  clear hS
  go_enter Try.func35, Try.ntmps35
  go_wp2
  go_ret
  exact ⟨rfl, rfl⟩
section
variable {w0 w : World} {F Z : Hp} {v : Value}
set_option maxRecDepth 100000 in
set_option maxHeartbeats 2000000 in
theorem nl_find (hN : NoC v Z) (hS : Sat w0 (Z * F) w) (i g : Int) : Calls Try.prog 38 #[v, vr i g] w fun e w' => e = .returned (.tuple #[ev ez, vi 1]) ∧ Sat w0 (Z * F) w' := by
  have hB0 := (hS.alloc (.cells #[vi i, vu g] 30)).alloc (elO ez)
  rw [size1] at hB0
  have hB : Sat w0 (pc (w.heap.size + 1) 49 (elC ez) * (pc w.heap.size 30 [vi i, vu g] * (Z * F))) _ := hB0
  have HN := Lib.hid (hN _ _ _ hB.pull3)
  have HB := Lib.hid hB
  clear hB hB0 hS hN
  go_enter Try.func38, Try.ntmps38
  go_wp2_with (first
    | (go_at_call 35; (with_reducible refine HN.out.mono ?_); rintro e w1 ⟨rfl, rfl⟩)
    | (refine wpList_store_mid rfl 49 _ _ rfl (w.heap.size + 1) 0 (elC ez).toArray (by rfl) (by rfl) (Sat.thereN (n := 4) HB.out rfl) einfo (all_oneCell_toArray (elOne _)) ?_; have hs := Sat.rowAll HB.out (elC ez) rfl; have HS := Lib.hid hs; clear hs; generalize World.setCells _ _ _ _ = w2 at *))
  refine bodyPost_ret (v := .tuple #[ev ez, vi 1]) (results_row rfl _ _ _ rfl rfl HS.out.rangeN Try.underlying49 rfl einfo) rfl ?_
  exact ⟨rfl, HS.out.dropL.dropL⟩
set_option maxRecDepth 100000 in
set_option maxHeartbeats 2000000 in
theorem nl_bind (hN : NoC v Z) (hS : Sat w0 (Z * F) w) (i g : Int) : Calls Try.prog 15 #[v, vr i g] w fun e w' => e = .returned (vi 1) ∧ Sat w0 (Z * F) w' := by
  have hB : Sat w0 (pc w.heap.size 30 [vi i, vu g] * (Z * F)) (w.alloc (.cells #[vi i, vu g] 30)) := hS.alloc (.cells #[vi i, vu g] 30)
  have b0 := hB.cell 0 rfl
  have b1 := hB.cell 1 rfl
  have HG := Lib.hid (nl_find hN hB.pull2 i g)
  clear hB hS hN
  go_enter Try.func15, Try.ntmps15
  go_wp2_with (go_at_call 38; (with_reducible refine HG.out.mono ?_); rintro e w1 ⟨rfl, hS1⟩; have hA : Sat w0 (pc w1.heap.size 49 (elC ez) * _) (w1.alloc (elO ez)) := hS1.alloc (elO ez); have H1 := Lib.hid hA; clear hS1 hA)
  go_ret
  exact ⟨rfl, (H1.out.dropL.cast (show _ = pc w.heap.size 30 [vi i, vu g] * (Z * F) by ac_rfl)).dropL⟩
set_option maxRecDepth 100000 in
set_option maxHeartbeats 2000000 in
theorem nl_unbind (hN : NoC v Z) (hS : Sat w0 (Z * F) w) (i g : Int) : Calls Try.prog 31 #[v, vr i g] w fun e w' => e = .returned (vi 1) ∧ Sat w0 (Z * F) w' := by
  have hB : Sat w0 (pc w.heap.size 30 [vi i, vu g] * (Z * F)) (w.alloc (.cells #[vi i, vu g] 30)) := hS.alloc (.cells #[vi i, vu g] 30)
  have b0 := hB.cell 0 rfl
  have b1 := hB.cell 1 rfl
  have HG := Lib.hid (nl_find hN hB.pull2 i g)
  clear hB hS hN
  go_enter Try.func31, Try.ntmps31
  go_wp2_with (go_at_call 38; (with_reducible refine HG.out.mono ?_); rintro e w1 ⟨rfl, hS1⟩; have hA : Sat w0 (pc w1.heap.size 49 (elC ez) * _) (w1.alloc (elO ez)) := hS1.alloc (elO ez); have H1 := Lib.hid hA; clear hS1 hA)
  go_ret
  exact ⟨rfl, (H1.out.dropL.cast (show _ = pc w.heap.size 30 [vi i, vu g] * (Z * F) by ac_rfl)).dropL⟩
set_option maxRecDepth 100000 in
set_option maxHeartbeats 2000000 in
theorem nl_drop (hN : NoC v Z) (hS : Sat w0 (Z * F) w) (i g : Int) : Calls Try.prog 22 #[v, vr i g] w fun e w' => e = .returned (vi 1) ∧ Sat w0 (Z * F) w' := by
  have hB : Sat w0 (pc w.heap.size 30 [vi i, vu g] * (Z * F)) (w.alloc (.cells #[vi i, vu g] 30)) := hS.alloc (.cells #[vi i, vu g] 30)
  have b0 := hB.cell 0 rfl
  have b1 := hB.cell 1 rfl
  have HG := Lib.hid (nl_find hN hB.pull2 i g)
  clear hB hS hN
  go_enter Try.func22, Try.ntmps22
  go_wp2_with (go_at_call 38; (with_reducible refine HG.out.mono ?_); rintro e w1 ⟨rfl, hS1⟩; have hA : Sat w0 (pc w1.heap.size 49 (elC ez) * _) (w1.alloc (elO ez)) := hS1.alloc (elO ez); have H1 := Lib.hid hA; clear hS1 hA)
  go_ret
  exact ⟨rfl, (H1.out.dropL.cast (show _ = pc w.heap.size 30 [vi i, vu g] * (Z * F) by ac_rfl)).dropL⟩
set_option maxRecDepth 100000 in
set_option maxHeartbeats 2000000 in
theorem nl_can (hN : NoC v Z) (hS : Sat w0 (Z * F) w) (i g now : Int) : Calls Try.prog 12 #[v, vr i g, vu now] w fun e w' => e = .returned (.bool false) ∧ Sat w0 (Z * F) w' := by
  have hB : Sat w0 (pc w.heap.size 30 [vi i, vu g] * (Z * F)) (w.alloc (.cells #[vi i, vu g] 30)) := hS.alloc (.cells #[vi i, vu g] 30)
  have b0 := hB.cell 0 rfl
  have b1 := hB.cell 1 rfl
  have HG := Lib.hid (nl_find hN hB.pull2 i g)
  clear hB hS hN
  go_enter Try.func12, Try.ntmps12
  go_wp2_with (go_at_call 38; (with_reducible refine HG.out.mono ?_); rintro e w1 ⟨rfl, hS1⟩; have hA : Sat w0 (pc w1.heap.size 49 (elC ez) * _) (w1.alloc (elO ez)) := hS1.alloc (elO ez); have H1 := Lib.hid hA; clear hS1 hA)
  go_ret
  exact ⟨rfl, (H1.out.dropL.cast (show _ = pc w.heap.size 30 [vi i, vu g] * (Z * F) by ac_rfl)).dropL⟩
set_option maxRecDepth 100000 in
set_option maxHeartbeats 2000000 in
theorem nl_charge (hN : NoC v Z) (hS : Sat w0 (Z * F) w) (i g now : Int) : Calls Try.prog 13 #[v, vr i g, vu now] w fun e w' => e = .returned (.bool false) ∧ Sat w0 (Z * F) w' := by
  have hB : Sat w0 (pc w.heap.size 30 [vi i, vu g] * (Z * F)) (w.alloc (.cells #[vi i, vu g] 30)) := hS.alloc (.cells #[vi i, vu g] 30)
  have b0 := hB.cell 0 rfl
  have b1 := hB.cell 1 rfl
  have HG := Lib.hid (nl_find hN hB.pull2 i g)
  clear hB hS hN
  go_enter Try.func13, Try.ntmps13
  go_wp2_with (go_at_call 38; (with_reducible refine HG.out.mono ?_); rintro e w1 ⟨rfl, hS1⟩; have hA : Sat w0 (pc w1.heap.size 49 (elC ez) * _) (w1.alloc (elO ez)) := hS1.alloc (elO ez); have H1 := Lib.hid hA; clear hS1 hA)
  go_ret
  exact ⟨rfl, (H1.out.dropL.cast (show _ = pc w.heap.size 30 [vi i, vu g] * (Z * F) by ac_rfl)).dropL⟩
set_option maxRecDepth 100000 in
set_option maxHeartbeats 2000000 in
theorem nl_next (hN : NoC v Z) (hS : Sat w0 (Z * F) w) (i g now : Int) : Calls Try.prog 30 #[v, vr i g, vu now] w fun e w' => e = .returned (.tuple #[vu 0, .bool false]) ∧ Sat w0 (Z * F) w' := by
  have hB : Sat w0 (pc w.heap.size 30 [vi i, vu g] * (Z * F)) (w.alloc (.cells #[vi i, vu g] 30)) := hS.alloc (.cells #[vi i, vu g] 30)
  have b0 := hB.cell 0 rfl
  have b1 := hB.cell 1 rfl
  have HG := Lib.hid (nl_find hN hB.pull2 i g)
  clear hB hS hN
  go_enter Try.func30, Try.ntmps30
  go_wp2_with (go_at_call 38; (with_reducible refine HG.out.mono ?_); rintro e w1 ⟨rfl, hS1⟩; have hA : Sat w0 (pc w1.heap.size 49 (elC ez) * _) (w1.alloc (elO ez)) := hS1.alloc (elO ez); have H1 := Lib.hid hA; clear hS1 hA)
  go_ret2
  exact ⟨rfl, (H1.out.dropL.cast (show _ = pc w.heap.size 30 [vi i, vu g] * (Z * F) by ac_rfl)).dropL⟩
end
end Go.Proofs.Ytknodagcmachiaa.Cn

namespace Go.Proofs.Ytknodagcmachiaa.Cn
open Go.RowKit Ac Fi
set_option linter.unusedVariables false
set_option linter.unusedSimpArgs false

section
variable {w0 w : World} {F Z : Hp} {v : Value}
set_option maxRecDepth 100000 in
set_option maxHeartbeats 2000000 in
theorem nl_make (hN : NoC v Z) (hS : Sat w0 (Z * F) w) (b p now : Int) : Calls Try.prog 11 #[v, vu b, vu p, vu now] w fun e w' => e = .returned (.tuple #[vr 0 0, vi 1]) ∧ Sat w0 (Z * F) w' := by
  have hB : Sat w0 (pc w.heap.size 30 [vi 0, vu 0] * (Z * F)) (w.alloc (.cells #[vi 0, vu 0] 30)) := hS.alloc (.cells #[vi 0, vu 0] 30)
  have HN := Lib.hid (hN _ _ _ hB.pull2)
  have HB := Lib.hid hB
  have b0 := hB.cell 0 rfl
  have b1 := hB.cell 1 rfl
  clear hB hS hN
  go_enter Try.func11, Try.ntmps11
  go_wp2_with (go_at_call 35; (with_reducible refine HN.out.mono ?_); rintro e w1 ⟨rfl, rfl⟩)
  refine bodyPost_ret (v := .tuple #[vr 0 0, vi 1]) (by rw [results_cell_tmp rfl]; go_simp) rfl ?_
  exact ⟨rfl, HB.out.dropL⟩
theorem nl_len (hN : NoC v Z) (hS : Sat w0 (Z * F) w) : Calls Try.prog 33 #[v] w fun e w' => e = .returned (vi 0) ∧ Sat w0 (Z * F) w' := by
  have HN := Lib.hid (hN _ _ _ hS)
  have HS := Lib.hid hS
  clear hS hN
  go_enter Try.func33, Try.ntmps33
  go_wp2_with (go_at_call 35; (with_reducible refine HN.out.mono ?_); rintro e w1 ⟨rfl, rfl⟩)
  go_ret
  exact ⟨rfl, HS.out⟩
theorem nl_copy (hN : NoC v Z) (hS : Sat w0 (Z * F) w) : Calls Try.prog 25 #[v] w fun e w' => e = .returned (.pointer none) ∧ Sat w0 (Z * F) w' := by
  have HN := Lib.hid (hN _ _ _ hS)
  have HS := Lib.hid hS
  clear hS hN
  go_enter Try.func25, Try.ntmps25
  go_wp2_with (go_at_call 35; (with_reducible refine HN.out.mono ?_); rintro e w1 ⟨rfl, rfl⟩)
  go_ret
  exact ⟨rfl, HS.out⟩
theorem nl_all (hN : NoC v Z) (hS : Sat w0 (Z * F) w) : Calls Try.prog 19 #[v] w fun e w' => e = .returned (.func (.func 51) #[] #[]) ∧ Sat w0 (Z * F) w' := by
  have HN := Lib.hid (hN _ _ _ hS)
  have HS := Lib.hid hS
  clear hS hN
  go_enter Try.func19, Try.ntmps19
  go_wp2_with (go_at_call 35; (with_reducible refine HN.out.mono ?_); rintro e w1 ⟨rfl, rfl⟩)
  go_ret
  exact ⟨rfl, HS.out⟩
set_option maxRecDepth 100000 in
set_option maxHeartbeats 2000000 in
theorem nl_split (hN : NoC v Z) (hS : Sat w0 (Z * F) w) (i g a now : Int) : Calls Try.prog 14 #[v, vr i g, vu a, vu now] w fun e w' => e = .returned (.tuple #[vr 0 0, vi 1]) ∧ Sat w0 (Z * F) w' := by
  have hB0 := (hS.alloc (.cells #[vi i, vu g] 30)).alloc (.cells #[vi 0, vu 0] 30)
  rw [size1] at hB0
  have hB : Sat w0 (pc (w.heap.size + 1) 30 [vi 0, vu 0] * (pc w.heap.size 30 [vi i, vu g] * (Z * F))) _ := hB0
  have b0 := hB.dropL.cell 0 rfl
  have b1 := hB.dropL.cell 1 rfl
  have b2 := hB.cell 0 rfl
  have b3 := hB.cell 1 rfl
  have HG := Lib.hid (nl_find hN hB.pull3 i g)
  clear hB hB0 hS hN
  go_enter Try.func14, Try.ntmps14
  go_wp2_with (go_at_call 38; (with_reducible refine HG.out.mono ?_); rintro e w1 ⟨rfl, hS1⟩; have hA : Sat w0 (pc w1.heap.size 49 (elC ez) * (Z * (pc (w.heap.size + 1) 30 [vi 0, vu 0] * (pc w.heap.size 30 [vi i, vu g] * F)))) (w1.alloc (elO ez)) := hS1.alloc (elO ez); have c2 := hA.pull3.cell 0 rfl; have c3 := hA.pull3.cell 1 rfl; have f0 := hA.pull3.free 0; have f1 := hA.pull3.free 1; have H1 := Lib.hid hA; clear hS1 hA)
  have h5 := (H1.out.pull3.store 0 (vi 0)).store 1 (vu 0)
  simp only [List.set_cons_zero, List.set_cons_succ] at h5
  have d0 := h5.cell 0 rfl
  have d1 := h5.cell 1 rfl
  refine bodyPost_ret (v := .tuple #[vr 0 0, vi 1]) (by rw [results_cell_tmp rfl]; go_simp) rfl ?_
  exact ⟨rfl, (h5.dropL.dropL.cast (show _ = pc w.heap.size 30 [vi i, vu g] * (Z * F) by ac_rfl)).dropL⟩
set_option maxRecDepth 100000 in
set_option maxHeartbeats 2000000 in
theorem nl_get (hN : NoC v Z) (hS : Sat w0 (Z * F) w) (i g : Int) : Calls Try.prog 29 #[v, vr i g] w fun e w' => ∃ ao lc, e = .returned (.tuple #[ev ⟨0, 0, ao, 0, lc, 0⟩, vi 1]) ∧ Sat w0 (Z * F) w' := by
  have hB0 := (hS.alloc (.cells #[vi i, vu g] 30)).alloc (elO ez)
  rw [size1] at hB0
  have hB : Sat w0 (pc (w.heap.size + 1) 49 (elC ez) * (pc w.heap.size 30 [vi i, vu g] * (Z * F))) _ := hB0
  have b0 := hB.dropL.cell 0 rfl
  have b1 := hB.dropL.cell 1 rfl
  have HG := Lib.hid (nl_find hN hB.pull3 i g)
  clear hB hB0 hS hN
  go_enter Try.func29, Try.ntmps29
  go_wp2_with (first
    | (go_at_call 38; (with_reducible refine HG.out.mono ?_); rintro e w1 ⟨rfl, hS1⟩; have hA : Sat w0 (pc w1.heap.size 49 (elC ez) * (Z * (pc (w.heap.size + 1) 49 (elC ez) * (pc w.heap.size 30 [vi i, vu g] * F)))) (w1.alloc (elO ez)) := hS1.alloc (elO ez); have x0 := hA.cell 0 rfl; have x1 := hA.cell 1 rfl; have x2 := hA.cell 2 rfl; have x3 := hA.cell 3 rfl; have HC := Lib.hid (cx_copied (l := []) (v0 := 0) (v1 := 0) (v3 := 0) (a2 := none) (n2 := 0) (c2 := 0) hA (fun w' _ => RdF.nil w') (by simp)); clear hS1 hA)
    | (go_at_call 54; (with_reducible refine HC.out.mono ?_); rintro e w2 ⟨ao, lc, rfl, hS2⟩; have H2 := Lib.hid (hS2.dropL.cast (show _ = pc (w.heap.size + 1) 49 (elC ez) * (pc w1.heap.size 49 (elC ez) * (pc w.heap.size 30 [vi i, vu g] * (Z * F))) by ac_rfl)); clear hS2)
    | (refine wpList_store_mid rfl 49 _ _ rfl (w.heap.size + 1) 0 (elC ⟨0, 0, ao, 0, lc, 0⟩).toArray (by rfl) (by rfl) (Sat.thereN (n := 4) H2.out rfl) einfo (all_oneCell_toArray (elOne _)) ?_; have hs := Sat.rowAll H2.out (elC ⟨0, 0, ao, 0, lc, 0⟩) rfl; have HS := Lib.hid hs; clear hs; generalize World.setCells _ _ _ _ = w3 at *))
  refine bodyPost_ret (v := .tuple #[ev ⟨0, 0, ao, 0, lc, 0⟩, vi 1]) (results_row rfl _ _ _ rfl rfl HS.out.rangeN Try.underlying49 rfl einfo) rfl ?_
  exact ⟨ao, lc, rfl, HS.out.dropL.dropL.dropL⟩
end
end Go.Proofs.Ytknodagcmachiaa.Cn

namespace Go.Proofs.Ytknodagcmachiaa.Cn
open Go.RowKit Ac Fi
set_option linter.unusedVariables false
set_option linter.unusedSimpArgs false

section
variable {w0 w : World} {F Z : Hp} {v : Value}
set_option maxRecDepth 100000 in
set_option maxHeartbeats 2000000 in
theorem nl_donate (hN : NoC v Z) (hS : Sat w0 (Z * F) w) (i g j t a now : Int) : Calls Try.prog 32 #[v, vr i g, vr j t, vu a, vu now] w fun e w' => e = .returned (vi 1) ∧ Sat w0 (Z * F) w' := by
  have hB0 := (((hS.alloc (.cells #[vi i, vu g] 30)).alloc (.cells #[vi j, vu t] 30)).alloc (.cells #[vu a] 22)).alloc (.cells #[vu now] 22)
  simp only [size1] at hB0
  have hB1 : Sat w0 (pc (w.heap.size + 1 + 1 + 1) 22 [vu now] * (pc (w.heap.size + 1 + 1) 22 [vu a] * (pc (w.heap.size + 1) 30 [vi j, vu t] * (pc w.heap.size 30 [vi i, vu g] * ((Z * F)))))) _ := hB0
  have b0 := hB1.dropL.dropL.dropL.cell 0 rfl
  have b1 := hB1.dropL.dropL.dropL.cell 1 rfl
  have HG1 := Lib.hid (nl_find hN (hB1.cast (show _ = Z * (pc (w.heap.size + 1 + 1 + 1) 22 [vu now] * (pc (w.heap.size + 1 + 1) 22 [vu a] * (pc (w.heap.size + 1) 30 [vi j, vu t] * (pc w.heap.size 30 [vi i, vu g] * (F))))) by ac_rfl)) i g)
  have HG2 := Lib.hid (fun (w : World) (G : Hp) (h' : Sat w0 (Z * G) w) => nl_find hN h' j t)
  have HRF : Hid (∀ (w1 w2 w' : World), Sat w0 (pc (w2.heap.size + 1 + 1) 101 [(.func (.func 65) #[] #[vp (w1.heap.size + 1)]), (.func (.func 66) #[] #[vp (w2.heap.size + 1)]), (.func (.func 67) #[] #[vp w.heap.size, vp (w.heap.size + 1)]), (.func (.func 69) #[] #[vp w1.heap.size, vp (w.heap.size + 1 + 1), vp (w.heap.size + 1 + 1 + 1)]), (.func (.func 70) #[] #[vp w2.heap.size, vp (w.heap.size + 1 + 1)])] * (pc (w2.heap.size + 1) 26 [vi 1] * (pc w2.heap.size 49 (elC ez) * (pc (w1.heap.size + 1) 26 [vi 1] * (pc w1.heap.size 49 (elC ez) * (pc (w.heap.size + 1 + 1 + 1) 22 [vu now] * (pc (w.heap.size + 1 + 1) 22 [vu a] * (pc (w.heap.size + 1) 30 [vi j, vu t] * (pc w.heap.size 30 [vi i, vu g] * ((Z * F))))))))))) w' → Calls Try.prog 64 #[.slice (some ⟨w2.heap.size + 1 + 1, 0, none⟩) 5 5] w' fun e w'' => e = .returned (vi 1) ∧ Sat w0 (pc (w2.heap.size + 1 + 1) 101 [(.func (.func 65) #[] #[vp (w1.heap.size + 1)]), (.func (.func 66) #[] #[vp (w2.heap.size + 1)]), (.func (.func 67) #[] #[vp w.heap.size, vp (w.heap.size + 1)]), (.func (.func 69) #[] #[vp w1.heap.size, vp (w.heap.size + 1 + 1), vp (w.heap.size + 1 + 1 + 1)]), (.func (.func 70) #[] #[vp w2.heap.size, vp (w.heap.size + 1 + 1)])] * (pc (w2.heap.size + 1) 26 [vi 1] * (pc w2.heap.size 49 (elC ez) * (pc (w1.heap.size + 1) 26 [vi 1] * (pc w1.heap.size 49 (elC ez) * (pc (w.heap.size + 1 + 1 + 1) 22 [vu now] * (pc (w.heap.size + 1 + 1) 22 [vu a] * (pc (w.heap.size + 1) 30 [vi j, vu t] * (pc w.heap.size 30 [vi i, vu g] * ((Z * F))))))))))) w'') := Lib.hid (fun w1 w2 w' h' => by
    refine cx_refused [(65, [vp (w1.heap.size + 1)]), (66, [vp (w2.heap.size + 1)]), (67, [vp w.heap.size, vp (w.heap.size + 1)]), (69, [vp w1.heap.size, vp (w.heap.size + 1 + 1), vp (w.heap.size + 1 + 1 + 1)]), (70, [vp w2.heap.size, vp (w.heap.size + 1 + 1)])] [1, 0, 0, 0, 0] rfl (by simp) (w2.heap.size + 1 + 1) 5 (pc (w2.heap.size + 1 + 1) 101 [(.func (.func 65) #[] #[vp (w1.heap.size + 1)]), (.func (.func 66) #[] #[vp (w2.heap.size + 1)]), (.func (.func 67) #[] #[vp w.heap.size, vp (w.heap.size + 1)]), (.func (.func 69) #[] #[vp w1.heap.size, vp (w.heap.size + 1 + 1), vp (w.heap.size + 1 + 1 + 1)]), (.func (.func 70) #[] #[vp w2.heap.size, vp (w.heap.size + 1 + 1)])] * (pc (w2.heap.size + 1) 26 [vi 1] * (pc w2.heap.size 49 (elC ez) * (pc (w1.heap.size + 1) 26 [vi 1] * (pc w1.heap.size 49 (elC ez) * (pc (w.heap.size + 1 + 1 + 1) 22 [vu now] * (pc (w.heap.size + 1 + 1) 22 [vu a] * (pc (w.heap.size + 1) 30 [vi j, vu t] * (pc w.heap.size 30 [vi i, vu g] * ((Z * F))))))))))) h' ?_ ?_ ?_
    · intro f hf args w3
      simp only [List.mem_cons, List.not_mem_nil, or_false] at hf
      rcases hf with rfl | rfl | rfl | rfl | rfl
      · exact enters_of Try.func65 (by kernel_rfl) rfl args w3
      · exact enters_of Try.func66 (by kernel_rfl) rfl args w3
      · exact enters_of Try.func67 (by kernel_rfl) rfl args w3
      · exact enters_of Try.func69 (by kernel_rfl) rfl args w3
      · exact enters_of Try.func70 (by kernel_rfl) rfl args w3
    · intro w3 h3
      exact Rd.of_pc h3 rfl
    · intro k f e hf he hj w3 h3
      rcases k with _ | k
      · cases hf
        cases he
        exact (donate1_ (h3.cast (show _ = pc (w1.heap.size + 1) 26 [vi 1] * (pc (w2.heap.size + 1 + 1) 101 [(.func (.func 65) #[] #[vp (w1.heap.size + 1)]), (.func (.func 66) #[] #[vp (w2.heap.size + 1)]), (.func (.func 67) #[] #[vp w.heap.size, vp (w.heap.size + 1)]), (.func (.func 69) #[] #[vp w1.heap.size, vp (w.heap.size + 1 + 1), vp (w.heap.size + 1 + 1 + 1)]), (.func (.func 70) #[] #[vp w2.heap.size, vp (w.heap.size + 1 + 1)])] * (pc (w2.heap.size + 1) 26 [vi 1] * (pc w2.heap.size 49 (elC ez) * (pc w1.heap.size 49 (elC ez) * (pc (w.heap.size + 1 + 1 + 1) 22 [vu now] * (pc (w.heap.size + 1 + 1) 22 [vu a] * (pc (w.heap.size + 1) 30 [vi j, vu t] * (pc w.heap.size 30 [vi i, vu g] * ((Z * F)))))))))) by ac_rfl))).mono fun e w4 ⟨h4, h5⟩ => ⟨h4, h5.cast (by ac_rfl)⟩
      · have := hj 0 (by omega)
        simp at this)
  clear hB0 hB1 hS hN
  go_enter Try.func32, Try.ntmps32
  go_wp2_with (first
    | (go_at_call 38; (with_reducible refine (HG2.out _ _ (H1.out.cast (show _ = Z * (pc (w1.heap.size + 1) 26 [vi 1] * (pc w1.heap.size 49 (elC ez) * (pc (w.heap.size + 1 + 1 + 1) 22 [vu now] * (pc (w.heap.size + 1 + 1) 22 [vu a] * (pc (w.heap.size + 1) 30 [vi j, vu t] * (pc w.heap.size 30 [vi i, vu g] * (F))))))) by ac_rfl))).mono ?_); rintro e w2 ⟨rfl, hS2⟩; have hA0 := (hS2.alloc (elO ez)).alloc (.cells #[vi 1] 26); rw [size1] at hA0; have hA : Sat w0 (pc (w2.heap.size + 1) 26 [vi 1] * (pc w2.heap.size 49 (elC ez) * (Z * (pc (w1.heap.size + 1) 26 [vi 1] * (pc w1.heap.size 49 (elC ez) * (pc (w.heap.size + 1 + 1 + 1) 22 [vu now] * (pc (w.heap.size + 1 + 1) 22 [vu a] * (pc (w.heap.size + 1) 30 [vi j, vu t] * (pc w.heap.size 30 [vi i, vu g] * (F)))))))))) _ := hA0; have hC0 := hA.alloc (.cells #[(.func (.func 65) #[] #[vp (w1.heap.size + 1)]), (.func (.func 66) #[] #[vp (w2.heap.size + 1)]), (.func (.func 67) #[] #[vp w.heap.size, vp (w.heap.size + 1)]), (.func (.func 69) #[] #[vp w1.heap.size, vp (w.heap.size + 1 + 1), vp (w.heap.size + 1 + 1 + 1)]), (.func (.func 70) #[] #[vp w2.heap.size, vp (w.heap.size + 1 + 1)])] 101); rw [World.size_alloc, World.size_alloc] at hC0; have H2 := Lib.hid ((show Sat w0 (pc (w2.heap.size + 1 + 1) 101 [(.func (.func 65) #[] #[vp (w1.heap.size + 1)]), (.func (.func 66) #[] #[vp (w2.heap.size + 1)]), (.func (.func 67) #[] #[vp w.heap.size, vp (w.heap.size + 1)]), (.func (.func 69) #[] #[vp w1.heap.size, vp (w.heap.size + 1 + 1), vp (w.heap.size + 1 + 1 + 1)]), (.func (.func 70) #[] #[vp w2.heap.size, vp (w.heap.size + 1 + 1)])] * _) _ from hC0).cast (show _ = pc (w2.heap.size + 1 + 1) 101 [(.func (.func 65) #[] #[vp (w1.heap.size + 1)]), (.func (.func 66) #[] #[vp (w2.heap.size + 1)]), (.func (.func 67) #[] #[vp w.heap.size, vp (w.heap.size + 1)]), (.func (.func 69) #[] #[vp w1.heap.size, vp (w.heap.size + 1 + 1), vp (w.heap.size + 1 + 1 + 1)]), (.func (.func 70) #[] #[vp w2.heap.size, vp (w.heap.size + 1 + 1)])] * (pc (w2.heap.size + 1) 26 [vi 1] * (pc w2.heap.size 49 (elC ez) * (pc (w1.heap.size + 1) 26 [vi 1] * (pc w1.heap.size 49 (elC ez) * (pc (w.heap.size + 1 + 1 + 1) 22 [vu now] * (pc (w.heap.size + 1 + 1) 22 [vu a] * (pc (w.heap.size + 1) 30 [vi j, vu t] * (pc w.heap.size 30 [vi i, vu g] * ((Z * F)))))))))) by ac_rfl)); clear hA hA0 hC0 hS2)
    | (go_at_call 38; (with_reducible refine HG1.out.mono ?_); rintro e w1 ⟨rfl, hS1⟩; have hA0 := (hS1.alloc (elO ez)).alloc (.cells #[vi 1] 26); rw [size1] at hA0; have hA : Sat w0 (pc (w1.heap.size + 1) 26 [vi 1] * (pc w1.heap.size 49 (elC ez) * (Z * (pc (w.heap.size + 1 + 1 + 1) 22 [vu now] * (pc (w.heap.size + 1 + 1) 22 [vu a] * (pc (w.heap.size + 1) 30 [vi j, vu t] * (pc w.heap.size 30 [vi i, vu g] * (F)))))))) _ := hA0; have p0 := hA.dropL.dropL.dropL.dropL.dropL.cell 0 rfl; have p1 := hA.dropL.dropL.dropL.dropL.dropL.cell 1 rfl; have H1 := Lib.hid hA; clear hA hA0 hS1)
    | (go_at_call 64; (with_reducible refine (HRF.out w1 w2 _ H2.out).mono ?_); rintro e w3 ⟨rfl, hS3⟩; have h4 := hS3.cast (show _ = pc (w1.heap.size + 1) 26 [vi 1] * (pc (w2.heap.size + 1 + 1) 101 [(.func (.func 65) #[] #[vp (w1.heap.size + 1)]), (.func (.func 66) #[] #[vp (w2.heap.size + 1)]), (.func (.func 67) #[] #[vp w.heap.size, vp (w.heap.size + 1)]), (.func (.func 69) #[] #[vp w1.heap.size, vp (w.heap.size + 1 + 1), vp (w.heap.size + 1 + 1 + 1)]), (.func (.func 70) #[] #[vp w2.heap.size, vp (w.heap.size + 1 + 1)])] * (pc (w2.heap.size + 1) 26 [vi 1] * (pc w2.heap.size 49 (elC ez) * (pc w1.heap.size 49 (elC ez) * (pc (w.heap.size + 1 + 1 + 1) 22 [vu now] * (pc (w.heap.size + 1 + 1) 22 [vu a] * (pc (w.heap.size + 1) 30 [vi j, vu t] * (pc w.heap.size 30 [vi i, vu g] * ((Z * F)))))))))) by ac_rfl); have fe := h4.free 0; have hce := h4.cell 0 rfl; have h5 := h4.store 0 (vi 1); have hce2 := h5.cell 0 rfl; have H5 := Lib.hid h5.dropL; clear hS3 h4 h5))
  go_ret
  exact ⟨rfl, H5.out.dropL.dropL.dropL.dropL.dropL.dropL.dropL.dropL⟩
end
end Go.Proofs.Ytknodagcmachiaa.Cn

namespace Go.Proofs.Ytknodagcmachiaa
open Go.RowKit
set_option linter.unusedVariables false

/-- The blocks for the rounds' deferred calls, none of which there were. -/
def mkH : List Nat → Hp
  | [] => emp
  | D :: ds => pt D dmark * mkH ds
def mkD (ds : List Nat) : List Deferred := ds.map fun D => { target := .collected D, args := #[] }
theorem leaves_marks {G : Fence} {n : Nat} {P : Program} {fn : Func} {tmps : Array Value} {R : Ending → World → Prop} {w0 : World} {F : Hp} : ∀ (ds : List Nat) (w : World), Sat w0 (mkH ds * F) w → (∀ w', Sat w0 F w' → LeavesInM G n P fn tmps R [] .returning w') → LeavesInM G n P fn tmps R (mkD ds) .returning w
  | [], w, h, k => k w (h.cast (emp_sep F))
  | D :: ds, w, h, k => by
    have h1 : Sat w0 (pt D dmark * (mkH ds * F)) w := h.cast (sep_assoc _ _ _)
    refine ⟨by simp, .inl ⟨D, _, rfl, run_takeDeferred h1.blk.1, ?_⟩⟩
    exact leaves_marks ds _ (h1.putObj (o' := .deferred none)).dropL k
theorem wp_loop_k {P : Program} {Q : Exit → Act → World → Prop} {a : Act} {w : World} {c : Code} (I : Act → World → Prop) (m : Act → World → Nat) (h0 : I a w)
    (round : ∀ a w, I a w → ∀ K : Act → World → Prop, (∀ a' w', I a' w' ∧ m a' w' < m a w → K a' w') → c.wp P (Exit.then K Q) a w) : (Code.loop c).wp P Q a w :=
  wp_loop I m h0 fun a w h => round a w h _ fun _ _ h => h
theorem wp_loop_gk {P : Program} {Q : Exit → Act → World → Prop} {a : Act} {w : World} {c : Code} (I : Nat → Act → World → Prop) (n0 : Nat) (h0 : I n0 a w)
    (round : ∀ n a w, I n a w → ∀ K : Act → World → Prop, (∀ a' w', (∃ n', n' < n ∧ I n' a' w') → K a' w') → c.wp P (Exit.then K Q) a w) : (Code.loop c).wp P Q a w :=
  wp_loop_ghost I n0 h0 fun n a w h => round n a w h _ fun _ _ h => h
end Go.Proofs.Ytknodagcmachiaa

namespace Go.Proofs.Ytknodagcmachiaa.Cn
open Go.RowKit Go.Shelf Ac Fi
attribute [local go_sem] Oper.semAt_some
set_option linter.unusedVariables false
set_option linter.unusedSimpArgs false

/-- What none says of v, while Z holds. -/
def NoB (v : Value) (Z : Hp) (b : Bool) : Prop := ∀ (w0 w : World) (F : Hp), Sat w0 (Z * F) w → Calls Try.prog 35 #[v] w fun e w' => e = .returned (.bool b) ∧ w = w'
theorem NoC.b {v : Value} {Z : Hp} (h : NoC v Z) : NoB v Z true := h
theorem noB_cx (L0 : Blks) (h : Nat) (most : Int) (cs : List CP) (free : List Nat) : NoB (vp h) (cxQ L0 h most cs free) false := fun w0 w F hS => by
  obtain ⟨p, ps, L, hL, hp, hs⟩ := cx_open hS
  exact cx_none hs
section
variable {w0 w : World} {F Z Z2 : Hp}
set_option maxRecDepth 100000 in
set_option maxHeartbeats 4000000 in
theorem nl_same_tt {v v2 : Option Addr} (hN : NoB (.pointer v) Z true) (hN2 : NoB (.pointer v2) Z2 true) (hS : Sat w0 (Z * (Z2 * F)) w) : Calls Try.prog 27 #[.pointer v, .pointer v2] w fun e w' => e = .returned (.bool true) ∧ Sat w0 (Z * (Z2 * F)) w' := by
  have hB0 := (hS.alloc (.cells #[.pointer v2] 25)).alloc (.cells #[.bool false] 4)
  rw [World.size_alloc] at hB0
  have hB : Sat w0 (pc (w.heap.size + 1) 4 [.bool false] * (pc w.heap.size 25 [.pointer v2] * (Z * (Z2 * F)))) _ := hB0
  have z0 := hB.pull2.cell 0 rfl
  have r0 := hB.cell 0 rfl
  have rf := hB.free 0
  have HN1 := Lib.hid (hN _ _ _ hB.pull3)
  have HN2 := Lib.hid (hN2 _ _ _ (hB.cast (show _ = Z2 * (pc (w.heap.size + 1) 4 [.bool false] * (pc w.heap.size 25 [.pointer v2] * (Z * F))) by ac_rfl)))
  have HS := Lib.hid hS
  clear hB hB0 hS hN hN2
  go_enter Try.func27, Try.ntmps27
  go_wp2_with (first
    | (go_at_call 35; (with_reducible refine HN1.out.mono ?_); rintro e w1 ⟨rfl, rfl⟩)
    | (go_at_call 35; (with_reducible refine HN2.out.mono ?_); rintro e w1 ⟨rfl, rfl⟩))
  refine bodyPost_ret (v := .bool true) (by simp [results, Try.f27, go_sem]) rfl ?_
  exact ⟨rfl, (HS.out.alloc' _).alloc' _⟩
set_option maxRecDepth 100000 in
set_option maxHeartbeats 4000000 in
theorem nl_same_tf {v v2 : Option Addr} (hN : NoB (.pointer v) Z true) (hN2 : NoB (.pointer v2) Z2 false) (hS : Sat w0 (Z * (Z2 * F)) w) : Calls Try.prog 27 #[.pointer v, .pointer v2] w fun e w' => e = .returned (.bool false) ∧ Sat w0 (Z * (Z2 * F)) w' := by
  have hB0 := (hS.alloc (.cells #[.pointer v2] 25)).alloc (.cells #[.bool false] 4)
  rw [World.size_alloc] at hB0
  have hB : Sat w0 (pc (w.heap.size + 1) 4 [.bool false] * (pc w.heap.size 25 [.pointer v2] * (Z * (Z2 * F)))) _ := hB0
  have z0 := hB.pull2.cell 0 rfl
  have r0 := hB.cell 0 rfl
  have rf := hB.free 0
  have HN1 := Lib.hid (hN _ _ _ hB.pull3)
  have HN2 := Lib.hid (hN2 _ _ _ (hB.cast (show _ = Z2 * (pc (w.heap.size + 1) 4 [.bool false] * (pc w.heap.size 25 [.pointer v2] * (Z * F))) by ac_rfl)))
  have HS := Lib.hid hS
  clear hB hB0 hS hN hN2
  go_enter Try.func27, Try.ntmps27
  go_wp2_with (first
    | (go_at_call 35; (with_reducible refine HN1.out.mono ?_); rintro e w1 ⟨rfl, rfl⟩)
    | (go_at_call 35; (with_reducible refine HN2.out.mono ?_); rintro e w1 ⟨rfl, rfl⟩))
  refine bodyPost_ret (v := .bool false) (by simp [results, Try.f27, go_sem]) rfl ?_
  exact ⟨rfl, (HS.out.alloc' _).alloc' _⟩
set_option maxRecDepth 100000 in
set_option maxHeartbeats 4000000 in
theorem nl_same_ft {v v2 : Option Addr} (hN : NoB (.pointer v) Z false) (hN2 : NoB (.pointer v2) Z2 true) (hS : Sat w0 (Z * (Z2 * F)) w) : Calls Try.prog 27 #[.pointer v, .pointer v2] w fun e w' => e = .returned (.bool false) ∧ Sat w0 (Z * (Z2 * F)) w' := by
  have hB0 := (hS.alloc (.cells #[.pointer v2] 25)).alloc (.cells #[.bool false] 4)
  rw [World.size_alloc] at hB0
  have hB : Sat w0 (pc (w.heap.size + 1) 4 [.bool false] * (pc w.heap.size 25 [.pointer v2] * (Z * (Z2 * F)))) _ := hB0
  have z0 := hB.pull2.cell 0 rfl
  have r0 := hB.cell 0 rfl
  have rf := hB.free 0
  have HN1 := Lib.hid (hN _ _ _ hB.pull3)
  have HN2 := Lib.hid (hN2 _ _ _ (hB.cast (show _ = Z2 * (pc (w.heap.size + 1) 4 [.bool false] * (pc w.heap.size 25 [.pointer v2] * (Z * F))) by ac_rfl)))
  have HS := Lib.hid hS
  clear hB hB0 hS hN hN2
  go_enter Try.func27, Try.ntmps27
  go_wp2_with (first
    | (go_at_call 35; (with_reducible refine HN1.out.mono ?_); rintro e w1 ⟨rfl, rfl⟩)
    | (go_at_call 35; (with_reducible refine HN2.out.mono ?_); rintro e w1 ⟨rfl, rfl⟩))
  refine bodyPost_ret (v := .bool false) (by simp [results, Try.f27, go_sem]) rfl ?_
  exact ⟨rfl, (HS.out.alloc' _).alloc' _⟩
set_option maxRecDepth 100000 in
set_option maxHeartbeats 4000000 in
theorem none_all1 {l : Nat} {w : World} (h : Sat w0 F w) : CallsIn Fence.wide 8 Try.prog 51 #[.func (.yield l) #[] #[]] w fun e W' => (∃ v, e = .returned v) ∧ Sat w0 F W' := by
  have H := Lib.hid h
  clear h
  refine callsIn_of_wp Try.func51 rfl trivial ?_ rfl
  simp only [Try.ntmps51, List.size_toArray, List.length_cons, List.length_nil, Nat.reduceAdd, Nat.reduceSub, Array.replicate_succ, Array.replicate_zero, List.push_toArray, List.append_toArray, List.nil_append, List.cons_append]
  gi_wp2
  go_end0
  exact ⟨⟨_, rfl⟩, H.out⟩
end
end Go.Proofs.Ytknodagcmachiaa.Cn

namespace Go.Proofs.Ytknodagcmachiaa.Cn
open Go.RowKit Ac Fi
set_option linter.unusedVariables false
set_option linter.unusedSimpArgs false

set_option maxRecDepth 100000 in
set_option maxHeartbeats 8000000 in
theorem nil8_row (w0 : World) : Calls Try.prog 8 #[] w0 (QP8 w0) := by
  have hB0 := ((Sat.start w0).alloc (.cells #[.bool false] 4)).alloc (.cells #[.pointer none, vi 0] 70)
  rw [World.size_alloc] at hB0
  have hB : Sat w0 (pc w0.heap.size 4 [.bool false] * (pc (w0.heap.size + 1) 70 [.pointer none, vi 0] * emp)) _ := (show Sat w0 (pc (w0.heap.size + 1) 70 [.pointer none, vi 0] * (pc w0.heap.size 4 [.bool false] * emp)) _ from hB0).pull2
  have HB := Lib.hid hB
  clear hB hB0
  generalize hb1 : w0.heap.size + 1 = bz at *
  generalize hb2 : w0.heap.size = bR at *
  generalize hwb : (w0.alloc (.cells #[.bool false] 4)).alloc (.cells #[.pointer none, vi 0] 70) = wb at *
  have HB1 := Lib.hid hb1
  have HB2 := Lib.hid hb2
  have HWB := Lib.hid hwb
  clear hb1 hb2 hwb
  have HMake : Hid (∀ (w' : World) (G : Hp), Sat w0 (pc bR 4 [.bool false] * (pc bz 70 [.pointer none, vi 0] * G)) w' → Calls Try.prog 11 #[.pointer none, vu 1, vu 1, vu 0] w' fun e w2 => e = .returned (.tuple #[vr 0 0, vi 1]) ∧ Sat w0 (pc bR 4 [.bool false] * (pc bz 70 [.pointer none, vi 0] * G)) w2) := Lib.hid fun w' G h' => (nl_make noC_nil (h'.cast (emp_sep _).symm) 1 1 0).mono fun e w2 ⟨he, h2⟩ => ⟨he, h2.cast (emp_sep _)⟩
  have HSplit : Hid (∀ (w' : World) (G : Hp), Sat w0 (pc bR 4 [.bool false] * (pc bz 70 [.pointer none, vi 0] * G)) w' → Calls Try.prog 14 #[.pointer none, vr 0 0, vu 1, vu 0] w' fun e w2 => e = .returned (.tuple #[vr 0 0, vi 1]) ∧ Sat w0 (pc bR 4 [.bool false] * (pc bz 70 [.pointer none, vi 0] * G)) w2) := Lib.hid fun w' G h' => (nl_split noC_nil (h'.cast (emp_sep _).symm) 0 0 1 0).mono fun e w2 ⟨he, h2⟩ => ⟨he, h2.cast (emp_sep _)⟩
  have HNext : Hid (∀ (w' : World) (G : Hp), Sat w0 (pc bR 4 [.bool false] * (pc bz 70 [.pointer none, vi 0] * G)) w' → Calls Try.prog 30 #[vp bz, vr 0 0, vu 0] w' fun e w2 => e = .returned (.tuple #[vu 0, .bool false]) ∧ Sat w0 (pc bR 4 [.bool false] * (pc bz 70 [.pointer none, vi 0] * G)) w2) := Lib.hid fun w' G h' => (nl_next (noC_zero bz 0) (h'.cast (show _ = pc bz 70 [.pointer none, vi 0] * (pc bR 4 [.bool false] * G) by ac_rfl)) 0 0 0).mono fun e w2 ⟨he, h2⟩ => ⟨he, h2.cast (by ac_rfl)⟩
  have HAll0 : Hid (∀ (w' : World) (G : Hp), Sat w0 (pc bR 4 [.bool false] * (pc bz 70 [.pointer none, vi 0] * G)) w' → Calls Try.prog 19 #[.pointer none] w' fun e w2 => e = .returned (.func (.func 51) #[] #[]) ∧ Sat w0 (pc bR 4 [.bool false] * (pc bz 70 [.pointer none, vi 0] * G)) w2) := Lib.hid fun w' G h' => (nl_all noC_nil (h'.cast (emp_sep _).symm)).mono fun e w2 ⟨he, h2⟩ => ⟨he, h2.cast (emp_sep _)⟩
  have HAll1 : Hid (∀ (w' : World) (G : Hp), Sat w0 (pc bR 4 [.bool false] * (pc bz 70 [.pointer none, vi 0] * G)) w' → Calls Try.prog 19 #[vp bz] w' fun e w2 => e = .returned (.func (.func 51) #[] #[]) ∧ Sat w0 (pc bR 4 [.bool false] * (pc bz 70 [.pointer none, vi 0] * G)) w2) := Lib.hid fun w' G h' => (nl_all (noC_zero bz 0) (h'.cast (show _ = pc bz 70 [.pointer none, vi 0] * (pc bR 4 [.bool false] * G) by ac_rfl))).mono fun e w2 ⟨he, h2⟩ => ⟨he, h2.cast (by ac_rfl)⟩
  have HBind : Hid (∀ (w' : World) (G : Hp), Sat w0 (pc bR 4 [.bool false] * (pc bz 70 [.pointer none, vi 0] * G)) w' → Calls Try.prog 15 #[.pointer none, vr 0 0] w' fun e w2 => e = .returned (vi 1) ∧ Sat w0 (pc bR 4 [.bool false] * (pc bz 70 [.pointer none, vi 0] * G)) w2) := Lib.hid fun w' G h' => (nl_bind noC_nil (h'.cast (emp_sep _).symm) 0 0).mono fun e w2 ⟨he, h2⟩ => ⟨he, h2.cast (emp_sep _)⟩
  have HUnb : Hid (∀ (w' : World) (G : Hp), Sat w0 (pc bR 4 [.bool false] * (pc bz 70 [.pointer none, vi 0] * G)) w' → Calls Try.prog 31 #[vp bz, vr 0 0] w' fun e w2 => e = .returned (vi 1) ∧ Sat w0 (pc bR 4 [.bool false] * (pc bz 70 [.pointer none, vi 0] * G)) w2) := Lib.hid fun w' G h' => (nl_unbind (noC_zero bz 0) (h'.cast (show _ = pc bz 70 [.pointer none, vi 0] * (pc bR 4 [.bool false] * G) by ac_rfl)) 0 0).mono fun e w2 ⟨he, h2⟩ => ⟨he, h2.cast (by ac_rfl)⟩
  have HDon : Hid (∀ (w' : World) (G : Hp), Sat w0 (pc bR 4 [.bool false] * (pc bz 70 [.pointer none, vi 0] * G)) w' → Calls Try.prog 32 #[.pointer none, vr 0 0, vr 0 0, vu 1, vu 0] w' fun e w2 => e = .returned (vi 1) ∧ Sat w0 (pc bR 4 [.bool false] * (pc bz 70 [.pointer none, vi 0] * G)) w2) := Lib.hid fun w' G h' => (nl_donate noC_nil (h'.cast (emp_sep _).symm) 0 0 0 0 1 0).mono fun e w2 ⟨he, h2⟩ => ⟨he, h2.cast (emp_sep _)⟩
  have HDrop : Hid (∀ (w' : World) (G : Hp), Sat w0 (pc bR 4 [.bool false] * (pc bz 70 [.pointer none, vi 0] * G)) w' → Calls Try.prog 22 #[vp bz, vr 0 0] w' fun e w2 => e = .returned (vi 1) ∧ Sat w0 (pc bR 4 [.bool false] * (pc bz 70 [.pointer none, vi 0] * G)) w2) := Lib.hid fun w' G h' => (nl_drop (noC_zero bz 0) (h'.cast (show _ = pc bz 70 [.pointer none, vi 0] * (pc bR 4 [.bool false] * G) by ac_rfl)) 0 0).mono fun e w2 ⟨he, h2⟩ => ⟨he, h2.cast (by ac_rfl)⟩
  have HCan : Hid (∀ (w' : World) (G : Hp), Sat w0 (pc bR 4 [.bool false] * (pc bz 70 [.pointer none, vi 0] * G)) w' → Calls Try.prog 12 #[.pointer none, vr 0 0, vu 0] w' fun e w2 => e = .returned (.bool false) ∧ Sat w0 (pc bR 4 [.bool false] * (pc bz 70 [.pointer none, vi 0] * G)) w2) := Lib.hid fun w' G h' => (nl_can noC_nil (h'.cast (emp_sep _).symm) 0 0 0).mono fun e w2 ⟨he, h2⟩ => ⟨he, h2.cast (emp_sep _)⟩
  have HChg : Hid (∀ (w' : World) (G : Hp), Sat w0 (pc bR 4 [.bool false] * (pc bz 70 [.pointer none, vi 0] * G)) w' → Calls Try.prog 13 #[vp bz, vr 0 0, vu 0] w' fun e w2 => e = .returned (.bool false) ∧ Sat w0 (pc bR 4 [.bool false] * (pc bz 70 [.pointer none, vi 0] * G)) w2) := Lib.hid fun w' G h' => (nl_charge (noC_zero bz 0) (h'.cast (show _ = pc bz 70 [.pointer none, vi 0] * (pc bR 4 [.bool false] * G) by ac_rfl)) 0 0 0).mono fun e w2 ⟨he, h2⟩ => ⟨he, h2.cast (by ac_rfl)⟩
  have HLen0 : Hid (∀ (w' : World) (G : Hp), Sat w0 (pc bR 4 [.bool false] * (pc bz 70 [.pointer none, vi 0] * G)) w' → Calls Try.prog 33 #[.pointer none] w' fun e w2 => e = .returned (vi 0) ∧ Sat w0 (pc bR 4 [.bool false] * (pc bz 70 [.pointer none, vi 0] * G)) w2) := Lib.hid fun w' G h' => (nl_len noC_nil (h'.cast (emp_sep _).symm)).mono fun e w2 ⟨he, h2⟩ => ⟨he, h2.cast (emp_sep _)⟩
  have HLen1 : Hid (∀ (w' : World) (G : Hp), Sat w0 (pc bR 4 [.bool false] * (pc bz 70 [.pointer none, vi 0] * G)) w' → Calls Try.prog 33 #[vp bz] w' fun e w2 => e = .returned (vi 0) ∧ Sat w0 (pc bR 4 [.bool false] * (pc bz 70 [.pointer none, vi 0] * G)) w2) := Lib.hid fun w' G h' => (nl_len (noC_zero bz 0) (h'.cast (show _ = pc bz 70 [.pointer none, vi 0] * (pc bR 4 [.bool false] * G) by ac_rfl))).mono fun e w2 ⟨he, h2⟩ => ⟨he, h2.cast (by ac_rfl)⟩
  have HCp0 : Hid (∀ (w' : World) (G : Hp), Sat w0 (pc bR 4 [.bool false] * (pc bz 70 [.pointer none, vi 0] * G)) w' → Calls Try.prog 25 #[.pointer none] w' fun e w2 => e = .returned (.pointer none) ∧ Sat w0 (pc bR 4 [.bool false] * (pc bz 70 [.pointer none, vi 0] * G)) w2) := Lib.hid fun w' G h' => (nl_copy noC_nil (h'.cast (emp_sep _).symm)).mono fun e w2 ⟨he, h2⟩ => ⟨he, h2.cast (emp_sep _)⟩
  have HCp1 : Hid (∀ (w' : World) (G : Hp), Sat w0 (pc bR 4 [.bool false] * (pc bz 70 [.pointer none, vi 0] * G)) w' → Calls Try.prog 25 #[vp bz] w' fun e w2 => e = .returned (.pointer none) ∧ Sat w0 (pc bR 4 [.bool false] * (pc bz 70 [.pointer none, vi 0] * G)) w2) := Lib.hid fun w' G h' => (nl_copy (noC_zero bz 0) (h'.cast (show _ = pc bz 70 [.pointer none, vi 0] * (pc bR 4 [.bool false] * G) by ac_rfl))).mono fun e w2 ⟨he, h2⟩ => ⟨he, h2.cast (by ac_rfl)⟩
  have HGet : Hid (∀ (w' : World) (G : Hp), Sat w0 (pc bR 4 [.bool false] * (pc bz 70 [.pointer none, vi 0] * G)) w' → Calls Try.prog 29 #[vp bz, vr 0 0] w' fun e w2 => ∃ ao lc, e = .returned (.tuple #[ev ⟨0, 0, ao, 0, lc, 0⟩, vi 1]) ∧ Sat w0 (pc bR 4 [.bool false] * (pc bz 70 [.pointer none, vi 0] * G)) w2) := Lib.hid fun w' G h' => (nl_get (noC_zero bz 0) (h'.cast (show _ = pc bz 70 [.pointer none, vi 0] * (pc bR 4 [.bool false] * G) by ac_rfl)) 0 0).mono fun e w2 ⟨ao, lc, he, h2⟩ => ⟨ao, lc, he, h2.cast (by ac_rfl)⟩
  have hE : bindE (newC 1) 0 0 1 = 11 := by decide
  have hL : bindL (newC 1) 0 0 1 = newC 1 := by unfold bindL; rw [hE, if_neg (by omega)]
  have HXB : Hid (∀ (w' : World) (G : Hp) (h : Nat), Sat w0 (cxQ [] h 2 (newC 1) (newF 1 1) * G) w' → Calls Try.prog 15 #[vp h, vr 0 0] w' fun e w2 => e = .returned (vi 11) ∧ Sat w0 (cxQ [] h 2 (newC 1) (newF 1 1) * G) w2) := Lib.hid fun w' G h h' => by
    have := p_bind (Inv.new 1 ⟨by omega, by omega⟩ 2 ⟨by omega, by omega⟩) (by omega) h' 0 0
    rw [hE, hL] at this
    exact this
  clear hE hL
  have HNW : Hid (∀ (w' : World) (G : Hp), Sat w0 G w' → Calls Try.prog 10 #[vi 1, vi 2] w' fun e w2 => ∃ h, e = .returned (.tuple #[vp h, vi 0]) ∧ Sat w0 (cxQ [] h 2 (newC 1) (newF 1 1) * G) w2) := Lib.hid fun w' G h' => p_new 1 ⟨by omega, by omega⟩ ⟨by omega, by omega⟩ h'
  have hq : ∀ w : World, (binOp .eql 45 (.func (.func 51) #[] #[]) .nilFunc).run Try.prog w = .ok (.bool false) w := fun w => rfl
  refine (callsIn_wide (n := 9)).1 ?_
  refine callsIn_of_wp_marks Try.func8 rfl trivial ?_ rfl
  simp only [Try.ntmps8, List.size_toArray, List.length_cons, List.length_nil, Nat.reduceAdd, Nat.reduceSub, Array.replicate_succ, Array.replicate_zero, List.push_toArray, List.append_toArray, List.nil_append, List.cons_append]
  refine wpIn_wide.2 ?_
  go_wp2_with fail
  rw [HWB.out, HB2.out, HB1.out]
  go_wp2_with (first
    | (go_at_call 11; (with_reducible refine (HMake.out _ _ HB.out).mono ?_); rintro e w1 ⟨rfl, hSn⟩; have H1 := Lib.hid (hSn.alloc' (.cells #[vi 0, vu 0] 30)); clear hSn)
    | (go_at_call 29; (with_reducible refine (HGet.out _ _ H1.out).mono ?_); rintro e w2 ⟨ao, lc, rfl, hSn⟩; have H2 := Lib.hid (hSn.alloc' (elO ⟨0, 0, ao, 0, lc, 0⟩)); clear hSn)
    | (go_at_call 14; (with_reducible refine (HSplit.out _ _ H2.out).mono ?_); rintro e w3 ⟨rfl, hSn⟩; have H3 := Lib.hid (hSn.alloc' (.cells #[vi 0, vu 0] 30)); clear hSn)
    | (go_at_call 30; (with_reducible refine (HNext.out _ _ H3.out).mono ?_); rintro e w4 ⟨rfl, hSn⟩; have H4 := Lib.hid hSn; clear hSn)
    | (go_at_call 19; (with_reducible refine (HAll0.out _ _ H4.out).mono ?_); rintro e w5 ⟨rfl, hSn⟩; have H5 := Lib.hid hSn; clear hSn)
    | (go_at_call 19; (with_reducible refine (HAll1.out _ _ H5.out).mono ?_); rintro e w6 ⟨rfl, hSn⟩; have H6 := Lib.hid hSn; clear hSn)
    )
  clear H1 H2 H3 H4 H5 HB
  refine (wpIn_wide (n := 9)).1 ?_
  refine wpIn_act ?_
  intro a0 ha0
  refine wpIn_range_sat (H' := (pc bR 4 [.bool false] * (pc bz 70 [.pointer none, vi 0] * emp))) rfl (by omega) (gf := 51) (lb := #[]) (by rw [ha0]; rfl) trivial (enters_of Try.func51 (by kernel_rfl) rfl) H6.out (fun fn l D R W _ _ hS => (none_all1 hS)) ?_
  intro D1 W1 hS
  have HD1 := Lib.hid hS
  clear hS H6
  subst ha0

  go_wp2_with fail
  refine (wpIn_wide (n := 9)).1 ?_
  refine wpIn_act ?_
  intro a0 ha0
  refine wpIn_range_sat (H' := (pt D1 dmark * (pc bR 4 [.bool false] * (pc bz 70 [.pointer none, vi 0] * emp)))) rfl (by omega) (gf := 51) (lb := #[]) (by rw [ha0]; rfl) trivial (enters_of Try.func51 (by kernel_rfl) rfl) HD1.out (fun fn l D R W _ _ hS => (none_all1 hS)) ?_
  intro D2 W2 hS
  have HD2 := Lib.hid hS
  clear hS HD1
  subst ha0

  go_wp2_with (first
    | (go_at_call 10; (with_reducible refine (HNW.out _ _ HD2.out).mono ?_); rintro e w7 ⟨h, rfl, hSn⟩; have K0 := Lib.hid (hSn.cast (show _ = (pc bR 4 [.bool false] * (pc bz 70 [.pointer none, vi 0] * (pt D2 dmark * (pt D1 dmark * cxQ [] h 2 (newC 1) (newF 1 1))))) by rw [show (emp : Hp) = emp from rfl]; first | ac_rfl | (simp only [sep_emp]; ac_rfl))); clear hSn)
    | (go_at_call 15; (with_reducible refine (HBind.out _ _ K0.out).mono ?_); rintro e u1 ⟨rfl, hSn⟩; have K1 := Lib.hid hSn; clear hSn)
    | (go_at_call 31; (with_reducible refine (HUnb.out _ _ K1.out).mono ?_); rintro e u2 ⟨rfl, hSn⟩; have K2 := Lib.hid hSn; clear hSn)
    | (go_at_call 32; (with_reducible refine (HDon.out _ _ K2.out).mono ?_); rintro e u3 ⟨rfl, hSn⟩; have K3 := Lib.hid hSn; clear hSn)
    | (go_at_call 22; (with_reducible refine (HDrop.out _ _ K3.out).mono ?_); rintro e u4 ⟨rfl, hSn⟩; have K4 := Lib.hid hSn; clear hSn)
    | (go_at_call 12; (with_reducible refine (HCan.out _ _ K4.out).mono ?_); rintro e u5 ⟨rfl, hSn⟩; have K5 := Lib.hid hSn; clear hSn)
    | (go_at_call 13; (with_reducible refine (HChg.out _ _ K5.out).mono ?_); rintro e u6 ⟨rfl, hSn⟩; have K6 := Lib.hid hSn; clear hSn)
    | (go_at_call 33; (with_reducible refine (HLen0.out _ _ K6.out).mono ?_); rintro e u7 ⟨rfl, hSn⟩; have K7 := Lib.hid hSn; clear hSn)
    | (go_at_call 33; (with_reducible refine (HLen1.out _ _ K7.out).mono ?_); rintro e u8 ⟨rfl, hSn⟩; have K8 := Lib.hid hSn; clear hSn)
    | (go_at_call 25; (with_reducible refine (HCp0.out _ _ K8.out).mono ?_); rintro e u9 ⟨rfl, hSn⟩; have K9 := Lib.hid hSn; clear hSn)
    | (go_at_call 25; (with_reducible refine (HCp1.out _ _ K9.out).mono ?_); rintro e u10 ⟨rfl, hSn⟩; have K10 := Lib.hid hSn; clear hSn)
    | (go_at_call 27; (with_reducible refine (nl_same_tt noC_nil.b (noC_zero bz 0).b (K10.out.cast (show _ = emp * (pc bz 70 [.pointer none, vi 0] * (pc bR 4 [.bool false] * (pt D2 dmark * (pt D1 dmark * cxQ [] h 2 (newC 1) (newF 1 1))))) by rw [emp_sep]; ac_rfl))).mono ?_); rintro e u11 ⟨rfl, hSn⟩; have K11 := Lib.hid (hSn.cast (show _ = cxQ [] h 2 (newC 1) (newF 1 1) * (emp * (pt D2 dmark * (pt D1 dmark * (pc bR 4 [.bool false] * pc bz 70 [.pointer none, vi 0])))) by rw [emp_sep, emp_sep]; ac_rfl)); clear hSn)
    | (go_at_call 27; (with_reducible refine (nl_same_ft (noB_cx [] h 2 (newC 1) (newF 1 1)) noC_nil.b K11.out).mono ?_); rintro e u12 ⟨rfl, hSn⟩; have K12 := Lib.hid hSn.pull2; clear hSn)
    | (go_at_call 27; (with_reducible refine (nl_same_tf noC_nil.b (noB_cx [] h 2 (newC 1) (newF 1 1)) K12.out).mono ?_); rintro e u13 ⟨rfl, hSn⟩; have K13 := Lib.hid hSn.pull2; clear hSn)
    | (go_at_call 15; (with_reducible refine (HXB.out _ _ _ K13.out).mono ?_); rintro e u14 ⟨rfl, hSn⟩; have K14 := Lib.hid (hSn.cast (show _ = pc bR 4 [.bool false] * (pt D2 dmark * (pt D1 dmark * (emp * (cxQ [] h 2 (newC 1) (newF 1 1) * pc bz 70 [.pointer none, vi 0])))) by ac_rfl)); clear hSn)
    | (go_at_call 9; refine (known08 _).mono ?_; rintro e u15 ⟨rfl, hb⟩; have h15 := Sat.after K14.out hb; have z0 := h15.cell 0 rfl; have zf := h15.free 0; have K15 := Lib.hid (h15.store 0 (.bool true)); clear hb h15)
    )
  exact leaves_marks [D2, D1] _ (K15.out.cast (show _ = (pt D2 dmark * (pt D1 dmark * emp)) * (pc bR 4 [.bool true] * (cxQ [] h 2 (newC 1) (newF 1 1) * pc bz 70 [.pointer none, vi 0])) by simp only [List.set_cons_zero, sep_emp, emp_sep]; ac_rfl)) (fun w' h' => by
    have hc := h'.cell 0 rfl
    exact ⟨.bool true, by simp [results, Try.f8, go_sem, hc], rfl, h'.below⟩)
end Go.Proofs.Ytknodagcmachiaa.Cn
