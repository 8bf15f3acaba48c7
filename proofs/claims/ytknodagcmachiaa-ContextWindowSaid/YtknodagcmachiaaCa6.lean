/-
  Contracts of package arena at T = helmsman/api.Context: Drop. No statement is proved here.
-/
import Derived.Test.YtknodagcmachiaaCa4
import Derived.Deep.RegionLaw
namespace Go.Proofs.Ytknodagcmachiaa.Ac
open Go.RowKit
open Fi (vi vu)
set_option linter.unusedVariables false
set_option linter.unusedSimpArgs false

section
variable {w0 w : World} {p : Nat} {s : TblS} {ps : List Pl} {free : List Nat} {F : Hp}
theorem drop_boxed (h : Sat w0 (tblP p ps free * F) w) (i g : Int) : ∃ s, TblIs w0 p s ps free (pc w.heap.size 30 [vi i, vu g] * F) (w.alloc (.cells #[vi i, vu g] 30)) := by
  obtain ⟨s, hs⟩ := open_ h
  refine ⟨s, hs.ok, ?_⟩
  have : Sat w0 (pc w.heap.size 30 [vi i, vu g] * (tblB p s ps.length free.length * (tblL s ps * (tblF s free * F)))) (w.alloc (.cells #[vi i, vu g] 30)) := hs.sat.alloc (.cells #[vi i, vu g] 30)
  refine this.cast ?_
  generalize tblB p s ps.length free.length = A
  generalize tblL s ps = B
  generalize tblF s free = C
  ac_rfl
set_option maxRecDepth 100000 in
set_option maxHeartbeats 8000000 in
theorem drop_no (h : Sat w0 (tblP p ps free * F) w) (i g : Int) (hA : isAt ps i g = none) :
    Calls Try.prog 56 #[vp p, vr i g] w fun e w' => e = .returned (vi 11) ∧ Sat w0 (tblP p ps free * F) w' := by
  obtain ⟨s, hI⟩ := drop_boxed h i g
  have H := Lib.hid (find_no hI hA)
  have hA' := Lib.hid hA
  clear h hI hA
  go_enter Try.func56, Try.ntmps56
  go_wp2_with (go_at_call 81; refine H.out.mono ?_; rintro e w' ⟨rfl, hT⟩)
  go_ret
  exact ⟨rfl, hT.shut.drop2⟩
set_option maxRecDepth 100000 in
set_option maxHeartbeats 8000000 in
theorem drop_yes (h : Sat w0 (tblP p ps free * F) w) (i g : Int) {k : Nat} {a : Pl} (hA : isAt ps i g = some (k, a)) (hg : a.gen < 18446744073709551614) :
    Calls Try.prog 56 #[vp p, vr i g] w fun e w' => e = .returned (vi 0) ∧ Sat w0 (tblP p (ps.set k { a with gen := a.gen + 1, there := false, x := ez }) (free ++ [k]) * F) w' := by
  obtain ⟨s, hI⟩ := drop_boxed h i g
  have H := Lib.hid (find_yes hI hA)
  have ha := isAt_some hA
  have hlt : k < ps.length := (List.getElem?_eq_some_iff.1 ha.1).1
  have HA := Lib.hid ha.1
  have hik := ha.2.1
  have hth := ha.2.2.1
  have hgs := hI.ok.gens _ _ ha.1
  have hfs := hI.ok.fsmall
  have hGo := Lib.hid (hI.ok.go ha.1 hth (show a.gen ≠ 18446744073709551614 by omega))
  subst hik
  generalize hbx : w.heap.size = bx at *
  have HBX := Lib.hid hbx
  clear h hA ha hbx hI
  obtain ⟨gen, there, retired, y⟩ := a
  simp only at hth hgs hg hGo
  subst hth
  have hgb : (gen == 18446744073709551614) = false := beq_eq_false_iff_ne.2 (by omega)
  have hw : IntKind.u64.wrap (gen + 1) = gen + 1 := IntWalk.u64_in _ (by omega)
  clear hgs hg
  go_enter Try.func56, Try.ntmps56
  go_wp2_with (go_at_call 81; refine H.out.mono ?_; rintro e w1 ⟨rfl, hT⟩; have HT := Lib.hid hT; clear hT)
  have hB0 : Sat w0 (pc w1.heap.size 49 (elC ez) * (tblB p s ps.length free.length * (tblL s ps * (tblF s free * (pc bx 30 [vi k, vu g] * F))))) (w1.alloc (elO ez)) := HT.out.sat.alloc (elO ez)
  have hB : Sat w0 (sl 110 7 (s.lv ps.length) ps.length (flat ps) * (pc w1.heap.size 49 (elC ez) * (tblB p s ps.length free.length * (tblF s free * (pc bx 30 [vi k, vu g] * F))))) (w1.alloc (elO ez)) := hB0.cast (by
    unfold tblL
    generalize tblB p s ps.length free.length = A
    generalize tblF s free = C
    ac_rfl)
  clear hB0
  try (go_wp2)
  generalize w1.heap.size = bz at *
  generalize (w1.alloc (elO ez)) = W1 at *
  have HW1 := Lib.hid hB.drew
  clear hB
  have hS0 : (fun w' : World => w'.rangeAt bz 0 (elC ez)) W1.drew := range_ HW1.out.pull2
  have hcell : (W1.drew).cell? ⟨s.a, k * 7 + 1, none⟩ = some _ := HW1.out.slCell (k * 7 + 1) (flat_get Pl.len HA.out rfl)
  have hfree1 : (W1.drew).frozen? ⟨s.a, k * 7 + 1, none⟩ = false := HW1.out.slFree (k * 7 + 1)
  have hT2 := HW1.out.slStore (k * 7 + 1) (by omega) (.bool false)
  rw [flat_set Pl.len ps k 1 _ (⟨gen, false, retired, y⟩ : Pl) (.bool false) HA.out (by omega) rfl] at hT2
  refine wp_region_held (S := fun w' => w'.rangeAt bz 0 (elC ez)) (by kernel_rfl) ?_
  change wpAnyH _ _ _ _ _ _ _ _ (World.drew _)
  refine wpAnyH_take (i := 0) (v := (.pointer (some ⟨s.a, k * 7, none⟩))) rfl (by kernel_rfl) (by kernel_rfl) (by kernel_rfl) (fun _ _ _ h => h) (Or.inl ⟨by rfl, fun w' hw' => by go_simp⟩) hS0 ?_
  simp only [Act.put, List.setIfInBounds_toArray, List.set_cons_zero, List.set_cons_succ]
  refine wpAnyH_take (i := 1) (v := (.pointer (some ⟨s.a, k * 7, none⟩))) rfl (by kernel_rfl) (by kernel_rfl) (by kernel_rfl) (fun _ _ _ h => h) (Or.inl ⟨by rfl, fun w' hw' => by go_simp⟩) hS0 ?_
  simp only [Act.put, List.setIfInBounds_toArray, List.set_cons_zero, List.set_cons_succ]
  refine wpAnyH_take (i := 2) rfl (by kernel_rfl) (by kernel_rfl) (by kernel_rfl) (fun _ _ _ h => h) (yieldsIf_load_mid (by rfl) 49 _ rfl bz 0 (by rfl) (elC ez) _ (fun w' h => h) Try.underlying49 rfl einfo) hS0 ?_
  simp only [Act.put, List.setIfInBounds_toArray, List.set_cons_zero, List.set_cons_succ]
  refine wpAnyH_take (i := 3) (v := (.pointer (some ⟨s.a, k * 7, none⟩))) rfl (by kernel_rfl) (by kernel_rfl) (by kernel_rfl) (fun _ _ _ h => h) (Or.inl ⟨by rfl, fun w' hw' => by go_simp⟩) hS0 ?_
  simp only [Act.put, List.setIfInBounds_toArray, List.set_cons_zero, List.set_cons_succ]
  refine wpAnyH_take (i := 4) (v := (.pointer (some ⟨s.a, k * 7 + 1, none⟩))) rfl (by kernel_rfl) (by kernel_rfl) (by kernel_rfl) (fun _ _ _ h => h) (Or.inl ⟨by rfl, fun w' hw' => by go_simp⟩) hS0 ?_
  simp only [Act.put, List.setIfInBounds_toArray, List.set_cons_zero, List.set_cons_succ]
  refine wpAnyH_ready (rs := [5]) (by kernel_rfl) (by simp) ?_
  refine AllReadyH.cons rfl (fun K hK => ?_) AllReadyH.nil
  go_simp
  have hT2 : Sat w0 _ (W1.setCell ⟨s.a, k * 7 + 1, none⟩ (.bool false)).drew := hT2
  generalize (W1.setCell ⟨s.a, k * 7 + 1, none⟩ (.bool false)).drew = W2 at *
  have HW2 := Lib.hid hT2
  have hS2 : (fun w' : World => w'.rangeAt bz 0 (elC ez)) W2 := range_ HW2.out.pull2
  refine hK.out _ _ hS2 (fun hS3 => ?_)
  refine wpAnyH_take (i := 6) (v := (.pointer (some ⟨s.a, k * 7, none⟩))) rfl (by kernel_rfl) (by kernel_rfl) (by kernel_rfl) (fun _ _ _ h => h) (Or.inl ⟨by rfl, fun w' hw' => by go_simp⟩) hS2 ?_
  simp only [Act.put, List.setIfInBounds_toArray, List.set_cons_zero, List.set_cons_succ]
  refine wpAnyH_take (i := 7) (v := (.pointer (some ⟨s.a, k * 7 + 3, none⟩))) rfl (by kernel_rfl) (by kernel_rfl) (by kernel_rfl) (fun _ _ _ h => h) (Or.inl ⟨by rfl, fun w' hw' => by go_simp⟩) hS2 ?_
  simp only [Act.put, List.setIfInBounds_toArray, List.set_cons_zero, List.set_cons_succ]
  have hth := slThere HW2.out (get_set_self HA.out _) (by simp)
  have hT3 := storeX HW2.out (get_set_self HA.out _) (by simp) ez
  rw [List.set_set] at hT3
  have hT3 : Sat w0 _ (W2.setCells s.a (k * 7 + 3) (elC ez).toArray.toList) := hT3
  refine wpAnyH_ready (rs := [8]) (by kernel_rfl) (by simp) ?_
  refine AllReadyH.cons rfl (fun K' hK' => ?_) AllReadyH.nil
  rw [if_pos (by rfl)]
  refine wp_store_mid 49 _ _ rfl s.a (k * 7 + 3) (elC ez).toArray (by rfl) (by rfl) hth einfo (all_oneCell_toArray (elOne ez)) ?_
  generalize W2.setCells s.a (k * 7 + 3) (elC ez).toArray.toList = W3 at *
  have HW3 := Lib.hid hT3
  have hS4 : (fun w' : World => w'.rangeAt bz 0 (elC ez)) W3 := range_ HW3.out.pull2
  refine hK'.out _ _ hS4 (fun hS5 => ?_)
  refine wpAnyH_done (by kernel_rfl) ?_ _
  clear hS0 hS2 hS3 hS4 hS5 hth hT2 hT3 hcell hfree1 hK hK'
  have hg0 := HW3.out.slCell (k * 7 + 0) (flat_get Pl.len (get_set_self HA.out _) rfl)
  have hf0 := HW3.out.slFree (k * 7 + 0)
  rw [Nat.add_zero] at hg0 hf0
  have a3 := HW3.out.slStore (k * 7 + 0) (by omega) (vu (gen + 1))
  rw [flat_set Pl.len _ k 0 (⟨gen, false, retired, ez⟩ : Pl) ⟨gen + 1, false, retired, ez⟩ (vu (gen + 1)) (get_set_self HA.out _) (by omega) rfl, List.set_set] at a3
  have A3 := Lib.hid a3
  clear a3
  go_wp2
  rw [HBX.out]
  have a3 : Sat w0 _ (W3.setCell ⟨s.a, k * 7, none⟩ (vu (gen + 1))) := A3.out
  generalize W3.setCell ⟨s.a, k * 7, none⟩ (vu (gen + 1)) = wc at *
  have a4 : Sat w0 (tblB p s ps.length free.length * (sl 110 7 (s.lv ps.length) ps.length (flat (ps.set k ⟨gen + 1, false, retired, ez⟩)) * (tblF s free * (pc bx 30 [vi k, vu g] * F)))) wc := a3.pull2.dropL.pull2
  have d1 : wc.cell? ⟨p, 1, none⟩ = some (.slice s.fo free.length s.fcap) := a4.cell 1 rfl
  have d2 := a4.free 1
  have d3 := a4.pull4.cell 0 rfl
  have n1 := World.new_ne wc _ d1
  have n2 := World.new_ne wc _ d3
  have l1 := a4.lt
  have l2 := a4.pull4.lt
  have A4 := Lib.hid a4
  clear a4 a3 A3 hg0 hf0 hgb hw H HT HW1 HW2 HW3
  go_region_law
    ((refine step_append_sl Einti (by rfl) _ _ (by rfl) (by rfl) ((A4.out.pull3.alloc' _).drew) (by rfl) (Rd.one _ _ _) (by simp [Value.oneCell']) (by unfold maxLen; omega) (by omega) ?_; intro ao' cap' w2 hS2; have hP1 := hS2.pull2; have hF1 := hP1.free 1; have hC1 := hP1.cell 1 rfl))
  all_goals go_wp2
  all_goals go_ret
  all_goals refine ⟨rfl, ?_⟩
  all_goals have b1 := hP1.store 1 (.slice ao' (free.length + 1) cap')
  all_goals refine Sat.drop2 (A := tblP p (ps.set k ⟨gen + 1, false, retired, ez⟩) (free ++ [k])) (B := pc bx 30 [vi k, vu g]) (TblIs.shut (s := ⟨s.a, s.cap, ao', cap'⟩) ⟨hGo.out, b1.cast ?_⟩)
  all_goals (
    have hl : (ps.set k (⟨gen + 1, false, retired, ez⟩ : Pl)).length = ps.length := List.length_set
    simp only [tblB, tblL, tblF, TblS.lv, TblS.fv, hl, List.set_cons_succ, List.set_cons_zero, List.length_append, List.length_cons, List.length_nil, Nat.zero_add, List.map_append, List.map_cons, List.map_nil]
    ac_rfl)
end
end Go.Proofs.Ytknodagcmachiaa.Ac
