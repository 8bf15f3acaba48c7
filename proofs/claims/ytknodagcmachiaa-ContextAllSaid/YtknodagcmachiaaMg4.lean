/-
  Contracts of package arena at T = helmsman/api.Context: Set. No statement is proved here.
-/
import Derived.Test.YtknodagcmachiaaCa2
import Derived.Test.YtknodagcmachiaaMg2
import Derived.Deep.RegionLaw
namespace Go.Proofs.Ytknodagcmachiaa.Ac
open Go.RowKit
open Fi (vi vu)
set_option linter.unusedVariables false

section
variable {w0 w : World} {p : Nat} {s : TblS} {ps : List Pl} {free : List Nat} {F : Hp}
def setP (ps : List Pl) (i g : Int) (x : El) : List Pl := match isAt ps i g with | none => ps | some (k, a) => ps.set k { a with x := x }

set_option maxRecDepth 100000 in
set_option maxHeartbeats 8000000 in
theorem set_ (h : Sat w0 (tblP p ps free * F) w) (i g : Int) (x : El) :
    Calls Try.prog 41 #[vp p, vr i g, ev x] w fun e w' => e = .returned (vi (getE ps i g)) ∧ Sat w0 (tblP p (setP ps i g x) free * F) w' := by
  obtain ⟨s, hs⟩ := open_ h
  have hI : TblIs w0 p s ps free (elB (w.heap.size + 1) x * F) ((w.alloc (.cells #[vi i, vu g] 30)).alloc (elO x)) := ⟨hs.ok, by
    have hh := (hs.sat.alloc' (.cells #[vi i, vu g] 30)).alloc (elO x)
    rw [size1] at hh
    exact (show Sat w0 (elB (w.heap.size + 1) x * (tblB p s ps.length free.length * (tblL s ps * (tblF s free * F)))) _ from hh).cast (by ac_rfl)⟩
  unfold getE setP
  cases hA : isAt ps i g with
  | none =>
    have H := Lib.hid (find_no hI hA)
    have hA' := Lib.hid hA
    clear h hI hA hs
    go_enter Try.func41, Try.ntmps41
    go_wp2_with (go_at_call 81; refine H.out.mono ?_; rintro e w' ⟨rfl, hT⟩)
    go_ret
    exact ⟨rfl, hT.shut.drop2⟩
  | some ka =>
    obtain ⟨k, a⟩ := ka
    have H := Lib.hid (find_yes hI hA)
    have ha := isAt_some hA
    have hlt : k < ps.length := (List.getElem?_eq_some_iff.1 ha.1).1
    have HA := Lib.hid ha
    have hA' := Lib.hid hA
    have hok : TblOk (ps.set k { a with x := x }) free := hs.ok.setX ha.1 x
    have HOK := Lib.hid hok
    clear h hI hA ha hs hok
    go_enter Try.func41, Try.ntmps41
    go_wp2_with (first
      | (go_at_call 81; refine H.out.mono ?_; rintro e w1 ⟨rfl, hT⟩; have HLd := Lib.hid (range_ hT.sat.pull4); have HTh := Lib.hid (hT.thr HA.out.1); have HT := Lib.hid hT; clear hT)
      | (refine wpList_load_mid rfl 49 _ rfl (w.heap.size + 1) 0 (by rfl) (elC x) _ HLd.out Try.underlying49 rfl einfo ?_)
      | (refine wpList_store_mid rfl 49 _ _ rfl s.a (k * 7 + 3) (elC x).toArray (by rfl) (by rfl) HTh.out einfo (all_oneCell_toArray (elOne x)) ?_; have HS := Lib.hid (storeX HT.out.sat.pull2 HA.out.1 rfl x); have HS : Hid (Sat w0 _ (w1.setCells s.a (k * 7 + 3) (elC x).toArray.toList)) := HS; generalize World.setCells _ _ _ _ = w2 at *))
    go_ret
    have hl : (ps.set k { a with x := x }).length = ps.length := List.length_set
    refine ⟨rfl, (TblIs.shut (s := s) (F := elB (w.heap.size + 1) x * F) ⟨HOK.out, ?_⟩).drop2⟩
    exact HS.out.pull2.cast (by simp only [tblB, tblL, hl])
end
end Go.Proofs.Ytknodagcmachiaa.Ac

namespace Go.Proofs.Ytknodagcmachiaa
open Go.RowKit
theorem Sat.slCut {w0 w : World} {F : Hp} {e : TypeId} {size n g cap : Nat} {xs : List Value} (h : Sat w0 (sl e size (.slice (some ⟨g, 0, none⟩) n cap) n xs * F) w) (k : Nat) (hk : k ≤ n) : Sat w0 (sl e size (.slice (some ⟨g, 0, none⟩) k k) k (xs.take (k * size)) * F) w := by
  obtain ⟨cur, h1, h2, h3, h4, hS⟩ := h.slP
  refine hS.slI (Nat.le_refl _) (by omega) (Nat.le_trans (Nat.mul_le_mul_right _ (by omega)) h3) ?_
  rw [← h4, List.take_take, Nat.min_eq_left (Nat.mul_le_mul_right _ hk)]
end Go.Proofs.Ytknodagcmachiaa

namespace Go.Proofs.Ytknodagcmachiaa.Ac
open Go.RowKit
open Fi (vi vu)
set_option linter.unusedVariables false

section
variable {w0 w : World} {p : Nat} {s : TblS} {ps : List Pl} {free : List Nat} {F : Hp}
set_option maxRecDepth 100000 in
set_option maxHeartbeats 8000000 in
theorem put_full (h : TblIs w0 p s ps [] F w) (x : El) :
    Calls Try.prog 36 #[vp p, ev x] w fun e w' => e = .returned (.tuple #[vr 0 0, vi 3]) ∧ Sat w0 (tblP p ps [] * F) w' := by
  have hI := (h.alloc (elO x)).alloc (.cells #[vi 0, vu 0] 30)
  have c1 := hI.c1
  have H := Lib.hid (none_ hI)
  have HB := Lib.hid (((h.sat.alloc' (elO x)).alloc' (.cells #[vi 0, vu 0] 30)))
  have hok := Lib.hid h.ok
  clear h hI
  go_enter Try.func36, Try.ntmps36
  go_wp2_with (go_at_call 73; refine H.out.mono ?_; rintro e w' ⟨rfl, rfl⟩)
  (try simp only [Exit.inBlock, Exit.then])
  refine bodyPost_ret (v := .tuple #[vr 0 0, vi 3]) (by rw [results_cell_tmp rfl]; go_simp) rfl ?_
  exact ⟨rfl, TblIs.shut (s := s) ⟨hok.out, HB.out⟩⟩
set_option maxRecDepth 100000 in
set_option maxHeartbeats 8000000 in
theorem put_come {k : Nat} {a : Pl} (h : TblIs w0 p s ps (free ++ [k]) F w) (hk : ps[k]? = some a) (x : El) :
    Calls Try.prog 36 #[vp p, ev x] w fun e w' => e = .returned (.tuple #[vr k a.gen, vi 0]) ∧ Sat w0 (tblP p (ps.set k { a with there := true, x := x }) free * F) w' := by
  have hok := Lib.hid (h.ok.come hk x)
  have hsm := h.ok.fsmall
  obtain ⟨n, hn⟩ : ∃ n, n = free.length := ⟨_, rfl⟩
  obtain ⟨m, hm⟩ : ∃ m, m = (free ++ [k]).length := ⟨_, rfl⟩
  have hmn : m = n + 1 := by rw [hm, hn]; simp
  have hsm' : m ≤ 4096 := hm ▸ hsm
  obtain ⟨fa, hfa⟩ : ∃ fa, s.fo = some ⟨fa, 0, none⟩ := by
    rcases h.sat.pull3.slE.2 with ⟨_, h0, _⟩ | ⟨g, c, cur, hv, _⟩
    · simp at h0
    · injection hv with h1 h2 h3
      exact ⟨g, h1⟩
  have hB0 := (h.sat.alloc (elO x)).alloc (.cells #[vi 0, vu 0] 30)
  rw [size1] at hB0
  have hB : Sat w0 (pc (w.heap.size + 1) 30 [vi 0, vu 0] * (elB w.heap.size x * (tblB p s ps.length (free ++ [k]).length * (tblL s ps * (tblF s (free ++ [k]) * F))))) ((w.alloc (elO x)).alloc (.cells #[vi 0, vu 0] 30)) := hB0
  clear hB0
  simp only [tblB, tblF, TblS.fv, hfa, ← hm] at hB
  have hgs := h.ok.gens _ _ hk
  have hkl : k < ps.length := (List.getElem?_eq_some_iff.1 hk).1
  have hsml := h.ok.small
  have hI := (h.alloc (elO x)).alloc (.cells #[vi 0, vu 0] 30)
  have H := Lib.hid (none_ hI)
  have c0 := hI.c0
  have c1 : ((w.alloc (elO x)).alloc (.cells #[vi 0, vu 0] 30)).cell? ⟨p, 1, none⟩ = some (.slice (some ⟨fa, 0, none⟩) m s.fcap) := by
    have := hI.c1
    rw [hfa, ← hm] at this
    exact this
  have e0 := hI.at_ (j := 0) hk rfl
  rw [Nat.add_zero] at e0
  have e1 := hI.at_ (j := 1) hk rfl
  have e3_0 : ((w.alloc (elO x)).alloc (.cells #[vi 0, vu 0] 30)).cell? ⟨s.a, k * 7 + 3, none⟩ = some (.int .u64 a.x.v0) := hI.at_ (j := 3) hk rfl
  have e3_1 : ((w.alloc (elO x)).alloc (.cells #[vi 0, vu 0] 30)).cell? ⟨s.a, k * 7 + 3 + 1, none⟩ = some (.int .u64 a.x.v1) := hI.at_ (j := 4) hk rfl
  have e3_2 : ((w.alloc (elO x)).alloc (.cells #[vi 0, vu 0] 30)).cell? ⟨s.a, k * 7 + 3 + 2, none⟩ = some (.slice a.x.a2 a.x.n2 a.x.c2) := hI.at_ (j := 5) hk rfl
  have e3_3 : ((w.alloc (elO x)).alloc (.cells #[vi 0, vu 0] 30)).cell? ⟨s.a, k * 7 + 3 + 3, none⟩ = some (.int .i64 a.x.v3) := hI.at_ (j := 6) hk rfl
  have b0 := hB.cell 0 rfl
  have b1 := hB.cell 1 rfl
  have bf0 := hB.free 0
  have bf1 := hB.free 1
  have q0 := hB.pull2.cell 0 rfl
  have q1 := hB.pull2.cell 1 rfl
  have q2 := hB.pull2.cell 2 rfl
  have q3 := hB.pull2.cell 3 rfl
  have fr0 := hI.free_ 0
  have fr1 := hI.free_ 1
  have lf0 := hI.lfree (k * 7 + 0)
  have lf1 := hI.lfree (k * 7 + 1)
  have lf3_0 : ((w.alloc (elO x)).alloc (.cells #[vi 0, vu 0] 30)).frozen? ⟨s.a, k * 7 + 3, none⟩ = false := hI.lfree (k * 7 + 3)
  have lf3_1 : ((w.alloc (elO x)).alloc (.cells #[vi 0, vu 0] 30)).frozen? ⟨s.a, k * 7 + 3 + 1, none⟩ = false := hI.lfree (k * 7 + 4)
  have lf3_2 : ((w.alloc (elO x)).alloc (.cells #[vi 0, vu 0] 30)).frozen? ⟨s.a, k * 7 + 3 + 2, none⟩ = false := hI.lfree (k * 7 + 5)
  have lf3_3 : ((w.alloc (elO x)).alloc (.cells #[vi 0, vu 0] 30)).frozen? ⟨s.a, k * 7 + 3 + 3, none⟩ = false := hI.lfree (k * 7 + 6)
  have hX := hB.dropL
  have hP4 := hX.pull4
  have hfree : ((w.alloc (elO x)).alloc (.cells #[vi 0, vu 0] 30)).cell? ⟨fa, n, none⟩ = some (vi k) := hP4.slCell n (by rw [List.getElem?_map, hn]; simp)
  have hcap := hP4.slCap
  have hpa : p ≠ s.a := hI.sat.slNe
  have hbp : w.heap.size + 1 ≠ p := hB.drop2.ne
  have hba : w.heap.size + 1 ≠ s.a := hB.drop2.drop2.slNe
  have hpf : p ≠ fa := hX.dropL.drop2.slNe
  have hbf : w.heap.size + 1 ≠ fa := hB.drop2.drop3.drop2.slNe
  have haf : s.a ≠ fa := hX.dropL.dropL.slNe2
  have hxp : w.heap.size ≠ p := hX.ne
  have hxa : w.heap.size ≠ s.a := hX.drop2.slNe
  have hxf : w.heap.size ≠ fa := hX.drop3.drop2.slNe
  have hxb : w.heap.size + 1 ≠ w.heap.size := by omega
  have HB := Lib.hid hB
  have Hn := Lib.hid hn
  have Hm := Lib.hid hm
  have Hfa := Lib.hid hfa
  have HGS := Lib.hid hgs
  obtain ⟨gen, there, retired, y⟩ := a
  simp only at e0 e1 e3_0 e3_1 e3_2 e3_3 ⊢
  have Hk := Lib.hid hk
  have hm0 : ((m : Int) == 0) = false := beq_eq_false_iff_ne.2 (by omega)
  have hw : IntKind.i64.wrap ((m : Int) - 1) = (n : Int) := by rw [IntWalk.i64_in _ (by omega)]; omega
  have hnm : (n : Int) < (m : Int) := by omega
  have hnc : (n : Int) ≤ (s.fcap : Int) := by omega
  have hnc' : n ≤ s.fcap := by omega
  have hkl' : (k : Int) < (ps.length : Int) := by omega
  generalize hwb : (w.alloc (elO x)).alloc (.cells #[vi 0, vu 0] 30) = wb at *
  have HW := Lib.hid hwb
  generalize hb1 : w.heap.size + 1 = bx at *
  generalize hb2 : w.heap.size = b2 at *
  have HB1 := Lib.hid hb1
  have HB2 := Lib.hid hb2
  clear hwb hb1 hb2 h hB hI hn hm hfa hgs hk hP4 hcap hsm hX
  go_enter Try.func36, Try.ntmps36
  go_wp2_with fail
  rw [HW.out, HB2.out, HB1.out]
  refine H.out.mono ?_
  rintro e w' ⟨rfl, rfl⟩
  go_wp2
  have hW1 := HB.out.pull3.store 1 (.slice (some ⟨fa, 0, none⟩) n n)
  generalize wb.setCell ⟨p, 1, none⟩ (.slice (some ⟨fa, 0, none⟩) n n) = W1 at *
  have HW1 := Lib.hid hW1.drew
  clear hW1
  have hS0 : (fun w' : World => w'.rangeAt b2 0 (elC x)) W1.drew := range_ HW1.out.pull3
  have HT1 := Lib.hid HW1.out.pull4
  have hcell : (W1.drew).cell? ⟨s.a, k * 7 + 1, none⟩ = some _ := HT1.out.slCell (k * 7 + 1) (flat_get Pl.len Hk.out rfl)
  have hfree1 : (W1.drew).frozen? ⟨s.a, k * 7 + 1, none⟩ = false := HT1.out.slFree (k * 7 + 1)
  have hT2 := HT1.out.slStore (k * 7 + 1) (by omega) (.bool true)
  rw [flat_set Pl.len ps k 1 _ (⟨gen, true, retired, y⟩ : Pl) (.bool true) Hk.out (by omega) rfl] at hT2
  refine wp_region_held (S := fun w' => w'.rangeAt b2 0 (elC x)) (by kernel_rfl) ?_
  change wpAnyH _ _ _ _ _ _ _ _ (World.drew _)
  refine wpAnyH_take (i := 0) (v := (.pointer (some ⟨s.a, k * 7, none⟩))) rfl (by kernel_rfl) (by kernel_rfl) (by kernel_rfl) (fun _ _ _ h => h) (Or.inl ⟨by rfl, fun w' hw' => by go_simp⟩) hS0 ?_
  simp only [Act.put, List.setIfInBounds_toArray, List.set_cons_zero, List.set_cons_succ]
  refine wpAnyH_take (i := 1) (v := (.pointer (some ⟨s.a, k * 7, none⟩))) rfl (by kernel_rfl) (by kernel_rfl) (by kernel_rfl) (fun _ _ _ h => h) (Or.inl ⟨by rfl, fun w' hw' => by go_simp⟩) hS0 ?_
  simp only [Act.put, List.setIfInBounds_toArray, List.set_cons_zero, List.set_cons_succ]
  refine wpAnyH_take (i := 2) rfl (by kernel_rfl) (by kernel_rfl) (by kernel_rfl) (fun _ _ _ h => h) (yieldsIf_load_mid (by rfl) 49 _ rfl b2 0 (by rfl) (elC x) _ (fun w' h => h) Try.underlying49 rfl einfo) hS0 ?_
  simp only [Act.put, List.setIfInBounds_toArray, List.set_cons_zero, List.set_cons_succ]
  refine wpAnyH_take (i := 3) (v := (.pointer (some ⟨s.a, k * 7, none⟩))) rfl (by kernel_rfl) (by kernel_rfl) (by kernel_rfl) (fun _ _ _ h => h) (Or.inl ⟨by rfl, fun w' hw' => by go_simp⟩) hS0 ?_
  simp only [Act.put, List.setIfInBounds_toArray, List.set_cons_zero, List.set_cons_succ]
  refine wpAnyH_take (i := 4) (v := (.pointer (some ⟨s.a, k * 7 + 1, none⟩))) rfl (by kernel_rfl) (by kernel_rfl) (by kernel_rfl) (fun _ _ _ h => h) (Or.inl ⟨by rfl, fun w' hw' => by go_simp⟩) hS0 ?_
  simp only [Act.put, List.setIfInBounds_toArray, List.set_cons_zero, List.set_cons_succ]
  refine wpAnyH_ready (rs := [5]) (by kernel_rfl) (by simp) ?_
  refine AllReadyH.cons rfl (fun K hK => ?_) AllReadyH.nil
  go_simp
  have hT2 : Sat w0 _ (W1.setCell ⟨s.a, k * 7 + 1, none⟩ (.bool true)).drew := hT2
  generalize (W1.setCell ⟨s.a, k * 7 + 1, none⟩ (.bool true)).drew = W2 at *
  have HW2 := Lib.hid hT2
  have hS2 : (fun w' : World => w'.rangeAt b2 0 (elC x)) W2 := range_ HW2.out.pull4
  refine hK.out _ _ hS2 (fun hS3 => ?_)
  refine wpAnyH_take (i := 6) (v := (.pointer (some ⟨s.a, k * 7, none⟩))) rfl (by kernel_rfl) (by kernel_rfl) (by kernel_rfl) (fun _ _ _ h => h) (Or.inl ⟨by rfl, fun w' hw' => by go_simp⟩) hS2 ?_
  simp only [Act.put, List.setIfInBounds_toArray, List.set_cons_zero, List.set_cons_succ]
  refine wpAnyH_take (i := 7) (v := (.pointer (some ⟨s.a, k * 7 + 3, none⟩))) rfl (by kernel_rfl) (by kernel_rfl) (by kernel_rfl) (fun _ _ _ h => h) (Or.inl ⟨by rfl, fun w' hw' => by go_simp⟩) hS2 ?_
  simp only [Act.put, List.setIfInBounds_toArray, List.set_cons_zero, List.set_cons_succ]
  have hth := slThere HW2.out (get_set_self Hk.out _) (by simp)
  have hT3 := storeX HW2.out (get_set_self Hk.out _) (by simp) x
  rw [List.set_set] at hT3
  have hT3 : Sat w0 _ (W2.setCells s.a (k * 7 + 3) (elC x).toArray.toList) := hT3
  refine wpAnyH_ready (rs := [8]) (by kernel_rfl) (by simp) ?_
  refine AllReadyH.cons rfl (fun K' hK' => ?_) AllReadyH.nil
  rw [if_pos (by rfl)]
  refine wp_store_mid 49 _ _ rfl s.a (k * 7 + 3) (elC x).toArray (by rfl) (by rfl) hth einfo (all_oneCell_toArray (elOne x)) ?_
  generalize W2.setCells s.a (k * 7 + 3) (elC x).toArray.toList = W3 at *
  have HW3 := Lib.hid hT3
  have hS4 : (fun w' : World => w'.rangeAt b2 0 (elC x)) W3 := range_ HW3.out.pull4
  refine hK'.out _ _ hS4 (fun hS5 => ?_)
  refine wpAnyH_done (by kernel_rfl) ?_ _
  clear hS0 hS2 hS3 hS4 hS5 hth hT2 hT3 hcell hfree1 hK hK'
  have hr0 := HW3.out.pull3.cell 0 rfl
  have hr1 := HW3.out.pull3.cell 1 rfl
  have hrf0 := HW3.out.pull3.free 0
  have hrf1 := HW3.out.pull3.free 1
  have hg0 := HW3.out.slCell (k * 7 + 0) (flat_get Pl.len (get_set_self Hk.out _) rfl)
  rw [Nat.add_zero] at hg0
  go_wp2
  (try simp only [Exit.inBlock, Exit.then])
  refine bodyPost_ret (v := .tuple #[vr k gen, vi 0]) (by rw [results_cell_tmp rfl]; go_simp) rfl ?_
  refine ⟨rfl, ?_⟩
  have a7 := (((HW3.out.pull3.store 0 (vi k)).store 1 (vu gen)).dropL.pull3.dropL.pull3).slCut n (by omega)
  refine TblIs.shut (s := ⟨s.a, s.cap, some ⟨fa, 0, none⟩, n⟩) ⟨hok.out, ?_⟩
  refine a7.cast ?_
  have hl : (ps.set k (⟨gen, true, retired, x⟩ : Pl)).length = ps.length := List.length_set
  have hx : ((free ++ [k]).map fun k : Nat => vi k).take (n * 1) = free.map fun k : Nat => vi k := by
    rw [Nat.mul_one, List.map_append, Hn.out, List.take_left' (by simp)]
  rw [hx]
  simp only [tblB, tblL, tblF, TblS.lv, TblS.fv, hl, ← Hn.out, List.set_cons_succ, List.set_cons_zero]
  ac_rfl
theorem put_no (h : Sat w0 (tblP p ps [] * F) w) (x : El) :
    Calls Try.prog 36 #[vp p, ev x] w fun e w' => e = .returned (.tuple #[vr 0 0, vi 3]) ∧ Sat w0 (tblP p ps [] * F) w' := by
  obtain ⟨s, hs⟩ := open_ h
  exact put_full hs x
theorem put_yes {k : Nat} {a : Pl} (h : Sat w0 (tblP p ps (free ++ [k]) * F) w) (hk : ps[k]? = some a) (x : El) :
    Calls Try.prog 36 #[vp p, ev x] w fun e w' => e = .returned (.tuple #[vr k a.gen, vi 0]) ∧ Sat w0 (tblP p (ps.set k { a with there := true, x := x }) free * F) w' := by
  obtain ⟨s, hs⟩ := open_ h
  exact put_come hs hk x

end
end Go.Proofs.Ytknodagcmachiaa.Ac
