/-
  Contracts of the reference's Charge where one is used. No statement is proved here.
-/
import Derived.Test.YtknodagcmachiaaFi9
import Derived.Test.YtknodagcmachiaaMg5
import Derived.Test.YtknodagcmachiaaMg1
import Derived.ProofKit
import Derived.OpenShut
import Derived.ChangeOld
import Derived.ChangeSame
import Derived.Deep.Slices
import Derived.Deep.Fields
namespace Go.Proofs.Ytknodagcmachiaa.Fi
open Go.RowKit
set_option linter.unusedVariables false

section
variable {w : World} {v : Value} {l : List Rf} {now period most : Int}
set_option maxRecDepth 100000 in
set_option maxHeartbeats 8000000 in
theorem rcharge_yes (h : RdF w v l) (hl : l.length ≤ 1000) (hn : U64 now) (hp : U64 period) (hc : ChOk l now period most) :
    Calls Try.prog 88 #[v, vu now, vu period, vi most] w fun e w' => ∃ v', e = .returned (.tuple #[v', .bool true]) ∧ Sat w (fiS v' (chargeL l now period most) * emp) w' := by
  have HD : Hid (∀ w', Below w.heap.size w w' → Calls Try.prog 102 #[v, vu now] w' fun e w2 => ∃ v', e = .returned v' ∧ Sat w' (fiS v' (dueL l now) * emp) w2) := Lib.hid fun w' hb => rdue now (h.below hb) (by omega) hc.may
  obtain ⟨ao, cap, rfl⟩ := h.rd.len
  have HM : Hid (∀ w', Below w.heap.size w w' → Calls Try.prog 21 #[.slice ao l.length cap] w' fun e w2 => e = .returned (.bool true) ∧ Below w'.heap.size w' w2) := Lib.hid fun w' hb => by
    have := rmay l _ w' (h.below hb) (by omega)
    rw [mayB_yes hc.may] at this
    exact this
  have HA := Lib.hid (radd now period hn hp w)
  have hfi := hc.fits
  rw [show addP now period = some (now + period) by rw [addP, if_neg (by omega)]] at HA
  have HA2 : Hid (Calls Try.prog 55 #[vu now, vu period] w fun e w' => e = .returned (.tuple #[vu (now + period), .bool true]) ∧ w = w') := HA
  have hl0 : 0 < l.length := by have := hc.th; have := thN_le l now; omega
  obtain ⟨z0, hz0⟩ : ∃ r, l[0]? = some r := ⟨l[0], List.getElem?_eq_getElem hl0⟩
  have hat0 : z0.at_ ≤ now := thN_in l now 0 z0 (by have := hc.th; omega) hz0
  obtain ⟨b, off, rfl, y0, y1, -⟩ := h.at_ hz0
  have X1 : Hid (∀ w', Below w.heap.size w w' → w'.cell? ⟨b, off + 1, none⟩ = some (vu z0.at_)) := Lib.hid fun w' hb => by
    have := (hb.cell (p := ⟨b, off + 0 * 2 + 1, none⟩) (lt_cell y1)).trans y1
    simpa using this
  obtain ⟨r, t, hd, hat, h1⟩ := due_cons hc.may h.ok hc.th
  have hm := may_due (now := now) hc.may h.ok
  have hk := ok_due (now := now) hc.may h.ok
  have hdl := due_len l now
  have htd := tot_due l now
  have hfit := hc.may.fit
  have HCL : Hid (chargeL l now period most = putL (lessL (r :: t) 1) (now + period) most) := Lib.hid (by rw [chargeL, hd])
  rw [hd] at HD hm hk hdl htd
  obtain ⟨a1, a2, a3, a4⟩ := less_may hm hk (k := 1) (by omega) h1
  have hm1 : ¬ (most < 1) := by have := hc.m1; omega
  have hln : ¬ (most < (l.length : Int)) := by have := hc.len; omega
  have hper : (period == 0) = false := beq_eq_false_iff_ne.2 hc.per
  have hl00 : ((l.length : Int) == 0) = false := beq_eq_false_iff_ne.2 (by omega)
  have hl01 : (0 : Int) < (l.length : Int) := by omega
  have hru := hk.head.1
  have hwr : IntKind.u64.wrap (r.amount - 1) = r.amount - 1 := IntWalk.u64_in _ (by unfold U64 at hru; omega)
  have HH1 := Lib.hid h1
  have HK := Lib.hid hk
  have HMD := Lib.hid hm
  clear hd hm hk HA hat h1 h hn hp hc y0 y1 hz0 hru
  generalize hbk : now + period = back at *
  have HBK := Lib.hid hbk
  clear hbk
  have HA1 := Lib.hid a1
  have HAA := Lib.hid a2
  have HA3 := Lib.hid a3
  have HTD := Lib.hid htd
  have HFIT := Lib.hid hfit
  have hol : (lessL (r :: t) 1).length ≤ 1000 := by simp at a4 hdl; omega
  have htl : t.length ≤ 1000 := by simp at hdl; omega
  clear a1 a2 a3 a4 htd hfit hdl
  go_enter Try.func88, Try.ntmps88
  go_wp2_with (first
    | (go_at_call 55; refine HA2.out.mono ?_; rintro e w' ⟨rfl, rfl⟩)
    | (go_at_call 21; refine (HM.out _ (Below.refl _ _)).mono ?_; rintro e w1 ⟨rfl, hb⟩; have x1 := X1.out _ hb; have HB1 := Lib.hid hb; clear hb))
  refine (HD.out _ HB1.out).mono ?_
  rintro e w3 ⟨v1, rfl, h⟩
  obtain ⟨g, so, scap, rfl⟩ := h.sloPos (by simp)
  have hcap := h.sloCap
  have c0 : w3.cell? ⟨g, so, none⟩ = some (vu r.amount) := h.sloCell 0 rfl
  have f0 := h.sloFree so
  have h2 := h.sloStore 0 (by simp) (vu (r.amount - 1))
  have e2 : (rflat (r :: t)).set 0 (vu (r.amount - 1)) = rflat (⟨r.amount - 1, r.at_⟩ :: t) := rfl
  rw [e2, Nat.add_zero] at h2
  have h2 : Sat w1 (fiS (.slice (some ⟨g, so, none⟩) (t.length + 1) scap) (⟨r.amount - 1, r.at_⟩ :: t) * emp) (w3.setCell ⟨g, so, none⟩ (vu (r.amount - 1))) := h2
  have d0 : (w3.setCell ⟨g, so, none⟩ (vu (r.amount - 1))).cell? ⟨g, so, none⟩ = some (vu (r.amount - 1)) := h2.sloCell 0 rfl
  have hpos : (0 : Int) < ((t.length : Int) + 1) := by omega
  have hc1' : t.length + 1 ≤ scap := by have := hcap.1; simpa using this
  have hc1 : ((t.length : Int) + 1) ≤ (scap : Int) := by omega
  simp only [List.length_cons] at *
  by_cases hz : r.amount - 1 = 0
  · have hle : lessL (r :: t) 1 = t := by rw [lessL_cons, if_pos hz]
    have hz2 : (r.amount - 1 == 0) = true := by simp [hz]
    rw [hle] at HCL hol HA1 HAA HA3
    rcases List.eq_nil_or_concat t with rfl | ⟨init, x, rfl⟩
    · rw [putL_nil] at HCL
      have hS9 := h2.dropL.sloOne (size := 2) 61 [vu 1, vu back] rfl
      have e9 : (w3.setCell ⟨g, so, none⟩ (vu (r.amount - 1))).heap.size = w3.heap.size := by simp
      rw [e9] at hS9
      have HS := Lib.hid hS9
      clear h h2 hle hz hcap hS9 e9
      by_cases hcp : scap = 1
      all_goals
        go_wp2
        go_ret2
        refine ⟨_, rfl, ?_⟩
        rw [HCL.out]
        exact Sat.base HB1.out HS.out
    · rw [List.concat_eq_append] at *
      have hcp3 : 1 < scap := by simp at hc1'; omega
      have hcp1 : ¬ scap = 1 := by omega
      have HT := h2.sloTail (so + 2) (.inr rfl)
      have e3 : (rflat (⟨r.amount - 1, r.at_⟩ :: (init ++ [x]))).drop 2 = rflat (init ++ [x]) := rfl
      rw [e3] at HT
      have hx := HAA.out x (by simp)
      rw [putL_app] at HCL
      have htx : x.amount + 1 ≤ 18446744073709551615 := by
        have a3 := HA3.out
        have htd := HTD.out
        have hfit := HFIT.out
        rw [tot_append] at a3
        have := tot_nonneg (l := init) (OkL.sub HAA.out fun z hz => by simp [hz])
        simp only [tot] at a3 htd
        omega
      have hwx : IntKind.u64.wrap (x.amount + 1) = x.amount + 1 := IntWalk.u64_in _ (by unfold U64 at hx; omega)
      obtain ⟨m, hmm⟩ : ∃ m, m = init.length := ⟨_, rfl⟩
      have HMM := Lib.hid hmm
      have hnn : (init ++ [x]).length = m + 1 := by simp [hmm]
      rw [hnn] at HT hol
      obtain ⟨n, hnm⟩ : ∃ n, n = m + 1 := ⟨_, rfl⟩
      rw [← hnm] at HT hol
      have htn : (init ++ [x]).length = n := by rw [hnn, hnm]
      rw [htn] at *
      rw [← hmm, show m + 1 = n from hnm.symm] at HCL
      have HNM := Lib.hid hnm
      obtain ⟨k0, k1, kf⟩ := fi_lastN HT hmm hnm
      have kf0 := kf (so + 2 + m * 2)
      have kf1 := kf (so + 2 + m * 2 + 1)
      have HS4 := Lib.hid HT
      have hnz : ((n : Int) == 0) = false := beq_eq_false_iff_ne.2 (by omega)
      have hnw : IntKind.i64.wrap ((n : Int) - 1) = (m : Int) := by rw [IntWalk.i64_in _ (by omega)]; omega
      have hmlt : (m : Int) < (n : Int) := by omega
      have hmost : n ≤ 1000 := hol
      have hadd : (n : Int) + 1 - 1 = (n : Int) := by omega
      clear hnn htn hnm hmm kf HT h2 h hle hz hcap hx htx e3
      by_cases hb : back ≤ x.at_
      · rw [if_pos hb] at HCL
        go_wp2
        all_goals
          go_ret2
          refine ⟨_, rfl, ?_⟩
          rw [HCL.out]
          exact slo_m (Sat.base HB1.out (fi_setAN HS4.out HMM.out HNM.out (x.amount + 1))) (by have := HMM.out; have := HNM.out; simp; omega)
      · rw [if_neg hb] at HCL
        by_cases hlm : (n : Int) < most
        · rw [if_pos hlm] at HCL
          go_wp2_with (at_builtin; refine wpList_append_slo Efi rfl (.tmp 103) (.tmp 106) rfl (by rfl) (HS4.out.alloc' _) (by rfl) (Rd.two' _ _ (vu 1) (vu back) (by simp)) (by simp [Value.oneCell']) (by unfold maxLen; omega) (by omega) ?_; intro ao6 cap6 w6 hS6; have H6 := Lib.hid hS6; clear hS6)
          all_goals
            go_ret2
            refine ⟨_, rfl, ?_⟩
            rw [HCL.out]
            refine slo_m (n := n + 1) (Sat.base HB1.out ?_) (by have := HMM.out; have := HNM.out; simp; omega)
            rw [rflat_snoc]
            exact H6.out
        · rw [if_neg hlm] at HCL
          go_wp2
          all_goals
            go_ret2
            refine ⟨_, rfl, ?_⟩
            rw [HCL.out]
            exact slo_m (Sat.base HB1.out (fi_setTN (fi_setAN HS4.out HMM.out HNM.out (x.amount + 1)) HMM.out HNM.out back)) (by have := HMM.out; have := HNM.out; simp; omega)
  · have hle : lessL (r :: t) 1 = ⟨r.amount - 1, r.at_⟩ :: t := by rw [lessL_cons, if_neg hz]
    have hz2 : (r.amount - 1 == 0) = false := beq_eq_false_iff_ne.2 hz
    rw [hle] at HCL hol HA1 HAA HA3
    obtain ⟨init, x, hix⟩ : ∃ init x, (⟨r.amount - 1, r.at_⟩ :: t : List Rf) = init ++ [x] := by
      rcases List.eq_nil_or_concat (⟨r.amount - 1, r.at_⟩ :: t : List Rf) with h5 | ⟨i5, x5, h5⟩
      · cases h5
      · exact ⟨i5, x5, by rw [h5, List.concat_eq_append]⟩
    rw [hix] at HCL hol HA1 HAA HA3 h2
    have hlen5 : t.length + 1 = (init ++ [x]).length := by rw [← hix]; rfl
    have hx := HAA.out x (by simp)
    rw [putL_app] at HCL
    have htx : x.amount + 1 ≤ 18446744073709551615 := by
      have a3 := HA3.out
      have htd := HTD.out
      have hfit := HFIT.out
      rw [tot_append] at a3
      have := tot_nonneg (l := init) (OkL.sub HAA.out fun z hz => by simp [hz])
      simp only [tot] at a3 htd
      omega
    have hwx : IntKind.u64.wrap (x.amount + 1) = x.amount + 1 := IntWalk.u64_in _ (by unfold U64 at hx; omega)
    obtain ⟨m, hmm⟩ : ∃ m, m = init.length := ⟨_, rfl⟩
    have HMM := Lib.hid hmm
    have hnn : (init ++ [x]).length = m + 1 := by simp [hmm]
    have hnt : t.length = m := by omega
    have h2' := slo_n h2 hnn
    rw [hnn] at hol
    obtain ⟨n, hnm⟩ : ∃ n, n = m + 1 := ⟨_, rfl⟩
    rw [show m + 1 = n from hnm.symm] at h2' hol
    have e7 : t.length + 1 = n := by omega
    rw [e7] at h2' hc1' ⊢
    rw [← hmm, show m + 1 = n from hnm.symm] at HCL
    have HNM := Lib.hid hnm
    obtain ⟨k0, k1, kf⟩ := fi_lastN h2' hmm hnm
    have kf0 := kf (so + m * 2)
    have kf1 := kf (so + m * 2 + 1)
    have HS4 := Lib.hid h2'
    have hnz : ((n : Int) == 0) = false := beq_eq_false_iff_ne.2 (by omega)
    have hnw : IntKind.i64.wrap ((n : Int) - 1) = (m : Int) := by rw [IntWalk.i64_in _ (by omega)]; omega
    have hmlt : (m : Int) < (n : Int) := by omega
    have hmost : n ≤ 1000 := hol
    have hnp : (0 : Int) < (n : Int) := by omega
    have hnp2 : 0 < n := by omega
    clear hnn hnm hmm kf h2 h2' h hle hz hcap hx htx hix hlen5 hnt e7
    by_cases hb : back ≤ x.at_
    · rw [if_pos hb] at HCL
      go_wp2
      all_goals
        go_ret2
        refine ⟨_, rfl, ?_⟩
        rw [HCL.out]
        exact slo_m (Sat.base HB1.out (fi_setAN HS4.out HMM.out HNM.out (x.amount + 1))) (by have := HMM.out; have := HNM.out; simp; omega)
    · rw [if_neg hb] at HCL
      by_cases hlm : (n : Int) < most
      · rw [if_pos hlm] at HCL
        go_wp2_with (at_builtin; refine wpList_append_slo Efi rfl (.tmp 103) (.tmp 106) rfl (by rfl) (HS4.out.alloc' _) (by rfl) (Rd.two' _ _ (vu 1) (vu back) (by simp)) (by simp [Value.oneCell']) (by unfold maxLen; omega) (by omega) ?_; intro ao6 cap6 w6 hS6; have H6 := Lib.hid hS6; clear hS6)
        all_goals
          go_ret2
          refine ⟨_, rfl, ?_⟩
          rw [HCL.out]
          refine slo_m (n := n + 1) (Sat.base HB1.out ?_) (by have := HMM.out; have := HNM.out; simp; omega)
          rw [rflat_snoc]
          exact H6.out
      · rw [if_neg hlm] at HCL
        go_wp2
        all_goals
          go_ret2
          refine ⟨_, rfl, ?_⟩
          rw [HCL.out]
          exact slo_m (Sat.base HB1.out (fi_setTN (fi_setAN HS4.out HMM.out HNM.out (x.amount + 1)) HMM.out HNM.out back)) (by have := HMM.out; have := HNM.out; simp; omega)
end
end Go.Proofs.Ytknodagcmachiaa.Fi

namespace Go.Proofs.Ytknodagcmachiaa.Fi
open Go.RowKit
set_option linter.unusedVariables false

set_option maxRecDepth 100000 in
/-- Two lists are the same: the reference says so. -/
theorem rsame_yes (l : List Rf) (v u : Value) (w : World) (h : RdF w v l) (h' : RdF w u l) (hl : l.length ≤ 1000000) :
    Calls Try.prog 57 #[v, u] w fun e w' => e = .returned (.bool true) ∧ ∃ k, w' = w.drewN k := by
  obtain ⟨ao, cap, rfl⟩ := h.rd.len
  obtain ⟨bo, bcap, rfl⟩ := h'.rd.len
  go_enter Try.func57, Try.ntmps57
  go_wp2
  go_loopw [5] (fun i wr => ∃ (k n : Nat), k ≤ l.length ∧ i = vi k ∧ wr = w.drewN n) (fun i _ => l.length - (intOf i).toNat)
  case atStart => exact ⟨0, 0, Nat.zero_le _, rfl, rfl⟩
  case round =>
    obtain ⟨k, n, hk, rfl, rfl⟩ := hrel
    by_cases hlt : k < l.length
    · obtain ⟨r, hr⟩ : ∃ r, l[k]? = some r := ⟨l[k], List.getElem?_eq_getElem hlt⟩
      obtain ⟨b, off, c, hv, hc⟩ := (h.rd.drewN n).pos (by omega)
      cases hv
      obtain ⟨b2, off2, c2, hv2, hc2⟩ := (h'.rd.drewN n).pos (by omega)
      cases hv2
      have c0 := hc (k * 2 + 0) _ (flat_get Rf.len hr rfl)
      have c1 := hc (k * 2 + 1) _ (flat_get Rf.len hr rfl)
      have d0 := hc2 (k * 2 + 0) _ (flat_get Rf.len hr rfl)
      have d1 := hc2 (k * 2 + 1) _ (flat_get Rf.len hr rfl)
      rw [Nat.add_zero] at c0 d0
      rw [← Nat.add_assoc] at c1 d1
      have hkl : (k : Int) < (l.length : Int) := by omega
      clear hc hc2 hr
      generalize hwn : w.drewN n = wn at *
      have HW := Lib.hid hwn
      clear hwn
      go_wp2
      go_quiet (fail)
      go_wp2
      go_roundw
      case rel => exact ⟨k + 1, _, by omega, by go_num, by rw [← HW.out]; exact World.drewN_drewN _ _ _⟩
      case measure => (simp [intOf]; try omega)
    · obtain rfl : k = l.length := by omega
      go_wp2
      go_ret
      exact ⟨rfl, n, rfl⟩
end Go.Proofs.Ytknodagcmachiaa.Fi

namespace Go.Proofs.Ytknodagcmachiaa
open Go.RowKit
open Go.ChangeShapes Go.WideShapes Go.Deep
set_option linter.unusedVariables false

section
variable {H : Type} {enc : TypeId × Value → H} {P : Program} {w : World} {base : Nat} {spare : Nat → Bool} {held : Bool}
theorem open_slice_fields {t e : TypeId} {fs : Array Field} {fuel : Nat} {cs : List Value} {x : DataW H × List MemPlace} (ht : P.underlying t = some (.slice e)) (he : P.underlying e = some (.struct fs))
    (hone : oneCellFields P fs = true) (hC : P.cellsOf e = fs.size) (h : DataW.trod enc P w base spare held fuel t cs = some x) :
    (cs = [.slice none 0 0] ∧ x = (.nil, [])) ∨
    ∃ (a : Addr) (len cap m : Nat) (D : Nat → DataW H) (Pl : Nat → List MemPlace), cs = [.slice (some a) len cap] ∧ base ≤ a.block ∧ len ≤ cap ∧ cap ≤ maxLen ∧ m = (if spare a.block then cap else len) ∧
      x = (.slice ((List.range len).map D) ((List.range (m - len)).map fun j => D (len + j)), MemPlace.row a (m * fs.size) ++ (List.range m).flatMap Pl) ∧
      ∀ i, i < m → ∃ (ys : List (DataW H × List MemPlace)) (n : Nat), D i = .agg (ys.map (·.1)) ∧ Pl i = ys.flatMap (·.2) ∧ ys.length = fs.size ∧
        ∀ (j : Nat) (f : Field), fs[j]? = some f → ∃ (v : Value) (y : DataW H × List MemPlace), w.cell? (a.add (i * fs.size + j)) = some v ∧ ys[j]? = some y ∧ DataW.trod enc P w base spare held n f.type [v] = some y := by
  rcases open_slice ht h with h0 | ⟨a, len, cap, m, n, D, Pl, hcs, hb, hl, hm, hmm, hx, hi⟩
  · exact .inl h0
  · refine .inr ⟨a, len, cap, m, D, Pl, hcs, hb, hl, hm, hmm, by rw [hC] at hx; exact hx, fun i him => ?_⟩
    obtain ⟨cs', hc, ht'⟩ := hi i him
    rw [hC] at hc
    obtain ⟨ys, n', hn', hy, hlen, hyl, hf⟩ := DataW.trod_struct he ht'
    obtain ⟨_, hcl, hat⟩ := World.cells?_some hc
    simp only [Prod.mk.injEq] at hy
    refine ⟨ys, n', hy.1, hy.2, hyl, fun j f hj => ?_⟩
    obtain ⟨ho, hk⟩ := hone_of hone j f hj
    have hjl : j < fs.size := (Array.getElem?_eq_some_iff.1 hj).1
    have hcell := hat j hjl
    have hv : cs'[j]? = some (cs'[j]'(by omega)) := List.getElem?_eq_getElem (by omega)
    have h1 := hf j f hj
    rw [ho, hk] at h1
    have hone' : (cs'.drop j).take 1 = [cs'[j]'(by omega)] := by
      rw [List.drop_eq_getElem_cons (by omega)]
      rfl
    rw [hone'] at h1
    have hys : ys[j]? = some (ys[j]'(by omega)) := List.getElem?_eq_getElem (by omega)
    refine ⟨_, _, ?_, hys, h1.trans hys⟩
    rw [← Go.Deep.add_add, hcell, hv]
end

/-- A slice that came in: n elements of so many int cells each; cell j holds the number A j, of the kind that its place in the element has. -/
structure ArgK (w0 : World) (size : Nat) (K : Nat → IntKind) (v : Value) (n : Nat) (A : Nat → Int) : Prop where
  form : (n = 0 ∧ ∃ ao cap, v = .slice ao 0 cap) ∨ ∃ b off cap, v = .slice (some ⟨b, off, none⟩) n cap ∧ b < w0.heap.size ∧ ∀ j, j < n * size → w0.cell? ⟨b, off + j, none⟩ = some (.int (K (j % size)) (A j))
  wf : ∀ j, j < n * size → (Lit.int (K (j % size)) (A j)).wf = true
  small : n ≤ maxLen

def cellNum (w : World) (a : Addr) : Int := match w.cell? a with | some (.int _ x) => x | _ => 0

section
variable {H : Type} {enc : TypeId × Value → H} {P : Program} {w : World} {base : Nat} {spare : Nat → Bool} {held : Bool}
theorem ArgK.of_cells {size : Nat} {K : Nat → IntKind} {a : Addr} {len cap : Nat} (hs : 0 < size) (hl : len ≤ cap) (hm : cap ≤ maxLen)
    (h : ∀ i, i < len → ∀ j, j < size → ∃ x, w.cell? (a.add (i * size + j)) = some (.int (K j) x) ∧ (Lit.int (K j) x).wf = true) : ∃ A, ArgK w size K (.slice (some a) len cap) len A := by
  by_cases h0 : len = 0
  · subst h0
    exact ⟨fun _ => 0, .inl ⟨rfl, _, _, rfl⟩, fun j hj => by omega, Nat.zero_le _⟩
  · obtain ⟨x0, hx0, _⟩ := h 0 (by omega) 0 hs
    have hspot : a.spot = none := by simpa [Addr.add] using World.cell?_spot hx0
    obtain ⟨b, off, spot⟩ := a
    have hspot : spot = none := hspot
    subst hspot
    have hall : ∀ j, j < len * size → ∃ x, w.cell? ⟨b, off + j, none⟩ = some (.int (K (j % size)) x) ∧ (Lit.int (K (j % size)) x).wf = true := by
      intro j hj
      have h1 : j / size < len := by rw [Nat.div_lt_iff_lt_mul hs]; exact hj
      obtain ⟨x, hx, hw⟩ := h (j / size) h1 (j % size) (Nat.mod_lt _ hs)
      rw [Rd.add, Nat.mul_comm, Nat.div_add_mod] at hx
      exact ⟨x, hx, hw⟩
    refine ⟨fun j => cellNum w ⟨b, off + j, none⟩, .inr ⟨b, off, cap, rfl, by have := World.block_lt_of_cell? w _ hx0; simpa [Rd.add] using this, ?_⟩, ?_, by omega⟩
    · intro j hj
      obtain ⟨x, hx, _⟩ := hall j hj
      simp [cellNum, hx]
    · intro j hj
      obtain ⟨x, hx, hw⟩ := hall j hj
      simpa [cellNum, hx] using hw

theorem argK_ints {t e : TypeId} {k : IntKind} {v : Value} {d : DataW H} {p : List MemPlace} (ht : P.underlying t = some (.slice e)) (he : P.underlying e = some (.int k)) (hC : P.cellsOf e = 1)
    (hv : ∃ ao n cap, v = .slice ao n cap) (h : DataW.Trod enc P w base spare held t v d p) : ∃ n A, ArgK w 1 (fun _ => k) v n A := by
  obtain ⟨ao, n, cap, rfl⟩ := hv
  obtain ⟨fuel, hf⟩ := h
  rcases open_ints ht he hC hf with ⟨hcs, _⟩ | ⟨x, l, c, zs, hcs, _, hl, hm, hz, _, hcell, hwz⟩
  · simp [Value.cells] at hcs
    obtain ⟨rfl, rfl, rfl⟩ := hcs
    exact ⟨0, fun _ => 0, .inl ⟨rfl, _, _, rfl⟩, fun j hj => by omega, Nat.zero_le _⟩
  · simp [Value.cells] at hcs
    obtain ⟨rfl, rfl, rfl⟩ := hcs
    refine ⟨n, ArgK.of_cells (by omega) hl hm (fun i hi j hj => ?_)⟩
    obtain rfl : j = 0 := by omega
    have hi2 : i < zs.length := by rw [hz]; split <;> omega
    rw [Nat.mul_one, Nat.add_zero]
    refine ⟨_, hcell i hi2, ?_⟩
    have := hwz zs[i] (List.getElem_mem hi2)
    simpa [hi2] using this

theorem argK_structs {t e : TypeId} {fs : Array Field} {K : Nat → IntKind} {v : Value} {d : DataW H} {p : List MemPlace} (ht : P.underlying t = some (.slice e)) (he : P.underlying e = some (.struct fs))
    (hone : oneCellFields P fs = true) (hC : P.cellsOf e = fs.size) (hpos : 0 < fs.size) (hk : ∀ (j : Nat) (f : Field), fs[j]? = some f → P.underlying f.type = some (.int (K j)))
    (hv : ∃ ao n cap, v = .slice ao n cap) (h : DataW.Trod enc P w base spare held t v d p) : ∃ n A, ArgK w fs.size K v n A := by
  obtain ⟨ao, n, cap, rfl⟩ := hv
  obtain ⟨fuel, hf⟩ := h
  rcases open_slice_fields ht he hone hC hf with ⟨hcs, _⟩ | ⟨a, l, c, m, D, Pl, hcs, _, hl, hm, hmm, _, hcell⟩
  · simp [Value.cells] at hcs
    obtain ⟨rfl, rfl, rfl⟩ := hcs
    exact ⟨0, fun _ => 0, .inl ⟨rfl, _, _, rfl⟩, fun j hj => by omega, Nat.zero_le _⟩
  · simp [Value.cells] at hcs
    obtain ⟨rfl, rfl, rfl⟩ := hcs
    refine ⟨n, ArgK.of_cells hpos hl hm (fun i hi j hj => ?_)⟩
    have him : i < m := by rw [hmm]; split <;> omega
    obtain ⟨ys, nn, _, _, _, hfj⟩ := hcell i him
    obtain ⟨v, y, hc, _, ht⟩ := hfj j fs[j] (Array.getElem?_eq_getElem hj)
    obtain ⟨x, hx, _, hw⟩ := DataW.trod_int (hk j fs[j] (Array.getElem?_eq_getElem hj)) ht
    simp at hx
    subst hx
    exact ⟨x, hc, hw⟩
end
end Go.Proofs.Ytknodagcmachiaa
