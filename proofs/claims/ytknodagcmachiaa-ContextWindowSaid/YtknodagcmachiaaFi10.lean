/-
  Contracts of the reference's Charge where one is used. No statement is proved here.
-/
import Derived.Test.YtknodagcmachiaaFi9
namespace Go.Proofs.Ytknodagcmachiaa.Fi
open Go.RowKit
set_option linter.unusedVariables false

section
variable {w : World} {v : Value} {l : List Rf} {now period most : Int}
set_option maxRecDepth 100000 in
set_option maxHeartbeats 8000000 in
theorem rcharge_yes (h : RdF w v l) (hl : l.length ≤ 1000) (hn : U64 now) (hp : U64 period) (hc : ChOk l now period most) :
    Calls Try.prog 88 #[v, vu now, vu period, vi most] w fun e w' => ∃ v', e = .returned (.tuple #[v', .bool true]) ∧ Sat w (fiS v' (chargeL l now period most) * emp) w' := by
  have HD : Hid (∀ w', Below w.heap.size w w' → Calls Try.prog 102 #[v, vu now] w' fun e w2 => ∃ v', e = .returned v' ∧ Sat w' (fiS v' (dueL l now) * emp) w2) := Lib.hid fun w' hb => rdue now (h.below hb) (by omega) hc.may
  obtain ⟨ao, cap, rfl⟩ := h.rd.len
  have HM : Hid (∀ w', Below w.heap.size w w' → Calls Try.prog 21 #[.slice ao l.length cap] w' fun e w2 => e = .returned (.bool true) ∧ Below w'.heap.size w' w2) := Lib.hid fun w' hb => by
    have := rmay l _ w' (h.below hb) (by omega)
    rw [mayB_yes hc.may] at this
    exact this
  have HA := Lib.hid (radd now period hn hp w)
  have hfi := hc.fits
  rw [show addP now period = some (now + period) by rw [addP, if_neg (by omega)]] at HA
  have HA2 : Hid (Calls Try.prog 55 #[vu now, vu period] w fun e w' => e = .returned (.tuple #[vu (now + period), .bool true]) ∧ w = w') := HA
  have hl0 : 0 < l.length := by have := hc.th; have := thN_le l now; omega
  obtain ⟨z0, hz0⟩ : ∃ r, l[0]? = some r := ⟨l[0], List.getElem?_eq_getElem hl0⟩
  have hat0 : z0.at_ ≤ now := thN_in l now 0 z0 (by have := hc.th; omega) hz0
  obtain ⟨b, off, rfl, y0, y1, -⟩ := h.at_ hz0
  have X1 : Hid (∀ w', Below w.heap.size w w' → w'.cell? ⟨b, off + 1, none⟩ = some (vu z0.at_)) := Lib.hid fun w' hb => by
    have := (hb.cell (p := ⟨b, off + 0 * 2 + 1, none⟩) (lt_cell y1)).trans y1
    simpa using this
  obtain ⟨r, t, hd, hat, h1⟩ := due_cons hc.may h.ok hc.th
  have hm := may_due (now := now) hc.may h.ok
  have hk := ok_due (now := now) hc.may h.ok
  have hdl := due_len l now
  have htd := tot_due l now
  have hfit := hc.may.fit
  have HCL : Hid (chargeL l now period most = putL (lessL (r :: t) 1) (now + period) most) := Lib.hid (by rw [chargeL, hd])
  rw [hd] at HD hm hk hdl htd
  obtain ⟨a1, a2, a3, a4⟩ := less_may hm hk (k := 1) (by omega) h1
  have hm1 : ¬ (most < 1) := by have := hc.m1; omega
  have hln : ¬ (most < (l.length : Int)) := by have := hc.len; omega
  have hper : (period == 0) = false := beq_eq_false_iff_ne.2 hc.per
  have hl00 : ((l.length : Int) == 0) = false := beq_eq_false_iff_ne.2 (by omega)
  have hl01 : (0 : Int) < (l.length : Int) := by omega
  have hru := hk.head.1
  have hwr : IntKind.u64.wrap (r.amount - 1) = r.amount - 1 := IntWalk.u64_in _ (by unfold U64 at hru; omega)
  have HH1 := Lib.hid h1
  have HK := Lib.hid hk
  have HMD := Lib.hid hm
  clear hd hm hk HA hat h1 h hn hp hc y0 y1 hz0 hru
  generalize hbk : now + period = back at *
  have HBK := Lib.hid hbk
  clear hbk
  have HA1 := Lib.hid a1
  have HAA := Lib.hid a2
  have HA3 := Lib.hid a3
  have HTD := Lib.hid htd
  have HFIT := Lib.hid hfit
  have hol : (lessL (r :: t) 1).length ≤ 1000 := by simp at a4 hdl; omega
  have htl : t.length ≤ 1000 := by simp at hdl; omega
  clear a1 a2 a3 a4 htd hfit hdl
  go_enter Try.func88, Try.ntmps88
  go_wp2_with (first
    | (go_at_call 55; refine HA2.out.mono ?_; rintro e w' ⟨rfl, rfl⟩)
    | (go_at_call 21; refine (HM.out _ (Below.refl _ _)).mono ?_; rintro e w1 ⟨rfl, hb⟩; have x1 := X1.out _ hb; have HB1 := Lib.hid hb; clear hb))
  refine (HD.out _ HB1.out).mono ?_
  rintro e w3 ⟨v1, rfl, h⟩
  obtain ⟨g, so, scap, rfl⟩ := h.sloPos (by simp)
  have hcap := h.sloCap
  have c0 : w3.cell? ⟨g, so, none⟩ = some (vu r.amount) := h.sloCell 0 rfl
  have f0 := h.sloFree so
  have h2 := h.sloStore 0 (by simp) (vu (r.amount - 1))
  have e2 : (rflat (r :: t)).set 0 (vu (r.amount - 1)) = rflat (⟨r.amount - 1, r.at_⟩ :: t) := rfl
  rw [e2, Nat.add_zero] at h2
  have h2 : Sat w1 (fiS (.slice (some ⟨g, so, none⟩) (t.length + 1) scap) (⟨r.amount - 1, r.at_⟩ :: t) * emp) (w3.setCell ⟨g, so, none⟩ (vu (r.amount - 1))) := h2
  have d0 : (w3.setCell ⟨g, so, none⟩ (vu (r.amount - 1))).cell? ⟨g, so, none⟩ = some (vu (r.amount - 1)) := h2.sloCell 0 rfl
  have hpos : (0 : Int) < ((t.length : Int) + 1) := by omega
  have hc1' : t.length + 1 ≤ scap := by have := hcap.1; simpa using this
  have hc1 : ((t.length : Int) + 1) ≤ (scap : Int) := by omega
  simp only [List.length_cons] at *
  by_cases hz : r.amount - 1 = 0
  · have hle : lessL (r :: t) 1 = t := by rw [lessL_cons, if_pos hz]
    have hz2 : (r.amount - 1 == 0) = true := by simp [hz]
    rw [hle] at HCL hol HA1 HAA HA3
    rcases List.eq_nil_or_concat t with rfl | ⟨init, x, rfl⟩
    · rw [putL_nil] at HCL
      have hS9 := h2.dropL.sloOne (size := 2) 61 [vu 1, vu back] rfl
      have e9 : (w3.setCell ⟨g, so, none⟩ (vu (r.amount - 1))).heap.size = w3.heap.size := by simp
      rw [e9] at hS9
      have HS := Lib.hid hS9
      clear h h2 hle hz hcap hS9 e9
      by_cases hcp : scap = 1
      all_goals
        go_wp2
        go_ret2
        refine ⟨_, rfl, ?_⟩
        rw [HCL.out]
        exact Sat.base HB1.out HS.out
    · rw [List.concat_eq_append] at *
      have hcp3 : 1 < scap := by simp at hc1'; omega
      have hcp1 : ¬ scap = 1 := by omega
      have HT := h2.sloTail (so + 2) (.inr rfl)
      have e3 : (rflat (⟨r.amount - 1, r.at_⟩ :: (init ++ [x]))).drop 2 = rflat (init ++ [x]) := rfl
      rw [e3] at HT
      have hx := HAA.out x (by simp)
      rw [putL_app] at HCL
      have htx : x.amount + 1 ≤ 18446744073709551615 := by
        have a3 := HA3.out
        have htd := HTD.out
        have hfit := HFIT.out
        rw [tot_append] at a3
        have := tot_nonneg (l := init) (OkL.sub HAA.out fun z hz => by simp [hz])
        simp only [tot] at a3 htd
        omega
      have hwx : IntKind.u64.wrap (x.amount + 1) = x.amount + 1 := IntWalk.u64_in _ (by unfold U64 at hx; omega)
      obtain ⟨m, hmm⟩ : ∃ m, m = init.length := ⟨_, rfl⟩
      have HMM := Lib.hid hmm
      have hnn : (init ++ [x]).length = m + 1 := by simp [hmm]
      rw [hnn] at HT hol
      obtain ⟨n, hnm⟩ : ∃ n, n = m + 1 := ⟨_, rfl⟩
      rw [← hnm] at HT hol
      have htn : (init ++ [x]).length = n := by rw [hnn, hnm]
      rw [htn] at *
      rw [← hmm, show m + 1 = n from hnm.symm] at HCL
      have HNM := Lib.hid hnm
      obtain ⟨k0, k1, kf⟩ := fi_lastN HT hmm hnm
      have kf0 := kf (so + 2 + m * 2)
      have kf1 := kf (so + 2 + m * 2 + 1)
      have HS4 := Lib.hid HT
      have hnz : ((n : Int) == 0) = false := beq_eq_false_iff_ne.2 (by omega)
      have hnw : IntKind.i64.wrap ((n : Int) - 1) = (m : Int) := by rw [IntWalk.i64_in _ (by omega)]; omega
      have hmlt : (m : Int) < (n : Int) := by omega
      have hmost : n ≤ 1000 := hol
      have hadd : (n : Int) + 1 - 1 = (n : Int) := by omega
      clear hnn htn hnm hmm kf HT h2 h hle hz hcap hx htx e3
      by_cases hb : back ≤ x.at_
      · rw [if_pos hb] at HCL
        go_wp2
        all_goals
          go_ret2
          refine ⟨_, rfl, ?_⟩
          rw [HCL.out]
          exact slo_m (Sat.base HB1.out (fi_setAN HS4.out HMM.out HNM.out (x.amount + 1))) (by have := HMM.out; have := HNM.out; simp; omega)
      · rw [if_neg hb] at HCL
        by_cases hlm : (n : Int) < most
        · rw [if_pos hlm] at HCL
          go_wp2_with (at_builtin; refine wpList_append_slo Efi rfl (.tmp 103) (.tmp 106) rfl (by rfl) (HS4.out.alloc' _) (by rfl) (Rd.two' _ _ (vu 1) (vu back) (by simp)) (by simp [Value.oneCell']) (by unfold maxLen; omega) (by omega) ?_; intro ao6 cap6 w6 hS6; have H6 := Lib.hid hS6; clear hS6)
          all_goals
            go_ret2
            refine ⟨_, rfl, ?_⟩
            rw [HCL.out]
            refine slo_m (n := n + 1) (Sat.base HB1.out ?_) (by have := HMM.out; have := HNM.out; simp; omega)
            rw [rflat_snoc]
            exact H6.out
        · rw [if_neg hlm] at HCL
          go_wp2
          all_goals
            go_ret2
            refine ⟨_, rfl, ?_⟩
            rw [HCL.out]
            exact slo_m (Sat.base HB1.out (fi_setTN (fi_setAN HS4.out HMM.out HNM.out (x.amount + 1)) HMM.out HNM.out back)) (by have := HMM.out; have := HNM.out; simp; omega)
  · have hle : lessL (r :: t) 1 = ⟨r.amount - 1, r.at_⟩ :: t := by rw [lessL_cons, if_neg hz]
    have hz2 : (r.amount - 1 == 0) = false := beq_eq_false_iff_ne.2 hz
    rw [hle] at HCL hol HA1 HAA HA3
    obtain ⟨init, x, hix⟩ : ∃ init x, (⟨r.amount - 1, r.at_⟩ :: t : List Rf) = init ++ [x] := by
      rcases List.eq_nil_or_concat (⟨r.amount - 1, r.at_⟩ :: t : List Rf) with h5 | ⟨i5, x5, h5⟩
      · cases h5
      · exact ⟨i5, x5, by rw [h5, List.concat_eq_append]⟩
    rw [hix] at HCL hol HA1 HAA HA3 h2
    have hlen5 : t.length + 1 = (init ++ [x]).length := by rw [← hix]; rfl
    have hx := HAA.out x (by simp)
    rw [putL_app] at HCL
    have htx : x.amount + 1 ≤ 18446744073709551615 := by
      have a3 := HA3.out
      have htd := HTD.out
      have hfit := HFIT.out
      rw [tot_append] at a3
      have := tot_nonneg (l := init) (OkL.sub HAA.out fun z hz => by simp [hz])
      simp only [tot] at a3 htd
      omega
    have hwx : IntKind.u64.wrap (x.amount + 1) = x.amount + 1 := IntWalk.u64_in _ (by unfold U64 at hx; omega)
    obtain ⟨m, hmm⟩ : ∃ m, m = init.length := ⟨_, rfl⟩
    have HMM := Lib.hid hmm
    have hnn : (init ++ [x]).length = m + 1 := by simp [hmm]
    have hnt : t.length = m := by omega
    have h2' := slo_n h2 hnn
    rw [hnn] at hol
    obtain ⟨n, hnm⟩ : ∃ n, n = m + 1 := ⟨_, rfl⟩
    rw [show m + 1 = n from hnm.symm] at h2' hol
    have e7 : t.length + 1 = n := by omega
    rw [e7] at h2' hc1' ⊢
    rw [← hmm, show m + 1 = n from hnm.symm] at HCL
    have HNM := Lib.hid hnm
    obtain ⟨k0, k1, kf⟩ := fi_lastN h2' hmm hnm
    have kf0 := kf (so + m * 2)
    have kf1 := kf (so + m * 2 + 1)
    have HS4 := Lib.hid h2'
    have hnz : ((n : Int) == 0) = false := beq_eq_false_iff_ne.2 (by omega)
    have hnw : IntKind.i64.wrap ((n : Int) - 1) = (m : Int) := by rw [IntWalk.i64_in _ (by omega)]; omega
    have hmlt : (m : Int) < (n : Int) := by omega
    have hmost : n ≤ 1000 := hol
    have hnp : (0 : Int) < (n : Int) := by omega
    have hnp2 : 0 < n := by omega
    clear hnn hnm hmm kf h2 h2' h hle hz hcap hx htx hix hlen5 hnt e7
    by_cases hb : back ≤ x.at_
    · rw [if_pos hb] at HCL
      go_wp2
      all_goals
        go_ret2
        refine ⟨_, rfl, ?_⟩
        rw [HCL.out]
        exact slo_m (Sat.base HB1.out (fi_setAN HS4.out HMM.out HNM.out (x.amount + 1))) (by have := HMM.out; have := HNM.out; simp; omega)
    · rw [if_neg hb] at HCL
      by_cases hlm : (n : Int) < most
      · rw [if_pos hlm] at HCL
        go_wp2_with (at_builtin; refine wpList_append_slo Efi rfl (.tmp 103) (.tmp 106) rfl (by rfl) (HS4.out.alloc' _) (by rfl) (Rd.two' _ _ (vu 1) (vu back) (by simp)) (by simp [Value.oneCell']) (by unfold maxLen; omega) (by omega) ?_; intro ao6 cap6 w6 hS6; have H6 := Lib.hid hS6; clear hS6)
        all_goals
          go_ret2
          refine ⟨_, rfl, ?_⟩
          rw [HCL.out]
          refine slo_m (n := n + 1) (Sat.base HB1.out ?_) (by have := HMM.out; have := HNM.out; simp; omega)
          rw [rflat_snoc]
          exact H6.out
      · rw [if_neg hlm] at HCL
        go_wp2
        all_goals
          go_ret2
          refine ⟨_, rfl, ?_⟩
          rw [HCL.out]
          exact slo_m (Sat.base HB1.out (fi_setTN (fi_setAN HS4.out HMM.out HNM.out (x.amount + 1)) HMM.out HNM.out back)) (by have := HMM.out; have := HNM.out; simp; omega)
end
end Go.Proofs.Ytknodagcmachiaa.Fi
