/-
  Contracts of Charge where one is used. No statement is proved here.
-/
import Derived.Test.YtknodagcmachiaaFi8
namespace Go.Proofs.Ytknodagcmachiaa.Fi
open Go.RowKit
set_option linter.unusedVariables false

theorem slo_n {w0 w : World} {F : Hp} {v : Value} {l : List Rf} {n : Nat} (h : Sat w0 (fiS v l * F) w) (hn : l.length = n) : Sat w0 (slo 61 2 v n (rflat l) * F) w := by
  subst hn
  exact h
theorem slo_m {w0 w : World} {F : Hp} {v : Value} {l : List Rf} {n : Nat} (h : Sat w0 (slo 61 2 v n (rflat l) * F) w) (hn : l.length = n) : Sat w0 (fiS v l * F) w := by
  subst hn
  exact h
theorem rflat_snoc (l : List Rf) (r : Rf) : rflat (l ++ [r]) = rflat l ++ [vu r.amount, vu r.at_] := by simp [rflat, List.flatMap_append, Rf.cells]

section
variable {w0 w : World} {F : Hp} {g so cap m n : Nat} {init : List Rf} {x : Rf}
theorem fi_lastN (h : Sat w0 (slo 61 2 (.slice (some ⟨g, so, none⟩) n cap) n (rflat (init ++ [x])) * F) w) (hm : m = init.length) (hn : n = m + 1) :
    w.cell? ⟨g, so + m * 2, none⟩ = some (vu x.amount) ∧ w.cell? ⟨g, so + m * 2 + 1, none⟩ = some (vu x.at_) ∧ (∀ i, w.frozen? ⟨g, i, none⟩ = false) := by
  subst hn
  exact fi_last h hm
theorem fi_setAN (h : Sat w0 (slo 61 2 (.slice (some ⟨g, so, none⟩) n cap) n (rflat (init ++ [x])) * F) w) (hm : m = init.length) (hn : n = m + 1) (a : Int) :
    Sat w0 (slo 61 2 (.slice (some ⟨g, so, none⟩) n cap) n (rflat (init ++ [⟨a, x.at_⟩])) * F) (w.setCell ⟨g, so + m * 2, none⟩ (vu a)) := by
  subst hn
  exact fi_setA h hm a
theorem fi_setTN (h : Sat w0 (slo 61 2 (.slice (some ⟨g, so, none⟩) n cap) n (rflat (init ++ [x])) * F) w) (hm : m = init.length) (hn : n = m + 1) (a : Int) :
    Sat w0 (slo 61 2 (.slice (some ⟨g, so, none⟩) n cap) n (rflat (init ++ [⟨x.amount, a⟩])) * F) (w.setCell ⟨g, so + m * 2 + 1, none⟩ (vu a)) := by
  subst hn
  exact fi_setT h hm a
end
section
variable {w : World} {v : Value} {l : List Rf} {now period most : Int}
set_option maxRecDepth 100000 in
set_option maxHeartbeats 4000000 in
theorem charge_yes (h : RdF w v l) (hrm : Room v l.length) (hl : l.length ≤ 1000) (hn : U64 now) (hp : U64 period) (hc : ChOk l now period most) :
    Calls Try.prog 40 #[v, vu now, vu period, vi most] w fun e w' => ∃ v', e = .returned (.tuple #[v', .bool true]) ∧ Sat w (fiS v' (chargeL l now period most) * emp) w' := by
  have HD : Hid (∀ w', Below w.heap.size w w' → Calls Try.prog 80 #[v, vu now] w' fun e w2 => ∃ v', e = .returned v' ∧ Sat w' (fiS v' (dueL l now) * emp) w2) := Lib.hid fun w' hb => due_yes now (h.below hb) hrm (by omega) hc.may
  obtain ⟨ao, cap, rfl⟩ := h.rd.len
  have HM : Hid (∀ w', Below w.heap.size w w' → Calls Try.prog 77 #[.slice ao l.length cap] w' fun e w2 => e = .returned (.bool true) ∧ Below w'.heap.size w' w2) := Lib.hid fun w' hb => by
    have := may_ l _ w' (h.below hb) (by omega)
    rw [mayB_yes hc.may] at this
    exact this
  have HT : Hid (∀ w', Below w.heap.size w w' → Calls Try.prog 78 #[.slice ao l.length cap, vu now] w' fun e w2 => e = .returned (vi (thN l now)) ∧ Below w'.heap.size w' w2) := Lib.hid fun w' hb => thereN_ l now _ w' (h.below hb) (by omega)
  have HA := Lib.hid (nadd now period hn hp w)
  have hfi := hc.fits
  rw [show addP now period = some (now + period) by rw [addP, if_neg (by omega)]] at HA
  have HA2 : Hid (Calls Try.prog 76 #[vu now, vu period] w fun e w' => e = .returned (.tuple #[vu (now + period), .bool true]) ∧ w = w') := HA
  obtain ⟨r, t, hd, hat, h1⟩ := due_cons hc.may h.ok hc.th
  have hm := may_due (now := now) hc.may h.ok
  have hk := ok_due (now := now) hc.may h.ok
  have hdl := due_len l now
  have htd := tot_due l now
  have hfit := hc.may.fit
  have HCL : Hid (chargeL l now period most = putL (lessL (r :: t) 1) (now + period) most) := Lib.hid (by rw [chargeL, hd])
  rw [hd] at HD hm hk hdl htd
  obtain ⟨a1, a2, a3, a4⟩ := less_may hm hk (k := 1) (by omega) h1
  have HL : Hid (∀ (w0 w : World) (F : Hp) (v : Value), Sat w0 (fiS v (r :: t) * F) w → Calls Try.prog 79 #[v, vu 1] w fun e w' => ∃ v', e = .returned v' ∧ Sat w0 (fiS v' (lessL (r :: t) 1) * F) w') := Lib.hid fun w0 w F v hS => less_ hS hk.head.1 1 (by omega) h1 (by simp at hdl; omega)
  have hthn : ((thN l now : Int) == 0) = false := beq_eq_false_iff_ne.2 (by have := hc.th; omega)
  have hm1 : ¬ (most < 1) := by have := hc.m1; omega
  have hln : ¬ (most < (l.length : Int)) := by have := hc.len; omega
  have hper : (period == 0) = false := beq_eq_false_iff_ne.2 hc.per
  have hll := hc.len
  clear hd hm hk HA hat h1 h hn hp hrm hc
  generalize hout : lessL (r :: t) 1 = out at *
  have HO := Lib.hid hout
  clear hout
  generalize hbk : now + period = back at *
  have HBK := Lib.hid hbk
  clear hbk
  have hol : out.length ≤ 1000 := by simp at a4 hdl; omega
  rcases List.eq_nil_or_concat out with rfl | ⟨init, x, rfl⟩
  · rw [putL_nil] at HCL
    clear a1 a2 a3 a4 htd hdl
    go_enter Try.func40, Try.ntmps40
    go_wp2_with (first
      | (go_at_call 76; rw [HBK.out]; refine HA2.out.mono ?_; rintro e w' ⟨rfl, rfl⟩)
      | (go_at_call 76; refine HA2.out.mono ?_; rintro e w' ⟨rfl, rfl⟩)
      | (go_at_call 77; refine (HM.out _ (Below.refl _ _)).mono ?_; rintro e w1 ⟨rfl, hb⟩; have HB1 := Lib.hid hb; clear hb)
      | (go_at_call 78; refine (HT.out _ HB1.out).mono ?_; rintro e w2 ⟨rfl, hb⟩; have HB2 := Lib.hid (Below.then HB1.out hb); clear hb)
      | (go_at_call 80; refine (HD.out _ HB2.out).mono ?_; rintro e w3 ⟨v1, rfl, hS⟩; have HS3 := Lib.hid hS; clear hS)
      | (go_at_call 79; refine (HL.out _ _ _ _ HS3.out).mono ?_; rintro e w4 ⟨v2, rfl, hS⟩; have hS0 : Sat w2 (slo 61 2 v2 0 [] * emp) w4 := hS; obtain ⟨so, scap, rfl⟩ := hS0.sloForm; have HS4 := Lib.hid hS0; clear hS hS0)
      | (at_builtin; refine wpList_append_slo Efi rfl (.tmp 88) (.tmp 91) rfl (by rfl) (HS4.out.alloc' _) (by rfl) (Rd.two' _ _ (vu 1) (vu back) rfl) (by simp [Value.oneCell']) (by unfold maxLen; omega) (by omega) ?_; intro ao6 cap6 w6 hS6; have H6 := Lib.hid hS6; clear hS6))
    go_ret2
    exact ⟨_, rfl, by rw [HCL.out]; exact Sat.base HB2.out H6.out⟩
  · rw [List.concat_eq_append] at *
    have hx := a2 x (by simp)
    have hx1 := a1.pos init.length x (by simp)
    rw [putL_app] at HCL
    have htx : x.amount + 1 ≤ 18446744073709551615 := by
      rw [tot_append] at a3
      have := tot_nonneg (l := init) (OkL.sub a2 fun z hz => by simp [hz])
      simp only [tot] at a3 htd
      omega
    have hwx : IntKind.u64.wrap (x.amount + 1) = x.amount + 1 := IntWalk.u64_in _ (by unfold U64 at hx; omega)
    obtain ⟨m, hmm⟩ : ∃ m, m = init.length := ⟨_, rfl⟩
    obtain ⟨n, hnm⟩ : ∃ n, n = m + 1 := ⟨_, rfl⟩
    have hnn : (init ++ [x]).length = n := by simp [hmm, hnm]
    rw [hnn] at hol
    have HMM := Lib.hid hmm
    have HNN := Lib.hid hnn
    have HNM := Lib.hid hnm
    have hm0 : ((n : Int) == 0) = false := beq_eq_false_iff_ne.2 (by omega)
    have hmp : (0 : Int) < (n : Int) := by omega
    have hmp2 : 0 < n := by omega
    have hwm : IntKind.i64.wrap ((n : Int) - 1) = (m : Int) := by rw [IntWalk.i64_in _ (by omega)]; omega
    have hmlt : (m : Int) < (n : Int) := by omega
    rw [← hmm, show m + 1 = n from hnm.symm] at HCL
    have hmost : n ≤ 1000 := hol
    clear a1 a2 a3 a4 htd hdl hmm hnn htx hnm
    by_cases hb : back ≤ x.at_
    · rw [if_pos hb] at HCL
      have hmx : max back x.at_ = x.at_ := Int.max_eq_right hb
      go_enter Try.func40, Try.ntmps40
      go_wp2_with (first
        | (go_at_call 76; refine HA2.out.mono ?_; rintro e w' ⟨rfl, rfl⟩)
        | (go_at_call 77; refine (HM.out _ (Below.refl _ _)).mono ?_; rintro e w1 ⟨rfl, hb⟩; have HB1 := Lib.hid hb; clear hb)
        | (go_at_call 78; refine (HT.out _ HB1.out).mono ?_; rintro e w2 ⟨rfl, hb⟩; have HB2 := Lib.hid (Below.then HB1.out hb); clear hb)
        | (go_at_call 80; refine (HD.out _ HB2.out).mono ?_; rintro e w3 ⟨v1, rfl, hS⟩; have HS3 := Lib.hid hS; clear hS)
        | (go_at_call 79; refine (HL.out _ _ _ _ HS3.out).mono ?_; rintro e w4 ⟨v2, rfl, hS⟩; have hS0 := slo_n hS HNN.out; obtain ⟨g, so, scap, rfl⟩ := hS0.sloPos (by omega); obtain ⟨k0, k1, kf⟩ := fi_lastN hS0 HMM.out HNM.out; have kf0 := kf (so + m * 2); have kf1 := kf (so + m * 2 + 1); have HS4 := Lib.hid hS0; clear hS hS0 kf))
      all_goals
        go_ret2
        refine ⟨_, rfl, ?_⟩
        rw [HCL.out]
        exact slo_m (Sat.base HB2.out (fi_setAN HS4.out HMM.out HNM.out (x.amount + 1))) (by have := HMM.out; have := HNM.out; simp; omega)
    · rw [if_neg hb] at HCL
      have hmx : max back x.at_ = back := Int.max_eq_left (by omega)
      have hne : (x.at_ == back) = false := beq_eq_false_iff_ne.2 (by omega)
      by_cases hlm : (n : Int) < most
      · rw [if_pos hlm] at HCL
        go_enter Try.func40, Try.ntmps40
        go_wp2_with (first
          | (go_at_call 76; refine HA2.out.mono ?_; rintro e w' ⟨rfl, rfl⟩)
          | (go_at_call 77; refine (HM.out _ (Below.refl _ _)).mono ?_; rintro e w1 ⟨rfl, hb⟩; have HB1 := Lib.hid hb; clear hb)
          | (go_at_call 78; refine (HT.out _ HB1.out).mono ?_; rintro e w2 ⟨rfl, hb⟩; have HB2 := Lib.hid (Below.then HB1.out hb); clear hb)
          | (go_at_call 80; refine (HD.out _ HB2.out).mono ?_; rintro e w3 ⟨v1, rfl, hS⟩; have HS3 := Lib.hid hS; clear hS)
          | (go_at_call 79; refine (HL.out _ _ _ _ HS3.out).mono ?_; rintro e w4 ⟨v2, rfl, hS⟩; have hS0 := slo_n hS HNN.out; obtain ⟨g, so, scap, rfl⟩ := hS0.sloPos (by omega); obtain ⟨k0, k1, kf⟩ := fi_lastN hS0 HMM.out HNM.out; have kf0 := kf (so + m * 2); have kf1 := kf (so + m * 2 + 1); have HS4 := Lib.hid hS0; clear hS hS0 kf)
          | (at_builtin; refine wpList_append_slo Efi rfl (.tmp 88) (.tmp 91) rfl (by rfl) (HS4.out.alloc' _) (by rfl) (Rd.two' _ _ (vu 1) (vu back) rfl) (by simp [Value.oneCell']) (by unfold maxLen; omega) (by omega) ?_; intro ao6 cap6 w6 hS6; have H6 := Lib.hid hS6; clear hS6))
        all_goals
          go_ret2
          refine ⟨_, rfl, ?_⟩
          rw [HCL.out]
          refine slo_m (n := n + 1) (Sat.base HB2.out ?_) (by have := HMM.out; have := HNM.out; simp; omega)
          rw [rflat_snoc]
          exact H6.out
      · rw [if_neg hlm] at HCL
        go_enter Try.func40, Try.ntmps40
        go_wp2_with (first
          | (go_at_call 76; refine HA2.out.mono ?_; rintro e w' ⟨rfl, rfl⟩)
          | (go_at_call 77; refine (HM.out _ (Below.refl _ _)).mono ?_; rintro e w1 ⟨rfl, hb⟩; have HB1 := Lib.hid hb; clear hb)
          | (go_at_call 78; refine (HT.out _ HB1.out).mono ?_; rintro e w2 ⟨rfl, hb⟩; have HB2 := Lib.hid (Below.then HB1.out hb); clear hb)
          | (go_at_call 80; refine (HD.out _ HB2.out).mono ?_; rintro e w3 ⟨v1, rfl, hS⟩; have HS3 := Lib.hid hS; clear hS)
          | (go_at_call 79; refine (HL.out _ _ _ _ HS3.out).mono ?_; rintro e w4 ⟨v2, rfl, hS⟩; have hS0 := slo_n hS HNN.out; obtain ⟨g, so, scap, rfl⟩ := hS0.sloPos (by omega); obtain ⟨k0, k1, kf⟩ := fi_lastN hS0 HMM.out HNM.out; have kf0 := kf (so + m * 2); have kf1 := kf (so + m * 2 + 1); have HS4 := Lib.hid hS0; clear hS hS0 kf))
        all_goals
          go_ret2
          refine ⟨_, rfl, ?_⟩
          rw [HCL.out]
          exact slo_m (Sat.base HB2.out (fi_setAN (fi_setTN HS4.out HMM.out HNM.out back) HMM.out HNM.out (x.amount + 1))) (by have := HMM.out; have := HNM.out; simp; omega)
end
end Go.Proofs.Ytknodagcmachiaa.Fi
