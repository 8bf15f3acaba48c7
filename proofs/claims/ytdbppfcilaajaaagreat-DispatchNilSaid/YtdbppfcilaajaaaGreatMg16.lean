/-
  Contracts of Charge where one is used. No statement is proved here.
-/
import Derived.Test.YtdbppfcilaajaaaGreatMg15
import Derived.Test.YtdbppfcilaajaaaGreatMg13
import Derived.Test.YtdbppfcilaajaaaGreatMg6
import Derived.Test.YtdbppfcilaajaaaGreatMg7
import Derived.Test.YtdbppfcilaajaaaGreatMg12
import Derived.Deep.CutBlock
import Derived.Deep.DeepCutAuto
import Derived.Deep.RegionLaw
namespace Go.Proofs.YtdbppfcilaajaaaGreat.Fi
open Go.RowKit
set_option linter.unusedVariables false

theorem slo_n {w0 w : World} {F : Hp} {v : Value} {l : List Rf} {n : Nat} (h : Sat w0 (fiS v l * F) w) (hn : l.length = n) : Sat w0 (slo 244 2 v n (rflat l) * F) w := by
  subst hn
  exact h
theorem slo_m {w0 w : World} {F : Hp} {v : Value} {l : List Rf} {n : Nat} (h : Sat w0 (slo 244 2 v n (rflat l) * F) w) (hn : l.length = n) : Sat w0 (fiS v l * F) w := by
  subst hn
  exact h
theorem rflat_snoc (l : List Rf) (r : Rf) : rflat (l ++ [r]) = rflat l ++ [vu r.amount, vu r.at_] := by simp [rflat, List.flatMap_append, Rf.cells]

section
variable {w0 w : World} {F : Hp} {g so cap m n : Nat} {init : List Rf} {x : Rf}
theorem fi_lastN (h : Sat w0 (slo 244 2 (.slice (some ⟨g, so, none⟩) n cap) n (rflat (init ++ [x])) * F) w) (hm : m = init.length) (hn : n = m + 1) :
    w.cell? ⟨g, so + m * 2, none⟩ = some (vu x.amount) ∧ w.cell? ⟨g, so + m * 2 + 1, none⟩ = some (vu x.at_) ∧ (∀ i, w.frozen? ⟨g, i, none⟩ = false) := by
  subst hn
  exact fi_last h hm
theorem fi_setAN (h : Sat w0 (slo 244 2 (.slice (some ⟨g, so, none⟩) n cap) n (rflat (init ++ [x])) * F) w) (hm : m = init.length) (hn : n = m + 1) (a : Int) :
    Sat w0 (slo 244 2 (.slice (some ⟨g, so, none⟩) n cap) n (rflat (init ++ [⟨a, x.at_⟩])) * F) (w.setCell ⟨g, so + m * 2, none⟩ (vu a)) := by
  subst hn
  exact fi_setA h hm a
theorem fi_setTN (h : Sat w0 (slo 244 2 (.slice (some ⟨g, so, none⟩) n cap) n (rflat (init ++ [x])) * F) w) (hm : m = init.length) (hn : n = m + 1) (a : Int) :
    Sat w0 (slo 244 2 (.slice (some ⟨g, so, none⟩) n cap) n (rflat (init ++ [⟨x.amount, a⟩])) * F) (w.setCell ⟨g, so + m * 2 + 1, none⟩ (vu a)) := by
  subst hn
  exact fi_setT h hm a
end
section
variable {w : World} {v : Value} {l : List Rf} {now period most : Int}
set_option maxRecDepth 100000 in
set_option maxHeartbeats 4000000 in
theorem charge_yes (h : RdF w v l) (hrm : Room v l.length) (hl : l.length ≤ 1000) (hn : U64 now) (hp : U64 period) (hc : ChOk l now period most) :
    Calls Tryz.prog 143 #[v, vu now, vu period, vi most] w fun e w' => ∃ v', e = .returned (.tuple #[v', .bool true]) ∧ Sat w (fiS v' (chargeL l now period most) * emp) w' := by
  have HD : Hid (∀ w', Below w.heap.size w w' → Calls Tryz.prog 195 #[v, vu now] w' fun e w2 => ∃ v', e = .returned v' ∧ Sat w' (fiS v' (dueL l now) * emp) w2) := Lib.hid fun w' hb => due_yes now (h.below hb) hrm (by omega) hc.may
  obtain ⟨ao, cap, rfl⟩ := h.rd.len
  have HM : Hid (∀ w', Below w.heap.size w w' → Calls Tryz.prog 192 #[.slice ao l.length cap] w' fun e w2 => e = .returned (.bool true) ∧ Below w'.heap.size w' w2) := Lib.hid fun w' hb => by
    have := may_ l _ w' (h.below hb) (by omega)
    rw [mayB_yes hc.may] at this
    exact this
  have HT : Hid (∀ w', Below w.heap.size w w' → Calls Tryz.prog 193 #[.slice ao l.length cap, vu now] w' fun e w2 => e = .returned (vi (thN l now)) ∧ Below w'.heap.size w' w2) := Lib.hid fun w' hb => thereN_ l now _ w' (h.below hb) (by omega)
  have HA := Lib.hid (nadd now period hn hp w)
  have hfi := hc.fits
  rw [show addP now period = some (now + period) by rw [addP, if_neg (by omega)]] at HA
  have HA2 : Hid (Calls Tryz.prog 191 #[vu now, vu period] w fun e w' => e = .returned (.tuple #[vu (now + period), .bool true]) ∧ w = w') := HA
  obtain ⟨r, t, hd, hat, h1⟩ := due_cons hc.may h.ok hc.th
  have hm := may_due (now := now) hc.may h.ok
  have hk := ok_due (now := now) hc.may h.ok
  have hdl := due_len l now
  have htd := tot_due l now
  have hfit := hc.may.fit
  have HCL : Hid (chargeL l now period most = putL (lessL (r :: t) 1) (now + period) most) := Lib.hid (by rw [chargeL, hd])
  rw [hd] at HD hm hk hdl htd
  obtain ⟨a1, a2, a3, a4⟩ := less_may hm hk (k := 1) (by omega) h1
  have HL : Hid (∀ (w0 w : World) (F : Hp) (v : Value), Sat w0 (fiS v (r :: t) * F) w → Calls Tryz.prog 194 #[v, vu 1] w fun e w' => ∃ v', e = .returned v' ∧ Sat w0 (fiS v' (lessL (r :: t) 1) * F) w') := Lib.hid fun w0 w F v hS => less_ hS hk.head.1 1 (by omega) h1 (by simp at hdl; omega)
  have hthn : ((thN l now : Int) == 0) = false := beq_eq_false_iff_ne.2 (by have := hc.th; omega)
  have hm1 : ¬ (most < 1) := by have := hc.m1; omega
  have hln : ¬ (most < (l.length : Int)) := by have := hc.len; omega
  have hper : (period == 0) = false := beq_eq_false_iff_ne.2 hc.per
  have hll := hc.len
  clear hd hm hk HA hat h1 h hn hp hrm hc
  generalize hout : lessL (r :: t) 1 = out at *
  have HO := Lib.hid hout
  clear hout
  generalize hbk : now + period = back at *
  have HBK := Lib.hid hbk
  clear hbk
  have hol : out.length ≤ 1000 := by simp at a4 hdl; omega
  rcases List.eq_nil_or_concat out with rfl | ⟨init, x, rfl⟩
  · rw [putL_nil] at HCL
    clear a1 a2 a3 a4 htd hdl
    go_enter Tryz.func143, Tryz.ntmps143
    go_wp2_with (first
      | (go_at_call 191; rw [HBK.out]; refine HA2.out.mono ?_; rintro e w' ⟨rfl, rfl⟩)
      | (go_at_call 191; refine HA2.out.mono ?_; rintro e w' ⟨rfl, rfl⟩)
      | (go_at_call 192; refine (HM.out _ (Below.refl _ _)).mono ?_; rintro e w1 ⟨rfl, hb⟩; have HB1 := Lib.hid hb; clear hb)
      | (go_at_call 193; refine (HT.out _ HB1.out).mono ?_; rintro e w2 ⟨rfl, hb⟩; have HB2 := Lib.hid (Below.then HB1.out hb); clear hb)
      | (go_at_call 195; refine (HD.out _ HB2.out).mono ?_; rintro e w3 ⟨v1, rfl, hS⟩; have HS3 := Lib.hid hS; clear hS)
      | (go_at_call 194; refine (HL.out _ _ _ _ HS3.out).mono ?_; rintro e w4 ⟨v2, rfl, hS⟩; have hS0 : Sat w2 (slo 244 2 v2 0 [] * emp) w4 := hS; obtain ⟨so, scap, rfl⟩ := hS0.sloForm; have HS4 := Lib.hid hS0; clear hS hS0)
      | (at_builtin; refine wpList_append_slo Efi rfl (.tmp 88) (.tmp 91) rfl (by rfl) (HS4.out.alloc' _) (by rfl) (Rd.two' _ _ (vu 1) (vu back) rfl) (by simp [Value.oneCell']) (by unfold maxLen; omega) (by omega) ?_; intro ao6 cap6 w6 hS6; have H6 := Lib.hid hS6; clear hS6))
    go_ret2
    exact ⟨_, rfl, by rw [HCL.out]; exact Sat.base HB2.out H6.out⟩
  · rw [List.concat_eq_append] at *
    have hx := a2 x (by simp)
    have hx1 := a1.pos init.length x (by simp)
    rw [putL_app] at HCL
    have htx : x.amount + 1 ≤ 18446744073709551615 := by
      rw [tot_append] at a3
      have := tot_nonneg (l := init) (OkL.sub a2 fun z hz => by simp [hz])
      simp only [tot] at a3 htd
      omega
    have hwx : IntKind.u64.wrap (x.amount + 1) = x.amount + 1 := IntWalk.u64_in _ (by unfold U64 at hx; omega)
    obtain ⟨m, hmm⟩ : ∃ m, m = init.length := ⟨_, rfl⟩
    obtain ⟨n, hnm⟩ : ∃ n, n = m + 1 := ⟨_, rfl⟩
    have hnn : (init ++ [x]).length = n := by simp [hmm, hnm]
    rw [hnn] at hol
    have HMM := Lib.hid hmm
    have HNN := Lib.hid hnn
    have HNM := Lib.hid hnm
    have hm0 : ((n : Int) == 0) = false := beq_eq_false_iff_ne.2 (by omega)
    have hmp : (0 : Int) < (n : Int) := by omega
    have hmp2 : 0 < n := by omega
    have hwm : IntKind.i64.wrap ((n : Int) - 1) = (m : Int) := by rw [IntWalk.i64_in _ (by omega)]; omega
    have hmlt : (m : Int) < (n : Int) := by omega
    rw [← hmm, show m + 1 = n from hnm.symm] at HCL
    have hmost : n ≤ 1000 := hol
    clear a1 a2 a3 a4 htd hdl hmm hnn htx hnm
    by_cases hb : back ≤ x.at_
    · rw [if_pos hb] at HCL
      have hmx : max back x.at_ = x.at_ := Int.max_eq_right hb
      go_enter Tryz.func143, Tryz.ntmps143
      go_wp2_with (first
        | (go_at_call 191; refine HA2.out.mono ?_; rintro e w' ⟨rfl, rfl⟩)
        | (go_at_call 192; refine (HM.out _ (Below.refl _ _)).mono ?_; rintro e w1 ⟨rfl, hb⟩; have HB1 := Lib.hid hb; clear hb)
        | (go_at_call 193; refine (HT.out _ HB1.out).mono ?_; rintro e w2 ⟨rfl, hb⟩; have HB2 := Lib.hid (Below.then HB1.out hb); clear hb)
        | (go_at_call 195; refine (HD.out _ HB2.out).mono ?_; rintro e w3 ⟨v1, rfl, hS⟩; have HS3 := Lib.hid hS; clear hS)
        | (go_at_call 194; refine (HL.out _ _ _ _ HS3.out).mono ?_; rintro e w4 ⟨v2, rfl, hS⟩; have hS0 := slo_n hS HNN.out; obtain ⟨g, so, scap, rfl⟩ := hS0.sloPos (by omega); obtain ⟨k0, k1, kf⟩ := fi_lastN hS0 HMM.out HNM.out; have kf0 := kf (so + m * 2); have kf1 := kf (so + m * 2 + 1); have HS4 := Lib.hid hS0; clear hS hS0 kf))
      all_goals
        go_ret2
        refine ⟨_, rfl, ?_⟩
        rw [HCL.out]
        exact slo_m (Sat.base HB2.out (fi_setAN HS4.out HMM.out HNM.out (x.amount + 1))) (by have := HMM.out; have := HNM.out; simp; omega)
    · rw [if_neg hb] at HCL
      have hmx : max back x.at_ = back := Int.max_eq_left (by omega)
      have hne : (x.at_ == back) = false := beq_eq_false_iff_ne.2 (by omega)
      by_cases hlm : (n : Int) < most
      · rw [if_pos hlm] at HCL
        go_enter Tryz.func143, Tryz.ntmps143
        go_wp2_with (first
          | (go_at_call 191; refine HA2.out.mono ?_; rintro e w' ⟨rfl, rfl⟩)
          | (go_at_call 192; refine (HM.out _ (Below.refl _ _)).mono ?_; rintro e w1 ⟨rfl, hb⟩; have HB1 := Lib.hid hb; clear hb)
          | (go_at_call 193; refine (HT.out _ HB1.out).mono ?_; rintro e w2 ⟨rfl, hb⟩; have HB2 := Lib.hid (Below.then HB1.out hb); clear hb)
          | (go_at_call 195; refine (HD.out _ HB2.out).mono ?_; rintro e w3 ⟨v1, rfl, hS⟩; have HS3 := Lib.hid hS; clear hS)
          | (go_at_call 194; refine (HL.out _ _ _ _ HS3.out).mono ?_; rintro e w4 ⟨v2, rfl, hS⟩; have hS0 := slo_n hS HNN.out; obtain ⟨g, so, scap, rfl⟩ := hS0.sloPos (by omega); obtain ⟨k0, k1, kf⟩ := fi_lastN hS0 HMM.out HNM.out; have kf0 := kf (so + m * 2); have kf1 := kf (so + m * 2 + 1); have HS4 := Lib.hid hS0; clear hS hS0 kf)
          | (at_builtin; refine wpList_append_slo Efi rfl (.tmp 88) (.tmp 91) rfl (by rfl) (HS4.out.alloc' _) (by rfl) (Rd.two' _ _ (vu 1) (vu back) rfl) (by simp [Value.oneCell']) (by unfold maxLen; omega) (by omega) ?_; intro ao6 cap6 w6 hS6; have H6 := Lib.hid hS6; clear hS6))
        all_goals
          go_ret2
          refine ⟨_, rfl, ?_⟩
          rw [HCL.out]
          refine slo_m (n := n + 1) (Sat.base HB2.out ?_) (by have := HMM.out; have := HNM.out; simp; omega)
          rw [rflat_snoc]
          exact H6.out
      · rw [if_neg hlm] at HCL
        go_enter Tryz.func143, Tryz.ntmps143
        go_wp2_with (first
          | (go_at_call 191; refine HA2.out.mono ?_; rintro e w' ⟨rfl, rfl⟩)
          | (go_at_call 192; refine (HM.out _ (Below.refl _ _)).mono ?_; rintro e w1 ⟨rfl, hb⟩; have HB1 := Lib.hid hb; clear hb)
          | (go_at_call 193; refine (HT.out _ HB1.out).mono ?_; rintro e w2 ⟨rfl, hb⟩; have HB2 := Lib.hid (Below.then HB1.out hb); clear hb)
          | (go_at_call 195; refine (HD.out _ HB2.out).mono ?_; rintro e w3 ⟨v1, rfl, hS⟩; have HS3 := Lib.hid hS; clear hS)
          | (go_at_call 194; refine (HL.out _ _ _ _ HS3.out).mono ?_; rintro e w4 ⟨v2, rfl, hS⟩; have hS0 := slo_n hS HNN.out; obtain ⟨g, so, scap, rfl⟩ := hS0.sloPos (by omega); obtain ⟨k0, k1, kf⟩ := fi_lastN hS0 HMM.out HNM.out; have kf0 := kf (so + m * 2); have kf1 := kf (so + m * 2 + 1); have HS4 := Lib.hid hS0; clear hS hS0 kf))
        all_goals
          go_ret2
          refine ⟨_, rfl, ?_⟩
          rw [HCL.out]
          exact slo_m (Sat.base HB2.out (fi_setAN (fi_setTN HS4.out HMM.out HNM.out back) HMM.out HNM.out (x.amount + 1))) (by have := HMM.out; have := HNM.out; simp; omega)
end
end Go.Proofs.YtdbppfcilaajaaaGreat.Fi

namespace Go.Proofs.YtdbppfcilaajaaaGreat.Fi
open Go.RowKit
set_option linter.unusedVariables false

section
variable {w : World} {v : Value} {l : List Rf} {now period most : Int}
end
end Go.Proofs.YtdbppfcilaajaaaGreat.Fi

namespace Go.Proofs.YtdbppfcilaajaaaGreat.Fi
open Go.RowKit
set_option linter.unusedVariables false

end Go.Proofs.YtdbppfcilaajaaaGreat.Fi

namespace Go.Proofs.YtdbppfcilaajaaaGreat.Fi
open Go.RowKit
set_option linter.unusedVariables false

theorem Sat.after {w0 w W : World} {F : Hp} (h : Sat w0 F w) (hb : Below w.heap.size w W) : Sat w0 F W :=
  (h.chain (⟨hb, [], rfl, by simp, by simp⟩ : Sat w emp W)).cast (emp_sep _)
theorem Sat.link {w0 w w' : World} {F A : Hp} (h : Sat w0 F w) (k : Sat w (A * emp) w') : Sat w0 (A * F) w' := (h.chain k).cast (by rw [sep_emp])
theorem RdF.nil (w : World) : RdF w (.slice none 0 0) [] := ⟨Rd.nil w 2, fun r hr => by simp at hr⟩
theorem ok1 (a b : Int) (ha : U64 a) (hb : U64 b) : OkL [⟨a, b⟩] := by
  intro r hr
  simp at hr
  subst hr
  exact ⟨ha, hb⟩
theorem may1 (a b : Int) (ha : 1 ≤ a) (ha2 : a ≤ 18446744073709551615) : MayL [⟨a, b⟩] := by
  refine ⟨?_, ?_, by simp [tot]; omega⟩
  · intro k r hr
    have := (List.getElem?_eq_some_iff.1 hr).1
    simp at this
    subst this
    simp at hr
    subst hr
    exact ha
  · intro k r s hr hs
    have := (List.getElem?_eq_some_iff.1 hs).1
    simp at this
theorem may2 (a b c d : Int) (ha : 1 ≤ a) (hc : 1 ≤ c) (hbd : b < d) (hs : a + c ≤ 18446744073709551615) : MayL [⟨a, b⟩, ⟨c, d⟩] :=
  may_cons ha (may1 c d hc (by omega)) (fun s hs => by simp at hs; subst hs; exact hbd) (by simp [tot]; omega)
end Go.Proofs.YtdbppfcilaajaaaGreat.Fi

namespace Go.Proofs.YtdbppfcilaajaaaGreat.Kn
open Go.RowKit Pc
set_option linter.unusedVariables false
set_option linter.unusedSimpArgs false

theorem sizeK (w : World) (o : Obj) : (w.alloc o).heap.size = w.heap.size + 1 := by simp
section
variable {w0 w : World} {F : Hp} {pr : Value} {b ps gs : Nat} {T : TypeId}
theorem slPosK {e : TypeId} {size n : Nat} {v : Value} {xs : List Value} (h : Sat w0 (sl e size v n xs * F) w) (hn : n ≠ 0) : ∃ g cap, v = .slice (some ⟨g, 0, none⟩) n cap := by
  rcases h.slE.2 with ⟨_, h0, _⟩ | ⟨g, c, cur, hv, _⟩
  · exact absurd h0 hn
  · exact ⟨g, c, hv⟩
abbrev zC : List Value := [.int .i64 0, .int .i64 0, .int .i64 0, .int .i64 0, .int .i64 0, .int .i64 0, .int .i64 0, .int .i64 0, .int .i64 0, .int .i64 0, .int .u64 0, .int .u64 0, .int .u64 0, .int .u64 0, .slice none 0 0]
/-- A configuration's programs, copied so far. -/
abbrev cpAt (b r ps gs : Nat) (k : Nat) (v : Value) (nv : Nat → Value) (pr : Value) (rv : Nat → Value) (F : Hp) : Hp := pc b 27 (cfgL ps gs v) * (pc r 27 zC * (sl 46 1 v k (rowsN (fun k => [nv k]) k) * (bytesB nv k * (sl 46 1 pr 2 (rowsN (fun k => [rv k]) 2) * (bytesB rv 2 * F)))))
theorem bytes_snoc {nv : Nat → Value} {k : Nat} {x : Value} : bytesB (fun i => if i = k then x else nv i) (k + 1) = bytesB nv k * sl 5 1 x (lnB k) (ctB k) := by
  unfold bytesB
  rw [star_succ]
  congr 1
  · exact star_congr fun i hi => by
      show sl _ _ (if i = k then x else nv i) _ _ = _
      rw [if_neg (by omega)]
  · show sl _ _ (if k = k then x else nv k) _ _ = _
    rw [if_pos rfl]
theorem rows_snoc {nv : Nat → Value} {k : Nat} {x : Value} : rowsN (fun i => [if i = k then x else nv i]) (k + 1) = rowsN (fun i => [nv i]) k ++ [x] := by
  rw [rowsN_succ, if_pos rfl]
  congr 1
  exact rowsN_congr fun i hi => by rw [if_neg (by omega)]
set_option maxRecDepth 100000 in
set_option maxHeartbeats 8000000 in
theorem Copy_ (h : Sat w0 (prB pr * F) w) : Calls Tryz.prog 31 #[.agg (cfgL ps gs pr).toArray] w fun e w' => ∃ pr', e = .returned (.agg (cfgL ps gs pr').toArray) ∧ Sat w0 (prB pr' * (prB pr * F)) w' := by
  obtain ⟨rv, hO⟩ := prB_open h
  obtain ⟨gp, cp, rfl⟩ := slPosK hO (by omega)
  have a1 := (hO.alloc (.cells (cfgL ps gs (.slice (some ⟨gp, 0, none⟩) 2 cp)).toArray 27)).alloc (.cells zC.toArray 27)
  rw [sizeK] at a1
  have a2 : Sat w0 (pc w.heap.size 27 (cfgL ps gs (.slice (some ⟨gp, 0, none⟩) 2 cp)) * (pc (w.heap.size + 1) 27 zC * (sl 46 1 (.slice (some ⟨gp, 0, none⟩) 2 cp) 2 (rowsN (fun k => [rv k]) 2) * (bytesB rv 2 * F)))) _ := a1.pull2
  have c14 := a2.cell 14 rfl
  have f14 := a2.free 14
  have s1 := (hO.alloc (.cells ((cfgL ps gs (.slice (some ⟨gp, 0, none⟩) 2 cp)).set 14 (.slice none 0 0)).toArray 27)).alloc (.cells zC.toArray 27)
  rw [sizeK] at s1
  have s14 := s1.addNil 46 1
  have HB : Hid (Sat w0 (cpAt w.heap.size (w.heap.size + 1) ps gs 0 (.slice none 0 0) rv (.slice (some ⟨gp, 0, none⟩) 2 cp) rv F) _) := Lib.hid (s14.cast (by
    have e0 : bytesB rv 0 = emp := rfl
    simp only [cpAt]
    rw [e0, sep_comm emp, sep_emp]
    show sl _ _ _ _ [] * (pc _ _ _ * (pc _ _ (cfgL ps gs (.slice none 0 0)) * _)) = _
    ac_rfl))
  clear h hO a1 a2 s1 s14
  go_enter Tryz.func31, Tryz.ntmps31
  go_wp2
  obtain ⟨b, hb⟩ : ∃ b, b = w.heap.size := ⟨_, rfl⟩
  have HBB := Lib.hid hb
  rw [← hb] at HB
  rw [← hb]
  clear c14 f14 hb
  go_loopw [11] (fun i wr => ∃ k : Nat, k ≤ 2 ∧ i = vi k ∧ ∃ v nv, Sat w0 (cpAt b (b + 1) ps gs k v nv (.slice (some ⟨gp, 0, none⟩) 2 cp) rv F) wr) (fun i _ => 2 - (intOf i).toNat)
  case atStart => exact ⟨0, by omega, rfl, _, rv, HB.out⟩
  case round =>
    clear HB
    obtain ⟨k, hk, rfl, v, nv, hS⟩ := hrel
    by_cases hlt : k < 2
    · have hki : (k : Int) < 2 := by omega
      have hD := hS.drop3.drop3.dropL.dropL
      have ck := hD.slCell k (u := rv k) (by
        have := rowsN_at (row := fun k => [rv k]) (N := 1) (n := 2) (k := k) (j := 0) (v := rv k) (fun _ => rfl) hlt rfl
        simpa using this)
      have HS := Lib.hid hS
      have HL := Lib.hid hlt
      clear hS hD hlt
      go_wp2_with fail
      have hS := HS.out
      obtain ⟨av, cv, rfl⟩ := hS.pull3.rd.len
      have c14 := hS.cell 14 rfl
      have hR := bytes_rd hS.drop3.drop3.dropL.dropL.dropL HL.out
      have HC := Lib.hid (clone_u8 (w := wr.drew) hR (ct_one k) (by have := ln_le k; omega))
      clear hS hR
      go_region_law
        (first
          | (go_simp; go_at_call 90; refine HC.out.mono ?_; rintro e w1 ⟨v', rfl, hS1⟩; obtain ⟨a1, c1, rfl⟩ := hS1.rd.len; have hX := (Fi.Sat.link HS.out.drew hS1); have d14 := hX.pull2.cell 14 rfl; have g14 := hX.pull2.free 14; have e14 := (hX.alloc' (.cells #[.slice a1 (lnB k) c1] 46)).pull2.cell 14 rfl; have dn := World.new_ne w1 _ d14; have H1 := Lib.hid hX; clear hS1 hX; go_wp2_with fail)
          | (refine step_append_sl Ebb (by rfl) (.tmp 16) (.tmp 19) (by rfl) (by rfl) (H1.out.pull4.alloc' _) (by rfl) (Rd.one _ _ _) (by simp [Value.oneCell']) (by unfold maxLen; omega) (by omega) ?_; intro ao6 cap6 w6 hS6; have o6 := hS6.pull3.cell 14 rfl; have f6 := hS6.pull3.free 14; have H7 := Lib.hid (hS6.pull3.store 14 (.slice ao6 (k + 1) cap6)); clear hS6))
      all_goals go_wp2
      all_goals go_roundw
      all_goals first
        | (have := HL.out; simp [intOf]; omega; done)
        | (refine ⟨k + 1, by have := HL.out; omega, by go_num, .slice ao6 (k + 1) cap6, fun i => if i = k then .slice a1 (lnB k) c1 else nv i, H7.out.cast ?_⟩
           simp only [cpAt]
           rw [bytes_snoc, rows_snoc]
           show pc _ _ (cfgL ps gs (.slice ao6 (k + 1) cap6)) * _ = _
           ac_rfl)
    · obtain rfl : k = 2 := by omega
      have hi : (Tryz.prog.info? 27).map (·.size) = some 15 := by kernel_rfl
      have HR := Lib.hid hS.rangeN
      have HT := Lib.hid (hS.pull2.thereN (n := 15) rfl)
      have h1 : ∀ u ∈ cfgL ps gs v, u.oneCell' = true := by
        obtain ⟨av, cv, rfl⟩ := hS.pull3.rd.len
        simp [cfgL, Value.oneCell']
      have HO := Lib.hid h1
      have HE := Lib.hid (hS.pull2.rowAll (cfgL ps gs v) rfl)
      clear hS h1
      go_wp2_with (first
        | (refine wpList_load_mid rfl 27 _ rfl b 0 (by rfl) (cfgL ps gs v) _ HR.out Tryz.underlying27 rfl hi ?_)
        | (refine wpList_store_mid rfl 27 _ _ rfl (b + 1) 0 (cfgL ps gs v).toArray (by rfl) (by rfl) HT.out hi (all_oneCell_toArray HO.out) ?_))
      refine bodyPost_ret (results_row1 rfl _ _ _ rfl (cs := cfgL ps gs v) HE.out.rangeN Tryz.underlying27 rfl (by kernel_rfl)) rfl ?_
      refine ⟨v, rfl, ?_⟩
      have h2 := HE.out.dropL.dropL
      have h3 := prB_shut (h2.cast (show _ = sl 46 1 v 2 (rowsN (fun k => [nv k]) 2) * (bytesB nv 2 * (sl 46 1 (.slice (some ⟨gp, 0, none⟩) 2 cp) 2 (rowsN (fun k => [rv k]) 2) * (bytesB rv 2 * F))) by ac_rfl))
      have h4 := prB_shut (h3.cast (show _ = sl 46 1 (.slice (some ⟨gp, 0, none⟩) 2 cp) 2 (rowsN (fun k => [rv k]) 2) * (bytesB rv 2 * (prB v * F)) by ac_rfl))
      exact h4.pull2
end
end Go.Proofs.YtdbppfcilaajaaaGreat.Kn
