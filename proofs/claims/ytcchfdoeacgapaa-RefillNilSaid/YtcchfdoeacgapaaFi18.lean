/-
  The walk of RefillWindow. No statement is proved here.
-/
import Derived.Test.YtcchfdoeacgapaaFi17
namespace Go.Proofs.Ytcchfdoeacgapaa.Fi
open Go.RowKit
set_option linter.unusedVariables false

set_option maxRecDepth 100000 in
set_option maxHeartbeats 8000000 in
theorem window_core (w0 : World) (l : List Rf) (v : Value) (h : RdF w0 v l) (v2 : Value) (n : Nat) (A : Nat → Int) (h2 : ArgK w0 1 (fun _ => .u64) v2 n A) (period most : Int)
    (hl : l.length ≤ 20) (hn : n ≤ 300) (hm : MayL l) (hm1 : 1 ≤ most) (hlm : (l.length : Int) ≤ most) (hm2 : most ≤ 60) (hp : 0 ≤ period) (hp1 : period ≠ 0) (hp2 : period ≤ 1099511627776) :
    Calls Try.prog 4 #[v, vu period, vi most, v2] w0 (TrueBelow w0) := by
  obtain ⟨bo, cap2, rfl⟩ := h.rd.len
  obtain ⟨ao, cap, rfl⟩ : ∃ ao cap, v2 = .slice ao n cap := by
    rcases h2.form with ⟨rfl, ao, cap, h⟩ | ⟨b, off, cap, h, _⟩
    · exact ⟨_, _, h⟩
    · exact ⟨_, _, h⟩
  have k1 : ¬ (20 : Int) < (l.length : Int) := by omega
  have k2 : ¬ (300 : Int) < (n : Int) := by omega
  have k3 : ¬ most < 1 := by omega
  have k4 : ¬ most < (l.length : Int) := by omega
  have k5 : ¬ 60 < most := by omega
  have k6 : (period == 0) = false := beq_eq_false_iff_ne.2 hp1
  have k7 : ¬ 1099511627776 < period := by omega
  have HR := Lib.hid h
  have HA := Lib.hid h2
  have HM : Hid (∀ (w : World) (v : Value) (l : List Rf), RdF w v l → MayL l → l.length ≤ 60 → Calls Try.prog 19 #[v] w fun e w' => e = .returned (.bool true) ∧ Below w.heap.size w w') := Lib.hid fun w v l h1 h2 h3 => by
    have := rmay l v w h1 (by omega)
    rw [mayB_yes h2] at this
    exact this
  have hsl : sumP l = some (tot l) := by rw [sumP_eq h.ok, if_neg (by have := hm.fit; omega)]
  have HS : Hid (∀ (w : World) (v : Value), RdF w v l → Calls Try.prog 21 #[v] w fun e w' => e = .returned (.tuple #[vu (tot l), .bool true]) ∧ w = w') := Lib.hid fun w v h1 => by
    have := rsum l v w h1 (by omega)
    rw [hsl] at this
    exact this
  have HW := Lib.hid (Win.start (period := period) (nw := 0) hm h.ok hlm)
  have HMY := Lib.hid hm
  have hU : U64 period := ⟨by omega, by omega⟩
  have HCH : Hid (∀ (w : World) (v : Value) (X : List Rf) (nw : Int), RdF w v X → Room v X.length → U64 nw → ChOk X nw period most → Calls Try.prog 23 #[v, vu nw, vu period, vi most] w fun e w' => ∃ v', e = .returned (.tuple #[v', .bool true]) ∧ Sat w (fiS v' (chargeL X nw period most) * emp) w') := Lib.hid fun w v X nw r1 r2 r3 r4 => charge_yes r1 r2 (by have := r4.len; omega) r3 hU r4
  have HNO : Hid (∀ (w : World) (v : Value) (X : List Rf) (nw : Int), RdF w v X → X.length ≤ 60 → U64 nw → ¬ ChOk X nw period most → Calls Try.prog 23 #[v, vu nw, vu period, vi most] w fun e w' => e = .returned (.tuple #[.slice none 0 0, .bool false]) ∧ Below w.heap.size w w') := Lib.hid fun w v X nw r1 r2 r3 r4 => charge_no r1 (by omega) r3 hU r4
  generalize tot l = S at *
  clear h h2 hm hsl
  go_enter Try.func4, Try.ntmps4
  go_wp2_with (first
    | (go_at_call 19; refine (HM.out _ _ _ HR.out HMY.out (by omega)).mono ?_; rintro e w1 ⟨rfl, hb⟩; have HB := Lib.hid hb; clear hb)
    | (go_at_call 21; refine (HS.out _ _ (HR.out.below HB.out)).mono ?_; rintro e w' ⟨rfl, rfl⟩)
    | (go_at_call 22; refine (own_ (HR.out.below HB.out) (by omega)).mono ?_; rintro e w2 ⟨vm, rfl, hS⟩; have H2 := Lib.hid (Sat.link (Sat.after (Sat.start w0) HB.out) hS); clear hS))
  go_loopw [11, 12, 13, 14] (fun u nv x i wr => ∃ (k : Nat) (nw : Int) (X : List Rf) (U : List Int) (G : Hp), k ≤ n ∧ i = vi k ∧ nv = vu nw ∧ 0 ≤ nw ∧ nw ≤ 1000 * k ∧ U.length ≤ k ∧ Hid (Win S most period nw X U) ∧ Sat w0 (fiS x X * (slo 28 1 u U.length (U.map vu) * G)) wr) (fun _ _ _ i _ => n - (intOf i).toNat)
  case atStart => exact ⟨0, 0, l, [], _, Nat.zero_le _, rfl, rfl, by omega, by omega, by simp, HW, (H2.out.sloNil 28 1).pull2⟩
  case round =>
    obtain ⟨k, nw, X, U, G, hk, rfl, rfl, hw1, hw2, hul, HWI, hS⟩ := hrel
    have hxl := HWI.out.len
    obtain ⟨xo, xcap, rfl⟩ := hS.sloForm
    obtain ⟨uo, ucap, rfl⟩ := hS.pull2.sloForm
    clear H2 HB
    by_cases hlt : k < n
    · have hki : (k : Int) < (n : Int) := by omega
      obtain ⟨b, off, rfl, ca, ca2⟩ : ∃ b off, ao = some ⟨b, off, none⟩ ∧ wr.cell? ⟨b, off + k, none⟩ = some (vu (A k)) ∧ U64 (A k) := by
        rcases HA.out.form with ⟨h0, _⟩ | ⟨b, off, cap', h1, h2, h3⟩
        · omega
        · cases h1
          refine ⟨b, off, rfl, ?_, wf_U64 (HA.out.wf k (by omega))⟩
          have := h3 k (by omega)
          exact (hS.old (lt_cell this)).trans this
      obtain ⟨ca3, ca4⟩ := ca2
      go_wp2_with fail
      have q1 := Int.emod_nonneg (A k) (show (1001 : Int) ≠ 0 by omega)
      have q2 := Int.emod_lt_of_pos (A k) (show (0 : Int) < 1001 by omega)
      generalize hz : nw + A k % 1001 = z at *
      have z1 : nw ≤ z := by omega
      have z2 : z ≤ 1000 * ((k : Int) + 1) := by omega
      have z3 : U64 z := ⟨by omega, by omega⟩
      have HWZ := Lib.hid (HWI.out.move z1)
      clear hz q1 q2 ca ca3 ca4 HW HWI
      have HST := Lib.hid hS
      clear hS
      have HRX := Lib.hid (Sat.fiR HST.out HWZ.out.ok)
      have hth := there_iff (now := z) HWZ.out.may HWZ.out.ok
      have HTH : Hid (∀ (w : World) (v : Value), RdF w v X → Calls Try.prog 24 #[v, vu z] w fun e w' => e = .returned (vu (thereV X z)) ∧ w = w') := Lib.hid fun w v h1 => rthere X z v w h1 (by omega)
      by_cases ht : thN X z = 0
      · have hnc := Lib.hid (show ¬ ChOk X z period most from fun h => h.th ht)
        have hth0 : thereV X z = 0 := by
          have h1 : ¬ 0 < thereV X z := fun h => hth.1 h ht
          have h2 : 0 ≤ thereV X z := by
            rw [thereV_eq z HWZ.out.ok]
            have := (totTo_bd z HWZ.out.ok).1
            split <;> omega
          omega
        rw [hth0] at HTH
        clear hth0 hth
        clear ht
        refine (HNO.out _ _ _ _ HRX.out (by omega) z3 hnc.out).mono ?_
        rintro e w3 ⟨rfl, hb⟩
        have H3 := Lib.hid (Sat.after HST.out hb)
        clear hb
        go_wp2_with (go_at_call 24; refine (HTH.out _ _ (Sat.fiR H3.out HWZ.out.ok)).mono ?_; rintro e w' ⟨rfl, rfl⟩)
        go_roundw
        case rel => exact ⟨k + 1, z, X, U, G, by omega, by go_num, rfl, by omega, by omega, by omega, HWZ, H3.out⟩
        case measure => (simp [intOf]; try omega)
      · have hcc := Lib.hid (HWZ.out.chOk hm1 hp1 (by omega) ht)
        have hth : 0 < thereV X z := hth.2 ht
        clear ht
        generalize thereV X z = tv at *
        have HWY := Lib.hid (HWZ.out.step hcc.out (by omega) hp)
        refine (HCH.out _ _ _ _ HRX.out (Sat.room HST.out) z3 hcc.out).mono ?_
        rintro e w3 ⟨va, rfl, hS⟩
        have H3 := Lib.hid (Sat.link HST.out hS)
        clear hS
        generalize chargeL X z period most = Y at *
        have hyl := HWY.out.len
        have e3 := H3.out.sloForm
        obtain ⟨ao3, cap3, e3'⟩ := e3
        subst e3'
        have hyl2 : ¬ most < (Y.length : Int) := by omega
        go_wp2_with (first
          | (go_at_call 24; refine (HTH.out _ _ (Sat.fiR H3.out.pull2 HWZ.out.ok)).mono ?_; rintro e w' ⟨rfl, rfl⟩)
          | (at_builtin; refine wpList_append_slo Eu64 rfl (.tmp 92) (.tmp 94) rfl (by rfl) (H3.out.pull3.alloc' _) (by rfl) (Rd.one8 _ _ _ rfl) (by simp [Value.oneCell']) (by unfold maxLen; omega) (by omega) ?_; intro ao4 cap4 w4 hS4; have H4 := Lib.hid hS4.pull2; clear hS4)
          | (go_at_call 19; refine (HM.out _ _ _ (Sat.fiR H4.out HWY.out.ok) HWY.out.may (by omega)).mono ?_; rintro e w5 ⟨rfl, hb⟩; have H5 := Lib.hid (Sat.after H4.out hb); clear hb))
        have hus : Hid (∀ u ∈ U ++ [z], 0 ≤ u ∧ u ≤ z) := Lib.hid HWY.out.us
        have hbo : Hid (∀ m, ((((U ++ [z]).drop m).countP fun u => decide (z < u + period) : Nat) : Int) ≤ S) := Lib.hid HWY.out.bound
        have H6 : Hid (Sat w0 (slo 28 1 (.slice ao4 (U.length + 1) cap4) (U.length + 1) ((U ++ [z]).map vu) * (fiS (.slice ao3 Y.length cap3) Y * (fiS (.slice xo X.length xcap) X * G))) w5) := Lib.hid (H5.out.pull2.cast (by simp))
        have hvl : (U ++ [z]).length = U.length + 1 := by simp
        generalize hV : U ++ [z] = V at *
        clear hV H5 H4 H3 hth hyl2
        go_loopw [17, 18] (fun c kk wr => ∃ (m q : Nat), m ≤ U.length + 1 ∧ c = vu q ∧ (m = 0 ∧ kk = vi (-1) ∨ ∃ j : Nat, m = j + 1 ∧ kk = vi j) ∧ Hid (q + m = U.length + 1 ∧ (V.drop m).countP (fun u => decide (z < u + period)) = q) ∧ Sat w0 (slo 28 1 (.slice ao4 (U.length + 1) cap4) (U.length + 1) (V.map vu) * (fiS (.slice ao3 Y.length cap3) Y * (fiS (.slice xo X.length xcap) X * G))) wr) (fun _ kk _ => (intOf kk + 1).toNat)
        case atStart => exact ⟨U.length + 1, 0, Nat.le_refl _, rfl, .inr ⟨U.length, rfl, rfl⟩, Lib.hid ⟨by omega, by rw [← hvl, List.drop_length]; rfl⟩, H6.out⟩
        case round =>
          obtain ⟨m, q, hmu, rfl, hkk, hq, hS7⟩ := hrel
          have hqb := hbo.out m
          rw [hq.out.2] at hqb
          have hq1 := hq.out.1
          have H7 := Lib.hid hS7
          clear hS7
          rcases hkk with ⟨rfl, rfl⟩ | ⟨j, rfl, rfl⟩
          · have hqs : ¬ S < (q : Int) := by omega
            go_wp2
            go_roundw
            case rel => exact ⟨k + 1, z, Y, V, _, by omega, by go_num, rfl, by omega, by omega, by omega, HWY, by rw [hvl]; exact H7.out.pull2⟩
            case measure => (simp [intOf]; try omega)
          · obtain ⟨u, hu⟩ : ∃ u, V[j]? = some u := ⟨V[j]'(by omega), List.getElem?_eq_getElem _⟩
            obtain ⟨g, so, cap5, hv5⟩ := H7.out.sloPos (by omega)
            cases hv5
            have cu := H7.out.sloCell j (by rw [List.getElem?_map, hu]; rfl)
            have hub := hus.out u (List.mem_of_getElem? hu)
            have hqs : ¬ S < (q : Int) := by omega
            have hju : (j : Int) < ((U.length + 1 : Nat) : Int) := by omega
            have hwu : IntKind.u64.wrap (z - u) = z - u := U64.wrap ⟨by omega, by omega⟩
            have hwq : IntKind.u64.wrap ((q : Int) + 1) = (q : Int) + 1 := U64.wrap ⟨by omega, by omega⟩
            by_cases hin : z - u < period
            · have hcd := count_drop (fun u => decide (z < u + period)) hu (by simp; omega)
              have hq2 := Lib.hid (show (q + 1) + j = U.length + 1 ∧ (V.drop j).countP (fun u => decide (z < u + period)) = q + 1 from ⟨by omega, by rw [hcd, hq.out.2]⟩)
              clear hcd hq
              go_wp2
              go_roundw
              case rel =>
                refine ⟨j, q + 1, by omega, by simp, ?_, hq2, H7.out⟩
                rcases j with _ | j
                · exact .inl ⟨rfl, by go_num⟩
                · exact .inr ⟨j, rfl, by go_num⟩
              case measure => (simp [intOf]; try omega)
            · go_wp2
              go_roundw
              case rel => exact ⟨k + 1, z, Y, V, _, by omega, by go_num, rfl, by omega, by omega, by omega, HWY, by rw [hvl]; exact H7.out.pull2⟩
              case measure => (simp [intOf]; try omega)
    · obtain rfl : k = n := by omega
      have hki : ¬ (k : Int) < (k : Int) := by omega
      have HS' := Lib.hid hS
      clear hS
      go_wp2_with (go_at_call 20; refine (knownF _).mono ?_; rintro e w9 ⟨rfl, hb⟩; have H9 := Lib.hid (Sat.after HS'.out hb); clear hb)
      go_ret
      exact ⟨rfl, H9.out.below⟩
theorem window_row (w0 : World) (v : Value) (n : Nat) (A : Nat → Int) (h : ArgK w0 2 (fun _ => .u64) v n A) (period : Int) (wp : (Lit.int .u64 period).wf = true) (most : Int) (wm : (Lit.int .i64 most).wf = true) (v2 : Value) (n2 : Nat) (A2 : Nat → Int) (h2 : ArgK w0 1 (fun _ => .u64) v2 n2 A2) :
    Calls Try.prog 4 #[v, vu period, vi most, v2] w0 (TrueBelow w0) := by
  obtain ⟨l, hl, hR⟩ := arg_fi h
  obtain ⟨p1, p2⟩ := wf_U64 wp
  by_cases hc : l.length ≤ 20 ∧ n2 ≤ 300 ∧ MayL l ∧ 1 ≤ most ∧ (l.length : Int) ≤ most ∧ most ≤ 60 ∧ period ≠ 0 ∧ period ≤ 1099511627776
  · obtain ⟨c1, c2, c3, c4, c5, c6, c7, c8⟩ := hc
    exact window_core w0 l v hR v2 n2 A2 h2 period most c1 c2 c3 c4 c5 c6 p1 c7 c8
  · obtain ⟨ao, cap, rfl⟩ : ∃ ao cap, v2 = .slice ao n2 cap := by
      rcases h2.form with ⟨rfl, ao, cap, h⟩ | ⟨b, off, cap, h, _⟩
      · exact ⟨_, _, h⟩
      · exact ⟨_, _, h⟩
    refine window_early w0 l v hR ao n2 cap period most ?_
    by_cases h1 : 20 < l.length
    · exact .inl h1
    · by_cases h2 : 300 < n2
      · exact .inr (.inl ⟨h1, h2⟩)
      · refine .inr (.inr ⟨h1, h2, ?_⟩)
        by_cases h3 : MayL l
        · refine .inr ⟨h3, ?_⟩
          by_cases h4 : most < 1
          · exact .inl h4
          · refine .inr ⟨h4, ?_⟩
            by_cases h5 : most < l.length
            · exact .inl h5
            · refine .inr ⟨h5, ?_⟩
              by_cases h6 : 60 < most
              · exact .inl h6
              · refine .inr ⟨h6, ?_⟩
                by_cases h7 : period = 0
                · exact .inl h7
                · refine .inr ⟨h7, ?_⟩
                  by_cases h8 : 1099511627776 < period
                  · exact h8
                  · exact absurd ⟨by omega, by omega, h3, by omega, by omega, by omega, h7, by omega⟩ hc
        · exact .inl h3
end Go.Proofs.Ytcchfdoeacgapaa.Fi
