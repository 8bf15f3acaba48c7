/-
  The walk of HeapCopies. No statement is proved here.
-/
import Derived.Test.YtcchfdoeacgapaaHm29
namespace Go.Proofs.Ytcchfdoeacgapaa.Hm
open Go.RowKit
set_option linter.unusedVariables false

section
variable {w0 w : World} {F : Hp} {h q o r k n : Nat} {A B S S2 : List Tm} {p p2 : Int} {L : List Tr}
theorem same4' (hI : Inv A p S) (hA : A.length ≤ 4096) (hS : Sat w0 (heapP h A p * (refP q (S.map trOf) * F)) w) :
    Calls Try.prog 43 #[vp h, vp q] w fun e w' => e = .returned (.bool true) ∧ Sat w0 (heapP h A p * (refP q (S.map trOf) * F)) w' := by
  obtain ⟨v, hv⟩ := refP_open hS.pull2
  refine (same4_ hI hA (hv.cast (by ac_rfl))).mono ?_
  rintro e w' ⟨rfl, h'⟩
  exact ⟨rfl, (refP_shut (v := v) (F := heapP h A p * F) (h'.cast (by ac_rfl))).cast (by ac_rfl)⟩
/-- Both heaps, and both copies. -/
abbrev BalC (w0 : World) (h q o r : Nat) (B : List Tm) (p2 : Int) (S2 : List Tm) (k : Nat) (w : World) : Prop := Bal w0 h q (heapP o B p2 * (refP r (S2.map trOf) * emp)) k w
theorem copies_early {v v2 v3 : Value} {n n2 n3 : Nat} (w0 : World) (h1 : ∃ ao cap, v = .slice ao n cap) (h2 : ∃ ao cap, v2 = .slice ao n2 cap) (h3 : ∃ ao cap, v3 = .slice ao n3 cap) (hb : 60 < n ∨ 30 < n2 ∨ 30 < n3) :
    Calls Try.prog 12 #[v, v2, v3] w0 (TrueBelow w0) := by
  obtain ⟨a1, c1, rfl⟩ := h1
  obtain ⟨a2, c2, rfl⟩ := h2
  obtain ⟨a3, c3, rfl⟩ := h3
  by_cases g1 : (60 : Int) < (n : Int)
  · clear hb
    go_enter Try.func12, Try.ntmps12
    go_wp2_with (go_at_call 14; refine (known4 _).mono ?_; rintro e w1 ⟨rfl, hb⟩)
    go_ret
    exact ⟨rfl, hb⟩
  · by_cases g2 : (30 : Int) < (n2 : Int)
    · clear hb
      go_enter Try.func12, Try.ntmps12
      go_wp2_with (go_at_call 14; refine (known4 _).mono ?_; rintro e w1 ⟨rfl, hb⟩)
      go_ret
      exact ⟨rfl, hb⟩
    · have g3 : (30 : Int) < (n3 : Int) := by omega
      clear hb
      go_enter Try.func12, Try.ntmps12
      go_wp2_with (go_at_call 14; refine (known4 _).mono ?_; rintro e w1 ⟨rfl, hb⟩)
      go_ret
      exact ⟨rfl, hb⟩
set_option maxRecDepth 100000 in
set_option maxHeartbeats 8000000 in
theorem copies4_row (w0 : World) (v : Value) (n : Nat) (T : Nat → Int) (h : ArgK w0 3 actK4 v n T) (v2 : Value) (n2 : Nat) (T2 : Nat → Int) (h2 : ArgK w0 3 actK4 v2 n2 T2) (v3 : Value) (n3 : Nat) (T3 : Nat → Int) (h3 : ArgK w0 3 actK4 v3 n3 T3) :
    Calls Try.prog 12 #[v, v2, v3] w0 (TrueBelow w0) := by
  by_cases hbig : 60 < n ∨ 30 < n2 ∨ 30 < n3
  · exact copies_early w0 (ArgK.len h) (ArgK.len h2) (ArgK.len h3) hbig
  obtain ⟨ao, cap, rfl⟩ := ArgK.len h
  obtain ⟨ao2, cap2, rfl⟩ := ArgK.len h2
  obtain ⟨ao3, cap3, rfl⟩ := ArgK.len h3
  have HA := Lib.hid h
  have HA2 := Lib.hid h2
  have HA3 := Lib.hid h3
  have g1 : ¬ (60 : Int) < (n : Int) := by omega
  have g2 : ¬ (30 : Int) < (n2 : Int) := by omega
  have g3 : ¬ (30 : Int) < (n3 : Int) := by omega
  clear h h2 h3 hbig
  go_enter Try.func12, Try.ntmps12
  go_wp2_with (go_at_call 15; refine (h_new (Sat.start w0)).mono ?_; rintro e w1 ⟨h, rfl, hS1⟩; have H1 := Lib.hid (Bal.fresh hS1); clear hS1)
  generalize w1.heap.size = q at *
  generalize w1.alloc (.cells #[.slice none 0 0] 61) = w2 at *
  go_loopw [9] (fun i wr => ∃ k : Nat, k ≤ n ∧ i = vi k ∧ Bal w0 h q emp k wr) (fun i _ => n - (intOf i).toNat)
  case atStart => exact ⟨0, Nat.zero_le _, rfl, H1.out⟩
  case round =>
    obtain ⟨k, hk, rfl, hS⟩ := hrel
    clear H1
    by_cases hlt : k < n
    · obtain ⟨b, off, rfl, x0, x1, x2, c0, c1, c2⟩ := act_at HA.out hS.sat.below hlt
      have hki : (k : Int) < (n : Int) := by omega
      have HS := Lib.hid hS
      clear hS
      go_wp2_with (go_at_call 39; refine (do4 HS.out (by omega) x0 x1 x2).mono ?_; rintro e w5 ⟨rfl, hS5⟩; have H5 := Lib.hid hS5; clear hS5)
      go_roundw
      case rel => exact ⟨k + 1, by omega, by go_num, H5.out⟩
      case measure => (simp [intOf]; try omega)
    · obtain rfl : k = n := by omega
      clear hlt
      obtain ⟨A, p, S, hI, hp0, hp1, hA, hS⟩ := hS
      have hL := hI.len
      have HC := Lib.hid (h_copy hS (by omega))
      have HRC : Hid (∀ (w1 : World) (G : Hp), Sat w0 (refP q (S.map trOf) * G) w1 → Calls Try.prog 45 #[vp q] w1 fun e w' => ∃ o, e = .returned (vp o) ∧ Sat w0 (refP o (S.map trOf) * (refP q (S.map trOf) * G)) w') := Lib.hid fun w1 G h1 => r_copy4 h1 (by omega)
      have HSm : Hid (∀ (o : Nat) (w1 : World) (G : Hp), Sat w0 (heapP o A p * (heapP h A p * G)) w1 → Calls Try.prog 46 #[vp o, vp h] w1 fun e w' => e = .returned (.bool true) ∧ Sat w0 (heapP o A p * (heapP h A p * G)) w') := Lib.hid fun o w1 G h1 => by
        have := h_same hI hI (by omega) (by omega) h1
        rwa [show decide (S.map trOf = S.map trOf) = true by simp] at this
      have HB : Hid (∀ (o r : Nat) (w1 : World), Sat w0 (heapP o A p * (heapP h A p * (refP r (S.map trOf) * (refP q (S.map trOf) * emp)))) w1 → BalC w0 h q o r A p S k w1) := Lib.hid fun o r w1 h1 => Bal.intro hI hp0 hp1 hA rfl (h1.cast (by ac_rfl))
      have HI := Lib.hid hI
      clear hS hI hL
      generalize hLL : S.map trOf = LL at HC HRC HSm HB
      have HLL := Lib.hid hLL
      clear hLL
      go_wp2_with (first
        | (go_at_call 44; refine HC.out.mono ?_; rintro e w3 ⟨o, rfl, hS3⟩; have H3 := Lib.hid (hS3.pull3); clear hS3)
        | (go_at_call 45; refine (HRC.out _ _ H3.out).mono ?_; rintro e w4 ⟨r, rfl, hS4⟩; have H4 := Lib.hid (hS4.cast (show _ = heapP o A p * (heapP h A p * (refP r LL * (refP q LL * emp))) by ac_rfl)); clear hS4)
        | (go_at_call 46; refine (HSm.out _ _ _ H4.out).mono ?_; rintro e w5 ⟨rfl, hS5⟩; have H5 := Lib.hid (HB.out _ _ _ hS5); clear hS5))
      clear HC HRC HSm HB H3 H4
      go_loopw [12] (fun i wr => ∃ k2 : Nat, k2 ≤ n2 ∧ i = vi k2 ∧ BalC w0 h q o r A p S (k + k2) wr) (fun i _ => n2 - (intOf i).toNat)
      case atStart => exact ⟨0, Nat.zero_le _, rfl, H5.out⟩
      case round =>
        obtain ⟨k2, hk2, rfl, hS⟩ := hrel
        clear H5
        by_cases hlt : k2 < n2
        · obtain ⟨b, off, rfl, x0, x1, x2, c0, c1, c2⟩ := act_at HA2.out hS.sat.below hlt
          have hki : (k2 : Int) < (n2 : Int) := by omega
          have HS := Lib.hid hS
          clear hS
          go_wp2_with (go_at_call 39; refine (do4 HS.out (by omega) x0 x1 x2).mono ?_; rintro e w5 ⟨rfl, hS5⟩; have H5 := Lib.hid hS5; clear hS5)
          go_roundw
          case rel => exact ⟨k2 + 1, by omega, by go_num, H5.out⟩
          case measure => (simp [intOf]; try omega)
        · obtain rfl : k2 = n2 := by omega
          clear hlt
          obtain ⟨A1, p1, S1, hI1, hq0, hq1, hA1, hS⟩ := hS
          have H6 : Hid (BalC w0 o r h q A1 p1 S1 k wr) := Lib.hid (Bal.intro HI.out hp0 hp1 hA rfl (hS.cast (by ac_rfl)))
          have HI1 := Lib.hid hI1
          clear hS hI1
          go_wp2_with fail
          go_loopw [13] (fun i wr => ∃ k3 : Nat, k3 ≤ n3 ∧ i = vi k3 ∧ BalC w0 o r h q A1 p1 S1 (k + k3) wr) (fun i _ => n3 - (intOf i).toNat)
          case atStart => exact ⟨0, Nat.zero_le _, rfl, H6.out⟩
          case round =>
            obtain ⟨k3, hk3, rfl, hS⟩ := hrel
            clear H6
            by_cases hlt : k3 < n3
            · obtain ⟨b, off, rfl, x0, x1, x2, c0, c1, c2⟩ := act_at HA3.out hS.sat.below hlt
              have hki : (k3 : Int) < (n3 : Int) := by omega
              have HS := Lib.hid hS
              clear hS
              go_wp2_with (go_at_call 39; refine (do4 HS.out (by omega) x0 x1 x2).mono ?_; rintro e w5 ⟨rfl, hS5⟩; have H5 := Lib.hid hS5; clear hS5)
              go_roundw
              case rel => exact ⟨k3 + 1, by omega, by go_num, H5.out⟩
              case measure => (simp [intOf]; try omega)
            · obtain rfl : k3 = n3 := by omega
              clear hlt HA HA2 HA3 HLL
              obtain ⟨A2, p2, S2, hI2, hr0, hr1, hA2, hS⟩ := hS
              have hI1 := HI1.out
              have hl1 := hI1.len
              have hl2 := hI2.len
              obtain ⟨vq, hq⟩ := refP_open (hS.cast (show _ = refP q (S1.map trOf) * (refP r (S2.map trOf) * (heapP o A2 p2 * (heapP h A1 p1 * emp))) by ac_rfl))
              obtain ⟨vr, hr⟩ := refP_open hq.pull3
              obtain ⟨aq, cq, rfl⟩ := hr.pull4.rd.len
              obtain ⟨ar, cr, rfl⟩ := hr.pull2.rd.len
              have c1 := hr.pull3.cell 0 rfl
              have c2 := hr.cell 0 rfl
              have HR1 : Hid (RdT wr (.slice aq (S1.map trOf).length cq) (S1.map trOf)) := Lib.hid hr.pull4.rd
              have HR2 : Hid (RdT wr (.slice ar (S2.map trOf).length cr) (S2.map trOf)) := Lib.hid hr.pull2.rd
              have HRS : Hid (∀ N, Calls Try.prog 41 #[.slice aq (S1.map trOf).length cq, .slice ar (S2.map trOf).length cr] (wr.drewN N) fun e w' => e = .returned (.bool (decide (S1.map trOf = S2.map trOf))) ∧ ∃ k, w' = (wr.drewN N).drewN k) := Lib.hid fun N => r_same4 _ _ _ _ _ (HR1.out.drewN _) (HR2.out.drewN _) (by omega) (by omega)
              have HS1 : Hid (∀ (w1 : World), Sat w0 (heapP h A1 p1 * (refP q (S1.map trOf) * (heapP o A2 p2 * (refP r (S2.map trOf) * emp)))) w1 → Calls Try.prog 43 #[vp h, vp q] w1 fun e w' => e = .returned (.bool true) ∧ Sat w0 (heapP o A2 p2 * (refP r (S2.map trOf) * (heapP h A1 p1 * (refP q (S1.map trOf) * emp)))) w') := Lib.hid fun w1 h1 => (same4' hI1 (by omega) h1).mono fun e w' ⟨he, h'⟩ => ⟨he, h'.cast (by ac_rfl)⟩
              have HS2 : Hid (∀ (w1 : World), Sat w0 (heapP o A2 p2 * (refP r (S2.map trOf) * (heapP h A1 p1 * (refP q (S1.map trOf) * emp)))) w1 → Calls Try.prog 43 #[vp o, vp r] w1 fun e w' => e = .returned (.bool true) ∧ Sat w0 (heapP h A1 p1 * (heapP o A2 p2 * (refP r (S2.map trOf) * (refP q (S1.map trOf) * emp)))) w') := Lib.hid fun w1 h1 => (same4' hI2 (by omega) h1).mono fun e w' ⟨he, h'⟩ => ⟨he, h'.cast (by ac_rfl)⟩
              have HS3 : Hid (∀ (w1 : World) (G : Hp), Sat w0 (heapP h A1 p1 * (heapP o A2 p2 * G)) w1 → Calls Try.prog 46 #[vp h, vp o] w1 fun e w' => e = .returned (.bool (decide (S1.map trOf = S2.map trOf))) ∧ Sat w0 (heapP o A2 p2 * (heapP h A1 p1 * G)) w') := Lib.hid fun w1 G h1 => (h_same hI1 hI2 (by omega) (by omega) h1).mono fun e w' ⟨he, h'⟩ => ⟨he, h'.pull2⟩
              have HS4 : Hid (∀ (w1 : World) (G : Hp), Sat w0 (heapP o A2 p2 * (heapP h A1 p1 * G)) w1 → Calls Try.prog 46 #[vp o, vp h] w1 fun e w' => e = .returned (.bool (decide (S1.map trOf = S2.map trOf))) ∧ Below w0.heap.size w0 w') := Lib.hid fun w1 G h1 => by
                refine (h_same hI2 hI1 (by omega) (by omega) h1).mono ?_
                rintro e w' ⟨rfl, h'⟩
                exact ⟨by rw [decide_eq_decide.2 eq_comm], h'.below⟩
              have H7 : Hid (∀ N, Sat w0 (heapP h A1 p1 * (refP q (S1.map trOf) * (heapP o A2 p2 * (refP r (S2.map trOf) * emp)))) (wr.drewN N)) := Lib.hid fun N => (hS.drewN N).cast (by ac_rfl)
              clear hI1 hI2 hq hr hS HR1 HR2 HI HI1 hl1 hl2
              generalize decide (S1.map trOf = S2.map trOf) = d at *
              generalize S1.map trOf = L1 at *
              generalize S2.map trOf = L2 at *
              generalize L1.length = m1 at *
              generalize L2.length = m2 at *
              have hdd : (d == d) = true := by simp
              go_wp2_with fail
              go_quiet (first | (go_at_call 41; exact Calls.quiet_of (HRS.out _)))
              go_wp2_with (first
                | (go_at_call 43; (with_reducible refine (HS1.out _ (H7.out _)).mono ?_); rintro e w8 ⟨rfl, hS8⟩; have H8 := Lib.hid hS8; clear hS8)
                | (go_at_call 43; refine (HS2.out _ H8.out).mono ?_; rintro e w9 ⟨rfl, hS9⟩; have H9 := Lib.hid hS9; clear hS9)
                | (go_at_call 46; (with_reducible refine (HS3.out _ _ H9.out).mono ?_); rintro e w10 ⟨rfl, hS10⟩; have H10 := Lib.hid hS10; clear hS10)
                | (go_at_call 46; refine (HS4.out _ _ H10.out).mono ?_; rintro e w11 ⟨rfl, hb11⟩; have H11 := Lib.hid hb11; clear hb11)
                | (go_at_call 14; refine (known4 _).mono ?_; rintro e w12 ⟨rfl, hb⟩))
              go_ret
              exact ⟨by simp, H11.out.trans (hb.mono H11.out.size)⟩
end
end Go.Proofs.Ytcchfdoeacgapaa.Hm
