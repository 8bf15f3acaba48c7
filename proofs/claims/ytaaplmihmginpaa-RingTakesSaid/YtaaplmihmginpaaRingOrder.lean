/-
  The walk of RingOrder. No statement is proved here.
-/
import Derived.Test.YtaaplmihmginpaaRingTakes
namespace Go.Proofs.Ytaaplmihmginpaa
open Go.RowKit
set_option linter.unusedVariables false

set_option maxRecDepth 100000 in
set_option maxHeartbeats 2000000 in
theorem ringOrder_early (w0 : World) (most : Int) (ao bo : Option Addr) (n m cap cap' : Nat) (hl : n ≤ maxLen) (hl' : m ≤ maxLen) (hbad : most < 1 ∨ 4096 < most ∨ 200 < n ∨ 200 < m) :
    Calls Try.prog 3 #[vi most, .slice ao n cap, .slice bo m cap'] w0 (TrueBelow w0) := by
  unfold maxLen at hl hl'
  by_cases h1 : most < 1
  · go_enter Try.func3, Try.ntmps3
    go_wp2_with fail
    refine (ring_new_no most (by omega) w0).mono ?_
    rintro e w1 ⟨rfl, rfl⟩
    go_wp2_with fail
    refine (known3 (Sat.start _)).mono ?_
    rintro e w1 ⟨rfl, hS⟩
    go_wp2
    go_ret
    exact ⟨rfl, hS.below⟩
  · by_cases h2 : 4096 < most
    · go_enter Try.func3, Try.ntmps3
      go_wp2_with fail
      refine (ring_new_no most (by omega) w0).mono ?_
      rintro e w1 ⟨rfl, rfl⟩
      go_wp2_with fail
      refine (known3 (Sat.start _)).mono ?_
      rintro e w1 ⟨rfl, hS⟩
      go_wp2
      go_ret
      exact ⟨rfl, hS.below⟩
    · by_cases h3 : 200 < n
      · have h3' : (200 : Int) < (n : Int) := by omega
        go_enter Try.func3, Try.ntmps3
        go_wp2_with fail
        refine (ring_new most (by omega) (by omega) (Sat.start w0)).mono ?_
        rintro e w1 ⟨p, rfl, hS⟩
        go_wp2_with fail
        refine (known3 hS).mono ?_
        rintro e w2 ⟨rfl, hS2⟩
        go_wp2
        go_ret
        exact ⟨rfl, hS2.below⟩
      · have h3' : ¬ (200 : Int) < (n : Int) := by omega
        have h4' : (200 : Int) < (m : Int) := by omega
        go_enter Try.func3, Try.ntmps3
        go_wp2_with fail
        refine (ring_new most (by omega) (by omega) (Sat.start w0)).mono ?_
        rintro e w1 ⟨p, rfl, hS⟩
        go_wp2_with fail
        refine (known3 hS).mono ?_
        rintro e w2 ⟨rfl, hS2⟩
        go_wp2
        go_ret
        exact ⟨rfl, hS2.below⟩

set_option maxRecDepth 100000 in
set_option maxHeartbeats 8000000 in
theorem ringOrder_walk (w0 : World) (most : Int) (v : Value) (n : Nat) (A : Nat → Int) (h : ArgA w0 1 v n A) (v' : Value) (n' : Nat) (B : Nat → Int) (h' : ArgA w0 1 v' n' B) :
    Calls Try.prog 3 #[vi most, v, v'] w0 (TrueBelow w0) := by
  obtain ⟨ao, cap, rfl⟩ := h.len
  obtain ⟨bo, cap', rfl⟩ := h'.len
  by_cases hbad : most < 1 ∨ 4096 < most ∨ 200 < n ∨ 200 < n'
  · exact ringOrder_early w0 most ao bo n n' cap cap' h.small h'.small hbad
  obtain ⟨m, rfl⟩ := Int.eq_ofNat_of_zero_le (show 0 ≤ most by omega)
  have h3 : ¬ ((200 : Int) < (n : Int)) := by omega
  have h4 : ¬ ((200 : Int) < (n' : Int)) := by omega
  go_enter Try.func3, Try.ntmps3
  go_wp2_with fail
  refine (ring_new m (by omega) (by omega) (Sat.start w0)).mono ?_
  rintro e w1 ⟨p, rfl, hS⟩
  rw [Int.toNat_natCast] at hS
  have H := Lib.hid ((hS.addNil 3 1).addNil 3 1)
  clear hS
  go_wp2_with fail
  go_loopw [9, 10, 11] (fun x y i wr => ∃ (k : Nat) (ins outs xs : List Int), k ≤ n ∧ i = vi k ∧ Hid (ins = outs ++ xs) ∧ ins.length ≤ k ∧ outs.length ≤ k ∧
      Sat w0 (sl 3 1 x ins.length (ins.map vi) * (sl 3 1 y outs.length (outs.map vi) * (ringP p m xs * emp))) wr) (fun _ _ i _ => n - (intOf i).toNat)
  case atStart => exact ⟨0, [], [], [], Nat.zero_le _, rfl, Lib.hid rfl, by simp, by simp, H.out⟩
  case round =>
    obtain ⟨k, ins, outs, xs, hk, rfl, heq, hil, hol, hS⟩ := hrel
    obtain ⟨xo, xcap, rfl⟩ := hS.rd.len
    obtain ⟨yo, ycap, rfl⟩ := hS.pull2.rd.len
    have hxl := hS.pull3.ringLen
    clear H
    by_cases hlt : k < n
    · obtain ⟨b, off, rfl, hc⟩ := h.at_ hS (by omega)
      have ca := hc k (by omega)
      clear hc
      have HS := Lib.hid hS
      clear hS
      have ho1 : outs.length ≤ ins.length := by
        have := congrArg List.length heq.out
        simp only [List.length_append] at this
        omega
      by_cases hful : xs.length = m
      · go_wp2_with fail
        refine (ring_push HS.out.pull3 (A k)).mono ?_
        rintro e w2 ⟨rfl, hS2⟩
        rw [show pushE m xs = 3 from if_pos hful]
        rw [show pushL m xs (A k) = xs from if_pos hful] at hS2
        have H4 := Lib.hid hS2.rot3
        have HEQ := heq
        clear hS2 HS ca
        have hfl := Lib.hid hful
        clear hful
        by_cases hkn : k < n'
        · obtain ⟨b4, off4, rfl, hc4⟩ := h'.at_ H4.out (by omega)
          clear hc4
          go_wp2_with fail
          go_loopw [10, 12] (fun y kk wr => ∃ (q : Nat) (outs2 xs2 : List Int), kk = vi q ∧ q ≤ 10 ∧ Hid (ins = outs2 ++ xs2) ∧ Sat w0 (sl 3 1 (.slice xo ins.length xcap) ins.length (ins.map vi) * (sl 3 1 y outs2.length (outs2.map vi) * (ringP p m xs2 * emp))) wr) (fun _ kk _ => 10 - (intOf kk).toNat)
          case atStart => exact ⟨0, _, _, rfl, by omega, HEQ, H4.out⟩
          case round =>
            obtain ⟨q, outs2, xs2, rfl, hq, heq2, hS5⟩ := hrel
            obtain ⟨yo2, ycap2, rfl⟩ := hS5.pull2.rd.len
            obtain ⟨b5, off5, e5, hc5⟩ := h'.at_ hS5 (by omega)
            cases e5
            have cb5 := hc5 k (by omega)
            have hxl5 := hS5.pull3.ringLen
            have ho2 : outs2.length ≤ ins.length := by
              have h0 := congrArg List.length heq2.out
              have h1 : (outs2 ++ xs2).length = outs2.length + xs2.length := List.length_append
              have h2 : ins.length = ins.length := by simp
              omega
            have H5 := Lib.hid hS5
            clear hc5 hS5
            generalize B k = bk at *
            by_cases hb1 : (q : Int) < bk ∧ q < 10
            · obtain ⟨hb1, hb2⟩ := hb1
              have hb2' : (q : Int) < 10 := by omega
              match xs2, heq2, H5, hxl5 with
              | [], heq2, H5, hxl5 =>
                go_wp2_with fail
                refine (ring_pop H5.out.pull3).mono ?_
                rintro e w6 ⟨rfl, hS6⟩
                have H6 := Lib.hid hS6.rot3
                clear hS6
                go_wp2
                go_roundw
                case rel => exact ⟨q + 1, outs2, [], by go_num, by omega, heq2, H6.out⟩
                case measure => simp [intOf]; omega
              | y :: ys, heq2, H5, hxl5 =>
                go_wp2_with fail
                refine (ring_pop H5.out.pull3).mono ?_
                rintro e w6 ⟨rfl, hS6⟩
                have H6 := Lib.hid hS6.pull3
                clear hS6
                go_wp2_with (at_builtin; refine wpList_append_sl Einti rfl (.tmp 97) (.tmp 99) rfl rfl (H6.out.alloc' _) (by rfl) (Rd.one _ _ _) (by simp [Value.oneCell']) (by unfold maxLen; omega) (by omega) ?_; intro ao7 cap7 w7 hS7; have H7 := Lib.hid hS7; clear hS7)
                go_roundw
                case rel => exact ⟨q + 1, outs2 ++ [y], ys, by go_num, by omega, Lib.hid (by rw [List.append_assoc]; exact heq2.out), by rw [show (outs2 ++ [y]).length = outs2.length + 1 by simp, show (outs2 ++ [y]).map vi = outs2.map vi ++ [vi y] by simp]; exact H7.out.pull3⟩
                case measure => simp [intOf]; omega
            · have hnb : ¬ ((q : Int) < bk ∧ (q : Int) < 10) := by omega
              by_cases hb1 : (q : Int) < bk
              · have hb2 : ¬ (q : Int) < 10 := by omega
                go_wp2_with fail
                refine (ring_len H5.out.pull3).mono ?_
                rintro e w6 ⟨rfl, rfl⟩
                go_wp2
                go_roundw
                case rel => exact ⟨k + 1, _, outs2, xs2, by omega, by go_num, heq2, by omega, by omega, H5.out.cast (by simp)⟩
                case measure => simp [intOf]; omega
              · go_wp2_with fail
                refine (ring_len H5.out.pull3).mono ?_
                rintro e w6 ⟨rfl, rfl⟩
                go_wp2
                go_roundw
                case rel => exact ⟨k + 1, _, outs2, xs2, by omega, by go_num, heq2, by omega, by omega, H5.out.cast (by simp)⟩
                case measure => simp [intOf]; omega
        · go_wp2_with fail
          refine (ring_len H4.out.pull3).mono ?_
          rintro e w6 ⟨rfl, rfl⟩
          go_wp2
          go_roundw
          case rel => exact ⟨k + 1, ins, outs, xs, by omega, by go_num, heq, by omega, by omega, H4.out⟩
          case measure => simp [intOf]; omega
      · go_wp2_with fail
        refine (ring_push HS.out.pull3 (A k)).mono ?_
        rintro e w2 ⟨rfl, hS2⟩
        rw [show pushE m xs = 0 from if_neg hful]
        rw [show pushL m xs (A k) = xs ++ [A k] from if_neg hful] at hS2
        obtain ⟨b2, off2, e2, hc2⟩ := h.at_ hS2 (by omega)
        cases e2
        have ca2 := hc2 k (by omega)
        have H2 := Lib.hid hS2.pull2
        have hxl2 := hS2.ringLen
        have hx1 : xs.length + 1 ≤ m := by simpa using hxl2.1
        have HEQ : Hid (ins ++ [A k] = outs ++ (xs ++ [A k])) := Lib.hid (by rw [heq.out, List.append_assoc])
        clear hS2 HS ca hc2
        have hfl := Lib.hid hful
        clear hful
        generalize hx : A k = x at *
        clear hx
        by_cases hkn : k < n'
        · obtain ⟨b4, off4, rfl, hc4⟩ := h'.at_ H2.out (by omega)
          clear hc4
          go_wp2_with (at_builtin; refine wpList_append_sl Einti rfl (.tmp 68) (.tmp 73) rfl rfl (H2.out.alloc' _) (by rfl) (Rd.one _ _ _) (by simp [Value.oneCell']) (by unfold maxLen; omega) (by omega) ?_; intro ao3 cap3 w3 hS3; have H4 : Hid (Sat w0 (sl 3 1 (.slice ao3 (ins.length + 1) cap3) (ins.length + 1) ((ins ++ [x]).map vi) * (sl 3 1 (.slice yo outs.length ycap) outs.length (outs.map vi) * (ringP p m (xs ++ [x]) * emp))) w3) := Lib.hid (hS3.cast (by simp only [List.map_append, List.map_cons, List.map_nil]; ac_rfl)); obtain ⟨b8, off8, e8, hc8⟩ := h'.at_ hS3 (by omega); cases e8; have c8 := hc8 k (by omega); clear hc8 hS3)
          go_loopw [10, 12] (fun y kk wr => ∃ (q : Nat) (outs2 xs2 : List Int), kk = vi q ∧ q ≤ 10 ∧ Hid ((ins ++ [x]) = outs2 ++ xs2) ∧ Sat w0 (sl 3 1 (.slice ao3 (ins.length + 1) cap3) (ins.length + 1) ((ins ++ [x]).map vi) * (sl 3 1 y outs2.length (outs2.map vi) * (ringP p m xs2 * emp))) wr) (fun _ kk _ => 10 - (intOf kk).toNat)
          case atStart => exact ⟨0, _, _, rfl, by omega, HEQ, H4.out⟩
          case round =>
            obtain ⟨q, outs2, xs2, rfl, hq, heq2, hS5⟩ := hrel
            obtain ⟨yo2, ycap2, rfl⟩ := hS5.pull2.rd.len
            obtain ⟨b5, off5, e5, hc5⟩ := h'.at_ hS5 (by omega)
            cases e5
            have cb5 := hc5 k (by omega)
            have hxl5 := hS5.pull3.ringLen
            have ho2 : outs2.length ≤ (ins.length + 1) := by
              have h0 := congrArg List.length heq2.out
              have h1 : (outs2 ++ xs2).length = outs2.length + xs2.length := List.length_append
              have h2 : (ins ++ [x]).length = (ins.length + 1) := by simp
              omega
            have H5 := Lib.hid hS5
            clear hc5 hS5
            generalize B k = bk at *
            by_cases hb1 : (q : Int) < bk ∧ q < 10
            · obtain ⟨hb1, hb2⟩ := hb1
              have hb2' : (q : Int) < 10 := by omega
              match xs2, heq2, H5, hxl5 with
              | [], heq2, H5, hxl5 =>
                go_wp2_with fail
                refine (ring_pop H5.out.pull3).mono ?_
                rintro e w6 ⟨rfl, hS6⟩
                have H6 := Lib.hid hS6.rot3
                clear hS6
                go_wp2
                go_roundw
                case rel => exact ⟨q + 1, outs2, [], by go_num, by omega, heq2, H6.out⟩
                case measure => simp [intOf]; omega
              | y :: ys, heq2, H5, hxl5 =>
                go_wp2_with fail
                refine (ring_pop H5.out.pull3).mono ?_
                rintro e w6 ⟨rfl, hS6⟩
                have H6 := Lib.hid hS6.pull3
                clear hS6
                go_wp2_with (at_builtin; refine wpList_append_sl Einti rfl (.tmp 97) (.tmp 99) rfl rfl (H6.out.alloc' _) (by rfl) (Rd.one _ _ _) (by simp [Value.oneCell']) (by unfold maxLen; omega) (by omega) ?_; intro ao7 cap7 w7 hS7; have H7 := Lib.hid hS7; clear hS7)
                go_roundw
                case rel => exact ⟨q + 1, outs2 ++ [y], ys, by go_num, by omega, Lib.hid (by rw [List.append_assoc]; exact heq2.out), by rw [show (outs2 ++ [y]).length = outs2.length + 1 by simp, show (outs2 ++ [y]).map vi = outs2.map vi ++ [vi y] by simp]; exact H7.out.pull3⟩
                case measure => simp [intOf]; omega
            · have hnb : ¬ ((q : Int) < bk ∧ (q : Int) < 10) := by omega
              by_cases hb1 : (q : Int) < bk
              · have hb2 : ¬ (q : Int) < 10 := by omega
                go_wp2_with fail
                refine (ring_len H5.out.pull3).mono ?_
                rintro e w6 ⟨rfl, rfl⟩
                go_wp2
                go_roundw
                case rel => exact ⟨k + 1, _, outs2, xs2, by omega, by go_num, heq2, by simp; omega, by omega, H5.out.cast (by simp)⟩
                case measure => simp [intOf]; omega
              · go_wp2_with fail
                refine (ring_len H5.out.pull3).mono ?_
                rintro e w6 ⟨rfl, rfl⟩
                go_wp2
                go_roundw
                case rel => exact ⟨k + 1, _, outs2, xs2, by omega, by go_num, heq2, by simp; omega, by omega, H5.out.cast (by simp)⟩
                case measure => simp [intOf]; omega
        · go_wp2_with (at_builtin; refine wpList_append_sl Einti rfl (.tmp 68) (.tmp 73) rfl rfl (H2.out.alloc' _) (by rfl) (Rd.one _ _ _) (by simp [Value.oneCell']) (by unfold maxLen; omega) (by omega) ?_; intro ao3 cap3 w3 hS3; have H4 : Hid (Sat w0 (sl 3 1 (.slice ao3 (ins.length + 1) cap3) (ins.length + 1) ((ins ++ [x]).map vi) * (sl 3 1 (.slice yo outs.length ycap) outs.length (outs.map vi) * (ringP p m (xs ++ [x]) * emp))) w3) := Lib.hid (hS3.cast (by simp only [List.map_append, List.map_cons, List.map_nil]; ac_rfl)); clear hS3)
          refine (ring_len H4.out.pull3).mono ?_
          rintro e w6 ⟨rfl, rfl⟩
          go_wp2
          go_roundw
          case rel => exact ⟨k + 1, ins ++ [x], outs, xs ++ [x], by omega, by go_num, HEQ, by simp; omega, by omega, H4.out.cast (by simp)⟩
          case measure => simp [intOf]; omega
    · obtain rfl : n = k := by omega
      have hkl : takeK 5000 xs = xs.length := by unfold takeK; omega
      have HS := Lib.hid hS
      clear hS
      go_wp2_with fail
      refine (ring_take HS.out.pull3 5000).mono ?_
      rintro e w2 ⟨u, rfl, hS2⟩
      obtain ⟨uo, ucap, rfl⟩ := hS2.rd.len
      rw [hkl, List.take_length, List.drop_length] at hS2
      rw [hkl]
      have ho1 : ins.length = outs.length + xs.length := by
        have := congrArg List.length heq.out
        simp only [List.length_append] at this
        omega
      have H2 := Lib.hid hS2
      have HO := Lib.hid ho1
      have ho2 : outs.length + xs.length ≤ 200 := by omega
      clear hS2 HS hkl ho1
      go_wp2_with (at_builtin; refine wpList_append_sl Einti rfl (.tmp 105) (.tmp 107) rfl rfl (H2.out.pull4) (by rfl) (H2.out.rd) (oneI xs) (by unfold maxLen; omega) (by omega) ?_; intro ao3 cap3 w3 hS3; have H3 := Lib.hid hS3; clear hS3)
      refine (ref_same_true ins _ _ _ H3.out.pull4.rdI (by have := H3.out.rd; rw [← List.map_append, ← heq.out] at this; rw [RdI, HO.out]; exact this) (by omega)).mono ?_
      rintro e w4 ⟨rfl, N, rfl⟩
      go_wp2_with fail
      refine (ring_len (H3.out.drewN N).pull3).mono ?_
      rintro e w5 ⟨rfl, rfl⟩
      go_wp2_with fail
      refine (known3 (H3.out.drewN N)).mono ?_
      rintro e w6 ⟨rfl, hS6⟩
      go_wp2
      go_ret
      exact ⟨rfl, hS6.below⟩
end Go.Proofs.Ytaaplmihmginpaa
