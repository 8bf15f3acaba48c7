/-
  The walks of RingTakes and RingOrder. No statement is proved here.
-/
import Derived.Test.YtaaplmihmginpaaRingPlays2
namespace Go.Proofs.Ytaaplmihmginpaa
open Go.RowKit
set_option linter.unusedVariables false

set_option maxRecDepth 100000 in
set_option maxHeartbeats 2000000 in
theorem ringTakes_early (w0 : World) (most n : Int) (ao : Option Addr) (len cap : Nat) (hl : len ≤ maxLen) (hbad : most < 1 ∨ 4096 < most ∨ 100 < len ∨ 200 < n) :
    Calls Try.prog 8 #[vi most, .slice ao len cap, vi n] w0 (TrueBelow w0) := by
  unfold maxLen at hl
  by_cases hm : most < 1 ∨ 4096 < most
  · go_enter Try.func8, Try.ntmps8
    go_wp2_with fail
    refine (ring_new_no most hm w0).mono ?_
    rintro e w1 ⟨rfl, rfl⟩
    go_wp2_with fail
    refine (known3 (Sat.start _)).mono ?_
    rintro e w1 ⟨rfl, hS⟩
    go_wp2
    go_ret
    exact ⟨rfl, hS.below⟩
  · by_cases h1 : 100 < len
    · have h1' : (100 : Int) < (len : Int) := by omega
      go_enter Try.func8, Try.ntmps8
      go_wp2_with fail
      refine (ring_new most (by omega) (by omega) (Sat.start w0)).mono ?_
      rintro e w1 ⟨p, rfl, hS⟩
      go_wp2_with fail
      refine (known3 hS).mono ?_
      rintro e w2 ⟨rfl, hS2⟩
      go_wp2
      go_ret
      exact ⟨rfl, hS2.below⟩
    · have h1' : ¬ (100 : Int) < (len : Int) := by omega
      have h2' : (200 : Int) < n := by omega
      go_enter Try.func8, Try.ntmps8
      go_wp2_with fail
      refine (ring_new most (by omega) (by omega) (Sat.start w0)).mono ?_
      rintro e w1 ⟨p, rfl, hS⟩
      go_wp2_with fail
      refine (known3 hS).mono ?_
      rintro e w2 ⟨rfl, hS2⟩
      go_wp2
      go_ret
      exact ⟨rfl, hS2.below⟩

theorem Sat.newRef {w0 w : World} {F : Hp} (h : Sat w0 F w) (m : Nat) : Sat w0 (refP w.heap.size m [] * F) (w.alloc (.cells #[.slice none 0 0, vi m] 62)) := by
  have h9 : Sat w0 (pc w.heap.size 62 [.slice none 0 0, vi m] * F) _ := h.alloc (.cells #[.slice none 0 0, vi m] 62)
  exact Sat.refI (v := .slice none 0 0) ((h9.rsNil 3).pull2)

theorem drop_headD (xs : List Int) (i : Nat) (h : i < xs.length) : (xs.drop i).headD 0 = xs[i] := by
  rw [List.drop_eq_getElem_cons h]; rfl
theorem drop_isEmpty (xs : List Int) (i : Nat) (h : i < xs.length) : (xs.drop i).isEmpty = false := by
  rw [List.drop_eq_getElem_cons h]; rfl
theorem drop_isEmpty' (xs : List Int) (i : Nat) (h : xs.length ≤ i) : (xs.drop i).isEmpty = true := by
  rw [List.drop_eq_nil_of_le h]; rfl

set_option maxRecDepth 100000 in
set_option maxHeartbeats 4000000 in
theorem ringTakes_walk (w0 : World) (most : Int) (v : Value) (len : Nat) (A : Nat → Int) (h : ArgA w0 2 v len A) (n : Int) :
    Calls Try.prog 8 #[vi most, v, vi n] w0 (TrueBelow w0) := by
  obtain ⟨ao, cap, rfl⟩ := h.len
  by_cases hbad : most < 1 ∨ 4096 < most ∨ 100 < len ∨ 200 < n
  · exact ringTakes_early w0 most n ao len cap h.small hbad
  obtain ⟨m, rfl⟩ := Int.eq_ofNat_of_zero_le (show 0 ≤ most by omega)
  have hn2 : n ≤ 200 := by omega
  have h3 : ¬ ((100 : Int) < (len : Int)) := by omega
  have h4 : ¬ ((200 : Int) < n) := by omega
  go_enter Try.func8, Try.ntmps8
  go_wp2_with fail
  refine (ring_new m (by omega) (by omega) (Sat.start w0)).mono ?_
  rintro e w1 ⟨p, rfl, hS⟩
  rw [Int.toNat_natCast] at hS
  have H := Lib.hid hS
  clear hS
  go_wp2_with fail
  go_loopw [9] (fun i wr => ∃ (k : Nat) (xs : List Int), k ≤ len ∧ i = vi k ∧ Sat w0 (ringP p m xs * emp) wr) (fun i _ => len - (intOf i).toNat)
  case atStart => exact ⟨0, [], Nat.zero_le _, rfl, H.out⟩
  case round =>
    obtain ⟨k, xs, hk, rfl, hS⟩ := hrel
    by_cases hlt : k < len
    · obtain ⟨b, off, rfl, hc⟩ := h.at_ (hS.newRef m) (by omega)
      have ca := hc (k * 2) (by omega)
      have cb := hc (k * 2 + 1) (by omega)
      have hS2 := hS.newRef m
      clear hc
      have hxl := hS.ringLen
      have H1 := Lib.hid hS2
      generalize A (k * 2) = kd at *
      generalize A (k * 2 + 1) = nn at *
      rw [← Nat.add_assoc] at cb
      clear hS H hS2
      go_wp2_with fail
      refine (do3 H1.out.pull2 (by simp) kd nn).mono ?_
      rintro e w3 ⟨bb, rfl, hS3, hb⟩
      have H3 := Lib.hid hS3
      clear hS3 hb
      go_wp2
      go_roundw
      case rel => exact ⟨k + 1, _, by omega, by go_num, H3.out.drop2⟩
      case measure => simp [intOf]; omega
    · obtain rfl : len = k := by omega
      have H1 := Lib.hid hS
      have hxl := hS.ringLen
      clear hS H
      go_wp2_with fail
      refine (ring_copy H1.out).mono ?_
      rintro e w2 ⟨q, rfl, hS2⟩
      have H2 := Lib.hid hS2
      clear hS2
      go_wp2_with fail
      refine (ring_take H2.out.pull2 n).mono ?_
      rintro e w3 ⟨u, rfl, hS3⟩
      obtain ⟨uo, ucap, rfl⟩ := hS3.rd.len
      have H3 := Lib.hid hS3
      clear hS3
      have htake : xs.take (takeK n xs) = xs.take n.toNat := by
        unfold takeK
        by_cases hx : n.toNat ≤ xs.length
        · rw [Nat.min_eq_left hx]
        · rw [Nat.min_eq_right (by omega), List.take_of_length_le (Nat.le_refl _), List.take_of_length_le (by omega)]
      have hdrop : xs.drop (takeK n xs) = xs.drop n.toNat := by
        unfold takeK
        by_cases hx : n.toNat ≤ xs.length
        · rw [Nat.min_eq_left hx]
        · rw [Nat.min_eq_right (by omega), List.drop_eq_nil_of_le (Nat.le_refl _), List.drop_eq_nil_of_le (by omega)]
      have hkl : takeK n xs = (xs.take n.toNat).length := by rw [List.length_take]; rfl
      have HT := Lib.hid htake
      have HD := Lib.hid hdrop
      have HK := Lib.hid hkl
      clear htake hdrop hkl
      have hk2 : takeK n xs ≤ 4096 := Nat.le_trans (Nat.min_le_right _ _) (by omega)
      go_wp2_with fail
      go_loopw [12, 13] (fun y i wr => ∃ j c : Nat, j ≤ n.toNat ∧ i = vi j ∧ Hid (c = (xs.take j).length) ∧ Sat w0 (sl 3 1 y c ((xs.take j).map vi) * (ringP q m (xs.drop j) *
          (sl 3 1 (.slice uo (takeK n xs) ucap) (takeK n xs) ((xs.take (takeK n xs)).map vi) * (ringP p m (xs.drop (takeK n xs)) * emp)))) wr) (fun _ i _ => n.toNat - (intOf i).toNat)
      case atStart => exact ⟨0, 0, Nat.zero_le _, rfl, Lib.hid (by simp), (H3.out.addNil 3 1).cast (by simp only [List.take_zero, List.map_nil, List.drop_zero]; ac_rfl)⟩
      case round =>
        obtain ⟨j, c, hj, rfl, hcl, hS⟩ := hrel
        obtain ⟨yo, ycap, rfl⟩ := hS.rd.len
        by_cases hjn : (j : Int) < n
        · have HS := Lib.hid hS
          clear hS
          by_cases hjl : j < xs.length
          · go_wp2_with fail
            refine (ring_pop HS.out.pull2).mono ?_
            rintro e w4 ⟨rfl, hS4⟩
            rw [drop_isEmpty xs j hjl, drop_headD xs j hjl] 
            obtain rfl : j = c := by rw [hcl.out, List.length_take]; omega
            have hlj2 : (xs.take (j + 1)).length = j + 1 := by rw [List.length_take]; omega
            have HL2 := Lib.hid hlj2
            clear hlj2
            rw [List.tail_drop] at hS4
            have H4 := Lib.hid hS4.pull2
            clear hS4 HS
            go_wp2_with (at_builtin; refine wpList_append_sl Einti rfl (.tmp 70) (.tmp 72) rfl rfl (H4.out.alloc' _) (by rfl) (Rd.one _ _ _) (by simp [Value.oneCell']) (by unfold maxLen; omega) (by omega) ?_; intro ao5 cap5 w5 hS5; have H5 := Lib.hid hS5; clear hS5)
            go_roundw
            case rel => exact ⟨j + 1, j + 1, by omega, by go_num, Lib.hid HL2.out.symm, by rw [take_snoc_int xs j hjl]; exact H5.out⟩
            case measure => simp [intOf]; omega
          · go_wp2_with fail
            refine (ring_pop HS.out.pull2).mono ?_
            rintro e w4 ⟨rfl, hS4⟩
            rw [drop_isEmpty' xs j (by omega)]
            rw [List.tail_drop] at hS4
            have H4 := Lib.hid hS4.pull2
            have ht1 : xs.take (j + 1) = xs.take j := by rw [List.take_of_length_le (by omega), List.take_of_length_le (by omega)]
            have HT1 := Lib.hid ht1
            clear hS4 ht1
            go_wp2
            go_roundw
            case rel => exact ⟨j + 1, c, by omega, by go_num, Lib.hid (by rw [HT1.out]; exact hcl.out), by rw [HT1.out]; exact H4.out⟩
            case measure => simp [intOf]; omega
        · obtain hjj : j = n.toNat := by omega
          rw [hcl.out, hjj] at hS
          rw [hcl.out]
          have hfin : Sat w0 (ringP p m (xs.drop n.toNat) * (ringP q m (xs.drop n.toNat) * (sl 3 1 (.slice uo (xs.take n.toNat).length ucap) (xs.take n.toNat).length ((xs.take n.toNat).map vi) * (sl 3 1 (.slice yo (xs.take n.toNat).length ycap) (xs.take n.toNat).length ((xs.take n.toNat).map vi) * emp)))) wr := by
            have h9 := hS
            rw [HT.out, HD.out, HK.out] at h9
            exact h9.cast (by ac_rfl)
          have hk3 := HK.out
          rw [hk3, hjj]
          have hle : (xs.take n.toNat).length ≤ 4096 := by rw [← hk3]; exact hk2
          have HF := Lib.hid hfin
          clear hS hfin HT HD HK hk3 hjj H3 H2 H1
          generalize hL : xs.take n.toNat = L at *
          generalize hM : xs.drop n.toNat = M at *
          clear hL hM
          go_wp2_with fail
          refine (ref_same_true L _ _ _ HF.out.pull3.rdI HF.out.pull4.rdI (by omega)).mono ?_
          rintro e w4 ⟨rfl, N, rfl⟩
          go_wp2_with fail
          refine (ring_same (HF.out.drewN N)).mono ?_
          rintro e w5 ⟨rfl, hS5⟩
          rw [show (decide (m = m) && sameI M M) = true by simp [sameI]]
          go_wp2_with fail
          refine (known3 hS5).mono ?_
          rintro e w6 ⟨rfl, hS6⟩
          go_wp2
          go_ret
          exact ⟨rfl, hS6.below⟩
end Go.Proofs.Ytaaplmihmginpaa
