/-
  The walk of RingCopies. No statement is proved here.
-/
import Derived.Test.YtaaplmihmginpaaRingTakes
namespace Go.Proofs.Ytaaplmihmginpaa
open Go.RowKit
set_option linter.unusedVariables false

set_option maxRecDepth 100000 in
set_option maxHeartbeats 4000000 in
theorem ringCopies_early (w0 : World) (most : Int) (ao bo co : Option Addr) (n n2 n3 cap cap2 cap3 : Nat) (hl : n ≤ maxLen) (hl2 : n2 ≤ maxLen) (hl3 : n3 ≤ maxLen) (hbad : most < 1 ∨ 4096 < most ∨ 100 < n ∨ 50 < n2 ∨ 50 < n3) :
    Calls Try.prog 9 #[vi most, .slice ao n cap, .slice bo n2 cap2, .slice co n3 cap3] w0 (TrueBelow w0) := by
  unfold maxLen at hl hl2 hl3
  by_cases h1 : most < 1 ∨ 4096 < most
  · go_enter Try.func9, Try.ntmps9
    go_wp2_with fail
    refine (ring_new_no most h1 w0).mono ?_
    rintro e w1 ⟨rfl, rfl⟩
    go_wp2_with fail
    refine (known3 (Sat.start _)).mono ?_
    rintro e w1 ⟨rfl, hS⟩
    go_wp2
    go_ret
    exact ⟨rfl, hS.below⟩
  · by_cases h3 : 100 < n
    · have h3' : (100 : Int) < (n : Int) := by omega
      go_enter Try.func9, Try.ntmps9
      go_wp2_with fail
      refine (ring_new most (by omega) (by omega) (Sat.start w0)).mono ?_
      rintro e w1 ⟨p, rfl, hS⟩
      go_wp2_with fail
      refine (known3 hS).mono ?_
      rintro e w2 ⟨rfl, hS2⟩
      go_wp2
      go_ret
      exact ⟨rfl, hS2.below⟩
    · have h3' : ¬ (100 : Int) < (n : Int) := by omega
      by_cases h4 : 50 < n2
      · have h4' : (50 : Int) < (n2 : Int) := by omega
        go_enter Try.func9, Try.ntmps9
        go_wp2_with fail
        refine (ring_new most (by omega) (by omega) (Sat.start w0)).mono ?_
        rintro e w1 ⟨p, rfl, hS⟩
        go_wp2_with fail
        refine (known3 hS).mono ?_
        rintro e w2 ⟨rfl, hS2⟩
        go_wp2
        go_ret
        exact ⟨rfl, hS2.below⟩
      · have h4' : ¬ (50 : Int) < (n2 : Int) := by omega
        have h5' : (50 : Int) < (n3 : Int) := by omega
        go_enter Try.func9, Try.ntmps9
        go_wp2_with fail
        refine (ring_new most (by omega) (by omega) (Sat.start w0)).mono ?_
        rintro e w1 ⟨p, rfl, hS⟩
        go_wp2_with fail
        refine (known3 hS).mono ?_
        rintro e w2 ⟨rfl, hS2⟩
        go_wp2
        go_ret
        exact ⟨rfl, hS2.below⟩

set_option maxRecDepth 100000 in
set_option maxHeartbeats 8000000 in
theorem ringCopies_walk (w0 : World) (most : Int) (v : Value) (n : Nat) (A : Nat → Int) (h : ArgA w0 2 v n A) (v2 : Value) (n2 : Nat) (A2 : Nat → Int) (h2 : ArgA w0 2 v2 n2 A2) (v3 : Value) (n3 : Nat) (A3 : Nat → Int) (h3 : ArgA w0 2 v3 n3 A3) :
    Calls Try.prog 9 #[vi most, v, v2, v3] w0 (TrueBelow w0) := by
  obtain ⟨ao, cap, rfl⟩ := h.len
  obtain ⟨bo, cap2, rfl⟩ := h2.len
  obtain ⟨co, cap3, rfl⟩ := h3.len
  by_cases hbad : most < 1 ∨ 4096 < most ∨ 100 < n ∨ 50 < n2 ∨ 50 < n3
  · exact ringCopies_early w0 most ao bo co n n2 n3 cap cap2 cap3 h.small h2.small h3.small hbad
  obtain ⟨m, rfl⟩ := Int.eq_ofNat_of_zero_le (show 0 ≤ most by omega)
  have g1 : ¬ ((100 : Int) < (n : Int)) := by omega
  have g2 : ¬ ((50 : Int) < (n2 : Int)) := by omega
  have g3 : ¬ ((50 : Int) < (n3 : Int)) := by omega
  go_enter Try.func9, Try.ntmps9
  go_wp2_with fail
  refine (ring_new m (by omega) (by omega) (Sat.start w0)).mono ?_
  rintro e w1 ⟨p, rfl, hS⟩
  rw [Int.toNat_natCast] at hS
  have H := Lib.hid (hS.newRef m).pull2
  clear hS
  go_wp2_with fail
  generalize hw2 : w1.alloc (.cells #[.slice none 0 0, vi m] 62) = w2 at *
  generalize w1.heap.size = q at *
  clear hw2
  go_loopw [12] (fun i wr => ∃ (k : Nat) (xs : List Int), k ≤ n ∧ i = vi k ∧ Sat w0 (ringP p m xs * (refP q m xs * emp)) wr) (fun i _ => n - (intOf i).toNat)
  case atStart => exact ⟨0, [], Nat.zero_le _, rfl, H.out⟩
  case round =>
    obtain ⟨k, xs, hk, rfl, hS⟩ := hrel
    by_cases hlt : k < n
    · obtain ⟨b, off, rfl, hc⟩ := h.at_ hS (by omega)
      have ca := hc (k * 2) (by omega)
      have cb := hc (k * 2 + 1) (by omega)
      have hxl := hS.ringLen
      have H1 := Lib.hid hS
      generalize A (k * 2) = kd at *
      generalize A (k * 2 + 1) = nn at *
      rw [← Nat.add_assoc] at cb
      clear hc hS H
      go_wp2_with fail
      refine (do3 H1.out hxl.1 kd nn).mono ?_
      rintro e w3 ⟨bb, rfl, hS3, hb⟩
      have H3 := Lib.hid hS3
      clear hS3 hb
      go_wp2
      go_roundw
      case rel => exact ⟨k + 1, _, by omega, by go_num, H3.out⟩
      case measure => simp [intOf]; omega
    · obtain rfl : n = k := by omega
      have H1 := Lib.hid hS
      have hxl := hS.ringLen
      clear hS H
      go_wp2_with fail
      refine (ring_copy H1.out).mono ?_
      rintro e w3 ⟨p', rfl, hS3⟩
      obtain ⟨u, hu, hR⟩ := hS3.pull3.ref
      obtain ⟨uo, ucap, rfl⟩ := hR.len
      have c0 := hu.cell 0 rfl
      have H3 := Lib.hid hu
      have HR := Lib.hid hR
      clear hS3 hu hR
      go_wp2_with (at_builtin; refine wpList_append_sl Einti rfl (.const (.slice none 0 0)) (.tmp 65) rfl rfl (H3.out.addNil 3 1) (by rfl) HR.out (oneI xs) (by unfold maxLen; omega) (by omega) ?_; intro ao4 cap4 w4 hS4; simp only [Nat.zero_add, List.nil_append] at hS4; have H4 := Lib.hid hS4; clear hS4)
      have hS5 : Sat w0 (ringP p m xs * (ringP p' m xs * (refP q m xs * (refP w4.heap.size m xs * emp)))) (w4.alloc (.cells #[.slice ao4 xs.length cap4, vi m] 62)) := by
        have h10 : Sat w0 (pc w4.heap.size 62 [.slice ao4 xs.length cap4, vi m] * _) _ := H4.out.alloc (.cells #[.slice ao4 xs.length cap4, vi m] 62)
        exact (Sat.refI (Sat.refI (h10.in2 Sat.rsOfSl)).rot3).cast (by ac_rfl)
      have H5 := Lib.hid hS5
      clear hS5 H4 H3 HR H1 c0
      go_wp2_with fail
      generalize hw5 : w4.alloc (.cells #[.slice ao4 xs.length cap4, vi m] 62) = w5 at *
      generalize w4.heap.size = q' at *
      clear hw5
      refine (ring_same H5.out).mono ?_
      rintro e w6 ⟨rfl, hS6⟩
      rw [show (decide (m = m) && sameI xs xs) = true by simp [sameI]]
      have H6 := Lib.hid (hS6.cast (show _ = ringP p m xs * (refP q m xs * (ringP p' m xs * (refP q' m xs * emp))) by ac_rfl))
      clear hS6 H5
      go_wp2_with fail
      go_loopw [15] (fun i wr => ∃ (k : Nat) (ys : List Int), k ≤ n2 ∧ i = vi k ∧ Sat w0 (ringP p m ys * (refP q m ys * (ringP p' m xs * (refP q' m xs * emp)))) wr) (fun i _ => n2 - (intOf i).toNat)
      case atStart => exact ⟨0, xs, Nat.zero_le _, rfl, H6.out⟩
      case round =>
        obtain ⟨k2, ys, hk2, rfl, hS⟩ := hrel
        by_cases hlt2 : k2 < n2
        · obtain ⟨b, off, rfl, hc⟩ := h2.at_ hS (by omega)
          have ca := hc (k2 * 2) (by omega)
          have cb := hc (k2 * 2 + 1) (by omega)
          have hyl := hS.ringLen
          have H7 := Lib.hid hS
          generalize A2 (k2 * 2) = kd at *
          generalize A2 (k2 * 2 + 1) = nn at *
          rw [← Nat.add_assoc] at cb
          clear hc hS H6
          go_wp2_with fail
          refine (do3 H7.out hyl.1 kd nn).mono ?_
          rintro e w8 ⟨bb, rfl, hS8, hb⟩
          obtain rfl : bb = true := hb rfl
          have H8 := Lib.hid hS8
          clear hS8 hb
          go_wp2
          go_roundw
          case rel => exact ⟨k2 + 1, _, by omega, by go_num, H8.out⟩
          case measure => simp [intOf]; omega
        · obtain rfl : n2 = k2 := by omega
          have H7 := Lib.hid (hS.cast (show _ = ringP p' m xs * (refP q' m xs * (ringP p m ys * (refP q m ys * emp))) by ac_rfl))
          clear hS H6
          go_wp2_with fail
          go_loopw [16] (fun i wr => ∃ (k : Nat) (zs : List Int), k ≤ n3 ∧ i = vi k ∧ Sat w0 (ringP p' m zs * (refP q' m zs * (ringP p m ys * (refP q m ys * emp)))) wr) (fun i _ => n3 - (intOf i).toNat)
          case atStart => exact ⟨0, xs, Nat.zero_le _, rfl, H7.out⟩
          case round =>
            obtain ⟨k3, zs, hk3, rfl, hS⟩ := hrel
            by_cases hlt3 : k3 < n3
            · obtain ⟨b, off, rfl, hc⟩ := h3.at_ hS (by omega)
              have ca := hc (k3 * 2) (by omega)
              have cb := hc (k3 * 2 + 1) (by omega)
              have hzl := hS.ringLen
              have H8 := Lib.hid hS
              generalize A3 (k3 * 2) = kd at *
              generalize A3 (k3 * 2 + 1) = nn at *
              rw [← Nat.add_assoc] at cb
              clear hc hS H7
              go_wp2_with fail
              refine (do3 H8.out hzl.1 kd nn).mono ?_
              rintro e w9 ⟨bb, rfl, hS9, hb⟩
              obtain rfl : bb = true := hb rfl
              have H9 := Lib.hid hS9
              clear hS9 hb
              go_wp2
              go_roundw
              case rel => exact ⟨k3 + 1, _, by omega, by go_num, H9.out⟩
              case measure => simp [intOf]; omega
            · obtain rfl : n3 = k3 := by omega
              have hyl := hS.pull3.ringLen
              have hzl := hS.ringLen
              obtain ⟨a1, ha, hRa⟩ := (hS.cast (show _ = refP q m ys * (refP q' m zs * (ringP p m ys * (ringP p' m zs * emp))) by ac_rfl)).ref
              obtain ⟨b1, hb, hRb⟩ := ha.pull3.ref
              obtain ⟨ap, ac, rfl⟩ := hRa.len
              obtain ⟨bp, bc, rfl⟩ := hRb.len
              have cb0 := hb.cell 0 rfl
              have ca0 := hb.pull3.cell 0 rfl
              have H8 := Lib.hid (hb.cast (show _ = ringP p m ys * (pc q 62 [.slice ap ys.length ac, vi m] * (rs 3 (.slice ap ys.length ac) (ys.map vi) * (ringP p' m zs * (pc q' 62 [.slice bp zs.length bc, vi m] * (rs 3 (.slice bp zs.length bc) (zs.map vi) * emp))))) by ac_rfl))
              clear hS ha hb hRa hRb H7
              go_wp2_with fail
              go_region_held3 (fun w' => w'.cell? ⟨q, 0, none⟩ = some (.slice ap ys.length ac) ∧ w'.cell? ⟨q', 0, none⟩ = some (.slice bp zs.length bc))
                (first | exact ⟨hS14.cell 0 rfl, hS14.pull3.cell 0 rfl⟩ | exact ⟨d12, e12⟩ | exact ⟨d11, e11⟩ | exact ⟨d10, e10⟩ | go_keep)
                (first
                  | (go_at_call_of 32 (vp p); refine (same3v (H8.out.drewN 1)).mono ?_; rintro e w10 ⟨rfl, hS10⟩; have d10 := hS10.pull2.cell 0 rfl; have h99 := (hS10.cast (show _ = ringP p' m zs * (pc q' 62 [.slice bp zs.length bc, vi m] * (rs 3 (.slice bp zs.length bc) (zs.map vi) * (ringP p m ys * (pc q 62 [.slice ap ys.length ac, vi m] * (rs 3 (.slice ap ys.length ac) (ys.map vi) * emp))))) by ac_rfl)); have e10 := h99.pull2.cell 0 rfl; have H10 := Lib.hid h99; clear hS10 h99)
                  | (go_at_call_of 32 (vp p'); refine (same3v H10.out).mono ?_; rintro e w11 ⟨rfl, hS11⟩; have e11 := hS11.pull2.cell 0 rfl; have h99 := (hS11.cast (show _ = ringP p m ys * (ringP p' m zs * (pc q 62 [.slice ap ys.length ac, vi m] * (rs 3 (.slice ap ys.length ac) (ys.map vi) * (pc q' 62 [.slice bp zs.length bc, vi m] * (rs 3 (.slice bp zs.length bc) (zs.map vi) * emp))))) by ac_rfl)); have d11 := h99.pull3.cell 0 rfl; have H11 := Lib.hid h99; clear hS11 h99)
                  | (go_at_call 39; refine (ring_same H11.out).mono ?_; rintro e w12 ⟨rfl, hS12⟩; have d12 := hS12.pull3.cell 0 rfl; have h99 := hS12.dropL.dropL.pull3; have e12 := h99.cell 0 rfl; have H12 := Lib.hid hS12.dropL.dropL; clear hS12 h99)
                  | (go_at_call 20; refine (ref_same ys zs _ _ _ (by have := H12.out.pull2.rsRd; simpa [RdI] using this) (by have := H12.out.pull4.rsRd; simpa [RdI] using this) (by omega) (by omega)).mono ?_; rintro e w13 ⟨rfl, N, rfl⟩)
                  | (go_at_call 15; refine (known3 (H12.out.drewN N)).mono ?_; rintro e w14 ⟨rfl, hS14⟩))
              go_wp2
              go_ret
              exact ⟨rfl, hS14.below⟩
end Go.Proofs.Ytaaplmihmginpaa
