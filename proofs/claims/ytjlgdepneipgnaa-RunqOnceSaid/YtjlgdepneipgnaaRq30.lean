/-
  The walk of RunqCopies. No statement is proved here.
-/
import Derived.Test.YtjlgdepneipgnaaRq28
import Derived.Test.YtjlgdepneipgnaaRq29
namespace Go.Proofs.Ytjlgdepneipgnaa.Rq
open Go.RowKit
set_option linter.unusedVariables false

/-- few, wherever it is asked. -/
abbrev Few (w0 : World) (v : Value) (k : Int) (f : Bool) : Prop := ∀ w, Below w0.heap.size w0 w → Calls Try.prog 18 #[v, vi k] w fun e w' => e = .returned (.bool f) ∧ w = w'
theorem few_of {w0 : World} {v : Value} {n : Nat} {K G : Nat → Int} {Y : Nat → Bool} {V : Nat → Value} {af : Nat → List Nat} (h : Acts w0 v n K G Y V af) (most : Nat) (hm : most ≤ 1000) : ∃ f, Few w0 v most f :=
  ⟨_, fun w hB => few5 h hB most hm⟩
/-- An act's round: what do answers at the act that is next. -/
theorem do_at {w0 w : World} {ao : Option Addr} {n cap k : Nat} {K G : Nat → Int} {Y : Nat → Bool} {V : Nat → Value} {af : Nat → List Nat} (h : Acts w0 (.slice ao n cap) n K G Y V af) (hk : k < n) {q r p m : Nat} {xs : List Int} {z : Int} {b : Bool} {F : Hp}
    (hS : Sat w0 (bothQ q r p m xs z b F) w) (hm1 : 2 ≤ m) : ∃ bx off kd g y u, ao = some ⟨bx, off, none⟩ ∧ w.cell? ⟨bx, off + k * 4, none⟩ = some (vi kd) ∧ w.cell? ⟨bx, off + k * 4 + 1, none⟩ = some (vi g) ∧ w.cell? ⟨bx, off + k * 4 + 2, none⟩ = some (.bool y) ∧
      (∃ a3 l3 p3, u = .slice a3 l3 p3) ∧ w.cell? ⟨bx, off + k * 4 + 3, none⟩ = some u ∧ Calls Try.prog 22 #[vp q, vp p, .agg #[vi kd, vi g, .bool y, u]] w (DoQ w0 q r p m xs z b F) := by
  obtain ⟨bx, off, rfl, c0, c1, c2, c3⟩ := h.at_ hS.below k hk
  obtain ⟨a3, p3, hv3⟩ := ((h.aff k hk).1 _ hS.below).1.len
  have hA : ∀ w', Sat w0 F w' → RdA w' (.slice a3 (af k).length p3) (af k) := fun w' h' => hv3 ▸ (h.aff k hk).1 w' h'.below
  rw [hv3] at c3
  exact ⟨bx, off, _, _, _, _, rfl, c0, c1, c2, ⟨_, _, _, rfl⟩, c3, do5 hS hm1 _ _ _ hA⟩
section
variable {w0 : World} {v v2 v3 : Value} {n n2 n3 : Nat} {K G K2 G2 K3 G3 : Nat → Int} {Y Y2 Y3 : Nat → Bool} {V V2 V3 : Nat → Value} {af af2 af3 : Nat → List Nat}
set_option maxRecDepth 100000 in
set_option maxHeartbeats 2000000 in
theorem copies_e1 {ao1 : Option Addr} {n1 cap1 : Nat} {ao2 : Option Addr} {n2 cap2 : Nat} {ao3 : Option Addr} {n3 cap3 : Nat} (most : Int) (hm : 2 ≤ most ∧ most ≤ 4096) (F1 : Few w0 (.slice ao1 n1 cap1) 80 false) :
    Calls Try.prog 8 #[vi most, .slice ao1 n1 cap1, .slice ao2 n2 cap2, .slice ao3 n3 cap3] w0 (TrueBelow w0) := by
  have HM := Lib.hid (may5 most)
  rw [decide_eq_true hm] at HM
  have H1 := Lib.hid F1
  clear F1
  obtain ⟨m, rfl⟩ := Int.eq_ofNat_of_zero_le (show 0 ≤ most by omega)
  have HQ := Lib.hid (q_new m (by omega) (by omega) (Sat.start w0))
  clear hm
  go_enter Try.func8, Try.ntmps8
  go_wp2_with (first
    | (go_at_call 17; refine HQ.out.mono ?_; rintro e w1 ⟨q, r, rfl, hS1⟩; have HB := Lib.hid hS1.below; clear hS1)
    | (go_at_call 18; (with_reducible refine (H1.out _ HB.out).mono ?_); rintro e w' ⟨rfl, rfl⟩)
    | (go_at_call 19; refine (HM.out _).mono ?_; rintro e w' ⟨rfl, rfl⟩)
    | (go_at_call 20; refine (known5 _).mono ?_; rintro e w3 ⟨rfl, hb⟩))
  go_ret
  exact ⟨rfl, HB.out.trans (hb.mono HB.out.size)⟩
set_option maxRecDepth 100000 in
set_option maxHeartbeats 2000000 in
theorem copies_e2 {ao1 : Option Addr} {n1 cap1 : Nat} {ao2 : Option Addr} {n2 cap2 : Nat} {ao3 : Option Addr} {n3 cap3 : Nat} (most : Int) (hm : 2 ≤ most ∧ most ≤ 4096) (F1 : Few w0 (.slice ao1 n1 cap1) 80 true) (F2 : Few w0 (.slice ao2 n2 cap2) 40 false) :
    Calls Try.prog 8 #[vi most, .slice ao1 n1 cap1, .slice ao2 n2 cap2, .slice ao3 n3 cap3] w0 (TrueBelow w0) := by
  have HM := Lib.hid (may5 most)
  rw [decide_eq_true hm] at HM
  have H1 := Lib.hid F1
  clear F1
  have H2 := Lib.hid F2
  clear F2
  obtain ⟨m, rfl⟩ := Int.eq_ofNat_of_zero_le (show 0 ≤ most by omega)
  have HQ := Lib.hid (q_new m (by omega) (by omega) (Sat.start w0))
  clear hm
  go_enter Try.func8, Try.ntmps8
  go_wp2_with (first
    | (go_at_call 17; refine HQ.out.mono ?_; rintro e w1 ⟨q, r, rfl, hS1⟩; have HB := Lib.hid hS1.below; clear hS1)
    | (go_at_call 18; (with_reducible refine (H1.out _ HB.out).mono ?_); rintro e w' ⟨rfl, rfl⟩)
    | (go_at_call 18; (with_reducible refine (H2.out _ HB.out).mono ?_); rintro e w' ⟨rfl, rfl⟩)
    | (go_at_call 19; refine (HM.out _).mono ?_; rintro e w' ⟨rfl, rfl⟩)
    | (go_at_call 20; refine (known5 _).mono ?_; rintro e w3 ⟨rfl, hb⟩))
  go_ret
  exact ⟨rfl, HB.out.trans (hb.mono HB.out.size)⟩
set_option maxRecDepth 100000 in
set_option maxHeartbeats 2000000 in
theorem copies_e3 {ao1 : Option Addr} {n1 cap1 : Nat} {ao2 : Option Addr} {n2 cap2 : Nat} {ao3 : Option Addr} {n3 cap3 : Nat} (most : Int) (hm : 2 ≤ most ∧ most ≤ 4096) (F1 : Few w0 (.slice ao1 n1 cap1) 80 true) (F2 : Few w0 (.slice ao2 n2 cap2) 40 true) (F3 : Few w0 (.slice ao3 n3 cap3) 40 false) :
    Calls Try.prog 8 #[vi most, .slice ao1 n1 cap1, .slice ao2 n2 cap2, .slice ao3 n3 cap3] w0 (TrueBelow w0) := by
  have HM := Lib.hid (may5 most)
  rw [decide_eq_true hm] at HM
  have H1 := Lib.hid F1
  clear F1
  have H2 := Lib.hid F2
  clear F2
  have H3 := Lib.hid F3
  clear F3
  obtain ⟨m, rfl⟩ := Int.eq_ofNat_of_zero_le (show 0 ≤ most by omega)
  have HQ := Lib.hid (q_new m (by omega) (by omega) (Sat.start w0))
  clear hm
  go_enter Try.func8, Try.ntmps8
  go_wp2_with (first
    | (go_at_call 17; refine HQ.out.mono ?_; rintro e w1 ⟨q, r, rfl, hS1⟩; have HB := Lib.hid hS1.below; clear hS1)
    | (go_at_call 18; (with_reducible refine (H1.out _ HB.out).mono ?_); rintro e w' ⟨rfl, rfl⟩)
    | (go_at_call 18; (with_reducible refine (H2.out _ HB.out).mono ?_); rintro e w' ⟨rfl, rfl⟩)
    | (go_at_call 18; (with_reducible refine (H3.out _ HB.out).mono ?_); rintro e w' ⟨rfl, rfl⟩)
    | (go_at_call 19; refine (HM.out _).mono ?_; rintro e w' ⟨rfl, rfl⟩)
    | (go_at_call 20; refine (known5 _).mono ?_; rintro e w3 ⟨rfl, hb⟩))
  go_ret
  exact ⟨rfl, HB.out.trans (hb.mono HB.out.size)⟩
set_option maxRecDepth 100000 in
set_option maxHeartbeats 2000000 in
theorem copies_e4 {ao1 : Option Addr} {n1 cap1 : Nat} {ao2 : Option Addr} {n2 cap2 : Nat} {ao3 : Option Addr} {n3 cap3 : Nat} (most : Int) (hm : ¬ (2 ≤ most ∧ most ≤ 4096)) (F1 : Few w0 (.slice ao1 n1 cap1) 80 false) :
    Calls Try.prog 8 #[vi most, .slice ao1 n1 cap1, .slice ao2 n2 cap2, .slice ao3 n3 cap3] w0 (TrueBelow w0) := by
  have HM := Lib.hid (may5 most)
  rw [decide_eq_false hm] at HM
  have H1 := Lib.hid F1
  clear F1
  have HQ := Lib.hid (q_new_no most (by omega) w0)
  clear hm
  go_enter Try.func8, Try.ntmps8
  go_wp2_with (first
    | (go_at_call 17; refine HQ.out.mono ?_; rintro e w1 ⟨rfl, rfl⟩)
    | (go_at_call 18; (with_reducible refine (H1.out _ (Below.refl _ _)).mono ?_); rintro e w' ⟨rfl, rfl⟩)
    | (go_at_call 19; refine (HM.out _).mono ?_; rintro e w' ⟨rfl, rfl⟩)
    | (go_at_call 20; refine (known5 _).mono ?_; rintro e w3 ⟨rfl, hb⟩))
  go_ret
  exact ⟨rfl, hb⟩
set_option maxRecDepth 100000 in
set_option maxHeartbeats 2000000 in
theorem copies_e5 {ao1 : Option Addr} {n1 cap1 : Nat} {ao2 : Option Addr} {n2 cap2 : Nat} {ao3 : Option Addr} {n3 cap3 : Nat} (most : Int) (hm : ¬ (2 ≤ most ∧ most ≤ 4096)) (F1 : Few w0 (.slice ao1 n1 cap1) 80 true) (F2 : Few w0 (.slice ao2 n2 cap2) 40 false) :
    Calls Try.prog 8 #[vi most, .slice ao1 n1 cap1, .slice ao2 n2 cap2, .slice ao3 n3 cap3] w0 (TrueBelow w0) := by
  have HM := Lib.hid (may5 most)
  rw [decide_eq_false hm] at HM
  have H1 := Lib.hid F1
  clear F1
  have H2 := Lib.hid F2
  clear F2
  have HQ := Lib.hid (q_new_no most (by omega) w0)
  clear hm
  go_enter Try.func8, Try.ntmps8
  go_wp2_with (first
    | (go_at_call 17; refine HQ.out.mono ?_; rintro e w1 ⟨rfl, rfl⟩)
    | (go_at_call 18; (with_reducible refine (H1.out _ (Below.refl _ _)).mono ?_); rintro e w' ⟨rfl, rfl⟩)
    | (go_at_call 18; (with_reducible refine (H2.out _ (Below.refl _ _)).mono ?_); rintro e w' ⟨rfl, rfl⟩)
    | (go_at_call 19; refine (HM.out _).mono ?_; rintro e w' ⟨rfl, rfl⟩)
    | (go_at_call 20; refine (known5 _).mono ?_; rintro e w3 ⟨rfl, hb⟩))
  go_ret
  exact ⟨rfl, hb⟩
set_option maxRecDepth 100000 in
set_option maxHeartbeats 2000000 in
theorem copies_e6 {ao1 : Option Addr} {n1 cap1 : Nat} {ao2 : Option Addr} {n2 cap2 : Nat} {ao3 : Option Addr} {n3 cap3 : Nat} (most : Int) (hm : ¬ (2 ≤ most ∧ most ≤ 4096)) (F1 : Few w0 (.slice ao1 n1 cap1) 80 true) (F2 : Few w0 (.slice ao2 n2 cap2) 40 true) (F3 : Few w0 (.slice ao3 n3 cap3) 40 false) :
    Calls Try.prog 8 #[vi most, .slice ao1 n1 cap1, .slice ao2 n2 cap2, .slice ao3 n3 cap3] w0 (TrueBelow w0) := by
  have HM := Lib.hid (may5 most)
  rw [decide_eq_false hm] at HM
  have H1 := Lib.hid F1
  clear F1
  have H2 := Lib.hid F2
  clear F2
  have H3 := Lib.hid F3
  clear F3
  have HQ := Lib.hid (q_new_no most (by omega) w0)
  clear hm
  go_enter Try.func8, Try.ntmps8
  go_wp2_with (first
    | (go_at_call 17; refine HQ.out.mono ?_; rintro e w1 ⟨rfl, rfl⟩)
    | (go_at_call 18; (with_reducible refine (H1.out _ (Below.refl _ _)).mono ?_); rintro e w' ⟨rfl, rfl⟩)
    | (go_at_call 18; (with_reducible refine (H2.out _ (Below.refl _ _)).mono ?_); rintro e w' ⟨rfl, rfl⟩)
    | (go_at_call 18; (with_reducible refine (H3.out _ (Below.refl _ _)).mono ?_); rintro e w' ⟨rfl, rfl⟩)
    | (go_at_call 19; refine (HM.out _).mono ?_; rintro e w' ⟨rfl, rfl⟩)
    | (go_at_call 20; refine (known5 _).mono ?_; rintro e w3 ⟨rfl, hb⟩))
  go_ret
  exact ⟨rfl, hb⟩
set_option maxRecDepth 100000 in
set_option maxHeartbeats 2000000 in
theorem copies_e7 {ao1 : Option Addr} {n1 cap1 : Nat} {ao2 : Option Addr} {n2 cap2 : Nat} {ao3 : Option Addr} {n3 cap3 : Nat} (most : Int) (hm : ¬ (2 ≤ most ∧ most ≤ 4096)) (F1 : Few w0 (.slice ao1 n1 cap1) 80 true) (F2 : Few w0 (.slice ao2 n2 cap2) 40 true) (F3 : Few w0 (.slice ao3 n3 cap3) 40 true) :
    Calls Try.prog 8 #[vi most, .slice ao1 n1 cap1, .slice ao2 n2 cap2, .slice ao3 n3 cap3] w0 (TrueBelow w0) := by
  have HM := Lib.hid (may5 most)
  rw [decide_eq_false hm] at HM
  have H1 := Lib.hid F1
  clear F1
  have H2 := Lib.hid F2
  clear F2
  have H3 := Lib.hid F3
  clear F3
  have HQ := Lib.hid (q_new_no most (by omega) w0)
  clear hm
  go_enter Try.func8, Try.ntmps8
  go_wp2_with (first
    | (go_at_call 17; refine HQ.out.mono ?_; rintro e w1 ⟨rfl, rfl⟩)
    | (go_at_call 18; (with_reducible refine (H1.out _ (Below.refl _ _)).mono ?_); rintro e w' ⟨rfl, rfl⟩)
    | (go_at_call 18; (with_reducible refine (H2.out _ (Below.refl _ _)).mono ?_); rintro e w' ⟨rfl, rfl⟩)
    | (go_at_call 18; (with_reducible refine (H3.out _ (Below.refl _ _)).mono ?_); rintro e w' ⟨rfl, rfl⟩)
    | (go_at_call 19; refine (HM.out _).mono ?_; rintro e w' ⟨rfl, rfl⟩)
    | (go_at_call 20; refine (known5 _).mono ?_; rintro e w3 ⟨rfl, hb⟩))
  go_ret
  exact ⟨rfl, hb⟩
set_option maxRecDepth 100000 in
set_option maxHeartbeats 8000000 in
theorem copies_walk (most : Int) (h : Acts w0 v n K G Y V af) (h2 : Acts w0 v2 n2 K2 G2 Y2 V2 af2) (h3 : Acts w0 v3 n3 K3 G3 Y3 V3 af3) :
    Calls Try.prog 8 #[vi most, v, v2, v3] w0 (TrueBelow w0) := by
  obtain ⟨ao, cap, rfl⟩ := h.len
  obtain ⟨ao2, cap2, rfl⟩ := h2.len
  obtain ⟨ao3, cap3, rfl⟩ := h3.len
  obtain ⟨f1, F1⟩ : ∃ f, Few w0 (.slice ao n cap) 80 f := few_of h 80 (by omega)
  obtain ⟨f2, F2⟩ : ∃ f, Few w0 (.slice ao2 n2 cap2) 40 f := few_of h2 40 (by omega)
  obtain ⟨f3, F3⟩ : ∃ f, Few w0 (.slice ao3 n3 cap3) 40 f := few_of h3 40 (by omega)
  by_cases hm : 2 ≤ most ∧ most ≤ 4096
  · cases f1 with
    | false => exact copies_e1 most hm F1
    | true =>
      cases f2 with
      | false => exact copies_e2 most hm F1 F2
      | true =>
        cases f3 with
        | false => exact copies_e3 most hm F1 F2 F3
        | true =>
          have hsm := h.small
          have hsm2 := h2.small
          have hsm3 := h3.small
          unfold maxLen at hsm hsm2 hsm3
          have HF1 := Lib.hid F1
          have HF2 := Lib.hid F2
          have HF3 := Lib.hid F3
          have HM := Lib.hid (may5 most)
          rw [decide_eq_true hm] at HM
          obtain ⟨m, rfl⟩ := Int.eq_ofNat_of_zero_le (show 0 ≤ most by omega)
          have HQ := Lib.hid (q_new m (by omega) (by omega) (Sat.start w0))
          have hm1 : 2 ≤ m := by omega
          have hm2 : m ≤ 4096 := by omega
          clear hm F1 F2 F3
          go_enter Try.func8, Try.ntmps8
          go_wp2_with (first
            | (go_at_call 17; refine HQ.out.mono ?_; rintro e w1 ⟨q, r, rfl, hS1⟩; have H1 := Lib.hid hS1; clear hS1)
            | (go_at_call 18; (with_reducible refine (HF1.out _ H1.out.below).mono ?_); rintro e w' ⟨rfl, rfl⟩)
            | (go_at_call 18; (with_reducible refine (HF2.out _ H1.out.below).mono ?_); rintro e w' ⟨rfl, rfl⟩)
            | (go_at_call 18; (with_reducible refine (HF3.out _ H1.out.below).mono ?_); rintro e w' ⟨rfl, rfl⟩)
            | (go_at_call 19; refine (HM.out _).mono ?_; rintro e w' ⟨rfl, rfl⟩)
            | (go_at_call 21; refine (r_new m H1.out).mono ?_; rintro e w2 ⟨p, rfl, hS2⟩; have H2 := Lib.hid (refQ_shut hS2).rot3; clear hS2))
          go_loopw [12] (fun i wr => ∃ (k : Nat) (xs : List Int) (z : Int) (b : Bool), k ≤ n ∧ i = vi k ∧ Sat w0 (bothQ q r p m xs z b emp) wr) (fun i _ => n - (intOf i).toNat)
          case atStart => exact ⟨0, [], 0, false, Nat.zero_le _, rfl, H2.out.cast (by unfold bothQ; ac_rfl)⟩
          case round =>
            obtain ⟨k, xs, z, b, hk, rfl, hS⟩ := hrel
            have hxl := hS.pull2.ringLen
            by_cases hlt : k < n
            · obtain ⟨bx, off, kd, g, y, u, rfl, c0, c1, c2, ⟨a4, l4, p4, rfl⟩, c3, hd⟩ := do_at h hlt hS hm1
              have HD := Lib.hid hd
              clear hS hd
              go_wp2_with (go_at_call 22; refine HD.out.mono ?_; rintro e w3 ⟨xs', z', b', rfl, hS3, _⟩; have H3 := Lib.hid hS3; clear hS3)
              go_roundw
              case rel => exact ⟨k + 1, xs', z', b', by omega, by go_num, H3.out⟩
              case measure => simp [intOf]; omega
            · obtain rfl : n = k := by omega
              have HS := Lib.hid hS
              have HX : Hid (sameQ xs z b xs z b = true) := Lib.hid (by simp [sameQ, sameI])
              clear hS
              go_wp2_with (first
                | (go_at_call 39; refine (q_copy HS.out).mono ?_; rintro e w4 ⟨q', r', rfl, hS4⟩; have H4 := Lib.hid (hS4.cast (show _ = refQ p m xs z b * (quB q' r' z b * (ringP r' m xs * (quB q r z b * (ringP r m xs * emp)))) by ac_rfl)); clear hS4)
                | (go_at_call 40; refine (r_copy' H4.out (by omega)).mono ?_; rintro e w5 ⟨p', rfl, hS5⟩; have H5 := Lib.hid (hS5.cast (show _ = quB q r z b * (ringP r m xs * (quB q' r' z b * (ringP r' m xs * (refQ p m xs z b * (refQ p' m xs z b * emp))))) by ac_rfl)); clear hS5)
                | (go_at_call 41; refine (q_same H5.out).mono ?_; rw [HX.out]; rintro e w6 ⟨rfl, hS6⟩; have H6 := Lib.hid (hS6.cast (show _ = bothQ q r p m xs z b (bothQ q' r' p' m xs z b emp) by unfold bothQ; ac_rfl)); clear hS6))
              go_loopw [15] (fun i wr => ∃ (k : Nat) (ys : List Int) (z2 : Int) (b2 : Bool), k ≤ n2 ∧ i = vi k ∧ Sat w0 (bothQ q r p m ys z2 b2 (bothQ q' r' p' m xs z b emp)) wr) (fun i _ => n2 - (intOf i).toNat)
              case atStart => exact ⟨0, xs, z, b, Nat.zero_le _, rfl, H6.out⟩
              case round =>
                obtain ⟨k2, ys, z2, b2, hk2, rfl, hS⟩ := hrel
                have hyl := hS.pull2.ringLen
                by_cases hlt2 : k2 < n2
                · obtain ⟨bx, off, kd, g, y, u, rfl, c0, c1, c2, ⟨a4, l4, p4, rfl⟩, c3, hd⟩ := do_at h2 hlt2 hS hm1
                  have HD := Lib.hid hd
                  clear hS hd
                  go_wp2_with (go_at_call 22; refine HD.out.mono ?_; rintro e w7 ⟨xs', z', b', rfl, hS7, _⟩; have H7 := Lib.hid hS7; clear hS7)
                  go_roundw
                  case rel => exact ⟨k2 + 1, xs', z', b', by omega, by go_num, H7.out⟩
                  case measure => simp [intOf]; omega
                · obtain rfl : n2 = k2 := by omega
                  have H7 := Lib.hid (hS.cast (show _ = bothQ q' r' p' m xs z b (bothQ q r p m ys z2 b2 emp) by unfold bothQ; ac_rfl))
                  clear hS
                  go_wp2_with fail
                  go_loopw [16] (fun i wr => ∃ (k : Nat) (zs : List Int) (z3 : Int) (b3 : Bool), k ≤ n3 ∧ i = vi k ∧ Sat w0 (bothQ q' r' p' m zs z3 b3 (bothQ q r p m ys z2 b2 emp)) wr) (fun i _ => n3 - (intOf i).toNat)
                  case atStart => exact ⟨0, xs, z, b, Nat.zero_le _, rfl, H7.out⟩
                  case round =>
                    obtain ⟨k3, zs, z3, b3, hk3, rfl, hS⟩ := hrel
                    have hzl := hS.pull2.ringLen
                    by_cases hlt3 : k3 < n3
                    · obtain ⟨bx, off, kd, g, y, u, rfl, c0, c1, c2, ⟨a4, l4, p4, rfl⟩, c3, hd⟩ := do_at h3 hlt3 hS hm1
                      have HD := Lib.hid hd
                      clear hS hd
                      go_wp2_with (go_at_call 22; refine HD.out.mono ?_; rintro e w8 ⟨xs', z', b', rfl, hS8, _⟩; have H8 := Lib.hid hS8; clear hS8)
                      go_roundw
                      case rel => exact ⟨k3 + 1, xs', z', b', by omega, by go_num, H8.out⟩
                      case measure => simp [intOf]; omega
                    · obtain rfl : n3 = k3 := by omega
                      have H8 := Lib.hid (hS.cast (show _ = bothQ q r p m ys z2 b2 (bothQ q' r' p' m zs z3 b3 emp) by unfold bothQ; ac_rfl))
                      clear hS
                      have HSB : Hid (∀ w9, Sat w0 (quB q r z2 b2 * (ringP r m ys * (quB q' r' z3 b3 * (ringP r' m zs * (refQ p m ys z2 b2 * (refQ p' m zs z3 b3 * emp)))))) w9 → Calls Try.prog 41 #[vp q, vp q'] w9 fun e w' => e = .returned (.bool (sameQ ys z2 b2 zs z3 b3)) ∧ Sat w0 (quB q r z2 b2 * (ringP r m ys * (quB q' r' z3 b3 * (ringP r' m zs * (refQ p m ys z2 b2 * (refQ p' m zs z3 b3 * emp)))))) w') := Lib.hid fun w9 h9 => q_same h9
                      have HSR : Hid (∀ (w9 : World) (G : Hp), Sat w0 (refQ p m ys z2 b2 * (refQ p' m zs z3 b3 * G)) w9 → Calls Try.prog 42 #[vp p, vp p'] w9 fun e w' => e = .returned (.bool (sameQ ys z2 b2 zs z3 b3)) ∧ ∃ k, w' = w9.drewN k) := Lib.hid fun w9 G h9 => r_same' h9 (by omega) (by omega)
                      generalize sameQ ys z2 b2 zs z3 b3 = s at *
                      go_wp2_with (first
                        | (go_at_call 35; (with_reducible refine (same5 H8.out).mono ?_); rintro e w9 ⟨rfl, hS9⟩; have H9 := Lib.hid (hS9.cast (show _ = bothQ q' r' p' m zs z3 b3 (bothQ q r p m ys z2 b2 emp) by unfold bothQ; ac_rfl)); clear hS9)
                        | (go_at_call 35; (with_reducible refine (same5 H9.out).mono ?_); rintro e w10 ⟨rfl, hS10⟩; have H10 := Lib.hid (hS10.cast (show _ = quB q r z2 b2 * (ringP r m ys * (quB q' r' z3 b3 * (ringP r' m zs * (refQ p m ys z2 b2 * (refQ p' m zs z3 b3 * emp))))) by unfold bothQ; ac_rfl)); clear hS10)
                        | (go_at_call 41; refine (HSB.out _ H10.out).mono ?_; rintro e w11 ⟨rfl, hS11⟩; have H11 := Lib.hid (hS11.cast (show _ = refQ p m ys z2 b2 * (refQ p' m zs z3 b3 * (quB q r z2 b2 * (ringP r m ys * (quB q' r' z3 b3 * (ringP r' m zs * emp))))) by ac_rfl)); clear hS11)
                        | (go_at_call 42; refine (HSR.out _ _ H11.out).mono ?_; rintro e w12 ⟨rfl, N, rfl⟩; have H12 := Lib.hid (H11.out.drewN N))
                        | (go_at_call 20; refine (known5 _).mono ?_; rintro e w13 ⟨rfl, hb⟩))
                      go_ret
                      exact ⟨by simp, H12.out.below.trans (hb.mono H12.out.size)⟩
  · cases f1 with
    | false => exact copies_e4 most hm F1
    | true =>
      cases f2 with
      | false => exact copies_e5 most hm F1 F2
      | true =>
        cases f3 with
        | false => exact copies_e6 most hm F1 F2 F3
        | true => exact copies_e7 most hm F1 F2 F3
theorem copies5_row (w0 : World) (most : Int) (wm : (Lit.int .i64 most).wf = true) (v : Value) (n : Nat) (A : Nat → Value) (h : ArgS w0 4 (actC w0) v n A) (v2 : Value) (n2 : Nat) (A2 : Nat → Value) (h2 : ArgS w0 4 (actC w0) v2 n2 A2) (v3 : Value) (n3 : Nat) (A3 : Nat → Value) (h3 : ArgS w0 4 (actC w0) v3 n3 A3) :
    Calls Try.prog 8 #[vi most, v, v2, v3] w0 (TrueBelow w0) := by
  obtain ⟨K, G, Y, V, af, h⟩ := acts_of h
  obtain ⟨K2, G2, Y2, V2, af2, h2⟩ := acts_of h2
  obtain ⟨K3, G3, Y3, V3, af3, h3⟩ := acts_of h3
  exact copies_walk most h h2 h3
end
end Go.Proofs.Ytjlgdepneipgnaa.Rq
