/-
  RingPlays, RingOrder, RingTakes, RingCopies, RingNil: the walks of the five statements of layer 3. No statement is proved here.
-/
import Derived.Test.YtaaplmihmginpaaSame3
namespace Go.Proofs.Ytaaplmihmginpaa
open Go.RowKit
set_option linter.unusedVariables false

/-- A slice that came in: n elements of so many int cells; cell j holds A j. -/
structure ArgA (w0 : World) (size : Nat) (v : Value) (n : Nat) (A : Nat → Int) : Prop where
  form : (n = 0 ∧ ∃ ao cap, v = .slice ao 0 cap) ∨ ∃ b off cap, v = .slice (some ⟨b, off, none⟩) n cap ∧ b < w0.heap.size ∧ ∀ j, j < n * size → w0.cell? ⟨b, off + j, none⟩ = some (vi (A j))
  small : n ≤ maxLen
theorem ArgA.len {w0 : World} {size : Nat} {v : Value} {n : Nat} {A : Nat → Int} (h : ArgA w0 size v n A) : ∃ ao cap, v = .slice ao n cap := by
  rcases h.form with ⟨rfl, ao, cap, rfl⟩ | ⟨b, off, cap, rfl, _⟩
  · exact ⟨_, _, rfl⟩
  · exact ⟨_, _, rfl⟩
theorem ArgA.at_ {w0 w : World} {size : Nat} {ao : Option Addr} {n cap : Nat} {A : Nat → Int} {H : Hp} (h : ArgA w0 size (.slice ao n cap) n A) (hS : Sat w0 H w) (hn : n ≠ 0) : ∃ b off, ao = some ⟨b, off, none⟩ ∧ ∀ j, j < n * size → w.cell? ⟨b, off + j, none⟩ = some (vi (A j)) := by
  rcases h.form with ⟨rfl, _⟩ | ⟨b, off, c, e, hb, hc⟩
  · exact absurd rfl hn
  · cases e
    exact ⟨b, off, rfl, fun j hj => (hS.old (by exact hb)).trans (hc j hj)⟩

def TrueBelow (w0 : World) (e : Ending) (w' : World) : Prop := e = .returned (.bool true) ∧ Below w0.heap.size w0 w'

set_option maxRecDepth 100000 in
set_option maxHeartbeats 2000000 in
theorem ringPlays_bad (w0 : World) (most : Int) (hm : most < 1 ∨ 4096 < most) (v : Value) :
    Calls Try.prog 5 #[vi most, v] w0 (TrueBelow w0) := by
  by_cases h1 : most < 1
  · go_enter Try.func5, Try.ntmps5
    go_wp2_with fail
    refine (ring_new_no most hm w0).mono ?_
    rintro e w1 ⟨rfl, rfl⟩
    go_wp2_with fail
    refine (known3 (Sat.start _)).mono ?_
    rintro e w1 ⟨rfl, hS⟩
    go_wp2
    go_ret
    exact ⟨rfl, hS.below⟩
  · have h2 : 4096 < most := by omega
    go_enter Try.func5, Try.ntmps5
    go_wp2_with fail
    refine (ring_new_no most hm w0).mono ?_
    rintro e w1 ⟨rfl, rfl⟩
    go_wp2_with fail
    refine (known3 (Sat.start _)).mono ?_
    rintro e w1 ⟨rfl, hS⟩
    go_wp2
    go_ret
    exact ⟨rfl, hS.below⟩

set_option maxRecDepth 100000 in
set_option maxHeartbeats 2000000 in
theorem ringPlays_walk (w0 : World) (most : Int) (v : Value) (n : Nat) (A : Nat → Int) (h : ArgA w0 2 v n A) :
    Calls Try.prog 5 #[vi most, v] w0 (TrueBelow w0) := by
  by_cases hbad : most < 1 ∨ 4096 < most
  · exact ringPlays_bad w0 most hbad v
  · obtain ⟨m, rfl⟩ := Int.eq_ofNat_of_zero_le (show 0 ≤ most by omega)
    obtain ⟨ao, cap, rfl⟩ := h.len
    have hsm := h.small
    unfold maxLen at hsm
    have h1 : ¬ ((m : Int) < 1) := by omega
    have h2 : ¬ (4096 < (m : Int)) := by omega
    by_cases hn : 200 < n
    · have h3 : (200 : Int) < (n : Int) := by omega
      go_enter Try.func5, Try.ntmps5
      go_wp2_with fail
      refine (ring_new m (by omega) (by omega) (Sat.start w0)).mono ?_
      rintro e w1 ⟨p, rfl, hS⟩
      go_wp2_with fail
      refine (known3 hS).mono ?_
      rintro e w2 ⟨rfl, hS2⟩
      go_wp2
      go_ret
      exact ⟨rfl, hS2.below⟩
    · have h3 : ¬ ((200 : Int) < (n : Int)) := by omega
      go_enter Try.func5, Try.ntmps5
      go_wp2_with fail
      refine (ring_new m (by omega) (by omega) (Sat.start w0)).mono ?_
      rintro e w1 ⟨p, rfl, hS⟩
      rw [Int.toNat_natCast] at hS
      have hS2 : Sat w0 (ringP p m [] * (refP w1.heap.size m [] * emp)) (w1.alloc (.cells #[.slice none 0 0, vi m] 62)) := by
        have h9 : Sat w0 (pc w1.heap.size 62 [.slice none 0 0, vi m] * (ringP p m [] * emp)) _ := hS.alloc (.cells #[.slice none 0 0, vi m] 62)
        exact (Sat.refI (v := .slice none 0 0) ((h9.rsNil 3).pull2)).pull2
      have H := Lib.hid hS2
      clear hS2 hS
      go_wp2_with fail
      generalize hw2 : w1.alloc (.cells #[.slice none 0 0, vi m] 62) = w2 at *
      generalize w1.heap.size = q at *
      clear hw2
      go_loopw [8] (fun i wr => ∃ (k : Nat) (xs : List Int), k ≤ n ∧ i = vi k ∧ Sat w0 (ringP p m xs * (refP q m xs * emp)) wr) (fun i _ => n - (intOf i).toNat)
      case atStart => exact ⟨0, [], Nat.zero_le _, rfl, H.out⟩
      case round =>
        obtain ⟨k, xs, hk, rfl, hS⟩ := hrel
        by_cases hlt : k < n
        · obtain ⟨b, off, rfl, hc⟩ := h.at_ hS (by omega)
          have ca := hc (k * 2) (by omega)
          have cb := hc (k * 2 + 1) (by omega)
          have hxl := hS.ringLen
          have H1 := Lib.hid hS
          generalize A (k * 2) = kd at *
          generalize A (k * 2 + 1) = nn at *
          rw [← Nat.add_assoc] at cb
          clear hc hS H
          go_wp2_with fail
          refine (do3 H1.out hxl.1 kd nn).mono ?_
          rintro e w3 ⟨bb, rfl, hS3, hb⟩
          obtain rfl : bb = true := hb rfl
          have H3 := Lib.hid hS3
          clear hS3 hb
          go_wp2_with fail
          refine (same3 H3.out).mono ?_
          rintro e w4 ⟨rfl, hS4⟩
          have H4 := Lib.hid hS4
          clear hS4
          go_wp2
          go_roundw
          case rel => exact ⟨k + 1, _, by omega, by go_num, H4.out⟩
          case measure => simp [intOf]; omega
        · obtain rfl : n = k := by omega
          have H1 := Lib.hid hS
          clear hS
          go_wp2_with fail
          refine (known3 H1.out).mono ?_
          rintro e w3 ⟨rfl, hS3⟩
          go_wp2
          go_ret
          exact ⟨rfl, hS3.below⟩
end Go.Proofs.Ytaaplmihmginpaa
