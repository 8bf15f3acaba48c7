/-
  Contracts of package ring, third part: Has, Take, Copy, Same, Remove. No statement is proved here.
-/
import Derived.Test.YtjgemfgneiaabaaMg1
namespace Go.Proofs.Ytjgemfgneiaabaa
open Go.RowKit
set_option linter.unusedVariables false

theorem Sat.ringLen {w0 w : World} {p most : Nat} {xs : List Int} {F : Hp} (h : Sat w0 (ringP p most xs * F) w) : xs.length ≤ most ∧ most ≤ 4096 ∧ 0 < most := by
  obtain ⟨s, R⟩ := h.ring
  exact ⟨R.ok.n, R.ok.small, R.ok.pos⟩

/-! ### Has -/
theorem ring_has {w0 w : World} {p most : Nat} {xs : List Int} {F : Hp} (h : Sat w0 (ringP p most xs * F) w) (x : Int) :
    Calls Try.prog 71 #[vp p, vi x] w fun e w' => e = .returned (.bool (decide (x ∈ xs))) ∧ Sat w0 (ringP p most xs * F) w' := by
  have hl := h.ringLen
  have hall := Lib.hid (ring_all h)
  go_enter Try.func71, Try.ntmps71
  go_wp2_with (first | (go_at_call 69; refine hall.out.mono ?_; rintro e w1 ⟨v, rfl, hS1⟩) | (go_at_call 72; refine (slices_contains x xs v w1 hS1.rdI (by omega)).mono ?_; rintro e w2 ⟨rfl, rfl⟩))
  go_ret
  exact ⟨rfl, hS1.dropL⟩

/-! ### Take -/
theorem Sat.slPre {w0 w : World} {F : Hp} {e : TypeId} {g cap n k : Nat} {xs : List Value} (h : Sat w0 (sl e 1 (.slice (some ⟨g, 0, none⟩) n cap) n xs * F) w) (hk : k ≤ n) : Sat w0 (sl e 1 (.slice (some ⟨g, 0, none⟩) k k) k (xs.take k) * F) w := by
  obtain ⟨cur, h1, h2, h3, h4, hS⟩ := h.slP
  refine hS.slI (Nat.le_refl _) (by omega) (by omega) ?_
  rw [← h4, List.take_take]
  congr 1
  omega

theorem Sat.capOk {w0 w : World} {F : Hp} {e : TypeId} {size : Nat} {ao : Option Addr} {n cap : Nat} {xs : List Value} (h : Sat w0 (sl e size (.slice ao n cap) n xs * F) w) : n ≤ cap ∧ cap ≤ maxLen := by
  rcases h.slE.2 with ⟨hv, h0, _⟩ | ⟨g, c, cur, hv, h1, h2, _⟩
  · cases hv
    exact ⟨Nat.le_refl _, Nat.zero_le _⟩
  · cases hv
    exact ⟨h1, h2⟩
theorem Sat.slPre' {w0 w : World} {F : Hp} {e : TypeId} {ao : Option Addr} {cap n k : Nat} {xs : List Value} (h : Sat w0 (sl e 1 (.slice ao n cap) n xs * F) w) (hk : k ≤ n) : Sat w0 (sl e 1 (.slice ao k k) k (xs.take k) * F) w := by
  rcases h.slE.2 with ⟨hv, h0, hS⟩ | ⟨g, c, cur, hv, h1, h2, _⟩
  · cases hv
    obtain rfl : k = 0 := by omega
    simpa using hS.addNil e 1
  · cases hv
    exact h.slPre hk

set_option maxHeartbeats 800000 in
theorem ring_take_0 {w0 w : World} {p most : Nat} {xs : List Int} {F : Hp} (h : Sat w0 (ringP p most xs * F) w) (n : Int) (hn : n < 0) :
    Calls Try.prog 62 #[vp p, vi n] w fun e w' => ∃ v, e = .returned v ∧ Sat w0 (sl 3 1 v 0 ((xs.take 0).map vi) * (ringP p most (xs.drop 0) * F)) w' := by
  have hl := h.ringLen
  have hall := Lib.hid (ring_all h)
  go_enter Try.func62, Try.ntmps62
  go_wp2_with (first | (go_at_call 69; refine hall.out.mono ?_; rintro e w1 ⟨v, rfl, hS1⟩; obtain ⟨ao, cap, rfl⟩ := hS1.rdI.len))
  go_loopw [14] (fun i wr => ∃ j : Nat, j ≤ 0 ∧ i = vi j ∧ Sat w0 (sl 3 1 (.slice ao xs.length cap) xs.length (xs.map vi) * (ringP p most (xs.drop j) * F)) wr) (fun i _ => 0 - (intOf i).toNat)
  case atStart => exact ⟨0, Nat.zero_le _, rfl, hS1⟩
  case round =>
    obtain ⟨j, hj, rfl, hS⟩ := hrel
    clear hS1
    by_cases hlt : j < 0
    · exact absurd hlt (by omega)
    · obtain rfl : 0 = j := by omega
      have hfin := hS.slPre' (k := 0) (by omega)
      have HF := Lib.hid hfin
      have hcap := hS.capOk
      clear hfin hS
      go_wp2
      go_ret
      exact ⟨_, rfl, by rw [List.map_take]; exact HF.out⟩

set_option maxHeartbeats 800000 in
theorem ring_take_n {w0 w : World} {p most : Nat} {xs : List Int} {F : Hp} (h : Sat w0 (ringP p most xs * F) w) (n : Nat) (hn : n < xs.length) :
    Calls Try.prog 62 #[vp p, vi n] w fun e w' => ∃ v, e = .returned v ∧ Sat w0 (sl 3 1 v n ((xs.take n).map vi) * (ringP p most (xs.drop n) * F)) w' := by
  have hl := h.ringLen
  have hall := Lib.hid (ring_all h)
  have h0 : ¬ ((n : Int) < 0) := by omega
  have h1 : (n : Int) ≤ (xs.length : Int) := by omega
  go_enter Try.func62, Try.ntmps62
  go_wp2_with (first | (go_at_call 69; refine hall.out.mono ?_; rintro e w1 ⟨v, rfl, hS1⟩; obtain ⟨ao, cap, rfl⟩ := hS1.rdI.len))
  go_loopw [14] (fun i wr => ∃ j : Nat, j ≤ n ∧ i = vi j ∧ Sat w0 (sl 3 1 (.slice ao xs.length cap) xs.length (xs.map vi) * (ringP p most (xs.drop j) * F)) wr) (fun i _ => n - (intOf i).toNat)
  case atStart => exact ⟨0, Nat.zero_le _, rfl, hS1⟩
  case round =>
    obtain ⟨j, hj, rfl, hS⟩ := hrel
    clear hS1
    by_cases hlt : j < n
    · go_wp2_with (go_at_call 66; refine (ring_pop hS.pull2).mono ?_; rintro e w2 ⟨rfl, hS2⟩)
      go_roundw
      case rel => exact ⟨j + 1, by omega, by go_num, by rw [List.tail_drop] at hS2; exact hS2.pull2⟩
      case measure => simp [intOf]; omega
    · obtain rfl : n = j := by omega
      have hfin := hS.slPre' (k := n) (by omega)
      have HF := Lib.hid hfin
      have hcap := hS.capOk
      clear hfin hS
      go_wp2
      go_ret
      exact ⟨_, rfl, by rw [List.map_take]; exact HF.out⟩

set_option maxHeartbeats 800000 in
theorem ring_take_l {w0 w : World} {p most : Nat} {xs : List Int} {F : Hp} (h : Sat w0 (ringP p most xs * F) w) (n : Nat) (hn : xs.length ≤ n) :
    Calls Try.prog 62 #[vp p, vi n] w fun e w' => ∃ v, e = .returned v ∧ Sat w0 (sl 3 1 v xs.length ((xs.take xs.length).map vi) * (ringP p most (xs.drop xs.length) * F)) w' := by
  have hl := h.ringLen
  have hall := Lib.hid (ring_all h)
  have h0 : ¬ ((n : Int) < 0) := by omega
  by_cases he : n = xs.length
  · subst he
    go_enter Try.func62, Try.ntmps62
    go_wp2_with (first | (go_at_call 69; refine hall.out.mono ?_; rintro e w1 ⟨v, rfl, hS1⟩; obtain ⟨ao, cap, rfl⟩ := hS1.rdI.len))
    go_loopw [14] (fun i wr => ∃ j : Nat, j ≤ xs.length ∧ i = vi j ∧ Sat w0 (sl 3 1 (.slice ao xs.length cap) xs.length (xs.map vi) * (ringP p most (xs.drop j) * F)) wr) (fun i _ => xs.length - (intOf i).toNat)
    case atStart => exact ⟨0, Nat.zero_le _, rfl, hS1⟩
    case round =>
      obtain ⟨j, hj, rfl, hS⟩ := hrel
      clear hS1
      by_cases hlt : j < xs.length
      · go_wp2_with (go_at_call 66; refine (ring_pop hS.pull2).mono ?_; rintro e w2 ⟨rfl, hS2⟩)
        go_roundw
        case rel => exact ⟨j + 1, by omega, by go_num, by rw [List.tail_drop] at hS2; exact hS2.pull2⟩
        case measure => simp [intOf]; omega
      · obtain rfl : xs.length = j := by omega
        have hfin := hS.slPre' (k := xs.length) (by omega)
        have HF := Lib.hid hfin
        have hcap := hS.capOk
        clear hfin hS
        go_wp2
        go_ret
        exact ⟨_, rfl, by rw [List.map_take]; exact HF.out⟩
  · have h1 : ¬ ((n : Int) ≤ (xs.length : Int)) := by omega
    go_enter Try.func62, Try.ntmps62
    go_wp2_with (first | (go_at_call 69; refine hall.out.mono ?_; rintro e w1 ⟨v, rfl, hS1⟩; obtain ⟨ao, cap, rfl⟩ := hS1.rdI.len))
    go_loopw [14] (fun i wr => ∃ j : Nat, j ≤ xs.length ∧ i = vi j ∧ Sat w0 (sl 3 1 (.slice ao xs.length cap) xs.length (xs.map vi) * (ringP p most (xs.drop j) * F)) wr) (fun i _ => xs.length - (intOf i).toNat)
    case atStart => exact ⟨0, Nat.zero_le _, rfl, hS1⟩
    case round =>
      obtain ⟨j, hj, rfl, hS⟩ := hrel
      clear hS1
      by_cases hlt : j < xs.length
      · go_wp2_with (go_at_call 66; refine (ring_pop hS.pull2).mono ?_; rintro e w2 ⟨rfl, hS2⟩)
        go_roundw
        case rel => exact ⟨j + 1, by omega, by go_num, by rw [List.tail_drop] at hS2; exact hS2.pull2⟩
        case measure => simp [intOf]; omega
      · obtain rfl : xs.length = j := by omega
        have hfin := hS.slPre' (k := xs.length) (by omega)
        have HF := Lib.hid hfin
        have hcap := hS.capOk
        clear hfin hS
        go_wp2
        go_ret
        exact ⟨_, rfl, by rw [List.map_take]; exact HF.out⟩

theorem ring_take {w0 w : World} {p most : Nat} {xs : List Int} {F : Hp} (h : Sat w0 (ringP p most xs * F) w) (n : Int) :
    Calls Try.prog 62 #[vp p, vi n] w fun e w' => ∃ v, e = .returned v ∧ Sat w0 (sl 3 1 v (takeK n xs) ((xs.take (takeK n xs)).map vi) * (ringP p most (xs.drop (takeK n xs)) * F)) w' := by
  unfold takeK
  by_cases h0 : n < 0
  · rw [show min n.toNat xs.length = 0 by omega]
    exact ring_take_0 h n h0
  · obtain ⟨m, rfl⟩ := Int.eq_ofNat_of_zero_le (show 0 ≤ n by omega)
    by_cases h1 : m < xs.length
    · rw [show min ((m : Int)).toNat xs.length = m by omega]
      exact ring_take_n h m h1
    · rw [show min ((m : Int)).toNat xs.length = xs.length by omega]
      exact ring_take_l h m (by omega)

/-! ### slices.Clone -/
/-! ### Copy -/
end Go.Proofs.Ytjgemfgneiaabaa
