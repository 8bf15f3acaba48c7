/-
  Chapter 19: acts, as they come in; few. No statement is proved here.
-/
import Derived.Test.YtjgemfgneiaabaaMg5
import Derived.Test.YtjgemfgneiaabaaMg6
import Derived.Test.YtjgemfgneiaabaaMg9
namespace Go.Proofs.Ytjgemfgneiaabaa.Pc
open Go.RowKit Rq
set_option linter.unusedVariables false

/-- What an act's cells may be. -/
def actC19 (w0 : World) (j : Nat) (v : Value) : Prop := if j = 5 then IsInts w0 .u8 v else if j = 4 then IsInt .u8 v else IsInt .i64 v
/-- An act: kind, goroutine, P, a number, a set, an affinity (as it lies there, and what it reads). -/
structure Ac where
  k : Int
  g : Int
  p : Int
  n : Int
  set : Nat
  v : Value
  af : List Nat
def Ac.cells (a : Ac) : List Value := [vi a.k, vi a.g, vi a.p, vi a.n, .int .u8 a.set, a.v]
/-- Acts that came in. -/
structure Acts (w0 : World) (v : Value) (n : Nat) (A : Nat → Ac) : Prop where
  form : (n = 0 ∧ ∃ ao cap, v = .slice ao 0 cap) ∨ ∃ b off cap, v = .slice (some ⟨b, off, none⟩) n cap ∧ b < w0.heap.size ∧ ∀ i, i < n →
    w0.cell? ⟨b, off + i * 6, none⟩ = some (vi (A i).k) ∧ w0.cell? ⟨b, off + i * 6 + 1, none⟩ = some (vi (A i).g) ∧ w0.cell? ⟨b, off + i * 6 + 2, none⟩ = some (vi (A i).p) ∧ w0.cell? ⟨b, off + i * 6 + 3, none⟩ = some (vi (A i).n) ∧ w0.cell? ⟨b, off + i * 6 + 4, none⟩ = some (.int .u8 (A i).set) ∧ w0.cell? ⟨b, off + i * 6 + 5, none⟩ = some (A i).v
  aff : ∀ i, i < n → IsAff w0 (A i).v (A i).af
  set : ∀ i, i < n → (A i).set < 256
  small : n ≤ maxLen

theorem u8_of {v : Value} (h : IsInt .u8 v) : ∃ s : Nat, v = .int .u8 s ∧ s < 256 := by
  obtain ⟨x, rfl, hw⟩ := h
  simp only [Lit.wf, Bool.and_eq_true, decide_eq_true_eq] at hw
  have h1 := hw.1
  have h2 := hw.2
  rw [show IntKind.u8.min = 0 from rfl] at h1
  rw [show IntKind.u8.max = 255 from rfl] at h2
  obtain ⟨s, rfl⟩ := Int.eq_ofNat_of_zero_le h1
  exact ⟨s, rfl, by omega⟩
theorem acts_of {w0 : World} {v : Value} {n : Nat} {A : Nat → Value} (h : ArgS w0 6 (actC19 w0) v n A) : ∃ B, Acts w0 v n B := by
  have hi0 : ∀ j, j < 4 → ∀ i, ∃ x : Int, i < n → A (i * 6 + j) = vi x := fun j hj i => by
    by_cases hi : i < n
    · have h1 := h.each i hi j (by omega)
      unfold actC19 at h1
      rw [if_neg (by omega), if_neg (by omega)] at h1
      obtain ⟨x, hx, _⟩ := h1
      exact ⟨x, fun _ => hx⟩
    · exact ⟨0, fun h => absurd h hi⟩
  have h0 := hi0 0 (by omega)
  have h1 := hi0 1 (by omega)
  have h2 := hi0 2 (by omega)
  have h3 := hi0 3 (by omega)
  have h4 : ∀ i, ∃ s : Nat, s < 256 ∧ (i < n → A (i * 6 + 4) = .int .u8 s) := fun i => by
    by_cases hi : i < n
    · obtain ⟨s, hs, hl⟩ := u8_of (show IsInt .u8 (A (i * 6 + 4)) from h.each i hi 4 (by omega))
      exact ⟨s, hl, fun _ => hs⟩
    · exact ⟨0, by omega, fun h => absurd h hi⟩
  have h5 : ∀ i, ∃ x : List Nat, i < n → IsAff w0 (A (i * 6 + 5)) x := fun i => by
    by_cases hi : i < n
    · obtain ⟨x, hx⟩ := isAff_of (show IsInts w0 .u8 (A (i * 6 + 5)) from h.each i hi 5 (by omega))
      exact ⟨x, fun _ => hx⟩
    · exact ⟨[], fun h => absurd h hi⟩
  refine ⟨fun i => ⟨(h0 i).choose, (h1 i).choose, (h2 i).choose, (h3 i).choose, (h4 i).choose, A (i * 6 + 5), (h5 i).choose⟩, ?_, fun i hi => (h5 i).choose_spec hi, fun i hi => (h4 i).choose_spec.1, h.small⟩
  rcases h.form with ⟨rfl, ao, cap, rfl⟩ | ⟨b, off, cap, rfl, hb, hc⟩
  · exact .inl ⟨rfl, ao, cap, rfl⟩
  · refine .inr ⟨b, off, cap, rfl, hb, fun i hi => ⟨?_, ?_, ?_, ?_, ?_, ?_⟩⟩
    · exact (hc _ (by omega)).trans (congrArg some ((h0 i).choose_spec hi))
    · rw [Nat.add_assoc]
      exact (hc _ (by omega)).trans (congrArg some ((h1 i).choose_spec hi))
    · rw [Nat.add_assoc]
      exact (hc _ (by omega)).trans (congrArg some ((h2 i).choose_spec hi))
    · rw [Nat.add_assoc]
      exact (hc _ (by omega)).trans (congrArg some ((h3 i).choose_spec hi))
    · rw [Nat.add_assoc]
      exact (hc _ (by omega)).trans (congrArg some ((h4 i).choose_spec.2 hi))
    · rw [Nat.add_assoc, hc _ (by omega)]
theorem Acts.len {w0 : World} {v : Value} {n : Nat} {A : Nat → Ac} (h : Acts w0 v n A) : ∃ ao cap, v = .slice ao n cap := by
  rcases h.form with ⟨rfl, ao, cap, rfl⟩ | ⟨b, off, cap, rfl, _⟩
  · exact ⟨_, _, rfl⟩
  · exact ⟨_, _, rfl⟩
/-- An act's cells, later. -/
theorem Acts.at_ {w0 w : World} {ao : Option Addr} {n cap : Nat} {A : Nat → Ac} (h : Acts w0 (.slice ao n cap) n A) (hS : Below w0.heap.size w0 w) (i : Nat) (hi : i < n) :
    ∃ b off, ao = some ⟨b, off, none⟩ ∧ w.cell? ⟨b, off + i * 6, none⟩ = some (vi (A i).k) ∧ w.cell? ⟨b, off + i * 6 + 1, none⟩ = some (vi (A i).g) ∧ w.cell? ⟨b, off + i * 6 + 2, none⟩ = some (vi (A i).p) ∧ w.cell? ⟨b, off + i * 6 + 3, none⟩ = some (vi (A i).n) ∧ w.cell? ⟨b, off + i * 6 + 4, none⟩ = some (.int .u8 (A i).set) ∧ w.cell? ⟨b, off + i * 6 + 5, none⟩ = some (A i).v := by
  rcases h.form with ⟨rfl, _⟩ | ⟨b, off, cap, e, hb, hc⟩
  · omega
  · cases e
    obtain ⟨h0, h1, h2, h3, h4, h5⟩ := hc i hi
    exact ⟨b, off, rfl, (hS.cell (by exact hb)).trans h0, (hS.cell (by exact hb)).trans h1, (hS.cell (by exact hb)).trans h2, (hS.cell (by exact hb)).trans h3, (hS.cell (by exact hb)).trans h4, (hS.cell (by exact hb)).trans h5⟩
end Go.Proofs.Ytjgemfgneiaabaa.Pc

namespace Go.Proofs.Ytjgemfgneiaabaa.Pc
open Go.RowKit Rq Gq
set_option linter.unusedVariables false
set_option linter.unusedSimpArgs false

section
variable {w0 w : World} {v : Value} {n : Nat} {A : Nat → Ac}
set_option maxRecDepth 100000 in
set_option maxHeartbeats 1000000 in
theorem few19 (h : Acts w0 v n A) (hB : Below w0.heap.size w0 w) (most : Nat) (hm : most ≤ 1000) :
    Calls Try.prog 5 #[v, vi most] w fun e w' => e = .returned (.bool (fewB n most fun i => (A i).af.length)) ∧ w = w' := by
  obtain ⟨ao, cap, rfl⟩ := h.len
  have hsm := h.small
  unfold maxLen at hsm
  have HB := Lib.hid hB
  clear hB
  go_enter Try.func5, Try.ntmps5
  go_wp2
  go_loopw [5] (fun i wr => ∃ (k : Nat), k ≤ n ∧ k ≤ most + 1 ∧ i = vi k ∧ w = wr ∧ ∀ j, j < k → (A j).af.length ≤ 100) (fun i _ => n - (intOf i).toNat)
  case atStart => exact ⟨0, Nat.zero_le _, Nat.zero_le _, rfl, rfl, fun j hj => by omega⟩
  case round =>
    obtain ⟨k, hk, hk2, rfl, rfl, hj⟩ := hrel
    by_cases hlt : k < n
    · by_cases hlm : k ≤ most
      · obtain ⟨b, off, rfl, _, _, _, _, _, c3⟩ := h.at_ HB.out k hlt
        obtain ⟨a3, cp3, hv3⟩ := ((h.aff k hlt).1 _ HB.out).1.len
        rw [hv3] at c3
        have hsm3 := (h.aff k hlt).2
        unfold maxLen at hsm3
        have HJ := Lib.hid hj
        obtain ⟨ln, hln⟩ : ∃ ln, (A k).af.length = ln := ⟨_, rfl⟩
        have HLN := Lib.hid hln
        rw [hln] at c3 hsm3
        clear hj hln hv3
        by_cases h100 : 100 < ln
        · have h101 : (100 : Int) < (ln : Int) := by omega
          have HNO := Lib.hid (fewB_not (m := most) (ln := fun i => (A i).af.length) hlt (by rw [HLN.out]; exact h100))
          go_wp2
          go_ret
          exact ⟨by rw [HNO.out]; rfl, rfl⟩
        · have h101 : ¬ (100 : Int) < (ln : Int) := by omega
          go_wp2
          go_roundw
          case rel => exact ⟨k + 1, by omega, by omega, by go_num, by trivial, fun j hj => by
            by_cases hjk : j = k
            · subst hjk
              rw [HLN.out]
              omega
            · exact HJ.out j (by omega)⟩
          case measure => simp [intOf]; omega
      · have hf := fewB_le (n := n) (m := most) (ln := fun i => (A i).af.length) (fun _ => by omega)
        have h3 : ¬ n ≤ most := by omega
        rw [decide_eq_false h3] at hf
        have HF := Lib.hid hf
        clear hf hj
        go_wp2
        go_ret
        exact ⟨by rw [HF.out]; rfl, rfl⟩
    · obtain rfl : k = n := by omega
      have HF := Lib.hid (fewB_le (n := k) (m := most) (ln := fun i => (A i).af.length) (fun _ => hj))
      clear hj
      go_wp2
      go_ret
      exact ⟨by rw [HF.out]; simp, rfl⟩
end
def may19 (n m : Int) : Bool := decide (1 ≤ n ∧ n ≤ 8 ∧ 2 ≤ m ∧ m ≤ 32)
theorem may_19 (n m : Int) (w : World) : Calls Try.prog 6 #[vi n, vi m] w fun e w' => e = .returned (.bool (may19 n m)) ∧ w = w' := by
  unfold may19
  by_cases h1 : 1 ≤ n
  · have d1 : decide (1 ≤ n) = true := decide_eq_true h1
    by_cases h2 : n ≤ 8
    · have d2 : decide (n ≤ 8) = true := decide_eq_true h2
      by_cases h3 : 2 ≤ m
      · have d3 : decide (2 ≤ m) = true := decide_eq_true h3
        have e : decide (1 ≤ n ∧ n ≤ 8 ∧ 2 ≤ m ∧ m ≤ 32) = decide (m ≤ 32) := by simp [h1, h2, h3]
        rw [e]
        go_enter Try.func6, Try.ntmps6
        go_wp2
        go_ret
        exact ⟨rfl, rfl⟩
      · have d3 : decide (2 ≤ m) = false := decide_eq_false h3
        rw [decide_eq_false (fun h => h3 h.2.2.1)]
        go_enter Try.func6, Try.ntmps6
        go_wp2
        go_ret
        exact ⟨rfl, rfl⟩
    · have d2 : decide (n ≤ 8) = false := decide_eq_false h2
      rw [decide_eq_false (fun h => h2 h.2.1)]
      go_enter Try.func6, Try.ntmps6
      go_wp2
      go_ret
      exact ⟨rfl, rfl⟩
  · have d1 : decide (1 ≤ n) = false := decide_eq_false h1
    rw [decide_eq_false (fun h => h1 h.1)]
    go_enter Try.func6, Try.ntmps6
    go_wp2
    go_ret
    exact ⟨rfl, rfl⟩
end Go.Proofs.Ytjgemfgneiaabaa.Pc
