/-
  Chapter 19: acts, as they come in; few. No statement is proved here.
-/
import Derived.Test.YtjgemfgneiaabaaGreatMg8
import Derived.Test.YtjgemfgneiaabaaGreatMg28
import Derived.Test.YtjgemfgneiaabaaGreatMg29
import Derived.Test.YtjgemfgneiaabaaGreatMg12
import Derived.Test.YtjgemfgneiaabaaGreatMg9
import Derived.Test.YtjgemfgneiaabaaGreatMg25
import Derived.Deep.RegionLaw
namespace Go.Proofs.YtjgemfgneiaabaaGreat.Pc
open Go.RowKit Rq
set_option linter.unusedVariables false

/-- What an act's cells may be. -/
def actC19 (w0 : World) (j : Nat) (v : Value) : Prop := if j = 5 then IsInts w0 .u8 v else if j = 4 then IsInt .u8 v else IsInt .i64 v
/-- An act: kind, goroutine, P, a number, a set, an affinity (as it lies there, and what it reads). -/
structure Ac where
  k : Int
  g : Int
  p : Int
  n : Int
  set : Nat
  v : Value
  af : List Nat
def Ac.cells (a : Ac) : List Value := [vi a.k, vi a.g, vi a.p, vi a.n, .int .u8 a.set, a.v]
/-- Acts that came in. -/
structure Acts (w0 : World) (v : Value) (n : Nat) (A : Nat → Ac) : Prop where
  form : (n = 0 ∧ ∃ ao cap, v = .slice ao 0 cap) ∨ ∃ b off cap, v = .slice (some ⟨b, off, none⟩) n cap ∧ b < w0.heap.size ∧ ∀ i, i < n →
    w0.cell? ⟨b, off + i * 6, none⟩ = some (vi (A i).k) ∧ w0.cell? ⟨b, off + i * 6 + 1, none⟩ = some (vi (A i).g) ∧ w0.cell? ⟨b, off + i * 6 + 2, none⟩ = some (vi (A i).p) ∧ w0.cell? ⟨b, off + i * 6 + 3, none⟩ = some (vi (A i).n) ∧ w0.cell? ⟨b, off + i * 6 + 4, none⟩ = some (.int .u8 (A i).set) ∧ w0.cell? ⟨b, off + i * 6 + 5, none⟩ = some (A i).v
  aff : ∀ i, i < n → IsAff w0 (A i).v (A i).af
  set : ∀ i, i < n → (A i).set < 256
  small : n ≤ maxLen
  num : ∀ i, i < n → (A i).n ≤ 9223372036854775807

theorem u8_of {v : Value} (h : IsInt .u8 v) : ∃ s : Nat, v = .int .u8 s ∧ s < 256 := by
  obtain ⟨x, rfl, hw⟩ := h
  simp only [Lit.wf, Bool.and_eq_true, decide_eq_true_eq] at hw
  have h1 := hw.1
  have h2 := hw.2
  rw [show IntKind.u8.min = 0 from rfl] at h1
  rw [show IntKind.u8.max = 255 from rfl] at h2
  obtain ⟨s, rfl⟩ := Int.eq_ofNat_of_zero_le h1
  exact ⟨s, rfl, by omega⟩
theorem acts_of {w0 : World} {v : Value} {n : Nat} {A : Nat → Value} (h : ArgS w0 6 (actC19 w0) v n A) : ∃ B, Acts w0 v n B := by
  have hi0 : ∀ j, j < 4 → ∀ i, ∃ x : Int, i < n → A (i * 6 + j) = vi x := fun j hj i => by
    by_cases hi : i < n
    · have h1 := h.each i hi j (by omega)
      unfold actC19 at h1
      rw [if_neg (by omega), if_neg (by omega)] at h1
      obtain ⟨x, hx, _⟩ := h1
      exact ⟨x, fun _ => hx⟩
    · exact ⟨0, fun h => absurd h hi⟩
  have h0 := hi0 0 (by omega)
  have h1 := hi0 1 (by omega)
  have h2 := hi0 2 (by omega)
  have h3 : ∀ i, ∃ x : Int, i < n → A (i * 6 + 3) = vi x ∧ x ≤ 9223372036854775807 := fun i => by
    by_cases hi : i < n
    · have h1 := h.each i hi 3 (by omega)
      unfold actC19 at h1
      rw [if_neg (by omega), if_neg (by omega)] at h1
      obtain ⟨x, hx, hw⟩ := h1
      simp only [Lit.wf, Bool.and_eq_true, decide_eq_true_eq] at hw
      have h2 := hw.2
      rw [show IntKind.i64.max = 9223372036854775807 from rfl] at h2
      exact ⟨x, fun _ => ⟨hx, h2⟩⟩
    · exact ⟨0, fun h => absurd h hi⟩
  have h4 : ∀ i, ∃ s : Nat, s < 256 ∧ (i < n → A (i * 6 + 4) = .int .u8 s) := fun i => by
    by_cases hi : i < n
    · obtain ⟨s, hs, hl⟩ := u8_of (show IsInt .u8 (A (i * 6 + 4)) from h.each i hi 4 (by omega))
      exact ⟨s, hl, fun _ => hs⟩
    · exact ⟨0, by omega, fun h => absurd h hi⟩
  have h5 : ∀ i, ∃ x : List Nat, i < n → IsAff w0 (A (i * 6 + 5)) x := fun i => by
    by_cases hi : i < n
    · obtain ⟨x, hx⟩ := isAff_of (show IsInts w0 .u8 (A (i * 6 + 5)) from h.each i hi 5 (by omega))
      exact ⟨x, fun _ => hx⟩
    · exact ⟨[], fun h => absurd h hi⟩
  refine ⟨fun i => ⟨(h0 i).choose, (h1 i).choose, (h2 i).choose, (h3 i).choose, (h4 i).choose, A (i * 6 + 5), (h5 i).choose⟩, ?_, fun i hi => (h5 i).choose_spec hi, fun i hi => (h4 i).choose_spec.1, h.small, fun i hi => ((h3 i).choose_spec hi).2⟩
  rcases h.form with ⟨rfl, ao, cap, rfl⟩ | ⟨b, off, cap, rfl, hb, hc⟩
  · exact .inl ⟨rfl, ao, cap, rfl⟩
  · refine .inr ⟨b, off, cap, rfl, hb, fun i hi => ⟨?_, ?_, ?_, ?_, ?_, ?_⟩⟩
    · exact (hc _ (by omega)).trans (congrArg some ((h0 i).choose_spec hi))
    · rw [Nat.add_assoc]
      exact (hc _ (by omega)).trans (congrArg some ((h1 i).choose_spec hi))
    · rw [Nat.add_assoc]
      exact (hc _ (by omega)).trans (congrArg some ((h2 i).choose_spec hi))
    · rw [Nat.add_assoc]
      exact (hc _ (by omega)).trans (congrArg some ((h3 i).choose_spec hi).1)
    · rw [Nat.add_assoc]
      exact (hc _ (by omega)).trans (congrArg some ((h4 i).choose_spec.2 hi))
    · rw [Nat.add_assoc, hc _ (by omega)]
theorem Acts.len {w0 : World} {v : Value} {n : Nat} {A : Nat → Ac} (h : Acts w0 v n A) : ∃ ao cap, v = .slice ao n cap := by
  rcases h.form with ⟨rfl, ao, cap, rfl⟩ | ⟨b, off, cap, rfl, _⟩
  · exact ⟨_, _, rfl⟩
  · exact ⟨_, _, rfl⟩
/-- An act's cells, later. -/
theorem Acts.at_ {w0 w : World} {ao : Option Addr} {n cap : Nat} {A : Nat → Ac} (h : Acts w0 (.slice ao n cap) n A) (hS : Below w0.heap.size w0 w) (i : Nat) (hi : i < n) :
    ∃ b off, ao = some ⟨b, off, none⟩ ∧ w.cell? ⟨b, off + i * 6, none⟩ = some (vi (A i).k) ∧ w.cell? ⟨b, off + i * 6 + 1, none⟩ = some (vi (A i).g) ∧ w.cell? ⟨b, off + i * 6 + 2, none⟩ = some (vi (A i).p) ∧ w.cell? ⟨b, off + i * 6 + 3, none⟩ = some (vi (A i).n) ∧ w.cell? ⟨b, off + i * 6 + 4, none⟩ = some (.int .u8 (A i).set) ∧ w.cell? ⟨b, off + i * 6 + 5, none⟩ = some (A i).v := by
  rcases h.form with ⟨rfl, _⟩ | ⟨b, off, cap, e, hb, hc⟩
  · omega
  · cases e
    obtain ⟨h0, h1, h2, h3, h4, h5⟩ := hc i hi
    exact ⟨b, off, rfl, (hS.cell (by exact hb)).trans h0, (hS.cell (by exact hb)).trans h1, (hS.cell (by exact hb)).trans h2, (hS.cell (by exact hb)).trans h3, (hS.cell (by exact hb)).trans h4, (hS.cell (by exact hb)).trans h5⟩
end Go.Proofs.YtjgemfgneiaabaaGreat.Pc

namespace Go.Proofs.YtjgemfgneiaabaaGreat.Pc
open Go.RowKit Rq Gq Nu
set_option linter.unusedVariables false
set_option linter.unusedSimpArgs false

section
variable {w0 w : World} {F : Hp} {D : Ad} {R : Ar} {p : Nat → Pl} {gx : List Int} {N : Nat} {T : Int → Prop} {g pp nn : Int} {st : Nat} {a5 : Option Addr} {p5 : Nat} {af : List Nat}
/-- An act, of both places: both stay of the same people. -/
theorem do19 (h : Two w0 D R p gx F w) (hM : Mate D R) (hf : Fit D.n p gx N T) (hN : N ≤ 3000) (a : Ac) (hA : ∀ w', Below w0.heap.size w0 w' → RdA w' a.v a.af) (hst : a.set < 256) (h9 : a.n ≤ 9223372036854775807) (hT : T a.g) : Calls Tryz.prog 10 #[vp D.s, vp R.s, .agg a.cells.toArray] w fun e w' => IsB e ∧ ∃ p' gx', Fit D.n p' gx' (N + 1) T ∧ Two w0 D R p' gx' F w' := by
  obtain ⟨k, g, pp, nn, st, v, af⟩ := a
  dsimp only at hA hst h9 hT
  obtain ⟨a5, p5, rfl⟩ := (hA w h.below).1.len
  show Calls Tryz.prog 10 #[vp D.s, vp R.s, .agg #[vi k, vi g, vi pp, vi nn, .int .u8 st, .slice a5 af.length p5]] w _
  by_cases k1 : k = 1
  · subst k1
    exact do19_1 h hM hf hN hA hst h9 hT
  by_cases k2 : k = 2
  · subst k2
    exact do19_2 h hM hf hN hA hst h9 hT
  by_cases k3 : k = 3
  · subst k3
    exact do19_3 h hM hf hN hA hst h9 hT
  by_cases k4 : k = 4
  · subst k4
    exact do19_4 h hM hf hN hA hst h9 hT
  by_cases k5 : k = 5
  · subst k5
    exact do19_5 h hM hf hN hA hst h9 hT
  by_cases k6 : k = 6
  · subst k6
    exact do19_6 h hM hf hN hA hst h9 hT
  by_cases k7 : k = 7
  · subst k7
    exact do19_7 h hM hf hN hA hst h9 hT
  by_cases k8 : k = 8
  · subst k8
    exact do19_8 h hM hf hN hA hst h9 hT
  by_cases k9 : k = 9
  · subst k9
    exact do19_9 h hM hf hN hA hst h9 hT
  by_cases k10 : k = 10
  · subst k10
    exact do19_10 h hM hf hN hA hst h9 hT
  by_cases k11 : k = 11
  · subst k11
    exact do19_11 h hM hf hN hA hst h9 hT
  exact do19_0 (beq_eq_false_iff_ne.2 k1) (beq_eq_false_iff_ne.2 k2) (beq_eq_false_iff_ne.2 k3) (beq_eq_false_iff_ne.2 k4) (beq_eq_false_iff_ne.2 k5) (beq_eq_false_iff_ne.2 k6) (beq_eq_false_iff_ne.2 k7) (beq_eq_false_iff_ne.2 k8) (beq_eq_false_iff_ne.2 k9) (beq_eq_false_iff_ne.2 k10) (beq_eq_false_iff_ne.2 k11) h hM hf hN hA hst h9 hT
end
end Go.Proofs.YtjgemfgneiaabaaGreat.Pc

namespace Go.Proofs.YtjgemfgneiaabaaGreat.Pc
open Go.RowKit Rq Gq
set_option linter.unusedVariables false
set_option linter.unusedSimpArgs false

section
variable {w0 w : World} {F : Hp} {D : Ad} {p : Nat → Pl} {gx : List Int}
def pl0 : Pl := ⟨[], 0, false, 0, false, 0, 0⟩
theorem Eone : SlT Tryz.prog 56 64 5 40 (.agg #[.pointer none, vi 0, .bool false, vi 0, vu 0]) := SlT.mk' Tryz.underlying56 (by kernel_rfl) rfl (by decide)
theorem rdFive (w : World) (T : TypeId) (cs : List Value) (hc : cs.length = 5) {b : Nat} (hb : b = w.heap.size) : Rd (w.alloc (.cells cs.toArray T)) 5 (.slice (some ⟨b, 0, none⟩) 1 1) 1 cs := by
  subst hb
  have h : Sat w (pc w.heap.size T cs * emp) (w.alloc (.cells cs.toArray T)) := (Sat.start w).alloc _
  exact (h.slI (n := 1) (cap := 1) (size := 5) (xs := cs) (Nat.le_refl _) (by unfold maxLen; omega) (by omega) (List.take_of_length_le (by omega))).rd
theorem pl_new_no (n m : Int) (hn : n < 1 ∨ 8 < n ∨ m < 2 ∨ 32 < m) (w : World) : Calls Tryz.prog 5 #[vi n, vi m] w fun e w' => e = .returned (.tuple #[.pointer none, vi 2]) ∧ w = w' := by
  by_cases h1 : n < 1
  · have d1 : decide (n < 1) = true := decide_eq_true h1
    go_enter Tryz.func5, Tryz.ntmps5
    go_wp2
    go_ret2
    exact ⟨rfl, rfl⟩
  · have d1 : decide (n < 1) = false := decide_eq_false h1
    by_cases h2 : 8 < n
    · have d2 : decide (8 < n) = true := decide_eq_true h2
      go_enter Tryz.func5, Tryz.ntmps5
      go_wp2
      go_ret2
      exact ⟨rfl, rfl⟩
    · have d2 : decide (8 < n) = false := decide_eq_false h2
      by_cases h3 : m < 2
      · have d3 : decide (m < 2) = true := decide_eq_true h3
        go_enter Tryz.func5, Tryz.ntmps5
        go_wp2
        go_ret2
        exact ⟨rfl, rfl⟩
      · have d3 : decide (m < 2) = false := decide_eq_false h3
        have h4 : 32 < m := by omega
        have d4 : decide (32 < m) = true := decide_eq_true h4
        go_enter Tryz.func5, Tryz.ntmps5
        go_wp2
        go_ret2
        exact ⟨rfl, rfl⟩
abbrev hdB (s a m : Nat) (v : Value) : Hp := pc s 58 [v, vi m, vp a]
def rowQ (q : Nat → Nat) (i : Nat) : List Value := [vp (q i), vi 0, .bool false, vi 0, vu 0]
def oneQ (q r : Nat → Nat) (m i : Nat) : Hp := quB (q i) (r i) 0 false * ringP (r i) m []
def newB (s a m j : Nat) (v : Value) (q r : Nat → Nat) : Hp := hdB s a m v * (sl 64 5 v j (rowsN (rowQ q) j) * (gQ a [] * star (oneQ q r m) j))
set_option maxRecDepth 100000 in
set_option maxHeartbeats 4000000 in
theorem pl_new (n m : Nat) (h1 : 1 ≤ n) (h8 : n ≤ 8) (h2 : 2 ≤ m) (h32 : m ≤ 32) (h : Sat w0 F w) : Calls Tryz.prog 5 #[vi n, vi m] w fun e w' => ∃ D : Ad, D.n = n ∧ D.m = m ∧ e = .returned (.tuple #[vp D.s, vi 0]) ∧ Sat w0 (plB D (fun _ => pl0) [] * F) w' := by
  have HG := Lib.hid (g_new h)
  have d1 : decide ((n : Int) < 1) = false := decide_eq_false (by omega)
  have d2 : decide ((8 : Int) < (n : Int)) = false := decide_eq_false (by omega)
  have d3 : decide ((m : Int) < 2) = false := decide_eq_false (by omega)
  have d4 : decide ((32 : Int) < (m : Int)) = false := decide_eq_false (by omega)
  have d5 : decide (8 < n) = false := decide_eq_false (by omega)
  have d6 : decide (32 < m) = false := decide_eq_false (by omega)
  clear h
  go_enter Tryz.func5, Tryz.ntmps5
  go_wp2_with (go_at_call 19; refine HG.out.mono ?_; rintro e w1 ⟨a, rfl, hS⟩; have hx : Sat w0 (hdB w1.heap.size a m (.slice none 0 0) * (gQ a [] * F)) (w1.alloc (.cells #[.slice none 0 0, vi m, vp a] 58)) := hS.alloc _; have H1 := Lib.hid hx; clear hS hx)
  obtain ⟨s, hs⟩ : ∃ s, w1.heap.size = s := ⟨_, rfl⟩
  rw [hs] at H1 ⊢
  clear hs HG
  go_loopw [28] (fun i wr => ∃ (j : Nat) (v : Value) (q r : Nat → Nat), j ≤ n ∧ i = vi j ∧ Sat w0 (newB s a m j v q r * F) wr) (fun i _ => n - (intOf i).toNat)
  case atStart =>
    refine ⟨0, .slice none 0 0, fun _ => 0, fun _ => 0, Nat.zero_le _, rfl, (H1.out.addNil 64 5).cast ?_⟩
    unfold newB
    show sl 64 5 (.slice none 0 0) 0 [] * (hdB s a m (.slice none 0 0) * (gQ a [] * F)) = (hdB s a m (.slice none 0 0) * (sl 64 5 (.slice none 0 0) 0 [] * (gQ a [] * emp))) * F
    rw [sep_emp]
    ac_rfl
  case round =>
    clear H1
    obtain ⟨j, v, q, r, hj, rfl, hS⟩ := hrel
    by_cases hlt : j < n
    · have hji : (j : Int) < (n : Int) := by omega
      have HQ := Lib.hid (q_new m h2 (by omega) hS)
      have hj8 : j < 8 := by omega
      clear hS
      go_wp2_with (first
        | (go_at_call 20; refine HQ.out.mono ?_; rintro e w2 ⟨nq, nr, rfl, hS2⟩; have h3 : Sat w0 (sl 64 5 v j (rowsN (rowQ q) j) * (hdB s a m v * (gQ a [] * (star (oneQ q r m) j * (quB nq nr 0 false * (ringP nr m [] * F)))))) w2 := hS2.cast (by unfold newB; ac_rfl); obtain ⟨vo, vc, rfl⟩ := h3.rd.len; have g0 := h3.pull2.cell 0 rfl; have g1 := h3.pull2.free 0; have H3 := Lib.hid h3; clear hS2 h3)
        | (at_builtin; refine wpList_append_sl Eone rfl (.tmp 42) (.tmp 45) rfl rfl (H3.out.alloc' _) (by rfl) (rdFive _ _ [vp nq, vi 0, .bool false, vi 0, vu 0] rfl rfl) (by intro u hu; simp at hu; rcases hu with rfl | rfl | rfl | rfl | rfl <;> rfl) (by unfold maxLen; omega) (by omega) ?_; intro ao6 cap6 w6 hS6; have o6 := hS6.pull2.cell 0 rfl; have f6 := hS6.pull2.free 0; have h7 : Sat w0 (hdB s a m (.slice ao6 (j + 1) cap6) * _) _ := hS6.pull2.store 0 (.slice ao6 (j + 1) cap6); have H7 := Lib.hid h7; clear hS6 h7))
      go_roundw
      case rel =>
        refine ⟨j + 1, .slice ao6 (j + 1) cap6, fun i => if i = j then nq else q i, fun i => if i = j then nr else r i, by omega, by go_num, H7.out.cast ?_⟩
        have e1 : rowsN (rowQ fun i => if i = j then nq else q i) (j + 1) = rowsN (rowQ q) j ++ [vp nq, vi 0, .bool false, vi 0, vu 0] := by
          rw [rowsN_succ, rowsN_congr (row' := rowQ q) (fun i hi => by unfold rowQ; dsimp only; rw [if_neg (by omega)])]
          unfold rowQ
          dsimp only
          rw [if_pos rfl]
        have e2 : star (oneQ (fun i => if i = j then nq else q i) (fun i => if i = j then nr else r i) m) (j + 1) = star (oneQ q r m) j * (quB nq nr 0 false * ringP nr m []) := by
          rw [star_succ, star_congr (g := oneQ q r m) (fun i hi => by unfold oneQ; dsimp only; rw [if_neg (by omega), if_neg (by omega)])]
          unfold oneQ
          dsimp only
          rw [if_pos rfl, if_pos rfl]
        unfold newB
        rw [e1, e2]
        ac_rfl
      case measure => simp [intOf]; omega
    · obtain rfl : j = n := by omega
      have h3 := hS.cast (show _ = sl 64 5 v j (rowsN (rowQ q) j) * (hdB s a m v * (gQ a [] * (star (oneQ q r m) j * F))) by unfold newB; ac_rfl)
      obtain ⟨sb, cap, rfl, _⟩ := slPos h3 (by omega)
      have H9 := Lib.hid hS
      clear hS h3
      go_wp2
      go_ret2
      refine ⟨⟨s, a, sb, cap, q, r, j, m⟩, rfl, rfl, rfl, H9.out.cast ?_⟩
      rfl
end
end Go.Proofs.YtjgemfgneiaabaaGreat.Pc

namespace Go.Proofs.YtjgemfgneiaabaaGreat.Rq
open Go.RowKit
set_option linter.unusedVariables false

section
variable {w0 w : World} {F : Hp} {q r p m : Nat} {z : Int} {b : Bool} {xs : List Int} {ao : Option Addr} {n cap : Nat}
end
end Go.Proofs.YtjgemfgneiaabaaGreat.Rq

namespace Go.Proofs.YtjgemfgneiaabaaGreat.Rq
open Go.RowKit
set_option linter.unusedVariables false

section
variable {w0 w : World} {F : Hp} {q r p m : Nat} {z : Int} {b : Bool} {xs : List Int}
end
end Go.Proofs.YtjgemfgneiaabaaGreat.Rq

namespace Go.Proofs.YtjgemfgneiaabaaGreat.Rq
open Go.RowKit
set_option linter.unusedVariables false

section
variable {w0 : World} {v : Value} {n : Nat} {K G : Nat → Int} {Y : Nat → Bool} {V : Nat → Value} {af : Nat → List Nat}
end
end Go.Proofs.YtjgemfgneiaabaaGreat.Rq

namespace Go.Proofs.YtjgemfgneiaabaaGreat.Pc
open Go.RowKit Rq Gq
set_option linter.unusedVariables false
set_option linter.unusedSimpArgs false

theorem EP4 : SlT Tryz.prog 68 74 4 48 (.agg #[.pointer none, .slice none 0 0, vi 0, vu 0]) := SlT.mk' Tryz.underlying68 (by kernel_rfl) rfl (by decide)
theorem rdFour (w : World) (T : TypeId) (cs : List Value) (hc : cs.length = 4) {b : Nat} (hb : b = w.heap.size) : Rd (w.alloc (.cells cs.toArray T)) 4 (.slice (some ⟨b, 0, none⟩) 1 1) 1 cs := by
  subst hb
  have h : Sat w (pc w.heap.size T cs * emp) (w.alloc (.cells cs.toArray T)) := (Sat.start w).alloc _
  exact (h.slI (n := 1) (cap := 1) (size := 4) (xs := cs) (Nat.le_refl _) (by unfold maxLen; omega) (by omega) (List.take_of_length_le (by omega))).rd
theorem rs_emp (e : TypeId) : rs e (.slice none 0 0) [] = emp := Hp.ext' fun L => by
  constructor
  · intro h
    rcases h with ⟨_, _, h⟩ | ⟨g, off, cap, cur, hv, _⟩
    · exact h
    · cases hv
  · intro h
    exact .inl ⟨rfl, rfl, h⟩
abbrev hdR (s a : Nat) (v : Value) : Hp := pc s 70 [v, vp a]
def rowN (q : Nat → Nat) (i : Nat) : List Value := [vp (q i), .slice none 0 0, vi 0, vu 0]
def oneN (q : Nat → Nat) (m i : Nat) : Hp := refQ (q i) m [] 0 false
def newR (s a m j : Nat) (v : Value) (q : Nat → Nat) : Hp := hdR s a v * (sl 74 4 v j (rowsN (rowN q) j) * (rgB a (.slice none 0 0) * star (oneN q m) j))
section
variable {w0 w : World} {F : Hp}
theorem newR_step {s a m j nq : Nat} {v : Value} {q : Nat → Nat} : newR s a m (j + 1) v (fun i => if i = j then nq else q i) * F = hdR s a v * (sl 74 4 v (j + 1) (rowsN (rowN q) j ++ [vp nq, .slice none 0 0, vi 0, vu 0]) * (rgB a (.slice none 0 0) * (star (oneN q m) j * (refQ nq m [] 0 false * F)))) := by
  have e1 : rowsN (rowN fun i => if i = j then nq else q i) (j + 1) = rowsN (rowN q) j ++ [vp nq, .slice none 0 0, vi 0, vu 0] := by
    rw [rowsN_succ, rowsN_congr (row' := rowN q) (fun i hi => by unfold rowN; dsimp only; rw [if_neg (by omega)])]
    unfold rowN
    dsimp only
    rw [if_pos rfl]
  have e2 : star (oneN (fun i => if i = j then nq else q i) m) (j + 1) = star (oneN q m) j * refQ nq m [] 0 false := by
    rw [star_succ, star_congr (g := oneN q m) (fun i hi => by unfold oneN; dsimp only; rw [if_neg (by omega)])]
    unfold oneN
    dsimp only
    rw [if_pos rfl]
  unfold newR
  rw [e1, e2]
  ac_rfl
set_option maxRecDepth 100000 in
set_option maxHeartbeats 4000000 in
theorem pr_new (n m : Nat) (h1 : 1 ≤ n) (h8 : n ≤ 8) (h2 : 2 ≤ m) (h32 : m ≤ 32) (h : Sat w0 F w) : Calls Tryz.prog 9 #[vi n, vi m] w fun e w' => ∃ D : Ar, D.n = n ∧ D.m = m ∧ e = .returned (vp D.s) ∧ Sat w0 (prB D (fun _ => pl0) [] * F) w' := by
  have hZ : Sat w0 (hdR (w.heap.size + 1) w.heap.size (.slice none 0 0) * (rgB w.heap.size (.slice none 0 0) * F)) ((w.alloc (.cells #[.slice none 0 0] 67)).alloc (.cells #[.slice none 0 0, vp w.heap.size] 70)) := by
    have h4 := (h.alloc (.cells #[.slice none 0 0] 67)).alloc (.cells #[.slice none 0 0, vp w.heap.size] 70)
    simp only [World.size_alloc] at h4
    exact h4
  have HZ := Lib.hid hZ
  clear h hZ
  go_enter Tryz.func9, Tryz.ntmps9
  go_wp2
  generalize w.heap.size + 1 = s at *
  generalize w.heap.size = a at *
  go_loopw [6] (fun i wr => ∃ (j : Nat) (v : Value) (q : Nat → Nat), j ≤ n ∧ i = vi j ∧ Sat w0 (newR s a m j v q * F) wr) (fun i _ => n - (intOf i).toNat)
  case atStart =>
    refine ⟨0, .slice none 0 0, fun _ => 0, Nat.zero_le _, rfl, (HZ.out.addNil 74 4).cast ?_⟩
    unfold newR
    show sl 74 4 (.slice none 0 0) 0 [] * (hdR s a (.slice none 0 0) * (rgB a (.slice none 0 0) * F)) = (hdR s a (.slice none 0 0) * (sl 74 4 (.slice none 0 0) 0 [] * (rgB a (.slice none 0 0) * emp))) * F
    rw [sep_emp]
    ac_rfl
  case round =>
    clear HZ
    obtain ⟨j, v, q, hj, rfl, hS⟩ := hrel
    by_cases hlt : j < n
    · have hji : (j : Int) < (n : Int) := by omega
      have HQ := Lib.hid (r_new m hS.drew)
      have hj8 : j < 8 := by omega
      have h3 : Sat w0 (hdR s a v * (sl 74 4 v j (rowsN (rowN q) j) * (rgB a (.slice none 0 0) * (star (oneN q m) j * F)))) wr := hS.cast (by unfold newR; ac_rfl)
      obtain ⟨vo, vc, rfl⟩ := h3.pull2.rd.len
      have g0 := h3.cell 0 rfl
      have g1 := h3.free 0
      clear hS h3
      go_wp2
      go_region_law
        (first
          | (go_simp; go_at_call 21; refine HQ.out.mono ?_; rintro e w2 ⟨nq, rfl, hS2⟩; have h5 : Sat w0 (sl 74 4 (.slice vo j vc) j (rowsN (rowN q) j) * (hdR s a (.slice vo j vc) * (rgB a (.slice none 0 0) * (star (oneN q m) j * (refQ nq m [] 0 false * F))))) w2 := (refQ_shut (z := 0) (b := false) hS2).cast (by unfold newR; ac_rfl); have d0 := h5.pull2.cell 0 rfl; have d1 := h5.pull2.free 0; have d2 := (h5.alloc' (.cells #[vp nq, .slice none 0 0, vi 0, vu 0] 74)).pull2.cell 0 rfl; have d3 := (h5.alloc' (.cells #[vp nq, .slice none 0 0, vi 0, vu 0] 74)).pull2.free 0; have H5 := Lib.hid h5; clear hS2 h5; go_wp2_with fail)
          | (refine step_append_sl EP4 (by rfl) (.tmp 20) (.tmp 24) (by rfl) (by rfl) (H5.out.alloc' _) (by rfl) (rdFour _ _ [vp nq, .slice none 0 0, vi 0, vu 0] rfl rfl) (by intro u hu; simp at hu; rcases hu with rfl | rfl | rfl | rfl <;> rfl) (by unfold maxLen; omega) (by omega) ?_; intro ao6 cap6 w6 hS6; have o6 := hS6.pull2.cell 0 rfl; have f6 := hS6.pull2.free 0; have h7 : Sat w0 (hdR s a (.slice ao6 (j + 1) cap6) * _) _ := hS6.pull2.store 0 (.slice ao6 (j + 1) cap6); have H7 := Lib.hid h7; clear hS6 h7))
      all_goals go_wp2
      all_goals go_roundw
      all_goals first
        | exact ⟨j + 1, .slice ao6 (j + 1) cap6, fun i => if i = j then nq else q i, by omega, by go_num, H7.out.cast newR_step.symm⟩
        | (simp [intOf]; omega)
    · obtain rfl : j = n := by omega
      have h3 := hS.cast (show _ = sl 74 4 v j (rowsN (rowN q) j) * (hdR s a v * (rgB a (.slice none 0 0) * (star (oneN q m) j * F))) by unfold newR; ac_rfl)
      obtain ⟨sb, cap, rfl, _⟩ := slPos h3 (by omega)
      have H9 := Lib.hid hS
      clear hS h3
      go_wp2
      go_ret
      refine ⟨⟨s, a, sb, cap, q, j, m⟩, rfl, rfl, rfl, pr_shut (vG := .slice none 0 0) (vR := fun _ => .slice none 0 0) (H9.out.cast ?_)⟩
      have e1 : star (oneR ⟨s, a, sb, cap, q, j, m⟩ (fun _ => .slice none 0 0) fun _ => pl0) j = star (oneN q m) j := star_congr fun i _ => by
        show refQ (q i) m [] 0 false * rs 3 (.slice none 0 0) [] = refQ (q i) m [] 0 false
        rw [rs_emp, sep_emp]
      unfold prO newR
      rw [e1, List.map_nil, rs_emp, emp_sep]
      rfl
end
end Go.Proofs.YtjgemfgneiaabaaGreat.Pc
