/-
  Package place: New. No statement is proved here.
-/
import Derived.Test.YtjgemfgneiaabaaMg9
import Derived.Test.YtjgemfgneiaabaaPm7
import Derived.Test.YtjgemfgneiaabaaPm10
namespace Go.Proofs.Ytjgemfgneiaabaa.Pc
open Go.RowKit Rq Gq
set_option linter.unusedVariables false
set_option linter.unusedSimpArgs false

section
variable {w0 w : World} {F : Hp} {D : Ad} {p : Nat → Pl} {gx : List Int}
def pl0 : Pl := ⟨[], 0, false, 0, false, 0, 0⟩
theorem Eone : SlT Try.prog 58 66 5 40 (.agg #[.pointer none, vi 0, .bool false, vi 0, vu 0]) := SlT.mk' Try.underlying58 (by kernel_rfl) rfl (by decide)
theorem rdFive (w : World) (T : TypeId) (cs : List Value) (hc : cs.length = 5) {b : Nat} (hb : b = w.heap.size) : Rd (w.alloc (.cells cs.toArray T)) 5 (.slice (some ⟨b, 0, none⟩) 1 1) 1 cs := by
  subst hb
  have h : Sat w (pc w.heap.size T cs * emp) (w.alloc (.cells cs.toArray T)) := (Sat.start w).alloc _
  exact (h.slI (n := 1) (cap := 1) (size := 5) (xs := cs) (Nat.le_refl _) (by unfold maxLen; omega) (by omega) (List.take_of_length_le (by omega))).rd
theorem pl_new_no (n m : Int) (hn : n < 1 ∨ 8 < n ∨ m < 2 ∨ 32 < m) (w : World) : Calls Try.prog 4 #[vi n, vi m] w fun e w' => e = .returned (.tuple #[.pointer none, vi 2]) ∧ w = w' := by
  by_cases h1 : n < 1
  · have d1 : decide (n < 1) = true := decide_eq_true h1
    go_enter Try.func4, Try.ntmps4
    go_wp2
    go_ret2
    exact ⟨rfl, rfl⟩
  · have d1 : decide (n < 1) = false := decide_eq_false h1
    by_cases h2 : 8 < n
    · have d2 : decide (8 < n) = true := decide_eq_true h2
      go_enter Try.func4, Try.ntmps4
      go_wp2
      go_ret2
      exact ⟨rfl, rfl⟩
    · have d2 : decide (8 < n) = false := decide_eq_false h2
      by_cases h3 : m < 2
      · have d3 : decide (m < 2) = true := decide_eq_true h3
        go_enter Try.func4, Try.ntmps4
        go_wp2
        go_ret2
        exact ⟨rfl, rfl⟩
      · have d3 : decide (m < 2) = false := decide_eq_false h3
        have h4 : 32 < m := by omega
        have d4 : decide (32 < m) = true := decide_eq_true h4
        go_enter Try.func4, Try.ntmps4
        go_wp2
        go_ret2
        exact ⟨rfl, rfl⟩
abbrev hdB (s a m : Nat) (v : Value) : Hp := pc s 60 [v, vi m, vp a]
def rowQ (q : Nat → Nat) (i : Nat) : List Value := [vp (q i), vi 0, .bool false, vi 0, vu 0]
def oneQ (q r : Nat → Nat) (m i : Nat) : Hp := quB (q i) (r i) 0 false * ringP (r i) m []
def newB (s a m j : Nat) (v : Value) (q r : Nat → Nat) : Hp := hdB s a m v * (sl 66 5 v j (rowsN (rowQ q) j) * (gQ a [] * star (oneQ q r m) j))
set_option maxRecDepth 100000 in
set_option maxHeartbeats 4000000 in
theorem pl_new (n m : Nat) (h1 : 1 ≤ n) (h8 : n ≤ 8) (h2 : 2 ≤ m) (h32 : m ≤ 32) (h : Sat w0 F w) : Calls Try.prog 4 #[vi n, vi m] w fun e w' => ∃ D : Ad, D.n = n ∧ D.m = m ∧ e = .returned (.tuple #[vp D.s, vi 0]) ∧ Sat w0 (plB D (fun _ => pl0) [] * F) w' := by
  have HG := Lib.hid (g_new h)
  have d1 : decide ((n : Int) < 1) = false := decide_eq_false (by omega)
  have d2 : decide ((8 : Int) < (n : Int)) = false := decide_eq_false (by omega)
  have d3 : decide ((m : Int) < 2) = false := decide_eq_false (by omega)
  have d4 : decide ((32 : Int) < (m : Int)) = false := decide_eq_false (by omega)
  have d5 : decide (8 < n) = false := decide_eq_false (by omega)
  have d6 : decide (32 < m) = false := decide_eq_false (by omega)
  clear h
  go_enter Try.func4, Try.ntmps4
  go_wp2_with (go_at_call 20; refine HG.out.mono ?_; rintro e w1 ⟨a, rfl, hS⟩; have hx : Sat w0 (hdB w1.heap.size a m (.slice none 0 0) * (gQ a [] * F)) (w1.alloc (.cells #[.slice none 0 0, vi m, vp a] 60)) := hS.alloc _; have H1 := Lib.hid hx; clear hS hx)
  obtain ⟨s, hs⟩ : ∃ s, w1.heap.size = s := ⟨_, rfl⟩
  rw [hs] at H1 ⊢
  clear hs HG
  go_loopw [28] (fun i wr => ∃ (j : Nat) (v : Value) (q r : Nat → Nat), j ≤ n ∧ i = vi j ∧ Sat w0 (newB s a m j v q r * F) wr) (fun i _ => n - (intOf i).toNat)
  case atStart =>
    refine ⟨0, .slice none 0 0, fun _ => 0, fun _ => 0, Nat.zero_le _, rfl, (H1.out.addNil 66 5).cast ?_⟩
    unfold newB
    show sl 66 5 (.slice none 0 0) 0 [] * (hdB s a m (.slice none 0 0) * (gQ a [] * F)) = (hdB s a m (.slice none 0 0) * (sl 66 5 (.slice none 0 0) 0 [] * (gQ a [] * emp))) * F
    rw [sep_emp]
    ac_rfl
  case round =>
    clear H1
    obtain ⟨j, v, q, r, hj, rfl, hS⟩ := hrel
    by_cases hlt : j < n
    · have hji : (j : Int) < (n : Int) := by omega
      have HQ := Lib.hid (q_new m h2 (by omega) hS)
      have hj8 : j < 8 := by omega
      clear hS
      go_wp2_with (first
        | (go_at_call 21; refine HQ.out.mono ?_; rintro e w2 ⟨nq, nr, rfl, hS2⟩; have h3 : Sat w0 (sl 66 5 v j (rowsN (rowQ q) j) * (hdB s a m v * (gQ a [] * (star (oneQ q r m) j * (quB nq nr 0 false * (ringP nr m [] * F)))))) w2 := hS2.cast (by unfold newB; ac_rfl); obtain ⟨vo, vc, rfl⟩ := h3.rd.len; have g0 := h3.pull2.cell 0 rfl; have g1 := h3.pull2.free 0; have H3 := Lib.hid h3; clear hS2 h3)
        | (at_builtin; refine wpList_append_sl Eone rfl (.tmp 42) (.tmp 45) rfl rfl (H3.out.alloc' _) (by rfl) (rdFive _ _ [vp nq, vi 0, .bool false, vi 0, vu 0] rfl rfl) (by intro u hu; simp at hu; rcases hu with rfl | rfl | rfl | rfl | rfl <;> rfl) (by unfold maxLen; omega) (by omega) ?_; intro ao6 cap6 w6 hS6; have o6 := hS6.pull2.cell 0 rfl; have f6 := hS6.pull2.free 0; have h7 : Sat w0 (hdB s a m (.slice ao6 (j + 1) cap6) * _) _ := hS6.pull2.store 0 (.slice ao6 (j + 1) cap6); have H7 := Lib.hid h7; clear hS6 h7))
      go_roundw
      case rel =>
        refine ⟨j + 1, .slice ao6 (j + 1) cap6, fun i => if i = j then nq else q i, fun i => if i = j then nr else r i, by omega, by go_num, H7.out.cast ?_⟩
        have e1 : rowsN (rowQ fun i => if i = j then nq else q i) (j + 1) = rowsN (rowQ q) j ++ [vp nq, vi 0, .bool false, vi 0, vu 0] := by
          rw [rowsN_succ, rowsN_congr (row' := rowQ q) (fun i hi => by unfold rowQ; dsimp only; rw [if_neg (by omega)])]
          unfold rowQ
          dsimp only
          rw [if_pos rfl]
        have e2 : star (oneQ (fun i => if i = j then nq else q i) (fun i => if i = j then nr else r i) m) (j + 1) = star (oneQ q r m) j * (quB nq nr 0 false * ringP nr m []) := by
          rw [star_succ, star_congr (g := oneQ q r m) (fun i hi => by unfold oneQ; dsimp only; rw [if_neg (by omega), if_neg (by omega)])]
          unfold oneQ
          dsimp only
          rw [if_pos rfl, if_pos rfl]
        unfold newB
        rw [e1, e2]
        ac_rfl
      case measure => simp [intOf]; omega
    · obtain rfl : j = n := by omega
      have h3 := hS.cast (show _ = sl 66 5 v j (rowsN (rowQ q) j) * (hdB s a m v * (gQ a [] * (star (oneQ q r m) j * F))) by unfold newB; ac_rfl)
      obtain ⟨sb, cap, rfl, _⟩ := slPos h3 (by omega)
      have H9 := Lib.hid hS
      clear hS h3
      go_wp2
      go_ret2
      refine ⟨⟨s, a, sb, cap, q, r, j, m⟩, rfl, rfl, rfl, H9.out.cast ?_⟩
      rfl
end
end Go.Proofs.Ytjgemfgneiaabaa.Pc

namespace Go.Proofs.Ytjgemfgneiaabaa.Pc
open Go.RowKit Rq Gq Nu
set_option linter.unusedVariables false
set_option linter.unusedSimpArgs false

def kp1 : Nat → Pl := up (fun _ => pl0) 1 (nextY 2 pl0 4)
def kp2 : Nat → Pl := up kp1 1 (nextY 2 (kp1 1) 5)
theorem kw5 : whereV kp2 2 [6] 5 = (2, 1) := by decide +kernel
theorem kw4 : whereV kp2 2 [6] 4 = (3, 1) := by decide +kernel
theorem kw6 : whereV kp2 2 [6] 6 = (4, 0) := by decide +kernel
theorem eq_spot (a b : Int) (w : World) : (binOp .eql 53 (.agg #[vi a, vi b]) (.agg #[vi a, vi b])).run Try.prog w = .ok (.bool true) w := by
  have h : ∀ d : Nat, (Op.equalIn (d + 2) 53 (.agg #[vi a, vi b]) (.agg #[vi a, vi b])).run Try.prog w = .ok true w := fun d => by
    simp [Op.equalIn, go_sem]
  simp only [binOp]
  simp [Op.equal, Op.maxDepth, h 9998]
section
variable {w0 w : World} {F : Hp}
set_option maxRecDepth 100000 in
set_option maxHeartbeats 4000000 in
theorem known19 (w0 : World) : Calls Try.prog 7 #[] w0 fun e w' => e = .returned (.bool true) ∧ Below w0.heap.size w0 w' := by
  have HN := Lib.hid (pl_new 2 2 (by omega) (by omega) (by omega) (by omega) (Sat.start w0))
  have e5 := fun w => eq_spot 2 1 w
  have e4 := fun w => eq_spot 3 1 w
  have e6 := fun w => eq_spot 4 0 w
  have HP1 : Hid (∀ (D : Ad) (w : World), D.n = 2 → D.m = 2 → Sat w0 (plB D (fun _ => pl0) [] * emp) w → Calls Try.prog 8 #[vp D.s, vi 4, .int .u8 3, vi 1, vi 0] w fun e w' => e = .returned (.tuple #[]) ∧ Sat w0 (plB D kp1 [] * emp) w') := Lib.hid fun D w hn hm h => by
    have := pl_put_next h ⟨by omega, by omega, by omega, by omega⟩ 4 (s := 3) (by omega) 1 (by omega) (by decide +kernel) 0 (by simp)
    rw [hm] at this
    exact this
  have HP2 : Hid (∀ (D : Ad) (w : World), D.n = 2 → D.m = 2 → Sat w0 (plB D kp1 [] * emp) w → Calls Try.prog 8 #[vp D.s, vi 5, .int .u8 3, vi 1, vi 0] w fun e w' => e = .returned (.tuple #[]) ∧ Sat w0 (plB D kp2 [] * emp) w') := Lib.hid fun D w hn hm h => by
    have := pl_put_next h ⟨by omega, by omega, by omega, by omega⟩ 5 (s := 3) (by omega) 1 (by omega) (by decide +kernel) 0 (by simp)
    rw [hm] at this
    exact this
  have HP3 : Hid (∀ (D : Ad) (w : World), D.n = 2 → D.m = 2 → Sat w0 (plB D kp2 [] * emp) w → Calls Try.prog 8 #[vp D.s, vi 6, .int .u8 0, vi 1, vi 0] w fun e w' => e = .returned (.tuple #[]) ∧ Sat w0 (plB D kp2 [6] * emp) w') := Lib.hid fun D w hn hm h =>
    pl_put_all_in h ⟨by omega, by omega, by omega, by omega⟩ 6 (s := 0) (by omega) 1 0 (by rw [hn]; rfl) (by decide +kernel) (by rw [hn]; decide +kernel) (by simp)
  have HW : Hid (∀ (D : Ad) (w : World) (g : Int) (a b : Int), whereV kp2 2 [6] g = (a, b) → D.n = 2 → D.m = 2 → Sat w0 (plB D kp2 [6] * emp) w → Calls Try.prog 19 #[vp D.s, vi g] w fun e w' => e = .returned (.agg #[vi a, vi b]) ∧ Sat w0 (plB D kp2 [6] * emp) w') := Lib.hid fun D w g a b he hn hm h => by
    have := pl_where h ⟨by omega, by omega, by omega, by omega⟩ g (by simp)
    rw [hn, he] at this
    exact this
  go_enter Try.func7, Try.ntmps7
  go_wp2_with (first
    | (go_at_call 4; refine HN.out.mono ?_; rintro e w1 ⟨D, hn, hm, rfl, hS⟩; have H1 := Lib.hid hS; clear hS; have HNN := Lib.hid hn; have HMM := Lib.hid hm; clear hn hm HN)
    | (go_at_call 8; with_reducible refine (HP1.out D _ HNN.out HMM.out H1.out).mono ?_; rintro e w2 ⟨rfl, hS⟩; have H2 := Lib.hid hS; clear hS)
    | (go_at_call 8; with_reducible refine (HP2.out D _ HNN.out HMM.out H2.out).mono ?_; rintro e w3 ⟨rfl, hS⟩; have H3 := Lib.hid hS; clear hS)
    | (go_at_call 8; with_reducible refine (HP3.out D _ HNN.out HMM.out H3.out).mono ?_; rintro e w4 ⟨rfl, hS⟩; have H4 := Lib.hid hS; clear hS)
    | (go_at_call 19; with_reducible refine (HW.out D _ 5 2 1 kw5 HNN.out HMM.out H4.out).mono ?_; rintro e w5 ⟨rfl, hS⟩; have H5 := Lib.hid hS; clear hS)
    | (go_at_call 19; with_reducible refine (HW.out D _ 4 3 1 kw4 HNN.out HMM.out H5.out).mono ?_; rintro e w6 ⟨rfl, hS⟩; have H6 := Lib.hid hS; clear hS)
    | (go_at_call 19; with_reducible refine (HW.out D _ 6 4 0 kw6 HNN.out HMM.out H6.out).mono ?_; rintro e w7 ⟨rfl, hS⟩; have H7 := Lib.hid hS; clear hS))
  go_ret
  exact ⟨rfl, H7.out.below⟩
end
end Go.Proofs.Ytjgemfgneiaabaa.Pc
