/-
  Law 08: which sizes may be; an act out of the argument. No statement is proved here.
-/
import Derived.Test.YtknodagcmachiaaCs2
import Derived.Test.YtknodagcmachiaaMg8
namespace Go.Proofs.Ytknodagcmachiaa.Cn
open Go.RowKit Ac Fi
set_option linter.unusedVariables false
set_option linter.unusedSimpArgs false

theorem r_may_no (n most : Int) (hn : n < 1 ∨ 32 < n ∨ most < 2 ∨ 16 < most) (w : World) : Calls Try.prog 16 #[vi n, vi most] w fun e w' => e = .returned (.bool false) ∧ w = w' := by
  by_cases h1 : n < 1
  · have h1' : ¬ 1 ≤ n := by omega
    have hd : decide (1 ≤ n) = false := decide_eq_false h1'
    clear hn
    go_enter Try.func16, Try.ntmps16
    go_wp2
    go_ret
    exact ⟨by simp, rfl⟩
  by_cases h2 : 32 < n
  · have h1' : 1 ≤ n := by omega
    have h2' : ¬ n ≤ 32 := by omega
    have hd : decide (1 ≤ n) = true := decide_eq_true h1'
    have hd2 : decide (n ≤ 32) = false := decide_eq_false h2'
    clear hn
    go_enter Try.func16, Try.ntmps16
    go_wp2
    go_ret
    exact ⟨by simp, rfl⟩
  by_cases h3 : most < 2
  · have h1' : 1 ≤ n := by omega
    have h2' : n ≤ 32 := by omega
    have h3' : ¬ 2 ≤ most := by omega
    have hd : decide (1 ≤ n) = true := decide_eq_true h1'
    have hd2 : decide (n ≤ 32) = true := decide_eq_true h2'
    have hd3 : decide (2 ≤ most) = false := decide_eq_false h3'
    clear hn
    go_enter Try.func16, Try.ntmps16
    go_wp2
    go_ret
    exact ⟨by simp, rfl⟩
  · have h1' : 1 ≤ n := by omega
    have h2' : n ≤ 32 := by omega
    have h3' : 2 ≤ most := by omega
    have h4' : ¬ most ≤ 16 := by omega
    have hd : decide (1 ≤ n) = true := decide_eq_true h1'
    have hd2 : decide (n ≤ 32) = true := decide_eq_true h2'
    have hd3 : decide (2 ≤ most) = true := decide_eq_true h3'
    have hd4 : decide (most ≤ 16) = false := decide_eq_false h4'
    clear hn
    go_enter Try.func16, Try.ntmps16
    go_wp2
    go_ret
    exact ⟨by simp, rfl⟩
theorem r_may_yes (n most : Int) (h1 : 1 ≤ n) (h2 : n ≤ 32) (h3 : 2 ≤ most) (h4 : most ≤ 16) (w : World) : Calls Try.prog 16 #[vi n, vi most] w fun e w' => e = .returned (.bool true) ∧ w = w' := by
  have hd : decide (1 ≤ n) = true := decide_eq_true h1
  have hd2 : decide (n ≤ 32) = true := decide_eq_true h2
  have hd3 : decide (2 ≤ most) = true := decide_eq_true h3
  have hd4 : decide (most ≤ 16) = true := decide_eq_true h4
  go_enter Try.func16, Try.ntmps16
  go_wp2
  go_ret
  exact ⟨by simp, rfl⟩
def QP8 (w0 : World) : Ending → World → Prop := fun e w' => e = .returned (.bool true) ∧ Below w0.heap.size w0 w'
/-- Both are made. -/
def newS (n : Nat) : CS := ⟨newC n, newF n n, 0⟩
theorem InvS.new (n : Nat) (hn : 1 ≤ n ∧ n ≤ 32) (most : Int) (hm : 2 ≤ most ∧ most ≤ 16) : InvS n most 0 (newS n) := Inv.new n hn most hm
section
variable {w0 w : World} {F : Hp} {n T h q : Nat} {most : Int} {L0 L1 : Blks} {s : CS}
theorem both_new (hS : Sat w0 (cxQ L0 h most (newC n) (newF n n) * F) w) (hn : 1 ≤ n ∧ n ≤ 32) : Calls Try.prog 17 #[vi n, vi most] w fun e w' => ∃ q, e = .returned (vp q) ∧ Sat w0 (bothC h q most L0 [] (newS n) F) w' :=
  (r_new n hn most hS).mono fun e w' ⟨q, h1, h2⟩ => ⟨q, h1, h2.cast (show _ = cxQ L0 h most (newC n) (newF n n) * (cyQ [] q most (newC n) 0 * F) by ac_rfl)⟩
end
/-- An act out of the argument. -/
theorem act_of {w0 : World} {ao : Option Addr} {cap n : Nat} {A : Nat → Int} (h : ArgK w0 8 kA8 (.slice ao n cap) n A) {k : Nat} (hk : k < n) :
    ∃ b off, ao = some ⟨b, off, none⟩ ∧ ∃ x : Act8, x.Ok ∧ ∀ (w : World) (F : Hp), Sat w0 F w → w.cell? ⟨b, off + k * 8, none⟩ = some (vi x.k) ∧ w.cell? ⟨b, off + k * 8 + 1, none⟩ = some (vi x.i) ∧ w.cell? ⟨b, off + k * 8 + 2, none⟩ = some (vu x.g) ∧ w.cell? ⟨b, off + k * 8 + 3, none⟩ = some (vi x.j) ∧ w.cell? ⟨b, off + k * 8 + 4, none⟩ = some (vu x.t) ∧ w.cell? ⟨b, off + k * 8 + 5, none⟩ = some (vu x.a) ∧ w.cell? ⟨b, off + k * 8 + 6, none⟩ = some (vu x.b) ∧ w.cell? ⟨b, off + k * 8 + 7, none⟩ = some (vu x.now) := by
  obtain ⟨b, off, he, x0, x1, x2, x3, x4, x5, x6, x7, h2, h4, h5, h6, h7, hc⟩ := a_act8 h hk
  exact ⟨b, off, he, ⟨x0, x1, x2, x3, x4, x5, x6, x7⟩, ⟨h2, h4, h5, h6, h7⟩, hc⟩
end Go.Proofs.Ytknodagcmachiaa.Cn

namespace Go.Proofs.Ytknodagcmachiaa.Cn
open Go.RowKit Ac Fi
set_option linter.unusedVariables false
set_option linter.unusedSimpArgs false

set_option maxRecDepth 100000 in
set_option maxHeartbeats 8000000 in
theorem plays8_row (w0 : World) (size : Int) (ws : (Lit.int .i64 size).wf = true) (most : Int) (wm : (Lit.int .i64 most).wf = true) (v2 : Value) (n : Nat) (A : Nat → Int) (h2 : ArgK w0 8 kA8 v2 n A) :
    Calls Try.prog 6 #[vi size, vi most, v2] w0 (QP8 w0) := by
  obtain ⟨ao, cap, rfl⟩ : ∃ ao cap, v2 = .slice ao n cap := by
    rcases h2.form with ⟨rfl, ao, cap, h⟩ | ⟨b, off, cap, h, _⟩
    · exact ⟨_, _, h⟩
    · exact ⟨_, _, h⟩
  have HA := Lib.hid h2
  clear h2
  by_cases hn : 120 < n
  · have hni : (120 : Int) < (n : Int) := by omega
    go_enter Try.func6, Try.ntmps6
    go_wp2_with (go_at_call 9; refine (known08 w0).mono ?_; rintro e w2 ⟨rfl, hS⟩)
    go_ret
    exact ⟨rfl, hS⟩
  have hni : ¬ (120 : Int) < (n : Int) := by omega
  by_cases hm : size < 1 ∨ 32 < size ∨ most < 2 ∨ 16 < most
  · have HN := Lib.hid (cx_new_no size most hm w0)
    have HM := Lib.hid (r_may_no size most hm w0)
    clear hm
    go_enter Try.func6, Try.ntmps6
    go_wp2_with (first
      | (go_at_call 10; (with_reducible refine HN.out.mono ?_); rintro e w1 ⟨rfl, rfl⟩)
      | (go_at_call 16; (with_reducible refine HM.out.mono ?_); rintro e w1 ⟨rfl, rfl⟩)
      | (go_at_call 9; refine (known08 w0).mono ?_; rintro e w2 ⟨rfl, hS⟩))
    go_ret
    exact ⟨by simp, hS⟩
  · obtain ⟨N, rfl⟩ := Int.eq_ofNat_of_zero_le (show 0 ≤ size by omega)
    have hN : 1 ≤ N ∧ N ≤ 32 := by omega
    have hM : 2 ≤ most ∧ most ≤ 16 := by omega
    have HI := Lib.hid (InvS.new N hN most hM)
    have HN := Lib.hid (p_new N hN hM (Sat.start w0))
    have HM := Lib.hid (r_may_yes N most (by omega) (by omega) hM.1 hM.2)
    clear hm
    go_enter Try.func6, Try.ntmps6
    go_wp2_with (first
      | (go_at_call 10; (with_reducible refine HN.out.mono ?_); rintro e w1 ⟨h, rfl, hS1⟩; have HNR := Lib.hid (both_new hS1 hN); clear hS1)
      | (go_at_call 16; (with_reducible refine (HM.out _).mono ?_); rintro e w1' ⟨rfl, rfl⟩)
      | (go_at_call 17; (with_reducible refine HNR.out.mono ?_); rintro e w2 ⟨q, rfl, hS2⟩; have H2 := Lib.hid hS2; clear hS2))
    clear HNR HM HN
    go_loopw [10] (fun ix wr => ∃ (k : Nat) (s : CS), k ≤ n ∧ ix = vi k ∧ Hid (InvS N most (2 * k) s) ∧ Sat w0 (bothC h q most [] [] s emp) wr) (fun ix _ => n - (intOf ix).toNat)
    case atStart => exact ⟨0, _, Nat.zero_le _, rfl, HI, H2.out⟩
    case round =>
      clear H2 HI
      obtain ⟨k, s, hk, rfl, hI, hS⟩ := hrel
      by_cases hlt : k < n
      · have hki : (k : Int) < (n : Int) := by omega
        obtain ⟨ab, aoff, rfl, x, hx, hca⟩ := act_of HA.out hlt
        obtain ⟨a0, a1, a2, a3, a4, a5, a6, a7⟩ := hca _ _ hS
        have HCA := Lib.hid hca
        have HI2 := Lib.hid (hI.out.step hx)
        have HD := Lib.hid (do8 hI.out (by omega) hS x hx)
        clear hS hca
        generalize stepS most s x = s2 at *
        go_wp2_with (first
          | (go_at_call 18; (with_reducible refine HD.out.mono ?_); rintro e w4 ⟨rfl, hS4⟩; obtain ⟨b0, b1, b2, b3, b4, b5, b6, b7⟩ := HCA.out _ _ hS4; have HSM := Lib.hid (same8 HI2.out hS4 x); clear hS4)
          | (go_at_call 24; (with_reducible refine HSM.out.mono ?_); rintro e w5 ⟨rfl, hS5⟩; have H5 := Lib.hid hS5; clear hS5))
        go_roundw
        case rel => exact ⟨k + 1, s2, by omega, by go_num, HI2, H5.out⟩
        case measure => (simp [intOf]; try omega)
      · obtain rfl : k = n := by omega
        have hki : ¬ (k : Int) < (k : Int) := by omega
        have HS' := Lib.hid hS
        clear hS
        go_wp2_with (go_at_call 9; refine (known08 _).mono ?_; rintro e w9 ⟨rfl, hb⟩; have H9 := Lib.hid (Sat.after HS'.out hb); clear hb)
        go_ret
        exact ⟨rfl, H9.out.below⟩
end Go.Proofs.Ytknodagcmachiaa.Cn
