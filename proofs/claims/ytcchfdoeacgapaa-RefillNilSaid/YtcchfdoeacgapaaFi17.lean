/-
  The walk of RefillWindow. No statement is proved here.
-/
import Derived.Test.YtcchfdoeacgapaaFi16
namespace Go.Proofs.Ytcchfdoeacgapaa.Fi
open Go.RowKit
set_option linter.unusedVariables false

theorem Eu64 : SlT Try.prog 22 28 1 8 (vu 0) := SlT.mk' Try.underlying22 (by kernel_rfl) rfl (by decide)
theorem Rd.one8 (w : World) (T : TypeId) (x : Value) {b : Nat} (hb : b = w.heap.size) : Rd (w.alloc (.cells #[x] T)) 1 (.slice (some ⟨b, 0, none⟩) 1 1) 1 [x] := by
  subst hb
  refine ⟨rfl, .inr ⟨_, _, _, rfl, fun j u hj => ?_⟩⟩
  rcases j with _ | j
  · simp at hj
    subst hj
    simp
  · simp at hj
set_option maxRecDepth 100000 in
set_option maxHeartbeats 4000000 in
theorem window_early (w0 : World) (l : List Rf) (v : Value) (h : RdF w0 v l) (ao : Option Addr) (n cap : Nat) (period most : Int)
    (hc : 20 < l.length ∨ (¬ 20 < l.length ∧ 300 < n) ∨ (¬ 20 < l.length ∧ ¬ 300 < n ∧ (¬ MayL l ∨ (MayL l ∧ (most < 1 ∨ (¬ most < 1 ∧ (most < l.length ∨ (¬ most < l.length ∧ (60 < most ∨ (¬ 60 < most ∧ (period = 0 ∨ (period ≠ 0 ∧ 1099511627776 < period)))))))))))) :
    Calls Try.prog 4 #[v, vu period, vi most, .slice ao n cap] w0 (TrueBelow w0) := by
  obtain ⟨bo, cap2, rfl⟩ := h.rd.len
  rcases hc with h1 | ⟨h1, h2⟩ | ⟨h1, h2, h3⟩
  · have h1' : (20 : Int) < (l.length : Int) := by omega
    clear h
    go_enter Try.func4, Try.ntmps4
    go_wp2_with (go_at_call 20; refine (knownF w0).mono ?_; rintro e w2 ⟨rfl, hS⟩)
    go_ret
    exact ⟨rfl, hS⟩
  · have h1' : ¬ (20 : Int) < (l.length : Int) := by omega
    have h2' : (300 : Int) < (n : Int) := by omega
    clear h
    go_enter Try.func4, Try.ntmps4
    go_wp2_with (go_at_call 20; refine (knownF w0).mono ?_; rintro e w2 ⟨rfl, hS⟩)
    go_ret
    exact ⟨rfl, hS⟩
  · have h1' : ¬ (20 : Int) < (l.length : Int) := by omega
    have h2' : ¬ (300 : Int) < (n : Int) := by omega
    have HM := Lib.hid (rmay l _ w0 h (by omega))
    clear h
    rcases h3 with h3 | ⟨h3, h4⟩
    · rw [mayB_no h3] at HM
      clear h3
      go_enter Try.func4, Try.ntmps4
      go_wp2_with (first
        | (go_at_call 19; refine HM.out.mono ?_; rintro e w1 ⟨rfl, hb⟩; have HB := Lib.hid hb; clear hb)
        | (go_at_call 20; refine (knownF _).mono ?_; rintro e w2 ⟨rfl, hS⟩))
      go_ret
      exact ⟨rfl, Below.then HB.out hS⟩
    · rw [mayB_yes h3] at HM
      clear h3
      rcases h4 with h4 | ⟨h4, h5 | ⟨h5, h6 | ⟨h6, h7 | ⟨h7, h8⟩⟩⟩⟩
      · go_enter Try.func4, Try.ntmps4
        go_wp2_with (first
          | (go_at_call 19; refine HM.out.mono ?_; rintro e w1 ⟨rfl, hb⟩; have HB := Lib.hid hb; clear hb)
          | (go_at_call 20; refine (knownF _).mono ?_; rintro e w2 ⟨rfl, hS⟩))
        go_ret
        exact ⟨rfl, Below.then HB.out hS⟩
      · go_enter Try.func4, Try.ntmps4
        go_wp2_with (first
          | (go_at_call 19; refine HM.out.mono ?_; rintro e w1 ⟨rfl, hb⟩; have HB := Lib.hid hb; clear hb)
          | (go_at_call 20; refine (knownF _).mono ?_; rintro e w2 ⟨rfl, hS⟩))
        go_ret
        exact ⟨rfl, Below.then HB.out hS⟩
      · go_enter Try.func4, Try.ntmps4
        go_wp2_with (first
          | (go_at_call 19; refine HM.out.mono ?_; rintro e w1 ⟨rfl, hb⟩; have HB := Lib.hid hb; clear hb)
          | (go_at_call 20; refine (knownF _).mono ?_; rintro e w2 ⟨rfl, hS⟩))
        go_ret
        exact ⟨rfl, Below.then HB.out hS⟩
      · subst h7
        go_enter Try.func4, Try.ntmps4
        go_wp2_with (first
          | (go_at_call 19; refine HM.out.mono ?_; rintro e w1 ⟨rfl, hb⟩; have HB := Lib.hid hb; clear hb)
          | (go_at_call 20; refine (knownF _).mono ?_; rintro e w2 ⟨rfl, hS⟩))
        go_ret
        exact ⟨rfl, Below.then HB.out hS⟩
      · have h9 : (period == 0) = false := beq_eq_false_iff_ne.2 h7
        go_enter Try.func4, Try.ntmps4
        go_wp2_with (first
          | (go_at_call 19; refine HM.out.mono ?_; rintro e w1 ⟨rfl, hb⟩; have HB := Lib.hid hb; clear hb)
          | (go_at_call 20; refine (knownF _).mono ?_; rintro e w2 ⟨rfl, hS⟩))
        go_ret
        exact ⟨rfl, Below.then HB.out hS⟩
end Go.Proofs.Ytcchfdoeacgapaa.Fi
