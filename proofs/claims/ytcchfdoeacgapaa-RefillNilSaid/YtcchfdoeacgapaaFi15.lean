/-
  The walk of RefillBack. No statement is proved here.
-/
import Derived.Test.YtcchfdoeacgapaaFi14
namespace Go.Proofs.Ytcchfdoeacgapaa.Fi
open Go.RowKit
set_option linter.unusedVariables false

set_option maxRecDepth 100000 in
set_option maxHeartbeats 2000000 in
theorem back_early (w0 : World) (budget now period most : Int) (h : 300 < budget ∨ (¬ 300 < budget ∧ 1099511627776 < now) ∨ (¬ 300 < budget ∧ ¬ 1099511627776 < now ∧ period < 1) ∨ (¬ 300 < budget ∧ ¬ 1099511627776 < now ∧ ¬ period < 1 ∧ 1099511627776 < period) ∨ (¬ 300 < budget ∧ ¬ 1099511627776 < now ∧ ¬ period < 1 ∧ ¬ 1099511627776 < period ∧ most < 2) ∨ (¬ 300 < budget ∧ ¬ 1099511627776 < now ∧ ¬ period < 1 ∧ ¬ 1099511627776 < period ∧ ¬ most < 2 ∧ 60 < most)) :
    Calls Try.prog 6 #[vu budget, vu now, vu period, vi most] w0 (TrueBelow w0) := by
  rcases h with h1 | ⟨h1, h2⟩ | ⟨h1, h2, h3⟩ | ⟨h1, h2, h3, h4⟩ | ⟨h1, h2, h3, h4, h5⟩ | ⟨h1, h2, h3, h4, h5, h6⟩
  all_goals
    go_enter Try.func6, Try.ntmps6
    go_wp2_with (go_at_call 20; refine (knownF w0).mono ?_; rintro e w2 ⟨rfl, hS⟩)
    go_ret
    exact ⟨rfl, hS⟩

set_option maxRecDepth 100000 in
set_option maxHeartbeats 4000000 in
theorem back_core (w0 : World) (budget now period most : Int) (h : BkOk budget now period most) :
    Calls Try.prog 6 #[vu budget, vu now, vu period, vi most] w0 (TrueBelow w0) := by
  obtain ⟨n, hn⟩ : ∃ n : Nat, (n : Int) = budget := ⟨budget.toNat, by have := h.b; omega⟩
  have hUn : U64 now := ⟨by have := h.n; omega, by have := h.n2; omega⟩
  have hUp : U64 period := ⟨by have := h.p; omega, by have := h.p2; omega⟩
  have h1 : ¬ 300 < budget := by have := h.b2; omega
  have h2 : ¬ 1099511627776 < now := by have := h.n2; omega
  have h3 : ¬ period < 1 := by have := h.p; omega
  have h4 : ¬ 1099511627776 < period := by have := h.p2; omega
  have h5 : ¬ most < 2 := by have := h.m; omega
  have h6 : ¬ 60 < most := by have := h.m2; omega
  have h7 : 0 ≤ now := h.n
  have hw : IntKind.u64.wrap (now + period) = now + period := U64.wrap ⟨by omega, by omega⟩
  have hw2 : IntKind.u64.wrap (now + period - 1) = now + period - 1 := U64.wrap ⟨by omega, by omega⟩
  have HOK : Hid (∀ k : Nat, (k : Int) ≤ budget → OkL (backL budget now period k) ∧ MayL (backL budget now period k) ∧ (backL budget now period k).length ≤ 2) := Lib.hid fun k hk => backL_ok h hk
  have HCH : Hid (∀ (k : Nat), (k : Int) < budget → ∀ (w : World) (v : Value), RdF w v (backL budget now period k) → Room v (backL budget now period k).length → Calls Try.prog 23 #[v, vu now, vu period, vi most] w fun e w' => ∃ v', e = .returned (.tuple #[v', .bool true]) ∧ Sat w (fiS v' (backL budget now period (k + 1)) * emp) w') := Lib.hid fun k hk w v r1 r2 => by
    have hl := (backL_ok h (i := k) (by omega)).2.2
    obtain ⟨b1, b2⟩ := backL_ch h hk
    have := charge_yes r1 r2 (by omega) hUn hUp b1
    rw [b2] at this
    exact this
  have hln := (backL_ok h (i := n) (by omega)).2.2
  have HNO : Hid (∀ (w : World) (v : Value), RdF w v (backL budget now period n) → Calls Try.prog 23 #[v, vu now, vu period, vi most] w fun e w' => e = .returned (.tuple #[.slice none 0 0, .bool false]) ∧ Below w.heap.size w w') := Lib.hid fun w v r1 => charge_no r1 (by omega) hUn hUp (back_no h hn)
  obtain ⟨x, b, HNX, hb1, hb2⟩ : ∃ x b, Hid (∀ (w : World) (v : Value), RdF w v (backL budget now period n) → Calls Try.prog 29 #[v, vu now] w fun e w' => e = .returned (.tuple #[vu x, .bool b]) ∧ Below w.heap.size w w') ∧ decide (0 < budget) = b ∧ (b = true → x = now + period) := by
    have hnx := back_next h hn
    by_cases hb : budget = 0
    · rw [if_pos hb] at hnx
      refine ⟨0, false, Lib.hid fun w v r1 => ?_, decide_eq_false (by omega), by simp⟩
      have := next_ _ now v w r1 (by omega)
      rw [hnx] at this
      exact this
    · rw [if_neg hb] at hnx
      refine ⟨now + period, true, Lib.hid fun w v r1 => ?_, decide_eq_true (by omega), by simp⟩
      have := next_ _ now v w r1 (by omega)
      rw [hnx] at this
      exact this
  have HT1 : Hid (∀ (w : World) (v : Value), RdF w v (backL budget now period n) → Calls Try.prog 30 #[v, vu (now + period - 1)] w fun e w' => e = .returned (vu 0) ∧ Below w.heap.size w w') := Lib.hid fun w v r1 => by
    have := there_ _ (now + period - 1) v w r1 (by omega)
    rw [(back_there h hn).1] at this
    exact this
  have HT2 : Hid (∀ (w : World) (v : Value), RdF w v (backL budget now period n) → Calls Try.prog 30 #[v, vu (now + period)] w fun e w' => e = .returned (vu budget) ∧ Below w.heap.size w w') := Lib.hid fun w v r1 => by
    have := there_ _ (now + period) v w r1 (by omega)
    rw [(back_there h hn).2] at this
    exact this
  have HNEW : Hid (Calls Try.prog 28 #[vu budget, vu now] w0 fun e w' => ∃ v', e = .returned v' ∧ Sat w0 (fiS v' (backL budget now period 0) * emp) w') := Lib.hid (by
    by_cases hb : budget = 0
    · subst hb
      refine (new_zero now w0).mono ?_
      rintro e w ⟨rfl, rfl⟩
      exact ⟨_, rfl, by rw [backL_zero]; exact (Sat.start _).sloNil 44 2⟩
    · rw [backL_0 hb]
      exact new_pos budget now hb w0)
  generalize hB : backL budget now period = B at *
  clear h hUn hUp hln
  go_enter Try.func6, Try.ntmps6
  go_wp2_with (go_at_call 28; refine HNEW.out.mono ?_; rintro e w1 ⟨vl, rfl, hS⟩; have H1 := Lib.hid hS; clear hS)
  go_loopw [9, 10] (fun v i wr => ∃ (k : Nat) (G : Hp), k ≤ n ∧ i = vu k ∧ Sat w0 (fiS v (B k) * G) wr) (fun _ i _ => n - (intOf i).toNat)
  case atStart => exact ⟨0, emp, Nat.zero_le _, rfl, H1.out⟩
  case round =>
    obtain ⟨k, G, hk, rfl, hS⟩ := hrel
    by_cases hlt : k < n
    · have hki : (k : Int) < budget := by omega
      have hwk : IntKind.u64.wrap ((k : Int) + 1) = (k : Int) + 1 := U64.wrap ⟨by omega, by omega⟩
      have HS := Lib.hid hS
      clear hS
      go_wp2_with (go_at_call 23; refine (HCH.out k hki _ _ (Sat.fiR HS.out (HOK.out k (by omega)).1) (Sat.room HS.out)).mono ?_; rintro e w2 ⟨va, rfl, hS⟩; have H2 := Lib.hid (Sat.link HS.out hS); clear hS)
      go_roundw
      case rel => exact ⟨k + 1, _, by omega, by simp, H2.out⟩
      case measure => (simp [intOf]; try omega)
    · obtain rfl : k = n := by omega
      have hki : ¬ (k : Int) < budget := by omega
      have HS := Lib.hid hS
      have HOB := Lib.hid (HOK.out k (by omega)).1
      clear hS
      cases b with
      | true =>
        have hx := hb2 rfl
        subst hx
        clear hb2
        go_wp2_with (first
          | (go_at_call 23; refine (HNO.out _ _ (Sat.fiR HS.out HOB.out)).mono ?_; rintro e w2 ⟨rfl, hb⟩; have H2 := Lib.hid (Sat.after HS.out hb); clear hb)
          | (go_at_call 29; refine (HNX.out _ _ (Sat.fiR H2.out HOB.out)).mono ?_; rintro e w3 ⟨rfl, hb⟩; have H3 := Lib.hid (Sat.after H2.out hb); clear hb)
          | (go_at_call 30; (with_reducible refine (HT1.out _ _ (Sat.fiR H3.out HOB.out)).mono ?_); rintro e w4 ⟨rfl, hb⟩; have H4 := Lib.hid (Sat.after H3.out hb); clear hb)
          | (go_at_call 30; (with_reducible refine (HT2.out _ _ (Sat.fiR H4.out HOB.out)).mono ?_); rintro e w5 ⟨rfl, hb⟩; have H5 := Lib.hid (Sat.after H4.out hb); clear hb)
          | (go_at_call 20; refine (knownF _).mono ?_; rintro e w6 ⟨rfl, hb⟩; have H6 := Lib.hid (Sat.after H5.out hb); clear hb))
        go_ret
        exact ⟨rfl, H6.out.below⟩
      | false =>
        clear hb2
        go_wp2_with (first
          | (go_at_call 23; refine (HNO.out _ _ (Sat.fiR HS.out HOB.out)).mono ?_; rintro e w2 ⟨rfl, hb⟩; have H2 := Lib.hid (Sat.after HS.out hb); clear hb)
          | (go_at_call 29; refine (HNX.out _ _ (Sat.fiR H2.out HOB.out)).mono ?_; rintro e w3 ⟨rfl, hb⟩; have H3 := Lib.hid (Sat.after H2.out hb); clear hb)
          | (go_at_call 30; (with_reducible refine (HT1.out _ _ (Sat.fiR H3.out HOB.out)).mono ?_); rintro e w4 ⟨rfl, hb⟩; have H4 := Lib.hid (Sat.after H3.out hb); clear hb)
          | (go_at_call 30; (with_reducible refine (HT2.out _ _ (Sat.fiR H4.out HOB.out)).mono ?_); rintro e w5 ⟨rfl, hb⟩; have H5 := Lib.hid (Sat.after H4.out hb); clear hb)
          | (go_at_call 20; refine (knownF _).mono ?_; rintro e w6 ⟨rfl, hb⟩; have H6 := Lib.hid (Sat.after H5.out hb); clear hb))
        go_ret
        exact ⟨rfl, H6.out.below⟩
theorem back_row (w0 : World) (budget : Int) (wb : (Lit.int .u64 budget).wf = true) (now : Int) (wn : (Lit.int .u64 now).wf = true) (period : Int) (wp : (Lit.int .u64 period).wf = true) (most : Int) (wm : (Lit.int .i64 most).wf = true) :
    Calls Try.prog 6 #[vu budget, vu now, vu period, vi most] w0 (TrueBelow w0) := by
  obtain ⟨b1, b2⟩ := wf_U64 wb
  obtain ⟨n1, n2⟩ := wf_U64 wn
  by_cases h : BkOk budget now period most
  · exact back_core w0 budget now period most h
  · refine back_early w0 budget now period most ?_
    by_cases h1 : 300 < budget
    · exact .inl h1
    · by_cases h2 : 1099511627776 < now
      · exact .inr (.inl ⟨h1, h2⟩)
      · by_cases h3 : period < 1
        · exact .inr (.inr (.inl ⟨h1, h2, h3⟩))
        · by_cases h4 : 1099511627776 < period
          · exact .inr (.inr (.inr (.inl ⟨h1, h2, h3, h4⟩)))
          · by_cases h5 : most < 2
            · exact .inr (.inr (.inr (.inr (.inl ⟨h1, h2, h3, h4, h5⟩))))
            · refine .inr (.inr (.inr (.inr (.inr ⟨h1, h2, h3, h4, h5, ?_⟩))))
              by_cases h6 : 60 < most
              · exact h6
              · exact absurd ⟨b1, by omega, n1, by omega, by omega, by omega, by omega, by omega⟩ h
end Go.Proofs.Ytcchfdoeacgapaa.Fi
