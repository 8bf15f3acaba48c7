/-
  Contracts of package num: Add, AddSat. No statement is proved here.
-/
import Derived.Test.YtknodagcmachiaaFill2
import Derived.Laws.Externs
namespace Go.Proofs.Ytknodagcmachiaa.Fi
open Go.RowKit
set_option linter.unusedVariables false

theorem run_A64_no (x y : Int) (hx : 0 ≤ x) (hy : 0 ≤ y) (h : x + y ≤ 18446744073709551615) (w : World) :
    (callFunc 99 #[vu x, vu y, vu 0]).run Try.prog w = .ok (.value (.tuple #[vu (x + y), vu 0])) w := by
  rw [run_callFunc_extern Try.func99 (by kernel_rfl) (by kernel_rfl) (by kernel_rfl) (e := add64Entry) (by kernel_rfl), run_add64 x y 0 hx hy (by omega) (by omega)]
  simp only [Result.andThen]
  rw [show (x + y + 0) % 18446744073709551616 = x + y by omega, show (x + y + 0) / 18446744073709551616 = 0 by omega]
theorem run_A64_yes (x y : Int) (hx : 0 ≤ x) (hy : 0 ≤ y) (hx2 : x ≤ 18446744073709551615) (hy2 : y ≤ 18446744073709551615) (h : 18446744073709551615 < x + y) (w : World) :
    (callFunc 99 #[vu x, vu y, vu 0]).run Try.prog w = .ok (.value (.tuple #[vu (x + y - 18446744073709551616), vu 1])) w := by
  rw [run_callFunc_extern Try.func99 (by kernel_rfl) (by kernel_rfl) (by kernel_rfl) (e := add64Entry) (by kernel_rfl), run_add64 x y 0 hx hy (by omega) (by omega)]
  simp only [Result.andThen]
  rw [show (x + y + 0) % 18446744073709551616 = x + y - 18446744073709551616 by omega, show (x + y + 0) / 18446744073709551616 = 1 by omega]

theorem sat_ (n b : Int) (f : Bool) (w : World) :
    Calls Try.prog 98 #[vu n, .bool f, vu b] w fun e w' => e = .returned (vu (if f then n else b)) ∧ w = w' := by
  cases f
  all_goals
    go_enter Try.func98, Try.ntmps98
    go_wp2
    go_ret
    exact ⟨rfl, rfl⟩
theorem nadd (a b : Int) (ha : U64 a) (hb : U64 b) (w : World) :
    Calls Try.prog 76 #[vu a, vu b] w fun e w' => e = .returned (addV (addP a b)) ∧ w = w' := by
  obtain ⟨a1, a2⟩ := ha
  obtain ⟨b1, b2⟩ := hb
  unfold addP
  by_cases h : 18446744073709551615 < a + b
  · rw [if_pos h]
    have hr := run_A64_yes a b a1 b1 a2 b2 h w
    clear h
    go_enter Try.func76, Try.ntmps76
    go_wp2_with (go_at_call 98; refine (sat_ _ _ _ _).mono ?_; rintro e w' ⟨rfl, rfl⟩)
    go_ret2
    exact ⟨rfl, rfl⟩
  · rw [if_neg h]
    have hr := run_A64_no a b a1 b1 (by omega) w
    clear h
    go_enter Try.func76, Try.ntmps76
    go_wp2_with (go_at_call 98; refine (sat_ _ _ _ _).mono ?_; rintro e w' ⟨rfl, rfl⟩)
    go_ret2
    exact ⟨rfl, rfl⟩
theorem naddSat (a b : Int) (ha : U64 a) (hb : U64 b) (w : World) :
    Calls Try.prog 75 #[vu a, vu b] w fun e w' => e = .returned (vu ((addP a b).getD 18446744073709551615)) ∧ w = w' := by
  have H := Lib.hid (nadd a b ha hb w)
  cases hp : addP a b with
  | none =>
    rw [hp] at H
    have H2 : Hid (Calls Try.prog 76 #[vu a, vu b] w fun e w' => e = .returned (.tuple #[vu 0, .bool false]) ∧ w = w') := H
    clear H hp
    go_enter Try.func75, Try.ntmps75
    go_wp2_with (first | (go_at_call 76; refine H2.out.mono ?_; rintro e w' ⟨rfl, rfl⟩) | (go_at_call 98; refine (sat_ _ _ _ _).mono ?_; rintro e w' ⟨rfl, rfl⟩))
    go_ret
    exact ⟨rfl, rfl⟩
  | some s =>
    rw [hp] at H
    have H2 : Hid (Calls Try.prog 76 #[vu a, vu b] w fun e w' => e = .returned (.tuple #[vu s, .bool true]) ∧ w = w') := H
    clear H hp
    go_enter Try.func75, Try.ntmps75
    go_wp2_with (first | (go_at_call 76; refine H2.out.mono ?_; rintro e w' ⟨rfl, rfl⟩) | (go_at_call 98; refine (sat_ _ _ _ _).mono ?_; rintro e w' ⟨rfl, rfl⟩))
    go_ret
    exact ⟨rfl, rfl⟩
end Go.Proofs.Ytknodagcmachiaa.Fi
