/-
  slices.SortFunc and slices.Clone at timers, where there are none. No statement is proved here.
-/
import Derived.Test.YtcchfdoeacgapaaHm15
import Derived.Test.YtcchfdoeacgapaaHm9
namespace Go.Proofs.Ytcchfdoeacgapaa.Hm
open Go.RowKit Go.Sort
set_option linter.unusedVariables false

section
variable {w0 w : World} {F : Hp}
set_option maxRecDepth 100000 in
theorem ins_none (w : World) (f : Value) : Calls Try.prog 84 #[.slice none 0 0, vi 0, vi 0, f] w fun e w' => e = .returned (.tuple #[]) ∧ w = w' := by
  go_enter Try.func84, Try.ntmps84
  go_wp2
  go_loopw [8] (fun i wr => i = vi 1 ∧ w = wr) (fun i _ => 0)
  case atStart => exact ⟨rfl, rfl⟩
  case round =>
    obtain ⟨rfl, rfl⟩ := hrel
    go_wp2
    go_end0
    exact ⟨rfl, rfl⟩
set_option maxRecDepth 100000 in
set_option maxHeartbeats 2000000 in
theorem pdq_none (w : World) (f : Value) : Calls Try.prog 78 #[.slice none 0 0, vi 0, vi 0, vi 0, f] w fun e w' => e = .returned (.tuple #[]) ∧ w = w' := by
  go_enter Try.func78, Try.ntmps78
  go_wp2
  go_loopw [1, 2, 3] (fun a b l wr => a = vi 0 ∧ b = vi 0 ∧ l = vi 0 ∧ w = wr) (fun a _ _ _ => 0)
  case atStart => exact ⟨rfl, rfl, rfl, rfl⟩
  case round =>
    obtain ⟨rfl, rfl, rfl, rfl⟩ := hrel
    go_wp2_with (go_at_call 84; refine (ins_none _ _).mono ?_; rintro e w1 ⟨rfl, rfl⟩)
    (try simp only [Exit.inBlock, Exit.then]); refine bodyPost_ret (results_none rfl _ _ _) rfl ?_
    exact ⟨rfl, rfl⟩
set_option maxRecDepth 100000 in
theorem sort_none (w : World) (f : Value) : Calls Try.prog 62 #[.slice none 0 0, f] w fun e w' => e = .returned (.tuple #[]) ∧ w = w' := by
  have hl : ∀ w, Calls Try.prog 79 #[vu 0] w fun e w' => e = .returned (vi 0) ∧ w' = w := fun w =>
    Any.bits_Len (SlLaysF0.n15.bits (P := Try.prog) (ρ := Try.sortTm_ren) { Try.sortTm with }) (0 : Int) w (by omega) (by omega)
  go_enter Try.func62, Try.ntmps62
  go_wp2_with (first | (go_at_call 79; refine (hl _).mono ?_; rintro e w1 ⟨rfl, rfl⟩) | (go_at_call 78; refine (pdq_none _ _).mono ?_; rintro e w1 ⟨rfl, rfl⟩))
  go_end0
  exact ⟨rfl, rfl⟩

theorem tms_one (A : List Tm) : ∀ u ∈ tmsV A, u.oneCell' = true := by
  intro u hu
  obtain ⟨t, _, ht⟩ := List.mem_flatMap.1 hu
  simp [tmV] at ht
  rcases ht with rfl | rfl | rfl <;> rfl
set_option maxRecDepth 100000 in
theorem clone_none (w : World) : Calls Try.prog 61 #[.slice none 0 0] w fun e w' => e = .returned (.slice none 0 0) ∧ w = w' := by
  have hn : ∀ w : World, (binOp .eql 76 (.slice none 0 0) (.slice none 0 0)).run Try.prog w = .ok (.bool true) w := fun w => rfl
  go_enter Try.func61, Try.ntmps61
  go_wp2
  go_ret
  exact ⟨rfl, rfl⟩
set_option maxRecDepth 100000 in
theorem clone_ {v : Value} {A : List Tm} (h : Sat w0 (sl 82 3 v A.length (tmsV A) * F) w) (hl : A.length ≤ 4096) :
    Calls Try.prog 61 #[v] w fun e w' => ∃ u, e = .returned u ∧ Sat w0 (sl 82 3 u A.length (tmsV A) * (sl 82 3 v A.length (tmsV A) * F)) w' := by
  rcases h.slE.2 with ⟨rfl, h0, _⟩ | ⟨g, c, cur, rfl, _⟩
  · refine (clone_none w).mono ?_
    rintro e w' ⟨rfl, rfl⟩
    have : A = [] := List.eq_nil_of_length_eq_zero h0
    subst this
    exact ⟨_, rfl, h.addNil _ _⟩
  · have hone := Lib.hid (tms_one A)
    have hn := @Lib.run_eql_slice_nil Try.prog
    have H := Lib.hid h
    clear h
    go_enter Try.func61, Try.ntmps61
    go_wp2_with (at_builtin; refine wpList_append_sl Etm rfl (.tmp 5) (.tmp 6) rfl (by rfl) (H.out.sl0 82 3) (by rfl) ((H.out.alloc' _).rd) hone.out (by unfold maxLen; omega) (by omega) ?_; intro ao1 cap1 w1 hS1; simp only [Nat.zero_add, List.nil_append] at hS1)
    go_ret
    exact ⟨_, rfl, hS1⟩
end
end Go.Proofs.Ytcchfdoeacgapaa.Hm
