/-
  Chapter 16: a table of goroutines: New, none, Make, Get. No statement is proved here.
-/
import Derived.Test.YtffjckdaekamgaaGt2
import Derived.Test.YtffjckdaekamgaaGa3
import Derived.Test.YtffjckdaekamgaaGa4
import Derived.Test.YtffjckdaekamgaaGa5
namespace Go.Proofs.Ytffjckdaekamgaa.Gt
open Go.RowKit Ag
set_option linter.unusedVariables false

abbrev gtB (h p : Nat) : Hp := pc h 83 [vp p]
section
variable {w0 w : World} {F : Hp} {h p : Nat} {ps : List Pl} {free : List Nat}
theorem gt_none (hS : Sat w0 (gtB h p * F) w) : Calls Try.prog 30 #[vp h] w fun e w' => e = .returned (.bool false) ∧ w = w' := by
  have c0 := hS.cell 0 rfl
  clear hS
  go_enter Try.func30, Try.ntmps30
  go_wp2
  go_ret
  exact ⟨rfl, rfl⟩
theorem gt_new_no (n : Int) (hn : n < 1 ∨ 64 < n) (w : World) : Calls Try.prog 15 #[vi n] w fun e w' => e = .returned (.tuple #[.pointer none, vi 2]) ∧ w = w' := by
  by_cases h1 : n < 1
  · clear hn
    go_enter Try.func15, Try.ntmps15
    go_wp2
    go_ret2
    exact ⟨rfl, rfl⟩
  · have h2 : 64 < n := by omega
    clear hn
    go_enter Try.func15, Try.ntmps15
    go_wp2
    go_ret2
    exact ⟨rfl, rfl⟩
theorem gt_new (n : Nat) (hn : 1 ≤ n) (hn' : n ≤ 64) (hS : Sat w0 F w) : Calls Try.prog 15 #[vi n] w fun e w' => ∃ h p, e = .returned (.tuple #[vp h, vi 0]) ∧ Sat w0 (gtB h p * (tblP p (List.replicate n ⟨1, false, false, ez⟩) (newF n n) * F)) w' := by
  have HN := Lib.hid (new_ n 1 hn (by omega) (by omega) (by omega) hS)
  have h1 : ¬ ((n : Int) < 1) := by omega
  have h2 : ¬ (64 < (n : Int)) := by omega
  clear hS
  go_enter Try.func15, Try.ntmps15
  go_wp2_with (go_at_call 32; refine HN.out.mono ?_; rintro e w1 ⟨p, rfl, hS1⟩; have H1 := Lib.hid hS1; clear hS1)
  go_ret2
  exact ⟨_, p, rfl, H1.out.alloc (.cells #[vp p] 83)⟩
end
end Go.Proofs.Ytffjckdaekamgaa.Gt
