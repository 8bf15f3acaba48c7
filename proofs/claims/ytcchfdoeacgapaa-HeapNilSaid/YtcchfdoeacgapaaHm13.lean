/-
  Contracts of heap.Heap.All's comparison: cmp.Or, cmp.Compare, the closure. No statement is proved here.
-/
import Derived.Test.YtcchfdoeacgapaaHm3
import Derived.Sort.Grow
import Derived.Sort.Statements
import Derived.Lib.Small
namespace Go.Proofs.Ytcchfdoeacgapaa.Hm
open Go.RowKit Go.Sort
set_option linter.unusedVariables false

set_option maxRecDepth 100000 in
theorem isnan_u (x : Int) (w : World) : Calls Try.prog 80 #[vu x] w fun e w' => e = .returned (.bool false) ∧ w = w' := by
  go_enter Try.func80, Try.ntmps80
  go_wp2
  go_ret
  exact ⟨by simp, rfl⟩
set_option maxRecDepth 100000 in
theorem isnan_i (x : Int) (w : World) : Calls Try.prog 81 #[vi x] w fun e w' => e = .returned (.bool false) ∧ w = w' := by
  go_enter Try.func81, Try.ntmps81
  go_wp2
  go_ret
  exact ⟨by simp, rfl⟩
set_option maxRecDepth 100000 in
theorem compare_u (x y : Int) (w : World) : Calls Try.prog 65 #[vu x, vu y] w fun e w' => e = .returned (vi (Lib.compareInt x y)) ∧ w = w' := by
  go_enter Try.func65, Try.ntmps65
  go_wp2_with (go_at_call 80; refine (isnan_u _ _).mono ?_; rintro e w' ⟨rfl, rfl⟩)
  all_goals (go_ret; refine ⟨?_, rfl⟩; unfold Lib.compareInt; (repeat' split) <;> first | rfl | (exfalso; omega))
set_option maxRecDepth 100000 in
theorem compare_i (x y : Int) (w : World) : Calls Try.prog 66 #[vi x, vi y] w fun e w' => e = .returned (vi (Lib.compareInt x y)) ∧ w = w' := by
  go_enter Try.func66, Try.ntmps66
  go_wp2_with (go_at_call 81; refine (isnan_i _ _).mono ?_; rintro e w' ⟨rfl, rfl⟩)
  all_goals (go_ret; refine ⟨?_, rfl⟩; unfold Lib.compareInt; (repeat' split) <;> first | rfl | (exfalso; omega))

def orI (a b : Int) : Int := if a = 0 then b else a
set_option maxRecDepth 100000 in
set_option maxHeartbeats 1000000 in
theorem cmp_or (w : World) (p : Nat) (a b : Int) (h0 : w.cell? ⟨p, 0, none⟩ = some (vi a)) (h1 : w.cell? ⟨p, 1, none⟩ = some (vi b)) :
    Calls Try.prog 64 #[.slice (some ⟨p, 0, none⟩) 2 2] w fun e w' => e = .returned (vi (orI a b)) ∧ w = w' := by
  go_enter Try.func64, Try.ntmps64
  go_wp2
  go_loopw [8] (fun i wr => ∃ k : Nat, k ≤ 2 ∧ i = vi k ∧ (0 < k → a = 0) ∧ (1 < k → b = 0) ∧ w = wr) (fun i _ => 2 - (intOf i).toNat)
  case atStart => exact ⟨0, by omega, rfl, by omega, by omega, rfl⟩
  case round =>
    obtain ⟨k, hk, rfl, ha, hb, rfl⟩ := hrel
    rcases (show k = 0 ∨ k = 1 ∨ k = 2 by omega) with rfl | rfl | rfl
    · clear ha hb
      by_cases h : a = 0
      · subst h
        go_wp2
        go_roundw
        case rel => exact ⟨1, by omega, by go_num, by simp, by omega, trivial⟩
        case measure => (simp [intOf]; try omega)
      · have hd : (a == 0) = false := beq_eq_false_iff_ne.2 h
        go_wp2
        go_ret
        exact ⟨by rw [orI, if_neg h]; rfl, rfl⟩
    · obtain rfl := ha (by omega)
      clear ha hb
      by_cases h : b = 0
      · subst h
        go_wp2
        go_roundw
        case rel => exact ⟨2, by omega, by go_num, by simp, by simp, trivial⟩
        case measure => (simp [intOf]; try omega)
      · have hd : (b == 0) = false := beq_eq_false_iff_ne.2 h
        go_wp2
        go_ret
        exact ⟨by rw [orI, if_pos rfl]; rfl, rfl⟩
    · obtain rfl := ha (by omega)
      obtain rfl := hb (by omega)
      clear ha hb
      go_wp2
      go_ret
      exact ⟨by rw [orI, if_pos rfl]; rfl, rfl⟩
end Go.Proofs.Ytcchfdoeacgapaa.Hm
