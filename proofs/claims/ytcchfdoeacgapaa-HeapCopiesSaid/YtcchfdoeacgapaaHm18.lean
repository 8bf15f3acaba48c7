/-
  Contracts of heap.Heap: Next, Remove. No statement is proved here.
-/
import Derived.Test.YtcchfdoeacgapaaHm11
namespace Go.Proofs.Ytcchfdoeacgapaa.Hm
open Go.RowKit
set_option linter.unusedVariables false

section
variable {w0 w : World} {F : Hp} {h : Nat} {p : Int} {A : List Tm}
set_option maxRecDepth 100000 in
theorem h_next_nil (hS : Sat w0 (heapP h [] p * F) w) :
    Calls Try.prog 47 #[vp h] w fun e w' => e = .returned (.tuple #[vu 0, .bool false]) ∧ w = w' := by
  have HL : Hid (Calls Try.prog 18 #[vp h] w fun e w' => e = .returned (vi 0) ∧ w = w') := Lib.hid (h_len hS)
  clear hS
  go_enter Try.func47, Try.ntmps47
  go_wp2_with (go_at_call 18; refine HL.out.mono ?_; rintro e w' ⟨rfl, rfl⟩)
  go_ret2
  exact ⟨rfl, rfl⟩
set_option maxRecDepth 100000 in
theorem h_next (hS : Sat w0 (heapP h A p * F) w) (hA : A ≠ []) (hn : A.length ≤ 100000) :
    Calls Try.prog 47 #[vp h] w fun e w' => e = .returned (.tuple #[vu (gt A 0).1, .bool true]) ∧ w = w' := by
  have HL := Lib.hid (h_len hS)
  obtain ⟨g, cap, b, n, M, hl, h1, h2, h3, hS⟩ := heapP_some hS hA
  rw [hl] at HL
  have c0 := hS.cell 0 rfl
  have t0 : w.cell? ⟨g, 0, none⟩ = some (vu (gt A 0).1) := by simpa using (tlCell hS.pull2 0 (by omega)).1
  have hz : ¬ ((n + 1 : Nat) : Int) = 0 := by omega
  have hz2 : (0 : Int) < ((n + 1 : Nat) : Int) := by omega
  have hz3 : ((n : Int) + 1 == 0) = false := by simp; omega
  clear hS h1 h2 h3 hl
  go_enter Try.func47, Try.ntmps47
  go_wp2_with (go_at_call 18; refine HL.out.mono ?_; rintro e w' ⟨rfl, rfl⟩)
  go_ret2
  exact ⟨rfl, rfl⟩
set_option maxRecDepth 100000 in
theorem h_remove_no (hS : Sat w0 (heapP h A p * F) w) (id : Int) (hh : hasT A id = false) :
    Calls Try.prog 48 #[vp h, vi id] w fun e w' => e = .returned (.bool false) ∧ w = w' := by
  have HL := Lib.hid (h_has hS id)
  rw [hh] at HL
  clear hS
  go_enter Try.func48, Try.ntmps48
  go_wp2_with (go_at_call 42; refine HL.out.mono ?_; rintro e w' ⟨rfl, rfl⟩)
  go_ret
  exact ⟨rfl, rfl⟩
set_option maxRecDepth 100000 in
set_option maxHeartbeats 1000000 in
theorem h_remove (hS : Sat w0 (heapP h A p * F) w) (id : Int) (hh : hasT A id = true) (hn : A.length ≤ 100000) :
    Calls Try.prog 48 #[vp h, vi id] w fun e w' => e = .returned (.bool true) ∧ ∃ t A', t.2.1 = id ∧ (t :: A').Perm A ∧ Sat w0 (heapP h A' p * F) w' := by
  have HL := Lib.hid (h_has hS id)
  rw [hh] at HL
  obtain ⟨i, hi, hid⟩ := hasT_iff.1 hh
  have hA : A ≠ [] := fun e => by rw [e] at hi; simp at hi
  obtain ⟨g, cap, b, n, M, hl, h1, h2, h3, hS⟩ := heapP_some hS hA
  have c0 := hS.cell 0 rfl
  have c1 := hS.cell 1 rfl
  have hlk := run_look (P := Try.prog) Try.underlying77 Try.underlying3 (by kernel_rfl) hS.pull3 id
  rw [show (M id).getD 0 = (i : Int) by rw [← hid, h3.1 i hi]; rfl] at hlk
  have HD := Lib.hid (h_drop hS (by omega) i (by omega) h1 h2 h3)
  have HI := Lib.hid hid
  clear hS h1 h2 h3 hl hh hid
  go_enter Try.func48, Try.ntmps48
  go_wp2_with (first
    | (go_at_call 42; refine HL.out.mono ?_; rintro e w' ⟨rfl, rfl⟩)
    | (go_at_call 50; refine HD.out.mono ?_; rintro e w5 ⟨rfl, A', M', hO, hN, hM, hp, hS5⟩; have H5 := Lib.hid hS5; clear hS5))
  go_ret
  exact ⟨rfl, gt A i, A', HI.out, hp, heapP_shut' hO hN hM H5.out⟩
end
end Go.Proofs.Ytcchfdoeacgapaa.Hm
