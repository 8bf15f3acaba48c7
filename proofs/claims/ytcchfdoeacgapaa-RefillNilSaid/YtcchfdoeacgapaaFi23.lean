/-
  The walk of RefillNil. No statement is proved here.
-/
import Derived.Test.YtcchfdoeacgapaaFi22
namespace Go.Proofs.Ytcchfdoeacgapaa.Fi
open Go.RowKit
set_option linter.unusedVariables false

section
variable (w : World)
theorem room_nil (w : World) : Room (.slice none 0 0) ([] : List Rf).length := Sat.room ((Sat.start w).sloNil 44 2)
theorem n_sum : Calls Try.prog 27 #[.slice none 0 0] w fun e w' => e = .returned (.tuple #[vu 0, .bool true]) ∧ Below w.heap.size w w' := fsum_ [] _ w (RdF.nil w) (by simp)
theorem n_charge : Calls Try.prog 23 #[.slice none 0 0, vu 0, vu 1, vi 1] w fun e w' => e = .returned (.tuple #[.slice none 0 0, .bool false]) ∧ Below w.heap.size w w' :=
  charge_no (RdF.nil w) (by simp) ⟨by omega, by omega⟩ ⟨by omega, by omega⟩ fun h => h.th rfl
theorem n_give : Calls Try.prog 35 #[.slice none 0 0, vu 7, vu 3, vi 1] w fun e w' => ∃ v', e = .returned (.tuple #[v', vi 0]) ∧ Sat w (fiS v' [⟨3, 7⟩] * emp) w' := by
  refine (give_ (now := 7) (RdF.nil w) (room_nil w) (by simp) ⟨by omega, by omega⟩ ⟨by omega, by omega⟩ ⟨MayL.nil, by omega, by omega, by simp⟩).mono fun e w' hh => ?_
  rw [GiveOut, if_neg (by simp [tot]), if_neg (by simp)] at hh
  exact hh
theorem n_pull : Calls Try.prog 37 #[.slice none 0 0, vu 0, vu 1] w fun e w' => e = .returned (.tuple #[.slice none 0 0, vi 15]) ∧ Below w.heap.size w w' := by
  refine (pull_ (now := 0) (RdF.nil w) (room_nil w) (by simp) ⟨by omega, by omega⟩ ⟨MayL.nil, by omega⟩).mono fun e w' hh => ?_
  rw [PullOut, if_pos (show thereV ([] : List Rf) 0 < 1 by decide)] at hh
  exact hh
theorem n_next : Calls Try.prog 29 #[.slice none 0 0, vu 0] w fun e w' => e = .returned (.tuple #[vu 0, .bool false]) ∧ Below w.heap.size w w' := next_ [] 0 _ w (RdF.nil w) (by simp)
theorem n_over {w0 w : World} {F : Hp} {v : Value} (h : Sat w0 (fiS v [⟨3, 7⟩] * F) w) : Calls Try.prog 35 #[v, vu 7, vu 18446744073709551613, vi 1] w fun e w' => e = .returned (.tuple #[.slice none 0 0, vi 6]) ∧ Below w.heap.size w w' := by
  refine (give_ (now := 7) (Sat.fiR h (ok1 3 7 ⟨by omega, by omega⟩ ⟨by omega, by omega⟩)) (Sat.room h) (by simp) ⟨by omega, by omega⟩ ⟨by omega, by omega⟩ ⟨may1 3 7 (by omega) (by omega), by omega, by omega, by simp⟩).mono fun e w' hh => ?_
  rw [GiveOut, if_pos (by simp [tot])] at hh
  exact hh
theorem n_full {w0 w : World} {F : Hp} {v : Value} (h : Sat w0 (fiS v [⟨1, 9⟩] * F) w) : Calls Try.prog 35 #[v, vu 7, vu 1, vi 1] w fun e w' => e = .returned (.tuple #[.slice none 0 0, vi 3]) ∧ Below w.heap.size w w' := by
  refine (give_ (now := 7) (Sat.fiR h (ok1 1 9 ⟨by omega, by omega⟩ ⟨by omega, by omega⟩)) (Sat.room h) (by simp) ⟨by omega, by omega⟩ ⟨by omega, by omega⟩ ⟨may1 1 9 (by omega) (by omega), by omega, by omega, by simp⟩).mono fun e w' hh => ?_
  rw [GiveOut, if_neg (by simp [tot]), if_pos ⟨by rfl, by simp⟩] at hh
  exact hh
theorem n_may : Calls Try.prog 32 #[.slice none 0 0] w fun e w' => e = .returned (.bool true) ∧ Below w.heap.size w w' := by
  have := may_ [] _ w (RdF.nil w) (by simp)
  rw [mayB_yes MayL.nil] at this
  exact this
theorem n_due : Calls Try.prog 33 #[.slice none 0 0, vu 0] w fun e w' => ∃ ao cap, e = .returned (.slice ao 0 cap) ∧ Below w.heap.size w w' := by
  refine (due_yes 0 (RdF.nil w) (room_nil w) (by simp) MayL.nil).mono fun e w' hh => ?_
  obtain ⟨v', h1, h2⟩ := hh
  obtain ⟨ao, cap, rfl⟩ := h2.sloForm
  exact ⟨ao, cap, h1, h2.below⟩
end
set_option maxRecDepth 100000 in
set_option maxHeartbeats 4000000 in
theorem nil_walk (w0 : World) : Calls Try.prog 9 #[] w0 (TrueBelow w0) := by
  have HO : Hid (OkL [⟨3, 7⟩]) := Lib.hid (ok1 3 7 ⟨by omega, by omega⟩ ⟨by omega, by omega⟩)
  go_enter Try.func9, Try.ntmps9
  go_wp2_with (first
    | (go_at_call 27; refine (n_sum _).mono ?_; rintro e w1 ⟨rfl, hb⟩; have H1 := Lib.hid hb; clear hb)
    | (go_at_call 23; refine (n_charge _).mono ?_; rintro e w2 ⟨rfl, hb⟩; have H2 := Lib.hid (Below.then H1.out hb); clear hb)
    | (go_at_call 35; (with_reducible refine (n_give _).mono ?_); rintro e w3 ⟨va, rfl, hS⟩; have H3 := Lib.hid (Sat.base H2.out hS); clear hS)
    | (go_at_call 37; refine (n_pull _).mono ?_; rintro e w4 ⟨rfl, hb⟩; have H4 := Lib.hid (Sat.after H3.out hb); clear hb)
    | (go_at_call 29; refine (n_next _).mono ?_; rintro e w5 ⟨rfl, hb⟩; have H5 := Lib.hid (Sat.after H4.out hb); clear hb)
    | (go_at_call 35; (with_reducible refine (n_over H5.out).mono ?_); rintro e w6 ⟨rfl, hb⟩; have H6 := Lib.hid (Sat.after H5.out hb); clear hb; have H6b := Lib.hid (H6.out.sloOne (size := 2) 44 [vu 1, vu 9] rfl))
    | (go_at_call 35; refine (n_full H6b.out).mono ?_; rintro e w7 ⟨rfl, hb⟩; have H7 := Lib.hid (Sat.dropL (Sat.after H6b.out hb)); clear hb; have H7b := Lib.hid (H7.out.sloOne (size := 2) 44 [vu 3, vu 7] rfl))
    | (go_at_call 26; refine (same_ [⟨3, 7⟩] _ _ _ (Sat.fiR H7b.out.pull2 HO.out) (Sat.fiR H7b.out HO.out) (by simp)).mono ?_; rintro e w8 ⟨rfl, hb⟩; have H8 := Lib.hid (Sat.after H7b.out hb); clear hb)
    | (go_at_call 32; refine (n_may _).mono ?_; rintro e w9 ⟨rfl, hb⟩; have H9 := Lib.hid (Sat.after H8.out hb); clear hb)
    | (go_at_call 33; refine (n_due _).mono ?_; rintro e w10 ⟨ao, cap, rfl, hb⟩; have H10 := Lib.hid (Sat.after H9.out hb); clear hb)
    | (go_at_call 28; refine (new_zero 1 _).mono ?_; rintro e w' ⟨rfl, rfl⟩)
    | (go_at_call 20; refine (knownF _).mono ?_; rintro e w11 ⟨rfl, hb⟩; have H11 := Lib.hid (Sat.after H10.out hb); clear hb))
  go_ret
  exact ⟨rfl, H11.out.below⟩
end Go.Proofs.Ytcchfdoeacgapaa.Fi
