/-
  The walk of HeapNil. No statement is proved here.
-/
import Derived.Test.YtcchfdoeacgapaaHm29
namespace Go.Proofs.Ytcchfdoeacgapaa.Hm
open Go.RowKit
set_option linter.unusedVariables false

section
variable {w0 w : World} {F : Hp} {h q o r k n : Nat} {A B S S2 : List Tm} {p p2 : Int} {L : List Tr}
abbrev pn : Value := .pointer none
theorem z_len (w : World) : Calls Try.prog 18 #[pn] w fun e w' => e = .returned (vi 0) ∧ w = w' := by
  go_enter Try.func18, Try.ntmps18
  go_wp2
  go_ret
  exact ⟨rfl, rfl⟩
theorem z_has (w : World) (id : Int) : Calls Try.prog 42 #[pn, vi id] w fun e w' => e = .returned (.bool false) ∧ w = w' := by
  go_enter Try.func42, Try.ntmps42
  go_wp2
  go_ret
  exact ⟨rfl, rfl⟩
theorem z_pop (w : World) (a : Int) : Calls Try.prog 17 #[pn, vu a] w fun e w' => e = .returned (.tuple #[vi 0, .bool false]) ∧ w = w' := by
  go_enter Try.func17, Try.ntmps17
  go_wp2_with (go_at_call 18; refine (z_len _).mono ?_; rintro e w' ⟨rfl, rfl⟩)
  go_ret2
  exact ⟨rfl, rfl⟩
theorem z_next (w : World) : Calls Try.prog 47 #[pn] w fun e w' => e = .returned (.tuple #[vu 0, .bool false]) ∧ w = w' := by
  go_enter Try.func47, Try.ntmps47
  go_wp2_with (go_at_call 18; refine (z_len _).mono ?_; rintro e w' ⟨rfl, rfl⟩)
  go_ret2
  exact ⟨rfl, rfl⟩
theorem z_put (w : World) (a id : Int) : Calls Try.prog 16 #[pn, vu a, vi id] w fun e w' => e = .returned (vi 1) ∧ w = w' := by
  go_enter Try.func16, Try.ntmps16
  go_wp2
  go_ret
  exact ⟨rfl, rfl⟩
theorem z_remove (w : World) (id : Int) : Calls Try.prog 48 #[pn, vi id] w fun e w' => e = .returned (.bool false) ∧ w = w' := by
  go_enter Try.func48, Try.ntmps48
  go_wp2_with (go_at_call 42; refine (z_has _ _).mono ?_; rintro e w' ⟨rfl, rfl⟩)
  go_ret
  exact ⟨rfl, rfl⟩
theorem z_copy (w : World) : Calls Try.prog 44 #[pn] w fun e w' => e = .returned pn ∧ w = w' := by
  go_enter Try.func44, Try.ntmps44
  go_wp2
  go_ret
  exact ⟨rfl, rfl⟩
theorem equal_nil (w : World) : Calls Try.prog 69 #[.slice none 0 0, .slice none 0 0] w fun e w' => e = .returned (.bool true) ∧ ∃ N, w' = w.drewN N := by
  have h : RdT w (.slice none 0 0) [] := Rd.nil w 2
  have := equal4 [] [] _ _ w h h (by simp) (by simp)
  rwa [show decide (([] : List Tr) = []) = true from rfl] at this
theorem z_same (w : World) : Calls Try.prog 46 #[pn, pn] w fun e w' => e = .returned (.bool true) ∧ ∃ N, w' = w.drewN N := by
  go_enter Try.func46, Try.ntmps46
  go_wp2_with (first
    | (go_at_call 40; refine (all_nil _).mono ?_; rintro e w' ⟨rfl, rfl⟩)
    | (go_at_call 69; refine (equal_nil _).mono ?_; rintro e w3 ⟨rfl, N, rfl⟩))
  go_ret
  exact ⟨rfl, N, rfl⟩
/-- nil beside a heap. -/
theorem z_same_l (hS : Sat w0 (heapP h [] p * F) w) : Calls Try.prog 46 #[pn, vp h] w fun e w' => e = .returned (.bool true) ∧ Sat w0 (heapP h [] p * F) w' := by
  have HA := Lib.hid (all_ hS (by simp))
  clear hS
  go_enter Try.func46, Try.ntmps46
  go_wp2_with (first
    | (go_at_call 40; (with_reducible refine (all_nil _).mono ?_); rintro e w' ⟨rfl, rfl⟩)
    | (go_at_call 40; refine HA.out.mono ?_; rintro e w1 ⟨u, S', rfl, hp, hs, hS1⟩; obtain rfl := List.perm_nil.1 hp; have HE := Lib.hid (equal4 [] [] (.slice none 0 0) u w1 (Rd.nil w1 2) hS1.rd (by simp) (by simp)); have H1 := Lib.hid hS1; clear hS1 hp hs)
    | (go_at_call 69; refine HE.out.mono ?_; rintro e w3 ⟨rfl, N, rfl⟩))
  go_ret
  exact ⟨rfl, (H1.out.drewN N).dropL⟩
/-- A heap beside nil. -/
theorem z_same_r (hI : Inv A p S) (hA : A.length ≤ 4096) (hS : Sat w0 (heapP h A p * F) w) : Calls Try.prog 46 #[vp h, pn] w fun e w' => e = .returned (.bool (decide (S.map trOf = []))) ∧ Sat w0 (heapP h A p * F) w' := by
  have HA : Hid (Calls Try.prog 40 #[vp h] w fun e w' => ∃ u, e = .returned u ∧ Sat w0 (sl 68 2 u (S.map trOf).length (trsV (S.map trOf)) * (heapP h A p * F)) w') := Lib.hid (by
    refine (all_ hS hA).mono ?_
    rintro e w' ⟨u, S', rfl, hp, hs, h'⟩
    obtain rfl := hI.sorted hp hs
    rw [List.length_map]
    exact ⟨u, rfl, h'⟩)
  have hl : (S.map trOf).length ≤ 4096 := by rw [← hI.len]; exact hA
  clear hS hI
  generalize S.map trOf = X at *
  go_enter Try.func46, Try.ntmps46
  go_wp2_with (first
    | (go_at_call 40; (with_reducible refine HA.out.mono ?_); rintro e w1 ⟨u, rfl, hS1⟩; have HE := Lib.hid (equal4 X [] u (.slice none 0 0) w1 hS1.rd (Rd.nil w1 2) (by omega) (by simp)); have H1 := Lib.hid hS1; clear hS1)
    | (go_at_call 40; refine (all_nil _).mono ?_; rintro e w' ⟨rfl, rfl⟩)
    | (go_at_call 69; refine HE.out.mono ?_; rintro e w3 ⟨rfl, N, rfl⟩))
  go_ret
  exact ⟨rfl, (H1.out.drewN N).dropL⟩
theorem has1 : hasT [((3 : Int), (4 : Int), (0 : Int))] 4 = true := rfl
theorem inv1 {a id : Int} (hp : A.Perm [(a, id, p)]) : Inv A (p + 1) [(a, id, p)] :=
  ⟨hp, List.pairwise_singleton _ _, fun t ht => by rw [List.mem_singleton.1 ht]; show p < p + 1; omega⟩
set_option maxRecDepth 100000 in
set_option maxHeartbeats 8000000 in
theorem nil4_row (w0 : World) : Calls Try.prog 13 #[] w0 (TrueBelow w0) := by
  have h0 : Sat w0 (hpB w0.heap.size (.slice none 0 0) (.map none) 0 * emp) (w0.alloc (.cells #[.slice none 0 0, .map none, vi 0] 79)) := (Sat.start w0).alloc (.cells #[.slice none 0 0, .map none, vi 0] 79)
  have h1 : Sat w0 (heapP w0.heap.size [] 0 * emp) (w0.alloc (.cells #[.slice none 0 0, .map none, vi 0] 79)) := by
    refine heapP_shut (vl := .slice none 0 0) (vm := .map none) (M := fun _ => none) (fun j _ hj => by simp at hj) (fun a b ha => by simp at ha) ⟨fun j hj => by simp at hj, fun k hk => by simp at hk⟩ ?_
    exact ((h0.mapNil).addNil 82 3).cast (by ac_rfl)
  have H1 := Lib.hid h1
  clear h0 h1
  go_enter Try.func13, Try.ntmps13
  go_wp2_with fail
  generalize hb : w0.heap.size = b at *
  generalize hw : w0.alloc (.cells #[.slice none 0 0, .map none, vi 0] 79) = w1 at *
  clear hw
  go_wp2_with (first
    | (go_at_call 17; refine (z_pop _ _).mono ?_; rintro e w' ⟨rfl, rfl⟩)
    | (go_at_call 47; refine (z_next _).mono ?_; rintro e w' ⟨rfl, rfl⟩)
    | (go_at_call 16; (with_reducible refine (z_put _ _ _).mono ?_); rintro e w' ⟨rfl, rfl⟩)
    | (go_at_call 48; (with_reducible refine (z_remove _ _).mono ?_); rintro e w' ⟨rfl, rfl⟩)
    | (go_at_call 42; (with_reducible refine (z_has _ _).mono ?_); rintro e w' ⟨rfl, rfl⟩)
    | (go_at_call 18; (with_reducible refine (z_len _).mono ?_); rintro e w' ⟨rfl, rfl⟩)
    | (go_at_call 40; refine (all_nil _).mono ?_; rintro e w' ⟨rfl, rfl⟩)
    | (go_at_call 44; (with_reducible refine (z_copy _).mono ?_); rintro e w' ⟨rfl, rfl⟩)
    | (go_at_call 46; (with_reducible refine (z_same _).mono ?_); rintro e w2 ⟨rfl, N, rfl⟩; have H2 := Lib.hid (H1.out.drewN N))
    | (go_at_call 46; (with_reducible refine (z_same_l H2.out).mono ?_); rintro e w3 ⟨rfl, hS3⟩; have H3 := Lib.hid hS3; clear hS3)
    | (go_at_call 15; refine (h_new H3.out).mono ?_; rintro e w4 ⟨o, rfl, hS4⟩; have H4 := Lib.hid (hS4.pull2); clear hS4)
    | (go_at_call 46; (with_reducible refine (h_same Inv.nil Inv.nil (by simp) (by simp) H4.out).mono ?_); rintro e w5 ⟨rfl, hS5⟩; have H5 := Lib.hid hS5.drop2; clear hS5)
    | (go_at_call 16; (with_reducible refine (h_put H5.out 3 4 rfl (by simp) (by omega) (by omega)).mono ?_); rintro e w6 ⟨rfl, A6, hp6, hS6⟩; have H6 := Lib.hid hS6; have HP6 := Lib.hid hp6; have HL6 := Lib.hid hp6.length_eq; have hh := h_has hS6 4; rw [hasT_perm hp6] at hh; have HH6 := Lib.hid hh; clear hS6 hp6 hh)
    | (go_at_call 42; refine HH6.out.mono ?_; rintro e w' ⟨rfl, rfl⟩)
    | (go_at_call 46; (with_reducible refine (z_same_r (inv1 HP6.out) (by rw [HL6.out]; simp) H6.out).mono ?_); rintro e w7 ⟨rfl, hS7⟩; have H7 := Lib.hid hS7; clear hS7)
    | (go_at_call 44; refine (h_copy H7.out (by rw [HL6.out]; simp)).mono ?_; rintro e w8 ⟨o2, rfl, hS8⟩; have hh := h_len hS8; rw [HL6.out] at hh; have HH8 := Lib.hid hh; have H8 := Lib.hid hS8.dropL; clear hS8 hh)
    | (go_at_call 18; refine HH8.out.mono ?_; rintro e w' ⟨rfl, rfl⟩)
    | (go_at_call 48; (with_reducible refine (h_remove H8.out 4 (by rw [hasT_perm HP6.out]; exact has1) (by rw [HL6.out]; simp)).mono ?_); rintro e w9 ⟨rfl, t9, A9, ht9, hp9, hS9⟩; obtain rfl : A9 = [] := List.eq_nil_of_length_eq_zero (by have := (hp9.trans HP6.out).length_eq; simpa using this); have H9 := Lib.hid hS9; clear hS9 hp9 ht9)
    | (go_at_call 48; refine (h_remove_no H9.out 4 rfl).mono ?_; rintro e w' ⟨rfl, rfl⟩)
    | (go_at_call 46; refine (z_same_r (S := []) ⟨List.Perm.refl _, List.Pairwise.nil, fun t ht => by cases ht⟩ (by simp) H9.out).mono ?_; rintro e w10 ⟨rfl, hS10⟩; have H10 := Lib.hid hS10; clear hS10)
    | (go_at_call 14; refine (known4 _).mono ?_; rintro e w12 ⟨rfl, hb12⟩))
  go_ret
  exact ⟨by simp, H10.out.below.trans (hb12.mono H10.out.size)⟩
end
end Go.Proofs.Ytcchfdoeacgapaa.Hm
