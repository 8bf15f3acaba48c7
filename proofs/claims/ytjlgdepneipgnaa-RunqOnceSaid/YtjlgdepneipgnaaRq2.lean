/-
  Chapter 05: no queue; known; the walk of RunqNil. No statement is proved here.
-/
import Derived.Test.YtjlgdepneipgnaaRq1
import Derived.WalkMore
namespace Go.Proofs.Ytjlgdepneipgnaa.Rq
open Go.RowKit
set_option linter.unusedVariables false

def TrueBelow (w0 : World) (e : Ending) (w' : World) : Prop := e = .returned (.bool true) ∧ Below w0.heap.size w0 w'
/-- There is no queue: nil, or a zero one. -/
def NoQ (w : World) (v : Value) : Prop := v = .pointer none ∨ ∃ z, v = vp z ∧ w.cell? ⟨z, 0, none⟩ = some (.pointer none)
theorem NoQ.nil (w : World) : NoQ w (.pointer none) := .inl rfl
theorem cell_lt {w : World} {a : Addr} {v : Value} (h : w.cell? a = some v) : a.block < w.heap.size := World.block_lt_of_cell? w _ h
theorem NoQ.below {w w' : World} {v : Value} (h : NoQ w v) (hb : Below w.heap.size w w') : NoQ w' v := by
  rcases h with h | ⟨z, rfl, hz⟩
  · exact .inl h
  · exact .inr ⟨z, rfl, (hb.cell (cell_lt hz)).trans hz⟩

section
variable {w : World} {v : Value}
theorem nq_none (h : NoQ w v) : Calls Try.prog 56 #[v] w fun e w' => e = .returned (.bool true) ∧ w = w' := by
  rcases h with rfl | ⟨z, rfl, hz⟩
  all_goals
    go_enter Try.func56, Try.ntmps56
    go_wp2
    go_ret
    exact ⟨rfl, rfl⟩
theorem nq_put (h : NoQ w v) (g : Int) : Calls Try.prog 30 #[v, vi g] w fun e w' => e = .returned (.slice none 0 0) ∧ w = w' := by
  have H := Lib.hid (nq_none h)
  go_enter Try.func30, Try.ntmps30
  go_wp2_with (go_at_call 56; refine H.out.mono ?_; rintro e w' ⟨rfl, rfl⟩)
  go_ret
  exact ⟨rfl, rfl⟩
theorem nq_putnext (h : NoQ w v) (g : Int) : Calls Try.prog 31 #[v, vi g] w fun e w' => e = .returned (.slice none 0 0) ∧ w = w' := by
  have H := Lib.hid (nq_none h)
  go_enter Try.func31, Try.ntmps31
  go_wp2_with (go_at_call 56; refine H.out.mono ?_; rintro e w' ⟨rfl, rfl⟩)
  go_ret
  exact ⟨rfl, rfl⟩
theorem nq_take (h : NoQ w v) (c : Bool) : Calls Try.prog 32 #[v, .bool c] w fun e w' => e = .returned (.tuple #[vi 0, .bool false, .slice none 0 0, .bool false]) ∧ w = w' := by
  have H := Lib.hid (nq_none h)
  go_enter Try.func32, Try.ntmps32
  go_wp2_with (go_at_call 56; refine H.out.mono ?_; rintro e w' ⟨rfl, rfl⟩)
  (try simp only [Exit.inBlock, Exit.then]); refine bodyPost_ret (results_tmp4 rfl _ _ _) rfl ?_
  exact ⟨rfl, rfl⟩
theorem nq_remove (h : NoQ w v) (g : Int) : Calls Try.prog 33 #[v, vi g] w fun e w' => e = .returned (.bool false) ∧ w = w' := by
  have H := Lib.hid (nq_none h)
  go_enter Try.func33, Try.ntmps33
  go_wp2_with (go_at_call 56; refine H.out.mono ?_; rintro e w' ⟨rfl, rfl⟩)
  go_ret
  exact ⟨rfl, rfl⟩
theorem nq_has (h : NoQ w v) (g : Int) : Calls Try.prog 25 #[v, vi g] w fun e w' => e = .returned (.bool false) ∧ w = w' := by
  have H := Lib.hid (nq_none h)
  go_enter Try.func25, Try.ntmps25
  go_wp2_with (go_at_call 56; refine H.out.mono ?_; rintro e w' ⟨rfl, rfl⟩)
  go_ret
  exact ⟨rfl, rfl⟩
theorem nq_next (h : NoQ w v) : Calls Try.prog 43 #[v] w fun e w' => e = .returned (.tuple #[vi 0, .bool false]) ∧ w = w' := by
  have H := Lib.hid (nq_none h)
  go_enter Try.func43, Try.ntmps43
  go_wp2_with (go_at_call 56; refine H.out.mono ?_; rintro e w' ⟨rfl, rfl⟩)
  go_ret2
  exact ⟨rfl, rfl⟩
theorem nq_all (h : NoQ w v) : Calls Try.prog 28 #[v] w fun e w' => e = .returned (.slice none 0 0) ∧ w = w' := by
  have H := Lib.hid (nq_none h)
  go_enter Try.func28, Try.ntmps28
  go_wp2_with (go_at_call 56; refine H.out.mono ?_; rintro e w' ⟨rfl, rfl⟩)
  go_ret
  exact ⟨rfl, rfl⟩
theorem nq_len (h : NoQ w v) : Calls Try.prog 34 #[v] w fun e w' => e = .returned (vi 0) ∧ w = w' := by
  have H := Lib.hid (nq_all h)
  go_enter Try.func34, Try.ntmps34
  go_wp2_with (go_at_call 28; refine H.out.mono ?_; rintro e w' ⟨rfl, rfl⟩)
  go_ret
  exact ⟨rfl, rfl⟩
theorem nq_copy (h : NoQ w v) : Calls Try.prog 39 #[v] w fun e w' => e = .returned (.pointer none) ∧ w = w' := by
  have H := Lib.hid (nq_none h)
  go_enter Try.func39, Try.ntmps39
  go_wp2_with (go_at_call 56; refine H.out.mono ?_; rintro e w' ⟨rfl, rfl⟩)
  go_ret
  exact ⟨rfl, rfl⟩
theorem nq_same {u : Value} (h : NoQ w v) (h' : NoQ w u) : Calls Try.prog 41 #[v, u] w fun e w' => e = .returned (.bool true) ∧ w = w' := by
  have H := Lib.hid (nq_none h)
  have H' := Lib.hid (nq_none h')
  go_enter Try.func41, Try.ntmps41
  go_wp2_with (first
    | (go_at_call 56; (with_reducible refine H.out.mono ?_); rintro e w' ⟨rfl, rfl⟩)
    | (go_at_call 56; (with_reducible refine H'.out.mono ?_); rintro e w' ⟨rfl, rfl⟩))
  go_ret
  exact ⟨rfl, rfl⟩
set_option maxRecDepth 100000 in
set_option maxHeartbeats 2000000 in
theorem nq_steal (h : NoQ w v) (p : Int) (ao : Option Addr) (n cap : Nat) : Calls Try.prog 23 #[v, vi p, .slice ao n cap] w fun e w' => e = .returned (.slice none 0 0) ∧ Below w.heap.size w w' := by
  have hB : Below w.heap.size w ((w.alloc (.cells #[vi p] 3)).alloc (.cells #[.slice ao n cap] 37)) := ((Below.refl _ _).alloc (Nat.le_refl _) _).alloc (by simp) _
  have H := Lib.hid (nq_none (h.below hB))
  have HB := Lib.hid hB
  clear h hB
  go_enter Try.func23, Try.ntmps23
  go_wp2
  go_step3
  go_wp2_with (go_at_call 56; refine H.out.mono ?_; rintro e w' ⟨rfl, rfl⟩)
  (try rw [Exit.noGoto_ret])
  go_ret
  exact ⟨rfl, HB.out⟩
end

section
variable {w0 w : World} {F : Hp}
theorem kn_put1 {q r : Nat} (h : Sat w0 (quB q r 0 false * (ringP r 2 [] * F)) w) : Calls Try.prog 30 #[vp q, vi 1] w fun e w' => ∃ v, e = .returned v ∧ Sat w0 (quB q r 0 false * (ringP r 2 [1] * F)) w' := (q_put h 1).mono fun e w' ⟨v, h1, h2⟩ => ⟨v, h1, h2.dropL⟩
theorem kn_put2 {q r : Nat} (h : Sat w0 (quB q r 0 false * (ringP r 2 [1] * F)) w) : Calls Try.prog 30 #[vp q, vi 2] w fun e w' => ∃ v, e = .returned v ∧ Sat w0 (quB q r 0 false * (ringP r 2 [1, 2] * F)) w' := (q_put h 2).mono fun e w' ⟨v, h1, h2⟩ => ⟨v, h1, h2.dropL⟩
theorem kn_put3 {q r : Nat} (h : Sat w0 (quB q r 0 false * (ringP r 2 [1, 2] * F)) w) : Calls Try.prog 30 #[vp q, vi 3] w fun e w' => ∃ v, e = .returned v ∧ Sat w0 (sl 3 1 v 2 [vi 1, vi 3] * (quB q r 0 false * (ringP r 2 [2] * F))) w' := (q_put h 3).mono fun e w' ⟨v, h1, h2⟩ => ⟨v, h1, h2⟩
theorem kn_next1 {q r : Nat} (h : Sat w0 (quB q r 0 false * (ringP r 2 [2] * F)) w) : Calls Try.prog 31 #[vp q, vi 1] w fun e w' => ∃ v, e = .returned v ∧ Sat w0 (quB q r 1 true * (ringP r 2 [2] * F)) w' := (q_putnext h 1).mono fun e w' ⟨v, h1, h2⟩ => ⟨v, h1, h2.dropL⟩
theorem kn_next4 {q r : Nat} (h : Sat w0 (quB q r 1 true * (ringP r 2 [2] * F)) w) : Calls Try.prog 31 #[vp q, vi 4] w fun e w' => ∃ v, e = .returned v ∧ Sat w0 (quB q r 4 true * (ringP r 2 [2, 1] * F)) w' := (q_putnext h 4).mono fun e w' ⟨v, h1, h2⟩ => ⟨v, h1, h2.dropL⟩
theorem kn_same {v : Value} (h : Sat w0 (sl 3 1 v 2 [vi 1, vi 3] * F) w) : Calls Try.prog 27 #[v, .slice (some ⟨w.heap.size, 0, none⟩) 2 2] (w.alloc (.cells #[vi 1, vi 3] 3)) fun e w' => e = .returned (.bool true) ∧ Below w0.heap.size w0 w' := by
  have h2 := h.alloc' (.cells #[vi 1, vi 3] 3)
  have hR : RdI (w.alloc (.cells #[vi 1, vi 3] 3)) (.slice (some ⟨w.heap.size, 0, none⟩) 2 2) [1, 3] := by
    refine ⟨rfl, .inr ⟨_, _, _, rfl, fun j u hj => ?_⟩⟩
    rcases j with _ | _ | j
    all_goals simp at hj
    all_goals (try (subst hj; simp))
  refine (ref_same [1, 3] [1, 3] _ _ _ h2.rd hR (by simp) (by simp)).mono ?_
  rintro e w' ⟨h3, k, rfl⟩
  exact ⟨h3, (h2.drewN k).below⟩
set_option maxRecDepth 100000 in
set_option maxHeartbeats 1000000 in
theorem known5 (w0 : World) : Calls Try.prog 20 #[] w0 (TrueBelow w0) := by
  have HN := Lib.hid (q_new 2 (by omega) (by omega) (Sat.start w0))
  go_enter Try.func20, Try.ntmps20
  go_wp2_with (first
    | (go_at_call 17; refine HN.out.mono ?_; rintro e w1 ⟨q, r, rfl, hS⟩; have H1 := Lib.hid hS; clear hS)
    | (go_at_call 30; (with_reducible refine (kn_put1 H1.out).mono ?_); rintro e w2 ⟨v2, rfl, hS⟩; have H2 := Lib.hid hS; clear hS)
    | (go_at_call 30; (with_reducible refine (kn_put2 H2.out).mono ?_); rintro e w3 ⟨v3, rfl, hS⟩; have H3 := Lib.hid hS; clear hS)
    | (go_at_call 30; (with_reducible refine (kn_put3 H3.out).mono ?_); rintro e w4 ⟨v4, rfl, hS⟩; have H4 := Lib.hid hS.rot3; clear hS)
    | (go_at_call 31; (with_reducible refine (kn_next1 H4.out).mono ?_); rintro e w5 ⟨v5, rfl, hS⟩; have H5 := Lib.hid hS; clear hS)
    | (go_at_call 31; (with_reducible refine (kn_next4 H5.out).mono ?_); rintro e w6 ⟨v6, rfl, hS⟩; have H6 := Lib.hid hS; clear hS)
    | (go_at_call 32; refine (q_take_in H6.out).mono ?_; rintro e w7 ⟨rfl, hS⟩; have H7 := Lib.hid hS.pull3; clear hS)
    | (go_at_call 27; refine (kn_same H7.out).mono ?_; rintro e w8 ⟨rfl, hb⟩; have H8 := Lib.hid hb; clear hb))
  go_ret
  exact ⟨rfl, H8.out⟩
end
set_option maxRecDepth 100000 in
set_option maxHeartbeats 2000000 in
theorem runqNil_walk (w0 : World) : Calls Try.prog 9 #[] w0 (TrueBelow w0) := by
  have hB1 : Below w0.heap.size w0 (w0.alloc (.cells #[.pointer none, vi 0, .bool false] 85)) := (Below.refl _ _).alloc (Nat.le_refl _) _
  have hZ1 : NoQ (w0.alloc (.cells #[.pointer none, vi 0, .bool false] 85)) (vp w0.heap.size) := .inr ⟨_, rfl, by simp⟩
  generalize hw1 : w0.alloc (.cells #[.pointer none, vi 0, .bool false] 85) = w1 at *
  have HW := Lib.hid hw1
  generalize hz : w0.heap.size = z at *
  have HZZ := Lib.hid hz
  have hB2 : Below w1.heap.size w1 (w1.alloc (.cells #[.int .u8 1, .int .u8 1] 5)) := (Below.refl _ _).alloc (Nat.le_refl _) _
  have HZ1 := Lib.hid hZ1
  have HB1 := Lib.hid hB1
  have HB2 := Lib.hid hB2
  clear hw1 hz hB1 hB2 hZ1
  go_enter Try.func9, Try.ntmps9
  go_wp2_with fail
  rw [HW.out, HZZ.out]
  refine (nq_take (NoQ.nil _) true).mono ?_
  rintro e w' ⟨rfl, rfl⟩
  go_wp2_with (first
    | (go_at_call 32; refine (nq_take HZ1.out false).mono ?_; rintro e w' ⟨rfl, rfl⟩)
    | (go_at_call 43; refine (nq_next (NoQ.nil _)).mono ?_; rintro e w' ⟨rfl, rfl⟩)
    | (go_at_call 30; refine (nq_put (NoQ.nil _) 1).mono ?_; rintro e w' ⟨rfl, rfl⟩)
    | (go_at_call 31; refine (nq_putnext HZ1.out 1).mono ?_; rintro e w' ⟨rfl, rfl⟩)
    | (go_at_call 23; refine (nq_steal (NoQ.nil _) 0 _ _ _).mono ?_; rintro e w3 ⟨rfl, hb⟩; have HZ3 := Lib.hid ((HZ1.out.below HB2.out).below hb); have HB3 := Lib.hid (HB2.out.trans (hb.mono HB2.out.size)); clear hb)
    | (go_at_call 28; refine (nq_all HZ3.out).mono ?_; rintro e w' ⟨rfl, rfl⟩)
    | (go_at_call 34; (with_reducible refine (nq_len (NoQ.nil _)).mono ?_); rintro e w' ⟨rfl, rfl⟩)
    | (go_at_call 34; (with_reducible refine (nq_len HZ3.out).mono ?_); rintro e w' ⟨rfl, rfl⟩)
    | (go_at_call 25; (with_reducible refine (nq_has (NoQ.nil _) 1).mono ?_); rintro e w' ⟨rfl, rfl⟩)
    | (go_at_call 25; (with_reducible refine (nq_has HZ3.out 1).mono ?_); rintro e w' ⟨rfl, rfl⟩)
    | (go_at_call 33; (with_reducible refine (nq_remove (NoQ.nil _) 1).mono ?_); rintro e w' ⟨rfl, rfl⟩)
    | (go_at_call 33; (with_reducible refine (nq_remove HZ3.out 1).mono ?_); rintro e w' ⟨rfl, rfl⟩)
    | (go_at_call 39; (with_reducible refine (nq_copy (NoQ.nil _)).mono ?_); rintro e w' ⟨rfl, rfl⟩)
    | (go_at_call 39; (with_reducible refine (nq_copy HZ3.out).mono ?_); rintro e w' ⟨rfl, rfl⟩)
    | (go_at_call 41; (with_reducible refine (nq_same (NoQ.nil _) HZ3.out).mono ?_); rintro e w' ⟨rfl, rfl⟩)
    | (go_at_call 41; (with_reducible refine (nq_same HZ3.out (NoQ.nil _)).mono ?_); rintro e w' ⟨rfl, rfl⟩)
    | (go_at_call 20; refine (known5 _).mono ?_; rintro e w4 ⟨rfl, hb⟩; have HB4 := Lib.hid (HB3.out.trans (hb.mono HB3.out.size)); clear hb))
  go_ret
  refine ⟨rfl, ?_⟩
  show Below w0.heap.size w0 _
  rw [HZZ.out]
  exact HB1.out.trans (HB4.out.mono (by have h1 := HB1.out.size; have h2 := HZZ.out; omega))
end Go.Proofs.Ytjlgdepneipgnaa.Rq
