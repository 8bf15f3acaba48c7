/-
  Package quota: Next. No statement is proved here.
-/
import Derived.Test.YtfioghpnehfjhaaDl3
namespace Go.Proofs.Ytfioghpnehfjhaa.Dm
open Go.RowKit Ad
set_option linter.unusedVariables false

/-- When a domain's period begins next. -/
def nxt (n : Int) (x : Nat × Int × El) : Int := n + (x.2.2.v4 - n.tmod x.2.2.v4)
section
variable {w0 w : World} {F : Hp} {h p : Nat} {ps : List Pl} {free : List Nat}
set_option maxRecDepth 100000 in
set_option maxHeartbeats 4000000 in
theorem q_next1 {bn : Nat} (n : Int) (i : Nat) (gen : Int) (x : El) (hn : 0 ≤ n ∧ n ≤ 1152921504606846976) (h4 : 1 ≤ x.v4 ∧ x.v4 ≤ 4294967296) (hS : Sat w0 (pc bn 22 [vu n] * F) w) :
    Calls Try.prog 48 #[.agg #[vi i, vu gen, .int .i64 x.v0, .int .u64 x.v1, .int .i64 x.v2, .int .u64 x.v3, .int .u64 x.v4, .int .i64 x.v5, .int .u64 x.v6, .int .i64 x.v7, .int .i64 x.v8, .int .u64 x.v9, .int .i64 x.v10], vp bn] w fun e w' => e = .returned (.tuple #[vu (nxt n (i, gen, x)), .bool true]) ∧ Sat w0 (pc bn 22 [vu n] * F) w' := by
  obtain ⟨v0, v1, v2, v3, v4, v5, v6, v7, v8, v9, v10⟩ := x
  dsimp only at h4
  have hB : Sat w0 (pc w.heap.size 69 [.int .i64 i, .int .u64 gen, .int .i64 v0, .int .u64 v1, .int .i64 v2, .int .u64 v3, .int .u64 v4, .int .i64 v5, .int .u64 v6, .int .i64 v7, .int .i64 v8, .int .u64 v9, .int .i64 v10] * (pc bn 22 [vu n] * F)) (w.alloc (.cells #[.int .i64 i, .int .u64 gen, .int .i64 v0, .int .u64 v1, .int .i64 v2, .int .u64 v3, .int .u64 v4, .int .i64 v5, .int .u64 v6, .int .i64 v7, .int .i64 v8, .int .u64 v9, .int .i64 v10] 69)) := hS.alloc _
  have q0 := hB.cell 0 rfl
  have q1 := hB.cell 1 rfl
  have q2 := hB.cell 2 rfl
  have q3 := hB.cell 3 rfl
  have q4 := hB.cell 4 rfl
  have q5 := hB.cell 5 rfl
  have q6 := hB.cell 6 rfl
  have q7 := hB.cell 7 rfl
  have q8 := hB.cell 8 rfl
  have q9 := hB.cell 9 rfl
  have q10 := hB.cell 10 rfl
  have q11 := hB.cell 11 rfl
  have q12 := hB.cell 12 rfl
  have c0 := hB.pull2.cell 0 rfl
  have ht0 : 0 ≤ n.tmod v4 := Int.tmod_nonneg _ hn.1
  have ht1 : n.tmod v4 < v4 := by rw [Int.tmod_eq_emod_of_nonneg hn.1]; exact Int.emod_lt_of_pos _ (by omega)
  have hm : nxt n (i, gen, ⟨v0, v1, v2, v3, v4, v5, v6, v7, v8, v9, v10⟩) = n + (v4 - n.tmod v4) := rfl
  have hw : IntKind.u64.wrap (v4 - n.tmod v4) = v4 - n.tmod v4 := by rw [IntKind.wrap_u64]; omega
  have hne : v4 ≠ 0 := by omega
  have hA := fun w => nadd n (v4 - n.tmod v4) ⟨by omega, by omega⟩ ⟨by omega, by omega⟩ w
  unfold addP at hA
  rw [if_neg (by omega)] at hA
  simp only [addV] at hA
  have HA := Lib.hid hA
  rw [hm]
  have HB := Lib.hid hB
  clear hB hS hA h4 hn ht0 ht1 hm
  generalize hr : n + (v4 - n.tmod v4) = r at *
  clear hr
  go_enter Try.func48, Try.ntmps48
  go_wp2
  refine wp_quiet_tail 13 (by kernel_rfl) (by kernel_rfl) ?_
  simp only [List.take_succ_cons, List.take_zero, List.drop_succ_cons, List.drop_zero]
  repeat (go_big_quiet_step (fail))
  go_big_quiet_want
  go_big_quiet_op
  apply Exists.intro
  refine ⟨(HA.out _).mono fun _ _ h => ⟨h.1, h.2.symm⟩, ?_⟩
  go_big_quiet_on
  repeat (go_big_quiet_step (fail))
  refine wpQuiet_nil ?_
  go_wp2
  go_ret2
  exact ⟨rfl, HB.out.drew.dropL⟩
end
end Go.Proofs.Ytfioghpnehfjhaa.Dm
