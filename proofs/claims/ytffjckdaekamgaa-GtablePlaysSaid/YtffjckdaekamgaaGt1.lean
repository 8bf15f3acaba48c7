/-
  Chapter 16: May, by the program and by the reference; names. No statement is proved here.
-/
import Derived.Test.YtffjckdaekamgaaGa1
namespace Go.Proofs.Ytffjckdaekamgaa.Gt
open Go.RowKit Ag
set_option linter.unusedVariables false

def mayP (x : El) : Prop := 1 ≤ x.v0 ∧ x.v0 ≤ 6 ∧ x.v18 ≤ 1152921504606846976 ∧ (x.v18 = 0 ∨ x.v0 = 4) ∧ 0 ≤ x.v7 ∧ 0 ≤ x.v8 ∧ (x.v0 = 5 → x.v1 = true) ∧ (x.v0 = 1 ∨ x.v0 = 2 → x.v1 = false)
instance (x : El) : Decidable (mayP x) := by unfold mayP; infer_instance
def mayB (x : El) : Bool := decide (mayP x)
abbrev gB (b : Nat) (x : El) : Hp := pc b 29 [(.int .i64 x.v0), (.bool x.v1), (.int .i64 x.v2), (.int .u64 x.v3), (.int .i64 x.v4), (.int .u64 x.v5), (.int .u8 x.v6), (.int .i64 x.v7), (.int .i64 x.v8), (.int .u64 x.v9), (.int .u64 x.v10), (.int .u64 x.v11), (.int .u64 x.v12), (.int .u64 x.v13), (.int .u64 x.v14), (.int .u64 x.v15), (.int .u64 x.v16), (.int .i64 x.v17), (.int .u64 x.v18)]
abbrev gO (x : El) : Obj := .cells #[(.int .i64 x.v0), (.bool x.v1), (.int .i64 x.v2), (.int .u64 x.v3), (.int .i64 x.v4), (.int .u64 x.v5), (.int .u8 x.v6), (.int .i64 x.v7), (.int .i64 x.v8), (.int .u64 x.v9), (.int .u64 x.v10), (.int .u64 x.v11), (.int .u64 x.v12), (.int .u64 x.v13), (.int .u64 x.v14), (.int .u64 x.v15), (.int .u64 x.v16), (.int .i64 x.v17), (.int .u64 x.v18)] 29

section
variable {w0 w : World} {F : Hp}
set_option maxRecDepth 100000 in
set_option maxHeartbeats 8000000 in
theorem g_may (h : Sat w0 F w) (x : El) : Calls Try.prog 6 #[ev x] w fun e w' => e = .returned (.bool (mayB x)) ∧ Sat w0 F w' := by
  have hB : Sat w0 (gB w.heap.size x * F) (w.alloc (gO x)) := h.alloc (gO x)
  have b0 := hB.cell 0 rfl
  have b1 := hB.cell 1 rfl
  have b7 := hB.cell 7 rfl
  have b8 := hB.cell 8 rfl
  have b18 := hB.cell 18 rfl
  have HB : Hid (∀ o, Sat w0 F (w.alloc o)) := Lib.hid fun o => h.alloc' o
  obtain ⟨v0, v1, v2, v3, v4, v5, v6, v7, v8, v9, v10, v11, v12, v13, v14, v15, v16, v17, v18⟩ := x
  have HM : Hid (∀ b, (b = true ↔ (1 ≤ v0 ∧ v0 ≤ 6 ∧ v18 ≤ 1152921504606846976 ∧ (v18 = 0 ∨ v0 = 4) ∧ 0 ≤ v7 ∧ 0 ≤ v8 ∧ (v0 = 5 → v1 = true) ∧ (v0 = 1 ∨ v0 = 2 → v1 = false))) → Ending.returned (.bool b) = .returned (.bool (mayB ⟨v0, v1, v2, v3, v4, v5, v6, v7, v8, v9, v10, v11, v12, v13, v14, v15, v16, v17, v18⟩))) := Lib.hid fun b hb => by
    congr 2
    cases b with
    | true => exact (decide_eq_true (hb.1 rfl)).symm
    | false => exact (decide_eq_false fun e => by simpa using hb.2 e).symm
  generalize mayB ⟨v0, v1, v2, v3, v4, v5, v6, v7, v8, v9, v10, v11, v12, v13, v14, v15, v16, v17, v18⟩ = m at *
  clear h hB
  cases v1
  all_goals
    go_enter Try.func6, Try.ntmps6
    go_wp2
    all_goals go_ret
    all_goals exact ⟨HM.out _ (by simp at *; try omega), HB.out _⟩
set_option maxRecDepth 100000 in
set_option maxHeartbeats 8000000 in
theorem r_may (h : Sat w0 F w) (x : El) (hx : 0 ≤ x.v18) : Calls Try.prog 7 #[ev x] w fun e w' => e = .returned (.bool (mayB x)) ∧ Sat w0 F w' := by
  have hB : Sat w0 (gB w.heap.size x * F) (w.alloc (gO x)) := h.alloc (gO x)
  have b0 := hB.cell 0 rfl
  have b1 := hB.cell 1 rfl
  have b7 := hB.cell 7 rfl
  have b8 := hB.cell 8 rfl
  have b18 := hB.cell 18 rfl
  have HB : Hid (∀ o, Sat w0 F (w.alloc o)) := Lib.hid fun o => h.alloc' o
  obtain ⟨v0, v1, v2, v3, v4, v5, v6, v7, v8, v9, v10, v11, v12, v13, v14, v15, v16, v17, v18⟩ := x
  have hx : 0 ≤ v18 := hx
  have HM : Hid (∀ b, (b = true ↔ (1 ≤ v0 ∧ v0 ≤ 6 ∧ v18 ≤ 1152921504606846976 ∧ (v18 = 0 ∨ v0 = 4) ∧ 0 ≤ v7 ∧ 0 ≤ v8 ∧ (v0 = 5 → v1 = true) ∧ (v0 = 1 ∨ v0 = 2 → v1 = false))) → Ending.returned (.bool b) = .returned (.bool (mayB ⟨v0, v1, v2, v3, v4, v5, v6, v7, v8, v9, v10, v11, v12, v13, v14, v15, v16, v17, v18⟩))) := Lib.hid fun b hb => by
    congr 2
    cases b with
    | true => exact (decide_eq_true (hb.1 rfl)).symm
    | false => exact (decide_eq_false fun e => by simpa using hb.2 e).symm
  generalize mayB ⟨v0, v1, v2, v3, v4, v5, v6, v7, v8, v9, v10, v11, v12, v13, v14, v15, v16, v17, v18⟩ = m at *
  clear h hB
  cases v1
  all_goals
    go_enter Try.func7, Try.ntmps7
    go_wp2
    all_goals go_ret
    all_goals exact ⟨HM.out _ (by simp at *; try omega), HB.out _⟩
end
end Go.Proofs.Ytffjckdaekamgaa.Gt
