/-
  Chapter 16: states' names; known. No statement is proved here.
-/
import Derived.Test.YtffjckdaekamgaaGt3n
import Derived.Test.YtffjckdaekamgaaGt3m
import Derived.Test.YtffjckdaekamgaaGt4
namespace Go.Proofs.Ytffjckdaekamgaa.Gt
open Go.RowKit Ag
set_option linter.unusedVariables false

def nameK : Nat → ByteArray
  | 0 => ⟨#[105, 100, 108, 101]⟩
  | 1 => ⟨#[114, 117, 110, 110, 97, 98, 108, 101]⟩
  | 2 => ⟨#[114, 117, 110, 110, 105, 110, 103]⟩
  | 3 => ⟨#[112, 97, 114, 107, 101, 100]⟩
  | 4 => ⟨#[115, 108, 101, 101, 112, 105, 110, 103]⟩
  | 5 => ⟨#[115, 117, 115, 112, 101, 110, 100, 101, 100]⟩
  | 6 => ⟨#[116, 104, 114, 111, 116, 116, 108, 101, 100]⟩
  | _ => ⟨#[63]⟩
/-- A state's name. -/
def nameS (a : Int) : ByteArray := if a < 0 then nameK 7 else nameK a.toNat
section
variable {w0 w : World} {F : Hp} {h p : Nat}
set_option maxRecDepth 100000 in
set_option maxHeartbeats 2000000 in
theorem g_name (hS : Sat w0 F w) (a : Int) : Calls Try.prog 10 #[vi a] w fun e w' => e = .returned (.string (nameS a)) ∧ Sat w0 F w' := by
  have HB : Hid (∀ o, Sat w0 F (w.alloc o)) := Lib.hid fun o => hS.alloc' o
  clear hS
  by_cases h0 : a < 0
  · have e : nameS a = ⟨#[63]⟩ := by unfold nameS; rw [if_pos h0]; rfl
    rw [e]
    clear e
    go_enter Try.func10, Try.ntmps10
    go_wp2
    go_ret
    exact ⟨rfl, HB.out _⟩
  · obtain ⟨k, rfl⟩ := Int.eq_ofNat_of_zero_le (show 0 ≤ a by omega)
    by_cases h7 : 7 ≤ k
    · have e : nameS (k : Int) = ⟨#[63]⟩ := by
        unfold nameS
        rw [if_neg h0, Int.toNat_natCast]
        obtain ⟨j, rfl⟩ : ∃ j, k = j + 7 := ⟨k - 7, by omega⟩
        rfl
      have h7' : (7 : Int) ≤ (k : Int) := by omega
      rw [e]
      clear e
      go_enter Try.func10, Try.ntmps10
      go_wp2
      go_ret
      exact ⟨rfl, HB.out _⟩
    · have hk : k = 0 ∨ k = 1 ∨ k = 2 ∨ k = 3 ∨ k = 4 ∨ k = 5 ∨ k = 6 := by omega
      clear h0 h7
      rcases hk with rfl | rfl | rfl | rfl | rfl | rfl | rfl
      all_goals
        go_enter Try.func10, Try.ntmps10
        go_wp2
        go_ret
        exact ⟨rfl, HB.out _⟩
abbrev x1 : El := { ez with v0 := 1 }
abbrev x2 : El := { ez with v0 := 2 }
abbrev x4 : El := { ez with v0 := 4 }
abbrev PP (x : El) : List Pl := [⟨1, true, false, x⟩, ⟨1, false, false, ez⟩]
theorem kn_new (hS : Sat w0 F w) : Calls Try.prog 15 #[vi 2] w fun e w' => ∃ h p, e = .returned (.tuple #[vp h, vi 0]) ∧ Sat w0 (gtB h p * (tblP p [⟨1, false, false, ez⟩, ⟨1, false, false, ez⟩] ([1] ++ [0]) * F)) w' :=
  gt_new 2 (by omega) (by omega) hS
theorem kn_make (hS : Sat w0 (gtB h p * (tblP p [⟨1, false, false, ez⟩, ⟨1, false, false, ez⟩] ([1] ++ [0]) * F)) w) : Calls Try.prog 19 #[vp h, ev x1] w fun e w' => e = .returned (.tuple #[vr 0 1, vi 0]) ∧ Sat w0 (gtB h p * (tblP p (PP x1) [1] * F)) w' :=
  gt_make (k := 0) hS rfl x1 (by decide)
theorem kn_t1 (hS : Sat w0 (gtB h p * (tblP p (PP x1) [1] * F)) w) : Calls Try.prog 20 #[vp h, vr 0 1, vi 2] w fun e w' => e = .returned (vi 0) ∧ Sat w0 (gtB h p * (tblP p (PP x2) [1] * F)) w' :=
  gt_turn hS 0 1 2
theorem kn_t2 (hS : Sat w0 (gtB h p * (tblP p (PP x2) [1] * F)) w) : Calls Try.prog 20 #[vp h, vr 0 1, vi 4] w fun e w' => e = .returned (vi 0) ∧ Sat w0 (gtB h p * (tblP p (PP x4) [1] * F)) w' :=
  gt_turn hS 0 1 4
theorem kn_t3 (hS : Sat w0 (gtB h p * (tblP p (PP x4) [1] * F)) w) : Calls Try.prog 20 #[vp h, vr 0 1, vi 2] w fun e w' => e = .returned (vi 5) ∧ Sat w0 (gtB h p * (tblP p (PP x4) [1] * F)) w' :=
  gt_turn hS 0 1 2
set_option maxRecDepth 100000 in
set_option maxHeartbeats 4000000 in
theorem known16 (hS : Sat w0 F w) : Calls Try.prog 11 #[] w fun e w' => e = .returned (.bool true) ∧ Sat w0 F w' := by
  have H := Lib.hid hS
  clear hS
  go_enter Try.func11, Try.ntmps11
  go_wp2_with (first
    | (go_at_call 15; refine (kn_new H.out).mono ?_; rintro e w1 ⟨h, p, rfl, hS⟩; have H1 := Lib.hid hS; clear hS)
    | (go_at_call 19; refine (kn_make H1.out).mono ?_; rintro e w2 ⟨rfl, hS⟩; have hT : Sat w0 (pc w2.heap.size 25 [vi 0, vu 1] * _) (w2.alloc (.cells #[vi 0, vu 1] 25)) := hS.alloc _; have d0 := hT.cell 0 rfl; have d1 := hT.cell 1 rfl; have H2 := Lib.hid (hT.cast (show _ = gtB h p * (tblP p (PP x1) [1] * (pc w2.heap.size 25 [vi 0, vu 1] * F)) by ac_rfl)); clear hS hT)
    | (go_at_call 20; refine (kn_t3 H4.out).mono ?_; rintro e w5 ⟨rfl, hS⟩; have H5 := Lib.hid hS; clear hS)
    | (go_at_call 20; refine (kn_t2 H3.out).mono ?_; rintro e w4 ⟨rfl, hS⟩; have g0 := hS.pull3.cell 0 rfl; have g1 := hS.pull3.cell 1 rfl; have H4 := Lib.hid hS; clear hS)
    | (go_at_call 20; refine (kn_t1 H2.out).mono ?_; rintro e w3 ⟨rfl, hS⟩; have f0 := hS.pull3.cell 0 rfl; have f1 := hS.pull3.cell 1 rfl; have H3 := Lib.hid hS; clear hS))
  go_ret
  exact ⟨rfl, H5.out.dropL.dropL.dropL⟩
end
end Go.Proofs.Ytffjckdaekamgaa.Gt
