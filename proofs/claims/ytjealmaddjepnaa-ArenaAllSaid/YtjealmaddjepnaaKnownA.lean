/-
  The walk of helmsmanlaw02.known. No statement is proved here.
-/
import Derived.Test.YtjealmaddjepnaaSArena5
namespace Go.Proofs.Ytjealmaddjepnaa.As
open Go.RowKit
set_option linter.unusedVariables false

abbrev sa (n : UInt8) : El := ⟨#[n]⟩
abbrev P1 : List Pl := [⟨1, true, false, sa 97⟩, ⟨1, false, false, ez⟩]
abbrev P2 : List Pl := [⟨1, true, false, sa 97⟩, ⟨1, true, false, sa 98⟩]
abbrev P3 : List Pl := [⟨2, false, false, ez⟩, ⟨1, true, false, sa 98⟩]
abbrev P4 : List Pl := [⟨2, true, false, sa 99⟩, ⟨1, true, false, sa 98⟩]

section
variable {w0 w : World} {p : Nat} {F : Hp}
theorem kn_new (h : Sat w0 F w) : Calls Try.prog 19 #[vi 2, vu 1] w fun e w' => ∃ p, e = .returned (.tuple #[vp p, vi 0]) ∧ Sat w0 (tblP p [⟨1, false, false, ez⟩, ⟨1, false, false, ez⟩] ([1] ++ [0]) * F) w' :=
  new_ 2 1 (by omega) (by omega) (by omega) (by omega) h
theorem kn_put1 (h : Sat w0 (tblP p [⟨1, false, false, ez⟩, ⟨1, false, false, ez⟩] ([1] ++ [0]) * F) w) : Calls Try.prog 20 #[vp p, .string ⟨#[97]⟩] w fun e w' => e = .returned (.tuple #[vr 0 1, vi 0]) ∧ Sat w0 (tblP p P1 [1] * F) w' :=
  put_yes (k := 0) h rfl (sa 97)
theorem kn_put2 (h : Sat w0 (tblP p P1 [1] * F) w) : Calls Try.prog 20 #[vp p, .string ⟨#[98]⟩] w fun e w' => e = .returned (.tuple #[vr 1 1, vi 0]) ∧ Sat w0 (tblP p P2 [] * F) w' :=
  put_yes (k := 1) (free := []) h rfl (sa 98)
theorem kn_put3 (h : Sat w0 (tblP p P2 [] * F) w) : Calls Try.prog 20 #[vp p, .string ⟨#[99]⟩] w fun e w' => e = .returned (.tuple #[vr 0 0, vi 3]) ∧ Sat w0 (tblP p P2 [] * F) w' :=
  put_no h (sa 99)
theorem kn_drop (h : Sat w0 (tblP p P2 [] * F) w) : Calls Try.prog 21 #[vp p, vr 0 1] w fun e w' => e = .returned (vi 0) ∧ Sat w0 (tblP p P3 [0] * F) w' :=
  drop_ h 0 1
theorem kn_put4 (h : Sat w0 (tblP p P3 [0] * F) w) : Calls Try.prog 20 #[vp p, .string ⟨#[99]⟩] w fun e w' => e = .returned (.tuple #[vr 0 2, vi 0]) ∧ Sat w0 (tblP p P4 [] * F) w' :=
  put_yes (k := 0) (free := []) h rfl (sa 99)
theorem kn_get1 (h : Sat w0 (tblP p P4 [] * F) w) : Calls Try.prog 22 #[vp p, vr 0 1] w fun e w' => e = .returned (.tuple #[.string ⟨#[]⟩, vi 11]) ∧ Sat w0 (tblP p P4 [] * F) w' :=
  get_ h 0 1
theorem kn_get2 (h : Sat w0 (tblP p P4 [] * F) w) : Calls Try.prog 22 #[vp p, vr 0 2] w fun e w' => e = .returned (.tuple #[.string ⟨#[99]⟩, vi 0]) ∧ Sat w0 (tblP p P4 [] * F) w' :=
  get_ h 0 2

set_option maxRecDepth 100000 in
set_option maxHeartbeats 4000000 in
theorem knownA (h : Sat w0 F w) : Calls Try.prog 8 #[] w fun e w' => e = .returned (.bool true) ∧ Sat w0 F w' := by
  have H := Lib.hid h
  clear h
  go_enter Try.func8, Try.ntmps8
  go_wp2_with (first
    | (go_at_call 19; refine (kn_new H.out).mono ?_; rintro e w1 ⟨t, rfl, hS⟩; have H1 := Lib.hid hS; clear hS)
    | (go_at_call 22; refine (kn_get2 H7.out).mono ?_; rintro e w8 ⟨rfl, hS⟩; have g0 := hS.pull2.cell 0 rfl; have g1 := hS.pull2.cell 1 rfl; have g2 := hS.pull4.cell 0 rfl; have g3 := hS.pull4.cell 1 rfl; have g4 := hS.dropL.dropL.dropL.pull2.cell 0 rfl; have g5 := hS.dropL.dropL.dropL.pull2.cell 1 rfl; have H8 := Lib.hid hS; clear hS)
    | (go_at_call 22; refine (kn_get1 H6.out.pull2).mono ?_; rintro e w7 ⟨rfl, hS⟩; have g0 := hS.pull2.cell 0 rfl; have g1 := hS.pull2.cell 1 rfl; have H7 := Lib.hid hS; clear hS)
    | (go_at_call 20; refine (kn_put4 H5.out).mono ?_; rintro e w6 ⟨rfl, hS⟩; have hT : Sat w0 (pc w6.heap.size 35 [vi 0, vu 2] * _) (w6.alloc (.cells #[vi 0, vu 2] 35)) := hS.alloc _; have f0 := hT.dropL.dropL.dropL.pull2.cell 0 rfl; have f1 := hT.dropL.dropL.dropL.pull2.cell 1 rfl; have H6 := Lib.hid hT; clear hS hT)
    | (go_at_call 21; refine (kn_drop H4.out.pull2).mono ?_; rintro e w5 ⟨rfl, hS⟩; have H5 := Lib.hid hS; clear hS)
    | (go_at_call 20; refine (kn_put3 H3.out.pull2).mono ?_; rintro e w4 ⟨rfl, hS⟩; have hT : Sat w0 (pc w4.heap.size 35 [vi 0, vu 0] * _) (w4.alloc (.cells #[vi 0, vu 0] 35)) := hS.alloc _; have d0 := hT.dropL.dropL.pull2.cell 0 rfl; have d1 := hT.dropL.dropL.pull2.cell 1 rfl; have H4 := Lib.hid hT; clear hS hT)
    | (go_at_call 20; refine (kn_put2 H2.out.pull2).mono ?_; rintro e w3 ⟨rfl, hS⟩; have H3 : Hid (Sat w0 (pc w3.heap.size 35 [vi 1, vu 1] * _) (w3.alloc (.cells #[vi 1, vu 1] 35))) := Lib.hid (hS.alloc _); clear hS)
    | (go_at_call 20; refine (kn_put1 H1.out).mono ?_; rintro e w2 ⟨rfl, hS⟩; have H2 : Hid (Sat w0 (pc w2.heap.size 35 [vi 0, vu 1] * _) (w2.alloc (.cells #[vi 0, vu 1] 35))) := Lib.hid (hS.alloc _); clear hS))
  go_ret
  exact ⟨rfl, H8.out.dropL.dropL.dropL.dropL.dropL⟩
end
end Go.Proofs.Ytjealmaddjepnaa.As
