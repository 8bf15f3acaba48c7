/-
  Law 10: what is, where there are no domains: All, Left, Can, Next, Reset, Tight. No statement is proved here.
-/
import Derived.Test.YtfioghpnehfjhaaQn1
import Derived.Test.YtfioghpnehfjhaaQt3
namespace Go.Proofs.Ytfioghpnehfjhaa.Dm
open Go.RowKit Ad
set_option linter.unusedVariables false

section
variable {w0 w : World} {F : Hp}
set_option maxRecDepth 100000 in
set_option maxHeartbeats 2000000 in
theorem qn_least (v : Value) (w : World) : Calls Try.prog 37 #[.slice none 0 0, v] w fun e w' => e = .returned (.tuple #[vu 0, .bool false]) ∧ w = w' := by
  go_enter Try.func37, Try.ntmps37
  go_wp2
  go_loopw [4, 5, 12] (fun n is i wr => i = vi 0 ∧ n = vu 0 ∧ is = .bool false ∧ w = wr) (fun _ _ _ _ => 0)
  case atStart => exact ⟨rfl, rfl, rfl, rfl⟩
  case round =>
    obtain ⟨rfl, rfl, rfl, rfl⟩ := hrel
    go_wp2
    go_ret2
    exact ⟨rfl, rfl⟩
set_option maxRecDepth 100000 in
set_option maxHeartbeats 2000000 in
theorem qn_leastP (v : Value) (w : World) : Calls Try.prog 47 #[.slice none 0 0, v] w fun e w' => e = .returned (.tuple #[vu 0, .bool false]) ∧ w = w' := by
  go_enter Try.func47, Try.ntmps47
  go_wp2
  go_loopw [4, 5, 12] (fun n is i wr => i = vi 0 ∧ n = vu 0 ∧ is = .bool false ∧ w = wr) (fun _ _ _ _ => 0)
  case atStart => exact ⟨rfl, rfl, rfl, rfl⟩
  case round =>
    obtain ⟨rfl, rfl, rfl, rfl⟩ := hrel
    go_wp2
    go_ret2
    exact ⟨rfl, rfl⟩
set_option maxRecDepth 100000 in
set_option maxHeartbeats 2000000 in
theorem qn_Left (hS : Sat w0 F w) (i g : Int) : Calls Try.prog 13 #[.pointer none, vr i g] w fun e w' => e = .returned (vu 0) ∧ Sat w0 F w' := by
  have hB0 := (hS.alloc (.cells #[.pointer none] 25)).alloc (.cells #[vi i, vu g] 32)
  rw [size1] at hB0
  have hB : Sat w0 (pc (w.heap.size + 1) 32 [vi i, vu g] * (pc w.heap.size 25 [.pointer none] * F)) ((w.alloc (.cells #[.pointer none] 25)).alloc (.cells #[vi i, vu g] 32)) := hB0
  have b0 := hB.cell 0 rfl
  have b1 := hB.cell 1 rfl
  have d0 := hB.pull2.cell 0 rfl
  have HC := Lib.hid (dn_chain hB i g)
  clear hS hB hB0
  go_enter Try.func13, Try.ntmps13
  go_wp2_with (first
    | (go_at_call 17; refine HC.out.mono ?_; rintro e w1 ⟨rfl, hS1⟩; have H1 := Lib.hid hS1; clear hS1 b0 b1 d0)
    | (go_at_call 37; refine (qn_least _ _).mono ?_; rintro e w2 ⟨rfl, rfl⟩))
  go_ret
  exact ⟨rfl, H1.out.dropL.dropL⟩
set_option maxRecDepth 100000 in
set_option maxHeartbeats 2000000 in
theorem qn_can (hS : Sat w0 F w) (i g : Int) : Calls Try.prog 14 #[.pointer none, vr i g] w fun e w' => e = .returned (.bool false) ∧ Sat w0 F w' := by
  have hB : Sat w0 (pc w.heap.size 32 [vi i, vu g] * F) (w.alloc (.cells #[vi i, vu g] 32)) := hS.alloc _
  have b0 := hB.cell 0 rfl
  have b1 := hB.cell 1 rfl
  have HL := Lib.hid (qn_Left hB i g)
  clear hS hB
  go_enter Try.func14, Try.ntmps14
  go_wp2_with (go_at_call 13; refine HL.out.mono ?_; rintro e w1 ⟨rfl, hS1⟩; have H1 := Lib.hid hS1; clear hS1)
  go_ret
  exact ⟨rfl, H1.out.dropL⟩
set_option maxRecDepth 100000 in
set_option maxHeartbeats 2000000 in
theorem dn_all (hS : Sat w0 F w) : Calls Try.prog 25 #[.pointer none] w fun e w' => e = .returned (.slice none 0 0) ∧ Sat w0 F w' := by
  have hB : Sat w0 (pc w.heap.size 64 [.slice none 0 0] * F) (w.alloc (.cells #[.slice none 0 0] 64)) := hS.alloc _
  have HN := Lib.hid (dm_none0 (w.alloc (.cells #[.slice none 0 0] 64)))
  have b0 := hB.cell 0 rfl
  have f0 := hB.free 0
  have h2 := hB.store 0 (.slice none 0 0)
  have c0 := h2.cell 0 rfl
  have H2 := Lib.hid h2
  clear hS hB h2
  generalize hwb : w.alloc (.cells #[.slice none 0 0] 64) = wb at *
  generalize hb1 : w.heap.size = bx at *
  have HW := Lib.hid hwb
  have HB1 := Lib.hid hb1
  clear hwb hb1
  go_enter Try.func25, Try.ntmps25
  go_wp2_with fail
  rw [HW.out, HB1.out]
  refine HN.out.mono ?_
  rintro e w' ⟨rfl, rfl⟩
  go_wp2
  refine bodyPost_ret (v := .slice none 0 0) (by simp [results, Try.f25, go_sem, c0]) rfl ?_
  exact ⟨rfl, H2.out.dropL⟩
set_option maxRecDepth 100000 in
set_option maxHeartbeats 2000000 in
theorem qn_next (hS : Sat w0 F w) (n : Int) : Calls Try.prog 20 #[.pointer none, vu n] w fun e w' => e = .returned (.tuple #[vu 0, .bool false]) ∧ Sat w0 F w' := by
  have hB : Sat w0 (pc w.heap.size 22 [vu n] * F) (w.alloc (.cells #[vu n] 22)) := hS.alloc _
  have HA := Lib.hid (dn_all hB)
  clear hS hB
  go_enter Try.func20, Try.ntmps20
  go_wp2_with (first
    | (go_at_call 25; refine HA.out.mono ?_; rintro e w1 ⟨rfl, hS1⟩; have H1 := Lib.hid hS1; clear hS1)
    | (go_at_call 47; refine (qn_leastP _ _).mono ?_; rintro e w2 ⟨rfl, rfl⟩))
  go_ret2
  exact ⟨rfl, H1.out.dropL⟩
set_option maxRecDepth 100000 in
set_option maxHeartbeats 2000000 in
theorem qn_reset (hS : Sat w0 F w) (n : Int) : Calls Try.prog 15 #[.pointer none, vu n] w fun e w' => e = .returned (.slice none 0 0) ∧ Sat w0 F w' := by
  have HA := Lib.hid (dn_all hS)
  clear hS
  go_enter Try.func15, Try.ntmps15
  go_wp2
  refine wp_scope_straight (wp_seq (wp_label ?_))
  go_wp2_with (go_at_call 25; refine HA.out.mono ?_; rintro e w1 ⟨rfl, hS1⟩; have H1 := Lib.hid hS1; clear hS1)
  go_loopw [4, 10] (fun o i wr => i = vi 0 ∧ o = .slice none 0 0 ∧ Sat w0 F wr) (fun _ _ _ => 0)
  case atStart => exact ⟨rfl, rfl, H1.out⟩
  case round =>
    obtain ⟨rfl, rfl, hS⟩ := hrel
    have H := Lib.hid hS
    clear hS
    go_wp2
    simp only [Exit.noGoto]
    go_ret
    exact ⟨rfl, H.out⟩
end
end Go.Proofs.Ytfioghpnehfjhaa.Dm
