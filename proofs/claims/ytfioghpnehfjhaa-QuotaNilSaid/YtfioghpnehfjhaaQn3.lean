/-
  Law 10: Tight over an empty chain; the walk of QuotaNil. No statement is proved here.
-/
import Derived.Test.YtfioghpnehfjhaaQn2
import Derived.Test.YtfioghpnehfjhaaQk
namespace Go.Proofs.Ytfioghpnehfjhaa.Dm
open Go.RowKit Ad
set_option linter.unusedVariables false

section
variable {w0 w : World} {F : Hp}
set_option maxRecDepth 100000 in
set_option maxHeartbeats 2000000 in
theorem q_tight_none {H : Hp} (d : Value) (i g : Int) (hS : Sat w0 H w) (hC : ∀ (w1 : World) (F : Hp), Sat w0 (F * H) w1 → Calls Try.prog 17 #[d, vr i g] w1 fun e w' => ∃ vo vc, e = .returned (.slice vo 0 vc) ∧ Sat w0 (F * H) w') :
    Calls Try.prog 19 #[d, vr i g] w fun e w' => e = .returned (.tuple #[vr 0 0, .bool false]) ∧ Sat w0 H w' := by
  have hB0 := (hS.alloc (.cells #[vi i, vu g] 32)).alloc (.cells #[vi 0, vu 0] 32)
  rw [size1] at hB0
  have hB : Sat w0 (pc (w.heap.size + 1) 32 [vi 0, vu 0] * pc w.heap.size 32 [vi i, vu g] * H) ((w.alloc (.cells #[vi i, vu g] 32)).alloc (.cells #[vi 0, vu 0] 32)) := hB0.cast (by ac_rfl)
  have hB2 := hB.cast (show _ = pc w.heap.size 32 [vi i, vu g] * (pc (w.heap.size + 1) 32 [vi 0, vu 0] * H) by ac_rfl)
  have b0 := hB2.cell 0 rfl
  have b1 := hB2.cell 1 rfl
  have HC := Lib.hid (hC _ _ hB)
  clear hS hB hB0 hB2 hC
  generalize hwb : (w.alloc (.cells #[vi i, vu g] 32)).alloc (.cells #[vi 0, vu 0] 32) = wb at *
  generalize hb1 : w.heap.size + 1 = bx at *
  generalize hb2 : w.heap.size = b2 at *
  have HW := Lib.hid hwb
  have HB1 := Lib.hid hb1
  have HB2 := Lib.hid hb2
  clear hwb hb1 hb2
  go_enter Try.func19, Try.ntmps19
  go_wp2_with fail
  rw [HW.out, HB2.out, HB1.out]
  refine HC.out.mono ?_
  rintro e w1 ⟨vo, vc, rfl, hS1⟩
  have H1 := Lib.hid hS1
  clear hS1 b0 b1
  go_wp2
  go_loopw [14] (fun k wr => k = vi 0 ∧ Sat w0 (pc bx 32 [vi 0, vu 0] * pc b2 32 [vi i, vu g] * H) wr) (fun _ _ => 0)
  case atStart => exact ⟨rfl, H1.out⟩
  case round =>
    obtain ⟨rfl, hS⟩ := hrel
    have h2 := hS.cast (show _ = pc bx 32 [vi 0, vu 0] * (pc b2 32 [vi i, vu g] * H) by ac_rfl)
    have b0 := h2.cell 0 rfl
    have b1 := h2.cell 1 rfl
    have f0 := h2.free 0
    have f1 := h2.free 1
    have h3 := (h2.store 0 (vi 0)).store 1 (vu 0)
    have c0 := h3.cell 0 rfl
    have c1 := h3.cell 1 rfl
    have H3 := Lib.hid h3.dropL.dropL
    clear hS h2 h3
    go_wp2
    refine bodyPost_ret (v := .tuple #[vr 0 0, .bool false]) (by simp [results, Try.f19, go_sem, c0, c1]) rfl ?_
    exact ⟨rfl, H3.out⟩
theorem kn_tight0 (hS : Sat w0 F w) : Calls Try.prog 19 #[.pointer none, vr 1 1] w fun e w' => e = .returned (.tuple #[vr 0 0, .bool false]) ∧ Sat w0 F w' :=
  q_tight_none _ 1 1 hS fun w1 F' h1 => (dn_chain h1 1 1).mono fun e w' h => ⟨none, 0, h.1, h.2⟩
abbrev n0 : List Pl := [⟨1, true, false, ⟨0, 0, 1, 1, 1, 0, 0, 0, 0, 0, 0⟩⟩, ⟨1, false, false, ez⟩]
theorem n0_u : Used0 n0 := used_list (by simp [U64])
theorem n0_c : Ch n0 (1, 1) [] := rfl
theorem n0_new (hS : Sat w0 F w) : Calls Try.prog 18 #[vi 2, vi 1, vu 1, vu 1] w fun e w' => ∃ d p, e = .returned (.tuple #[vp d, vi 0]) ∧ Sat w0 (domB d p * (tblP p n0 [1] * F)) w' := dm_new 2 (by omega) (by omega) 1 1 1 (by unfold MayD; omega) hS
theorem n0_tight {d p : Nat} (hS : Sat w0 (domB d p * (tblP p n0 [1] * F)) w) : Calls Try.prog 19 #[vp d, vr 1 1] w fun e w' => e = .returned (.tuple #[vr 0 0, .bool false]) ∧ Sat w0 (domB d p * (tblP p n0 [1] * F)) w' := by
  refine q_tight_none (vp d) 1 1 hS fun w1 F' h1 => (dm_chain (h1.cast (show _ = domB d p * (tblP p n0 [1] * (F * F')) by ac_rfl)) 1 1 [] n0_c (by simp)).mono ?_
  rintro e w' ⟨v, rfl, h2⟩
  obtain ⟨vo, vc, rfl⟩ := h2.rd.len
  exact ⟨vo, vc, rfl, h2.dropL.cast (by ac_rfl)⟩
theorem n0_charge {d p : Nat} (hS : Sat w0 (domB d p * (tblP p n0 [1] * F)) w) : Calls Try.prog 11 #[vp d, vr 1 1] w fun e w' => e = .returned (.bool false) ∧ Sat w0 (domB d p * (tblP p n0 [1] * F)) w' := q_charge_no hS 1 1 [] n0_c (by simp) n0_u (by decide)
theorem n0_left {d p : Nat} (hS : Sat w0 (domB d p * (tblP p n0 [1] * F)) w) : Calls Try.prog 13 #[vp d, vr 1 1] w fun e w' => e = .returned (vu 0) ∧ Sat w0 (domB d p * (tblP p n0 [1] * F)) w' := q_Left hS 1 1 [] n0_c (by simp) n0_u
end
end Go.Proofs.Ytfioghpnehfjhaa.Dm
