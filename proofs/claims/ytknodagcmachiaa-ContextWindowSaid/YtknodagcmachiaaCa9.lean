/-
  The arena's Len and Size at helmsman/api.Context. No statement is proved here.
-/
import Derived.Test.YtknodagcmachiaaCa8
namespace Go.Proofs.Ytknodagcmachiaa.Ac
open Go.RowKit Go.Shelf
open Fi (vi vu)
attribute [local go_sem] Oper.semAt_some
set_option linter.unusedVariables false
set_option linter.unusedSimpArgs false

section
variable {w0 w : World} {p : Nat} {ps : List Pl} {free : List Nat} {F : Hp}
theorem da_size (h : Sat w0 (tblP p ps free * F) w) : Calls Try.prog 61 #[vp p] w fun e w' => e = .returned (vi ps.length) ∧ Sat w0 (tblP p ps free * F) w' := by
  obtain ⟨s, hs⟩ := open_ h
  have c0 := hs.c0
  have HN := Lib.hid (none_ hs)
  have H := Lib.hid h
  clear h hs
  go_enter Try.func61, Try.ntmps61
  go_wp2_with (go_at_call 73; (with_reducible refine HN.out.mono ?_); rintro e w1 ⟨rfl, rfl⟩)
  go_ret
  exact ⟨rfl, H.out⟩
/-- The count. -/
abbrev cntH (bn : Nat) (F : Hp) (l : List (Nat × Int × El)) : Hp := pc bn 3 [vi l.length] * F
set_option maxRecDepth 100000 in
set_option maxHeartbeats 4000000 in
theorem da_len (hS : Sat w0 (tblP p ps free * F) w) (hsm : ps.length ≤ 4096) : Calls Try.prog 72 #[vp p] w fun e w' => e = .returned (vi (seen ps ps.length).length) ∧ Sat w0 (tblP p ps free * F) w' := by
  have hB : Sat w0 (pc w.heap.size 3 [vi 0] * (tblP p ps free * F)) (w.alloc (.cells #[vi 0] 3)) := hS.alloc _
  have HA := Lib.hid (da_all hB.pull2)
  clear hS hB
  generalize hwb : w.alloc (.cells #[vi 0] 3) = wb at *
  generalize hb1 : w.heap.size = bn at *
  have HW := Lib.hid hwb
  have HB1 := Lib.hid hb1
  clear hwb hb1
  refine (callsIn_wide (n := 9)).1 ?_
  refine callsIn_of_wp_marks Try.func72 rfl trivial ?_ rfl
  simp only [Try.ntmps72, List.size_toArray, List.length_cons, List.length_nil, Nat.reduceAdd, Nat.reduceSub, Array.replicate_succ, Array.replicate_zero, List.push_toArray, List.append_toArray, List.nil_append, List.cons_append]
  gi_wp2_with fail
  refine ⟨trivial, ?_⟩
  rw [HW.out, HB1.out]
  refine (callsIn_wide.2 HA.out).mono ?_
  rintro e w1 ⟨bx, g, cap, rfl, hS⟩
  have h1 : Sat w0 (itP bx (.slice (some ⟨g, 0, none⟩) ps.length cap) ps * cntH bn (tblP p ps free * F) []) w1 := hS.cast (by
    show _ = _ * (pc bn 3 [vi 0] * _)
    ac_rfl)
  have H1 := Lib.hid h1
  clear hS h1
  gi_wp2
  refine wpIn_act ?_
  intro a0 ha0
  refine wpIn_range_sat (H' := itP bx (.slice (some ⟨g, 0, none⟩) ps.length cap) ps * cntH bn (tblP p ps free * F) (seen ps ps.length)) rfl (by omega) (gf := 93) (lb := #[vp bx]) (by rw [ha0]; rfl) trivial (enters_of Try.func93 (by kernel_rfl) rfl) H1.out ?call ?done
  case call =>
    intro fn ll DD R W hfn hR hS
    have hS : Sat w0 (itP bx (.slice (some ⟨g, 0, none⟩) ps.length cap) ps * (cntH bn (tblP p ps free * F) [] * (pt ll R * pt DD dmark))) W := hS.cast (by ac_rfl)
    refine (da_all1 8 (by omega) hsm (fun l => cntH bn (tblP p ps free * F) l * (pt ll R * pt DD dmark)) bx g cap ll ?_ hS).mono ?_
    · intro k a W2 F2 hk hth hS2
      have hlen := Nat.le_trans (seen_len ps k) (Nat.le_of_lt (List.getElem?_eq_some_iff.1 hk).1)
      clear hS hk
      obtain ⟨gen, there, retired, x⟩ := a
      dsimp only at hS2 ⊢
      generalize hl : seen ps k = l at *
      have h3 : Sat w0 (pt ll R * (pc bn 3 [vi l.length] * (itP bx (.slice (some ⟨g, 0, none⟩) ps.length cap) ps * ((tblP p ps free * F) * (pt DD dmark * F2))))) W2 := hS2.cast (by unfold cntH; ac_rfl)
      have H3 := Lib.hid h3
      have hw : IntKind.i64.wrap ((l.length : Int) + 1) = (l.length : Int) + 1 := IntWalk.i64_in _ (by omega)
      clear hS2 h3 hl
      have hY := yield_sat (P := Try.prog) (G := Fence.wide) (n := 8 - 1) (args := #[vr k gen, ev x]) (X' := itP bx (.slice (some ⟨g, 0, none⟩) ps.length cap) ps * (cntH bn (tblP p ps free * F) (l ++ [(k, gen, x)]) * (pt DD dmark * F2)))
        (A := fun a' W' => (∃ v6 v7, a' = { tmps := (a0.tmps.setIfInBounds 6 v6).setIfInBounds 7 v7, defers := [] }) ∧ W' = W2) hfn rfl hR H3.out ?ha ?assign ?body
      case ha =>
        rintro a' W' ⟨_, rfl⟩
        exact H3.out.blk.1
      case assign =>
        intro K hK
        have HK := Lib.hid hK
        clear hK hR
        subst ha0
        gi_wp2
        exact HK.out _ _ ⟨⟨_, _, rfl⟩, rfl⟩
      case body =>
        rintro B a' W' ⟨⟨v6, v7, rfl⟩, rfl⟩
        have h5 : Sat w0 (pt ll B * _) _ := H3.out.putObj (o' := B)
        have q0 := h5.pull2.cell 0 rfl
        have q1 := h5.pull2.free 0
        have H5 := Lib.hid h5
        clear h5 hR
        subst ha0
        simp only [List.setIfInBounds_toArray, List.set_cons_succ, List.set_cons_zero]
        generalize (W'.putObj ll B) = W3 at *
        gi_wp2
        have h7 := H5.out.pull2.store 0 (vi ((l.length : Int) + 1))
        exact h7.cast (by
          show pc bn 3 [vi ((l.length : Int) + 1)] * _ = _
          unfold cntH
          rw [List.length_append, List.length_singleton]
          show pc bn 3 [vi ((l.length + 1 : Nat) : Int)] * _ = _
          ac_rfl)
      exact hY.mono fun e W' h => ⟨h.1, h.2.cast (by ac_rfl)⟩
    · rintro e W' ⟨he, h⟩
      exact ⟨he, h.cast (by ac_rfl)⟩
  case done =>
    intro DD W hS
    have h3 : Sat w0 (pc bn 3 [vi (seen ps ps.length).length] * (pt DD dmark * (itP bx (.slice (some ⟨g, 0, none⟩) ps.length cap) ps * (tblP p ps free * F)))) W := hS.cast (by unfold cntH; ac_rfl)
    have o0 := h3.cell 0 rfl
    have hk := h3.pull2.blk.1
    have H4 := Lib.hid h3
    clear hS h3
    subst ha0
    gi_wp2
    refine ⟨by simp, .inl ⟨_, _, rfl, run_takeDeferred hk, ?_⟩⟩
    exact ⟨_, by simp [results, Try.f72, go_sem], rfl, H4.out.pull2.putObj.dropL.dropL.dropL⟩
end
end Go.Proofs.Ytknodagcmachiaa.Ac
