/-
  The arena's Len and Size at helmsman/api.Context. No statement is proved here.
-/
import Derived.Test.YtknodagcmachiaaCa8
import Derived.Test.YtknodagcmachiaaMg5
import Derived.Test.YtknodagcmachiaaCx1
namespace Go.Proofs.Ytknodagcmachiaa.Ac
open Go.RowKit Go.Shelf
open Fi (vi vu)
attribute [local go_sem] Oper.semAt_some
set_option linter.unusedVariables false
set_option linter.unusedSimpArgs false

section
variable {w0 w : World} {p : Nat} {ps : List Pl} {free : List Nat} {F : Hp}
theorem da_size (h : Sat w0 (tblP p ps free * F) w) : Calls Try.prog 61 #[vp p] w fun e w' => e = .returned (vi ps.length) ∧ Sat w0 (tblP p ps free * F) w' := by
  obtain ⟨s, hs⟩ := open_ h
  have c0 := hs.c0
  have HN := Lib.hid (none_ hs)
  have H := Lib.hid h
  clear h hs
  go_enter Try.func61, Try.ntmps61
  go_wp2_with (go_at_call 73; (with_reducible refine HN.out.mono ?_); rintro e w1 ⟨rfl, rfl⟩)
  go_ret
  exact ⟨rfl, H.out⟩
/-- The count. -/
abbrev cntH (bn : Nat) (F : Hp) (l : List (Nat × Int × El)) : Hp := pc bn 3 [vi l.length] * F
set_option maxRecDepth 100000 in
set_option maxHeartbeats 4000000 in
theorem da_len (hS : Sat w0 (tblP p ps free * F) w) (hsm : ps.length ≤ 4096) : Calls Try.prog 72 #[vp p] w fun e w' => e = .returned (vi (seen ps ps.length).length) ∧ Sat w0 (tblP p ps free * F) w' := by
  have hB : Sat w0 (pc w.heap.size 3 [vi 0] * (tblP p ps free * F)) (w.alloc (.cells #[vi 0] 3)) := hS.alloc _
  have HA := Lib.hid (da_all hB.pull2)
  clear hS hB
  generalize hwb : w.alloc (.cells #[vi 0] 3) = wb at *
  generalize hb1 : w.heap.size = bn at *
  have HW := Lib.hid hwb
  have HB1 := Lib.hid hb1
  clear hwb hb1
  refine (callsIn_wide (n := 9)).1 ?_
  refine callsIn_of_wp_marks Try.func72 rfl trivial ?_ rfl
  simp only [Try.ntmps72, List.size_toArray, List.length_cons, List.length_nil, Nat.reduceAdd, Nat.reduceSub, Array.replicate_succ, Array.replicate_zero, List.push_toArray, List.append_toArray, List.nil_append, List.cons_append]
  gi_wp2_with fail
  refine ⟨trivial, ?_⟩
  rw [HW.out, HB1.out]
  refine (callsIn_wide.2 HA.out).mono ?_
  rintro e w1 ⟨bx, g, cap, rfl, hS⟩
  have h1 : Sat w0 (itP bx (.slice (some ⟨g, 0, none⟩) ps.length cap) ps * cntH bn (tblP p ps free * F) []) w1 := hS.cast (by
    show _ = _ * (pc bn 3 [vi 0] * _)
    ac_rfl)
  have H1 := Lib.hid h1
  clear hS h1
  gi_wp2
  refine wpIn_act ?_
  intro a0 ha0
  refine wpIn_range_sat (H' := itP bx (.slice (some ⟨g, 0, none⟩) ps.length cap) ps * cntH bn (tblP p ps free * F) (seen ps ps.length)) rfl (by omega) (gf := 93) (lb := #[vp bx]) (by rw [ha0]; rfl) trivial (enters_of Try.func93 (by kernel_rfl) rfl) H1.out ?call ?done
  case call =>
    intro fn ll DD R W hfn hR hS
    have hS : Sat w0 (itP bx (.slice (some ⟨g, 0, none⟩) ps.length cap) ps * (cntH bn (tblP p ps free * F) [] * (pt ll R * pt DD dmark))) W := hS.cast (by ac_rfl)
    refine (da_all1 8 (by omega) hsm (fun l => cntH bn (tblP p ps free * F) l * (pt ll R * pt DD dmark)) bx g cap ll ?_ hS).mono ?_
    · intro k a W2 F2 hk hth hS2
      have hlen := Nat.le_trans (seen_len ps k) (Nat.le_of_lt (List.getElem?_eq_some_iff.1 hk).1)
      clear hS hk
      obtain ⟨gen, there, retired, x⟩ := a
      dsimp only at hS2 ⊢
      generalize hl : seen ps k = l at *
      have h3 : Sat w0 (pt ll R * (pc bn 3 [vi l.length] * (itP bx (.slice (some ⟨g, 0, none⟩) ps.length cap) ps * ((tblP p ps free * F) * (pt DD dmark * F2))))) W2 := hS2.cast (by unfold cntH; ac_rfl)
      have H3 := Lib.hid h3
      have hw : IntKind.i64.wrap ((l.length : Int) + 1) = (l.length : Int) + 1 := IntWalk.i64_in _ (by omega)
      clear hS2 h3 hl
      have hY := yield_sat (P := Try.prog) (G := Fence.wide) (n := 8 - 1) (args := #[vr k gen, ev x]) (X' := itP bx (.slice (some ⟨g, 0, none⟩) ps.length cap) ps * (cntH bn (tblP p ps free * F) (l ++ [(k, gen, x)]) * (pt DD dmark * F2)))
        (A := fun a' W' => (∃ v6 v7, a' = { tmps := (a0.tmps.setIfInBounds 6 v6).setIfInBounds 7 v7, defers := [] }) ∧ W' = W2) hfn rfl hR H3.out ?ha ?assign ?body
      case ha =>
        rintro a' W' ⟨_, rfl⟩
        exact H3.out.blk.1
      case assign =>
        intro K hK
        have HK := Lib.hid hK
        clear hK hR
        subst ha0
        gi_wp2
        exact HK.out _ _ ⟨⟨_, _, rfl⟩, rfl⟩
      case body =>
        rintro B a' W' ⟨⟨v6, v7, rfl⟩, rfl⟩
        have h5 : Sat w0 (pt ll B * _) _ := H3.out.putObj (o' := B)
        have q0 := h5.pull2.cell 0 rfl
        have q1 := h5.pull2.free 0
        have H5 := Lib.hid h5
        clear h5 hR
        subst ha0
        simp only [List.setIfInBounds_toArray, List.set_cons_succ, List.set_cons_zero]
        generalize (W'.putObj ll B) = W3 at *
        gi_wp2
        have h7 := H5.out.pull2.store 0 (vi ((l.length : Int) + 1))
        exact h7.cast (by
          show pc bn 3 [vi ((l.length : Int) + 1)] * _ = _
          unfold cntH
          rw [List.length_append, List.length_singleton]
          show pc bn 3 [vi ((l.length + 1 : Nat) : Int)] * _ = _
          ac_rfl)
      exact hY.mono fun e W' h => ⟨h.1, h.2.cast (by ac_rfl)⟩
    · rintro e W' ⟨he, h⟩
      exact ⟨he, h.cast (by ac_rfl)⟩
  case done =>
    intro DD W hS
    have h3 : Sat w0 (pc bn 3 [vi (seen ps ps.length).length] * (pt DD dmark * (itP bx (.slice (some ⟨g, 0, none⟩) ps.length cap) ps * (tblP p ps free * F)))) W := hS.cast (by unfold cntH; ac_rfl)
    have o0 := h3.cell 0 rfl
    have hk := h3.pull2.blk.1
    have H4 := Lib.hid h3
    clear hS h3
    subst ha0
    gi_wp2
    refine ⟨by simp, .inl ⟨_, _, rfl, run_takeDeferred hk, ?_⟩⟩
    exact ⟨_, by simp [results, Try.f72, go_sem], rfl, H4.out.pull2.putObj.dropL.dropL.dropL⟩
end
end Go.Proofs.Ytknodagcmachiaa.Ac

namespace Go.Proofs.Ytknodagcmachiaa.Ac
open Go.RowKit
open Fi (vi vu)
set_option linter.unusedVariables false

section
variable {w0 w : World} {F : Hp}
set_option maxRecDepth 100000 in
set_option maxHeartbeats 2000000 in
theorem clone_frees {v : Value} {xs : List Nat} (h : Sat w0 (sl 3 1 v xs.length (xs.map fun k : Nat => vi k) * F) w) (hl : xs.length ≤ 4096) :
    Calls Try.prog 96 #[v] w fun e w' => ∃ u, e = .returned u ∧ Sat w0 (sl 3 1 u xs.length (xs.map fun k : Nat => vi k) * (sl 3 1 v xs.length (xs.map fun k : Nat => vi k) * F)) w' := by
  have hone : ∀ u ∈ xs.map (fun k : Nat => vi k), u.oneCell' = true := by
    intro u hu
    obtain ⟨k, _, rfl⟩ := List.mem_map.1 hu
    rfl
  have hone := Lib.hid hone
  have hn := @Lib.run_eql_slice_nil Try.prog
  have H := Lib.hid h
  rcases h.slE.2 with ⟨rfl, h0, _⟩ | ⟨g, c, cur, rfl, _⟩
  · clear h
    have hx : xs = [] := List.eq_nil_of_length_eq_zero h0
    subst hx
    go_enter Try.func96, Try.ntmps96
    go_wp2
    go_ret
    exact ⟨_, rfl, H.out.addNil _ _⟩
  · clear h
    go_enter Try.func96, Try.ntmps96
    go_wp2_with (at_builtin; refine wpList_append_sl Einti rfl (.tmp 5) (.tmp 6) rfl (by rfl) (H.out.sl0 3 1) (by rfl) ((H.out.alloc' _).rd) hone.out (by unfold maxLen; omega) (by omega) ?_; intro ao1 cap1 w1 hS1; simp only [Nat.zero_add, List.nil_append] at hS1)
    go_ret
    exact ⟨_, rfl, hS1⟩

set_option maxRecDepth 100000 in
set_option maxHeartbeats 2000000 in
theorem da_copy {p : Nat} {ps : List Pl} {free : List Nat} (h : Sat w0 (tblP p ps free * F) w) :
    Calls Try.prog 60 #[vp p] w fun e w' => ∃ q, e = .returned (vp q) ∧ Sat w0 (tblP q ps free * (tblP p ps free * F)) w' := by
  obtain ⟨s, hs⟩ := open_ h
  have hok := hs.ok
  have hpos := hok.pos
  have hsm := hok.small
  have hfs := hok.fsmall
  have HN := Lib.hid (none_ hs)
  have HS := Lib.hid hs.sat
  have HOK := Lib.hid hok
  have HC : Hid (∀ w', Sat w0 (tblB p s ps.length free.length * (tblL s ps * (tblF s free * F))) w' → Calls Try.prog 92 #[.slice (some ⟨s.a, 0, none⟩) ps.length s.cap] w' fun e w' => ∃ g cap, e = .returned (.slice (some ⟨g, 0, none⟩) ps.length cap) ∧ Sat w0 (sl 110 7 (.slice (some ⟨g, 0, none⟩) ps.length cap) ps.length (flat ps) * (tblB p s ps.length free.length * (tblL s ps * (tblF s free * F)))) w') :=
    Lib.hid fun w' h' => clone_places h' (fun w2 h2 => h2.pull2.rd) hsm hpos
  have c0 := hs.c0
  have c1 := hs.c1
  clear h hs hok
  go_enter Try.func60, Try.ntmps60
  go_wp2_with (go_at_call 73; refine HN.out.mono ?_; rintro e w' ⟨rfl, rfl⟩)
  go_region_held3 (fun w' => w'.cell? ⟨p, 0, none⟩ = some (.slice (some ⟨s.a, 0, none⟩) ps.length s.cap) ∧ w'.cell? ⟨p, 1, none⟩ = some (.slice s.fo free.length s.fcap))
    (first | exact ⟨d0, d1⟩ | exact ⟨e0, e1⟩ | go_keep)
    (first
      | (go_at_call 92; refine (HC.out _ (HS.out.drewN 1)).mono ?_; rintro e w1 ⟨g, gcap, rfl, hS1⟩; have d0 := hS1.pull2.cell 0 rfl; have d1 := hS1.pull2.cell 1 rfl; have H1 := Lib.hid hS1; clear hS1)
      | (go_at_call 96; refine (clone_frees H1.out.pull4 hfs).mono ?_; rintro e w2 ⟨u, rfl, hS2⟩; obtain ⟨uo, ucap, rfl⟩ := hS2.rd.len; have hS3 := hS2.cast (show _ = tblB p s ps.length free.length * (sl 3 1 (.slice uo free.length ucap) free.length (free.map fun k : Nat => vi k) * (sl 3 1 (s.fv free.length) free.length (free.map fun k : Nat => vi k) * (sl 110 7 (.slice (some ⟨g, 0, none⟩) ps.length gcap) ps.length (flat ps) * (tblL s ps * F)))) by (generalize tblB p s ps.length free.length = X1; generalize tblL s ps = X2; ac_rfl)); have e0 := hS3.cell 0 rfl; have e1 := hS3.cell 1 rfl; have H2 := Lib.hid hS3; clear hS2 hS3))
  go_wp2
  go_ret
  refine ⟨w2.heap.size, rfl, ?_⟩
  have b1 := H2.out.alloc (.cells #[.slice (some ⟨g, 0, none⟩) ps.length gcap, .slice uo free.length ucap] 108)
  have b2 : Sat w0 (tblB w2.heap.size ⟨g, gcap, uo, ucap⟩ ps.length free.length * (tblL ⟨g, gcap, uo, ucap⟩ ps * (tblF ⟨g, gcap, uo, ucap⟩ free * (tblB p s ps.length free.length * (tblL s ps * (tblF s free * F)))))) (w2.alloc (.cells #[.slice (some ⟨g, 0, none⟩) ps.length gcap, .slice uo free.length ucap] 108)) := b1.cast (by
    show pc w2.heap.size 108 [.slice (some ⟨g, 0, none⟩) ps.length gcap, .slice uo free.length ucap] * _ = _
    simp only [tblB, tblL, tblF, TblS.lv, TblS.fv]
    ac_rfl)
  have b3 := TblIs.shut (s := ⟨g, gcap, uo, ucap⟩) ⟨HOK.out, b2⟩
  have b4 : Sat w0 (tblB p s ps.length free.length * (tblL s ps * (tblF s free * (tblP w2.heap.size ps free * F)))) (w2.alloc (.cells #[.slice (some ⟨g, 0, none⟩) ps.length gcap, .slice uo free.length ucap] 108)) := b3.cast (by
    generalize tblB p s ps.length free.length = X1
    generalize tblL s ps = X2
    generalize tblF s free = X3
    ac_rfl)
  exact (TblIs.shut (s := s) ⟨HOK.out, b4⟩).pull2

end
end Go.Proofs.Ytknodagcmachiaa.Ac

namespace Go.Proofs.Ytknodagcmachiaa.Cn
open Go.RowKit Ac Fi
set_option linter.unusedVariables false
set_option linter.unusedSimpArgs false

section
variable {w0 w : World} {F : Hp} {h p : Nat} {most : Int} {ps : List Pl} {free : List Nat} {L : Blks} {l : List Rf}
set_option maxRecDepth 100000 in
set_option maxHeartbeats 2000000 in
theorem cx_len (hS : Sat w0 (cxB h p most * (tblP p ps free * (F))) w) (hsm : ps.length ≤ 4096) :
    Calls Try.prog 33 #[vp h] w fun e w' => e = .returned (vi (Ac.seen ps ps.length).length) ∧ Sat w0 (cxB h p most * (tblP p ps free * (F))) w' := by
  have HN := Lib.hid (cx_none hS)
  have HL := Lib.hid (da_len hS.pull2 hsm)
  have c0 := hS.cell 0 rfl
  clear hS
  go_enter Try.func33, Try.ntmps33
  go_wp2_with (first
    | (go_at_call 35; refine HN.out.mono ?_; rintro e w' ⟨rfl, rfl⟩)
    | (go_at_call 72; refine HL.out.mono ?_; rintro e w1 ⟨rfl, hS1⟩; have H1 := Lib.hid hS1; clear hS1))
  go_ret
  exact ⟨rfl, H1.out.pull2⟩
set_option maxRecDepth 100000 in
set_option maxHeartbeats 2000000 in
theorem cx_copy (hS : Sat w0 (cxB h p most * (tblP p ps free * (F))) w) :
    Calls Try.prog 25 #[vp h] w fun e w' => ∃ o q, e = .returned (vp o) ∧ Sat w0 (cxB o q most * (tblP q ps free * (cxB h p most * (tblP p ps free * (F))))) w' := by
  have HN := Lib.hid (cx_none hS)
  have HC := Lib.hid (da_copy hS.drew.pull2)
  have HS := Lib.hid hS
  clear hS
  have ka0 := (HS.out).cell 0 rfl; have ka1 := (HS.out).cell 1 rfl
  go_enter Try.func25, Try.ntmps25
  go_wp2_with (go_at_call 35; refine HN.out.mono ?_; rintro e w' ⟨rfl, rfl⟩)
  go_region_held3 (fun w' : World => w'.cell? ⟨h, 0, none⟩ = some (vp p) ∧ w'.cell? ⟨h, 1, none⟩ = some (vi most))
    (first | exact ⟨ka0, ka1⟩ | exact ⟨kb0, kb1⟩ | go_keep)
    ((go_at_call 60; refine HC.out.mono ?_; rintro e w1 ⟨q, rfl, hS1⟩; have H1 := Lib.hid ((hS1).cast (show _ = tblP q ps free * (cxB h p most * (tblP p ps free * (F))) by ac_rfl)); clear hS1; have kb0 := (H1.out).dropL.cell 0 rfl; have kb1 := (H1.out).dropL.cell 1 rfl))
  go_wp2
  go_ret
  exact ⟨w1.heap.size, q, rfl, H1.out.alloc (.cells #[vp q, vi most] 70)⟩
end
end Go.Proofs.Ytknodagcmachiaa.Cn
