/-
  Package gtable: All. No statement is proved here.
-/
import Derived.Test.YtffjckdaekamgaaGt3
import Derived.Test.YtffjckdaekamgaaGa8
namespace Go.Proofs.Ytffjckdaekamgaa.Gt
open Go.RowKit Go.Shelf Ag
attribute [local go_sem] Oper.semAt_some
set_option linter.unusedVariables false

theorem Epd : SlT Try.prog 42 50 21 168 (.agg #[vi 0, vu 0, .int .i64 0, .bool false, .int .i64 0, .int .u64 0, .int .i64 0, .int .u64 0, .int .u8 0, .int .i64 0, .int .i64 0, .int .u64 0, .int .u64 0, .int .u64 0, .int .u64 0, .int .u64 0, .int .u64 0, .int .u64 0, .int .u64 0, .int .i64 0, .int .u64 0]) := SlT.mk' Try.underlying42 (by kernel_rfl) rfl (by decide)
/-- Placed domains, as they lie in memory. -/
abbrev pdC (x : Nat × Int × El) : List Value := [vi x.1, vu x.2.1] ++ elC x.2.2
abbrev fpd (l : List (Nat × Int × El)) : List Value := l.flatMap pdC
theorem pd_one (x : Nat × Int × El) : ∀ u ∈ pdC x, u.oneCell' = true := by
  intro u hu
  simp only [List.mem_append] at hu
  rcases hu with hu | hu
  · simp at hu
    rcases hu with rfl | rfl <;> rfl
  · exact elOne x.2.2 u hu
theorem fpd_snoc (l : List (Nat × Int × El)) (x : Nat × Int × El) : fpd (l ++ [x]) = fpd l ++ pdC x := by simp [fpd]
theorem rdPd (w : World) (T : TypeId) (x : Nat × Int × El) {b : Nat} (hb : b = w.heap.size) : Rd (w.alloc (.cells (pdC x).toArray T)) 21 (.slice (some ⟨b, 0, none⟩) 1 1) 1 (pdC x) := by
  subst hb
  have h : Sat w (pc w.heap.size T (pdC x) * emp) (w.alloc (.cells (pdC x).toArray T)) := (Sat.start w).alloc _
  exact (h.slI (n := 1) (cap := 1) (size := 21) (xs := pdC x) (Nat.le_refl _) (by unfold maxLen; omega) (by simp) rfl).rd
def plH (bo : Nat) (F : Hp) (l : List (Nat × Int × El)) : Hp := ex fun v : Value => pc bo 42 [v] * (sl 50 21 v l.length (fpd l) * F)
section
variable {w0 w : World} {F : Hp} {d p : Nat} {ps : List Pl} {free : List Nat}
set_option maxRecDepth 100000 in
set_option maxHeartbeats 4000000 in
theorem gt_all (hS : Sat w0 (gtB d p * (tblP p ps free * F)) w) (hsm : ps.length ≤ 4096) :
    Calls Try.prog 14 #[vp d] w fun e w' => ∃ v, e = .returned v ∧ Sat w0 (sl 50 21 v (Ag.seen ps ps.length).length (fpd (Ag.seen ps ps.length)) * (gtB d p * (tblP p ps free * F))) w' := by
  have hB : Sat w0 (pc w.heap.size 42 [.slice none 0 0] * (gtB d p * (tblP p ps free * F))) (w.alloc (.cells #[.slice none 0 0] 42)) := hS.alloc _
  have c0 := hB.pull2.cell 0 rfl
  have HN := Lib.hid (gt_none hB.pull2)
  have HA := Lib.hid (Ag.da_all hB.pull3)
  clear hS hB
  generalize hwb : w.alloc (.cells #[.slice none 0 0] 42) = wb at *
  generalize hb1 : w.heap.size = bo at *
  have HW := Lib.hid hwb
  have HB1 := Lib.hid hb1
  clear hwb hb1
  refine (callsIn_wide (n := 9)).1 ?_
  refine callsIn_of_wp_marks Try.func14 rfl trivial ?_ rfl
  simp only [Try.ntmps14, List.size_toArray, List.length_cons, List.length_nil, Nat.reduceAdd, Nat.reduceSub, Array.replicate_succ, Array.replicate_zero, List.push_toArray, List.append_toArray, List.nil_append, List.cons_append]
  gi_wp2_with fail
  refine ⟨trivial, ?_⟩
  rw [HW.out, HB1.out]
  refine (callsIn_wide.2 HN.out).mono ?_
  rintro e w' ⟨rfl, rfl⟩
  gi_wp2_with fail
  refine ⟨trivial, ?_⟩
  refine (callsIn_wide.2 HA.out).mono ?_
  rintro e w1 ⟨bx, g, cap, rfl, hS⟩
  have h1 : Sat w0 (Ag.itP bx (.slice (some ⟨g, 0, none⟩) ps.length cap) ps * plH bo (gtB d p * (tblP p ps free * F)) []) w1 := by
    have h2 := hS.addNil 50 21
    refine (Sat.exI (f := fun v : Value => pc bo 42 [v] * (sl 50 21 v 0 (fpd []) * (gtB d p * (tblP p ps free * F)))) (F := Ag.itP bx (.slice (some ⟨g, 0, none⟩) ps.length cap) ps) (.slice none 0 0) (h2.cast ?_)).cast ?_
    · show _ = (pc bo 42 [.slice none 0 0] * (sl 50 21 (.slice none 0 0) 0 [] * (gtB d p * (tblP p ps free * F)))) * _
      ac_rfl
    · unfold plH
      ac_rfl
  have H1 := Lib.hid h1
  clear hS h1 c0
  gi_wp2
  refine Ag.wpIn_act ?_
  intro a0 ha0
  refine wpIn_range_sat (H' := Ag.itP bx (.slice (some ⟨g, 0, none⟩) ps.length cap) ps * plH bo (gtB d p * (tblP p ps free * F)) (Ag.seen ps ps.length)) rfl (by omega) (gf := 47) (lb := #[vp bx]) (by rw [ha0]; rfl) trivial (enters_of Try.func47 (by kernel_rfl) rfl) H1.out ?call ?done
  case call =>
    intro fn ll DD R W hfn hR hS
    have hS : Sat w0 (Ag.itP bx (.slice (some ⟨g, 0, none⟩) ps.length cap) ps * (plH bo (gtB d p * (tblP p ps free * F)) [] * (pt ll R * pt DD dmark))) W := hS.cast (by ac_rfl)
    refine (Ag.da_all1 8 (by omega) hsm (fun l => plH bo (gtB d p * (tblP p ps free * F)) l * (pt ll R * pt DD dmark)) bx g cap ll ?_ hS).mono ?_
    · intro k a W2 F2 hk hth hS2
      have HLen := Lib.hid (Nat.le_trans (Ag.seen_len ps k) (Nat.le_of_lt (List.getElem?_eq_some_iff.1 hk).1))
      clear hS hk
      obtain ⟨gen, there, retired, x⟩ := a
      dsimp only at hS2 ⊢
      generalize Ag.seen ps k = l at *
      obtain ⟨v, hv⟩ := (hS2.cast (show _ = plH bo (gtB d p * (tblP p ps free * F)) l * (Ag.itP bx (.slice (some ⟨g, 0, none⟩) ps.length cap) ps * (pt ll R * (pt DD dmark * F2))) by ac_rfl)).exE
      have h3 : Sat w0 (pt ll R * (pc bo 42 [v] * (sl 50 21 v l.length (fpd l) * (Ag.itP bx (.slice (some ⟨g, 0, none⟩) ps.length cap) ps * ((gtB d p * (tblP p ps free * F)) * (pt DD dmark * F2)))))) W2 := hv.cast (by ac_rfl)
      obtain ⟨vo, vc, rfl⟩ := h3.pull3.rd.len
      have H3 := Lib.hid h3
      have h40 := (h3.alloc (.cells #[vi k, vu gen] 25)).alloc (elO ez)
      rw [size1] at h40
      have h40 : Sat w0 (pc (W2.heap.size + 1) 29 (elC ez) * _) _ := h40
      have HTh := Lib.hid (Ag.there_ (n := 19) h40 rfl)
      have h4' := h40.stores (elC x) 0
      rw [Ag.setL_all (elC ez) (elC x) rfl] at h4'
      have h4 : Sat w0 (elB (W2.heap.size + 1) x * (pc W2.heap.size 25 [vi k, vu gen] * (pt ll R * (pc bo 42 [.slice vo l.length vc] * (sl 50 21 (.slice vo l.length vc) l.length (fpd l) * (Ag.itP bx (.slice (some ⟨g, 0, none⟩) ps.length cap) ps * ((gtB d p * (tblP p ps free * F)) * (pt DD dmark * F2)))))))) (World.setCells ((W2.alloc (.cells #[vi k, vu gen] 25)).alloc (elO ez)) (W2.heap.size + 1) 0 (elC x)) := h4'
      have h4 : Sat w0 (pt ll R * (pc W2.heap.size 25 [vi k, vu gen] * (elB (W2.heap.size + 1) x * (pc bo 42 [.slice vo l.length vc] * (sl 50 21 (.slice vo l.length vc) l.length (fpd l) * (Ag.itP bx (.slice (some ⟨g, 0, none⟩) ps.length cap) ps * ((gtB d p * (tblP p ps free * F)) * (pt DD dmark * F2)))))))) (World.setCells ((W2.alloc (.cells #[vi k, vu gen] 25)).alloc (elO ez)) (W2.heap.size + 1) 0 (elC x)) := h4.cast (by ac_rfl)
      have H4 := Lib.hid h4
      have hback : ∀ (B : Obj) (W' : World) (v' : Value), Sat w0 (pt ll B * (pc bo 42 [v'] * (sl 50 21 v' (l ++ [(k, gen, x)]).length (fpd (l ++ [(k, gen, x)])) * (Ag.itP bx (.slice (some ⟨g, 0, none⟩) ps.length cap) ps * ((gtB d p * (tblP p ps free * F)) * (pt DD dmark * F2)))))) W' → Sat w0 (pt ll B * (Ag.itP bx (.slice (some ⟨g, 0, none⟩) ps.length cap) ps * (plH bo (gtB d p * (tblP p ps free * F)) (l ++ [(k, gen, x)]) * (pt DD dmark * F2)))) W' := fun B W' v' h => (Sat.exI (F := pt ll B * (Ag.itP bx (.slice (some ⟨g, 0, none⟩) ps.length cap) ps * (pt DD dmark * F2))) (f := fun v : Value => pc bo 42 [v] * (sl 50 21 v (l ++ [(k, gen, x)]).length (fpd (l ++ [(k, gen, x)])) * (gtB d p * (tblP p ps free * F)))) v' (h.cast (by ac_rfl))).cast (by unfold plH; ac_rfl)
      have HBK := Lib.hid hback
      clear hS2 hv h3 h4 h4' h40 hback
      have hY := yield_sat (P := Try.prog) (G := Fence.wide) (n := 8 - 1) (args := #[vr k gen, ev x]) (X' := Ag.itP bx (.slice (some ⟨g, 0, none⟩) ps.length cap) ps * (plH bo (gtB d p * (tblP p ps free * F)) (l ++ [(k, gen, x)]) * (pt DD dmark * F2)))
        (A := fun a' W' => a' = { tmps := (((a0.tmps.setIfInBounds 12 (vr k gen)).setIfInBounds 13 (ev x)).setIfInBounds 3 (.pointer (some ⟨W2.heap.size, 0, none⟩))).setIfInBounds 4 (.pointer (some ⟨W2.heap.size + 1, 0, none⟩)), defers := [] } ∧ W' = World.setCells ((W2.alloc (.cells #[vi k, vu gen] 25)).alloc (elO ez)) (W2.heap.size + 1) 0 (elC x)) hfn rfl hR H3.out ?ha ?assign ?body
      case ha =>
        rintro a' W' ⟨_, rfl⟩
        exact H4.out.blk.1
      case assign =>
        intro K hK
        have HK := Lib.hid hK
        clear hK hR
        subst ha0
        gi_wp2_with (refine wpListIn_store_mid rfl 29 _ _ rfl (W2.heap.size + 1) 0 (elC x).toArray (by rfl) (by rfl) HTh.out einfo (all_oneCell_toArray (elOne x)) ?_)
        exact HK.out _ _ ⟨by simp, rfl⟩
      case body =>
        rintro B a' W' ⟨rfl, rfl⟩
        have h5 : Sat w0 (pt ll B * _) _ := H4.out.putObj (o' := B)
        have p0 := h5.pull2.cell 0 rfl
        have p1 := h5.pull2.cell 1 rfl
        have HLd := Lib.hid (Ag.range_ h5.pull3)
        have o0 := h5.pull4.cell 0 rfl
        have H5 := Lib.hid h5
        clear h5 hR
        subst ha0
        simp only [List.setIfInBounds_toArray, List.set_cons_succ, List.set_cons_zero]
        generalize ((World.setCells ((W2.alloc (.cells #[vi k, vu gen] 25)).alloc (elO ez)) (W2.heap.size + 1) 0 (elC x)).putObj ll B) = W3 at *
        generalize W2.heap.size = ba at *
        gi_wp2_with (first | (refine wpListIn_load_mid rfl 29 _ rfl (ba + 1) 0 (by rfl) (elC x) _ HLd.out Try.underlying29 rfl einfo ?_) | (gi_at_builtin; refine wpListIn_append_sl Epd rfl (.tmp 14) (.tmp 18) rfl rfl ((H5.out.cast (show _ = sl 50 21 (.slice vo l.length vc) l.length (fpd l) * (pc bo 42 [.slice vo l.length vc] * (pt ll B * (pc ba 25 [vi k, vu gen] * (elB (ba + 1) x * (Ag.itP bx (.slice (some ⟨g, 0, none⟩) ps.length cap) ps * ((gtB d p * (tblP p ps free * F)) * (pt DD dmark * F2))))))) by ac_rfl)).alloc' _) (by rfl) (rdPd _ _ (k, gen, x) rfl) (pd_one _) (by unfold maxLen; (have := HLen.out); omega) (by (have := HLen.out); omega) ?_; intro ao6 cap6 w6 hS6; have o6 := hS6.pull2.cell 0 rfl; have f6 := hS6.pull2.free 0; have H6 := Lib.hid hS6; clear hS6))
        have h7 := H6.out.pull2.store 0 (.slice ao6 (l.length + 1) cap6)
        refine HBK.out B _ (.slice ao6 (l.length + 1) cap6) ?_
        rw [fpd_snoc, List.length_append, List.length_singleton]
        exact (h7.cast (show _ = elB (ba + 1) x * (pc ba 25 [vi k, vu gen] * (pt ll B * (pc bo 42 [.slice ao6 (l.length + 1) cap6] * (sl 50 21 (.slice ao6 (l.length + 1) cap6) (l.length + 1) (fpd l ++ pdC (k, gen, x)) * (Ag.itP bx (.slice (some ⟨g, 0, none⟩) ps.length cap) ps * ((gtB d p * (tblP p ps free * F)) * (pt DD dmark * F2))))))) by simp only [List.set_cons_zero]; ac_rfl)).dropL.dropL
      exact hY.mono fun e W' h => ⟨h.1, h.2.cast (by ac_rfl)⟩
    · rintro e W' ⟨he, h⟩
      exact ⟨he, h.cast (by ac_rfl)⟩
  case done =>
    intro DD W hS
    obtain ⟨v, hv⟩ := (hS.cast (show _ = plH bo (gtB d p * (tblP p ps free * F)) (Ag.seen ps ps.length) * (Ag.itP bx (.slice (some ⟨g, 0, none⟩) ps.length cap) ps * pt DD dmark) by ac_rfl)).exE
    have h3 : Sat w0 (pc bo 42 [v] * (pt DD dmark * (Ag.itP bx (.slice (some ⟨g, 0, none⟩) ps.length cap) ps * (sl 50 21 v (Ag.seen ps ps.length).length (fpd (Ag.seen ps ps.length)) * (gtB d p * (tblP p ps free * F)))))) W := hv.cast (by ac_rfl)
    obtain ⟨vo, vc, rfl⟩ := h3.dropL.dropL.dropL.rd.len
    have o0 := h3.cell 0 rfl
    have o1 := h3.free 0
    have h4 := h3.store 0 (.slice vo (Ag.seen ps ps.length).length vc)
    have hne := h4.ne
    have hc := h4.cell 0 rfl
    have hk := h4.dropL.blk.1
    have H4 := Lib.hid h4
    clear hS hv h3 h4
    subst ha0
    gi_wp2
    generalize W.setCell ⟨bo, 0, none⟩ (.slice vo (Ag.seen ps ps.length).length vc) = W4 at *
    refine ⟨by simp, .inl ⟨_, _, rfl, run_takeDeferred hk, ?_⟩⟩
    have hc2 : (W4.putObj DD (.deferred none)).cell? ⟨bo, 0, none⟩ = some (.slice vo (Ag.seen ps ps.length).length vc) := (World.cell?_of_block (a := ⟨bo, 0, none⟩) (World.putObj_heap_other hne)).trans hc
    exact ⟨.slice vo (Ag.seen ps ps.length).length vc, by simp [results, Try.f14, go_sem, hc2], _, rfl, H4.out.pull2.putObj.dropL.dropL.dropL⟩
end
end Go.Proofs.Ytffjckdaekamgaa.Gt
