/-
  Package domain: All. No statement is proved here.
-/
import Derived.Test.YtfioghpnehfjhaaDl1
namespace Go.Proofs.Ytfioghpnehfjhaa.Dm
open Go.RowKit Go.Shelf Ad
attribute [local go_sem] Oper.semAt_some
set_option linter.unusedVariables false

theorem Epd : SlT Try.prog 64 69 13 104 (.agg #[vi 0, vu 0, .int .i64 0, .int .u64 0, .int .i64 0, .int .u64 0, .int .u64 0, .int .i64 0, .int .u64 0, .int .i64 0, .int .i64 0, .int .u64 0, .int .i64 0]) := SlT.mk' Try.underlying64 (by kernel_rfl) rfl (by decide)
/-- Placed domains, as they lie in memory. -/
abbrev pdC (x : Nat × Int × El) : List Value := [vi x.1, vu x.2.1] ++ elC x.2.2
abbrev fpd (l : List (Nat × Int × El)) : List Value := l.flatMap pdC
theorem pd_one (x : Nat × Int × El) : ∀ u ∈ pdC x, u.oneCell' = true := by
  intro u hu
  simp only [List.mem_append] at hu
  rcases hu with hu | hu
  · simp at hu
    rcases hu with rfl | rfl <;> rfl
  · exact elOne x.2.2 u hu
theorem fpd_snoc (l : List (Nat × Int × El)) (x : Nat × Int × El) : fpd (l ++ [x]) = fpd l ++ pdC x := by simp [fpd]
theorem rdPd (w : World) (T : TypeId) (x : Nat × Int × El) {b : Nat} (hb : b = w.heap.size) : Rd (w.alloc (.cells (pdC x).toArray T)) 13 (.slice (some ⟨b, 0, none⟩) 1 1) 1 (pdC x) := by
  subst hb
  have h : Sat w (pc w.heap.size T (pdC x) * emp) (w.alloc (.cells (pdC x).toArray T)) := (Sat.start w).alloc _
  exact (h.slI (n := 1) (cap := 1) (size := 13) (xs := pdC x) (Nat.le_refl _) (by unfold maxLen; omega) (by simp) rfl).rd
def plH (bo : Nat) (F : Hp) (l : List (Nat × Int × El)) : Hp := ex fun v : Value => pc bo 64 [v] * (sl 69 13 v l.length (fpd l) * F)
section
variable {w0 w : World} {F : Hp} {d p : Nat} {ps : List Pl} {free : List Nat}
set_option maxRecDepth 100000 in
set_option maxHeartbeats 4000000 in
theorem dm_all (hS : Sat w0 (domB d p * (tblP p ps free * F)) w) (hsm : ps.length ≤ 4096) :
    Calls Try.prog 25 #[vp d] w fun e w' => ∃ v, e = .returned v ∧ Sat w0 (sl 69 13 v (seen ps ps.length).length (fpd (seen ps ps.length)) * (domB d p * (tblP p ps free * F))) w' := by
  have hB : Sat w0 (pc w.heap.size 64 [.slice none 0 0] * (domB d p * (tblP p ps free * F))) (w.alloc (.cells #[.slice none 0 0] 64)) := hS.alloc _
  have c0 := hB.pull2.cell 0 rfl
  have HN := Lib.hid (dm_none hB.pull2)
  have HA := Lib.hid (da_all hB.pull3)
  clear hS hB
  generalize hwb : w.alloc (.cells #[.slice none 0 0] 64) = wb at *
  generalize hb1 : w.heap.size = bo at *
  have HW := Lib.hid hwb
  have HB1 := Lib.hid hb1
  clear hwb hb1
  refine (callsIn_wide (n := 9)).1 ?_
  refine callsIn_of_wp_marks Try.func25 rfl trivial ?_ rfl
  simp only [Try.ntmps25, List.size_toArray, List.length_cons, List.length_nil, Nat.reduceAdd, Nat.reduceSub, Array.replicate_succ, Array.replicate_zero, List.push_toArray, List.append_toArray, List.nil_append, List.cons_append]
  gi_wp2_with fail
  refine ⟨trivial, ?_⟩
  rw [HW.out, HB1.out]
  refine (callsIn_wide.2 HN.out).mono ?_
  rintro e w' ⟨rfl, rfl⟩
  gi_wp2_with fail
  refine ⟨trivial, ?_⟩
  refine (callsIn_wide.2 HA.out).mono ?_
  rintro e w1 ⟨bx, g, cap, rfl, hS⟩
  have h1 : Sat w0 (itP bx (.slice (some ⟨g, 0, none⟩) ps.length cap) ps * plH bo (domB d p * (tblP p ps free * F)) []) w1 := by
    have h2 := hS.addNil 69 13
    refine (Sat.exI (f := fun v : Value => pc bo 64 [v] * (sl 69 13 v 0 (fpd []) * (domB d p * (tblP p ps free * F)))) (F := itP bx (.slice (some ⟨g, 0, none⟩) ps.length cap) ps) (.slice none 0 0) (h2.cast ?_)).cast ?_
    · show _ = (pc bo 64 [.slice none 0 0] * (sl 69 13 (.slice none 0 0) 0 [] * (domB d p * (tblP p ps free * F)))) * _
      ac_rfl
    · unfold plH
      ac_rfl
  have H1 := Lib.hid h1
  clear hS h1 c0
  gi_wp2
  refine wpIn_act ?_
  intro a0 ha0
  refine wpIn_range_sat (H' := itP bx (.slice (some ⟨g, 0, none⟩) ps.length cap) ps * plH bo (domB d p * (tblP p ps free * F)) (seen ps ps.length)) rfl (by omega) (gf := 75) (lb := #[vp bx]) (by rw [ha0]; rfl) trivial (enters_of Try.func75 (by kernel_rfl) rfl) H1.out ?call ?done
  case call =>
    intro fn ll DD R W hfn hR hS
    have hS : Sat w0 (itP bx (.slice (some ⟨g, 0, none⟩) ps.length cap) ps * (plH bo (domB d p * (tblP p ps free * F)) [] * (pt ll R * pt DD dmark))) W := hS.cast (by ac_rfl)
    refine (da_all1 8 (by omega) hsm (fun l => plH bo (domB d p * (tblP p ps free * F)) l * (pt ll R * pt DD dmark)) bx g cap ll ?_ hS).mono ?_
    · intro k a W2 F2 hk hth hS2
      have HLen := Lib.hid (Nat.le_trans (seen_len ps k) (Nat.le_of_lt (List.getElem?_eq_some_iff.1 hk).1))
      clear hS hk
      obtain ⟨gen, there, retired, ⟨v0, v1, v2, v3, v4, v5, v6, v7, v8, v9, v10⟩⟩ := a
      dsimp only at hS2 ⊢
      generalize seen ps k = l at *
      obtain ⟨v, hv⟩ := (hS2.cast (show _ = plH bo (domB d p * (tblP p ps free * F)) l * (itP bx (.slice (some ⟨g, 0, none⟩) ps.length cap) ps * (pt ll R * (pt DD dmark * F2))) by ac_rfl)).exE
      have h3 : Sat w0 (pt ll R * (pc bo 64 [v] * (sl 69 13 v l.length (fpd l) * (itP bx (.slice (some ⟨g, 0, none⟩) ps.length cap) ps * ((domB d p * (tblP p ps free * F)) * (pt DD dmark * F2)))))) W2 := hv.cast (by ac_rfl)
      obtain ⟨vo, vc, rfl⟩ := h3.pull3.rd.len
      have H3 := Lib.hid h3
      have h4' := (h3.alloc (.cells #[vi k, vu gen] 32)).alloc (elO (⟨v0, v1, v2, v3, v4, v5, v6, v7, v8, v9, v10⟩ : El))
      rw [size1] at h4'
      have h4 : Sat w0 (elB (W2.heap.size + 1) (⟨v0, v1, v2, v3, v4, v5, v6, v7, v8, v9, v10⟩ : El) * (pc W2.heap.size 32 [vi k, vu gen] * (pt ll R * (pc bo 64 [.slice vo l.length vc] * (sl 69 13 (.slice vo l.length vc) l.length (fpd l) * (itP bx (.slice (some ⟨g, 0, none⟩) ps.length cap) ps * ((domB d p * (tblP p ps free * F)) * (pt DD dmark * F2)))))))) ((W2.alloc (.cells #[vi k, vu gen] 32)).alloc (elO (⟨v0, v1, v2, v3, v4, v5, v6, v7, v8, v9, v10⟩ : El))) := h4'
      have h4 : Sat w0 (pt ll R * (pc W2.heap.size 32 [vi k, vu gen] * (elB (W2.heap.size + 1) (⟨v0, v1, v2, v3, v4, v5, v6, v7, v8, v9, v10⟩ : El) * (pc bo 64 [.slice vo l.length vc] * (sl 69 13 (.slice vo l.length vc) l.length (fpd l) * (itP bx (.slice (some ⟨g, 0, none⟩) ps.length cap) ps * ((domB d p * (tblP p ps free * F)) * (pt DD dmark * F2)))))))) ((W2.alloc (.cells #[vi k, vu gen] 32)).alloc (elO (⟨v0, v1, v2, v3, v4, v5, v6, v7, v8, v9, v10⟩ : El))) := h4.cast (by ac_rfl)
      have H4 := Lib.hid h4
      have hback : ∀ (B : Obj) (W' : World) (v' : Value), Sat w0 (pt ll B * (pc bo 64 [v'] * (sl 69 13 v' (l ++ [(k, gen, (⟨v0, v1, v2, v3, v4, v5, v6, v7, v8, v9, v10⟩ : El))]).length (fpd (l ++ [(k, gen, (⟨v0, v1, v2, v3, v4, v5, v6, v7, v8, v9, v10⟩ : El))])) * (itP bx (.slice (some ⟨g, 0, none⟩) ps.length cap) ps * ((domB d p * (tblP p ps free * F)) * (pt DD dmark * F2)))))) W' → Sat w0 (pt ll B * (itP bx (.slice (some ⟨g, 0, none⟩) ps.length cap) ps * (plH bo (domB d p * (tblP p ps free * F)) (l ++ [(k, gen, (⟨v0, v1, v2, v3, v4, v5, v6, v7, v8, v9, v10⟩ : El))]) * (pt DD dmark * F2)))) W' := fun B W' v' h => (Sat.exI (F := pt ll B * (itP bx (.slice (some ⟨g, 0, none⟩) ps.length cap) ps * (pt DD dmark * F2))) (f := fun v : Value => pc bo 64 [v] * (sl 69 13 v (l ++ [(k, gen, (⟨v0, v1, v2, v3, v4, v5, v6, v7, v8, v9, v10⟩ : El))]).length (fpd (l ++ [(k, gen, (⟨v0, v1, v2, v3, v4, v5, v6, v7, v8, v9, v10⟩ : El))])) * (domB d p * (tblP p ps free * F)))) v' (h.cast (by ac_rfl))).cast (by unfold plH; ac_rfl)
      have HBK := Lib.hid hback
      clear hS2 hv h3 h4 h4' hback
      have hY := yield_sat (P := Try.prog) (G := Fence.wide) (n := 8 - 1) (args := #[vr k gen, ev (⟨v0, v1, v2, v3, v4, v5, v6, v7, v8, v9, v10⟩ : El)]) (X' := itP bx (.slice (some ⟨g, 0, none⟩) ps.length cap) ps * (plH bo (domB d p * (tblP p ps free * F)) (l ++ [(k, gen, (⟨v0, v1, v2, v3, v4, v5, v6, v7, v8, v9, v10⟩ : El))]) * (pt DD dmark * F2)))
        (A := fun a' W' => a' = { tmps := (((a0.tmps.setIfInBounds 12 (vr k gen)).setIfInBounds 13 (ev (⟨v0, v1, v2, v3, v4, v5, v6, v7, v8, v9, v10⟩ : El))).setIfInBounds 3 (.pointer (some ⟨W2.heap.size, 0, none⟩))).setIfInBounds 4 (.pointer (some ⟨W2.heap.size + 1, 0, none⟩)), defers := [] } ∧ W' = (W2.alloc (.cells #[vi k, vu gen] 32)).alloc (elO (⟨v0, v1, v2, v3, v4, v5, v6, v7, v8, v9, v10⟩ : El))) hfn rfl hR H3.out ?ha ?assign ?body
      case ha =>
        rintro a' W' ⟨_, rfl⟩
        exact H4.out.blk.1
      case assign =>
        intro K hK
        have HK := Lib.hid hK
        clear hK hR
        subst ha0
        gi_wp2
        exact HK.out _ _ ⟨by simp, rfl⟩
      case body =>
        rintro B a' W' ⟨rfl, rfl⟩
        have h5 : Sat w0 (pt ll B * _) _ := H4.out.putObj (o' := B)
        have p0 := h5.pull2.cell 0 rfl
        have p1 := h5.pull2.cell 1 rfl
        have q0 := h5.pull3.cell 0 rfl
        have q1 := h5.pull3.cell 1 rfl
        have q2 := h5.pull3.cell 2 rfl
        have q3 := h5.pull3.cell 3 rfl
        have q4 := h5.pull3.cell 4 rfl
        have q5 := h5.pull3.cell 5 rfl
        have q6 := h5.pull3.cell 6 rfl
        have q7 := h5.pull3.cell 7 rfl
        have q8 := h5.pull3.cell 8 rfl
        have q9 := h5.pull3.cell 9 rfl
        have q10 := h5.pull3.cell 10 rfl
        have o0 := h5.pull4.cell 0 rfl
        have H5 := Lib.hid h5
        clear h5 hR
        subst ha0
        simp only [List.setIfInBounds_toArray, List.set_cons_succ, List.set_cons_zero]
        generalize (((W2.alloc (.cells #[vi k, vu gen] 32)).alloc (elO (⟨v0, v1, v2, v3, v4, v5, v6, v7, v8, v9, v10⟩ : El))).putObj ll B) = W3 at *
        generalize W2.heap.size = ba at *
        gi_wp2_with (first | (gi_at_builtin; refine wpListIn_append_sl Epd rfl (.tmp 14) (.tmp 18) rfl rfl ((H5.out.cast (show _ = sl 69 13 (.slice vo l.length vc) l.length (fpd l) * (pc bo 64 [.slice vo l.length vc] * (pt ll B * (pc ba 32 [vi k, vu gen] * (elB (ba + 1) (⟨v0, v1, v2, v3, v4, v5, v6, v7, v8, v9, v10⟩ : El) * (itP bx (.slice (some ⟨g, 0, none⟩) ps.length cap) ps * ((domB d p * (tblP p ps free * F)) * (pt DD dmark * F2))))))) by ac_rfl)).alloc' _) (by rfl) (rdPd _ _ (k, gen, (⟨v0, v1, v2, v3, v4, v5, v6, v7, v8, v9, v10⟩ : El)) rfl) (pd_one _) (by unfold maxLen; (have := HLen.out); omega) (by (have := HLen.out); omega) ?_; intro ao6 cap6 w6 hS6; have o6 := hS6.pull2.cell 0 rfl; have f6 := hS6.pull2.free 0; have H6 := Lib.hid hS6; clear hS6))
        have h7 := H6.out.pull2.store 0 (.slice ao6 (l.length + 1) cap6)
        refine HBK.out B _ (.slice ao6 (l.length + 1) cap6) ?_
        rw [fpd_snoc, List.length_append, List.length_singleton]
        exact (h7.cast (show _ = elB (ba + 1) (⟨v0, v1, v2, v3, v4, v5, v6, v7, v8, v9, v10⟩ : El) * (pc ba 32 [vi k, vu gen] * (pt ll B * (pc bo 64 [.slice ao6 (l.length + 1) cap6] * (sl 69 13 (.slice ao6 (l.length + 1) cap6) (l.length + 1) (fpd l ++ pdC (k, gen, (⟨v0, v1, v2, v3, v4, v5, v6, v7, v8, v9, v10⟩ : El))) * (itP bx (.slice (some ⟨g, 0, none⟩) ps.length cap) ps * ((domB d p * (tblP p ps free * F)) * (pt DD dmark * F2))))))) by simp only [List.set_cons_zero]; ac_rfl)).dropL.dropL
      exact hY.mono fun e W' h => ⟨h.1, h.2.cast (by ac_rfl)⟩
    · rintro e W' ⟨he, h⟩
      exact ⟨he, h.cast (by ac_rfl)⟩
  case done =>
    intro DD W hS
    obtain ⟨v, hv⟩ := (hS.cast (show _ = plH bo (domB d p * (tblP p ps free * F)) (seen ps ps.length) * (itP bx (.slice (some ⟨g, 0, none⟩) ps.length cap) ps * pt DD dmark) by ac_rfl)).exE
    have h3 : Sat w0 (pc bo 64 [v] * (pt DD dmark * (itP bx (.slice (some ⟨g, 0, none⟩) ps.length cap) ps * (sl 69 13 v (seen ps ps.length).length (fpd (seen ps ps.length)) * (domB d p * (tblP p ps free * F)))))) W := hv.cast (by ac_rfl)
    obtain ⟨vo, vc, rfl⟩ := h3.dropL.dropL.dropL.rd.len
    have o0 := h3.cell 0 rfl
    have o1 := h3.free 0
    have h4 := h3.store 0 (.slice vo (seen ps ps.length).length vc)
    have hne := h4.ne
    have hc := h4.cell 0 rfl
    have hk := h4.dropL.blk.1
    have H4 := Lib.hid h4
    clear hS hv h3 h4
    subst ha0
    gi_wp2
    generalize W.setCell ⟨bo, 0, none⟩ (.slice vo (seen ps ps.length).length vc) = W4 at *
    refine ⟨by simp, .inl ⟨_, _, rfl, run_takeDeferred hk, ?_⟩⟩
    have hc2 : (W4.putObj DD (.deferred none)).cell? ⟨bo, 0, none⟩ = some (.slice vo (seen ps ps.length).length vc) := (World.cell?_of_block (a := ⟨bo, 0, none⟩) (World.putObj_heap_other hne)).trans hc
    exact ⟨.slice vo (seen ps ps.length).length vc, by simp [results, Try.f25, go_sem, hc2], _, rfl, H4.out.pull2.putObj.dropL.dropL.dropL⟩
end
end Go.Proofs.Ytfioghpnehfjhaa.Dm
