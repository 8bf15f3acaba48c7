/-
  Package domain: up, Chain. No statement is proved here.
-/
import Derived.Test.YtdbppfcilaajaaaGreatMg21
import Derived.RangeFuncCalls
namespace Go.Proofs.YtdbppfcilaajaaaGreat.Dm
open Go.RowKit Go.Shelf Ad
attribute [local go_sem] Oper.semAt_some
set_option linter.unusedVariables false

/-- The frame, by a name. -/
theorem wpIn_act {Fe : Fence} {n : Nat} {P : Program} {c : Code} {Q : Exit → Act → World → Prop} {a : Act} {w : World} (h : ∀ a', a' = a → c.wpIn Fe n P Q a' w) : c.wpIn Fe n P Q a w := h a rfl
theorem Eref : SlT Tryz.prog 37 30 2 16 (.agg #[vi 0, vu 0]) := SlT.mk' Tryz.underlying37 (by kernel_rfl) rfl (by decide)
theorem rdTwo (w : World) (T : TypeId) (x y : Value) {b : Nat} (hb : b = w.heap.size) : Rd (w.alloc (.cells #[x, y] T)) 2 (.slice (some ⟨b, 0, none⟩) 1 1) 1 [x, y] := by
  subst hb
  have h : Sat w (pc w.heap.size T [x, y] * emp) (w.alloc (.cells #[x, y] T)) := (Sat.start w).alloc _
  exact (h.slI (n := 1) (cap := 1) (size := 2) (xs := [x, y]) (Nat.le_refl _) (by unfold maxLen; omega) (by simp) rfl).rd

/-- Refs, as they lie in memory. -/
abbrev frefs (l : List (Int × Int)) : List Value := l.flatMap fun r => [vi r.1, vu r.2]
theorem frefs_snoc (l : List (Int × Int)) (r : Int × Int) : frefs (l ++ [r]) = frefs l ++ [vi r.1, vu r.2] := by simp [frefs]

/-- Who stands around whom. -/
def upR (ps : List Pl) (r : Int × Int) : Int × Int := ((getX ps r.1 r.2).v0, (getX ps r.1 r.2).v1)
def refAt (ps : List Pl) (r : Int × Int) : Nat → Int × Int
  | 0 => r
  | k + 1 => upR ps (refAt ps r k)
theorem refAt_up (ps : List Pl) (r : Int × Int) : ∀ k, refAt ps (upR ps r) k = refAt ps r (k + 1)
  | 0 => rfl
  | k + 1 => by
    show upR ps (refAt ps (upR ps r) k) = upR ps (refAt ps r (k + 1))
    rw [refAt_up ps r k]
/-- A chain: itself, and those around it. -/
def Ch (ps : List Pl) : Int × Int → List (Int × Int) → Prop
  | r, [] => getE ps r.1 r.2 = 11
  | r, x :: l => x = r ∧ getE ps r.1 r.2 = 0 ∧ Ch ps (upR ps r) l
theorem Ch.at_ {ps : List Pl} : ∀ {l : List (Int × Int)} {r : Int × Int}, Ch ps r l → (∀ k, k < l.length → l[k]? = some (refAt ps r k) ∧ getE ps (refAt ps r k).1 (refAt ps r k).2 = 0) ∧ getE ps (refAt ps r l.length).1 (refAt ps r l.length).2 = 11
  | [], r, h => ⟨fun k hk => by simp at hk, h⟩
  | x :: l, r, h => by
    obtain ⟨rfl, he, hc⟩ := h
    obtain ⟨h1, h2⟩ := hc.at_
    refine ⟨fun k hk => ?_, ?_⟩
    · cases k with
      | zero => exact ⟨rfl, he⟩
      | succ k =>
        have := h1 k (by simpa using hk)
        rw [refAt_up] at this
        exact this
    · rw [refAt_up] at h2
      exact h2

section
variable {w0 w : World} {F : Hp} {d p : Nat} {ps : List Pl} {free : List Nat}
set_option maxRecDepth 100000 in
set_option maxHeartbeats 1000000 in
theorem dm_up (hS : Sat w0 F w) (i g : Int) : Calls Tryz.prog 197 #[vp d, vr i g] w fun e w' => ∃ bd br, e = .returned (.func (.func 231) #[] #[vp bd, vp br]) ∧ Sat w0 (pc br 30 [vi i, vu g] * (pc bd 81 [vp d] * F)) w' := by
  have hB := (hS.alloc (.cells #[vp d] 81)).alloc (.cells #[vi i, vu g] 30)
  rw [size1] at hB
  have HB := Lib.hid hB
  clear hS hB
  go_enter Tryz.func197, Tryz.ntmps197
  go_wp2
  go_ret
  exact ⟨_, _, rfl, HB.out⟩

/-- What the walk over a chain has of its own. -/
def chH (bo : Nat) (l : List (Int × Int)) (F : Hp) (k : Nat) : Hp := ex fun v : Value => pc bo 37 [v] * (sl 30 2 v k (frefs (l.take k)) * F)

set_option maxRecDepth 100000 in
set_option maxHeartbeats 2000000 in
theorem dm_chain (hS : Sat w0 (domB d p * (tblP p ps free * F)) w) (i g : Int) (l : List (Int × Int)) (hC : Ch ps (i, g) l) (hl : l.length ≤ 1000) :
    Calls Tryz.prog 145 #[vp d, vr i g] w fun e w' => ∃ v, e = .returned v ∧ Sat w0 (sl 30 2 v l.length (frefs l) * (domB d p * (tblP p ps free * F))) w' := by
  have hB0 := (hS.alloc (.cells #[vi i, vu g] 30)).alloc (.cells #[.slice none 0 0] 37)
  rw [size1] at hB0
  have hB : Sat w0 (pc (w.heap.size + 1) 37 [.slice none 0 0] * (pc w.heap.size 30 [vi i, vu g] * (domB d p * (tblP p ps free * F)))) ((w.alloc (.cells #[vi i, vu g] 30)).alloc (.cells #[.slice none 0 0] 37)) := hB0
  have b0 := hB.pull2.cell 0 rfl
  have b1 := hB.pull2.cell 1 rfl
  have HU := Lib.hid (dm_up (d := d) hB i g)
  obtain ⟨hat, hend⟩ := hC.at_
  have HAt := Lib.hid hat
  have HEnd := Lib.hid hend
  clear hS hB hB0 hat hend
  generalize hwb : (w.alloc (.cells #[vi i, vu g] 30)).alloc (.cells #[.slice none 0 0] 37) = wb at *
  generalize hb1 : w.heap.size + 1 = bo at *
  generalize hb2 : w.heap.size = b2 at *
  have HW := Lib.hid hwb
  have HB1 := Lib.hid hb1
  have HB2 := Lib.hid hb2
  clear hwb hb1 hb2
  refine (callsIn_wide (n := 9)).1 ?_
  refine callsIn_of_wp_marks Tryz.func145 rfl trivial ?_ rfl
  simp only [Tryz.ntmps145, List.size_toArray, List.length_cons, List.length_nil, Nat.reduceAdd, Nat.reduceSub, Array.replicate_succ, Array.replicate_zero, List.push_toArray, List.append_toArray, List.nil_append, List.cons_append]
  gi_wp2_with fail
  refine ⟨trivial, ?_⟩
  rw [HW.out, HB2.out, HB1.out]
  refine (callsIn_wide.2 HU.out).mono ?_
  rintro e w1 ⟨bd, br, rfl, hS⟩
  have h1 : Sat w0 (upS d p bd br i g ps free (chH bo l (pc b2 30 [vi i, vu g] * F) 0)) w1 := by
    have h2 := hS.addNil 30 2
    refine (Sat.exI (f := fun v : Value => pc bo 37 [v] * (sl 30 2 v 0 (frefs (l.take 0)) * (pc b2 30 [vi i, vu g] * F))) (F := pc br 30 [vi i, vu g] * (pc bd 81 [vp d] * (domB d p * tblP p ps free))) (.slice none 0 0) (h2.cast ?_)).cast ?_
    · show _ = (pc bo 37 [.slice none 0 0] * (sl 30 2 (.slice none 0 0) 0 [] * (pc b2 30 [vi i, vu g] * F))) * _
      ac_rfl
    · unfold upS chH
      ac_rfl
  have H1 := Lib.hid h1
  clear hS h1 b0 b1
  gi_wp2
  refine wpIn_act ?_
  intro a0 ha0
  refine wpIn_range_sat (H' := upS d p bd br (refAt ps (i, g) l.length).1 (refAt ps (i, g) l.length).2 ps free (chH bo l (pc b2 30 [vi i, vu g] * F) l.length)) rfl (by omega) (gf := 231) (lb := #[vp bd, vp br]) (by rw [ha0]; rfl) trivial (enters_of Tryz.func231 (by kernel_rfl) rfl) H1.out ?call ?done
  case call =>
    intro fn ll D R W hfn hR hS
    have hS : Sat w0 (upS d p bd br (refAt ps (i, g) 0).1 (refAt ps (i, g) 0).2 ps free (chH bo l (pc b2 30 [vi i, vu g] * F) 0 * (pt ll R * pt D dmark))) W := hS.cast (by unfold upS; simp only [refAt]; ac_rfl)
    refine (up1_ 8 (by omega) l.length (fun k => (refAt ps (i, g) k).1) (fun k => (refAt ps (i, g) k).2) (fun _ => ps) (fun k => chH bo l (pc b2 30 [vi i, vu g] * F) k * (pt ll R * pt D dmark)) d p bd br ll ?_ (fun k hk => ⟨(HAt.out k hk).2, rfl, rfl⟩) HEnd.out hS).mono ?_
    · intro k W2 F2 hk hS2
      have hlk := (HAt.out k hk).1
      have HLK := Lib.hid hlk
      clear hlk hS
      generalize hr : refAt ps (i, g) k = rk at *
      obtain ⟨ri, rg⟩ := rk
      have HRK := Lib.hid hr
      clear hr
      dsimp only at hS2 ⊢
      generalize getX ps ri rg = x at *
      obtain ⟨v, hv⟩ := (hS2.cast (show _ = chH bo l (pc b2 30 [vi i, vu g] * F) k * (upS d p bd br ri rg ps free (pt ll R * (pt D dmark * F2))) by unfold upS; ac_rfl)).exE
      have h3 : Sat w0 (pt ll R * (pc bo 37 [v] * (sl 30 2 v k (frefs (l.take k)) * (upS d p bd br ri rg ps free ((pc b2 30 [vi i, vu g] * F) * (pt D dmark * F2)))))) W2 := hv.cast (by unfold upS; ac_rfl)
      obtain ⟨vo, vc, rfl⟩ := h3.pull3.rd.len
      have H3 := Lib.hid h3
      have h4 := h3.alloc (.cells #[vi ri, vu rg] 30)
      have H4 := Lib.hid h4
      have hback : ∀ (B : Obj) (W' : World) (v' : Value), Sat w0 (pt ll B * (pc bo 37 [v'] * (sl 30 2 v' (k + 1) (frefs (l.take (k + 1))) * (upS d p bd br ri rg ps free ((pc b2 30 [vi i, vu g] * F) * (pt D dmark * F2)))))) W' → Sat w0 (pt ll B * (upS d p bd br ri rg ps free (chH bo l (pc b2 30 [vi i, vu g] * F) (k + 1) * (pt D dmark * F2)))) W' := fun B W' v' h => (Sat.exI (F := pt ll B * (upS d p bd br ri rg ps free (pt D dmark * F2))) (f := fun v : Value => pc bo 37 [v] * (sl 30 2 v (k + 1) (frefs (l.take (k + 1))) * (pc b2 30 [vi i, vu g] * F))) v' (h.cast (by unfold upS; ac_rfl))).cast (by unfold upS chH; ac_rfl)
      have HBK := Lib.hid hback
      clear hS2 hv h3 h4 hback
      have hY := yield_sat (P := Tryz.prog) (G := Fence.wide) (n := 8 - 1) (args := #[vr ri rg, ev x]) (X' := upS d p bd br ri rg ps free (chH bo l (pc b2 30 [vi i, vu g] * F) (k + 1) * (pt D dmark * F2)))
        (A := fun a' W' => a' = { tmps := ((a0.tmps.setIfInBounds 9 (vr ri rg)).setIfInBounds 10 (ev x)).setIfInBounds 5 (.pointer (some ⟨W2.heap.size, 0, none⟩)), defers := [] } ∧ W' = W2.alloc (.cells #[vi ri, vu rg] 30)) hfn rfl hR H3.out ?ha ?assign ?body
      case ha =>
        rintro a' W' ⟨_, rfl⟩
        exact H4.out.pull2.blk.1
      case assign =>
        intro K hK
        have HK := Lib.hid hK
        clear hK hR
        subst ha0
        gi_wp2
        exact HK.out _ _ ⟨rfl, rfl⟩
      case body =>
        rintro B a' W' ⟨rfl, rfl⟩
        have h5 : Sat w0 (pt ll B * _) _ := H4.out.pull2.putObj (o' := B)
        have q0 := h5.pull2.cell 0 rfl
        have q1 := h5.pull2.cell 1 rfl
        have o0 := h5.pull3.cell 0 rfl
        have H5 := Lib.hid h5
        clear h5 hR
        subst ha0
        simp only [List.setIfInBounds_toArray, List.set_cons_succ, List.set_cons_zero]
        generalize (W2.alloc (.cells #[vi ri, vu rg] 30)).putObj ll B = W3 at *
        generalize W2.heap.size = ba at *
        gi_wp2_with (first | (gi_at_builtin; refine wpListIn_append_sl Eref rfl (.tmp 11) (.tmp 13) rfl rfl (H5.out.pull4.alloc' _) (by rfl) (rdTwo _ _ (vi ri) (vu rg) rfl) (by simp [Value.oneCell']) (by unfold maxLen; omega) (by omega) ?_; intro ao6 cap6 w6 hS6; have o6 := hS6.pull4.cell 0 rfl; have f6 := hS6.pull4.free 0; have H6 := Lib.hid hS6; clear hS6))
        have h7 := H6.out.pull4.store 0 (.slice ao6 (k + 1) cap6)
        have h8 : Sat w0 (pt ba (.cells #[vi ri, vu rg] 30) * (pt ll B * (pc bo 37 [.slice ao6 (k + 1) cap6] * (sl 30 2 (.slice ao6 (k + 1) cap6) (k + 1) (frefs (l.take k) ++ [vi ri, vu rg]) * (upS d p bd br ri rg ps free ((pc b2 30 [vi i, vu g] * F) * (pt D dmark * F2))))))) _ := h7.cast (by simp only [List.set_cons_zero]; ac_rfl)
        refine HBK.out B _ (.slice ao6 (k + 1) cap6) ?_
        rw [List.take_add_one, HLK.out, Option.toList_some, frefs_snoc]
        exact h8.dropL
      exact hY.mono fun e W' h => ⟨h.1, h.2.cast (by unfold upS; ac_rfl)⟩
    · rintro e W' ⟨he, h⟩
      exact ⟨he, h.cast (by unfold upS; ac_rfl)⟩
  case done =>
    intro D W hS
    obtain ⟨v, hv⟩ := (hS.cast (show _ = chH bo l (pc b2 30 [vi i, vu g] * F) l.length * (pc br 30 [vi (refAt ps (i, g) l.length).1, vu (refAt ps (i, g) l.length).2] * (pc bd 81 [vp d] * (domB d p * (tblP p ps free * pt D dmark)))) by unfold upS; ac_rfl)).exE
    rw [List.take_length] at hv
    have h3 : Sat w0 (pc bo 37 [v] * (pt D dmark * (pc b2 30 [vi i, vu g] * (pc br 30 [vi (refAt ps (i, g) l.length).1, vu (refAt ps (i, g) l.length).2] * (pc bd 81 [vp d] * (sl 30 2 v l.length (frefs l) * (domB d p * (tblP p ps free * F)))))))) W := hv.cast (by ac_rfl)
    obtain ⟨vo, vc, rfl⟩ := h3.dropL.dropL.dropL.dropL.dropL.rd.len
    have o0 := h3.cell 0 rfl
    have o1 := h3.free 0
    have h4 := h3.store 0 (.slice vo l.length vc)
    have hne := h4.ne
    have hc := h4.cell 0 rfl
    have hk := h4.dropL.blk.1
    have H4 := Lib.hid h4
    clear hS hv h3 h4
    subst ha0
    gi_wp2
    generalize W.setCell ⟨bo, 0, none⟩ (.slice vo l.length vc) = W4 at *
    refine ⟨by simp, .inl ⟨_, _, rfl, run_takeDeferred hk, ?_⟩⟩
    have hc2 : (W4.putObj D (.deferred none)).cell? ⟨bo, 0, none⟩ = some (.slice vo l.length vc) := (World.cell?_of_block (a := ⟨bo, 0, none⟩) (World.putObj_heap_other hne)).trans hc
    exact ⟨.slice vo l.length vc, by simp [results, Tryz.f145, go_sem, hc2], _, rfl, H4.out.pull2.putObj.dropL.dropL.dropL.dropL.dropL⟩
end
end Go.Proofs.YtdbppfcilaajaaaGreat.Dm

namespace Go.Proofs.YtdbppfcilaajaaaGreat.Dm
open Go.RowKit Ad
set_option linter.unusedVariables false
set_option linter.unusedSimpArgs false

abbrev liveX (x : El) (more : Int) (s : Bool) : El := { x with v8 := x.v8 + more, v7 := if s then x.v7 + more else x.v7 }
abbrev livC (bm ba br : Nat) (more ai ag ri rg : Int) : Hp := pc bm 3 [vi more] * (pc ba 30 [vi ai, vu ag] * pc br 30 [vi ri, vu rg])
section
variable {w0 w : World} {F : Hp} {h p : Nat} {ps : List Pl} {free : List Nat}
set_option maxRecDepth 100000 in
set_option maxHeartbeats 2000000 in
theorem live1_no {b bm ba br : Nat} {more i g r rg : Int} {x : El} (hS : Sat w0 (elB b x * (pc bm 3 [vi more] * (pc ba 30 [vi i, vu g] * (pc br 30 [vi r, vu rg] * F)))) w) (h8 : IntKind.i64.wrap (x.v8 + more) = x.v8 + more) (hne : i ≠ r) :
    Calls Tryz.prog 211 #[vp b, vp bm, vp ba, vp br] w fun e w' => (∃ v, e = .returned v) ∧ Sat w0 (elB b (liveX x more false) * (pc bm 3 [vi more] * (pc ba 30 [vi i, vu g] * (pc br 30 [vi r, vu rg] * F)))) w' := by
  obtain ⟨v0, v1, v2, v3, v4, v5, v6, v7, v8, v9, v10⟩ := x
  simp only at h8
  have c8 := hS.cell 8 rfl
  have f8 := hS.free 8
  have cm := hS.pull2.cell 0 rfl
  have hS1 := hS.store 8 (vi (v8 + more))
  have a0 := hS1.pull3.cell 0 rfl
  have a1 := hS1.pull3.cell 1 rfl
  have r0 := hS1.pull4.cell 0 rfl
  have r1 := hS1.pull4.cell 1 rfl
  have hb : (i == r) = false := beq_eq_false_iff_ne.2 hne
  have HST : Hid (Sat w0 (elB b (liveX ⟨v0, v1, v2, v3, v4, v5, v6, v7, v8, v9, v10⟩ more false) * (pc bm 3 [vi more] * (pc ba 30 [vi i, vu g] * (pc br 30 [vi r, vu rg] * F)))) _) := Lib.hid hS1
  clear hS hS1 hne
  go_enter Tryz.func211, Tryz.ntmps211
  go_wp2
  refine wp_quiet_tail 6 (by kernel_rfl) (by kernel_rfl) ?_
  simp only [List.take_succ_cons, List.take_zero, List.drop_succ_cons, List.drop_zero]
  repeat (go_big_quiet_step (fail))
  refine wpQuiet_nil ?_
  go_wp2
  go_end0
  first | exact ⟨⟨_, rfl⟩, HST.out⟩ | exact ⟨⟨_, rfl⟩, HST.out.drew⟩ | exact ⟨⟨_, rfl⟩, HST.out.drew.drew⟩
set_option maxRecDepth 100000 in
set_option maxHeartbeats 2000000 in
theorem live1_yes {b bm ba br : Nat} {more i g r rg : Int} {x : El} (hS : Sat w0 (elB b x * (pc bm 3 [vi more] * (pc ba 30 [vi i, vu g] * (pc br 30 [vi r, vu rg] * F)))) w) (h8 : IntKind.i64.wrap (x.v8 + more) = x.v8 + more) (h7 : IntKind.i64.wrap (x.v7 + more) = x.v7 + more) (he : i = r) (he2 : g = rg) :
    Calls Tryz.prog 211 #[vp b, vp bm, vp ba, vp br] w fun e w' => (∃ v, e = .returned v) ∧ Sat w0 (elB b (liveX x more true) * (pc bm 3 [vi more] * (pc ba 30 [vi i, vu g] * (pc br 30 [vi r, vu rg] * F)))) w' := by
  subst he he2
  obtain ⟨v0, v1, v2, v3, v4, v5, v6, v7, v8, v9, v10⟩ := x
  simp only at h8 h7
  have c8 := hS.cell 8 rfl
  have f8 := hS.free 8
  have cm := hS.pull2.cell 0 rfl
  have hS1 := hS.store 8 (vi (v8 + more))
  have a0 := hS1.pull3.cell 0 rfl
  have a1 := hS1.pull3.cell 1 rfl
  have r0 := hS1.pull4.cell 0 rfl
  have r1 := hS1.pull4.cell 1 rfl
  have cm1 := hS1.pull2.cell 0 rfl
  have c7 := hS1.cell 7 rfl
  have f7 := hS1.free 7
  have hS2 := hS1.store 7 (vi (v7 + more))
  have HST : Hid (Sat w0 (elB b (liveX ⟨v0, v1, v2, v3, v4, v5, v6, v7, v8, v9, v10⟩ more true) * (pc bm 3 [vi more] * (pc ba 30 [vi i, vu g] * (pc br 30 [vi i, vu g] * F)))) _) := Lib.hid hS2
  clear hS hS1 hS2
  go_enter Tryz.func211, Tryz.ntmps211
  go_wp2
  refine wp_quiet_tail 6 (by kernel_rfl) (by kernel_rfl) ?_
  simp only [List.take_succ_cons, List.take_zero, List.drop_succ_cons, List.drop_zero]
  repeat (go_big_quiet_step (fail))
  refine wpQuiet_nil ?_
  go_wp2
  refine wp_quiet_tail 6 (by kernel_rfl) (by kernel_rfl) ?_
  simp only [List.take_succ_cons, List.take_zero, List.drop_succ_cons, List.drop_zero]
  repeat (go_big_quiet_step (fail))
  refine wpQuiet_nil ?_
  go_wp2
  go_end0
  first | exact ⟨⟨_, rfl⟩, HST.out⟩ | exact ⟨⟨_, rfl⟩, HST.out.drew⟩ | exact ⟨⟨_, rfl⟩, HST.out.drew.drew⟩
set_option maxRecDepth 100000 in
set_option maxHeartbeats 2000000 in
theorem change_live (bm ba br : Nat) (more ai ag ri rg : Int) (hS : Sat w0 (domB h p * (tblP p ps free * (livC bm ba br more ai ag ri rg * F))) w) (i g : Int) (X2 : El)
    (hK : getE ps i g = 0 → ∀ (b : Nat) (w1 : World) (F' : Hp), Sat w0 (elB b (getX ps i g) * (livC bm ba br more ai ag ri rg * F')) w1 → Calls Tryz.prog 211 #[vp b, vp bm, vp ba, vp br] w1 fun e w' => (∃ v, e = .returned v) ∧ Sat w0 (elB b X2 * (livC bm ba br more ai ag ri rg * F')) w') :
    Calls Tryz.prog 198 #[vp h, vr i g, .func (.func 211) #[] #[vp bm, vp ba, vp br]] w fun e w' => e = .returned (vi (getE ps i g)) ∧ Sat w0 (domB h p * (tblP p (setP ps i g X2) free * (livC bm ba br more ai ag ri rg * F))) w' := by
  have hB0 : Sat w0 (pc w.heap.size 30 [vi i, vu g] * (domB h p * (tblP p ps free * (livC bm ba br more ai ag ri rg * F)))) (w.alloc (.cells #[vi i, vu g] 30)) := hS.alloc (.cells #[vi i, vu g] 30)
  have hB : Sat w0 (domB h p * (tblP p ps free * (pc w.heap.size 30 [vi i, vu g] * (livC bm ba br more ai ag ri rg * F)))) (w.alloc (.cells #[vi i, vu g] 30)) := hB0.cast (by ac_rfl)
  have HG := Lib.hid (dm_get hB i g)
  have HSet : Hid (∀ (w1 : World) (G : Hp) (x : El), Sat w0 (tblP p ps free * G) w1 → Calls Tryz.prog 232 #[vp p, vr i g, ev x] w1 fun e w' => e = .returned (vi (getE ps i g)) ∧ Sat w0 (tblP p (setP ps i g x) free * G) w') := Lib.hid fun w1 G x h1 => set_ h1 i g x
  have HE := getE_cases ps i g
  have HK := Lib.hid hK
  clear hS hB hB0 hK
  generalize getX ps i g = x at *
  obtain ⟨v0, v1, v2, v3, v4, v5, v6, v7, v8, v9, v10⟩ := x
  rcases HE with he | he
  · rw [he] at HG HSet HK ⊢
    have HK2 := Lib.hid (HK.out rfl)
    clear HK
    clear he
    obtain ⟨y0, y1, y2, y3, y4, y5, y6, y7, y8, y9, y10⟩ := X2
    go_enter Tryz.func198, Tryz.ntmps198
    go_wp2_with (first
      | (go_at_call 104; refine HG.out.mono ?_; rintro e w1 ⟨rfl, hS1⟩; have hA := hS1.alloc (elO ez); have HTh := Lib.hid (there_ (n := 11) hA rfl); have HA := Lib.hid hA; clear hA hS1)
      | (refine wpList_store_mid rfl 188 _ _ rfl w1.heap.size 0 (elC ⟨v0, v1, v2, v3, v4, v5, v6, v7, v8, v9, v10⟩).toArray (by rfl) (by rfl) HTh.out einfo (all_oneCell_toArray (elOne _)) ?_; have hs := HA.out.stores (elC ⟨v0, v1, v2, v3, v4, v5, v6, v7, v8, v9, v10⟩) 0; rw [setL_full (elC ez) (elC ⟨v0, v1, v2, v3, v4, v5, v6, v7, v8, v9, v10⟩) rfl] at hs; have HS := Lib.hid hs; have HS : Hid (Sat w0 _ ((w1.alloc (elO ez)).setCells w1.heap.size 0 (elC ⟨v0, v1, v2, v3, v4, v5, v6, v7, v8, v9, v10⟩).toArray.toList)) := HS; clear hs; generalize World.setCells _ _ _ _ = w2 at *)
      | (go_at_call 211; refine (HK2.out _ _ (domB h p * (tblP p ps free * (pc w.heap.size 30 [vi i, vu g] * F))) (HS.out.cast (by (try unfold elB); (try unfold livC); ac_rfl))).mono ?_; rintro e w3 ⟨⟨v3, rfl⟩, hS3⟩; have hW : Sat w0 (elB w1.heap.size ⟨y0, y1, y2, y3, y4, y5, y6, y7, y8, y9, y10⟩ * (domB h p * (tblP p ps free * (pc w.heap.size 30 [vi i, vu g] * (livC bm ba br more ai ag ri rg * F))))) w3 := hS3.cast (by (try unfold elB); (try unfold livC); ac_rfl); have c4 := hW.pull2.cell 0 rfl; have b4 := hW.pull4.cell 0 rfl; have b5 := hW.pull4.cell 1 rfl; have HW := Lib.hid hW; clear hW hS3))
    refine wp_quiet_tail 6 (by kernel_rfl) (by kernel_rfl) ?_
    simp only [List.take_succ_cons, List.take_zero, List.drop_succ_cons, List.drop_zero]
    iterate 5 (go_big_quiet_step (fail))
    refine wpQuiet_load_row (by rfl) 188 _ rfl w1.heap.size 0 (by rfl) (elC ⟨y0, y1, y2, y3, y4, y5, y6, y7, y8, y9, y10⟩) _ (fun w' hw' => by subst hw'; exact range_ HW.out.drew) Tryz.underlying188 rfl einfo ?_
    refine wpQuiet_nil ?_
    go_wp2_with (go_at_call 232; refine (HSet.out _ _ ⟨y0, y1, y2, y3, y4, y5, y6, y7, y8, y9, y10⟩ (HW.out.drew.pull3)).mono ?_; rintro e w5 ⟨rfl, hS5⟩; have H5 := Lib.hid hS5; clear hS5)
    go_ret
    exact ⟨rfl, (H5.out.cast (show _ = pc w1.heap.size 188 (elC ⟨y0, y1, y2, y3, y4, y5, y6, y7, y8, y9, y10⟩) * (pc w.heap.size 30 [vi i, vu g] * (domB h p * (tblP p (setP ps i g ⟨y0, y1, y2, y3, y4, y5, y6, y7, y8, y9, y10⟩) free * (livC bm ba br more ai ag ri rg * F)))) by (try unfold elB); (try unfold livC); ac_rfl)).dropL.dropL⟩
  · have hn := Lib.hid (setP_none he X2)
    rw [he] at HG ⊢
    clear he HSet HK
    go_enter Tryz.func198, Tryz.ntmps198
    go_wp2_with (first
      | (go_at_call 104; refine HG.out.mono ?_; rintro e w1 ⟨rfl, hS1⟩; have hA := hS1.alloc (elO ez); have HTh := Lib.hid (there_ (n := 11) hA rfl); have HA := Lib.hid hA; clear hA hS1)
      | (refine wpList_store_mid rfl 188 _ _ rfl w1.heap.size 0 (elC ⟨v0, v1, v2, v3, v4, v5, v6, v7, v8, v9, v10⟩).toArray (by rfl) (by rfl) HTh.out einfo (all_oneCell_toArray (elOne _)) ?_; have hs := HA.out.stores (elC ⟨v0, v1, v2, v3, v4, v5, v6, v7, v8, v9, v10⟩) 0; rw [setL_full (elC ez) (elC ⟨v0, v1, v2, v3, v4, v5, v6, v7, v8, v9, v10⟩) rfl] at hs; have HS := Lib.hid hs; have HS : Hid (Sat w0 _ ((w1.alloc (elO ez)).setCells w1.heap.size 0 (elC ⟨v0, v1, v2, v3, v4, v5, v6, v7, v8, v9, v10⟩).toArray.toList)) := HS; clear hs; generalize World.setCells _ _ _ _ = w2 at *))
    go_ret
    rw [hn.out]
    exact ⟨rfl, (HS.out.cast (show _ = pc w1.heap.size 188 (elC ⟨v0, v1, v2, v3, v4, v5, v6, v7, v8, v9, v10⟩) * (pc w.heap.size 30 [vi i, vu g] * (domB h p * (tblP p ps free * (livC bm ba br more ai ag ri rg * F)))) by (try unfold elB); (try unfold livC); ac_rfl)).dropL.dropL⟩
end
end Go.Proofs.YtdbppfcilaajaaaGreat.Dm

namespace Go.Proofs.YtdbppfcilaajaaaGreat.Dm
open Go.RowKit Ad
set_option linter.unusedVariables false

/-- The ref of who is at a place. -/
def rfp (ps : List Pl) (k : Nat) : Int × Int := ((k : Int), match ps[k]? with | none => 0 | some a => a.gen)
/-- Behind live: so many more live in each of c, and are r's own. -/
def livP (ps : List Pl) (c : List Nat) (more : Int) (r : Nat) : List Pl := ps.mapIdx fun k a => if k ∈ c then { a with x := liveX a.x more (k == r) } else a
section
variable {ps : List Pl} {c : List Nat} {more : Int} {r : Nat}
theorem livP_at (k : Nat) : (livP ps c more r)[k]? = (ps[k]?).map fun a => if k ∈ c then { a with x := liveX a.x more (k == r) } else a := by
  unfold livP
  rw [List.getElem?_mapIdx]
theorem livP_nil : livP ps [] more r = ps := List.ext_getElem? fun k => by
  rw [livP_at]
  cases ps[k]? <;> simp
theorem isAt_liv (i g : Int) : isAt (livP ps c more r) i g = (isAt ps i g).map fun ka => (ka.1, if ka.1 ∈ c then { ka.2 with x := liveX ka.2.x more (ka.1 == r) } else ka.2) := by
  unfold isAt
  split
  · rfl
  · rw [livP_at]
    cases h : ps[i.toNat]? with
    | none => rfl
    | some a =>
      simp only [Option.map_some]
      by_cases hc : i.toNat ∈ c
      · simp only [if_pos hc]
        split <;> simp [hc]
      · simp only [if_neg hc]
        split <;> simp [hc]
theorem getE_liv (i g : Int) : getE (livP ps c more r) i g = getE ps i g := by
  unfold getE
  rw [isAt_liv]
  cases isAt ps i g <;> rfl
theorem at_ref {i g : Int} (h : getE ps i g = 0) : ∃ k a, i = (k : Nat) ∧ ps[k]? = some a ∧ a.there = true ∧ a.gen = g ∧ isAt ps i g = some (k, a) := by
  unfold getE at h
  cases hA : isAt ps i g with
  | none => rw [hA] at h; cases h
  | some ka =>
    obtain ⟨k, a⟩ := ka
    have := isAt_some hA
    exact ⟨k, a, this.2.1, this.1, this.2.2.1, this.2.2.2, rfl⟩
theorem isAt_of {k : Nat} {a : Pl} (h : ps[k]? = some a) (ht : a.there = true) : isAt ps k a.gen = some (k, a) := by
  unfold isAt
  rw [if_neg (by omega), Int.toNat_natCast, h]
  simp [ht]
theorem getX_of {k : Nat} {a : Pl} (h : ps[k]? = some a) (ht : a.there = true) : getX ps k a.gen = a.x ∧ getE ps k a.gen = 0 := by
  unfold getX getE
  rw [isAt_of h ht]
  exact ⟨rfl, rfl⟩
theorem getX_liv {k : Nat} {a : Pl} (h : ps[k]? = some a) (ht : a.there = true) : getX (livP ps c more r) k a.gen = if k ∈ c then liveX a.x more (k == r) else a.x := by
  unfold getX
  rw [isAt_liv, isAt_of h ht]
  simp only [Option.map_some]
  split <;> rfl
theorem chain_at {i g : Int} (hC : Ch ps (i, g) (c.map (rfp ps))) {k : Nat} (hk : k < c.length) : ∃ j a, c[k]? = some j ∧ ps[j]? = some a ∧ a.there = true ∧ refAt ps (i, g) k = ((j : Int), a.gen) := by
  obtain ⟨h1, h2⟩ := hC.at_
  have h3 := h1 k (by simpa using hk)
  obtain ⟨j, hj⟩ : ∃ j, c[k]? = some j := ⟨c[k], List.getElem?_eq_getElem hk⟩
  rw [List.getElem?_map, hj, Option.map_some] at h3
  have h4 : rfp ps j = refAt ps (i, g) k := Option.some.inj h3.1
  rw [← h4] at h3
  obtain ⟨j', a, e1, ha, ht, hg, _⟩ := at_ref h3.2
  have : j = j' := by
    have : (rfp ps j).1 = (j : Int) := rfl
    omega
  subst this
  refine ⟨j, a, hj, ha, ht, ?_⟩
  rw [← h4]
  unfold rfp
  rw [ha]
theorem livP_set {k : Nat} {a : Pl} (h : ps[k]? = some a) (ht : a.there = true) (hn : k ∉ c) : setP (livP ps c more r) k a.gen (liveX a.x more (k == r)) = livP ps (c ++ [k]) more r := by
  unfold setP
  rw [isAt_liv, isAt_of h ht]
  simp only [Option.map_some, if_neg hn]
  refine List.ext_getElem? fun j => ?_
  rw [livP_at]
  by_cases hj : j = k
  · subst hj
    rw [List.getElem?_set_self (by simp [livP]; exact (List.getElem?_eq_some_iff.1 h).1), h]
    simp
  · rw [List.getElem?_set_ne (by omega), livP_at]
    have : (j ∈ c ++ [k]) ↔ j ∈ c := by simp [hj]
    simp only [this]
end
section
variable {w0 w : World} {F : Hp} {d p : Nat} {ps : List Pl} {free : List Nat}
theorem live_step {c : List Nat} {r : Nat} {g more : Int} (hC : Ch ps ((r : Int), g) (c.map (rfp ps))) (hnd : c.Nodup)
    (hb : ∀ (k : Nat) (a : Pl), ps[k]? = some a → -1000 ≤ a.x.v7 ∧ a.x.v7 ≤ 1000000 ∧ -1000 ≤ a.x.v8 ∧ a.x.v8 ≤ 1000000) (hm : -1 ≤ more ∧ more ≤ 1) {k : Nat} (hk : k < c.length) (bm ba br : Nat)
    (hS : Sat w0 (domB d p * (tblP p (livP ps (c.take k) more r) free * (livC bm ba br more (refAt ps (r, g) k).1 (refAt ps (r, g) k).2 r g * F))) w) :
    Calls Tryz.prog 198 #[vp d, vr (refAt ps (r, g) k).1 (refAt ps (r, g) k).2, .func (.func 211) #[] #[vp bm, vp ba, vp br]] w fun e w' => (∃ v, e = .returned v) ∧ Sat w0 (domB d p * (tblP p (livP ps (c.take (k + 1)) more r) free * (livC bm ba br more (refAt ps (r, g) k).1 (refAt ps (r, g) k).2 r g * F))) w' := by
  obtain ⟨j, a, hj, ha, ht, hr⟩ := chain_at hC hk
  have hjn : j ∉ c.take k := fun h => by
    have h1 : c = c.take k ++ c.drop k := (List.take_append_drop k c).symm
    rw [h1] at hnd
    have h2 : j ∈ c.drop k := by
      have : (c.drop k)[0]? = some j := by rw [List.getElem?_drop]; simpa using hj
      exact List.mem_of_getElem? this
    exact (List.nodup_append.1 hnd).2.2 j h j h2 rfl
  have hst := livP_set (more := more) (r := r) ha ht hjn
  rw [show c.take k ++ [j] = c.take (k + 1) by rw [List.take_add_one, hj]; rfl] at hst
  rw [hr] at hS ⊢
  have hx := getX_liv (c := c.take k) (more := more) (r := r) ha ht
  rw [if_neg hjn] at hx
  obtain ⟨b1, b2, b3, b4⟩ := hb j a ha
  rw [← hst]
  refine (change_live bm ba br more j a.gen r g hS j a.gen (liveX a.x more (j == r)) ?_).mono fun e w' h => ⟨⟨_, h.1⟩, h.2⟩
  intro _ b w1 F' h1
  rw [hx] at h1
  have hw8 : IntKind.i64.wrap (a.x.v8 + more) = a.x.v8 + more := IntWalk.i64_in _ (by omega)
  have hw7 : IntKind.i64.wrap (a.x.v7 + more) = a.x.v7 + more := IntWalk.i64_in _ (by omega)
  have h1' : Sat w0 (elB b a.x * (pc bm 3 [vi more] * (pc ba 30 [vi j, vu a.gen] * (pc br 30 [vi r, vu g] * F')))) w1 := h1.cast (by unfold livC; ac_rfl)
  cases hk0 : k with
  | zero =>
    subst hk0
    have hz : (j : Int) = r ∧ a.gen = g := by
      have : refAt ps ((r : Int), g) 0 = ((r : Int), g) := rfl
      rw [this] at hr
      injection hr with e1 e2
      exact ⟨e1.symm, e2.symm⟩
    have hjr : j = r := by omega
    rw [show (j == r) = true from beq_iff_eq.2 hjr]
    exact (live1_yes h1' hw8 hw7 hz.1 hz.2).mono fun e w' h => ⟨h.1, h.2.cast (by unfold livC; ac_rfl)⟩
  | succ k' =>
    have hjr : j ≠ r := fun e => by
      obtain ⟨j0, a0, hj0, _, _, hr0⟩ := chain_at hC (k := 0) (by omega)
      have : refAt ps ((r : Int), g) 0 = ((r : Int), g) := rfl
      rw [this] at hr0
      injection hr0 with e1 e2
      have : j0 = r := by omega
      subst this
      apply hjn
      rw [hk0, e]
      exact List.mem_of_getElem? (i := 0) (by rw [List.getElem?_take, if_pos (by omega)]; exact hj0)
    rw [show (j == r) = false from beq_eq_false_iff_ne.2 hjr]
    exact (live1_no h1' hw8 (by omega)).mono fun e w' h => ⟨h.1, h.2.cast (by unfold livC; ac_rfl)⟩
end
end Go.Proofs.YtdbppfcilaajaaaGreat.Dm

namespace Go.Proofs.YtdbppfcilaajaaaGreat.Dm
open Go.RowKit Go.Shelf Ad
attribute [local go_sem] Oper.semAt_some
set_option linter.unusedVariables false

section
variable {w0 w : World} {F : Hp} {d p : Nat} {ps : List Pl} {free : List Nat}
set_option maxRecDepth 100000 in
set_option maxHeartbeats 2000000 in
theorem dm_live (hS : Sat w0 (domB d p * (tblP p ps free * F)) w) (r : Nat) (g more : Int) (c : List Nat) (hC : Ch ps ((r : Int), g) (c.map (rfp ps))) (hnd : c.Nodup)
    (hb : ∀ (k : Nat) (a : Pl), ps[k]? = some a → -1000 ≤ a.x.v7 ∧ a.x.v7 ≤ 1000000 ∧ -1000 ≤ a.x.v8 ∧ a.x.v8 ≤ 1000000) (hm : -1 ≤ more ∧ more ≤ 1) :
    Calls Tryz.prog 167 #[vp d, vr r g, vi more] w fun e w' => e = .returned (vi 0) ∧ Sat w0 (domB d p * (tblP p (livP ps c more r) free * F)) w' := by
  have hB0 := ((hS.alloc (.cells #[vp d] 81)).alloc (.cells #[vi r, vu g] 30)).alloc (.cells #[vi more] 3)
  simp only [size1] at hB0
  have hB : Sat w0 (pc (w.heap.size + 1 + 1) 3 [vi more] * (pc (w.heap.size + 1) 30 [vi r, vu g] * (pc w.heap.size 81 [vp d] * (domB d p * (tblP p ps free * F))))) (((w.alloc (.cells #[vp d] 81)).alloc (.cells #[vi r, vu g] 30)).alloc (.cells #[vi more] 3)) := hB0
  have z0 := hB.pull3.cell 0 rfl
  have z1 := hB.pull2.cell 0 rfl
  have z2 := hB.pull2.cell 1 rfl
  have HU := Lib.hid (dm_up (d := d) hB r g)
  obtain ⟨hat, hend⟩ := hC.at_
  rw [List.length_map] at hend
  have HAt : Hid (∀ k, k < c.length → getE ps (refAt ps ((r : Int), g) k).1 (refAt ps ((r : Int), g) k).2 = 0) := Lib.hid fun k hk => (hat k (by simpa using hk)).2
  have HEnd := Lib.hid hend
  have HC := Lib.hid hC
  have HStep := Lib.hid (fun (k : Nat) (hk : k < c.length) (bm ba br : Nat) (G : Hp) (w1 : World) (h1 : Sat w0 (domB d p * (tblP p (livP ps (c.take k) more r) free * (livC bm ba br more (refAt ps ((r : Int), g) k).1 (refAt ps ((r : Int), g) k).2 r g * G))) w1) => live_step hC hnd hb hm hk bm ba br h1)
  clear hS hB hB0 hat hend hC hb
  generalize hwb : ((w.alloc (.cells #[vp d] 81)).alloc (.cells #[vi r, vu g] 30)).alloc (.cells #[vi more] 3) = wb at *
  generalize hb1 : w.heap.size + 1 + 1 = b5 at *
  generalize hb2 : w.heap.size + 1 = b4 at *
  generalize hb3 : w.heap.size = b3 at *
  have HW := Lib.hid hwb
  have HB1 := Lib.hid hb1
  have HB2 := Lib.hid hb2
  have HB3 := Lib.hid hb3
  clear hwb hb1 hb2 hb3
  refine (callsIn_wide (n := 9)).1 ?_
  refine callsIn_of_wp_marks Tryz.func167 rfl trivial ?_ rfl
  simp only [Tryz.ntmps167, List.size_toArray, List.length_cons, List.length_nil, Nat.reduceAdd, Nat.reduceSub, Array.replicate_succ, Array.replicate_zero, List.push_toArray, List.append_toArray, List.nil_append, List.cons_append]
  gi_wp2_with fail
  refine ⟨trivial, ?_⟩
  rw [HW.out, HB3.out, HB2.out, HB1.out]
  refine (callsIn_wide.2 HU.out).mono ?_
  rintro e w1 ⟨bd, br, rfl, hS⟩
  have h1 : Sat w0 (upS d p bd br r g (livP ps (c.take 0) more r) free (pc b3 81 [vp d] * (pc b4 30 [vi r, vu g] * (pc b5 3 [vi more] * F)))) w1 := by
    rw [List.take_zero, livP_nil]
    exact hS.cast (by unfold upS; ac_rfl)
  have H1 := Lib.hid h1
  clear hS h1 z0 z1 z2
  gi_wp2
  refine wpIn_act ?_
  intro a0 ha0
  refine wpIn_range_sat (H' := upS d p bd br (refAt ps ((r : Int), g) c.length).1 (refAt ps ((r : Int), g) c.length).2 (livP ps (c.take c.length) more r) free (pc b3 81 [vp d] * (pc b4 30 [vi r, vu g] * (pc b5 3 [vi more] * F)))) rfl (by omega) (gf := 231) (lb := #[vp bd, vp br]) (by rw [ha0]; rfl) trivial (enters_of Tryz.func231 (by kernel_rfl) rfl) H1.out ?call ?done
  case call =>
    intro fn ll D R W hfn hR hS
    have hS : Sat w0 (upS d p bd br (refAt ps ((r : Int), g) 0).1 (refAt ps ((r : Int), g) 0).2 (livP ps (c.take 0) more r) free ((pc b3 81 [vp d] * (pc b4 30 [vi r, vu g] * (pc b5 3 [vi more] * F))) * (pt ll R * pt D dmark))) W := hS.cast (by unfold upS; simp only [refAt]; ac_rfl)
    refine (up1_ 8 (by omega) c.length (fun k => (refAt ps ((r : Int), g) k).1) (fun k => (refAt ps ((r : Int), g) k).2) (fun k => livP ps (c.take k) more r) (fun _ => (pc b3 81 [vp d] * (pc b4 30 [vi r, vu g] * (pc b5 3 [vi more] * F))) * (pt ll R * pt D dmark)) d p bd br ll ?_ ?_ (by rw [getE_liv]; exact HEnd.out) hS).mono ?_
    · intro k W2 F2 hk hS2
      have HSt := Lib.hid (HStep.out k hk)
      clear hS
      generalize hr : refAt ps ((r : Int), g) k = rk at *
      obtain ⟨ri, rg⟩ := rk
      clear hr
      dsimp only at hS2 HSt ⊢
      generalize getX (livP ps (c.take k) more r) ri rg = x at *
      have h3 : Sat w0 (pt ll R * (pc b3 81 [vp d] * (pc b4 30 [vi r, vu g] * (pc b5 3 [vi more] * (upS d p bd br ri rg (livP ps (c.take k) more r) free (F * (pt D dmark * F2))))))) W2 := hS2.cast (by unfold upS; ac_rfl)
      have H3 := Lib.hid h3
      have h4 := h3.alloc (.cells #[vi ri, vu rg] 30)
      have H4 := Lib.hid h4
      clear hS2 h3 h4
      have hY := yield_sat (P := Tryz.prog) (G := Fence.wide) (n := 8 - 1) (args := #[vr ri rg, ev x]) (X' := upS d p bd br ri rg (livP ps (c.take (k + 1)) more r) free ((pc b3 81 [vp d] * (pc b4 30 [vi r, vu g] * (pc b5 3 [vi more] * F))) * (pt D dmark * F2)))
        (A := fun a' W' => a' = { tmps := ((a0.tmps.setIfInBounds 11 (vr ri rg)).setIfInBounds 12 (ev x)).setIfInBounds 7 (.pointer (some ⟨W2.heap.size, 0, none⟩)), defers := [] } ∧ W' = W2.alloc (.cells #[vi ri, vu rg] 30)) hfn rfl hR H3.out ?ha ?assign ?body
      case ha =>
        rintro a' W' ⟨_, rfl⟩
        exact H4.out.pull2.blk.1
      case assign =>
        intro K hK
        have HK := Lib.hid hK
        clear hK hR
        subst ha0
        gi_wp2
        exact HK.out _ _ ⟨rfl, rfl⟩
      case body =>
        rintro B a' W' ⟨rfl, rfl⟩
        have h5 : Sat w0 (pt ll B * _) _ := H4.out.pull2.putObj (o' := B)
        have q0 := h5.pull2.cell 0 rfl
        have q1 := h5.pull2.cell 1 rfl
        have o0 := h5.pull3.cell 0 rfl
        have H5 := Lib.hid h5
        clear h5 hR
        subst ha0
        simp only [List.setIfInBounds_toArray, List.set_cons_succ, List.set_cons_zero]
        generalize (W2.alloc (.cells #[vi ri, vu rg] 30)).putObj ll B = W3 at *
        generalize W2.heap.size = ba at *
        have HCh := Lib.hid (HSt.out b5 ba b4 (pt ll B * (pc b3 81 [vp d] * (pc br 30 [vi ri, vu rg] * (pc bd 81 [vp d] * (F * (pt D dmark * F2)))))) W3 (H5.out.cast (show (pt ll B * (pc ba 30 [vi ri, vu rg] * (pc b3 81 [vp d] * (pc b4 30 [vi r, vu g] * (pc b5 3 [vi more] * (upS d p bd br ri rg (livP ps (c.take k) more r) free (F * (pt D dmark * F2)))))))) = _ by unfold upS livC; ac_rfl)))
        gi_wp2_with fail
        refine ⟨trivial, ?_⟩
        refine ((callsIn_wide.2 HCh.out).inRound ll).mono ?_
        rintro e w6 ⟨⟨v6, rfl⟩, hS6⟩
        have H6 := Lib.hid hS6
        clear hS6
        gi_wp2
        show Sat w0 _ w6
        exact (H6.out.cast (show _ = pc ba 30 [vi ri, vu rg] * (pt ll B * (upS d p bd br ri rg (livP ps (c.take (k + 1)) more r) free ((pc b3 81 [vp d] * (pc b4 30 [vi r, vu g] * (pc b5 3 [vi more] * F))) * (pt D dmark * F2)))) by unfold upS livC; ac_rfl)).dropL
      exact hY.mono fun e W' h => ⟨h.1, h.2.cast (by unfold upS; ac_rfl)⟩
    · intro k hk
      obtain ⟨j, a, hj, ha, ht, hr⟩ := chain_at HC.out hk
      have hup : refAt ps ((r : Int), g) (k + 1) = upR ps (refAt ps ((r : Int), g) k) := rfl
      refine ⟨by rw [getE_liv]; exact HAt.out k hk, ?_⟩
      simp only [hup]
      rw [hr]
      have hx := (getX_of ha ht).1
      show (getX (livP ps (c.take k) more r) j a.gen).v0 = (getX ps j a.gen).v0 ∧ (getX (livP ps (c.take k) more r) j a.gen).v1 = (getX ps j a.gen).v1
      rw [getX_liv ha ht, hx]
      split <;> exact ⟨rfl, rfl⟩
    · rintro e W' ⟨he, h⟩
      exact ⟨he, h.cast (by unfold upS; ac_rfl)⟩
  case done =>
    intro D W hS
    rw [List.take_length] at hS
    have h3 : Sat w0 (pt D dmark * (pc br 30 [vi (refAt ps ((r : Int), g) c.length).1, vu (refAt ps ((r : Int), g) c.length).2] * (pc bd 81 [vp d] * (pc b3 81 [vp d] * (pc b4 30 [vi r, vu g] * (pc b5 3 [vi more] * (domB d p * (tblP p (livP ps c more r) free * F)))))))) W := hS.cast (by unfold upS; ac_rfl)
    have hk := h3.blk.1
    have H3 := Lib.hid h3
    clear hS h3
    subst ha0
    gi_wp2
    refine ⟨by simp, .inl ⟨_, _, rfl, run_takeDeferred hk, ?_⟩⟩
    exact ⟨vi 0, by simp [results, Tryz.f167, go_sem], rfl, H3.out.putObj.dropL.dropL.dropL.dropL.dropL.dropL⟩
end
end Go.Proofs.YtdbppfcilaajaaaGreat.Dm
