/-
  Package domain: up, Chain. No statement is proved here.
-/
import Derived.Test.YtfioghpnehfjhaaDn4
namespace Go.Proofs.Ytfioghpnehfjhaa.Dm
open Go.RowKit Go.Shelf Ad
attribute [local go_sem] Oper.semAt_some
set_option linter.unusedVariables false

/-- The frame, by a name. -/
theorem wpIn_act {Fe : Fence} {n : Nat} {P : Program} {c : Code} {Q : Exit → Act → World → Prop} {a : Act} {w : World} (h : ∀ a', a' = a → c.wpIn Fe n P Q a' w) : c.wpIn Fe n P Q a w := h a rfl
theorem Eref : SlT Try.prog 27 32 2 16 (.agg #[vi 0, vu 0]) := SlT.mk' Try.underlying27 (by kernel_rfl) rfl (by decide)
theorem rdTwo (w : World) (T : TypeId) (x y : Value) {b : Nat} (hb : b = w.heap.size) : Rd (w.alloc (.cells #[x, y] T)) 2 (.slice (some ⟨b, 0, none⟩) 1 1) 1 [x, y] := by
  subst hb
  have h : Sat w (pc w.heap.size T [x, y] * emp) (w.alloc (.cells #[x, y] T)) := (Sat.start w).alloc _
  exact (h.slI (n := 1) (cap := 1) (size := 2) (xs := [x, y]) (Nat.le_refl _) (by unfold maxLen; omega) (by simp) rfl).rd

/-- Refs, as they lie in memory. -/
abbrev frefs (l : List (Int × Int)) : List Value := l.flatMap fun r => [vi r.1, vu r.2]
theorem frefs_one (l : List (Int × Int)) : ∀ u ∈ frefs l, u.oneCell' = true := by
  intro u hu
  simp only [frefs, List.mem_flatMap] at hu
  obtain ⟨r, _, hu⟩ := hu
  simp at hu
  rcases hu with rfl | rfl <;> rfl
theorem frefs_snoc (l : List (Int × Int)) (r : Int × Int) : frefs (l ++ [r]) = frefs l ++ [vi r.1, vu r.2] := by simp [frefs]

/-- Who stands around whom. -/
def upR (ps : List Pl) (r : Int × Int) : Int × Int := ((getX ps r.1 r.2).v0, (getX ps r.1 r.2).v1)
def refAt (ps : List Pl) (r : Int × Int) : Nat → Int × Int
  | 0 => r
  | k + 1 => upR ps (refAt ps r k)
theorem refAt_up (ps : List Pl) (r : Int × Int) : ∀ k, refAt ps (upR ps r) k = refAt ps r (k + 1)
  | 0 => rfl
  | k + 1 => by
    show upR ps (refAt ps (upR ps r) k) = upR ps (refAt ps r (k + 1))
    rw [refAt_up ps r k]
/-- A chain: itself, and those around it. -/
def Ch (ps : List Pl) : Int × Int → List (Int × Int) → Prop
  | r, [] => getE ps r.1 r.2 = 11
  | r, x :: l => x = r ∧ getE ps r.1 r.2 = 0 ∧ Ch ps (upR ps r) l
theorem Ch.at_ {ps : List Pl} : ∀ {l : List (Int × Int)} {r : Int × Int}, Ch ps r l → (∀ k, k < l.length → l[k]? = some (refAt ps r k) ∧ getE ps (refAt ps r k).1 (refAt ps r k).2 = 0) ∧ getE ps (refAt ps r l.length).1 (refAt ps r l.length).2 = 11
  | [], r, h => ⟨fun k hk => by simp at hk, h⟩
  | x :: l, r, h => by
    obtain ⟨rfl, he, hc⟩ := h
    obtain ⟨h1, h2⟩ := hc.at_
    refine ⟨fun k hk => ?_, ?_⟩
    · cases k with
      | zero => exact ⟨rfl, he⟩
      | succ k =>
        have := h1 k (by simpa using hk)
        rw [refAt_up] at this
        exact this
    · rw [refAt_up] at h2
      exact h2

section
variable {w0 w : World} {F : Hp} {d p : Nat} {ps : List Pl} {free : List Nat}
set_option maxRecDepth 100000 in
set_option maxHeartbeats 1000000 in
theorem dm_up (hS : Sat w0 F w) (i g : Int) : Calls Try.prog 43 #[vp d, vr i g] w fun e w' => ∃ bd br, e = .returned (.func (.func 70) #[] #[vp bd, vp br]) ∧ Sat w0 (pc br 32 [vi i, vu g] * (pc bd 25 [vp d] * F)) w' := by
  have hB := (hS.alloc (.cells #[vp d] 25)).alloc (.cells #[vi i, vu g] 32)
  rw [size1] at hB
  have HB := Lib.hid hB
  clear hS hB
  go_enter Try.func43, Try.ntmps43
  go_wp2
  go_ret
  exact ⟨_, _, rfl, HB.out⟩

/-- What the walk over a chain has of its own. -/
def chH (bo : Nat) (l : List (Int × Int)) (F : Hp) (k : Nat) : Hp := ex fun v : Value => pc bo 27 [v] * (sl 32 2 v k (frefs (l.take k)) * F)

set_option maxRecDepth 100000 in
set_option maxHeartbeats 2000000 in
theorem dm_chain (hS : Sat w0 (domB d p * (tblP p ps free * F)) w) (i g : Int) (l : List (Int × Int)) (hC : Ch ps (i, g) l) (hl : l.length ≤ 1000) :
    Calls Try.prog 17 #[vp d, vr i g] w fun e w' => ∃ v, e = .returned v ∧ Sat w0 (sl 32 2 v l.length (frefs l) * (domB d p * (tblP p ps free * F))) w' := by
  have hB0 := (hS.alloc (.cells #[vi i, vu g] 32)).alloc (.cells #[.slice none 0 0] 27)
  rw [size1] at hB0
  have hB : Sat w0 (pc (w.heap.size + 1) 27 [.slice none 0 0] * (pc w.heap.size 32 [vi i, vu g] * (domB d p * (tblP p ps free * F)))) ((w.alloc (.cells #[vi i, vu g] 32)).alloc (.cells #[.slice none 0 0] 27)) := hB0
  have b0 := hB.pull2.cell 0 rfl
  have b1 := hB.pull2.cell 1 rfl
  have HU := Lib.hid (dm_up (d := d) hB i g)
  obtain ⟨hat, hend⟩ := hC.at_
  have HAt := Lib.hid hat
  have HEnd := Lib.hid hend
  clear hS hB hB0 hat hend
  generalize hwb : (w.alloc (.cells #[vi i, vu g] 32)).alloc (.cells #[.slice none 0 0] 27) = wb at *
  generalize hb1 : w.heap.size + 1 = bo at *
  generalize hb2 : w.heap.size = b2 at *
  have HW := Lib.hid hwb
  have HB1 := Lib.hid hb1
  have HB2 := Lib.hid hb2
  clear hwb hb1 hb2
  refine (callsIn_wide (n := 9)).1 ?_
  refine callsIn_of_wp_marks Try.func17 rfl trivial ?_ rfl
  simp only [Try.ntmps17, List.size_toArray, List.length_cons, List.length_nil, Nat.reduceAdd, Nat.reduceSub, Array.replicate_succ, Array.replicate_zero, List.push_toArray, List.append_toArray, List.nil_append, List.cons_append]
  gi_wp2_with fail
  refine ⟨trivial, ?_⟩
  rw [HW.out, HB2.out, HB1.out]
  refine (callsIn_wide.2 HU.out).mono ?_
  rintro e w1 ⟨bd, br, rfl, hS⟩
  have h1 : Sat w0 (upS d p bd br i g ps free (chH bo l (pc b2 32 [vi i, vu g] * F) 0)) w1 := by
    have h2 := hS.addNil 32 2
    refine (Sat.exI (f := fun v : Value => pc bo 27 [v] * (sl 32 2 v 0 (frefs (l.take 0)) * (pc b2 32 [vi i, vu g] * F))) (F := pc br 32 [vi i, vu g] * (pc bd 25 [vp d] * (domB d p * tblP p ps free))) (.slice none 0 0) (h2.cast ?_)).cast ?_
    · show _ = (pc bo 27 [.slice none 0 0] * (sl 32 2 (.slice none 0 0) 0 [] * (pc b2 32 [vi i, vu g] * F))) * _
      ac_rfl
    · unfold upS chH
      ac_rfl
  have H1 := Lib.hid h1
  clear hS h1 b0 b1
  gi_wp2
  refine wpIn_act ?_
  intro a0 ha0
  refine wpIn_range_sat (H' := upS d p bd br (refAt ps (i, g) l.length).1 (refAt ps (i, g) l.length).2 ps free (chH bo l (pc b2 32 [vi i, vu g] * F) l.length)) rfl (by omega) (gf := 70) (lb := #[vp bd, vp br]) (by rw [ha0]; rfl) trivial (enters_of Try.func70 (by kernel_rfl) rfl) H1.out ?call ?done
  case call =>
    intro fn ll D R W hfn hR hS
    have hS : Sat w0 (upS d p bd br (refAt ps (i, g) 0).1 (refAt ps (i, g) 0).2 ps free (chH bo l (pc b2 32 [vi i, vu g] * F) 0 * (pt ll R * pt D dmark))) W := hS.cast (by unfold upS; simp only [refAt]; ac_rfl)
    refine (up1_ 8 (by omega) l.length (fun k => (refAt ps (i, g) k).1) (fun k => (refAt ps (i, g) k).2) (fun _ => ps) (fun k => chH bo l (pc b2 32 [vi i, vu g] * F) k * (pt ll R * pt D dmark)) d p bd br ll ?_ (fun k hk => ⟨(HAt.out k hk).2, rfl, rfl⟩) HEnd.out hS).mono ?_
    · intro k W2 F2 hk hS2
      have hlk := (HAt.out k hk).1
      have HLK := Lib.hid hlk
      clear hlk hS
      generalize hr : refAt ps (i, g) k = rk at *
      obtain ⟨ri, rg⟩ := rk
      have HRK := Lib.hid hr
      clear hr
      dsimp only at hS2 ⊢
      generalize getX ps ri rg = x at *
      obtain ⟨v, hv⟩ := (hS2.cast (show _ = chH bo l (pc b2 32 [vi i, vu g] * F) k * (upS d p bd br ri rg ps free (pt ll R * (pt D dmark * F2))) by unfold upS; ac_rfl)).exE
      have h3 : Sat w0 (pt ll R * (pc bo 27 [v] * (sl 32 2 v k (frefs (l.take k)) * (upS d p bd br ri rg ps free ((pc b2 32 [vi i, vu g] * F) * (pt D dmark * F2)))))) W2 := hv.cast (by unfold upS; ac_rfl)
      obtain ⟨vo, vc, rfl⟩ := h3.pull3.rd.len
      have H3 := Lib.hid h3
      have h4 := h3.alloc (.cells #[vi ri, vu rg] 32)
      have H4 := Lib.hid h4
      have hback : ∀ (B : Obj) (W' : World) (v' : Value), Sat w0 (pt ll B * (pc bo 27 [v'] * (sl 32 2 v' (k + 1) (frefs (l.take (k + 1))) * (upS d p bd br ri rg ps free ((pc b2 32 [vi i, vu g] * F) * (pt D dmark * F2)))))) W' → Sat w0 (pt ll B * (upS d p bd br ri rg ps free (chH bo l (pc b2 32 [vi i, vu g] * F) (k + 1) * (pt D dmark * F2)))) W' := fun B W' v' h => (Sat.exI (F := pt ll B * (upS d p bd br ri rg ps free (pt D dmark * F2))) (f := fun v : Value => pc bo 27 [v] * (sl 32 2 v (k + 1) (frefs (l.take (k + 1))) * (pc b2 32 [vi i, vu g] * F))) v' (h.cast (by unfold upS; ac_rfl))).cast (by unfold upS chH; ac_rfl)
      have HBK := Lib.hid hback
      clear hS2 hv h3 h4 hback
      have hY := yield_sat (P := Try.prog) (G := Fence.wide) (n := 8 - 1) (args := #[vr ri rg, ev x]) (X' := upS d p bd br ri rg ps free (chH bo l (pc b2 32 [vi i, vu g] * F) (k + 1) * (pt D dmark * F2)))
        (A := fun a' W' => a' = { tmps := ((a0.tmps.setIfInBounds 9 (vr ri rg)).setIfInBounds 10 (ev x)).setIfInBounds 5 (.pointer (some ⟨W2.heap.size, 0, none⟩)), defers := [] } ∧ W' = W2.alloc (.cells #[vi ri, vu rg] 32)) hfn rfl hR H3.out ?ha ?assign ?body
      case ha =>
        rintro a' W' ⟨_, rfl⟩
        exact H4.out.pull2.blk.1
      case assign =>
        intro K hK
        have HK := Lib.hid hK
        clear hK hR
        subst ha0
        gi_wp2
        exact HK.out _ _ ⟨rfl, rfl⟩
      case body =>
        rintro B a' W' ⟨rfl, rfl⟩
        have h5 : Sat w0 (pt ll B * _) _ := H4.out.pull2.putObj (o' := B)
        have q0 := h5.pull2.cell 0 rfl
        have q1 := h5.pull2.cell 1 rfl
        have o0 := h5.pull3.cell 0 rfl
        have H5 := Lib.hid h5
        clear h5 hR
        subst ha0
        simp only [List.setIfInBounds_toArray, List.set_cons_succ, List.set_cons_zero]
        generalize (W2.alloc (.cells #[vi ri, vu rg] 32)).putObj ll B = W3 at *
        generalize W2.heap.size = ba at *
        gi_wp2_with (first | (gi_at_builtin; refine wpListIn_append_sl Eref rfl (.tmp 11) (.tmp 13) rfl rfl (H5.out.pull4.alloc' _) (by rfl) (rdTwo _ _ (vi ri) (vu rg) rfl) (by simp [Value.oneCell']) (by unfold maxLen; omega) (by omega) ?_; intro ao6 cap6 w6 hS6; have o6 := hS6.pull4.cell 0 rfl; have f6 := hS6.pull4.free 0; have H6 := Lib.hid hS6; clear hS6))
        have h7 := H6.out.pull4.store 0 (.slice ao6 (k + 1) cap6)
        have h8 : Sat w0 (pt ba (.cells #[vi ri, vu rg] 32) * (pt ll B * (pc bo 27 [.slice ao6 (k + 1) cap6] * (sl 32 2 (.slice ao6 (k + 1) cap6) (k + 1) (frefs (l.take k) ++ [vi ri, vu rg]) * (upS d p bd br ri rg ps free ((pc b2 32 [vi i, vu g] * F) * (pt D dmark * F2))))))) _ := h7.cast (by simp only [List.set_cons_zero]; ac_rfl)
        refine HBK.out B _ (.slice ao6 (k + 1) cap6) ?_
        rw [List.take_add_one, HLK.out, Option.toList_some, frefs_snoc]
        exact h8.dropL
      exact hY.mono fun e W' h => ⟨h.1, h.2.cast (by unfold upS; ac_rfl)⟩
    · rintro e W' ⟨he, h⟩
      exact ⟨he, h.cast (by unfold upS; ac_rfl)⟩
  case done =>
    intro D W hS
    obtain ⟨v, hv⟩ := (hS.cast (show _ = chH bo l (pc b2 32 [vi i, vu g] * F) l.length * (pc br 32 [vi (refAt ps (i, g) l.length).1, vu (refAt ps (i, g) l.length).2] * (pc bd 25 [vp d] * (domB d p * (tblP p ps free * pt D dmark)))) by unfold upS; ac_rfl)).exE
    rw [List.take_length] at hv
    have h3 : Sat w0 (pc bo 27 [v] * (pt D dmark * (pc b2 32 [vi i, vu g] * (pc br 32 [vi (refAt ps (i, g) l.length).1, vu (refAt ps (i, g) l.length).2] * (pc bd 25 [vp d] * (sl 32 2 v l.length (frefs l) * (domB d p * (tblP p ps free * F)))))))) W := hv.cast (by ac_rfl)
    obtain ⟨vo, vc, rfl⟩ := h3.dropL.dropL.dropL.dropL.dropL.rd.len
    have o0 := h3.cell 0 rfl
    have o1 := h3.free 0
    have h4 := h3.store 0 (.slice vo l.length vc)
    have hne := h4.ne
    have hc := h4.cell 0 rfl
    have hk := h4.dropL.blk.1
    have H4 := Lib.hid h4
    clear hS hv h3 h4
    subst ha0
    gi_wp2
    generalize W.setCell ⟨bo, 0, none⟩ (.slice vo l.length vc) = W4 at *
    refine ⟨by simp, .inl ⟨_, _, rfl, run_takeDeferred hk, ?_⟩⟩
    have hc2 : (W4.putObj D (.deferred none)).cell? ⟨bo, 0, none⟩ = some (.slice vo l.length vc) := (World.cell?_of_block (a := ⟨bo, 0, none⟩) (World.putObj_heap_other hne)).trans hc
    exact ⟨.slice vo l.length vc, by simp [results, Try.f17, go_sem, hc2], _, rfl, H4.out.pull2.putObj.dropL.dropL.dropL.dropL.dropL⟩
end
end Go.Proofs.Ytfioghpnehfjhaa.Dm
