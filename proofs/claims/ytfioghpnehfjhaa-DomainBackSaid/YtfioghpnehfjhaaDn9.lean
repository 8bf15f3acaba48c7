/-
  Package domain: live. No statement is proved here.
-/
import Derived.Test.YtfioghpnehfjhaaDn8
import Derived.RangeFuncCalls
namespace Go.Proofs.Ytfioghpnehfjhaa.Dm
open Go.RowKit Go.Shelf Ad
attribute [local go_sem] Oper.semAt_some
set_option linter.unusedVariables false

section
variable {w0 w : World} {F : Hp} {d p : Nat} {ps : List Pl} {free : List Nat}
set_option maxRecDepth 100000 in
set_option maxHeartbeats 2000000 in
theorem dm_live (hS : Sat w0 (domB d p * (tblP p ps free * F)) w) (r : Nat) (g more : Int) (c : List Nat) (hC : Ch ps ((r : Int), g) (c.map (rfp ps))) (hnd : c.Nodup)
    (hb : ∀ (k : Nat) (a : Pl), ps[k]? = some a → -1000 ≤ a.x.v7 ∧ a.x.v7 ≤ 1000000 ∧ -1000 ≤ a.x.v8 ∧ a.x.v8 ≤ 1000000) (hm : -1 ≤ more ∧ more ≤ 1) :
    Calls Try.prog 73 #[vp d, vr r g, vi more] w fun e w' => e = .returned (vi 0) ∧ Sat w0 (domB d p * (tblP p (livP ps c more r) free * F)) w' := by
  have hB0 := ((hS.alloc (.cells #[vp d] 25)).alloc (.cells #[vi r, vu g] 32)).alloc (.cells #[vi more] 3)
  simp only [size1] at hB0
  have hB : Sat w0 (pc (w.heap.size + 1 + 1) 3 [vi more] * (pc (w.heap.size + 1) 32 [vi r, vu g] * (pc w.heap.size 25 [vp d] * (domB d p * (tblP p ps free * F))))) (((w.alloc (.cells #[vp d] 25)).alloc (.cells #[vi r, vu g] 32)).alloc (.cells #[vi more] 3)) := hB0
  have z0 := hB.pull3.cell 0 rfl
  have z1 := hB.pull2.cell 0 rfl
  have z2 := hB.pull2.cell 1 rfl
  have HU := Lib.hid (dm_up (d := d) hB r g)
  obtain ⟨hat, hend⟩ := hC.at_
  rw [List.length_map] at hend
  have HAt : Hid (∀ k, k < c.length → getE ps (refAt ps ((r : Int), g) k).1 (refAt ps ((r : Int), g) k).2 = 0) := Lib.hid fun k hk => (hat k (by simpa using hk)).2
  have HEnd := Lib.hid hend
  have HC := Lib.hid hC
  have HStep := Lib.hid (fun (k : Nat) (hk : k < c.length) (bm ba br : Nat) (G : Hp) (w1 : World) (h1 : Sat w0 (domB d p * (tblP p (livP ps (c.take k) more r) free * (livC bm ba br more (refAt ps ((r : Int), g) k).1 (refAt ps ((r : Int), g) k).2 r g * G))) w1) => live_step hC hnd hb hm hk bm ba br h1)
  clear hS hB hB0 hat hend hC hb
  generalize hwb : ((w.alloc (.cells #[vp d] 25)).alloc (.cells #[vi r, vu g] 32)).alloc (.cells #[vi more] 3) = wb at *
  generalize hb1 : w.heap.size + 1 + 1 = b5 at *
  generalize hb2 : w.heap.size + 1 = b4 at *
  generalize hb3 : w.heap.size = b3 at *
  have HW := Lib.hid hwb
  have HB1 := Lib.hid hb1
  have HB2 := Lib.hid hb2
  have HB3 := Lib.hid hb3
  clear hwb hb1 hb2 hb3
  refine (callsIn_wide (n := 9)).1 ?_
  refine callsIn_of_wp_marks Try.func73 rfl trivial ?_ rfl
  simp only [Try.ntmps73, List.size_toArray, List.length_cons, List.length_nil, Nat.reduceAdd, Nat.reduceSub, Array.replicate_succ, Array.replicate_zero, List.push_toArray, List.append_toArray, List.nil_append, List.cons_append]
  gi_wp2_with fail
  refine ⟨trivial, ?_⟩
  rw [HW.out, HB3.out, HB2.out, HB1.out]
  refine (callsIn_wide.2 HU.out).mono ?_
  rintro e w1 ⟨bd, br, rfl, hS⟩
  have h1 : Sat w0 (upS d p bd br r g (livP ps (c.take 0) more r) free (pc b3 25 [vp d] * (pc b4 32 [vi r, vu g] * (pc b5 3 [vi more] * F)))) w1 := by
    rw [List.take_zero, livP_nil]
    exact hS.cast (by unfold upS; ac_rfl)
  have H1 := Lib.hid h1
  clear hS h1 z0 z1 z2
  gi_wp2
  refine wpIn_act ?_
  intro a0 ha0
  refine wpIn_range_sat (H' := upS d p bd br (refAt ps ((r : Int), g) c.length).1 (refAt ps ((r : Int), g) c.length).2 (livP ps (c.take c.length) more r) free (pc b3 25 [vp d] * (pc b4 32 [vi r, vu g] * (pc b5 3 [vi more] * F)))) rfl (by omega) (gf := 70) (lb := #[vp bd, vp br]) (by rw [ha0]; rfl) trivial (enters_of Try.func70 (by kernel_rfl) rfl) H1.out ?call ?done
  case call =>
    intro fn ll D R W hfn hR hS
    have hS : Sat w0 (upS d p bd br (refAt ps ((r : Int), g) 0).1 (refAt ps ((r : Int), g) 0).2 (livP ps (c.take 0) more r) free ((pc b3 25 [vp d] * (pc b4 32 [vi r, vu g] * (pc b5 3 [vi more] * F))) * (pt ll R * pt D dmark))) W := hS.cast (by unfold upS; simp only [refAt]; ac_rfl)
    refine (up1_ 8 (by omega) c.length (fun k => (refAt ps ((r : Int), g) k).1) (fun k => (refAt ps ((r : Int), g) k).2) (fun k => livP ps (c.take k) more r) (fun _ => (pc b3 25 [vp d] * (pc b4 32 [vi r, vu g] * (pc b5 3 [vi more] * F))) * (pt ll R * pt D dmark)) d p bd br ll ?_ ?_ (by rw [getE_liv]; exact HEnd.out) hS).mono ?_
    · intro k W2 F2 hk hS2
      have HSt := Lib.hid (HStep.out k hk)
      clear hS
      generalize hr : refAt ps ((r : Int), g) k = rk at *
      obtain ⟨ri, rg⟩ := rk
      clear hr
      dsimp only at hS2 HSt ⊢
      generalize getX (livP ps (c.take k) more r) ri rg = x at *
      have h3 : Sat w0 (pt ll R * (pc b3 25 [vp d] * (pc b4 32 [vi r, vu g] * (pc b5 3 [vi more] * (upS d p bd br ri rg (livP ps (c.take k) more r) free (F * (pt D dmark * F2))))))) W2 := hS2.cast (by unfold upS; ac_rfl)
      have H3 := Lib.hid h3
      have h4 := h3.alloc (.cells #[vi ri, vu rg] 32)
      have H4 := Lib.hid h4
      clear hS2 h3 h4
      have hY := yield_sat (P := Try.prog) (G := Fence.wide) (n := 8 - 1) (args := #[vr ri rg, ev x]) (X' := upS d p bd br ri rg (livP ps (c.take (k + 1)) more r) free ((pc b3 25 [vp d] * (pc b4 32 [vi r, vu g] * (pc b5 3 [vi more] * F))) * (pt D dmark * F2)))
        (A := fun a' W' => a' = { tmps := ((a0.tmps.setIfInBounds 11 (vr ri rg)).setIfInBounds 12 (ev x)).setIfInBounds 7 (.pointer (some ⟨W2.heap.size, 0, none⟩)), defers := [] } ∧ W' = W2.alloc (.cells #[vi ri, vu rg] 32)) hfn rfl hR H3.out ?ha ?assign ?body
      case ha =>
        rintro a' W' ⟨_, rfl⟩
        exact H4.out.pull2.blk.1
      case assign =>
        intro K hK
        have HK := Lib.hid hK
        clear hK hR
        subst ha0
        gi_wp2
        exact HK.out _ _ ⟨rfl, rfl⟩
      case body =>
        rintro B a' W' ⟨rfl, rfl⟩
        have h5 : Sat w0 (pt ll B * _) _ := H4.out.pull2.putObj (o' := B)
        have q0 := h5.pull2.cell 0 rfl
        have q1 := h5.pull2.cell 1 rfl
        have o0 := h5.pull3.cell 0 rfl
        have H5 := Lib.hid h5
        clear h5 hR
        subst ha0
        simp only [List.setIfInBounds_toArray, List.set_cons_succ, List.set_cons_zero]
        generalize (W2.alloc (.cells #[vi ri, vu rg] 32)).putObj ll B = W3 at *
        generalize W2.heap.size = ba at *
        have HCh := Lib.hid (HSt.out b5 ba b4 (pt ll B * (pc b3 25 [vp d] * (pc br 32 [vi ri, vu rg] * (pc bd 25 [vp d] * (F * (pt D dmark * F2)))))) W3 (H5.out.cast (show (pt ll B * (pc ba 32 [vi ri, vu rg] * (pc b3 25 [vp d] * (pc b4 32 [vi r, vu g] * (pc b5 3 [vi more] * (upS d p bd br ri rg (livP ps (c.take k) more r) free (F * (pt D dmark * F2)))))))) = _ by unfold upS livC; ac_rfl)))
        gi_wp2_with fail
        refine ⟨trivial, ?_⟩
        refine ((callsIn_wide.2 HCh.out).inRound ll).mono ?_
        rintro e w6 ⟨⟨v6, rfl⟩, hS6⟩
        have H6 := Lib.hid hS6
        clear hS6
        gi_wp2
        show Sat w0 _ w6
        exact (H6.out.cast (show _ = pc ba 32 [vi ri, vu rg] * (pt ll B * (upS d p bd br ri rg (livP ps (c.take (k + 1)) more r) free ((pc b3 25 [vp d] * (pc b4 32 [vi r, vu g] * (pc b5 3 [vi more] * F))) * (pt D dmark * F2)))) by unfold upS livC; ac_rfl)).dropL
      exact hY.mono fun e W' h => ⟨h.1, h.2.cast (by unfold upS; ac_rfl)⟩
    · intro k hk
      obtain ⟨j, a, hj, ha, ht, hr⟩ := chain_at HC.out hk
      have hup : refAt ps ((r : Int), g) (k + 1) = upR ps (refAt ps ((r : Int), g) k) := rfl
      refine ⟨by rw [getE_liv]; exact HAt.out k hk, ?_⟩
      simp only [hup]
      rw [hr]
      have hx := (getX_of ha ht).1
      show (getX (livP ps (c.take k) more r) j a.gen).v0 = (getX ps j a.gen).v0 ∧ (getX (livP ps (c.take k) more r) j a.gen).v1 = (getX ps j a.gen).v1
      rw [getX_liv ha ht, hx]
      split <;> exact ⟨rfl, rfl⟩
    · rintro e W' ⟨he, h⟩
      exact ⟨he, h.cast (by unfold upS; ac_rfl)⟩
  case done =>
    intro D W hS
    rw [List.take_length] at hS
    have h3 : Sat w0 (pt D dmark * (pc br 32 [vi (refAt ps ((r : Int), g) c.length).1, vu (refAt ps ((r : Int), g) c.length).2] * (pc bd 25 [vp d] * (pc b3 25 [vp d] * (pc b4 32 [vi r, vu g] * (pc b5 3 [vi more] * (domB d p * (tblP p (livP ps c more r) free * F)))))))) W := hS.cast (by unfold upS; ac_rfl)
    have hk := h3.blk.1
    have H3 := Lib.hid h3
    clear hS h3
    subst ha0
    gi_wp2
    refine ⟨by simp, .inl ⟨_, _, rfl, run_takeDeferred hk, ?_⟩⟩
    exact ⟨vi 0, by simp [results, Try.f73, go_sem], rfl, H3.out.putObj.dropL.dropL.dropL.dropL.dropL.dropL⟩
end
end Go.Proofs.Ytfioghpnehfjhaa.Dm
