/-
  Package context: All, and its iterator. No statement is proved here.
-/
import Derived.Test.YtknodagcmachiaaMg20
import Derived.Test.YtknodagcmachiaaCn6
import Derived.Test.YtknodagcmachiaaCx1
import Derived.RangeFuncCalls
import Derived.Laws.EntriesVeiled
import Derived.Test.YtknodagcmachiaaMg18
namespace Go.Proofs.Ytknodagcmachiaa.Cn
open Go.RowKit Go.Shelf Ac Fi
attribute [local go_sem] Oper.semAt_some
set_option linter.unusedVariables false
set_option linter.unusedSimpArgs false

/-- What the iterator has of its own. -/
def cxIt (it bx g cap : Nat) (ps : List Pl) : Hp := pc it 45 [.func (.func 93) #[] #[vp bx]] * itP bx (.slice (some ⟨g, 0, none⟩) ps.length cap) ps
section
variable {w0 w : World} {F : Hp} {h p : Nat} {most : Int} {ps : List Pl} {free : List Nat}
set_option maxRecDepth 100000 in
set_option maxHeartbeats 2000000 in
theorem cx_all (hS : Sat w0 (cxB h p most * (tblP p ps free * F)) w) :
    Calls Try.prog 19 #[vp h] w fun e w' => ∃ it bx g cap, e = .returned (.func (.func 53) #[] #[vp it]) ∧ Sat w0 (cxIt it bx g cap ps * (cxB h p most * (tblP p ps free * F))) w' := by
  have HN := Lib.hid (cx_none hS)
  have HC := Lib.hid (da_all hS.pull2)
  have c0 := hS.cell 0 rfl
  clear hS
  go_enter Try.func19, Try.ntmps19
  go_wp2_with (first
    | (go_at_call 35; refine HN.out.mono ?_; rintro e w' ⟨rfl, rfl⟩)
    | (go_at_call 52; refine HC.out.mono ?_; rintro e w1 ⟨bx, g, cap, rfl, hS1⟩; have h1 := hS1.alloc (.cells #[.func (.func 93) #[] #[vp bx]] 45); have H1 := Lib.hid h1; clear hS1 h1))
  go_ret
  refine ⟨w1.heap.size, bx, g, cap, rfl, ?_⟩
  exact (show Sat w0 (pc w1.heap.size 45 [.func (.func 93) #[] #[vp bx]] * _) _ from H1.out).cast (by unfold cxIt; ac_rfl)
end
section
variable {w0 w : World} {ps : List Pl} {cs : List CP} {L : Blks} {it bx g cap l : Nat}
set_option maxRecDepth 100000 in
set_option maxHeartbeats 8000000 in
theorem cx_all2 (hp : PM L ps cs) (hsm : ps.length ≤ 4096) (hll : ∀ (k : Nat) (c : CP), cs[k]? = some c → c.cx.l.length ≤ 1000) (H : Nat → Hp) (S : Hp)
    (hRd : ∀ (k : Nat) (W : World) (F : Hp), Sat w0 (H k * F) W → ∀ v l, InP L v l → RdF W v l)
    (hK : ∀ (k : Nat) (c : CP) (W : World) (F : Hp), cs[k]? = some c → c.there = false → Sat w0 (H k * F) W → Sat w0 (H (k + 1) * F) W)
    (hY : ∀ (k : Nat) (c : CP) (ao : Option Addr) (lc : Nat) (W : World) (F : Hp), cs[k]? = some c → c.there = true → Sat w0 (fiS (.slice ao c.cx.l.length lc) c.cx.l * (H k * F)) W →
      YieldAt Fence.wide (7 - 1 - 1) Try.prog l #[vr k c.gen, ev ⟨c.cx.b, c.cx.p, ao, c.cx.l.length, lc, c.cx.n⟩] W fun e W' => ∃ b : Bool, e = .returned (.bool b) ∧ Sat w0 ((if b = true then H (k + 1) else S) * F) W')
    (h0 : Sat w0 (cxIt it bx g cap ps * H 0) w) :
    CallsIn Fence.wide 8 Try.prog 53 #[.func (.yield l) #[] #[], vp it] w fun e W' => (∃ v, e = .returned v) ∧ ∃ b : Bool, Sat w0 (cxIt it bx g cap ps * (if b = true then H ps.length else S)) W' := by
  have hB : Sat w0 (pc w.heap.size 92 [.func (.yield l) #[] #[]] * (pc it 45 [.func (.func 93) #[] #[vp bx]] * (itP bx (.slice (some ⟨g, 0, none⟩) ps.length cap) ps * H 0))) (w.alloc (.cells #[.func (.yield l) #[] #[]] 92)) := (h0.alloc (.cells #[.func (.yield l) #[] #[]] 92)).cast (by
    unfold cxIt
    show pc w.heap.size 92 [.func (.yield l) #[] #[]] * _ = _
    ac_rfl)
  have c0 := hB.pull2.cell 0 rfl
  have HB := Lib.hid hB
  have HY := Lib.hid hY
  have HK := Lib.hid hK
  have HRD := Lib.hid hRd
  have HLL := Lib.hid hll
  have HP := Lib.hid hp
  clear hB hY hK hRd hll hp h0
  refine callsIn_of_wp_marks Try.func53 rfl trivial ?_ rfl
  simp only [Try.ntmps53, List.size_toArray, List.length_cons, List.length_nil, Nat.reduceAdd, Nat.reduceSub, Array.replicate_succ, Array.replicate_zero, List.push_toArray, List.append_toArray, List.nil_append, List.cons_append]
  gi_wp2
  generalize w.alloc (.cells #[.func (.yield l) #[] #[]] 92) = wb at *
  generalize w.heap.size = b2 at *
  clear c0
  refine wpIn_act ?_
  intro a0 ha0
  refine wpIn_range_stop (H' := pc b2 92 [.func (.yield l) #[] #[]] * (pc it 45 [.func (.func 93) #[] #[vp bx]] * (itP bx (.slice (some ⟨g, 0, none⟩) ps.length cap) ps * H ps.length))) (S := fun c => given (c = .ret) (pc b2 92 [.func (.yield l) #[] #[]] * (pc it 45 [.func (.func 93) #[] #[vp bx]] * (itP bx (.slice (some ⟨g, 0, none⟩) ps.length cap) ps * S)))) rfl (by omega) (gf := 93) (lb := #[vp bx]) (by rw [ha0]; rfl) trivial (enters_of Try.func93 (by kernel_rfl) rfl) HB.out ?call ?done ?stop
  case call =>
    intro fn ll DD R Rd W hfn hR hRd' hS
    have hS : Sat w0 (itP bx (.slice (some ⟨g, 0, none⟩) ps.length cap) ps * (pt ll R * (pt DD dmark * (pc b2 92 [.func (.yield l) #[] #[]] * (pc it 45 [.func (.func 93) #[] #[vp bx]] * H 0))))) W := hS.cast (by ac_rfl)
    refine (da_all2 7 (by omega) hsm (fun k => pt ll R * (pt DD dmark * (pc b2 92 [.func (.yield l) #[] #[]] * (pc it 45 [.func (.func 93) #[] #[vp bx]] * H k)))) (ex fun c => pt ll (Rd c) * (pt DD dmark * given (c = .ret) (pc b2 92 [.func (.yield l) #[] #[]] * (pc it 45 [.func (.func 93) #[] #[vp bx]] * S)))) bx g cap ll ?skip ?round hS).mono ?back
    case skip =>
      intro k a W2 F2 hk hth h2
      obtain ⟨c, hc⟩ : ∃ c, cs[k]? = some c := ⟨cs[k]'(by have := HP.out.len; have := (List.getElem?_eq_some_iff.1 hk).1; omega), List.getElem?_eq_getElem _⟩
      obtain ⟨_, e2, _⟩ := HP.out.at_ k a c hk hc
      have := HK.out k c W2 (pt ll R * (pt DD dmark * (pc b2 92 [.func (.yield l) #[] #[]] * (pc it 45 [.func (.func 93) #[] #[vp bx]] * F2)))) hc (e2 ▸ hth) (h2.cast (by ac_rfl))
      exact this.cast (by ac_rfl)
    case back =>
      rintro e W' ⟨he, h2 | h2⟩
      · exact ⟨he, .inl (h2.cast (by ac_rfl))⟩
      · obtain ⟨c, h3⟩ := (h2.cast (sep_comm _ _)).exE
        refine ⟨he, .inr ⟨c, ?_⟩⟩
        have h4 := h3.cast (show _ = given (c = .ret) (pc b2 92 [.func (.yield l) #[] #[]] * (pc it 45 [.func (.func 93) #[] #[vp bx]] * S)) * (pt ll (Rd c) * (pt DD dmark * itP bx (.slice (some ⟨g, 0, none⟩) ps.length cap) ps)) by ac_rfl)
        obtain ⟨hc, h5⟩ := h4.givenE
        exact (Sat.givenI (A := pc b2 92 [.func (.yield l) #[] #[]] * (pc it 45 [.func (.func 93) #[] #[vp bx]] * (itP bx (.slice (some ⟨g, 0, none⟩) ps.length cap) ps * S))) (F := pt ll (Rd c) * pt DD dmark) hc (h5.cast (by ac_rfl))).cast (by ac_rfl)
    case round =>
      intro k a W2 F2 hk hth hS2
      obtain ⟨c, hc⟩ : ∃ c, cs[k]? = some c := ⟨cs[k]'(by have := HP.out.len; have := (List.getElem?_eq_some_iff.1 hk).1; omega), List.getElem?_eq_getElem _⟩
      obtain ⟨e1, e2, em⟩ := HP.out.at_ k a c hk hc
      have hct : c.there = true := e2 ▸ hth
      have hl := HLL.out k c hc
      have HY2 := Lib.hid (fun ao lc W F => HY.out k c ao lc W F hc hct)
      clear hS HY HK hk hth e2 hct hc
      obtain ⟨gen, th, rt, ⟨v0, v1, a2, n2, c2, v3⟩⟩ := a
      obtain ⟨cg, cth, ⟨cb, cp, cl, cn⟩, cf⟩ := c
      obtain ⟨m1, m2, m3, m4⟩ := em
      dsimp only at e1 m1 m2 m3 m4 hl HY2
      subst e1 m1 m2 m4
      have HI := Lib.hid m3
      obtain ⟨_, _, hform⟩ := m3.form
      have hn2 : n2 = cl.length := by injection hform
      subst hn2
      clear m3 hform
      have h3 : Sat w0 (pt ll R * (pc b2 92 [.func (.yield l) #[] #[]] * (H k * (pt DD dmark * (pc it 45 [.func (.func 93) #[] #[vp bx]] * (itP bx (.slice (some ⟨g, 0, none⟩) ps.length cap) ps * F2)))))) W2 := hS2.cast (by ac_rfl)
      have H3 := Lib.hid h3
      have h4' := (h3.alloc (.cells #[vi k, vu gen] 30)).alloc (elO (⟨v0, v1, a2, cl.length, c2, v3⟩ : El))
      rw [size1] at h4'
      have h4'' : Sat w0 (pc (W2.heap.size + 1) 49 (elC (⟨v0, v1, a2, cl.length, c2, v3⟩ : El)) * (pc W2.heap.size 30 [vi k, vu gen] * (pt ll R * (pc b2 92 [.func (.yield l) #[] #[]] * (H k * (pt DD dmark * (pc it 45 [.func (.func 93) #[] #[vp bx]] * (itP bx (.slice (some ⟨g, 0, none⟩) ps.length cap) ps * F2)))))))) ((W2.alloc (.cells #[vi k, vu gen] 30)).alloc (elO (⟨v0, v1, a2, cl.length, c2, v3⟩ : El))) := h4'
      have H4 := Lib.hid (h4''.cast (show _ = pt ll R * (pc W2.heap.size 30 [vi k, vu gen] * (pc (W2.heap.size + 1) 49 (elC (⟨v0, v1, a2, cl.length, c2, v3⟩ : El)) * (pc b2 92 [.func (.yield l) #[] #[]] * (H k * (pt DD dmark * (pc it 45 [.func (.func 93) #[] #[vp bx]] * (itP bx (.slice (some ⟨g, 0, none⟩) ps.length cap) ps * F2))))))) by ac_rfl))
      clear hS2 h3 h4' h4''
      have hY := yield_stop (P := Try.prog) (G := Fence.wide) (n := 7 - 1) (args := #[vr k gen, ev (⟨v0, v1, a2, cl.length, c2, v3⟩ : El)]) (X' := pc b2 92 [.func (.yield l) #[] #[]] * (H (k + 1) * (pt DD dmark * (pc it 45 [.func (.func 93) #[] #[vp bx]] * (itP bx (.slice (some ⟨g, 0, none⟩) ps.length cap) ps * F2))))) (S := fun c => given (c = .ret) (pc b2 92 [.func (.yield l) #[] #[]] * (S * (pt DD dmark * (pc it 45 [.func (.func 93) #[] #[vp bx]] * (itP bx (.slice (some ⟨g, 0, none⟩) ps.length cap) ps * F2))))))
        (A := fun a' W' => a' = { tmps := (((a0.tmps.setIfInBounds 6 (vr k gen)).setIfInBounds 7 (ev (⟨v0, v1, a2, cl.length, c2, v3⟩ : El))).setIfInBounds 3 (.pointer (some ⟨W2.heap.size, 0, none⟩))).setIfInBounds 4 (.pointer (some ⟨W2.heap.size + 1, 0, none⟩)), defers := [] } ∧ W' = (W2.alloc (.cells #[vi k, vu gen] 30)).alloc (elO (⟨v0, v1, a2, cl.length, c2, v3⟩ : El))) hfn rfl hR hRd' H3.out ?ha ?assign ?body
      case ha =>
        rintro a' W' ⟨_, rfl⟩
        exact H4.out.blk.1
      case assign =>
        intro K hK
        have HK := Lib.hid hK
        clear hK hR hRd'
        subst ha0
        gi_wp2
        exact HK.out _ _ ⟨by simp, rfl⟩
      case body =>
        rintro B a' W' ⟨rfl, rfl⟩
        have h5 : Sat w0 (pt ll B * _) _ := H4.out.putObj (o' := B)
        clear hR hRd' H3 H4 HLL HP
        subst ha0
        simp only [List.setIfInBounds_toArray, List.set_cons_succ, List.set_cons_zero]
        generalize (((W2.alloc (.cells #[vi k, vu gen] 30)).alloc (elO (⟨v0, v1, a2, cl.length, c2, v3⟩ : El))).putObj ll B) = W3 at *
        generalize W2.heap.size = ba at *
        have h6 := h5.drew
        have p0 := h6.pull2.cell 0 rfl
        have p1 := h6.pull2.cell 1 rfl
        have q0 := h6.pull3.cell 0 rfl
        have q1 := h6.pull3.cell 1 rfl
        have q2 := h6.pull3.cell 2 rfl
        have q3 := h6.pull3.cell 3 rfl
        have o0 := h6.pull4.cell 0 rfl
        have HC := Lib.hid (cx_copied (v0 := v0) (v1 := v1) (v3 := v3) (a2 := a2) (n2 := cl.length) (c2 := c2) h6 (fun w' h' => HRD.out k w' _ (h'.cast (show _ = H k * (pt ll B * (pc ba 30 [vi k, vu gen] * (pc (ba + 1) 49 (elC (⟨v0, v1, a2, cl.length, c2, v3⟩ : El)) * (pc b2 92 [.func (.yield l) #[] #[]] * (pt DD dmark * (pc it 45 [.func (.func 93) #[] #[vp bx]] * (itP bx (.slice (some ⟨g, 0, none⟩) ps.length cap) ps * F2))))))) by ac_rfl)) _ _ HI.out) hl)
        clear h5 h6
        have hmix : Try.prog.follows .mixedOrders = true := by kernel_rfl
        gi_wp2
        gi_region_with_o (first
          | (refine ⟨trivial, ?_⟩; gi_at_call 54; refine ((callsIn_wide.2 HC.out).inRound ll).mono ?_; rintro e W5 ⟨ao, lc, rfl, hS5⟩; have r0 := hS5.pull3.cell 0 rfl; have r1 := hS5.pull3.cell 1 rfl; have o0 := hS5.dropL.pull4.cell 0 rfl; have HS5 := Lib.hid hS5; obtain ⟨fn2, tmps2, assign2, body2, hy, hR2⟩ := HY2.out ao lc W5 _ (hS5.cast (show _ = fiS (.slice ao cl.length lc) cl * (H k * (pt ll B * (pc ba 30 [vi k, vu gen] * (pc (ba + 1) 49 (elC (⟨v0, v1, a2, cl.length, c2, v3⟩ : El)) * (pc b2 92 [.func (.yield l) #[] #[]] * (pt DD dmark * (pc it 45 [.func (.func 93) #[] #[vp bx]] * (itP bx (.slice (some ⟨g, 0, none⟩) ps.length cap) ps * F2)))))))) by ac_rfl)); have HR2 := Lib.hid hR2; clear hS5 hR2)
          | (refine HR2.out.mono ?_; rintro e W6 ⟨bb, rfl, hS6⟩; have H6 := Lib.hid hS6; clear hS6))
        all_goals
          cases bb with
          | true =>
            have h7 := H6.out
            rw [if_pos rfl] at h7
            have H7 := Lib.hid (h7.cast (show _ = pc ba 30 [vi k, vu gen] * (pc (ba + 1) 49 (elC (⟨v0, v1, a2, cl.length, c2, v3⟩ : El)) * (pt ll B * (pc b2 92 [.func (.yield l) #[] #[]] * (H (k + 1) * (pt DD dmark * (pc it 45 [.func (.func 93) #[] #[vp bx]] * (itP bx (.slice (some ⟨g, 0, none⟩) ps.length cap) ps * F2))))))) by ac_rfl)).dropL.dropL
            clear h7 H6
            gi_wp2
            exact H7.out
          | false =>
            have h7 := H6.out
            rw [if_neg (by simp)] at h7
            have h8 := (h7.cast (show _ = pc ba 30 [vi k, vu gen] * (pc (ba + 1) 49 (elC (⟨v0, v1, a2, cl.length, c2, v3⟩ : El)) * ((pc b2 92 [.func (.yield l) #[] #[]] * (S * (pt DD dmark * (pc it 45 [.func (.func 93) #[] #[vp bx]] * (itP bx (.slice (some ⟨g, 0, none⟩) ps.length cap) ps * F2))))) * pt ll B)) by ac_rfl)).dropL.dropL
            have H7 := Lib.hid h8
            clear h7 h8 H6
            gi_wp2
            exact (Sat.givenI (p := Code.ret = .ret) rfl H7.out).cast (sep_comm _ _)
      refine hY.mono ?_
      rintro e W' (⟨rfl, h⟩ | ⟨c, rfl, h⟩)
      · exact .inl ⟨rfl, h.cast (by ac_rfl)⟩
      · refine .inr ⟨rfl, ?_⟩
        obtain ⟨hc, h5⟩ := (h.cast (sep_comm _ _)).givenE
        refine (Sat.exI (F := itP bx (.slice (some ⟨g, 0, none⟩) ps.length cap) ps * F2) c ?_).cast (by ac_rfl)
        exact (Sat.givenI (A := pc b2 92 [.func (.yield l) #[] #[]] * (pc it 45 [.func (.func 93) #[] #[vp bx]] * S)) (F := pt ll (Rd c) * (pt DD dmark * (itP bx (.slice (some ⟨g, 0, none⟩) ps.length cap) ps * F2))) hc (h5.cast (by ac_rfl))).cast (by ac_rfl)
  case done =>
    intro DD W hS
    have hk := hS.blk.1
    have HS := Lib.hid (hS.putObj (o' := .deferred none)).dropL.dropL
    clear hS
    subst ha0
    gi_wp2
    refine ⟨by simp, .inl ⟨_, _, rfl, run_takeDeferred hk, ?_⟩⟩
    exact ⟨.tuple #[], by simp [results, Try.f53, go_sem], ⟨_, rfl⟩, true, HS.out.cast (by unfold cxIt; rw [if_pos rfl]; ac_rfl)⟩
  case stop =>
    intro c DD W hS
    obtain ⟨hc, hS2⟩ := (hS.cast (sep_comm _ _)).givenE
    have hS3 := hS2.cast (sep_comm _ _)
    have hk := hS3.blk.1
    have HS := Lib.hid (hS3.putObj (o' := .deferred none)).dropL.dropL
    clear hS hS2 hS3
    subst hc
    subst ha0
    gi_wp2
    refine ⟨by simp, .inl ⟨_, _, rfl, run_takeDeferred hk, ?_⟩⟩
    exact ⟨.tuple #[], by simp [results, Try.f53, go_sem], ⟨_, rfl⟩, false, HS.out.cast (by unfold cxIt; rw [if_neg (by simp)]; ac_rfl)⟩
end
end Go.Proofs.Ytknodagcmachiaa.Cn

namespace Go.Proofs.Ytknodagcmachiaa.Cn
open Go.RowKit Ac Fi
set_option linter.unusedVariables false

set_option maxRecDepth 100000 in
set_option maxHeartbeats 2000000 in
theorem sequal_ (l m : List Rf) (v u : Value) (w : World) (h : RdF w v l) (h' : RdF w u m) (hl : l.length ≤ 1000000) (hl2 : m.length ≤ 1000000) :
    Calls Try.prog 62 #[v, u] w (BoolOut (l = m) w) := by
  obtain ⟨ao, cap, rfl⟩ := h.rd.len
  obtain ⟨bo, bcap, rfl⟩ := h'.rd.len
  by_cases hne : l.length = m.length
  · have hd : ((l.length : Int) != (m.length : Int)) = false := by simp [hne]
    have HNE := Lib.hid hne
    clear hne
    go_enter Try.func62, Try.ntmps62
    go_wp2
    go_loopw [13] (fun i wr => ∃ (k n : Nat), k ≤ l.length ∧ i = vi k ∧ wr = w.drewN n ∧ Hid (l.take k = m.take k)) (fun i _ => l.length - (intOf i).toNat)
    case atStart => exact ⟨0, 0, Nat.zero_le _, rfl, rfl, Lib.hid rfl⟩
    case round =>
      obtain ⟨k, n, hk, rfl, rfl, ht⟩ := hrel
      by_cases hlt : k < l.length
      · have hlt2 : k < m.length := by have := HNE.out; omega
        obtain ⟨r, hr⟩ : ∃ r, l[k]? = some r := ⟨l[k], List.getElem?_eq_getElem hlt⟩
        obtain ⟨s, hs⟩ : ∃ s, m[k]? = some s := ⟨m[k], List.getElem?_eq_getElem hlt2⟩
        obtain ⟨b, off, c, hv, hc⟩ := (h.rd.drewN n).pos (by omega)
        cases hv
        obtain ⟨b2, off2, c2, hv2, hc2⟩ := (h'.rd.drewN n).pos (by omega)
        cases hv2
        have c0 := hc (k * 2 + 0) _ (flat_get Rf.len hr rfl)
        have c1 := hc (k * 2 + 1) _ (flat_get Rf.len hr rfl)
        have d0 := hc2 (k * 2 + 0) _ (flat_get Rf.len hs rfl)
        have d1 := hc2 (k * 2 + 1) _ (flat_get Rf.len hs rfl)
        rw [Nat.add_zero] at c0 d0
        rw [← Nat.add_assoc] at c1 d1
        have hkl : (k : Int) < (l.length : Int) := by omega
        have hkm : (k : Int) < (m.length : Int) := by omega
        obtain ⟨ra, rt⟩ := r
        obtain ⟨sa, st⟩ := s
        dsimp only at c0 c1 d0 d1
        have HNX : Hid (ra = sa → rt = st → l.take (k + 1) = m.take (k + 1)) := Lib.hid (fun h1 h2 => take_next ht.out hr hs (by rw [h1, h2]))
        have HNO : Hid (¬ (ra = sa ∧ rt = st) → l ≠ m) := Lib.hid (fun hn e => hn (by
          rw [e, hs] at hr
          cases hr
          exact ⟨rfl, rfl⟩))
        clear hc hc2 hr hs ht
        generalize hwn : w.drewN n = wn at *
        have HW := Lib.hid hwn
        clear hwn
        by_cases ha : ra = sa
        · by_cases hb : rt = st
          · have HNX2 := Lib.hid (HNX.out ha hb)
            subst ha
            subst hb
            go_wp2
            go_quiet (fail)
            go_wp2
            go_roundw
            case rel => exact ⟨k + 1, _, by omega, by go_num, by rw [← HW.out]; exact World.drewN_drewN _ _ _, HNX2⟩
            case measure => (simp [intOf]; try omega)
          · have HF := Lib.hid (HNO.out (fun h => hb h.2))
            have hb2 : (rt == st) = false := beq_eq_false_iff_ne.2 hb
            subst ha
            clear hb
            go_wp2
            go_quiet (fail)
            go_wp2
            go_ret
            exact BoolOut.f rfl HF.out (by rw [← HW.out]; exact drewB (drewB (Below.refl _ _) _) _)
        · have HF := Lib.hid (HNO.out (fun h => ha h.1))
          have ha2 : (ra == sa) = false := beq_eq_false_iff_ne.2 ha
          clear ha
          go_wp2
          go_quiet (fail)
          go_wp2
          go_ret
          exact BoolOut.f rfl HF.out (by rw [← HW.out]; exact drewB (drewB (Below.refl _ _) _) _)
      · obtain rfl : k = l.length := by omega
        have HE : Hid (l = m) := Lib.hid (by
          have h1 := ht.out
          rw [List.take_of_length_le (Nat.le_refl _), List.take_of_length_le (by have := HNE.out; omega)] at h1
          exact h1)
        clear ht
        go_wp2
        go_ret
        exact BoolOut.t rfl HE.out (drewB (Below.refl _ _) _)
  · have hd : ((l.length : Int) != (m.length : Int)) = true := by simp; omega
    have HF : Hid (l ≠ m) := Lib.hid (fun e => hne (by rw [e]))
    clear hne
    go_enter Try.func62, Try.ntmps62
    go_wp2
    go_ret
    exact BoolOut.f rfl HF.out (Below.refl _ _)


section
variable {w0 w : World} {F : Hp} {h h2 n T T2 : Nat} {most times times2 : Int} {L0 L : Blks} {cs cs2 : List CP} {free free2 : List Nat}
theorem cxQ_rd (hS : Sat w0 (cxQ L h most cs free * F) w) {v : Value} {l : List Rf} (hi : InP L v l) : RdF w v l := by
  obtain ⟨p, ps, L2, hL, hp, hs⟩ := cx_open hS
  exact Sat.plRd (hs.cast (show _ = plB L2 * (cxB h p most * (tblP p ps free * F)) by ac_rfl)) (hi.mono hL)
theorem p_all (hS : Sat w0 (cxQ L0 h most cs free * F) w) :
    Calls Try.prog 19 #[vp h] w fun e w' => ∃ it bx g cap ps L, e = .returned (.func (.func 53) #[] #[vp it]) ∧ (∀ y ∈ L0, y ∈ L) ∧ PM L ps cs ∧ Sat w0 (cxIt it bx g cap ps * (cxQ L h most cs free * F)) w' := by
  obtain ⟨p, ps, L, hL, hp, hs⟩ := cx_open hS
  refine (cx_all hs).mono fun e w' ⟨it, bx, g, cap, he, h2⟩ => ⟨it, bx, g, cap, ps, L, he, hL, hp, ?_⟩
  have h3 := h2.cast (show _ = cxB h p most * (tblP p ps free * (plB L * (cxIt it bx g cap ps * F))) by ac_rfl)
  exact (cx_shut (fun y hy => hy) hp h3).pull2
/-- Two contexts, side by side, whose lists lie in one pool. -/
def twX (L0 : Blks) (h h2 : Nat) (most : Int) (cs : List CP) (free : List Nat) (cs2 : List CP) (free2 : List Nat) : Hp :=
  ex fun x : Nat × List Pl × Nat × List Pl × Blks => given ((∀ y ∈ L0, y ∈ x.2.2.2.2) ∧ PM x.2.2.2.2 x.2.1 cs ∧ PM x.2.2.2.2 x.2.2.2.1 cs2) (cxB h x.1 most * (tblP x.1 x.2.1 free * (cxB h2 x.2.2.1 most * (tblP x.2.2.1 x.2.2.2.1 free2 * plB x.2.2.2.2))))
theorem tw_open (hS : Sat w0 (twX L0 h h2 most cs free cs2 free2 * F) w) : ∃ p ps p2 ps2 L, (∀ y ∈ L0, y ∈ L) ∧ PM L ps cs ∧ PM L ps2 cs2 ∧ Sat w0 (cxB h p most * (tblP p ps free * (cxB h2 p2 most * (tblP p2 ps2 free2 * (plB L * F))))) w := by
  obtain ⟨⟨p, ps, p2, ps2, L⟩, hS⟩ := hS.exE
  obtain ⟨hp, hS⟩ := hS.givenE
  dsimp only at hS hp
  exact ⟨p, ps, p2, ps2, L, hp.1, hp.2.1, hp.2.2, hS.cast (by ac_rfl)⟩
theorem tw_shut {p p2 : Nat} {ps ps2 : List Pl} (hl : ∀ y ∈ L0, y ∈ L) (hp : PM L ps cs) (hp2 : PM L ps2 cs2) (hS : Sat w0 (cxB h p most * (tblP p ps free * (cxB h2 p2 most * (tblP p2 ps2 free2 * (plB L * F))))) w) : Sat w0 (twX L0 h h2 most cs free cs2 free2 * F) w :=
  Sat.exI (p, ps, p2, ps2, L) (Sat.givenI ⟨hl, hp, hp2⟩ (hS.cast (show _ = (cxB h p most * (tblP p ps free * (cxB h2 p2 most * (tblP p2 ps2 free2 * plB L)))) * F by ac_rfl)))
theorem tw_swap (hS : Sat w0 (twX L0 h h2 most cs free cs2 free2 * F) w) : Sat w0 (twX L0 h2 h most cs2 free2 cs free * F) w := by
  obtain ⟨p, ps, p2, ps2, L, hL, hp, hp2, hs⟩ := tw_open hS
  exact tw_shut (p := p2) (p2 := p) hL hp2 hp (hs.cast (by ac_rfl))
/-- The first of them, alone. -/
theorem tw_fst (hS : Sat w0 (twX L0 h h2 most cs free cs2 free2 * F) w) : ∃ L G, (∀ y ∈ L0, y ∈ L) ∧ Sat w0 (cxQ L h most cs free * (G * F)) w ∧ ∀ (w0 w' : World) (L' : Blks) (cs' : List CP) (free' : List Nat) (F' : Hp), (∀ y ∈ L, y ∈ L') → Sat w0 (cxQ L' h most cs' free' * (G * F')) w' → Sat w0 (twX L' h h2 most cs' free' cs2 free2 * F') w' := by
  obtain ⟨p, ps, p2, ps2, L, hL, hp, hp2, hs⟩ := tw_open hS
  refine ⟨L, cxB h2 p2 most * tblP p2 ps2 free2, hL, cx_shut (p := p) (fun y hy => hy) hp (hs.cast (by ac_rfl)), fun w0 w' L' cs' free' F' hl' h' => ?_⟩
  obtain ⟨p3, ps3, L3, hL3, hp3, hs3⟩ := cx_open h'
  exact tw_shut (p := p3) (p2 := p2) hL3 hp3 (hp2.mono (fun y hy => hL3 y (hl' y hy))) (hs3.cast (by ac_rfl))
theorem tw_less (hS : Sat w0 (twX L h h2 most cs free cs2 free2 * F) w) (hl : ∀ y ∈ L0, y ∈ L) : Sat w0 (twX L0 h h2 most cs free cs2 free2 * F) w := by
  obtain ⟨p, ps, p2, ps2, L2, hL, hp, hp2, hs⟩ := tw_open hS
  exact tw_shut (fun y hy => hL y (hl y hy)) hp hp2 hs
theorem tw_rd (hS : Sat w0 (twX L h h2 most cs free cs2 free2 * F) w) {v : Value} {l : List Rf} (hi : InP L v l) : RdF w v l := by
  obtain ⟨p, ps, p2, ps2, L2, hL, hp, hp2, hs⟩ := tw_open hS
  exact Sat.plRd (hs.cast (show _ = plB L2 * (cxB h p most * (tblP p ps free * (cxB h2 p2 most * (tblP p2 ps2 free2 * F)))) by ac_rfl)) (hi.mono hL)
theorem tw_get (hI2 : Inv n most T cs2 free2 times) (hS : Sat w0 (twX L h h2 most cs free cs2 free2 * F) w) (i g : Int) :
    Calls Try.prog 29 #[vp h2, vr i g] w fun e w' => ∃ ao lc, e = .returned (.tuple #[ev ⟨(gC cs2 i g).b, (gC cs2 i g).p, ao, (gC cs2 i g).l.length, lc, (gC cs2 i g).n⟩, vi (eC cs2 i g)]) ∧ Sat w0 (fiS (.slice ao (gC cs2 i g).l.length lc) (gC cs2 i g).l * (twX L h h2 most cs free cs2 free2 * F)) w' := by
  obtain ⟨L2, G, hl, hs, hb⟩ := tw_fst (tw_swap hS)
  refine (p_get hI2 hs i g).mono fun e w' ⟨ao, lc, he, h'⟩ => ⟨ao, lc, he, ?_⟩
  have h3 := hb w0 w' _ cs2 free2 _ (fun y hy => hy) (h'.cast (show _ = cxQ L2 h2 most cs2 free2 * (G * (fiS (.slice ao (gC cs2 i g).l.length lc) (gC cs2 i g).l * F)) by ac_rfl))
  exact (tw_less (tw_swap h3) hl).pull2
theorem tw_copy (hS : Sat w0 (cxQ L0 h most cs free * F) w) :
    Calls Try.prog 25 #[vp h] w fun e w' => ∃ o, e = .returned (vp o) ∧ Sat w0 (twX L0 h o most cs free cs free * F) w' := by
  obtain ⟨p, ps, L, hL, hp, hs⟩ := cx_open hS
  refine (cx_copy hs).mono fun e w' ⟨o, q, he, h'⟩ => ⟨o, he, tw_shut (p := p) (p2 := q) hL hp hp (h'.cast (by ac_rfl))⟩
/-- Both have the same. -/
def SameC (cs cs2 : List CP) : Prop := ∀ (k : Nat) (c c2 : CP), cs[k]? = some c → cs2[k]? = some c2 → c.there = c2.there ∧ (c.there = true → c.gen = c2.gen ∧ c.cx = c2.cx)
theorem SameC.symm (hs : SameC cs cs2) : SameC cs2 cs := fun k c c2 h1 h2 => by
  obtain ⟨e1, e2⟩ := hs k c2 c h2 h1
  exact ⟨e1.symm, fun ht => by obtain ⟨a, b⟩ := e2 (e1.trans ht); exact ⟨a.symm, b.symm⟩⟩
theorem SameC.refl (cs : List CP) : SameC cs cs := fun k c c2 h1 h2 => by
  rw [h1] at h2
  cases h2
  exact ⟨rfl, fun _ => ⟨rfl, rfl⟩⟩
/-- So far whoever is there is there too. -/
def MatchC (cs cs2 : List CP) (m : Nat) : Prop := ∀ k, k < m → ∀ c : CP, cs[k]? = some c → c.there = true → eC cs2 k c.gen = 0 ∧ gC cs2 k c.gen = c.cx
theorem SameC.at_ (hs : SameC cs cs2) (hl : cs.length = cs2.length) {k : Nat} {c : CP} (hc : cs[k]? = some c) (ht : c.there = true) : eC cs2 k c.gen = 0 ∧ gC cs2 k c.gen = c.cx := by
  obtain ⟨c2, hc2⟩ : ∃ c2, cs2[k]? = some c2 := ⟨cs2[k]'(by rw [← hl]; exact (List.getElem?_eq_some_iff.1 hc).1), List.getElem?_eq_getElem _⟩
  obtain ⟨e1, e2⟩ := hs k c c2 hc hc2
  obtain ⟨e3, e4⟩ := e2 ht
  have := isC_of hc2 (e1 ▸ ht)
  rw [← e3] at this
  obtain ⟨g1, g2⟩ := isC_gC this
  exact ⟨g2, by rw [g1, e4]⟩
theorem MatchC.next {m : Nat} (hm : MatchC cs cs2 m) (h1 : ∀ c : CP, cs[m]? = some c → c.there = true → eC cs2 m c.gen = 0 ∧ gC cs2 m c.gen = c.cx) : MatchC cs cs2 (m + 1) := fun k hk c hc ht => by
  by_cases he : k = m
  · subst he
    exact h1 c hc ht
  · exact hm k (by omega) c hc ht
theorem eC_inv {k : Nat} {g : Int} (he : eC cs2 k g = 0) : ∃ c2, cs2[k]? = some c2 ∧ c2.there = true ∧ c2.gen = g ∧ gC cs2 k g = c2.cx := by
  obtain ⟨k', c2, hc⟩ := eC_yes he
  obtain ⟨h1, h2, h3, h4⟩ := isC_some hc
  have : k' = k := by omega
  subst this
  exact ⟨c2, h1, h3, h4, (isC_gC hc).1⟩
theorem cnt_all {m : Nat} (hl : cs.length = cs2.length) (hm : m ≤ cs.length) (hM : MatchC cs cs2 m) : cntC cs m ≤ cntC cs2 m ∧ (cntC cs m = cntC cs2 m → ∀ k, k < m → ∀ c c2 : CP, cs[k]? = some c → cs2[k]? = some c2 → c.there = c2.there) := by
  induction m with
  | zero => exact ⟨Nat.le_refl _, fun _ k hk => by omega⟩
  | succ m ih =>
    obtain ⟨ih1, ih2⟩ := ih (by omega) (fun k hk => hM k (by omega))
    obtain ⟨c, hc⟩ : ∃ c, cs[m]? = some c := ⟨cs[m], List.getElem?_eq_getElem (by omega)⟩
    obtain ⟨c2, hc2⟩ : ∃ c2, cs2[m]? = some c2 := ⟨cs2[m]'(by omega), List.getElem?_eq_getElem _⟩
    rw [cntC_succ hc, cntC_succ hc2]
    have hle : c.there = true → c2.there = true := fun ht => by
      obtain ⟨c3, h3, h4, _⟩ := eC_inv (hM m (by omega) c hc ht).1
      rw [hc2] at h3
      cases h3
      exact h4
    cases h1 : c.there <;> cases h2 : c2.there
    · refine ⟨by simpa using ih1, fun he k hk d d2 hd hd2 => ?_⟩
      by_cases hkm : k = m
      · subst hkm
        rw [hc] at hd
        rw [hc2] at hd2
        cases hd
        cases hd2
        rw [h1, h2]
      · exact ih2 (by simpa using he) k (by omega) d d2 hd hd2
    · refine ⟨by simp; omega, fun he => ?_⟩
      simp at he
      omega
    · have := hle h1
      rw [h2] at this
      cases this
    · refine ⟨by simp; omega, fun he k hk d d2 hd hd2 => ?_⟩
      by_cases hkm : k = m
      · subst hkm
        rw [hc] at hd
        rw [hc2] at hd2
        cases hd
        cases hd2
        rw [h1, h2]
      · exact ih2 (by simpa using he) k (by omega) d d2 hd hd2
theorem same_of (hl : cs.length = cs2.length) (hM : MatchC cs cs2 cs.length) (hc : cntC cs cs.length = cntC cs2 cs2.length) : SameC cs cs2 := fun k c c2 h1 h2 => by
  have hk : k < cs.length := (List.getElem?_eq_some_iff.1 h1).1
  rw [← hl] at hc
  have he := (cnt_all hl (Nat.le_refl _) hM).2 hc k hk c c2 h1 h2
  refine ⟨he, fun ht => ?_⟩
  obtain ⟨e1, e2⟩ := hM k hk c h1 ht
  obtain ⟨c3, h3, h4, h5, h6⟩ := eC_inv e1
  rw [h2] at h3
  cases h3
  exact ⟨h5.symm, by rw [← h6, e2]⟩
theorem SameC.cnt (hs : SameC cs cs2) (hl : cs.length = cs2.length) : cntC cs cs.length = cntC cs2 cs2.length := by
  have key : ∀ m, m ≤ cs.length → cntC cs m = cntC cs2 m := by
    intro m
    induction m with
    | zero => intro _; rfl
    | succ m ih =>
      intro hm
      obtain ⟨c, hc⟩ : ∃ c, cs[m]? = some c := ⟨cs[m], List.getElem?_eq_getElem (by omega)⟩
      obtain ⟨c2, hc2⟩ : ∃ c2, cs2[m]? = some c2 := ⟨cs2[m]'(by omega), List.getElem?_eq_getElem _⟩
      rw [cntC_succ hc, cntC_succ hc2, ih (by omega), (hs m c c2 hc hc2).1]
  rw [key _ (Nat.le_refl _), hl]
end
end Go.Proofs.Ytknodagcmachiaa.Cn
