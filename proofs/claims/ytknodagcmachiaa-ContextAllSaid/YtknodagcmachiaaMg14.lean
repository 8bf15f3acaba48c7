/-
  Package context, as contexts plainly: Split, Donate, Drop, New, Copy. No statement is proved here.
-/
import Derived.Test.YtknodagcmachiaaMg12
import Derived.Test.YtknodagcmachiaaMg13
namespace Go.Proofs.Ytknodagcmachiaa.Cn
open Go.RowKit Ac Fi
set_option linter.unusedVariables false

section
variable {w0 w : World} {F : Hp} {h : Nat} {most times : Int} {cs : List CP} {free : List Nat} {n T : Nat} {L0 : Blks}
theorem p_split (hI : Inv n most T cs free times) (hS : Sat w0 (cxQ L0 h most cs free * F) w) (i g amount now : Int) (ha : U64 amount) (hn : U64 now) :
    Calls Try.prog 14 #[vp h, vr i g, vu amount, vu now] w fun e w' => e = .returned (.tuple #[vr (spI cs free i g amount now) (spG cs free i g amount now), vi (spE cs free i g amount now)]) ∧ Sat w0 (cxQ L0 h most (spL cs free i g amount now) (spF cs free i g amount now) * F) w' := by
  obtain ⟨p, ps, L, hL, hp, hs⟩ := cx_open hS
  have hE := hp.eE i g
  have hX := hp.eX i g
  have hA := hI.anyC i g
  unfold spI spG spL spF
  rcases eC_01 cs i g with he | he
  · by_cases hpt : partC (gC cs i g).b (gC cs i g).l amount now = 0
    · obtain ⟨p1, p2, p3, p4⟩ := part_zero hpt
      have hl := hI.liveC he
      have ha1 := ha.1
      have hm : MkOk amount (gC cs i g).p now := ⟨by omega, by omega, by have := hl.p; omega, by have := hl.p; omega, p2⟩
      have hm' : MkOk amount (getX ps i g).v1 now := by rw [hX.2.1]; exact hm
      have hpt' : partC (getX ps i g).v0 (gC cs i g).l amount now = 0 := by rw [hX.1]; exact hpt
      have hse : spE cs free i g amount now = mkE free amount (gC cs i g).p now := by unfold spE; rw [if_neg (by omega), if_neg (by omega)]
      by_cases hf : free = []
      · have hz : mkE free amount (gC cs i g).p now = 3 := by unfold mkE; rw [if_pos hm, if_pos hf]
        rw [hse, hz, if_neg (by omega), if_neg (by omega), if_neg (by omega), if_neg (by omega)]
        subst hf
        refine (split_full hs i g amount now (by rw [hE, he]) hX.2.2.1 (by omega) hpt' hm' hn.1).mono fun e w' hh => ?_
        obtain ⟨L2, h1, h2, h3⟩ := hh
        exact ⟨h1, cx_shut (fun x hx => h2 x (hL x hx)) (hp.mono h2) h3⟩
      · have hz : mkE free amount (gC cs i g).p now = 0 := by unfold mkE; rw [if_pos hm, if_neg hf]
        rw [hse, hz, if_pos rfl, if_pos rfl, if_pos rfl, if_pos rfl]
        obtain ⟨c, hc, ht, hg⟩ := hI.mkAt hz
        obtain ⟨_, hfe⟩ := mk_last hz
        have hk : mkK free < ps.length := by rw [hp.len]; exact (List.getElem?_eq_some_iff.1 hc).1
        obtain ⟨a, hak⟩ : ∃ a, ps[mkK free]? = some a := ⟨ps[mkK free], List.getElem?_eq_getElem hk⟩
        obtain ⟨hgen, hth, _⟩ := hp.at_ _ a c hak hc
        obtain ⟨q1, q2⟩ := pull_live hl ha.1 hpt
        have hML : mkL cs free amount (gC cs i g).p now = cs.set (mkK free) { c with there := true, cx := ⟨amount, (gC cs i g).p, [⟨amount, now⟩], 0⟩ } := by
          unfold mkL
          rw [if_pos hz, hc]
        rw [hML, hg]
        rw [hfe] at hs
        generalize hkk : mkK free = k at *
        generalize free.dropLast = fr at *
        have hb : amount ≤ (getX ps i g).v0 ∧ (getX ps i g).v0 ≤ 18446744073709551615 := by rw [hX.1]; omega
        refine (split_ok hs i g amount now (by rw [hE, he]) hX.2.2.1 (by omega) hpt' hm' hn.1 hak (hth.trans ht) q2 p4 hb q1.ok).mono fun e w' hh => ?_
        obtain ⟨ao, lc, ao2, lc2, L2, h1, h2, h3, h4, h5⟩ := hh
        refine ⟨by rw [h1, hgen], cx_shut (fun x hx => h2 x (hL x hx)) (((hp.mono h2).come hak hc ?_).setp ?_) h5⟩
        · exact ⟨rfl, hX.2.1, h3, rfl⟩
        · exact ⟨by dsimp only; rw [hX.1]; rfl, hX.2.1, h4, hX.2.2.2⟩
    · have hse : spE cs free i g amount now = partC (gC cs i g).b (gC cs i g).l amount now := by unfold spE; rw [if_neg (by omega), if_pos hpt]
      rw [hse, if_neg hpt, if_neg hpt, if_neg hpt, if_neg hpt]
      exact (split_part hs i g amount now _ (by rw [hE, he]) hX.2.2.1 (by omega) (by rw [hX.1]) hpt).mono fun e w' ⟨h1, h2⟩ => ⟨h1, cx_shut hL hp h2⟩
  · have hse : spE cs free i g amount now = 11 := by unfold spE; rw [if_pos he]
    rw [hse, if_neg (by omega), if_neg (by omega), if_neg (by omega), if_neg (by omega)]
    exact (split_stale hs i g amount now (by rw [hE, he])).mono fun e w' ⟨h1, h2⟩ => ⟨h1, cx_shut hL hp h2⟩
theorem p_donate (hI : Inv n most T cs free times) (hS : Sat w0 (cxQ L0 h most cs free * F) w) (i g j t amount now : Int) (ha : U64 amount) (hn : U64 now) :
    Calls Try.prog 32 #[vp h, vr i g, vr j t, vu amount, vu now] w fun e w' => e = .returned (vi (doE most cs i g j t amount now)) ∧ Sat w0 (cxQ L0 h most (doL most cs i g j t amount now) free * F) w' := by
  obtain ⟨p, ps, L, hL, hp, hs⟩ := cx_open hS
  have hE := hp.eE i g
  have hX := hp.eX i g
  have hA := hI.anyC i g
  have hE2 := hp.eE j t
  have hX2 := hp.eX j t
  have hA2 := hI.anyC j t
  unfold doL
  by_cases h1 : doE1 cs i g j t amount now = 0
  · obtain ⟨z1, z2, z3, z4, z5⟩ := donC_zero h1
    obtain ⟨p1, p2, p3, p4⟩ := part_zero z4
    have hl := hI.liveC z1
    have hl2 := hI.liveC z2
    have ha1 := ha.1
    have hEE : donC (getE ps i g) (getE ps j t) (i = j ∧ g = t) (getX ps i g).v0 (gC cs i g).l (getX ps j t).v0 amount now = 0 := by
      rw [hE, hE2, hX.1, hX2.1]
      exact h1
    have hgv : GvOk (gC cs j t).l amount most := ⟨hl2.may, p1, by have := hI.mst; omega, hl2.len⟩
    by_cases hf : thN (gC cs j t).l now = 0 ∧ ((gC cs j t).l.length : Int) = most
    · have hd : doE most cs i g j t amount now = 3 := by unfold doE; rw [if_neg (by omega), if_pos hf]
      rw [hd, if_neg (by omega)]
      exact (donate_full hs i g j t amount now hX.2.2.1 (by omega) (by rw [hX.1]; omega) (by rw [hX2.1]; omega) ha.1 hEE hX2.2.2.1 (by omega) ha hn hgv (by omega) hf).mono fun e w' ⟨h1, h2⟩ => ⟨h1, cx_shut hL hp h2⟩
    · have hd : doE most cs i g j t amount now = 0 := by unfold doE; rw [if_neg (by omega), if_neg hf]
      rw [hd, if_pos rfl]
      obtain ⟨q1, q2⟩ := pull_live hl ha.1 z4
      obtain ⟨g1, g2⟩ := give_live hl2 hI.mst.1 (by omega) hn z5 hf
      refine (donate_ok hs i g j t amount now hX.2.2.1 (by omega) (by rw [hX.1]; omega) (by rw [hX2.1]; omega) ha.1 hEE hX2.2.2.1 (by omega) ha hn hgv (by omega) (by rw [hE, z1]) (by rw [hE2, z2]) hf q2 p4 (by rw [hX.1]; omega) g1.ok q1.ok).mono fun e w' hh => ?_
      obtain ⟨ao, lc, ao2, lc2, L3, h1, h2, h3, h4, h5⟩ := hh
      refine ⟨h1, cx_shut (fun x hx => h2 x (hL x hx)) (((hp.mono h2).setp ?_).setp ?_) h5⟩
      · exact ⟨by dsimp only; rw [hX2.1]; rfl, hX2.2.1, h3, hX2.2.2.2⟩
      · exact ⟨by dsimp only; rw [hX.1]; rfl, hX.2.1, h4, hX.2.2.2⟩
  · have hd : doE most cs i g j t amount now = doE1 cs i g j t amount now := by unfold doE; rw [if_pos h1]
    rw [hd, if_neg h1]
    exact (donate_err hs i g j t amount now _ hX.2.2.1 (by omega) (by rw [hX.1]; omega) (by rw [hX2.1]; omega) ha.1 (by rw [hE, hE2, hX.1, hX2.1]; rfl) h1).mono fun e w' ⟨h1, h2⟩ => ⟨h1, cx_shut hL hp h2⟩
theorem p_drop (hI : Inv n most T cs free times) (hT : T ≤ 100000) (hS : Sat w0 (cxQ L0 h most cs free * F) w) (i g : Int) :
    Calls Try.prog 22 #[vp h, vr i g] w fun e w' => e = .returned (vi (drE cs i g)) ∧ Sat w0 (cxQ L0 h most (drL cs i g times) (drF cs free i g) * F) w' := by
  obtain ⟨p, ps, L, hL, hp, hs⟩ := cx_open hS
  have hE := hp.eE i g
  have hX := hp.eX i g
  have hA := hI.anyC i g
  unfold drL drF
  rcases eC_01 cs i g with he | he
  · by_cases hb : 0 < (gC cs i g).n
    · have hd : drE cs i g = 14 := by unfold drE; rw [if_neg (by omega), if_pos hb]
      rw [hd, if_neg (by omega), if_neg (by omega)]
      exact (drop_busy hs i g (by rw [hE, he]) (by rw [hX.2.2.2]; exact hb)).mono fun e w' ⟨h1, h2⟩ => ⟨h1, cx_shut hL hp h2⟩
    · have hd : drE cs i g = 0 := by unfold drE; rw [if_neg (by omega), if_neg hb]
      rw [hd, if_pos rfl, if_pos rfl]
      obtain ⟨k, c, hc⟩ := eC_yes he
      obtain ⟨a, h1, h2, h3, h4, h5⟩ := hp.yes hc
      obtain ⟨c1, c2, c3, c4⟩ := isC_some hc
      have hg := hI.gens k c c1
      rw [hc]
      exact (cx_drop_yes hs i g h1 (by rw [hX.2.2.2]; omega) (by omega)).mono fun e w' ⟨k1, k2⟩ => ⟨k1, cx_shut hL (hp.go h2 c1 _) k2⟩
  · have hd : drE cs i g = 11 := by unfold drE; rw [if_pos he]
    rw [hd, if_neg (by omega), if_neg (by omega)]
    exact (drop_no hs i g (by rw [hE, he])).mono fun e w' ⟨h1, h2⟩ => ⟨h1, cx_shut hL hp h2⟩
theorem p_new (n : Nat) (hn : 1 ≤ n ∧ n ≤ 32) (hm : 2 ≤ most ∧ most ≤ 16) (hS : Sat w0 F w) : Calls Try.prog 10 #[vi n, vi most] w fun e w' => ∃ h, e = .returned (.tuple #[vp h, vi 0]) ∧ Sat w0 (cxQ [] h most (newC n) (newF n n) * F) w' :=
  (cx_new n hn.1 hn.2 hm.1 hm.2 hS.plStart.dropL).mono fun e w' ⟨h, p, h1, h2⟩ => ⟨h, h1, cx_shut (fun y hy => by simp at hy) (PM.new [] n) ((Sat.plStart h2).cast (by ac_rfl))⟩
end
end Go.Proofs.Ytknodagcmachiaa.Cn

namespace Go.Proofs.Ytknodagcmachiaa.Cn
open Go.RowKit Ac Fi
set_option linter.unusedVariables false
set_option linter.unusedSimpArgs false

theorem Rf.ext' {r s : Rf} (h1 : r.amount = s.amount) (h2 : r.at_ = s.at_) : r = s := by
  cases r
  cases s
  simp at h1 h2
  rw [h1, h2]
/-- A Bool that says whether P is so; nothing of old is written. -/
def BoolOut (P : Prop) (w : World) (e : Ending) (w' : World) : Prop := ∃ b, e = .returned (.bool b) ∧ (b = true ↔ P) ∧ Below w.heap.size w w'
theorem BoolOut.t {P : Prop} {w w' : World} {e : Ending} (he : e = .returned (.bool true)) (h : P) (hb : Below w.heap.size w w') : BoolOut P w e w' := ⟨true, he, by simp [h], hb⟩
theorem BoolOut.f {P : Prop} {w w' : World} {e : Ending} (he : e = .returned (.bool false)) (h : ¬ P) (hb : Below w.heap.size w w') : BoolOut P w e w' := ⟨false, he, by simp [h], hb⟩
theorem BoolOut.b {P Q : Prop} {w w' : World} {e : Ending} {b : Bool} (he : e = .returned (.bool b)) (h : b = true ↔ Q) (hq : Q ↔ P) (hb : Below w.heap.size w w') : BoolOut P w e w' := ⟨b, he, h.trans hq, hb⟩
theorem take_next {l m : List Rf} {k : Nat} {r s : Rf} (h : l.take k = m.take k) (h1 : l[k]? = some r) (h2 : m[k]? = some s) (e : r = s) : l.take (k + 1) = m.take (k + 1) := by
  rw [List.take_add_one, List.take_add_one, h, h1, h2, e]
set_option maxRecDepth 100000 in
set_option maxHeartbeats 2000000 in
theorem rsame_ (l m : List Rf) (v u : Value) (w : World) (h : RdF w v l) (h' : RdF w u m) (hl : l.length ≤ 1000000) (hl2 : m.length ≤ 1000000) :
    Calls Try.prog 57 #[v, u] w (BoolOut (l = m) w) := by
  obtain ⟨ao, cap, rfl⟩ := h.rd.len
  obtain ⟨bo, bcap, rfl⟩ := h'.rd.len
  by_cases hne : l.length = m.length
  · have hd : ((l.length : Int) != (m.length : Int)) = false := by simp [hne]
    have HNE := Lib.hid hne
    clear hne
    go_enter Try.func57, Try.ntmps57
    go_wp2
    go_loopw [5] (fun i wr => ∃ (k n : Nat), k ≤ l.length ∧ i = vi k ∧ wr = w.drewN n ∧ Hid (l.take k = m.take k)) (fun i _ => l.length - (intOf i).toNat)
    case atStart => exact ⟨0, 0, Nat.zero_le _, rfl, rfl, Lib.hid rfl⟩
    case round =>
      obtain ⟨k, n, hk, rfl, rfl, ht⟩ := hrel
      by_cases hlt : k < l.length
      · have hlt2 : k < m.length := by have := HNE.out; omega
        obtain ⟨r, hr⟩ : ∃ r, l[k]? = some r := ⟨l[k], List.getElem?_eq_getElem hlt⟩
        obtain ⟨s, hs⟩ : ∃ s, m[k]? = some s := ⟨m[k], List.getElem?_eq_getElem hlt2⟩
        obtain ⟨b, off, c, hv, hc⟩ := (h.rd.drewN n).pos (by omega)
        cases hv
        obtain ⟨b2, off2, c2, hv2, hc2⟩ := (h'.rd.drewN n).pos (by omega)
        cases hv2
        have c0 := hc (k * 2 + 0) _ (flat_get Rf.len hr rfl)
        have c1 := hc (k * 2 + 1) _ (flat_get Rf.len hr rfl)
        have d0 := hc2 (k * 2 + 0) _ (flat_get Rf.len hs rfl)
        have d1 := hc2 (k * 2 + 1) _ (flat_get Rf.len hs rfl)
        rw [Nat.add_zero] at c0 d0
        rw [← Nat.add_assoc] at c1 d1
        have hkl : (k : Int) < (l.length : Int) := by omega
        have hkm : (k : Int) < (m.length : Int) := by omega
        obtain ⟨ra, rt⟩ := r
        obtain ⟨sa, st⟩ := s
        dsimp only at c0 c1 d0 d1
        have HNX : Hid (ra = sa → rt = st → l.take (k + 1) = m.take (k + 1)) := Lib.hid (fun h1 h2 => take_next ht.out hr hs (by rw [h1, h2]))
        have HNO : Hid (¬ (ra = sa ∧ rt = st) → l ≠ m) := Lib.hid (fun hn e => hn (by
          rw [e, hs] at hr
          cases hr
          exact ⟨rfl, rfl⟩))
        clear hc hc2 hr hs ht
        generalize hwn : w.drewN n = wn at *
        have HW := Lib.hid hwn
        clear hwn
        by_cases ha : ra = sa
        · by_cases hb : rt = st
          · have HNX2 := Lib.hid (HNX.out ha hb)
            subst ha
            subst hb
            go_wp2
            go_quiet (fail)
            go_wp2
            go_roundw
            case rel => exact ⟨k + 1, _, by omega, by go_num, by rw [← HW.out]; exact World.drewN_drewN _ _ _, HNX2⟩
            case measure => (simp [intOf]; try omega)
          · have HF := Lib.hid (HNO.out (fun h => hb h.2))
            have hb2 : (rt == st) = false := beq_eq_false_iff_ne.2 hb
            subst ha
            clear hb
            go_wp2
            go_quiet (fail)
            go_wp2
            go_ret
            exact BoolOut.f rfl HF.out (by rw [← HW.out]; exact drewB (drewB (Below.refl _ _) _) _)
        · have HF := Lib.hid (HNO.out (fun h => ha h.1))
          have ha2 : (ra == sa) = false := beq_eq_false_iff_ne.2 ha
          clear ha
          go_wp2
          go_quiet (fail)
          go_wp2
          go_ret
          exact BoolOut.f rfl HF.out (by rw [← HW.out]; exact drewB (drewB (Below.refl _ _) _) _)
      · obtain rfl : k = l.length := by omega
        have HE : Hid (l = m) := Lib.hid (by
          have h1 := ht.out
          rw [List.take_of_length_le (Nat.le_refl _), List.take_of_length_le (by have := HNE.out; omega)] at h1
          exact h1)
        clear ht
        go_wp2
        go_ret
        exact BoolOut.t rfl HE.out (drewB (Below.refl _ _) _)
  · have hd : ((l.length : Int) != (m.length : Int)) = true := by simp; omega
    have HF : Hid (l ≠ m) := Lib.hid (fun e => hne (by rw [e]))
    clear hne
    go_enter Try.func57, Try.ntmps57
    go_wp2
    go_ret
    exact BoolOut.f rfl HF.out (Below.refl _ _)

/-- Two contexts are the same. -/
def SameX (x y : El) (l m : List Rf) : Prop := x.v0 = y.v0 ∧ x.v1 = y.v1 ∧ x.v3 = y.v3 ∧ l = m
set_option maxRecDepth 100000 in
set_option maxHeartbeats 2000000 in
theorem sameOne_ (x y : El) (l m : List Rf) (w : World) (h : RdF w (.slice x.a2 x.n2 x.c2) l) (h' : RdF w (.slice y.a2 y.n2 y.c2) m) (hl : l.length ≤ 1000000) (hl2 : m.length ≤ 1000000) :
    Calls Try.prog 23 #[ev x, ev y] w (BoolOut (SameX x y l m) w) := by
  obtain ⟨v0, v1, a2, n2, c2, v3⟩ := x
  obtain ⟨y0, y1, b2, m2, d2, y3⟩ := y
  have hB : Below w.heap.size w ((w.alloc (elO ⟨v0, v1, a2, n2, c2, v3⟩)).alloc (elO ⟨y0, y1, b2, m2, d2, y3⟩)) := ((Below.refl _ _).alloc (Nat.le_refl _) _).alloc (by simp) _
  have HS := Lib.hid (rsame_ l m _ _ _ (h.below hB) (h'.below hB) hl hl2)
  have HB := Lib.hid hB
  clear h h' hB
  have hSX : SameX ⟨v0, v1, a2, n2, c2, v3⟩ ⟨y0, y1, b2, m2, d2, y3⟩ l m ↔ (v0 = y0 ∧ v1 = y1 ∧ v3 = y3 ∧ l = m) := Iff.rfl
  have HSX := Lib.hid hSX
  clear hSX
  by_cases h1 : v0 = y0
  · by_cases h2 : v1 = y1
    · by_cases h3 : v3 = y3
      · have e1 : (v0 == y0) = true := by simpa using h1
        have e2 : (v1 == y1) = true := by simpa using h2
        have e3 : (v3 == y3) = true := by simpa using h3
        have HQ : Hid (v0 = y0 ∧ v1 = y1 ∧ v3 = y3) := Lib.hid ⟨h1, h2, h3⟩
        clear h1 h2 h3
        go_enter Try.func23, Try.ntmps23
        go_wp2_with (go_at_call 57; refine HS.out.mono ?_; rintro e w1 hh; obtain ⟨b, rfl, hb, hbe⟩ := hh; have H1 := Lib.hid (Below.then HB.out hbe); have HBB := Lib.hid hb; clear hb hbe)
        go_ret
        exact BoolOut.b rfl HBB.out (by rw [HSX.out]; simp [HQ.out]) H1.out
      · have e1 : (v0 == y0) = true := by simpa using h1
        have e2 : (v1 == y1) = true := by simpa using h2
        have e3 : (v3 == y3) = false := beq_eq_false_iff_ne.2 h3
        have HQ := Lib.hid h3
        clear h1 h2 h3
        go_enter Try.func23, Try.ntmps23
        go_wp2
        go_ret
        exact BoolOut.f rfl (by rw [HSX.out]; simp [HQ.out]) HB.out
    · have e1 : (v0 == y0) = true := by simpa using h1
      have e2 : (v1 == y1) = false := beq_eq_false_iff_ne.2 h2
      have HQ := Lib.hid h2
      clear h1 h2
      go_enter Try.func23, Try.ntmps23
      go_wp2
      go_ret
      exact BoolOut.f rfl (by rw [HSX.out]; simp [HQ.out]) HB.out
  · have e1 : (v0 == y0) = false := beq_eq_false_iff_ne.2 h1
    have HQ := Lib.hid h1
    clear h1
    go_enter Try.func23, Try.ntmps23
    go_wp2
    go_ret
    exact BoolOut.f rfl (by rw [HSX.out]; simp [HQ.out]) HB.out
end Go.Proofs.Ytknodagcmachiaa.Cn
