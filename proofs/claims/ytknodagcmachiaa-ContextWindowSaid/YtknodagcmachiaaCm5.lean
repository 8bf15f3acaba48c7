/-
  Chapter 08: reference's Same and SameOne. No statement is proved here.
-/
import Derived.Test.YtknodagcmachiaaCmA
namespace Go.Proofs.Ytknodagcmachiaa.Cn
open Go.RowKit Ac Fi
set_option linter.unusedVariables false
set_option linter.unusedSimpArgs false

theorem Rf.ext' {r s : Rf} (h1 : r.amount = s.amount) (h2 : r.at_ = s.at_) : r = s := by
  cases r
  cases s
  simp at h1 h2
  rw [h1, h2]
/-- A Bool that says whether P is so; nothing of old is written. -/
def BoolOut (P : Prop) (w : World) (e : Ending) (w' : World) : Prop := ∃ b, e = .returned (.bool b) ∧ (b = true ↔ P) ∧ Below w.heap.size w w'
theorem BoolOut.t {P : Prop} {w w' : World} {e : Ending} (he : e = .returned (.bool true)) (h : P) (hb : Below w.heap.size w w') : BoolOut P w e w' := ⟨true, he, by simp [h], hb⟩
theorem BoolOut.f {P : Prop} {w w' : World} {e : Ending} (he : e = .returned (.bool false)) (h : ¬ P) (hb : Below w.heap.size w w') : BoolOut P w e w' := ⟨false, he, by simp [h], hb⟩
theorem BoolOut.b {P Q : Prop} {w w' : World} {e : Ending} {b : Bool} (he : e = .returned (.bool b)) (h : b = true ↔ Q) (hq : Q ↔ P) (hb : Below w.heap.size w w') : BoolOut P w e w' := ⟨b, he, h.trans hq, hb⟩
theorem take_next {l m : List Rf} {k : Nat} {r s : Rf} (h : l.take k = m.take k) (h1 : l[k]? = some r) (h2 : m[k]? = some s) (e : r = s) : l.take (k + 1) = m.take (k + 1) := by
  rw [List.take_add_one, List.take_add_one, h, h1, h2, e]
set_option maxRecDepth 100000 in
set_option maxHeartbeats 2000000 in
theorem rsame_ (l m : List Rf) (v u : Value) (w : World) (h : RdF w v l) (h' : RdF w u m) (hl : l.length ≤ 1000000) (hl2 : m.length ≤ 1000000) :
    Calls Try.prog 57 #[v, u] w (BoolOut (l = m) w) := by
  obtain ⟨ao, cap, rfl⟩ := h.rd.len
  obtain ⟨bo, bcap, rfl⟩ := h'.rd.len
  by_cases hne : l.length = m.length
  · have hd : ((l.length : Int) != (m.length : Int)) = false := by simp [hne]
    have HNE := Lib.hid hne
    clear hne
    go_enter Try.func57, Try.ntmps57
    go_wp2
    go_loopw [5] (fun i wr => ∃ (k n : Nat), k ≤ l.length ∧ i = vi k ∧ wr = w.drewN n ∧ Hid (l.take k = m.take k)) (fun i _ => l.length - (intOf i).toNat)
    case atStart => exact ⟨0, 0, Nat.zero_le _, rfl, rfl, Lib.hid rfl⟩
    case round =>
      obtain ⟨k, n, hk, rfl, rfl, ht⟩ := hrel
      by_cases hlt : k < l.length
      · have hlt2 : k < m.length := by have := HNE.out; omega
        obtain ⟨r, hr⟩ : ∃ r, l[k]? = some r := ⟨l[k], List.getElem?_eq_getElem hlt⟩
        obtain ⟨s, hs⟩ : ∃ s, m[k]? = some s := ⟨m[k], List.getElem?_eq_getElem hlt2⟩
        obtain ⟨b, off, c, hv, hc⟩ := (h.rd.drewN n).pos (by omega)
        cases hv
        obtain ⟨b2, off2, c2, hv2, hc2⟩ := (h'.rd.drewN n).pos (by omega)
        cases hv2
        have c0 := hc (k * 2 + 0) _ (flat_get Rf.len hr rfl)
        have c1 := hc (k * 2 + 1) _ (flat_get Rf.len hr rfl)
        have d0 := hc2 (k * 2 + 0) _ (flat_get Rf.len hs rfl)
        have d1 := hc2 (k * 2 + 1) _ (flat_get Rf.len hs rfl)
        rw [Nat.add_zero] at c0 d0
        rw [← Nat.add_assoc] at c1 d1
        have hkl : (k : Int) < (l.length : Int) := by omega
        have hkm : (k : Int) < (m.length : Int) := by omega
        obtain ⟨ra, rt⟩ := r
        obtain ⟨sa, st⟩ := s
        dsimp only at c0 c1 d0 d1
        have HNX : Hid (ra = sa → rt = st → l.take (k + 1) = m.take (k + 1)) := Lib.hid (fun h1 h2 => take_next ht.out hr hs (by rw [h1, h2]))
        have HNO : Hid (¬ (ra = sa ∧ rt = st) → l ≠ m) := Lib.hid (fun hn e => hn (by
          rw [e, hs] at hr
          cases hr
          exact ⟨rfl, rfl⟩))
        clear hc hc2 hr hs ht
        generalize hwn : w.drewN n = wn at *
        have HW := Lib.hid hwn
        clear hwn
        by_cases ha : ra = sa
        · by_cases hb : rt = st
          · have HNX2 := Lib.hid (HNX.out ha hb)
            subst ha
            subst hb
            go_wp2
            go_quiet (fail)
            go_wp2
            go_roundw
            case rel => exact ⟨k + 1, _, by omega, by go_num, by rw [← HW.out]; exact World.drewN_drewN _ _ _, HNX2⟩
            case measure => (simp [intOf]; try omega)
          · have HF := Lib.hid (HNO.out (fun h => hb h.2))
            have hb2 : (rt == st) = false := beq_eq_false_iff_ne.2 hb
            subst ha
            clear hb
            go_wp2
            go_quiet (fail)
            go_wp2
            go_ret
            exact BoolOut.f rfl HF.out (by rw [← HW.out]; exact drewB (drewB (Below.refl _ _) _) _)
        · have HF := Lib.hid (HNO.out (fun h => ha h.1))
          have ha2 : (ra == sa) = false := beq_eq_false_iff_ne.2 ha
          clear ha
          go_wp2
          go_quiet (fail)
          go_wp2
          go_ret
          exact BoolOut.f rfl HF.out (by rw [← HW.out]; exact drewB (drewB (Below.refl _ _) _) _)
      · obtain rfl : k = l.length := by omega
        have HE : Hid (l = m) := Lib.hid (by
          have h1 := ht.out
          rw [List.take_of_length_le (Nat.le_refl _), List.take_of_length_le (by have := HNE.out; omega)] at h1
          exact h1)
        clear ht
        go_wp2
        go_ret
        exact BoolOut.t rfl HE.out (drewB (Below.refl _ _) _)
  · have hd : ((l.length : Int) != (m.length : Int)) = true := by simp; omega
    have HF : Hid (l ≠ m) := Lib.hid (fun e => hne (by rw [e]))
    clear hne
    go_enter Try.func57, Try.ntmps57
    go_wp2
    go_ret
    exact BoolOut.f rfl HF.out (Below.refl _ _)

/-- Two contexts are the same. -/
def SameX (x y : El) (l m : List Rf) : Prop := x.v0 = y.v0 ∧ x.v1 = y.v1 ∧ x.v3 = y.v3 ∧ l = m
set_option maxRecDepth 100000 in
set_option maxHeartbeats 2000000 in
theorem sameOne_ (x y : El) (l m : List Rf) (w : World) (h : RdF w (.slice x.a2 x.n2 x.c2) l) (h' : RdF w (.slice y.a2 y.n2 y.c2) m) (hl : l.length ≤ 1000000) (hl2 : m.length ≤ 1000000) :
    Calls Try.prog 23 #[ev x, ev y] w (BoolOut (SameX x y l m) w) := by
  obtain ⟨v0, v1, a2, n2, c2, v3⟩ := x
  obtain ⟨y0, y1, b2, m2, d2, y3⟩ := y
  have hB : Below w.heap.size w ((w.alloc (elO ⟨v0, v1, a2, n2, c2, v3⟩)).alloc (elO ⟨y0, y1, b2, m2, d2, y3⟩)) := ((Below.refl _ _).alloc (Nat.le_refl _) _).alloc (by simp) _
  have HS := Lib.hid (rsame_ l m _ _ _ (h.below hB) (h'.below hB) hl hl2)
  have HB := Lib.hid hB
  clear h h' hB
  have hSX : SameX ⟨v0, v1, a2, n2, c2, v3⟩ ⟨y0, y1, b2, m2, d2, y3⟩ l m ↔ (v0 = y0 ∧ v1 = y1 ∧ v3 = y3 ∧ l = m) := Iff.rfl
  have HSX := Lib.hid hSX
  clear hSX
  by_cases h1 : v0 = y0
  · by_cases h2 : v1 = y1
    · by_cases h3 : v3 = y3
      · have e1 : (v0 == y0) = true := by simpa using h1
        have e2 : (v1 == y1) = true := by simpa using h2
        have e3 : (v3 == y3) = true := by simpa using h3
        have HQ : Hid (v0 = y0 ∧ v1 = y1 ∧ v3 = y3) := Lib.hid ⟨h1, h2, h3⟩
        clear h1 h2 h3
        go_enter Try.func23, Try.ntmps23
        go_wp2_with (go_at_call 57; refine HS.out.mono ?_; rintro e w1 hh; obtain ⟨b, rfl, hb, hbe⟩ := hh; have H1 := Lib.hid (Below.then HB.out hbe); have HBB := Lib.hid hb; clear hb hbe)
        go_ret
        exact BoolOut.b rfl HBB.out (by rw [HSX.out]; simp [HQ.out]) H1.out
      · have e1 : (v0 == y0) = true := by simpa using h1
        have e2 : (v1 == y1) = true := by simpa using h2
        have e3 : (v3 == y3) = false := beq_eq_false_iff_ne.2 h3
        have HQ := Lib.hid h3
        clear h1 h2 h3
        go_enter Try.func23, Try.ntmps23
        go_wp2
        go_ret
        exact BoolOut.f rfl (by rw [HSX.out]; simp [HQ.out]) HB.out
    · have e1 : (v0 == y0) = true := by simpa using h1
      have e2 : (v1 == y1) = false := beq_eq_false_iff_ne.2 h2
      have HQ := Lib.hid h2
      clear h1 h2
      go_enter Try.func23, Try.ntmps23
      go_wp2
      go_ret
      exact BoolOut.f rfl (by rw [HSX.out]; simp [HQ.out]) HB.out
  · have e1 : (v0 == y0) = false := beq_eq_false_iff_ne.2 h1
    have HQ := Lib.hid h1
    clear h1
    go_enter Try.func23, Try.ntmps23
    go_wp2
    go_ret
    exact BoolOut.f rfl (by rw [HSX.out]; simp [HQ.out]) HB.out
end Go.Proofs.Ytknodagcmachiaa.Cn
