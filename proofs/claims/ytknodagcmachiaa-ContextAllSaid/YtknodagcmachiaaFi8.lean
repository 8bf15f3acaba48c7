/-
  Contracts of Charge, by the program and by the reference. No statement is proved here.
-/
import Derived.Test.YtknodagcmachiaaMg6
import Derived.Test.YtknodagcmachiaaFiLaw2
namespace Go.Proofs.Ytknodagcmachiaa.Fi
open Go.RowKit
set_option linter.unusedVariables false

section
variable {w0 w : World} {F : Hp} {g so cap m : Nat} {init : List Rf} {x : Rf}
theorem fi_last (h : Sat w0 (slo 61 2 (.slice (some ⟨g, so, none⟩) (m + 1) cap) (m + 1) (rflat (init ++ [x])) * F) w) (hm : m = init.length) :
    w.cell? ⟨g, so + m * 2, none⟩ = some (vu x.amount) ∧ w.cell? ⟨g, so + m * 2 + 1, none⟩ = some (vu x.at_) ∧ (∀ i, w.frozen? ⟨g, i, none⟩ = false) := by
  subst hm
  have hx : (init ++ [x])[init.length]? = some x := by simp
  have c0 := h.sloCell (init.length * 2 + 0) (flat_get Rf.len hx rfl)
  have c1 := h.sloCell (init.length * 2 + 1) (flat_get Rf.len hx rfl)
  exact ⟨c0, c1, fun i => h.sloFree i⟩
theorem fi_setA (h : Sat w0 (slo 61 2 (.slice (some ⟨g, so, none⟩) (m + 1) cap) (m + 1) (rflat (init ++ [x])) * F) w) (hm : m = init.length) (a : Int) :
    Sat w0 (slo 61 2 (.slice (some ⟨g, so, none⟩) (m + 1) cap) (m + 1) (rflat (init ++ [⟨a, x.at_⟩])) * F) (w.setCell ⟨g, so + m * 2, none⟩ (vu a)) := by
  subst hm
  have hx : (init ++ [x])[init.length]? = some x := by simp
  have h1 := h.sloStore (init.length * 2 + 0) (by omega) (vu a)
  rw [flat_set Rf.len (init ++ [x]) init.length 0 x ⟨a, x.at_⟩ (vu a) hx (by omega) rfl] at h1
  simpa using h1
theorem fi_setT (h : Sat w0 (slo 61 2 (.slice (some ⟨g, so, none⟩) (m + 1) cap) (m + 1) (rflat (init ++ [x])) * F) w) (hm : m = init.length) (a : Int) :
    Sat w0 (slo 61 2 (.slice (some ⟨g, so, none⟩) (m + 1) cap) (m + 1) (rflat (init ++ [⟨x.amount, a⟩])) * F) (w.setCell ⟨g, so + m * 2 + 1, none⟩ (vu a)) := by
  subst hm
  have hx : (init ++ [x])[init.length]? = some x := by simp
  have h1 := h.sloStore (init.length * 2 + 1) (by omega) (vu a)
  rw [flat_set Rf.len (init ++ [x]) init.length 1 x ⟨x.amount, a⟩ (vu a) hx (by omega) rfl] at h1
  simpa [Nat.add_assoc] using h1
end

section
variable {w : World} {v : Value} {l : List Rf} {now period most : Int}
set_option maxHeartbeats 4000000 in
theorem charge_no (h : RdF w v l) (hl : l.length ≤ 1000000) (hn : U64 now) (hp : U64 period) (hc : ¬ ChOk l now period most) :
    Calls Try.prog 40 #[v, vu now, vu period, vi most] w fun e w' => e = .returned (.tuple #[.slice none 0 0, .bool false]) ∧ Below w.heap.size w w' := by
  obtain ⟨ao, cap, rfl⟩ := h.rd.len
  have HM : Hid (∀ w', Below w.heap.size w w' → Calls Try.prog 77 #[.slice ao l.length cap] w' fun e w2 => e = .returned (.bool (mayB l)) ∧ Below w'.heap.size w' w2) := Lib.hid fun w' hb => may_ l _ w' (h.below hb) hl
  have HT : Hid (∀ w', Below w.heap.size w w' → Calls Try.prog 78 #[.slice ao l.length cap, vu now] w' fun e w2 => e = .returned (vi (thN l now)) ∧ Below w'.heap.size w' w2) := Lib.hid fun w' hb => thereN_ l now _ w' (h.below hb) hl
  have HA := Lib.hid (nadd now period hn hp w)
  obtain ⟨ax, ab, hv, hv1, hv2⟩ := addV_form (addP now period)
  rw [hv] at HA
  by_cases c1 : MayL l
  · rw [mayB_yes c1] at HM
    by_cases c2 : most < 1
    · clear c1 h hn hp hc hv hv1 hv2
      go_enter Try.func40, Try.ntmps40
      go_wp2_with (first
        | (go_at_call 76; refine HA.out.mono ?_; rintro e w' ⟨rfl, rfl⟩)
        | (go_at_call 77; refine (HM.out _ (Below.refl _ _)).mono ?_; rintro e w1 ⟨rfl, hb⟩; have HB1 := Lib.hid hb; clear hb))
      go_ret2
      exact ⟨rfl, HB1.out⟩
    by_cases c3 : most < (l.length : Int)
    · clear c1 h hn hp hc hv hv1 hv2
      go_enter Try.func40, Try.ntmps40
      go_wp2_with (first
        | (go_at_call 76; refine HA.out.mono ?_; rintro e w' ⟨rfl, rfl⟩)
        | (go_at_call 77; refine (HM.out _ (Below.refl _ _)).mono ?_; rintro e w1 ⟨rfl, hb⟩; have HB1 := Lib.hid hb; clear hb))
      go_ret2
      exact ⟨rfl, HB1.out⟩
    by_cases c4 : period = 0
    · subst c4
      clear c1 h hn hp hc hv hv1 hv2
      go_enter Try.func40, Try.ntmps40
      go_wp2_with (first
        | (go_at_call 76; refine HA.out.mono ?_; rintro e w' ⟨rfl, rfl⟩)
        | (go_at_call 77; refine (HM.out _ (Below.refl _ _)).mono ?_; rintro e w1 ⟨rfl, hb⟩; have HB1 := Lib.hid hb; clear hb))
      go_ret2
      exact ⟨rfl, HB1.out⟩
    have c4' : (period == 0) = false := beq_eq_false_iff_ne.2 c4
    by_cases c5 : 18446744073709551615 < now + period
    · have hab : ab = false := by
        cases ab with
        | false => rfl
        | true =>
          have := hv1 rfl
          rw [addP, if_pos c5] at this
          cases this
      subst hab
      clear c1 c5 h hn hp hc hv hv1 hv2 c4
      go_enter Try.func40, Try.ntmps40
      go_wp2_with (first
        | (go_at_call 76; refine HA.out.mono ?_; rintro e w' ⟨rfl, rfl⟩)
        | (go_at_call 77; refine (HM.out _ (Below.refl _ _)).mono ?_; rintro e w1 ⟨rfl, hb⟩; have HB1 := Lib.hid hb; clear hb))
      go_ret2
      exact ⟨rfl, HB1.out⟩
    have hab : ab = true := by
      cases ab with
      | true => rfl
      | false =>
        have := (hv2 rfl).1
        rw [addP, if_neg c5] at this
        cases this
    subst hab
    by_cases c6 : thN l now = 0
    · rw [c6] at HT
      clear c1 c5 h hn hp hc hv hv1 hv2 c4 c6
      go_enter Try.func40, Try.ntmps40
      go_wp2_with (first
        | (go_at_call 76; refine HA.out.mono ?_; rintro e w' ⟨rfl, rfl⟩)
        | (go_at_call 77; refine (HM.out _ (Below.refl _ _)).mono ?_; rintro e w1 ⟨rfl, hb⟩; have HB1 := Lib.hid hb; clear hb)
        | (go_at_call 78; refine (HT.out _ HB1.out).mono ?_; rintro e w2 ⟨rfl, hb⟩; have HB2 := Lib.hid (Below.then HB1.out hb); clear hb))
      go_ret2
      exact ⟨rfl, HB2.out⟩
    · exact absurd ⟨c1, by omega, by omega, c4, by omega, c6⟩ hc
  · rw [mayB_no c1] at HM
    clear c1 h hn hp hc hv hv1 hv2
    go_enter Try.func40, Try.ntmps40
    go_wp2_with (first
      | (go_at_call 76; refine HA.out.mono ?_; rintro e w' ⟨rfl, rfl⟩)
      | (go_at_call 77; refine (HM.out _ (Below.refl _ _)).mono ?_; rintro e w1 ⟨rfl, hb⟩; have HB1 := Lib.hid hb; clear hb))
    go_ret2
    exact ⟨rfl, HB1.out⟩

set_option maxHeartbeats 4000000 in
theorem rcharge_no (h : RdF w v l) (hl : l.length ≤ 1000000) (hn : U64 now) (hp : U64 period) (hc : ¬ ChOk l now period most) :
    Calls Try.prog 88 #[v, vu now, vu period, vi most] w fun e w' => e = .returned (.tuple #[.slice none 0 0, .bool false]) ∧ Below w.heap.size w w' := by
  obtain ⟨ao, cap, rfl⟩ := h.rd.len
  have HM : Hid (∀ w', Below w.heap.size w w' → Calls Try.prog 21 #[.slice ao l.length cap] w' fun e w2 => e = .returned (.bool (mayB l)) ∧ Below w'.heap.size w' w2) := Lib.hid fun w' hb => rmay l _ w' (h.below hb) hl
  have HA := Lib.hid (radd now period hn hp w)
  obtain ⟨ax, ab, hv, hv1, hv2⟩ := addV_form (addP now period)
  rw [hv] at HA
  by_cases c1 : MayL l
  · rw [mayB_yes c1] at HM
    by_cases c2 : most < 1
    · clear c1 h hn hp hc hv hv1 hv2
      go_enter Try.func88, Try.ntmps88
      go_wp2_with (first
        | (go_at_call 55; refine HA.out.mono ?_; rintro e w' ⟨rfl, rfl⟩)
        | (go_at_call 21; refine (HM.out _ (Below.refl _ _)).mono ?_; rintro e w1 ⟨rfl, hb⟩; have HB1 := Lib.hid hb; clear hb))
      go_ret2
      exact ⟨rfl, HB1.out⟩
    by_cases c3 : most < (l.length : Int)
    · clear c1 h hn hp hc hv hv1 hv2
      go_enter Try.func88, Try.ntmps88
      go_wp2_with (first
        | (go_at_call 55; refine HA.out.mono ?_; rintro e w' ⟨rfl, rfl⟩)
        | (go_at_call 21; refine (HM.out _ (Below.refl _ _)).mono ?_; rintro e w1 ⟨rfl, hb⟩; have HB1 := Lib.hid hb; clear hb))
      go_ret2
      exact ⟨rfl, HB1.out⟩
    by_cases c4 : period = 0
    · subst c4
      clear c1 h hn hp hc hv hv1 hv2
      go_enter Try.func88, Try.ntmps88
      go_wp2_with (first
        | (go_at_call 55; refine HA.out.mono ?_; rintro e w' ⟨rfl, rfl⟩)
        | (go_at_call 21; refine (HM.out _ (Below.refl _ _)).mono ?_; rintro e w1 ⟨rfl, hb⟩; have HB1 := Lib.hid hb; clear hb))
      go_ret2
      exact ⟨rfl, HB1.out⟩
    have c4' : (period == 0) = false := beq_eq_false_iff_ne.2 c4
    by_cases c5 : 18446744073709551615 < now + period
    · have hab : ab = false := by
        cases ab with
        | false => rfl
        | true =>
          have := hv1 rfl
          rw [addP, if_pos c5] at this
          cases this
      subst hab
      clear c1 c5 h hn hp hc hv hv1 hv2 c4
      go_enter Try.func88, Try.ntmps88
      go_wp2_with (first
        | (go_at_call 55; refine HA.out.mono ?_; rintro e w' ⟨rfl, rfl⟩)
        | (go_at_call 21; refine (HM.out _ (Below.refl _ _)).mono ?_; rintro e w1 ⟨rfl, hb⟩; have HB1 := Lib.hid hb; clear hb))
      go_ret2
      exact ⟨rfl, HB1.out⟩
    have hab : ab = true := by
      cases ab with
      | true => rfl
      | false =>
        have := (hv2 rfl).1
        rw [addP, if_neg c5] at this
        cases this
    subst hab
    by_cases c6 : thN l now = 0
    · by_cases c7 : l.length = 0
      · have hz : ((l.length : Int) == 0) = true := by simp [c7]
        clear c1 c5 h hn hp hc hv hv1 hv2 c4 c6 c7
        go_enter Try.func88, Try.ntmps88
        go_wp2_with (first
          | (go_at_call 55; refine HA.out.mono ?_; rintro e w' ⟨rfl, rfl⟩)
          | (go_at_call 21; refine (HM.out _ (Below.refl _ _)).mono ?_; rintro e w1 ⟨rfl, hb⟩; have HB1 := Lib.hid hb; clear hb))
        go_ret2
        exact ⟨rfl, HB1.out⟩
      · obtain ⟨r, hr⟩ : ∃ r, l[0]? = some r := ⟨l[0], List.getElem?_eq_getElem (by omega)⟩
        have hat : now < r.at_ := (thN_zero_iff c1).1 c6 r hr
        have HR : Hid (∀ w', Below w.heap.size w w' → RdF w' (.slice ao l.length cap) l) := Lib.hid fun w' hb => h.below hb
        have hz : ((l.length : Int) == 0) = false := beq_eq_false_iff_ne.2 (by omega)
        have hpos : (0 : Int) < (l.length : Int) := by omega
        have hpos2 : 0 < l.length := by omega
        have HRr := Lib.hid hr
        obtain ⟨b, off, rfl, x0, x1, -⟩ := h.at_ hr
        have X1 : Hid (∀ w', Below w.heap.size w w' → w'.cell? ⟨b, off + 1, none⟩ = some (vu r.at_)) := Lib.hid fun w' hb => by
          have := (hb.cell (p := ⟨b, off + 0 * 2 + 1, none⟩) (lt_cell x1)).trans x1
          simpa using this
        clear c1 c5 h hn hp hc hv hv1 hv2 c4 c6 c7 hr x0 x1
        go_enter Try.func88, Try.ntmps88
        go_wp2_with (first
          | (go_at_call 55; refine HA.out.mono ?_; rintro e w' ⟨rfl, rfl⟩)
          | (go_at_call 21; refine (HM.out _ (Below.refl _ _)).mono ?_; rintro e w1 ⟨rfl, hb⟩; have x1 := X1.out _ hb; have HB1 := Lib.hid hb; clear hb))
        go_ret2
        exact ⟨rfl, HB1.out⟩
    · exact absurd ⟨c1, by omega, by omega, c4, by omega, c6⟩ hc
  · rw [mayB_no c1] at HM
    clear c1 h hn hp hc hv hv1 hv2
    go_enter Try.func88, Try.ntmps88
    go_wp2_with (first
      | (go_at_call 55; refine HA.out.mono ?_; rintro e w' ⟨rfl, rfl⟩)
      | (go_at_call 21; refine (HM.out _ (Below.refl _ _)).mono ?_; rintro e w1 ⟨rfl, hb⟩; have HB1 := Lib.hid hb; clear hb))
    go_ret2
    exact ⟨rfl, HB1.out⟩
end
end Go.Proofs.Ytknodagcmachiaa.Fi
