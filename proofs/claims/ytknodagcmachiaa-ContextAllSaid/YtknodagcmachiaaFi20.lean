/-
  The reference's Give. No statement is proved here.
-/
import Derived.Test.YtknodagcmachiaaFi19
namespace Go.Proofs.Ytknodagcmachiaa.Fi
open Go.RowKit
set_option linter.unusedVariables false

section
variable {w : World} {v : Value} {l : List Rf} {now amount most : Int}
set_option maxHeartbeats 4000000 in
theorem rgive_arg (h : RdF w v l) (hl : l.length ≤ 1000) (ha : U64 amount) (hc : ¬ GvOk l amount most) :
    Calls Try.prog 91 #[v, vu now, vu amount, vi most] w fun e w' => e = .returned (.tuple #[.slice none 0 0, vi 2]) ∧ Below w.heap.size w w' := by
  obtain ⟨ao, cap, rfl⟩ := h.rd.len
  have HM : Hid (∀ w', Below w.heap.size w w' → Calls Try.prog 21 #[.slice ao l.length cap] w' fun e w2 => e = .returned (.bool (mayB l)) ∧ Below w'.heap.size w' w2) := Lib.hid fun w' hb => rmay l _ w' (h.below hb) (by omega)
  by_cases c1 : MayL l
  · rw [mayB_yes c1] at HM
    by_cases c2 : amount = 0
    · subst c2
      clear c1 h hc ha
      go_enter Try.func91, Try.ntmps91
      go_wp2_with (go_at_call 21; refine (HM.out _ (Below.refl _ _)).mono ?_; rintro e w2 ⟨rfl, hb⟩; have HB2 := Lib.hid hb; clear hb)
      go_ret2
      exact ⟨rfl, HB2.out⟩
    have c2' : (amount == 0) = false := beq_eq_false_iff_ne.2 c2
    by_cases c3 : most < 1
    · clear c1 h hc ha
      go_enter Try.func91, Try.ntmps91
      go_wp2_with (go_at_call 21; refine (HM.out _ (Below.refl _ _)).mono ?_; rintro e w2 ⟨rfl, hb⟩; have HB2 := Lib.hid hb; clear hb)
      go_ret2
      exact ⟨rfl, HB2.out⟩
    by_cases c4 : most < (l.length : Int)
    · clear c1 h hc ha
      go_enter Try.func91, Try.ntmps91
      go_wp2_with (go_at_call 21; refine (HM.out _ (Below.refl _ _)).mono ?_; rintro e w2 ⟨rfl, hb⟩; have HB2 := Lib.hid hb; clear hb)
      go_ret2
      exact ⟨rfl, HB2.out⟩
    · exact absurd ⟨c1, c2, by omega, by omega⟩ hc
  · rw [mayB_no c1] at HM
    clear c1 h hc ha
    go_enter Try.func91, Try.ntmps91
    go_wp2_with (go_at_call 21; refine (HM.out _ (Below.refl _ _)).mono ?_; rintro e w2 ⟨rfl, hb⟩; have HB2 := Lib.hid hb; clear hb)
    go_ret2
    exact ⟨rfl, HB2.out⟩

set_option maxRecDepth 100000 in
set_option maxHeartbeats 4000000 in
theorem rgive_ (h : RdF w v l) (hl : l.length ≤ 1000) (ha : U64 amount) (hn : U64 now) (hc : GvOk l amount most) :
    Calls Try.prog 91 #[v, vu now, vu amount, vi most] w (GiveOut l now amount most w) := by
  have HD : Hid (∀ w', Below w.heap.size w w' → Calls Try.prog 102 #[v, vu now] w' fun e w2 => ∃ v', e = .returned v' ∧ Sat w' (fiS v' (dueL l now) * emp) w2) := Lib.hid fun w' hb => rdue now (h.below hb) (by omega) hc.may
  have HR := Lib.hid h
  obtain ⟨ao, cap, rfl⟩ := h.rd.len
  have hnn0 := tot_nonneg h.ok
  have hfi := hc.may.fit
  have HT : Hid (∀ w v, RdF w v l → Calls Try.prog 20 #[v] w fun e w' => e = .returned (.tuple #[vu (tot l), .bool true]) ∧ w = w') := Lib.hid fun w v h1 => by
    have := rsum l v w h1 (by omega)
    rw [sumP_eq h1.ok, if_neg (by omega)] at this
    exact this
  obtain ⟨x2, b2, e2, _⟩ := addV_form (addP (tot l) amount)
  have e3 := addP_b e2
  have HA : Hid (∀ w, Calls Try.prog 55 #[vu (tot l), vu amount] w fun e w' => e = .returned (.tuple #[vu x2, .bool b2]) ∧ w = w') := Lib.hid fun w => by
    have := radd (tot l) amount ⟨hnn0, by omega⟩ ha w
    rw [e2] at this
    exact this
  have HM : Hid (∀ w', Below w.heap.size w w' → Calls Try.prog 21 #[.slice ao l.length cap] w' fun e w2 => e = .returned (.bool true) ∧ Below w'.heap.size w' w2) := Lib.hid fun w' hb => by
    have := rmay l _ w' (h.below hb) (by omega)
    rw [mayB_yes hc.may] at this
    exact this
  have hma := hc.am
  have c2' : (amount == 0) = false := beq_eq_false_iff_ne.2 hc.am
  have c3 : ¬ most < 1 := by have := hc.m1; omega
  have c4 : ¬ most < (l.length : Int) := by have := hc.len; omega
  have hdl := due_len l now
  have HOD : Hid (OkL (dueL l now)) := Lib.hid (ok_due hc.may h.ok)
  have htd := tot_due l now
  by_cases hov : 18446744073709551615 < tot l + amount
  · have hb2 : b2 = false := by
      cases b2 with
      | false => rfl
      | true => exact absurd (e3.1 rfl) (by omega)
    subst hb2
    have HQ : Hid (∀ e w', e = .returned (.tuple #[.slice none 0 0, vi 6]) ∧ Below w.heap.size w w' → GiveOut l now amount most w e w') := Lib.hid fun e w' hh => by
      rw [GiveOut, if_pos hov]
      exact hh
    clear h e2 e3 hc ha hov hn hma htd hnn0 hfi
    generalize tot l = tl at *
    go_enter Try.func91, Try.ntmps91
    go_wp2_with (first
      | (go_at_call 21; refine (HM.out _ (Below.refl _ _)).mono ?_; rintro e w2 ⟨rfl, hb⟩; have HB2 := Lib.hid hb; clear hb)
      | (go_at_call 20; refine (HT.out _ _ (HR.out.below HB2.out)).mono ?_; rintro e w' ⟨rfl, rfl⟩)
      | (go_at_call 55; refine (HA.out _).mono ?_; rintro e w' ⟨rfl, rfl⟩))
    go_ret2
    exact HQ.out _ _ ⟨rfl, HB2.out⟩
  have hb2 : b2 = true := e3.2 (by omega)
  subst hb2
  by_cases h0 : thN l now = 0
  · have hd0 := due_zero h0
    rw [hd0] at HD HOD
    have hfst := (thN_zero_iff hc.may).1 h0
    by_cases hfu : (l.length : Int) = most
    · have HQ : Hid (∀ e w', e = .returned (.tuple #[.slice none 0 0, vi 3]) ∧ Below w.heap.size w w' → GiveOut l now amount most w e w') := Lib.hid fun e w' hh => by
        rw [GiveOut, if_neg hov, if_pos ⟨h0, hfu⟩]
        exact hh
      have hfu2 : most ≤ (l.length : Int) := by omega
      have hne : (0 : Int) < (l.length : Int) := by have := hc.m1; omega
      obtain ⟨z, hz⟩ : ∃ z, l[0]? = some z := ⟨l[0]'(by omega), List.getElem?_eq_getElem _⟩
      have hzn : ¬ z.at_ ≤ now := by have := hfst z hz; omega
      have HZ := Lib.hid hz
      clear h e2 e3 hc ha hov hn hma hfu hdl htd hnn0 hfi hfst hz h0 hd0
      generalize tot l = tl at *
      go_enter Try.func91, Try.ntmps91
      go_wp2_with (first
        | (go_at_call 21; refine (HM.out _ (Below.refl _ _)).mono ?_; rintro e w2 ⟨rfl, hb⟩; have HB2 := Lib.hid hb; clear hb)
        | (go_at_call 20; refine (HT.out _ _ (HR.out.below HB2.out)).mono ?_; rintro e w' ⟨rfl, rfl⟩)
        | (go_at_call 55; refine (HA.out _).mono ?_; rintro e w' ⟨rfl, rfl⟩)
        | (go_at_call 102; refine (HD.out _ HB2.out).mono ?_; rintro e w3 ⟨va, rfl, hS⟩; have h3 := Sat.base HB2.out hS; clear hS; obtain ⟨g, so, scap, e5⟩ := h3.sloPos (by omega); subst e5; have c1 : w3.cell? ⟨g, so + 1, none⟩ = some (vu z.at_) := h3.sloCell 1 (flat_get (j := 1) Rf.len HZ.out rfl); have H3 := Lib.hid h3; clear h3))
      go_ret2
      exact HQ.out _ _ ⟨rfl, H3.out.below⟩
    · have HQ : Hid (∀ e w', (∃ v', e = .returned (.tuple #[v', vi 0]) ∧ Sat w (slo 61 2 v' (1 + l.length) ([vu amount, vu now] ++ rflat l) * emp) w') → GiveOut l now amount most w e w') := Lib.hid fun e w' hh => by
        rw [GiveOut, if_neg hov, if_neg (fun h => hfu h.2), giveL, if_pos h0]
        rw [Nat.add_comm] at hh
        exact hh
      have hfu2 : ¬ most ≤ (l.length : Int) := by omega
      have hone := Lib.hid (rflat_one l)
      rcases List.eq_nil_or_concat l with hl0 | ⟨l2, z2, hl0⟩
      · subst hl0
        clear h e2 e3 hc ha hov hn hma hfu hdl htd hnn0 hfi hfst h0 hd0
        simp only [List.length_nil] at *
        generalize tot [] = tl at *
        go_enter Try.func91, Try.ntmps91
        go_wp2_with (first
          | (go_at_call 21; refine (HM.out _ (Below.refl _ _)).mono ?_; rintro e w2 ⟨rfl, hb⟩; have HB2 := Lib.hid hb; clear hb)
          | (go_at_call 20; refine (HT.out _ _ (HR.out.below HB2.out)).mono ?_; rintro e w' ⟨rfl, rfl⟩)
          | (go_at_call 55; refine (HA.out _).mono ?_; rintro e w' ⟨rfl, rfl⟩)
          | (go_at_call 102; refine (HD.out _ HB2.out).mono ?_; rintro e w3 ⟨va, rfl, hS⟩; have H3 := Lib.hid (Sat.base HB2.out hS); clear hS; have e3 := H3.out.sloForm; obtain ⟨ao3, cap3, e3'⟩ := e3; subst e3'; have H5 : Hid (Sat w (slo 61 2 (.slice (some ⟨w3.heap.size, 0, none⟩) 1 1) 1 [vu amount, vu now] * (slo 61 2 (.slice ao3 0 cap3) 0 [] * emp)) (w3.alloc (.cells #[vu amount, vu now] 61))) := Lib.hid (H3.out.sloOne (size := 2) 61 [vu amount, vu now] rfl))
          | (at_builtin; refine wpList_append_slo Efi rfl (.tmp 76) (.tmp 77) rfl (by rfl) H5.out (by rfl) H5.out.pull2.sloRd (by simp) (by unfold maxLen; omega) (by omega) ?_; intro ao6 cap6 w6 hS6; have H6 := Lib.hid hS6.drop2; clear hS6))
        go_ret2
        exact HQ.out _ _ ⟨_, rfl, H6.out⟩
      · have hne : (0 : Int) < (l.length : Int) := by rw [hl0]; simp
        obtain ⟨z, hz⟩ : ∃ z, l[0]? = some z := ⟨l[0]'(by omega), List.getElem?_eq_getElem _⟩
        have hzn : ¬ z.at_ ≤ now := by have := hfst z hz; omega
        have HZ := Lib.hid hz
        clear h e2 e3 hc ha hov hn hma hfu hdl htd hnn0 hfi hfst hz h0 hd0 hl0
        generalize tot l = tl at *
        go_enter Try.func91, Try.ntmps91
        go_wp2_with (first
          | (go_at_call 21; refine (HM.out _ (Below.refl _ _)).mono ?_; rintro e w2 ⟨rfl, hb⟩; have HB2 := Lib.hid hb; clear hb)
          | (go_at_call 20; refine (HT.out _ _ (HR.out.below HB2.out)).mono ?_; rintro e w' ⟨rfl, rfl⟩)
          | (go_at_call 55; refine (HA.out _).mono ?_; rintro e w' ⟨rfl, rfl⟩)
          | (go_at_call 102; refine (HD.out _ HB2.out).mono ?_; rintro e w3 ⟨va, rfl, hS⟩; have h3 := Sat.base HB2.out hS; clear hS; obtain ⟨g, so, scap, e5⟩ := h3.sloPos (by omega); subst e5; have c1 : w3.cell? ⟨g, so + 1, none⟩ = some (vu z.at_) := h3.sloCell 1 (flat_get (j := 1) Rf.len HZ.out rfl); have H5 := Lib.hid (h3.sloOne (size := 2) 61 [vu amount, vu now] rfl); clear h3)
          | (at_builtin; refine wpList_append_slo Efi rfl (.tmp 76) (.tmp 77) rfl (by rfl) H5.out (by rfl) H5.out.pull2.sloRd hone.out (by unfold maxLen; omega) (by omega) ?_; intro ao6 cap6 w6 hS6; have H6 := Lib.hid hS6.drop2; clear hS6))
        go_ret2
        exact HQ.out _ _ ⟨_, rfl, H6.out⟩
  · obtain ⟨r, t, hd, hat, h1⟩ := due_cons hc.may h.ok h0
    have hgv : giveL l now amount = ⟨r.amount + amount, r.at_⟩ :: t := by rw [giveL, if_neg h0, hd]
    rw [hd] at HD HOD hdl htd
    have hnn := tot_nonneg HOD.out.tail
    have hra : U64 (r.amount + amount) := ⟨by have := ha.1; omega, by simp only [tot] at htd; omega⟩
    have hwr : IntKind.u64.wrap (r.amount + amount) = r.amount + amount := hra.wrap
    have HQ : Hid (∀ e w', (∃ v', e = .returned (.tuple #[v', vi 0]) ∧ Sat w (fiS v' (⟨r.amount + amount, r.at_⟩ :: t) * emp) w') → GiveOut l now amount most w e w') := Lib.hid fun e w' hh => by
      rw [GiveOut, if_neg hov, if_neg (fun h => h0 h.1), hgv]
      exact hh
    have hpos : (0 : Int) < ((t.length : Int) + 1) := by omega
    clear h e2 e3 hc ha hov hn hma htd hgv hd h1 h0 hra hnn hnn0 hfi
    generalize tot l = tl at *
    go_enter Try.func91, Try.ntmps91
    go_wp2_with (first
      | (go_at_call 21; refine (HM.out _ (Below.refl _ _)).mono ?_; rintro e w2 ⟨rfl, hb⟩; have HB2 := Lib.hid hb; clear hb)
      | (go_at_call 20; refine (HT.out _ _ (HR.out.below HB2.out)).mono ?_; rintro e w' ⟨rfl, rfl⟩)
      | (go_at_call 55; refine (HA.out _).mono ?_; rintro e w' ⟨rfl, rfl⟩)
      | (go_at_call 102; refine (HD.out _ HB2.out).mono ?_; rintro e w4 ⟨va, rfl, hS⟩; have h4 := Sat.base HB2.out hS; clear hS; obtain ⟨g, so, scap, e5⟩ := h4.sloPos (by simp); subst e5; have c0 : w4.cell? ⟨g, so, none⟩ = some (vu r.amount) := h4.sloCell 0 rfl; have c1 : w4.cell? ⟨g, so + 1, none⟩ = some (vu r.at_) := h4.sloCell 1 rfl; have f0 := h4.sloFree so; have hS6 := h4.sloStore 0 (by simp) (vu (r.amount + amount)); rw [show (rflat (r :: t)).set 0 (vu (r.amount + amount)) = rflat (⟨r.amount + amount, r.at_⟩ :: t) from rfl, Nat.add_zero] at hS6; have H6 := Lib.hid hS6; clear hS6 h4; simp only [List.length_cons] at *))
    go_ret2
    exact HQ.out _ _ ⟨_, rfl, H6.out⟩
end
end Go.Proofs.Ytknodagcmachiaa.Fi
