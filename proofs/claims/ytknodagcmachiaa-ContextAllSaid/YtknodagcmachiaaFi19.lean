/-
  refill.Give, and the reference's Give. No statement is proved here.
-/
import Derived.Test.YtknodagcmachiaaMg8
namespace Go.Proofs.Ytknodagcmachiaa.Fi
open Go.RowKit
set_option linter.unusedVariables false

section
variable {w : World} {v : Value} {l : List Rf} {now amount most : Int}
theorem addP_b {a b x : Int} {c : Bool} (h : addV (addP a b) = .tuple #[vu x, .bool c]) : (c = true ↔ a + b ≤ 18446744073709551615) := by
  unfold addP at h
  by_cases h0 : 18446744073709551615 < a + b
  · rw [if_pos h0] at h
    simp [addV] at h
    rw [h.2]
    simp
    omega
  · rw [if_neg h0] at h
    simp [addV] at h
    rw [h.2]
    simp
    omega
theorem give_sum (h : OkL l) (ha : U64 amount) : ∃ x b x2 b2, addV (sumP l) = .tuple #[vu x, .bool b] ∧ U64 x ∧ addV (addP x amount) = .tuple #[vu x2, .bool b2] ∧ (MayL l → (b2 = true ↔ tot l + amount ≤ 18446744073709551615)) := by
  have hn := tot_nonneg h
  by_cases hf : 18446744073709551615 < tot l
  · obtain ⟨x2, b2, hv, _⟩ := addV_form (addP 0 amount)
    exact ⟨0, false, x2, b2, by rw [sumP_eq h, if_pos hf]; rfl, ⟨by omega, by omega⟩, hv, fun hm => absurd hf (by have := hm.fit; omega)⟩
  · obtain ⟨x2, b2, hv, _⟩ := addV_form (addP (tot l) amount)
    exact ⟨tot l, true, x2, b2, by rw [sumP_eq h, if_neg hf]; rfl, ⟨by omega, by omega⟩, hv, fun _ => addP_b hv⟩

set_option maxHeartbeats 4000000 in
theorem give_arg (h : RdF w v l) (hl : l.length ≤ 1000) (ha : U64 amount) (hc : ¬ GvOk l amount most) :
    Calls Try.prog 71 #[v, vu now, vu amount, vi most] w fun e w' => e = .returned (.tuple #[.slice none 0 0, vi 2]) ∧ Below w.heap.size w w' := by
  obtain ⟨ao, cap, rfl⟩ := h.rd.len
  obtain ⟨x, b, x2, b2, e1, hx, e2, e3⟩ := give_sum h.ok ha
  have HT := Lib.hid (total_ l _ w h (by omega))
  rw [e1] at HT
  have HA : Hid (∀ w, Calls Try.prog 76 #[vu x, vu amount] w fun e w' => e = .returned (.tuple #[vu x2, .bool b2]) ∧ w = w') := Lib.hid fun w => by
    have := nadd x amount hx ha w
    rw [e2] at this
    exact this
  have HM : Hid (∀ w', Below w.heap.size w w' → Calls Try.prog 77 #[.slice ao l.length cap] w' fun e w2 => e = .returned (.bool (mayB l)) ∧ Below w'.heap.size w' w2) := Lib.hid fun w' hb => may_ l _ w' (h.below hb) (by omega)
  by_cases c1 : MayL l
  · rw [mayB_yes c1] at HM
    by_cases c2 : amount = 0
    · subst c2
      clear c1 h e1 e2 e3 hc ha
      go_enter Try.func71, Try.ntmps71
      go_wp2_with (first
        | (go_at_call 97; refine HT.out.mono ?_; rintro e w1 ⟨rfl, hb⟩; have HB1 := Lib.hid hb; clear hb)
        | (go_at_call 76; refine (HA.out _).mono ?_; rintro e w' ⟨rfl, rfl⟩)
        | (go_at_call 77; refine (HM.out _ HB1.out).mono ?_; rintro e w2 ⟨rfl, hb⟩; have HB2 := Lib.hid (Below.then HB1.out hb); clear hb))
      go_ret2
      exact ⟨rfl, HB2.out⟩
    have c2' : (amount == 0) = false := beq_eq_false_iff_ne.2 c2
    by_cases c3 : most < 1
    · clear c1 h e1 e2 e3 hc ha
      go_enter Try.func71, Try.ntmps71
      go_wp2_with (first
        | (go_at_call 97; refine HT.out.mono ?_; rintro e w1 ⟨rfl, hb⟩; have HB1 := Lib.hid hb; clear hb)
        | (go_at_call 76; refine (HA.out _).mono ?_; rintro e w' ⟨rfl, rfl⟩)
        | (go_at_call 77; refine (HM.out _ HB1.out).mono ?_; rintro e w2 ⟨rfl, hb⟩; have HB2 := Lib.hid (Below.then HB1.out hb); clear hb))
      go_ret2
      exact ⟨rfl, HB2.out⟩
    by_cases c4 : most < (l.length : Int)
    · clear c1 h e1 e2 e3 hc ha
      go_enter Try.func71, Try.ntmps71
      go_wp2_with (first
        | (go_at_call 97; refine HT.out.mono ?_; rintro e w1 ⟨rfl, hb⟩; have HB1 := Lib.hid hb; clear hb)
        | (go_at_call 76; refine (HA.out _).mono ?_; rintro e w' ⟨rfl, rfl⟩)
        | (go_at_call 77; refine (HM.out _ HB1.out).mono ?_; rintro e w2 ⟨rfl, hb⟩; have HB2 := Lib.hid (Below.then HB1.out hb); clear hb))
      go_ret2
      exact ⟨rfl, HB2.out⟩
    · exact absurd ⟨c1, c2, by omega, by omega⟩ hc
  · rw [mayB_no c1] at HM
    clear c1 h e1 e2 e3 hc ha
    go_enter Try.func71, Try.ntmps71
    go_wp2_with (first
      | (go_at_call 97; refine HT.out.mono ?_; rintro e w1 ⟨rfl, hb⟩; have HB1 := Lib.hid hb; clear hb)
      | (go_at_call 76; refine (HA.out _).mono ?_; rintro e w' ⟨rfl, rfl⟩)
      | (go_at_call 77; refine (HM.out _ HB1.out).mono ?_; rintro e w2 ⟨rfl, hb⟩; have HB2 := Lib.hid (Below.then HB1.out hb); clear hb))
    go_ret2
    exact ⟨rfl, HB2.out⟩

/-- What Give does of a list that may be, of which more may be. -/
def GiveOut (l : List Rf) (now amount most : Int) (w : World) (e : Ending) (w' : World) : Prop :=
  if 18446744073709551615 < tot l + amount then e = .returned (.tuple #[.slice none 0 0, vi 6]) ∧ Below w.heap.size w w'
  else if thN l now = 0 ∧ (l.length : Int) = most then e = .returned (.tuple #[.slice none 0 0, vi 3]) ∧ Below w.heap.size w w'
  else ∃ v', e = .returned (.tuple #[v', vi 0]) ∧ Sat w (fiS v' (giveL l now amount) * emp) w'
set_option maxRecDepth 100000 in
set_option maxHeartbeats 4000000 in
theorem give_ (h : RdF w v l) (hrm : Room v l.length) (hl : l.length ≤ 1000) (ha : U64 amount) (hn : U64 now) (hc : GvOk l amount most) :
    Calls Try.prog 71 #[v, vu now, vu amount, vi most] w (GiveOut l now amount most w) := by
  have HD : Hid (∀ w', Below w.heap.size w w' → Calls Try.prog 80 #[v, vu now] w' fun e w2 => ∃ v', e = .returned v' ∧ Sat w' (fiS v' (dueL l now) * emp) w2) := Lib.hid fun w' hb => due_yes now (h.below hb) hrm (by omega) hc.may
  obtain ⟨ao, cap, rfl⟩ := h.rd.len
  obtain ⟨x, b, x2, b2, e1, hx, e2, e3⟩ := give_sum h.ok ha
  have e3 := e3 hc.may
  have HT := Lib.hid (total_ l _ w h (by omega))
  rw [e1] at HT
  have HA : Hid (∀ w, Calls Try.prog 76 #[vu x, vu amount] w fun e w' => e = .returned (.tuple #[vu x2, .bool b2]) ∧ w = w') := Lib.hid fun w => by
    have := nadd x amount hx ha w
    rw [e2] at this
    exact this
  have HM : Hid (∀ w', Below w.heap.size w w' → Calls Try.prog 77 #[.slice ao l.length cap] w' fun e w2 => e = .returned (.bool true) ∧ Below w'.heap.size w' w2) := Lib.hid fun w' hb => by
    have := may_ l _ w' (h.below hb) (by omega)
    rw [mayB_yes hc.may] at this
    exact this
  have hma := hc.am
  have c2' : (amount == 0) = false := beq_eq_false_iff_ne.2 hc.am
  have c3 : ¬ most < 1 := by have := hc.m1; omega
  have c4 : ¬ most < (l.length : Int) := by have := hc.len; omega
  have hdl := due_len l now
  have HOD : Hid (OkL (dueL l now)) := Lib.hid (ok_due hc.may h.ok)
  have htd := tot_due l now
  have hzz := th_due_zero (now := now) hc.may h.ok
  have HDD := Lib.hid (fun e => due_due (now := now) hc.may h.ok e)
  have HTH : Hid (∀ w v, RdF w v (dueL l now) → Calls Try.prog 78 #[v, vu now] w fun e w2 => e = .returned (vi (thN (dueL l now) now)) ∧ Below w.heap.size w w2) := Lib.hid fun w v h => thereN_ _ now v w h (by omega)
  by_cases hov : 18446744073709551615 < tot l + amount
  · have hb2 : b2 = false := by
      cases b2 with
      | false => rfl
      | true => exact absurd (e3.1 rfl) (by omega)
    subst hb2
    have HQ : Hid (∀ e w', e = .returned (.tuple #[.slice none 0 0, vi 6]) ∧ Below w.heap.size w w' → GiveOut l now amount most w e w') := Lib.hid fun e w' hh => by
      rw [GiveOut, if_pos hov]
      exact hh
    clear h e1 e2 e3 hc ha hov hn hma
    go_enter Try.func71, Try.ntmps71
    go_wp2_with (first
      | (go_at_call 97; refine HT.out.mono ?_; rintro e w1 ⟨rfl, hb⟩; have HB1 := Lib.hid hb; clear hb)
      | (go_at_call 76; refine (HA.out _).mono ?_; rintro e w' ⟨rfl, rfl⟩)
      | (go_at_call 77; refine (HM.out _ HB1.out).mono ?_; rintro e w2 ⟨rfl, hb⟩; have HB2 := Lib.hid (Below.then HB1.out hb); clear hb))
    go_ret2
    exact HQ.out _ _ ⟨rfl, HB2.out⟩
  have hb2 : b2 = true := e3.2 (by omega)
  subst hb2
  by_cases h0 : thN l now = 0
  · have hd0 := due_zero h0
    rw [hd0] at HD HTH HOD
    rw [h0] at HTH
    by_cases hfu : (l.length : Int) = most
    · have HQ : Hid (∀ e w', e = .returned (.tuple #[.slice none 0 0, vi 3]) ∧ Below w.heap.size w w' → GiveOut l now amount most w e w') := Lib.hid fun e w' hh => by
        rw [GiveOut, if_neg hov, if_pos ⟨h0, hfu⟩]
        exact hh
      have hfu2 : ((l.length : Int) == most) = true := by rw [hfu]; simp
      clear h e1 e2 e3 hc ha hov hn hma hfu hdl htd hzz HDD
      go_enter Try.func71, Try.ntmps71
      go_wp2_with (first
        | (go_at_call 97; refine HT.out.mono ?_; rintro e w1 ⟨rfl, hb⟩; have HB1 := Lib.hid hb; clear hb)
        | (go_at_call 76; refine (HA.out _).mono ?_; rintro e w' ⟨rfl, rfl⟩)
        | (go_at_call 77; refine (HM.out _ HB1.out).mono ?_; rintro e w2 ⟨rfl, hb⟩; have HB2 := Lib.hid (Below.then HB1.out hb); clear hb)
        | (go_at_call 80; refine (HD.out _ HB2.out).mono ?_; rintro e w3 ⟨va, rfl, hS⟩; have H3 := Lib.hid (Sat.base HB2.out hS); clear hS; have e3 := H3.out.sloForm; obtain ⟨ao3, cap3, e3'⟩ := e3; subst e3')
        | (go_at_call 78; refine (HTH.out _ _ (Sat.fiR H3.out HOD.out)).mono ?_; rintro e w4 ⟨rfl, hb⟩; have H4 := Lib.hid (Sat.after H3.out hb); clear hb))
      go_ret2
      exact HQ.out _ _ ⟨rfl, H4.out.below⟩
    · have HQ : Hid (∀ e w', (∃ v', e = .returned (.tuple #[v', vi 0]) ∧ Sat w (slo 61 2 v' (1 + l.length) ([vu amount, vu now] ++ rflat l) * emp) w') → GiveOut l now amount most w e w') := Lib.hid fun e w' hh => by
        rw [GiveOut, if_neg hov, if_neg (fun h => hfu h.2), giveL, if_pos h0]
        rw [Nat.add_comm] at hh
        exact hh
      have hfu2 : ((l.length : Int) == most) = false := beq_eq_false_iff_ne.2 hfu
      have hone := Lib.hid (rflat_one l)
      clear h e1 e2 e3 hc ha hov hn hma hfu hdl htd hzz HDD
      go_enter Try.func71, Try.ntmps71
      go_wp2_with (first
        | (go_at_call 97; refine HT.out.mono ?_; rintro e w1 ⟨rfl, hb⟩; have HB1 := Lib.hid hb; clear hb)
        | (go_at_call 76; refine (HA.out _).mono ?_; rintro e w' ⟨rfl, rfl⟩)
        | (go_at_call 77; refine (HM.out _ HB1.out).mono ?_; rintro e w2 ⟨rfl, hb⟩; have HB2 := Lib.hid (Below.then HB1.out hb); clear hb)
        | (go_at_call 80; refine (HD.out _ HB2.out).mono ?_; rintro e w3 ⟨va, rfl, hS⟩; have H3 := Lib.hid (Sat.base HB2.out hS); clear hS; have e3 := H3.out.sloForm; obtain ⟨ao3, cap3, e3'⟩ := e3; subst e3')
        | (go_at_call 78; refine (HTH.out _ _ (Sat.fiR H3.out HOD.out)).mono ?_; rintro e w4 ⟨rfl, hb⟩; have H4 := Lib.hid (Sat.after H3.out hb); clear hb; have H5 := Lib.hid (H4.out.sloOne (size := 2) 61 [vu amount, vu now] rfl))
        | (at_builtin; refine wpList_append_slo Efi rfl (.tmp 70) (.tmp 71) rfl (by rfl) H5.out (by rfl) H5.out.pull2.sloRd hone.out (by unfold maxLen; omega) (by omega) ?_; intro ao6 cap6 w6 hS6; have H6 := Lib.hid hS6.drop2; clear hS6))
      go_ret2
      exact HQ.out _ _ ⟨_, rfl, H6.out⟩
  · obtain ⟨r, t, hd, hat, h1⟩ := due_cons hc.may h.ok h0
    have hgv : giveL l now amount = ⟨r.amount + amount, r.at_⟩ :: t := by rw [giveL, if_neg h0, hd]
    rw [hd] at HD HTH HOD hdl htd
    have hth1 : thN (r :: t) now = 1 := by rw [← hd]; exact HDD.out h0
    rw [hth1] at HTH
    have hnn := tot_nonneg HOD.out.tail
    have hra : U64 (r.amount + amount) := ⟨by have := ha.1; omega, by simp only [tot] at htd; omega⟩
    have hwr : IntKind.u64.wrap (r.amount + amount) = r.amount + amount := hra.wrap
    have HQ : Hid (∀ e w', (∃ v', e = .returned (.tuple #[v', vi 0]) ∧ Sat w (fiS v' (⟨r.amount + amount, r.at_⟩ :: t) * emp) w') → GiveOut l now amount most w e w') := Lib.hid fun e w' hh => by
      rw [GiveOut, if_neg hov, if_neg (fun h => h0 h.1), hgv]
      exact hh
    have hpos : (0 : Int) < ((t.length : Int) + 1) := by omega
    clear h e1 e2 e3 hc ha hov hn hma htd hzz HDD hgv hd hat h1 h0 hra hth1
    go_enter Try.func71, Try.ntmps71
    go_wp2_with (first
      | (go_at_call 97; refine HT.out.mono ?_; rintro e w1 ⟨rfl, hb⟩; have HB1 := Lib.hid hb; clear hb)
      | (go_at_call 76; refine (HA.out _).mono ?_; rintro e w' ⟨rfl, rfl⟩)
      | (go_at_call 77; refine (HM.out _ HB1.out).mono ?_; rintro e w2 ⟨rfl, hb⟩; have HB2 := Lib.hid (Below.then HB1.out hb); clear hb)
      | (go_at_call 80; refine (HD.out _ HB2.out).mono ?_; rintro e w3 ⟨va, rfl, hS⟩; have H3 := Lib.hid (Sat.base HB2.out hS); clear hS)
      | (go_at_call 78; refine (HTH.out _ _ (Sat.fiR H3.out HOD.out)).mono ?_; rintro e w4 ⟨rfl, hb⟩; have h4 := Sat.after H3.out hb; clear hb; obtain ⟨g, so, scap, e5⟩ := h4.sloPos (by simp); subst e5; have c0 : w4.cell? ⟨g, so, none⟩ = some (vu r.amount) := h4.sloCell 0 rfl; have f0 := h4.sloFree so; have hS6 := h4.sloStore 0 (by simp) (vu (r.amount + amount)); rw [show (rflat (r :: t)).set 0 (vu (r.amount + amount)) = rflat (⟨r.amount + amount, r.at_⟩ :: t) from rfl, Nat.add_zero] at hS6; have H6 := Lib.hid hS6; clear hS6 h4; simp only [List.length_cons] at *))
    go_ret2
    exact HQ.out _ _ ⟨_, rfl, H6.out⟩
end
end Go.Proofs.Ytknodagcmachiaa.Fi
