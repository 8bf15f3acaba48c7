/-
  refill.Pull, and the reference's Pull. No statement is proved here.
-/
import Derived.Test.YtknodagcmachiaaMg8
namespace Go.Proofs.Ytknodagcmachiaa.Fi
open Go.RowKit
set_option linter.unusedVariables false

section
variable {w : World} {v : Value} {l : List Rf} {now amount : Int}
/-- So much is there in the first one. -/
theorem pull_due (h : MayL l) (hok : OkL l) (ha : amount ≠ 0) (ha0 : 0 ≤ amount) (hle : amount ≤ thereV l now) : ∃ r t, dueL l now = r :: t ∧ amount ≤ r.amount := by
  have h0 := (there_iff h hok).1 (show 0 < thereV l now by omega)
  obtain ⟨z, hz, hat, hd⟩ := due_pos h0
  refine ⟨_, _, hd, ?_⟩
  have h1 := totTo_take h now (Int.le_refl _)
  have h2 := totTo_drop (now := now) h
  have h3 := thereV_eq now hok
  have h4 := (totTo_bd now hok).2
  have h5 := h.fit
  rw [if_neg (by omega)] at h3
  simp only
  omega
structure PuOk (l : List Rf) (amount : Int) : Prop where
  may : MayL l
  am : amount ≠ 0
/-- What Pull does of a list that may be. -/
def PullOut (l : List Rf) (now amount : Int) (w : World) (e : Ending) (w' : World) : Prop :=
  if thereV l now < amount then e = .returned (.tuple #[.slice none 0 0, vi 15]) ∧ Below w.heap.size w w'
  else ∃ v', e = .returned (.tuple #[v', vi 0]) ∧ Sat w (fiS v' (lessL (dueL l now) amount) * emp) w'

set_option maxHeartbeats 4000000 in
theorem pull_arg (h : RdF w v l) (hl : l.length ≤ 1000) (hc : ¬ PuOk l amount) :
    Calls Try.prog 84 #[v, vu now, vu amount] w fun e w' => e = .returned (.tuple #[.slice none 0 0, vi 2]) ∧ Below w.heap.size w w' := by
  obtain ⟨ao, cap, rfl⟩ := h.rd.len
  have HM := Lib.hid (may_ l _ w h (by omega))
  by_cases c1 : MayL l
  · rw [mayB_yes c1] at HM
    by_cases c2 : amount = 0
    · subst c2
      clear c1 h hc
      go_enter Try.func84, Try.ntmps84
      go_wp2_with (go_at_call 77; refine HM.out.mono ?_; rintro e w2 ⟨rfl, hb⟩; have HB2 := Lib.hid hb; clear hb)
      go_ret2
      exact ⟨rfl, HB2.out⟩
    · exact absurd ⟨c1, c2⟩ hc
  · rw [mayB_no c1] at HM
    clear c1 h hc
    go_enter Try.func84, Try.ntmps84
    go_wp2_with (go_at_call 77; refine HM.out.mono ?_; rintro e w2 ⟨rfl, hb⟩; have HB2 := Lib.hid hb; clear hb)
    go_ret2
    exact ⟨rfl, HB2.out⟩
set_option maxHeartbeats 4000000 in
theorem rpull_arg (h : RdF w v l) (hl : l.length ≤ 1000) (hc : ¬ PuOk l amount) :
    Calls Try.prog 103 #[v, vu now, vu amount] w fun e w' => e = .returned (.tuple #[.slice none 0 0, vi 2]) ∧ Below w.heap.size w w' := by
  obtain ⟨ao, cap, rfl⟩ := h.rd.len
  have HM := Lib.hid (rmay l _ w h (by omega))
  by_cases c1 : MayL l
  · rw [mayB_yes c1] at HM
    by_cases c2 : amount = 0
    · subst c2
      clear c1 h hc
      go_enter Try.func103, Try.ntmps103
      go_wp2_with (go_at_call 21; refine HM.out.mono ?_; rintro e w2 ⟨rfl, hb⟩; have HB2 := Lib.hid hb; clear hb)
      go_ret2
      exact ⟨rfl, HB2.out⟩
    · exact absurd ⟨c1, c2⟩ hc
  · rw [mayB_no c1] at HM
    clear c1 h hc
    go_enter Try.func103, Try.ntmps103
    go_wp2_with (go_at_call 21; refine HM.out.mono ?_; rintro e w2 ⟨rfl, hb⟩; have HB2 := Lib.hid hb; clear hb)
    go_ret2
    exact ⟨rfl, HB2.out⟩
set_option maxRecDepth 100000 in
set_option maxHeartbeats 4000000 in
theorem pull_ (h : RdF w v l) (hrm : Room v l.length) (hl : l.length ≤ 1000) (ha : U64 amount) (hc : PuOk l amount) :
    Calls Try.prog 84 #[v, vu now, vu amount] w (PullOut l now amount w) := by
  have HD : Hid (∀ w', Below w.heap.size w w' → Calls Try.prog 80 #[v, vu now] w' fun e w2 => ∃ v', e = .returned v' ∧ Sat w' (fiS v' (dueL l now) * emp) w2) := Lib.hid fun w' hb => due_yes now (h.below hb) hrm (by omega) hc.may
  have HR := Lib.hid h
  obtain ⟨ao, cap, rfl⟩ := h.rd.len
  have HM := Lib.hid (may_ l _ w h (by omega))
  rw [mayB_yes hc.may] at HM
  have HT : Hid (∀ w v, RdF w v l → Calls Try.prog 39 #[v, vu now] w fun e w' => e = .returned (vu (thereV l now)) ∧ Below w.heap.size w w') := Lib.hid fun w v h1 => there_ l now v w h1 (by omega)
  have c2' : (amount == 0) = false := beq_eq_false_iff_ne.2 hc.am
  by_cases hth : thereV l now < amount
  · have HQ : Hid (∀ e w', e = .returned (.tuple #[.slice none 0 0, vi 15]) ∧ Below w.heap.size w w' → PullOut l now amount w e w') := Lib.hid fun e w' hh => by
      rw [PullOut, if_pos hth]
      exact hh
    clear h hc ha
    generalize thereV l now = tv at *
    go_enter Try.func84, Try.ntmps84
    go_wp2_with (first
      | (go_at_call 77; refine HM.out.mono ?_; rintro e w2 ⟨rfl, hb⟩; have HB2 := Lib.hid hb; clear hb)
      | (go_at_call 39; refine (HT.out _ _ (HR.out.below HB2.out)).mono ?_; rintro e w3 ⟨rfl, hb⟩; have HB3 := Lib.hid (Below.then HB2.out hb); clear hb))
    go_ret2
    exact HQ.out _ _ ⟨rfl, HB3.out⟩
  · obtain ⟨r, t, hd, hle⟩ := pull_due (now := now) hc.may h.ok hc.am ha.1 (by omega)
    have HQ : Hid (∀ e w', (∃ v', e = .returned (.tuple #[v', vi 0]) ∧ Sat w (fiS v' (lessL (r :: t) amount) * emp) w') → PullOut l now amount w e w') := Lib.hid fun e w' hh => by
      rw [PullOut, if_neg hth, hd]
      exact hh
    have hk := ok_due (now := now) hc.may h.ok
    have hdl := due_len l now
    rw [hd] at HD hk hdl
    have HL : Hid (∀ (w0 w : World) (F : Hp) (v : Value), Sat w0 (fiS v (r :: t) * F) w → Calls Try.prog 79 #[v, vu amount] w fun e w' => ∃ v', e = .returned v' ∧ Sat w0 (fiS v' (lessL (r :: t) amount) * F) w') := Lib.hid fun w0 w F v hS => less_ hS hk.head.1 amount ha.1 hle (by simp at hdl; omega)
    clear h hc ha hk hdl hd hle
    generalize thereV l now = tv at *
    go_enter Try.func84, Try.ntmps84
    go_wp2_with (first
      | (go_at_call 77; refine HM.out.mono ?_; rintro e w2 ⟨rfl, hb⟩; have HB2 := Lib.hid hb; clear hb)
      | (go_at_call 39; refine (HT.out _ _ (HR.out.below HB2.out)).mono ?_; rintro e w3 ⟨rfl, hb⟩; have HB3 := Lib.hid (Below.then HB2.out hb); clear hb)
      | (go_at_call 80; refine (HD.out _ HB3.out).mono ?_; rintro e w4 ⟨va, rfl, hS⟩; have H4 := Lib.hid (Sat.base HB3.out hS); clear hS)
      | (go_at_call 79; refine (HL.out _ _ _ _ H4.out).mono ?_; rintro e w5 ⟨vb, rfl, hS⟩; have H5 := Lib.hid hS; clear hS))
    go_ret2
    exact HQ.out _ _ ⟨_, rfl, H5.out⟩
set_option maxRecDepth 100000 in
set_option maxHeartbeats 4000000 in
theorem rpull_ (h : RdF w v l) (hl : l.length ≤ 1000) (ha : U64 amount) (hc : PuOk l amount) :
    Calls Try.prog 103 #[v, vu now, vu amount] w (PullOut l now amount w) := by
  have HD : Hid (∀ w', Below w.heap.size w w' → Calls Try.prog 102 #[v, vu now] w' fun e w2 => ∃ v', e = .returned v' ∧ Sat w' (fiS v' (dueL l now) * emp) w2) := Lib.hid fun w' hb => rdue now (h.below hb) (by omega) hc.may
  have HR := Lib.hid h
  obtain ⟨ao, cap, rfl⟩ := h.rd.len
  have HM := Lib.hid (rmay l _ w h (by omega))
  rw [mayB_yes hc.may] at HM
  have HT : Hid (∀ w v, RdF w v l → Calls Try.prog 87 #[v, vu now] w fun e w' => e = .returned (vu (thereV l now)) ∧ w = w') := Lib.hid fun w v h1 => rthere l now v w h1 (by omega)
  have c2' : (amount == 0) = false := beq_eq_false_iff_ne.2 hc.am
  by_cases hth : thereV l now < amount
  · have HQ : Hid (∀ e w', e = .returned (.tuple #[.slice none 0 0, vi 15]) ∧ Below w.heap.size w w' → PullOut l now amount w e w') := Lib.hid fun e w' hh => by
      rw [PullOut, if_pos hth]
      exact hh
    clear h hc ha
    generalize thereV l now = tv at *
    go_enter Try.func103, Try.ntmps103
    go_wp2_with (first
      | (go_at_call 21; refine HM.out.mono ?_; rintro e w2 ⟨rfl, hb⟩; have HB2 := Lib.hid hb; clear hb)
      | (go_at_call 87; refine (HT.out _ _ (HR.out.below HB2.out)).mono ?_; rintro e w' ⟨rfl, rfl⟩))
    go_ret2
    exact HQ.out _ _ ⟨rfl, HB2.out⟩
  · obtain ⟨r, t, hd, hle⟩ := pull_due (now := now) hc.may h.ok hc.am ha.1 (by omega)
    have HQ : Hid (∀ e w', (∃ v', e = .returned (.tuple #[v', vi 0]) ∧ Sat w (fiS v' (lessL (r :: t) amount) * emp) w') → PullOut l now amount w e w') := Lib.hid fun e w' hh => by
      rw [PullOut, if_neg hth, hd]
      exact hh
    have hk := ok_due (now := now) hc.may h.ok
    have hdl := due_len l now
    rw [hd] at HD hk hdl
    have hru := hk.head.1
    have hwr : IntKind.u64.wrap (r.amount - amount) = r.amount - amount := U64.wrap ⟨by omega, by have := hru.2; have := ha.1; omega⟩
    have htl : t.length ≤ 1000 := by simp at hdl; omega
    have hpos : (0 : Int) < ((t.length : Int) + 1) := by omega
    clear h hc ha hk hdl hd hle hru
    generalize thereV l now = tv at *
    go_enter Try.func103, Try.ntmps103
    go_wp2_with (first
      | (go_at_call 21; refine HM.out.mono ?_; rintro e w2 ⟨rfl, hb⟩; have HB2 := Lib.hid hb; clear hb)
      | (go_at_call 87; refine (HT.out _ _ (HR.out.below HB2.out)).mono ?_; rintro e w' ⟨rfl, rfl⟩))
    refine (HD.out _ HB2.out).mono ?_
    rintro e w3 ⟨v1, rfl, h⟩
    obtain ⟨g, so, scap, rfl⟩ := h.sloPos (by simp)
    have hcap := h.sloCap
    have c0 : w3.cell? ⟨g, so, none⟩ = some (vu r.amount) := h.sloCell 0 rfl
    have f0 := h.sloFree so
    have h2 := h.sloStore 0 (by simp) (vu (r.amount - amount))
    have e2 : (rflat (r :: t)).set 0 (vu (r.amount - amount)) = rflat (⟨r.amount - amount, r.at_⟩ :: t) := rfl
    rw [e2, Nat.add_zero] at h2
    have h2 : Sat w2 (fiS (.slice (some ⟨g, so, none⟩) (t.length + 1) scap) (⟨r.amount - amount, r.at_⟩ :: t) * emp) (w3.setCell ⟨g, so, none⟩ (vu (r.amount - amount))) := h2
    have d0 : (w3.setCell ⟨g, so, none⟩ (vu (r.amount - amount))).cell? ⟨g, so, none⟩ = some (vu (r.amount - amount)) := h2.sloCell 0 rfl
    have hc1' : t.length + 1 ≤ scap := by have := hcap.1; simpa using this
    have hc1 : ((t.length : Int) + 1) ≤ (scap : Int) := by omega
    simp only [List.length_cons] at *
    by_cases hz : r.amount - amount = 0
    · have hle : lessL (r :: t) amount = t := by rw [lessL_cons, if_pos hz]
      rw [hle] at HQ
      have hz2 : (r.amount - amount == 0) = true := by simp [hz]
      by_cases hcp : scap = 1
      · have HTl := Lib.hid (h2.sloTail so (.inl ⟨hcp, rfl⟩))
        obtain rfl : t = [] := List.eq_nil_of_length_eq_zero (by omega)
        subst hcp
        clear h h2 hle hz hcap
        go_wp2
        go_ret2
        exact HQ.out _ _ ⟨_, rfl, Sat.base HB2.out HTl.out⟩
      · have HTl := Lib.hid (h2.sloTail (so + 2) (.inr rfl))
        have hcp2 : (scap : Int) ≠ 1 := by omega
        have hcp3 : 1 < scap := by omega
        clear h h2 hle hz hcap
        go_wp2
        go_ret2
        exact HQ.out _ _ ⟨_, rfl, Sat.base HB2.out HTl.out⟩
    · have hle : lessL (r :: t) amount = ⟨r.amount - amount, r.at_⟩ :: t := by rw [lessL_cons, if_neg hz]
      rw [hle] at HQ
      have hz2 : (r.amount - amount == 0) = false := beq_eq_false_iff_ne.2 hz
      have H2 := Lib.hid h2
      clear h h2 hle hz hcap
      go_wp2
      go_ret2
      exact HQ.out _ _ ⟨_, rfl, Sat.base HB2.out H2.out⟩
end
end Go.Proofs.Ytknodagcmachiaa.Fi
