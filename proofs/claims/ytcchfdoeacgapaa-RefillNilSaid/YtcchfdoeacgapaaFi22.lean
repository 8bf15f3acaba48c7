/-
  The walk of RefillGives. No statement is proved here.
-/
import Derived.Test.YtcchfdoeacgapaaFi20
import Derived.Test.YtcchfdoeacgapaaFi21
namespace Go.Proofs.Ytcchfdoeacgapaa.Fi
open Go.RowKit
set_option linter.unusedVariables false

section
variable {l : List Rf} {now amount most : Int}
theorem nil_out {w w' : World} (h : Below w.heap.size w w') : Sat w (fiS (.slice none 0 0) [] * emp) w' := (Sat.after (Sat.start w) h).sloNil 44 2
structure GvGood (l La : List Rf) (now amount most : Int) : Prop where
  may : MayL La
  len : (La.length : Int) ≤ most
  pu : PuOk La amount
  th : ¬ thereV La now < amount
  less : lessL (dueL La now) amount = dueL l now
  mayl : MayL l
theorem give_len (l : List Rf) (now amount : Int) : (giveL l now amount).length ≤ l.length + 1 := by
  have h := due_len l now
  unfold giveL
  split
  · simp
  · generalize dueL l now = d at *
    cases d with
    | nil => simp
    | cons r t => simp at h ⊢; omega
theorem give_u (hok : OkL l) (hl : l.length ≤ 60) (ha : U64 amount) (hn : U64 now) : ∃ E La, OkL La ∧ La.length ≤ 1000 ∧
    (∀ w v, RdF w v l → Room v l.length → Calls Try.prog 35 #[v, vu now, vu amount, vi most] w fun e w' => ∃ v', e = .returned (.tuple #[v', vi E]) ∧ Sat w (fiS v' La * emp) w') ∧
    (∀ w v, RdF w v l → Calls Try.prog 36 #[v, vu now, vu amount, vi most] w fun e w' => ∃ v', e = .returned (.tuple #[v', vi E]) ∧ Sat w (fiS v' La * emp) w') ∧
    ((E = 0 ∧ GvGood l La now amount most) ∨ E ≠ 0) := by
  by_cases hc : GvOk l amount most
  · by_cases hov : 18446744073709551615 < tot l + amount
    · refine ⟨6, [], fun r hr => by simp at hr, by simp, fun w v h1 h2 => ?_, fun w v h1 => ?_, .inr (by omega)⟩
      · refine (give_ h1 h2 (by omega) ha hn hc).mono fun e w' hh => ?_
        rw [GiveOut, if_pos hov] at hh
        exact ⟨_, hh.1, nil_out hh.2⟩
      · refine (rgive_ h1 (by omega) ha hn hc).mono fun e w' hh => ?_
        rw [GiveOut, if_pos hov] at hh
        exact ⟨_, hh.1, nil_out hh.2⟩
    · by_cases hfu : thN l now = 0 ∧ (l.length : Int) = most
      · refine ⟨3, [], fun r hr => by simp at hr, by simp, fun w v h1 h2 => ?_, fun w v h1 => ?_, .inr (by omega)⟩
        · refine (give_ h1 h2 (by omega) ha hn hc).mono fun e w' hh => ?_
          rw [GiveOut, if_neg hov, if_pos hfu] at hh
          exact ⟨_, hh.1, nil_out hh.2⟩
        · refine (rgive_ h1 (by omega) ha hn hc).mono fun e w' hh => ?_
          rw [GiveOut, if_neg hov, if_pos hfu] at hh
          exact ⟨_, hh.1, nil_out hh.2⟩
      · obtain ⟨b1, b2, b3, b4, b5, b6, b7⟩ := give_law hc hok hn ha (by omega) (fun h1 h2 => hfu ⟨h1, h2⟩)
        have hlen := give_len l now amount
        refine ⟨0, giveL l now amount, b2, by omega, fun w v h1 h2 => ?_, fun w v h1 => ?_, .inl ⟨rfl, b1, b3, ⟨b1, hc.am⟩, ?_, by rw [b4]; exact b6, hc.may⟩⟩
        · refine (give_ h1 h2 (by omega) ha hn hc).mono fun e w' hh => ?_
          rw [GiveOut, if_neg hov, if_neg hfu] at hh
          exact hh
        · refine (rgive_ h1 (by omega) ha hn hc).mono fun e w' hh => ?_
          rw [GiveOut, if_neg hov, if_neg hfu] at hh
          exact hh
        · have h3 := thereV_eq now b2
          have h4 := (totTo_bd now b2).2
          have h5 := b1.fit
          rw [if_neg (by omega)] at h3
          omega
  · refine ⟨2, [], fun r hr => by simp at hr, by simp, fun w v h1 h2 => ?_, fun w v h1 => ?_, .inr (by omega)⟩
    · exact (give_arg h1 (by omega) ha hc).mono fun e w' hh => ⟨_, hh.1, nil_out hh.2⟩
    · exact (rgive_arg h1 (by omega) ha hc).mono fun e w' hh => ⟨_, hh.1, nil_out hh.2⟩
theorem pull_u (hok : OkL l) (hl : l.length ≤ 1000) (ha : U64 amount) : ∃ E Lc, OkL Lc ∧ Lc.length ≤ 1000 ∧
    (∀ w v, RdF w v l → Room v l.length → Calls Try.prog 37 #[v, vu now, vu amount] w fun e w' => ∃ v', e = .returned (.tuple #[v', vi E]) ∧ Sat w (fiS v' Lc * emp) w') ∧
    (∀ w v, RdF w v l → Calls Try.prog 38 #[v, vu now, vu amount] w fun e w' => ∃ v', e = .returned (.tuple #[v', vi E]) ∧ Sat w (fiS v' Lc * emp) w') := by
  by_cases hc : PuOk l amount
  · by_cases hth : thereV l now < amount
    · refine ⟨15, [], fun r hr => by simp at hr, by simp, fun w v h1 h2 => ?_, fun w v h1 => ?_⟩
      · refine (pull_ h1 h2 hl ha hc).mono fun e w' hh => ?_
        rw [PullOut, if_pos hth] at hh
        exact ⟨_, hh.1, nil_out hh.2⟩
      · refine (rpull_ h1 hl ha hc).mono fun e w' hh => ?_
        rw [PullOut, if_pos hth] at hh
        exact ⟨_, hh.1, nil_out hh.2⟩
    · obtain ⟨r, t, hd, hle⟩ := pull_due (now := now) hc.may hok hc.am ha.1 (by omega)
      have hm := may_due (now := now) hc.may hok
      have hk := ok_due (now := now) hc.may hok
      have hdl := due_len l now
      rw [hd] at hm hk hdl
      have ha1 := ha.1
      have hma := hc.am
      obtain ⟨a1, a2, a3, a4⟩ := less_may hm hk (k := amount) (by omega) hle
      refine ⟨0, lessL (dueL l now) amount, by rw [hd]; exact a2, by rw [hd]; omega, fun w v h1 h2 => ?_, fun w v h1 => ?_⟩
      · refine (pull_ h1 h2 hl ha hc).mono fun e w' hh => ?_
        rw [PullOut, if_neg hth] at hh
        exact hh
      · refine (rpull_ h1 hl ha hc).mono fun e w' hh => ?_
        rw [PullOut, if_neg hth] at hh
        exact hh
  · refine ⟨2, [], fun r hr => by simp at hr, by simp, fun w v h1 h2 => ?_, fun w v h1 => ?_⟩
    · exact (pull_arg h1 hl hc).mono fun e w' hh => ⟨_, hh.1, nil_out hh.2⟩
    · exact (rpull_arg h1 hl hc).mono fun e w' hh => ⟨_, hh.1, nil_out hh.2⟩
end

theorem gives_early (w0 : World) (ao : Option Addr) (len cap : Nat) (now amount most : Int) (h : 60 < len) :
    Calls Try.prog 8 #[.slice ao len cap, vu now, vu amount, vi most] w0 (TrueBelow w0) := by
  have h' : (60 : Int) < (len : Int) := by omega
  go_enter Try.func8, Try.ntmps8
  go_wp2_with (go_at_call 20; refine (knownF w0).mono ?_; rintro e w2 ⟨rfl, hS⟩)
  go_ret
  exact ⟨rfl, hS⟩
set_option maxRecDepth 100000 in
set_option maxHeartbeats 4000000 in
theorem gives_core (w0 : World) (l : List Rf) (v : Value) (h : RdF w0 v l) (hl : l.length ≤ 60) (now amount most : Int) (hn : U64 now) (ha : U64 amount) :
    Calls Try.prog 8 #[v, vu now, vu amount, vi most] w0 (TrueBelow w0) := by
  obtain ⟨ao, cap, rfl⟩ := h.rd.len
  have hl' : ¬ (60 : Int) < (l.length : Int) := by omega
  obtain ⟨E, La, hLa, hLal, hG, hRG, hE⟩ := give_u (most := most) h.ok hl ha hn
  obtain ⟨E2, Lc, hLc, hLcl, hP, hRP⟩ := pull_u (now := now) h.ok (by omega) ha
  have HR := Lib.hid h
  have HOL : Hid (OkL l) := Lib.hid h.ok
  have HLA := Lib.hid hLa
  have HLC := Lib.hid hLc
  have HG := Lib.hid hG
  have HRG := Lib.hid hRG
  have HP := Lib.hid hP
  have HRP := Lib.hid hRP
  rcases hE with ⟨rfl, hgo⟩ | hE
  · have HMA := Lib.hid hgo.may
    have hla : ¬ most < (La.length : Int) := by have := hgo.len; omega
    have HP2 : Hid (∀ w v, RdF w v La → Room v La.length → Calls Try.prog 37 #[v, vu now, vu amount] w fun e w' => ∃ v', e = .returned (.tuple #[v', vi 0]) ∧ Sat w (fiS v' (dueL l now) * emp) w') := Lib.hid fun w v h1 h2 => by
      refine (pull_ h1 h2 hLal ha hgo.pu).mono fun e w' hh => ?_
      rw [PullOut, if_neg hgo.th, hgo.less] at hh
      exact hh
    have HD : Hid (∀ w v, RdF w v l → Calls Try.prog 34 #[v, vu now] w fun e w2 => ∃ v', e = .returned v' ∧ Sat w (fiS v' (dueL l now) * emp) w2) := Lib.hid fun w v h1 => rdue now h1 (by omega) hgo.mayl
    have HOD : Hid (OkL (dueL l now)) := Lib.hid (ok_due hgo.mayl h.ok)
    have HM : Hid (∀ w v, RdF w v La → Calls Try.prog 19 #[v] w fun e w' => e = .returned (.bool true) ∧ Below w.heap.size w w') := Lib.hid fun w v h1 => by
      have := rmay La v w h1 (by omega)
      rw [mayB_yes hgo.may] at this
      exact this
    have hdl := due_len l now
    generalize dueL l now = d at *
    clear h hLa hLc hG hRG hP hRP hgo hn ha
    go_enter Try.func8, Try.ntmps8
    go_wp2_with (first
      | (go_at_call 22; refine (own_ HR.out (by omega)).mono ?_; rintro e w1 ⟨vm, rfl, hS⟩; have H1 := Lib.hid hS; clear hS)
      | (go_at_call 35; refine (HG.out _ _ (Sat.fiR H1.out HOL.out) (Sat.room H1.out)).mono ?_; rintro e w2 ⟨va, rfl, hS⟩; have H2 := Lib.hid (Sat.link H1.out hS); clear hS; have e2 := H2.out.sloForm; obtain ⟨ao2, cap2, e2'⟩ := e2; subst e2')
      | (go_at_call 36; refine (HRG.out _ _ (HR.out.below H2.out.below)).mono ?_; rintro e w3 ⟨vb, rfl, hS⟩; have H3 := Lib.hid (Sat.link H2.out hS); clear hS)
      | (go_at_call 37; (with_reducible refine (HP.out _ _ (Sat.fiR H3.out.pull3 HOL.out) (Sat.room H3.out.pull3)).mono ?_); rintro e w4 ⟨vc, rfl, hS⟩; have H4 := Lib.hid (Sat.link H3.out hS); clear hS)
      | (go_at_call 38; refine (HRP.out _ _ (HR.out.below H4.out.below)).mono ?_; rintro e w5 ⟨vd, rfl, hS⟩; have H5 := Lib.hid (Sat.link H4.out hS); clear hS)
      | (go_at_call 26; (with_reducible refine (same_ La _ _ _ (Sat.fiR H5.out.pull4 HLA.out) (Sat.fiR H5.out.pull3 HLA.out) (by omega)).mono ?_); rintro e w6 ⟨rfl, hb⟩; have H6 := Lib.hid (Sat.after H5.out hb); clear hb)
      | (go_at_call 26; (with_reducible refine (same_ Lc _ _ _ (Sat.fiR H6.out.pull2 HLC.out) (Sat.fiR H6.out HLC.out) (by omega)).mono ?_); rintro e w7 ⟨rfl, hb⟩; have H7 := Lib.hid (Sat.dropL (Sat.dropL (Sat.dropL (Sat.after H6.out hb)))); clear hb)
      | (go_at_call 26; (with_reducible refine (same_ l _ _ _ (Sat.fiR H7.out.pull2 HOL.out) (HR.out.below H7.out.below) (by omega)).mono ?_); rintro e w8 ⟨rfl, hb⟩; have H8 := Lib.hid (Sat.after H7.out hb); clear hb)
      | (go_at_call 37; (with_reducible refine (HP2.out _ _ (Sat.fiR H8.out HLA.out) (Sat.room H8.out)).mono ?_); rintro e w9 ⟨vk, rfl, hS⟩; have H9 := Lib.hid (Sat.link H8.out hS); clear hS)
      | (go_at_call 34; refine (HD.out _ _ (HR.out.below H9.out.below)).mono ?_; rintro e w10 ⟨vr, rfl, hS⟩; have H10 := Lib.hid (Sat.link H9.out hS); clear hS)
      | (go_at_call 26; (with_reducible refine (same_ d _ _ _ (Sat.fiR H10.out.pull2 HOD.out) (Sat.fiR H10.out HOD.out) (by omega)).mono ?_); rintro e w11 ⟨rfl, hb⟩; have H11 := Lib.hid (Sat.after H10.out hb); clear hb)
      | (go_at_call 19; refine (HM.out _ _ (Sat.fiR H11.out.pull3 HLA.out)).mono ?_; rintro e w12 ⟨rfl, hb⟩; have H12 := Lib.hid (Sat.after H11.out hb); clear hb)
      | (go_at_call 20; refine (knownF _).mono ?_; rintro e w13 ⟨rfl, hb⟩; have H13 := Lib.hid (Sat.after H12.out hb); clear hb))
    go_ret
    exact ⟨rfl, H13.out.below⟩
  · have hE2 : (E == 0) = false := beq_eq_false_iff_ne.2 hE
    clear h hLa hLc hG hRG hP hRP hn ha hE
    go_enter Try.func8, Try.ntmps8
    go_wp2_with (first
      | (go_at_call 22; refine (own_ HR.out (by omega)).mono ?_; rintro e w1 ⟨vm, rfl, hS⟩; have H1 := Lib.hid hS; clear hS)
      | (go_at_call 35; refine (HG.out _ _ (Sat.fiR H1.out HOL.out) (Sat.room H1.out)).mono ?_; rintro e w2 ⟨va, rfl, hS⟩; have H2 := Lib.hid (Sat.link H1.out hS); clear hS; have e2 := H2.out.sloForm; obtain ⟨ao2, cap2, e2'⟩ := e2; subst e2')
      | (go_at_call 36; refine (HRG.out _ _ (HR.out.below H2.out.below)).mono ?_; rintro e w3 ⟨vb, rfl, hS⟩; have H3 := Lib.hid (Sat.link H2.out hS); clear hS)
      | (go_at_call 37; (with_reducible refine (HP.out _ _ (Sat.fiR H3.out.pull3 HOL.out) (Sat.room H3.out.pull3)).mono ?_); rintro e w4 ⟨vc, rfl, hS⟩; have H4 := Lib.hid (Sat.link H3.out hS); clear hS)
      | (go_at_call 38; refine (HRP.out _ _ (HR.out.below H4.out.below)).mono ?_; rintro e w5 ⟨vd, rfl, hS⟩; have H5 := Lib.hid (Sat.link H4.out hS); clear hS)
      | (go_at_call 26; (with_reducible refine (same_ La _ _ _ (Sat.fiR H5.out.pull4 HLA.out) (Sat.fiR H5.out.pull3 HLA.out) (by omega)).mono ?_); rintro e w6 ⟨rfl, hb⟩; have H6 := Lib.hid (Sat.after H5.out hb); clear hb)
      | (go_at_call 26; (with_reducible refine (same_ Lc _ _ _ (Sat.fiR H6.out.pull2 HLC.out) (Sat.fiR H6.out HLC.out) (by omega)).mono ?_); rintro e w7 ⟨rfl, hb⟩; have H7 := Lib.hid (Sat.dropL (Sat.dropL (Sat.dropL (Sat.after H6.out hb)))); clear hb)
      | (go_at_call 26; (with_reducible refine (same_ l _ _ _ (Sat.fiR H7.out.pull2 HOL.out) (HR.out.below H7.out.below) (by omega)).mono ?_); rintro e w8 ⟨rfl, hb⟩; have H8 := Lib.hid (Sat.after H7.out hb); clear hb)
      | (go_at_call 20; refine (knownF _).mono ?_; rintro e w13 ⟨rfl, hb⟩; have H13 := Lib.hid (Sat.after H8.out hb); clear hb))
    go_ret
    exact ⟨rfl, H13.out.below⟩
theorem gives_row (w0 : World) (v : Value) (n : Nat) (A : Nat → Int) (h : ArgK w0 2 (fun _ => .u64) v n A) (now : Int) (wn : (Lit.int .u64 now).wf = true) (amount : Int) (wa : (Lit.int .u64 amount).wf = true) (most : Int) (wm : (Lit.int .i64 most).wf = true) :
    Calls Try.prog 8 #[v, vu now, vu amount, vi most] w0 (TrueBelow w0) := by
  obtain ⟨l, hl, hR⟩ := arg_fi h
  by_cases hlen : 60 < l.length
  · obtain ⟨ao, cap, rfl⟩ := hR.rd.len
    exact gives_early w0 ao l.length cap now amount most hlen
  · exact gives_core w0 l v hR (by omega) now amount most (wf_U64 wn) (wf_U64 wa)
end Go.Proofs.Ytcchfdoeacgapaa.Fi
