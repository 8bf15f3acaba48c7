/-
  The walk of RefillLooks. No statement is proved here.
-/
import Derived.Test.YtcchfdoeacgapaaFi12
namespace Go.Proofs.Ytcchfdoeacgapaa.Fi
open Go.RowKit
set_option linter.unusedVariables false

theorem looks_early (w0 : World) (ao : Option Addr) (len cap : Nat) (now budget : Int) (h : 60 < len) :
    Calls Try.prog 7 #[.slice ao len cap, vu now, vu budget] w0 (TrueBelow w0) := by
  have h' : (60 : Int) < (len : Int) := by omega
  go_enter Try.func7, Try.ntmps7
  go_wp2_with (go_at_call 20; refine (knownF w0).mono ?_; rintro e w2 ⟨rfl, hS⟩)
  go_ret
  exact ⟨rfl, hS⟩
theorem lit1 (w : World) (a b : Int) (ha : U64 a) (hb : U64 b) : RdF (w.alloc (.cells #[vu a, vu b] 44)) (.slice (some ⟨w.heap.size, 0, none⟩) 1 1) [⟨a, b⟩] :=
  ⟨Rd.two' w _ _ _ rfl, ok1 a b ha hb⟩

section
variable {l : List Rf} {now : Int}
theorem c_sum (hl : l.length ≤ 1000) : ∃ x b, (∀ w v, RdF w v l → Calls Try.prog 27 #[v] w fun e w' => e = .returned (.tuple #[vu x, .bool b]) ∧ Below w.heap.size w w') ∧ (∀ w v, RdF w v l → Calls Try.prog 21 #[v] w fun e w' => e = .returned (.tuple #[vu x, .bool b]) ∧ w = w') := by
  obtain ⟨x, b, hv, -⟩ := addV_form (sumP l)
  refine ⟨x, b, fun w v h => ?_, fun w v h => ?_⟩
  · have := fsum_ l v w h (by omega)
    rw [hv] at this
    exact this
  · have := rsum l v w h (by omega)
    rw [hv] at this
    exact this
theorem c_next (hl : l.length ≤ 1000) (now : Int) : ∃ x b, (∀ w v, RdF w v l → Calls Try.prog 29 #[v, vu now] w fun e w' => e = .returned (.tuple #[vu x, .bool b]) ∧ Below w.heap.size w w') ∧ (∀ w v, RdF w v l → Calls Try.prog 31 #[v, vu now] w fun e w' => e = .returned (.tuple #[vu x, .bool b]) ∧ Below w.heap.size w w') := by
  obtain ⟨x, b, hv, -⟩ := addV_form (nextP l now)
  refine ⟨x, b, fun w v h => ?_, fun w v h => ?_⟩
  · have := next_ l now v w h (by omega)
    rw [hv] at this
    exact this
  · have := rnext l now v w h (by omega)
    rw [hv] at this
    exact this
theorem c_there (hl : l.length ≤ 1000) (now : Int) : ∃ x, (∀ w v, RdF w v l → Calls Try.prog 30 #[v, vu now] w fun e w' => e = .returned (vu x) ∧ Below w.heap.size w w') ∧ (∀ w v, RdF w v l → Calls Try.prog 24 #[v, vu now] w fun e w' => e = .returned (vu x) ∧ w = w') :=
  ⟨thereV l now, fun w v h => there_ l now v w h (by omega), fun w v h => rthere l now v w h (by omega)⟩
theorem c_may (hl : l.length ≤ 1000) {b : Bool} (hb : mayB l = b) : (∀ w v, RdF w v l → Calls Try.prog 32 #[v] w fun e w' => e = .returned (.bool b) ∧ Below w.heap.size w w') ∧ (∀ w v, RdF w v l → Calls Try.prog 19 #[v] w fun e w' => e = .returned (.bool b) ∧ Below w.heap.size w w') := by
  subst hb
  exact ⟨fun w v h => may_ l v w h (by omega), fun w v h => rmay l v w h (by omega)⟩
end

set_option maxRecDepth 100000 in
set_option maxHeartbeats 4000000 in
theorem looks_no (w0 : World) (l : List Rf) (v : Value) (h : RdF w0 v l) (hl : l.length ≤ 60) (now budget : Int) (hn : U64 now) (hb : U64 budget) (hm : ¬ MayL l) :
    Calls Try.prog 7 #[v, vu now, vu budget] w0 (TrueBelow w0) := by
  obtain ⟨ao, cap, rfl⟩ := h.rd.len
  have hl' : ¬ (60 : Int) < (l.length : Int) := by omega
  obtain ⟨sx, sb, hs1, hs2⟩ := c_sum (l := l) (by omega)
  obtain ⟨nx, nb, hn1, hn2⟩ := c_next (l := l) (by omega) now
  obtain ⟨tx, ht1, ht2⟩ := c_there (l := l) (by omega) now
  obtain ⟨hm1, hm2⟩ := c_may (l := l) (by omega) (mayB_no hm)
  have HS1 := Lib.hid hs1
  have HS2 := Lib.hid hs2
  have HN1 := Lib.hid hn1
  have HN2 := Lib.hid hn2
  have HT1 := Lib.hid ht1
  have HT2 := Lib.hid ht2
  have HM1 := Lib.hid hm1
  have HM2 := Lib.hid hm2
  have HR := Lib.hid h
  have HOL : Hid (OkL l) := Lib.hid h.ok
  have HD : Hid (∀ w v, RdF w v l → Calls Try.prog 33 #[v, vu now] w fun e w' => e = .returned (.slice none 0 0) ∧ Below w.heap.size w w') := Lib.hid fun w v h => due_no now h (by omega) hm
  clear h hs1 hs2 hn1 hn2 ht1 ht2 hm1 hm2 hm hn hb
  go_enter Try.func7, Try.ntmps7
  go_wp2_with (first
    | (go_at_call 22; refine (own_ HR.out (by omega)).mono ?_; rintro e w1 ⟨vm, rfl, hS⟩; have H1 := Lib.hid hS; clear hS)
    | (go_at_call 27; refine (HS1.out _ _ (Sat.fiR H1.out HOL.out)).mono ?_; rintro e w2 ⟨rfl, hb⟩; have H2 := Lib.hid (Sat.after H1.out hb); clear hb)
    | (go_at_call 21; refine (HS2.out _ _ (HR.out.below H2.out.below)).mono ?_; rintro e w' ⟨rfl, rfl⟩)
    | (go_at_call 29; refine (HN1.out _ _ (Sat.fiR H2.out HOL.out)).mono ?_; rintro e w3 ⟨rfl, hb⟩; have H3 := Lib.hid (Sat.after H2.out hb); clear hb)
    | (go_at_call 31; refine (HN2.out _ _ (HR.out.below H3.out.below)).mono ?_; rintro e w4 ⟨rfl, hb⟩; have H4 := Lib.hid (Sat.after H3.out hb); clear hb)
    | (go_at_call 32; refine (HM1.out _ _ (Sat.fiR H4.out HOL.out)).mono ?_; rintro e w5 ⟨rfl, hb⟩; have H5 := Lib.hid (Sat.after H4.out hb); clear hb)
    | (go_at_call 19; (with_reducible refine (HM2.out _ _ (HR.out.below H8.out.below)).mono ?_); rintro e w9 ⟨rfl, hb⟩; have H9 := Lib.hid (Sat.after H8.out hb); clear hb)
    | (go_at_call 19; (with_reducible refine (HM2.out _ _ (HR.out.below H5.out.below)).mono ?_); rintro e w6 ⟨rfl, hb⟩; have H6 := Lib.hid (Sat.after H5.out hb); clear hb)
    | (go_at_call 30; refine (HT1.out _ _ (Sat.fiR H6.out HOL.out)).mono ?_; rintro e w7 ⟨rfl, hb⟩; have H7 := Lib.hid (Sat.after H6.out hb); clear hb)
    | (go_at_call 24; refine (HT2.out _ _ (HR.out.below H7.out.below)).mono ?_; rintro e w' ⟨rfl, rfl⟩)
    | (go_at_call 33; refine (HD.out _ _ (Sat.fiR H7.out HOL.out)).mono ?_; rintro e w8 ⟨rfl, hb⟩; have H8 := Lib.hid (Sat.after H7.out hb); clear hb)
    | (go_at_call 20; refine (knownF _).mono ?_; rintro e w10 ⟨rfl, hb⟩; have H10 := Lib.hid (Sat.after H9.out hb); clear hb))
  go_ret
  exact ⟨rfl, H10.out.below⟩

set_option maxRecDepth 100000 in
set_option maxHeartbeats 4000000 in
theorem looks_zero (w0 : World) (l : List Rf) (v : Value) (h : RdF w0 v l) (hl : l.length ≤ 60) (now : Int) (hn : U64 now) (hm : MayL l) :
    Calls Try.prog 7 #[v, vu now, vu 0] w0 (TrueBelow w0) := by
  obtain ⟨ao, cap, rfl⟩ := h.rd.len
  have hl' : ¬ (60 : Int) < (l.length : Int) := by omega
  obtain ⟨sx, sb, hs1, hs2⟩ := c_sum (l := l) (by omega)
  obtain ⟨nx, nb, hn1, hn2⟩ := c_next (l := l) (by omega) now
  obtain ⟨tx, ht1, ht2⟩ := c_there (l := l) (by omega) now
  obtain ⟨hm1, hm2⟩ := c_may (l := l) (by omega) (mayB_yes hm)
  have HS1 := Lib.hid hs1
  have HS2 := Lib.hid hs2
  have HN1 := Lib.hid hn1
  have HN2 := Lib.hid hn2
  have HT1 := Lib.hid ht1
  have HT2 := Lib.hid ht2
  have HM1 := Lib.hid hm1
  have HM2 := Lib.hid hm2
  have HR := Lib.hid h
  have HOL : Hid (OkL l) := Lib.hid h.ok
  have HD : Hid (∀ w v, RdF w v l → Room v l.length → Calls Try.prog 33 #[v, vu now] w fun e w' => ∃ v', e = .returned v' ∧ Sat w (fiS v' (dueL l now) * emp) w') := Lib.hid fun w v h h2 => due_yes now h h2 (by omega) hm
  have HDR : Hid (∀ w v, RdF w v l → Calls Try.prog 34 #[v, vu now] w fun e w' => ∃ v', e = .returned v' ∧ Sat w (fiS v' (dueL l now) * emp) w') := Lib.hid fun w v h => rdue now h (by omega) hm
  have HOD : Hid (OkL (dueL l now)) := Lib.hid (ok_due hm h.ok)
  have hdl := due_len l now
  generalize dueL l now = d at *
  have hdl2 : d.length ≤ 60 := by omega
  clear h hs1 hs2 hn1 hn2 ht1 ht2 hm1 hm2 hm hn
  go_enter Try.func7, Try.ntmps7
  go_wp2_with (first
    | (go_at_call 22; refine (own_ HR.out (by omega)).mono ?_; rintro e w1 ⟨vm, rfl, hS⟩; have H1 := Lib.hid hS; clear hS)
    | (go_at_call 27; refine (HS1.out _ _ (Sat.fiR H1.out HOL.out)).mono ?_; rintro e w2 ⟨rfl, hb⟩; have H2 := Lib.hid (Sat.after H1.out hb); clear hb)
    | (go_at_call 21; refine (HS2.out _ _ (HR.out.below H2.out.below)).mono ?_; rintro e w' ⟨rfl, rfl⟩)
    | (go_at_call 29; refine (HN1.out _ _ (Sat.fiR H2.out HOL.out)).mono ?_; rintro e w3 ⟨rfl, hb⟩; have H3 := Lib.hid (Sat.after H2.out hb); clear hb)
    | (go_at_call 31; refine (HN2.out _ _ (HR.out.below H3.out.below)).mono ?_; rintro e w4 ⟨rfl, hb⟩; have H4 := Lib.hid (Sat.after H3.out hb); clear hb)
    | (go_at_call 32; refine (HM1.out _ _ (Sat.fiR H4.out HOL.out)).mono ?_; rintro e w5 ⟨rfl, hb⟩; have H5 := Lib.hid (Sat.after H4.out hb); clear hb)
    | (go_at_call 19; (with_reducible refine (HM2.out _ _ (HR.out.below H8.out.below)).mono ?_); rintro e w9 ⟨rfl, hb⟩; have H9 := Lib.hid (Sat.after H8.out hb); clear hb)
    | (go_at_call 19; (with_reducible refine (HM2.out _ _ (HR.out.below H5.out.below)).mono ?_); rintro e w6 ⟨rfl, hb⟩; have H6 := Lib.hid (Sat.after H5.out hb); clear hb)
    | (go_at_call 30; refine (HT1.out _ _ (Sat.fiR H6.out HOL.out)).mono ?_; rintro e w7 ⟨rfl, hb⟩; have H7 := Lib.hid (Sat.after H6.out hb); clear hb)
    | (go_at_call 24; refine (HT2.out _ _ (HR.out.below H7.out.below)).mono ?_; rintro e w' ⟨rfl, rfl⟩)
    | (go_at_call 33; refine (HD.out _ _ (Sat.fiR H7.out HOL.out) (Sat.room H7.out)).mono ?_; rintro e w8 ⟨vd, rfl, hS⟩; have H8 := Lib.hid (Sat.link H7.out hS); clear hS)
    | (go_at_call 28; refine (new_zero now _).mono ?_; rintro e w' ⟨rfl, rfl⟩)
    | (go_at_call 34; refine (HDR.out _ _ (HR.out.below H9.out.below)).mono ?_; rintro e w10 ⟨vr, rfl, hS⟩; have H10 := Lib.hid (Sat.link H9.out hS); clear hS)
    | (go_at_call 26; refine (same_ d _ _ _ (Sat.fiR H10.out.pull2 HOD.out) (Sat.fiR H10.out HOD.out) (by omega)).mono ?_; rintro e w11 ⟨rfl, hb⟩; have H11 := Lib.hid (Sat.pull2 (Sat.after H10.out hb)); clear hb; have e7 := H11.out.sloForm; obtain ⟨ao7, cap7, e7'⟩ := e7; subst e7'))
  go_loopw [18] (fun i wr => ∃ (k : Nat) (c' : List Rf), k ≤ d.length ∧ i = vi k ∧ c'.length = d.length ∧ Sat w0 (slo 44 2 (.slice ao7 d.length cap7) d.length (rflat c') * (fiS vr d * (fiS vm l * emp))) wr) (fun i _ => d.length - (intOf i).toNat)
  case atStart => exact ⟨0, d, Nat.zero_le _, rfl, rfl, H11.out⟩
  case round =>
    obtain ⟨k, c', hk, rfl, hcl, hS⟩ := hrel
    by_cases hlt : k < d.length
    · obtain ⟨x, hx⟩ : ∃ x, c'[k]? = some x := ⟨c'[k]'(by omega), List.getElem?_eq_getElem _⟩
      obtain ⟨g, so, cap', hv⟩ := hS.sloPos (by omega)
      cases hv
      obtain ⟨t0, t1, tf, -, tt⟩ := fi_turnN hS hcl hx
      have tf1 := tf (so + k * 2)
      have hki : (k : Int) < (d.length : Int) := by omega
      have HCL := Lib.hid (show (c'.set k ⟨IntKind.u64.wrap (x.amount + 1), x.at_⟩).length = d.length by rw [List.length_set]; exact hcl)
      have HT := Lib.hid (tt (IntKind.u64.wrap (x.amount + 1)))
      clear tt tf hS hx hcl
      generalize hy : IntKind.u64.wrap (x.amount + 1) = y at *
      go_wp2
      go_roundw
      case rel => exact ⟨k + 1, _, by omega, by go_num, HCL.out, HT.out⟩
      case measure => (simp [intOf]; try omega)
    · obtain rfl : k = d.length := by omega
      have HS := Lib.hid hS
      clear hS
      go_wp2_with (first
        | (go_at_call 26; refine (same_ l _ _ _ (Sat.fiR HS.out.pull3 HOL.out) (HR.out.below HS.out.below) (by omega)).mono ?_; rintro e w12 ⟨rfl, hb⟩; have H12 := Lib.hid (Sat.after HS.out hb); clear hb)
        | (go_at_call 20; refine (knownF _).mono ?_; rintro e w13 ⟨rfl, hb⟩; have H13 := Lib.hid (Sat.after H12.out hb); clear hb))
      go_ret
      exact ⟨rfl, H13.out.below⟩

set_option maxRecDepth 100000 in
set_option maxHeartbeats 4000000 in
theorem looks_pos (w0 : World) (l : List Rf) (v : Value) (h : RdF w0 v l) (hl : l.length ≤ 60) (now budget : Int) (hn : U64 now) (hb : U64 budget) (hbz : budget ≠ 0) (hm : MayL l) :
    Calls Try.prog 7 #[v, vu now, vu budget] w0 (TrueBelow w0) := by
  obtain ⟨ao, cap, rfl⟩ := h.rd.len
  have hl' : ¬ (60 : Int) < (l.length : Int) := by omega
  obtain ⟨sx, sb, hs1, hs2⟩ := c_sum (l := l) (by omega)
  obtain ⟨nx, nb, hn1, hn2⟩ := c_next (l := l) (by omega) now
  obtain ⟨tx, ht1, ht2⟩ := c_there (l := l) (by omega) now
  obtain ⟨hm1, hm2⟩ := c_may (l := l) (by omega) (mayB_yes hm)
  have HS1 := Lib.hid hs1
  have HS2 := Lib.hid hs2
  have HN1 := Lib.hid hn1
  have HN2 := Lib.hid hn2
  have HT1 := Lib.hid ht1
  have HT2 := Lib.hid ht2
  have HM1 := Lib.hid hm1
  have HM2 := Lib.hid hm2
  have HR := Lib.hid h
  have HOL : Hid (OkL l) := Lib.hid h.ok
  have HD : Hid (∀ w v, RdF w v l → Room v l.length → Calls Try.prog 33 #[v, vu now] w fun e w' => ∃ v', e = .returned v' ∧ Sat w (fiS v' (dueL l now) * emp) w') := Lib.hid fun w v h h2 => due_yes now h h2 (by omega) hm
  have HDR : Hid (∀ w v, RdF w v l → Calls Try.prog 34 #[v, vu now] w fun e w' => ∃ v', e = .returned v' ∧ Sat w (fiS v' (dueL l now) * emp) w') := Lib.hid fun w v h => rdue now h (by omega) hm
  have HOD : Hid (OkL (dueL l now)) := Lib.hid (ok_due hm h.ok)
  have hdl := due_len l now
  generalize dueL l now = d at *
  have hdl2 : d.length ≤ 60 := by omega
  have HBU := Lib.hid hb
  have HNU := Lib.hid hn
  have HO1 := Lib.hid (ok1 budget now hb hn)
  have hbe : (budget == 0) = false := beq_eq_false_iff_ne.2 hbz
  have hbp : 0 < budget := by unfold U64 at hb; omega
  have hbp2 : decide (0 < budget) = true := decide_eq_true hbp
  clear hb
  clear h hs1 hs2 hn1 hn2 ht1 ht2 hm1 hm2 hm hn
  go_enter Try.func7, Try.ntmps7
  go_wp2_with (first
    | (go_at_call 22; refine (own_ HR.out (by omega)).mono ?_; rintro e w1 ⟨vm, rfl, hS⟩; have H1 := Lib.hid hS; clear hS)
    | (go_at_call 27; refine (HS1.out _ _ (Sat.fiR H1.out HOL.out)).mono ?_; rintro e w2 ⟨rfl, hb⟩; have H2 := Lib.hid (Sat.after H1.out hb); clear hb)
    | (go_at_call 21; refine (HS2.out _ _ (HR.out.below H2.out.below)).mono ?_; rintro e w' ⟨rfl, rfl⟩)
    | (go_at_call 29; refine (HN1.out _ _ (Sat.fiR H2.out HOL.out)).mono ?_; rintro e w3 ⟨rfl, hb⟩; have H3 := Lib.hid (Sat.after H2.out hb); clear hb)
    | (go_at_call 31; refine (HN2.out _ _ (HR.out.below H3.out.below)).mono ?_; rintro e w4 ⟨rfl, hb⟩; have H4 := Lib.hid (Sat.after H3.out hb); clear hb)
    | (go_at_call 32; refine (HM1.out _ _ (Sat.fiR H4.out HOL.out)).mono ?_; rintro e w5 ⟨rfl, hb⟩; have H5 := Lib.hid (Sat.after H4.out hb); clear hb)
    | (go_at_call 19; (with_reducible refine (HM2.out _ _ (HR.out.below H8.out.below)).mono ?_); rintro e w9 ⟨rfl, hb⟩; have H9 := Lib.hid (Sat.after H8.out hb); clear hb)
    | (go_at_call 19; (with_reducible refine (HM2.out _ _ (HR.out.below H5.out.below)).mono ?_); rintro e w6 ⟨rfl, hb⟩; have H6 := Lib.hid (Sat.after H5.out hb); clear hb)
    | (go_at_call 30; refine (HT1.out _ _ (Sat.fiR H6.out HOL.out)).mono ?_; rintro e w7 ⟨rfl, hb⟩; have H7 := Lib.hid (Sat.after H6.out hb); clear hb)
    | (go_at_call 24; refine (HT2.out _ _ (HR.out.below H7.out.below)).mono ?_; rintro e w' ⟨rfl, rfl⟩)
    | (go_at_call 33; refine (HD.out _ _ (Sat.fiR H7.out HOL.out) (Sat.room H7.out)).mono ?_; rintro e w8 ⟨vd, rfl, hS⟩; have H8 := Lib.hid (Sat.link H7.out hS); clear hS)
    | (go_at_call 28; refine (new_pos budget now hbz _).mono ?_; rintro e wn ⟨vn, rfl, hS⟩; have HN9 := Lib.hid (Sat.link H9.out hS); clear hS)
    | (go_at_call 26; (with_reducible refine (same_ [⟨budget, now⟩] _ _ _ (Sat.fiR (HN9.out.alloc' _) HO1.out) (lit1 _ _ _ HBU.out HNU.out) (by simp)).mono ?_); rintro e w9b ⟨rfl, hb⟩; have H9b := Lib.hid (Sat.dropL (Sat.after (HN9.out.alloc' _) hb)); clear hb)
    | (go_at_call 34; refine (HDR.out _ _ (HR.out.below H9b.out.below)).mono ?_; rintro e w10 ⟨vr, rfl, hS⟩; have H10 := Lib.hid (Sat.link H9b.out hS); clear hS)
    | (go_at_call 26; (with_reducible refine (same_ d _ _ _ (Sat.fiR H10.out.pull2 HOD.out) (Sat.fiR H10.out HOD.out) (by omega)).mono ?_); rintro e w11 ⟨rfl, hb⟩; have H11 := Lib.hid (Sat.pull2 (Sat.after H10.out hb)); clear hb; have e7 := H11.out.sloForm; obtain ⟨ao7, cap7, e7'⟩ := e7; subst e7'))
  go_loopw [18] (fun i wr => ∃ (k : Nat) (c' : List Rf), k ≤ d.length ∧ i = vi k ∧ c'.length = d.length ∧ Sat w0 (slo 44 2 (.slice ao7 d.length cap7) d.length (rflat c') * (fiS vr d * (fiS vm l * emp))) wr) (fun i _ => d.length - (intOf i).toNat)
  case atStart => exact ⟨0, d, Nat.zero_le _, rfl, rfl, H11.out⟩
  case round =>
    obtain ⟨k, c', hk, rfl, hcl, hS⟩ := hrel
    by_cases hlt : k < d.length
    · obtain ⟨x, hx⟩ : ∃ x, c'[k]? = some x := ⟨c'[k]'(by omega), List.getElem?_eq_getElem _⟩
      obtain ⟨g, so, cap', hv⟩ := hS.sloPos (by omega)
      cases hv
      obtain ⟨t0, t1, tf, -, tt⟩ := fi_turnN hS hcl hx
      have tf1 := tf (so + k * 2)
      have hki : (k : Int) < (d.length : Int) := by omega
      have HCL := Lib.hid (show (c'.set k ⟨IntKind.u64.wrap (x.amount + 1), x.at_⟩).length = d.length by rw [List.length_set]; exact hcl)
      have HT := Lib.hid (tt (IntKind.u64.wrap (x.amount + 1)))
      clear tt tf hS hx hcl
      generalize hy : IntKind.u64.wrap (x.amount + 1) = y at *
      go_wp2
      go_roundw
      case rel => exact ⟨k + 1, _, by omega, by go_num, HCL.out, HT.out⟩
      case measure => (simp [intOf]; try omega)
    · obtain rfl : k = d.length := by omega
      have HS := Lib.hid hS
      clear hS
      go_wp2_with (first
        | (go_at_call 26; refine (same_ l _ _ _ (Sat.fiR HS.out.pull3 HOL.out) (HR.out.below HS.out.below) (by omega)).mono ?_; rintro e w12 ⟨rfl, hb⟩; have H12 := Lib.hid (Sat.after HS.out hb); clear hb)
        | (go_at_call 20; refine (knownF _).mono ?_; rintro e w13 ⟨rfl, hb⟩; have H13 := Lib.hid (Sat.after H12.out hb); clear hb))
      go_ret
      exact ⟨rfl, H13.out.below⟩

theorem looks_row (w0 : World) (v : Value) (n : Nat) (A : Nat → Int) (h : ArgK w0 2 (fun _ => .u64) v n A) (now : Int) (wn : (Lit.int .u64 now).wf = true) (budget : Int) (wb : (Lit.int .u64 budget).wf = true) :
    Calls Try.prog 7 #[v, vu now, vu budget] w0 (TrueBelow w0) := by
  obtain ⟨l, hl, hR⟩ := arg_fi h
  by_cases hlen : 60 < l.length
  · obtain ⟨ao, cap, rfl⟩ := hR.rd.len
    exact looks_early w0 ao l.length cap now budget hlen
  · by_cases hm : MayL l
    · by_cases hb : budget = 0
      · subst hb
        exact looks_zero w0 l v hR (by omega) now (wf_U64 wn) hm
      · exact looks_pos w0 l v hR (by omega) now budget (wf_U64 wn) (wf_U64 wb) hb hm
    · exact looks_no w0 l v hR (by omega) now budget (wf_U64 wn) (wf_U64 wb) hm
end Go.Proofs.Ytcchfdoeacgapaa.Fi
