/-
  The walk of RefillCharges. No statement is proved here.
-/
import Derived.Test.YtcchfdoeacgapaaFi11
namespace Go.Proofs.Ytcchfdoeacgapaa.Fi
open Go.RowKit
set_option linter.unusedVariables false

theorem charges_early (w0 : World) (ao : Option Addr) (len cap : Nat) (now period most : Int) (h : 60 < len) :
    Calls Try.prog 5 #[.slice ao len cap, vu now, vu period, vi most] w0 (TrueBelow w0) := by
  have h' : (60 : Int) < (len : Int) := by omega
  go_enter Try.func5, Try.ntmps5
  go_wp2_with (go_at_call 20; refine (knownF w0).mono ?_; rintro e w2 ⟨rfl, hS⟩)
  go_ret
  exact ⟨rfl, hS⟩
set_option maxRecDepth 100000 in
set_option maxHeartbeats 2000000 in
theorem charges_no (w0 : World) (l : List Rf) (v : Value) (h : RdF w0 v l) (hl : l.length ≤ 60) (now period most : Int) (hn : U64 now) (hp : U64 period) (hc : ¬ ChOk l now period most) :
    Calls Try.prog 5 #[v, vu now, vu period, vi most] w0 (TrueBelow w0) := by
  obtain ⟨ao, cap, rfl⟩ := h.rd.len
  have hl' : ¬ (60 : Int) < (l.length : Int) := by omega
  have HR := Lib.hid h
  have HC := Lib.hid hc
  have HN := Lib.hid hn
  have HP := Lib.hid hp
  clear h hc hn hp
  go_enter Try.func5, Try.ntmps5
  go_wp2_with (first
    | (go_at_call 22; refine (own_ HR.out (by omega)).mono ?_; rintro e w1 ⟨vm, rfl, hS⟩; have H1 := Lib.hid hS; clear hS)
    | (go_at_call 23; refine (charge_no (Sat.fiR H1.out HR.out.ok) (by omega) HN.out HP.out HC.out).mono ?_; rintro e w2 ⟨rfl, hb⟩; have H2 := Lib.hid (Sat.after H1.out hb); clear hb)
    | (go_at_call 25; refine (rcharge_no (HR.out.below H2.out.below) (by omega) HN.out HP.out HC.out).mono ?_; rintro e w3 ⟨rfl, hb⟩; have H3 := Lib.hid (Sat.after H2.out hb); clear hb)
    | (go_at_call 26; (with_reducible refine (same_ [] _ _ _ (RdF.nil _) (RdF.nil _) (by simp)).mono ?_); rintro e w4 ⟨rfl, hb⟩; have H4 := Lib.hid (Sat.after H3.out hb); clear hb)
    | (go_at_call 26; refine (same_ l _ _ _ (Sat.fiR H4.out HR.out.ok) (HR.out.below H4.out.below) (by omega)).mono ?_; rintro e w5 ⟨rfl, hb⟩; have H5 := Lib.hid (Sat.after H4.out hb); clear hb)
    | (go_at_call 20; refine (knownF _).mono ?_; rintro e w6 ⟨rfl, hb⟩; have H6 := Lib.hid (Sat.after H5.out hb); clear hb))
  go_ret
  exact ⟨rfl, H6.out.below⟩

/-- One number of an own list is turned. -/
theorem fi_turn {w0 w : World} {F : Hp} {g so cap : Nat} {c : List Rf} {k : Nat} {x : Rf} (h : Sat w0 (slo 44 2 (.slice (some ⟨g, so, none⟩) c.length cap) c.length (rflat c) * F) w) (hx : c[k]? = some x) :
    w.cell? ⟨g, so + k * 2, none⟩ = some (vu x.amount) ∧ w.cell? ⟨g, so + k * 2 + 1, none⟩ = some (vu x.at_) ∧ (∀ i, w.frozen? ⟨g, i, none⟩ = false) ∧
    (∀ a, Sat w0 (slo 44 2 (.slice (some ⟨g, so, none⟩) c.length cap) c.length (rflat (c.set k ⟨x.amount, a⟩)) * F) (w.setCell ⟨g, so + k * 2 + 1, none⟩ (vu a))) ∧
    (∀ a, Sat w0 (slo 44 2 (.slice (some ⟨g, so, none⟩) c.length cap) c.length (rflat (c.set k ⟨a, x.at_⟩)) * F) (w.setCell ⟨g, so + k * 2, none⟩ (vu a))) := by
  have hk : k < c.length := (List.getElem?_eq_some_iff.1 hx).1
  have c0 := h.sloCell (k * 2 + 0) (flat_get Rf.len hx rfl)
  have c1 := h.sloCell (k * 2 + 1) (flat_get Rf.len hx rfl)
  refine ⟨c0, by rw [Nat.add_assoc]; exact c1, fun i => h.sloFree i, fun a => ?_, fun a => ?_⟩
  · have h1 := h.sloStore (k * 2 + 1) (by omega) (vu a)
    rw [flat_set Rf.len c k 1 x ⟨x.amount, a⟩ (vu a) hx (by omega) rfl, ← Nat.add_assoc] at h1
    exact h1
  · have h1 := h.sloStore (k * 2 + 0) (by omega) (vu a)
    rw [flat_set Rf.len c k 0 x ⟨a, x.at_⟩ (vu a) hx (by omega) rfl] at h1
    exact h1

theorem put_len1 (out : List Rf) (back most : Int) : (putL out back most).length ≤ out.length + 1 := by
  rcases List.eq_nil_or_concat out with rfl | ⟨init, x, rfl⟩
  · rw [putL_nil]
    simp
  · rw [List.concat_eq_append, putL_app]
    split
    · simp
    · split
      · simp
      · simp
theorem charge_len {l : List Rf} {now period most : Int} (h : ChOk l now period most) (hok : OkL l) : (chargeL l now period most).length ≤ l.length + 1 := by
  obtain ⟨r, t, hd, hat, h1⟩ := due_cons h.may hok h.th
  have hm := may_due (now := now) h.may hok
  have hk := ok_due (now := now) h.may hok
  have hl := due_len l now
  unfold chargeL
  rw [hd] at hm hk hl ⊢
  obtain ⟨a1, a2, a3, a4⟩ := less_may hm hk (k := 1) (by omega) h1
  have := put_len1 (lessL (r :: t) 1) (now + period) most
  omega
theorem fi_turnN {w0 w : World} {F : Hp} {g so cap n : Nat} {c : List Rf} {k : Nat} {x : Rf} (h : Sat w0 (slo 44 2 (.slice (some ⟨g, so, none⟩) n cap) n (rflat c) * F) w) (hn : c.length = n) (hx : c[k]? = some x) :
    w.cell? ⟨g, so + k * 2, none⟩ = some (vu x.amount) ∧ w.cell? ⟨g, so + k * 2 + 1, none⟩ = some (vu x.at_) ∧ (∀ i, w.frozen? ⟨g, i, none⟩ = false) ∧
    (∀ a, Sat w0 (slo 44 2 (.slice (some ⟨g, so, none⟩) n cap) n (rflat (c.set k ⟨x.amount, a⟩)) * F) (w.setCell ⟨g, so + k * 2 + 1, none⟩ (vu a))) ∧
    (∀ a, Sat w0 (slo 44 2 (.slice (some ⟨g, so, none⟩) n cap) n (rflat (c.set k ⟨a, x.at_⟩)) * F) (w.setCell ⟨g, so + k * 2, none⟩ (vu a))) := by
  subst hn
  exact fi_turn h hx
set_option maxRecDepth 100000 in
set_option maxHeartbeats 4000000 in
theorem charges_yes (w0 : World) (l : List Rf) (v : Value) (h : RdF w0 v l) (hl : l.length ≤ 60) (now period most : Int) (hn : U64 now) (hp : U64 period) (hc : ChOk l now period most) :
    Calls Try.prog 5 #[v, vu now, vu period, vi most] w0 (TrueBelow w0) := by
  obtain ⟨ao, cap, rfl⟩ := h.rd.len
  have hl' : ¬ (60 : Int) < (l.length : Int) := by omega
  obtain ⟨b1, b2, b3, b4⟩ := charge_law hc h.ok hn.1 hp.1
  have hth := charge_there hc h.ok hn.1 hp.1
  have HR := Lib.hid h
  have HOL : Hid (OkL l) := Lib.hid h.ok
  have HC := Lib.hid hc
  have HN := Lib.hid hn
  have HP := Lib.hid hp
  have HCY : Hid (∀ (w : World) (v : Value), RdF w v l → Room v l.length → Calls Try.prog 23 #[v, vu now, vu period, vi most] w fun e w' => ∃ v', e = .returned (.tuple #[v', .bool true]) ∧ Sat w (fiS v' (chargeL l now period most) * emp) w') := Lib.hid fun w v h1 h2 => charge_yes h1 h2 (by omega) hn hp hc
  have HCR : Hid (∀ (w : World) (v : Value), RdF w v l → Calls Try.prog 25 #[v, vu now, vu period, vi most] w fun e w' => ∃ v', e = .returned (.tuple #[v', .bool true]) ∧ Sat w (fiS v' (chargeL l now period most) * emp) w') := Lib.hid fun w v h1 => rcharge_yes h1 (by omega) hn hp hc
  have hsl : sumP l = some (tot l) := by rw [sumP_eq h.ok, if_neg (by have := hc.may.fit; omega)]
  have hsc : sumP (chargeL l now period most) = some (tot l) := by rw [sumP_eq b2, if_neg (by have := hc.may.fit; omega), b3]
  have hlc := charge_len hc h.ok
  generalize chargeL l now period most = c at *
  generalize tot l = s at *
  have hlc : c.length ≤ 61 := by omega
  have HSL : Hid (∀ (w : World) (v : Value), RdF w v l → Calls Try.prog 21 #[v] w fun e w' => e = .returned (.tuple #[vu s, .bool true]) ∧ w = w') := Lib.hid fun w v h1 => by
    have := rsum l v w h1 (by omega)
    rw [hsl] at this
    exact this
  have HSC : Hid (∀ (w : World) (v : Value), RdF w v c → Calls Try.prog 27 #[v] w fun e w' => e = .returned (.tuple #[vu s, .bool true]) ∧ Below w.heap.size w w') := Lib.hid fun w v h1 => by
    have := fsum_ c v w h1 (by omega)
    rw [hsc] at this
    exact this
  have HMC : Hid (∀ (w : World) (v : Value), RdF w v c → Calls Try.prog 19 #[v] w fun e w' => e = .returned (.bool true) ∧ Below w.heap.size w w') := Lib.hid fun w v h1 => by
    have := rmay c v w h1 (by omega)
    rw [mayB_yes b1] at this
    exact this
  have HTC : Hid (∀ (w : World) (v : Value), RdF w v c → Calls Try.prog 24 #[v, vu now] w fun e w' => e = .returned (vu (thereV c now)) ∧ w = w') := Lib.hid fun w v h1 => rthere c now v w h1 (by omega)
  have HTL : Hid (∀ (w : World) (v : Value), RdF w v l → Calls Try.prog 24 #[v, vu now] w fun e w' => e = .returned (vu (thereV l now)) ∧ w = w') := Lib.hid fun w v h1 => rthere l now v w h1 (by omega)
  have HB2 := Lib.hid b2
  generalize thereV c now = tc at *
  generalize thereV l now = tl at *
  clear h hc hn hp b1 b2 b3 hsl hsc
  go_enter Try.func5, Try.ntmps5
  go_wp2_with (first
    | (go_at_call 22; refine (own_ HR.out (by omega)).mono ?_; rintro e w1 ⟨vm, rfl, hS⟩; have H1 := Lib.hid hS; clear hS)
    | (go_at_call 23; refine (HCY.out _ _ (Sat.fiR H1.out HOL.out) (Sat.room H1.out)).mono ?_; rintro e w2 ⟨va, rfl, hS⟩; have H2 := Lib.hid (Sat.link H1.out hS); clear hS)
    | (go_at_call 25; refine (HCR.out _ _ (HR.out.below H2.out.below)).mono ?_; rintro e w3 ⟨vb, rfl, hS⟩; have H3 := Lib.hid (Sat.link H2.out hS); clear hS)
    | (go_at_call 26; (with_reducible refine (same_ c _ _ _ (Sat.fiR H3.out.pull2 HB2.out) (Sat.fiR H3.out HB2.out) (by omega)).mono ?_); rintro e w4 ⟨rfl, hb⟩; have H4 := Lib.hid (Sat.after H3.out hb); clear hb)
    | (go_at_call 26; (with_reducible refine (same_ l _ _ _ (Sat.fiR H4.out.pull3 HOL.out) (HR.out.below H4.out.below) (by omega)).mono ?_); rintro e w5 ⟨rfl, hb⟩; have H5 := Lib.hid (Sat.after H4.out hb); clear hb)
    | (go_at_call 21; refine (HSL.out _ _ (HR.out.below H5.out.below)).mono ?_; rintro e w' ⟨rfl, rfl⟩)
    | (go_at_call 27; refine (HSC.out _ _ (Sat.fiR H5.out.pull2 HB2.out)).mono ?_; rintro e w6 ⟨rfl, hb⟩; have H6 := Lib.hid (Sat.after H5.out hb); clear hb; have e6 := H6.out.pull2.sloForm; obtain ⟨ao6, cap6, e6'⟩ := e6; subst e6'; have e7 := H6.out.sloForm; obtain ⟨ao7, cap7, e7'⟩ := e7; subst e7'))
  go_loopw [18] (fun i wr => ∃ (k : Nat) (c' : List Rf), k ≤ c.length ∧ i = vi k ∧ c'.length = c.length ∧ Sat w0 (fiS (.slice ao7 c.length cap7) c * (slo 44 2 (.slice ao6 c.length cap6) c.length (rflat c') * (fiS vm l * emp))) wr) (fun i _ => c.length - (intOf i).toNat)
  case atStart => exact ⟨0, c, Nat.zero_le _, rfl, rfl, H6.out⟩
  case round =>
    obtain ⟨k, c', hk, rfl, hcl, hS⟩ := hrel
    by_cases hlt : k < c.length
    · obtain ⟨x, hx⟩ : ∃ x, c'[k]? = some x := ⟨c'[k]'(by omega), List.getElem?_eq_getElem _⟩
      obtain ⟨g, so, cap', hv⟩ := hS.pull2.sloPos (by omega)
      cases hv
      obtain ⟨t0, t1, tf, tt, -⟩ := fi_turnN hS.pull2 hcl hx
      have tf1 := tf (so + k * 2 + 1)
      have hki : (k : Int) < (c.length : Int) := by omega
      have HCL := Lib.hid (show (c'.set k ⟨x.amount, IntKind.u64.wrap (x.at_ + 1)⟩).length = c.length by rw [List.length_set]; exact hcl)
      have HT := Lib.hid (tt (IntKind.u64.wrap (x.at_ + 1)))
      clear tt tf hS hx hcl
      generalize hy : IntKind.u64.wrap (x.at_ + 1) = y at *
      go_wp2
      go_roundw
      case rel => exact ⟨k + 1, _, by omega, by go_num, HCL.out, HT.out.pull2⟩
      case measure => (simp [intOf]; try omega)
    · obtain rfl : k = c.length := by omega
      have HS := Lib.hid hS
      clear hS
      go_wp2_with (first
        | (go_at_call 19; refine (HMC.out _ _ (Sat.fiR HS.out HB2.out)).mono ?_; rintro e w7 ⟨rfl, hb⟩; have H7 := Lib.hid (Sat.after HS.out hb); clear hb)
        | (go_at_call 24; (with_reducible refine (HTC.out _ _ (Sat.fiR H7.out HB2.out)).mono ?_); rintro e w' ⟨rfl, rfl⟩)
        | (go_at_call 24; (with_reducible refine (HTL.out _ _ (HR.out.below H7.out.below)).mono ?_); rintro e w' ⟨rfl, rfl⟩)
        | (go_at_call 26; (with_reducible refine (same_ l _ _ _ (Sat.fiR H7.out.pull3 HOL.out) (HR.out.below H7.out.below) (by omega)).mono ?_); rintro e w8 ⟨rfl, hb⟩; have H8 := Lib.hid (Sat.after H7.out hb); clear hb)
        | (go_at_call 20; refine (knownF _).mono ?_; rintro e w9 ⟨rfl, hb⟩; have H9 := Lib.hid (Sat.after H8.out hb); clear hb))
      go_ret
      exact ⟨rfl, H9.out.below⟩
theorem charges_row (w0 : World) (v : Value) (n : Nat) (A : Nat → Int) (h : ArgK w0 2 (fun _ => .u64) v n A) (now : Int) (wn : (Lit.int .u64 now).wf = true) (period : Int) (wp : (Lit.int .u64 period).wf = true) (most : Int) (wm : (Lit.int .i64 most).wf = true) :
    Calls Try.prog 5 #[v, vu now, vu period, vi most] w0 (TrueBelow w0) := by
  obtain ⟨l, hl, hR⟩ := arg_fi h
  by_cases hlen : 60 < l.length
  · obtain ⟨ao, cap, rfl⟩ := hR.rd.len
    exact charges_early w0 ao l.length cap now period most hlen
  · by_cases hc : ChOk l now period most
    · exact charges_yes w0 l v hR (by omega) now period most (wf_U64 wn) (wf_U64 wp) hc
    · exact charges_no w0 l v hR (by omega) now period most (wf_U64 wn) (wf_U64 wp) hc
end Go.Proofs.Ytcchfdoeacgapaa.Fi
