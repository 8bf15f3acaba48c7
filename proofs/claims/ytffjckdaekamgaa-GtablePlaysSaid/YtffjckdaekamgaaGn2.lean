/-
  Chapter 16: each act, of both. No statement is proved here.
-/
import Derived.Test.YtffjckdaekamgaaGn1
import Derived.Test.YtffjckdaekamgaaGt9
namespace Go.Proofs.Ytffjckdaekamgaa.Gt
open Go.RowKit Ag
set_option linter.unusedVariables false

/-- What the reference has. -/
abbrev refG (q b cap : Nat) (vF : Value) (ps : List Pl) (free : List Nat) (F : Hp) : Hp :=
  rtB q b ps.length cap vF * (rtL b cap ps * (sl 3 1 vF free.length (nats free) * F))
def PG (f : Nat) (args : List Value) (ps : List Pl) (free : List Nat) (res : Value) (ps' : List Pl) (free' : List Nat) : Prop :=
  ∀ (w0 w : World) (F : Hp) (h p : Nat), Sat w0 (gtB h p * (tblP p ps free * F)) w → Calls Try.prog f (vp h :: args).toArray w fun e w' => e = .returned res ∧ Sat w0 (gtB h p * (tblP p ps' free' * F)) w'
def RG (f : Nat) (args : List Value) (ps : List Pl) (free : List Nat) (res : Value) (ps' : List Pl) (free' : List Nat) : Prop :=
  ∀ (w0 w : World) (F : Hp) (q b cap : Nat) (vF : Value), Sat w0 (refG q b cap vF ps free F) w → Calls Try.prog f (vp q :: args).toArray w fun e w' => ∃ vG, e = .returned res ∧ Sat w0 (refG q b cap vG ps' free' F) w'
/-- Both answer the same. -/
def Step (n T : Nat) (fP fR : Nat) (args : List Value) (ps : List Pl) (free : List Nat) : Prop :=
  ∃ (code : Int) (ps' : List Pl) (free' : List Nat), Inv n (T + 1) ps' free' ∧ PG fP args ps free (vi code) ps' free' ∧ RG fR args ps free (vi code) ps' free'

section
variable {n T : Nat} {ps : List Pl} {free : List Nat}
theorem at_or (ps : List Pl) (i g : Int) : isAt ps i g = none ∨ ∃ k a, isAt ps i g = some (k, a) := by
  cases h : isAt ps i g with
  | none => exact .inl rfl
  | some x => exact .inr ⟨x.1, x.2, rfl⟩
theorem getE_no {i g : Int} (h : isAt ps i g = none) : getE ps i g = 11 := by unfold getE; rw [h]
theorem getE_yes {i g : Int} {k : Nat} {a : Pl} (h : isAt ps i g = some (k, a)) : getE ps i g = 0 := by unfold getE; rw [h]
theorem getX_yes {i g : Int} {k : Nat} {a : Pl} (h : isAt ps i g = some (k, a)) : getX ps i g = a.x := by unfold getX; rw [h]
theorem setP_yes {i g : Int} {k : Nat} {a : Pl} (h : isAt ps i g = some (k, a)) (x : El) : setP ps i g x = ps.set k { a with x := x } := by unfold setP; rw [h]
theorem mayB_yes {x : El} (h : mayB x = true) : mayP x := of_decide_eq_true h
theorem set_step (h : Inv n T ps free) (i g : Int) (x : El) (hx : 0 ≤ x.v18) : Step n T 25 26 [vr i g, ev x] ps free := by
  cases hm : mayB x with
  | false => exact ⟨2, ps, free, h.mono (Nat.le_succ T), fun w0 w F hh p hS => gt_set_may hS i g x hm, fun w0 w F q b cap vF hS => (rt_set_may hS i g x hx hm).mono fun e w' h2 => ⟨vF, h2⟩⟩
  | true =>
    rcases at_or ps i g with hA | ⟨k, a, hA⟩
    · exact ⟨11, ps, free, h.mono (Nat.le_succ T), fun w0 w F hh p hS => gt_set_no hS i g x hm (getE_no hA), fun w0 w F q b cap vF hS => (rt_set_no hS i g x hx hm hA).mono fun e w' h2 => ⟨vF, h2⟩⟩
    · obtain ⟨hk, _, ht, _⟩ := isAt_some hA
      by_cases hv : a.x.v0 = x.v0
      · refine ⟨0, ps.set k { a with x := x }, free, h.setx hk ht (mayB_yes hm) hx, fun w0 w F hh p hS => ?_, fun w0 w F q b cap vF hS => (rt_set_ok hS i g x hx hm hA hv).mono fun e w' h2 => ⟨vF, h2⟩⟩
        have := gt_set_ok hS i g x hm (getE_yes hA) (by rw [getX_yes hA]; exact hv)
        rw [setP_yes hA] at this
        exact this
      · exact ⟨5, ps, free, h.mono (Nat.le_succ T), fun w0 w F hh p hS => gt_set_state hS i g x hm (getE_yes hA) (by rw [getX_yes hA]; exact hv), fun w0 w F q b cap vF hS => (rt_set_state hS i g x hx hm hA hv).mono fun e w' h2 => ⟨vF, h2⟩⟩
theorem turn_step (h : Inv n T ps free) (i g to : Int) : Step n T 20 27 [vr i g, vi to] ps free := by
  rcases at_or ps i g with hA | ⟨k, a, hA⟩
  · refine ⟨11, ps, free, h.mono (Nat.le_succ T), fun w0 w F hh p hS => ?_, fun w0 w F q b cap vF hS => (rt_turn_no hS i g to hA).mono fun e w' h2 => ⟨vF, h2⟩⟩
    have := gt_turn hS i g to
    rw [show turnE ps i g to = 11 by (unfold turnE; rw [getE_no hA]; rfl), show turnP ps i g to = ps by (unfold turnP; rw [getE_no hA, if_neg (fun e => absurd e.1 (by decide))])] at this
    exact this
  · obtain ⟨hk, _, ht, _⟩ := isAt_some hA
    cases hv : turnB a.x.v0 to with
    | true =>
      obtain ⟨h1, h2⟩ := may_turn (h.may _ _ hk ht).1 hv
      refine ⟨0, ps.set k { a with x := turnX a.x to }, free, h.setx hk ht h1 h2, fun w0 w F hh p hS => ?_, fun w0 w F q b cap vF hS => (rt_turn_ok hS i g to hA hv).mono fun e w' h2 => ⟨vF, h2⟩⟩
      have := gt_turn hS i g to
      rw [show turnE ps i g to = 0 by (unfold turnE; rw [getE_yes hA, getX_yes hA, hv]; rfl), show turnP ps i g to = ps.set k { a with x := turnX a.x to } by (unfold turnP; rw [getE_yes hA, getX_yes hA, if_pos ⟨rfl, hv⟩, setP_yes hA])] at this
      exact this
    | false =>
      refine ⟨5, ps, free, h.mono (Nat.le_succ T), fun w0 w F hh p hS => ?_, fun w0 w F q b cap vF hS => (rt_turn_state hS i g to hA hv).mono fun e w' h2 => ⟨vF, h2⟩⟩
      have := gt_turn hS i g to
      rw [show turnE ps i g to = 5 by (unfold turnE; rw [getE_yes hA, getX_yes hA, hv]; rfl), show turnP ps i g to = ps by (unfold turnP; rw [getE_yes hA, getX_yes hA, if_neg (fun e => absurd (e.2.symm.trans hv) (by decide))])] at this
      exact this
theorem drop_step (h : Inv n T ps free) (hT : T ≤ 1000) (i g : Int) : Step n T 28 29 [vr i g] ps free := by
  rcases at_or ps i g with hA | ⟨k, a, hA⟩
  · exact ⟨11, ps, free, h.mono (Nat.le_succ T), fun w0 w F hh p hS => gt_drop_no hS i g hA, fun w0 w F q b cap vF hS => (rt_drop_no hS i g hA).mono fun e w' h2 => ⟨vF, h2⟩⟩
  · obtain ⟨hk, _, ht, _⟩ := isAt_some hA
    have hg := h.gens _ _ hk
    have hf := h.fl
    refine ⟨0, ps.set k { a with gen := a.gen + 1, there := false, x := ez }, free ++ [k], h.drop hk ht, fun w0 w F hh p hS => gt_drop_yes hS i g hA (by omega), fun w0 w F q b cap vF hS => ?_⟩
    obtain ⟨vo, vc, rfl⟩ := hS.dropL.dropL.rd.len
    refine (rt_drop_ok hS i g hA ⟨by omega, by omega⟩ (by omega)).mono fun e w' ⟨vG, h2, h3⟩ => ⟨vG, h2, ?_⟩
    unfold refG rtL rtB
    rw [List.length_append, List.length_singleton, List.length_set]
    unfold rtL at h3
    rw [List.length_set] at h3
    exact h3
/-- Putting one. -/
theorem make_step (h : Inv n T ps free) (x : El) (hx : 0 ≤ x.v18) : ∃ (ri rg code : Int) (ps' : List Pl) (free' : List Nat), Inv n (T + 1) ps' free' ∧
    PG 19 [ev x] ps free (.tuple #[vr ri rg, vi code]) ps' free' ∧ RG 22 [ev x] ps free (.tuple #[vr ri rg, vi code]) ps' free' := by
  cases hm : mayB x with
  | false => exact ⟨0, 0, 2, ps, free, h.mono (Nat.le_succ T), fun w0 w F hh p hS => gt_make_no hS x hm, fun w0 w F q b cap vF hS => (rt_make_no hS x hx hm).mono fun e w' h2 => ⟨vF, h2⟩⟩
  | true =>
    rcases List.eq_nil_or_concat free with rfl | ⟨fr, k, rfl⟩
    · refine ⟨0, 0, 3, ps, [], h.mono (Nat.le_succ T), fun w0 w F hh p hS => gt_make_full hS x hm, fun w0 w F q b cap vF hS => ?_⟩
      obtain ⟨vo, vc, rfl⟩ := hS.dropL.dropL.rd.len
      exact (rt_make_full hS x hx hm).mono fun e w' h2 => ⟨_, h2⟩
    · rw [List.concat_eq_append] at h ⊢
      obtain ⟨a, hk, ht⟩ := h.mem k (by simp)
      have hf := h.fl
      rw [List.length_append, List.length_singleton] at hf
      refine ⟨k, a.gen, 0, ps.set k { a with there := true, x := x }, fr, h.make hk (mayB_yes hm) hx, fun w0 w F hh p hS => gt_make hS hk x hm, fun w0 w F q b cap vF hS => ?_⟩
      obtain ⟨vo, vc, rfl⟩ := hS.dropL.dropL.rd.len
      obtain ⟨fa, rfl⟩ : ∃ fa, vo = some ⟨fa, 0, none⟩ := by
        rcases hS.dropL.dropL.slE.2 with ⟨_, h0, _⟩ | ⟨g', c', cur, hv, _⟩
        · rw [List.length_append, List.length_singleton] at h0
          omega
        · injection hv with h1 h2 h3
          exact ⟨g', h1⟩
      exact rt_make (by rw [List.length_append, List.length_singleton]) hS hk (by omega) x hx hm
end
end Go.Proofs.Ytffjckdaekamgaa.Gt
