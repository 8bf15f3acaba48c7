/-
  Chapter 05: Same of both queues. No statement is proved here.
-/
import Derived.Test.YtjlgdepneipgnaaRq27
namespace Go.Proofs.Ytjlgdepneipgnaa.Rq
open Go.RowKit
set_option linter.unusedVariables false

def sameQ (xs : List Int) (z : Int) (b : Bool) (ys : List Int) (z' : Int) (b' : Bool) : Bool := sameI (nsOf z b) (nsOf z' b') && sameI xs ys
section
variable {w0 w : World} {F : Hp} {q r q' r' p p' m : Nat} {z z' : Int} {b b' : Bool} {xs ys : List Int} {vL vN uL uN : Value}
theorem sameQ_no (h : (if b then z else 0) ≠ (if b' then z' else 0) ∨ b ≠ b') : sameQ xs z b ys z' b' = false := by
  have : sameI (nsOf z b) (nsOf z' b') = false := by
    unfold sameI
    cases b <;> cases b' <;> simp [nsOf] at h ⊢
    exact h
  rw [sameQ, this, Bool.false_and]
theorem sameQ_yes (h : (if b then z else 0) = (if b' then z' else 0)) (hb : b = b') : sameQ xs z b ys z' b' = sameI xs ys := by
  have : sameI (nsOf z b) (nsOf z' b') = true := by
    unfold sameI
    cases b <;> cases b' <;> simp [nsOf] at h hb ⊢
    exact h
  rw [sameQ, this, Bool.true_and]
set_option maxRecDepth 100000 in
set_option maxHeartbeats 2000000 in
theorem q_same (h : Sat w0 (quB q r z b * (ringP r m xs * (quB q' r' z' b' * (ringP r' m ys * F)))) w) :
    Calls Try.prog 41 #[vp q, vp q'] w fun e w' => e = .returned (.bool (sameQ xs z b ys z' b')) ∧ Sat w0 (quB q r z b * (ringP r m xs * (quB q' r' z' b' * (ringP r' m ys * F)))) w' := by
  have H := Lib.hid h
  have HN1 := Lib.hid (q_none h)
  have HN2 := Lib.hid (q_none h.pull3)
  have HX1 := Lib.hid (q_next h)
  have HX2 := Lib.hid (q_next h.pull3)
  have c0 := h.cell 0 rfl
  have e0 := h.pull3.cell 0 rfl
  clear h
  by_cases hne : (if b then z else 0) ≠ (if b' then z' else 0) ∨ b ≠ b'
  · rw [sameQ_no hne]
    generalize (if b then z else 0) = A at *
    generalize (if b' then z' else 0) = B at *
    by_cases hab : A = B
    · have hbb : b ≠ b' := hne.elim (fun h => absurd hab h) id
      have h1 : (A == B) = true := by simpa using hab
      have h2 : (b == b') = false := by simpa using hbb
      clear hne hab hbb
      go_enter Try.func41, Try.ntmps41
      go_wp2_with (first
        | (go_at_call 56; (with_reducible refine HN1.out.mono ?_); rintro e w' ⟨rfl, rfl⟩)
        | (go_at_call 56; (with_reducible refine HN2.out.mono ?_); rintro e w' ⟨rfl, rfl⟩)
        | (go_at_call 43; (with_reducible refine HX1.out.mono ?_); rintro e w' ⟨rfl, rfl⟩)
        | (go_at_call 43; (with_reducible refine HX2.out.mono ?_); rintro e w' ⟨rfl, rfl⟩))
      go_quiet (fail)
      go_wp2
      go_ret
      exact ⟨rfl, H.out.drewN _⟩
    · have h1 : (A == B) = false := by simpa using hab
      clear hne hab
      go_enter Try.func41, Try.ntmps41
      go_wp2_with (first
        | (go_at_call 56; (with_reducible refine HN1.out.mono ?_); rintro e w' ⟨rfl, rfl⟩)
        | (go_at_call 56; (with_reducible refine HN2.out.mono ?_); rintro e w' ⟨rfl, rfl⟩)
        | (go_at_call 43; (with_reducible refine HX1.out.mono ?_); rintro e w' ⟨rfl, rfl⟩)
        | (go_at_call 43; (with_reducible refine HX2.out.mono ?_); rintro e w' ⟨rfl, rfl⟩))
      go_quiet (fail)
      go_wp2
      go_ret
      exact ⟨rfl, H.out.drewN _⟩
  · obtain ⟨hab, hbb⟩ : (if b then z else 0) = (if b' then z' else 0) ∧ b = b' := by
      constructor
      · exact Classical.byContradiction fun h => hne (.inl h)
      · exact Classical.byContradiction fun h => hne (.inr h)
    rw [sameQ_yes hab hbb]
    generalize (if b then z else 0) = A at *
    generalize (if b' then z' else 0) = B at *
    have h1 : (A == B) = true := by simpa using hab
    have h2 : (b == b') = true := by simpa using hbb
    clear hne hab hbb
    go_enter Try.func41, Try.ntmps41
    go_wp2_with (first
      | (go_at_call 56; (with_reducible refine HN1.out.mono ?_); rintro e w' ⟨rfl, rfl⟩)
      | (go_at_call 56; (with_reducible refine HN2.out.mono ?_); rintro e w' ⟨rfl, rfl⟩)
      | (go_at_call 43; (with_reducible refine HX1.out.mono ?_); rintro e w' ⟨rfl, rfl⟩)
      | (go_at_call 43; (with_reducible refine HX2.out.mono ?_); rintro e w' ⟨rfl, rfl⟩))
    go_region_held3 (fun w' => w'.cell? ⟨q, 0, none⟩ = some (vp r) ∧ w'.cell? ⟨q', 0, none⟩ = some (vp r'))
      (first | exact ⟨d0, d1⟩ | go_keep)
      ((go_at_call 79; refine (ring_same ((H.out.drewN 1).cast (show _ = ringP r m xs * (ringP r' m ys * (quB q r z b * (quB q' r' z' b' * F))) by ac_rfl))).mono ?_; rintro e w1 ⟨rfl, hS1⟩; have d0 := hS1.pull3.cell 0 rfl; have d1 := hS1.pull4.cell 0 rfl; have H1 := Lib.hid hS1; clear hS1))
    go_wp2
    go_ret
    exact ⟨by simp, H1.out.cast (by ac_rfl)⟩
set_option maxRecDepth 100000 in
set_option maxHeartbeats 2000000 in
theorem r_same {ns ns' : List Int} (h : Sat w0 (rqB p m vL vN * (rs 3 vL (xs.map vi) * (rs 3 vN (ns.map vi) * (rqB p' m uL uN * (rs 3 uL (ys.map vi) * (rs 3 uN (ns'.map vi) * F)))))) w) (hl : xs.length ≤ 4096) (hl' : ys.length ≤ 4096) (hn : ns.length ≤ 1) (hn' : ns'.length ≤ 1) :
    Calls Try.prog 42 #[vp p, vp p'] w fun e w' => e = .returned (.bool (sameI ns ns' && sameI xs ys)) ∧ ∃ k, w' = w.drewN k := by
  have HL := Lib.hid (rsRdI h.pull2)
  have HN := Lib.hid (rsRdI h.pull3)
  have HL' := Lib.hid (rsRdI h.pull5)
  have HN' := Lib.hid (rsRdI h.pull6)
  have c0 := h.cell 0 rfl
  have c1 := h.cell 1 rfl
  have c2 := h.cell 2 rfl
  have e0 := h.pull4.cell 0 rfl
  have e1 := h.pull4.cell 1 rfl
  have e2 := h.pull4.cell 2 rfl
  clear h
  have HSN : Hid (∀ k, Calls Try.prog 27 #[vN, uN] (w.drewN k) fun e w' => e = .returned (.bool (sameI ns ns')) ∧ ∃ k', w' = (w.drewN k).drewN k') := Lib.hid fun k => ref_same ns ns' _ _ _ (HN.out.drewN _) (HN'.out.drewN _) (by omega) (by omega)
  have HSL : Hid (∀ k, Calls Try.prog 27 #[vL, uL] (w.drewN k) fun e w' => e = .returned (.bool (sameI xs ys)) ∧ ∃ k', w' = (w.drewN k).drewN k') := Lib.hid fun k => ref_same xs ys _ _ _ (HL.out.drewN _) (HL'.out.drewN _) (by omega) (by omega)
  clear HL HN HL' HN'
  generalize sameI ns ns' = s1 at *
  generalize sameI xs ys = s2 at *
  cases s1 with
  | false =>
    clear HSL
    go_enter Try.func42, Try.ntmps42
    go_wp2
    go_quiet ((go_at_call 27; (with_reducible exact Calls.quiet_of (HSN.out _))))
    go_wp2
    go_ret
    exact ⟨by simp, _, rfl⟩
  | true =>
    go_enter Try.func42, Try.ntmps42
    go_wp2
    go_quiet (first
      | (go_at_call 27; (with_reducible exact Calls.quiet_of (HSN.out _)))
      | (go_at_call 27; (with_reducible exact Calls.quiet_of (HSL.out _))))
    go_wp2
    go_ret
    exact ⟨by simp, _, rfl⟩
theorem nsOf_len : (nsOf z b).length ≤ 1 := by cases b <;> simp [nsOf]
theorem r_same' (h : Sat w0 (refQ p m xs z b * (refQ p' m ys z' b' * F)) w) (hl : xs.length ≤ 4096) (hl' : ys.length ≤ 4096) :
    Calls Try.prog 42 #[vp p, vp p'] w fun e w' => e = .returned (.bool (sameQ xs z b ys z' b')) ∧ ∃ k, w' = w.drewN k := by
  obtain ⟨vL, vN, h⟩ := refQ_open h
  obtain ⟨uL, uN, h⟩ := refQ_open h.pull4
  exact r_same (h.cast (show _ = rqB p m vL vN * (rs 3 vL (xs.map vi) * (rs 3 vN ((nsOf z b).map vi) * (rqB p' m uL uN * (rs 3 uL (ys.map vi) * (rs 3 uN ((nsOf z' b').map vi) * F))))) by ac_rfl)) hl hl' nsOf_len nsOf_len
theorem r_copy' (h : Sat w0 (refQ p m xs z b * F) w) (hl : xs.length ≤ 4096) :
    Calls Try.prog 40 #[vp p] w fun e w' => ∃ p', e = .returned (vp p') ∧ Sat w0 (refQ p' m xs z b * (refQ p m xs z b * F)) w' := by
  obtain ⟨vL, vN, h⟩ := refQ_open h
  refine (r_copy h hl nsOf_len).mono fun e w' ⟨p', uL, uN, he, hS⟩ => ⟨p', he, ?_⟩
  exact refQ_shut2 (refQ_shut hS)
end
end Go.Proofs.Ytjlgdepneipgnaa.Rq
