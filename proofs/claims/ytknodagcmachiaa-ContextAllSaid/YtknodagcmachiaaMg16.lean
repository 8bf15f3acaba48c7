/-
  Chapter 08: the chapter's row is so. No statement is proved here.
-/
import Derived.Test.YtknodagcmachiaaMg14
import Derived.Test.YtknodagcmachiaaFiLaw2
import Derived.Test.YtknodagcmachiaaCy1
namespace Go.Proofs.Ytknodagcmachiaa.Cn
open Go.RowKit Ac Fi
set_option linter.unusedVariables false
set_option linter.unusedSimpArgs false

def kc0 : List CP := newC 2
def kf0 : List Nat := newF 2 2
def kc1 : List CP := mkL kc0 kf0 5 10 0
def kf1 : List Nat := mkF kf0 5 10 0
def kc2 : List CP := spL kc1 kf1 0 1 2 1
def kf2 : List Nat := spF kc1 kf1 0 1 2 1
theorem kI0 : Inv 2 4 0 kc0 kf0 0 := Inv.new 2 ⟨by omega, by omega⟩ 4 ⟨by omega, by omega⟩
theorem kI1 : Inv 2 4 1 kc1 kf1 0 := kI0.mk_ 5 10 0 (by omega)
theorem kI2 : Inv 2 4 3 kc2 kf2 0 := kI1.sp 2 1 (by omega) (by omega)
theorem k1 : mkI kf0 5 10 0 = 0 ∧ mkG kc0 kf0 5 10 0 = 1 ∧ mkE kf0 5 10 0 = 0 := by decide
theorem k2 : spI kc1 kf1 0 1 2 1 = 1 ∧ spG kc1 kf1 0 1 2 1 = 1 ∧ spE kc1 kf1 0 1 2 1 = 0 := by decide
theorem k3 : gC kc2 0 1 = ⟨3, 10, [⟨3, 0⟩], 0⟩ ∧ eC kc2 0 1 = 0 := by exact ⟨rfl, rfl⟩
theorem k4 : gC kc2 1 1 = ⟨2, 10, [⟨2, 1⟩], 0⟩ ∧ eC kc2 1 1 = 0 := by exact ⟨rfl, rfl⟩
theorem lit1 (w : World) (a b : Int) (hok : OkL [⟨a, b⟩]) : RdF (w.alloc (.cells #[vu a, vu b] 61)) (.slice (some ⟨w.heap.size, 0, none⟩) 1 1) [⟨a, b⟩] := by
  refine ⟨⟨rfl, .inr ⟨_, _, _, rfl, fun j u hj => ?_⟩⟩, hok⟩
  rcases j with _ | _ | j
  · cases hj
    simp
  · cases hj
    simp
  · simp [rflat, Rf.cells] at hj
theorem lit1' (w : World) (a b : Int) (hok : OkL [⟨a, b⟩]) {g : Nat} (hg : g = w.heap.size) : RdF (w.alloc (.cells #[vu a, vu b] 61)) (.slice (some ⟨g, 0, none⟩) 1 1) [⟨a, b⟩] := by
  subst hg
  exact lit1 w a b hok
theorem kOk3 : OkL [⟨3, 0⟩] := ok1 3 0 ⟨by omega, by omega⟩ ⟨by omega, by omega⟩
theorem kOk2 : OkL [⟨2, 1⟩] := ok1 2 1 ⟨by omega, by omega⟩ ⟨by omega, by omega⟩
section
variable {w0 w : World} {F : Hp} {h : Nat}
abbrev K2 (h : Nat) (F : Hp) : Hp := cxP h 4 kc2 kf2 * F
theorem k_new (w : World) : Calls Try.prog 10 #[vi 2, vi 4] w fun e w' => ∃ h, e = .returned (.tuple #[vp h, vi 0]) ∧ Sat w (cxP h 4 kc0 kf0 * emp) w' :=
  p_new 2 ⟨by omega, by omega⟩ ⟨by omega, by omega⟩ (Sat.start w)
theorem k_make (hS : Sat w0 (cxP h 4 kc0 kf0 * F) w) : Calls Try.prog 11 #[vp h, vu 5, vu 10, vu 0] w fun e w' => e = .returned (.tuple #[vr 0 1, vi 0]) ∧ Sat w0 (cxP h 4 kc1 kf1 * F) w' := by
  have := p_make kI0 hS 5 10 0 (by omega)
  rw [k1.1, k1.2.1, k1.2.2] at this
  exact this
theorem k_split (hS : Sat w0 (cxP h 4 kc1 kf1 * F) w) : Calls Try.prog 14 #[vp h, vr 0 1, vu 2, vu 1] w fun e w' => e = .returned (.tuple #[vr 1 1, vi 0]) ∧ Sat w0 (cxP h 4 kc2 kf2 * F) w' := by
  have := p_split kI1 hS 0 1 2 1 ⟨by omega, by omega⟩ ⟨by omega, by omega⟩
  rw [k2.1, k2.2.1, k2.2.2] at this
  exact this
theorem k_get0 (hS : Sat w0 (cxP h 4 kc2 kf2 * F) w) : Calls Try.prog 29 #[vp h, vr 0 1] w fun e w' => ∃ ao lc, e = .returned (.tuple #[ev ⟨3, 10, ao, 1, lc, 0⟩, vi 0]) ∧ Sat w0 (fiS (.slice ao 1 lc) [⟨3, 0⟩] * (cxP h 4 kc2 kf2 * F)) w' := by
  have := p_get kI2 hS 0 1
  rw [k3.1, k3.2] at this
  exact this
theorem k_get1 (hS : Sat w0 (cxP h 4 kc2 kf2 * F) w) : Calls Try.prog 29 #[vp h, vr 1 1] w fun e w' => ∃ ao lc, e = .returned (.tuple #[ev ⟨2, 10, ao, 1, lc, 0⟩, vi 0]) ∧ Sat w0 (fiS (.slice ao 1 lc) [⟨2, 1⟩] * (cxP h 4 kc2 kf2 * F)) w' := by
  have := p_get kI2 hS 1 1
  rw [k4.1, k4.2] at this
  exact this
theorem k_same {b p : Int} {a1 a2 : Option Addr} {c1 c2 : Nat} {l : List Rf} {w : World} (h1 : RdF w (.slice a1 1 c1) l) (h2 : RdF w (.slice a2 1 c2) l) (hl : l.length ≤ 1000) :
    Calls Try.prog 23 #[ev ⟨b, p, a1, 1, c1, 0⟩, ev ⟨b, p, a2, 1, c2, 0⟩] w fun e w' => e = .returned (.bool true) ∧ Below w.heap.size w w' :=
  (sameOne_ ⟨b, p, a1, 1, c1, 0⟩ ⟨b, p, a2, 1, c2, 0⟩ l l w h1 h2 (by omega) (by omega)).mono fun e w' hh => by
    obtain ⟨x, he, hx, hb⟩ := hh
    have : x = true := hx.2 ⟨rfl, rfl, rfl, rfl⟩
    subst this
    exact ⟨he, hb⟩
set_option maxRecDepth 100000 in
set_option maxHeartbeats 4000000 in
theorem known08 (w : World) : Calls Try.prog 9 #[] w fun e w' => e = .returned (.bool true) ∧ Below w.heap.size w w' := by
  go_enter Try.func9, Try.ntmps9
  go_wp2_with (first
    | (go_at_call 10; refine (k_new w).mono ?_; rintro e w1 ⟨h, rfl, hS1⟩; have H1 := Lib.hid hS1; clear hS1)
    | (go_at_call 11; refine (k_make H1.out).mono ?_; rintro e w2 ⟨rfl, hS2⟩; have ha : Sat w (pc w2.heap.size 30 [vi 0, vu 1] * _) _ := hS2.alloc (.cells #[vi 0, vu 1] 30); have a0 := ha.cell 0 rfl; have a1 := ha.cell 1 rfl; have H2 := Lib.hid ha.swap; have H2' := Lib.hid (H2.out.cast (show _ = cxP h 4 kc1 kf1 * (emp * pc w2.heap.size 30 [vi 0, vu 1]) by ac_rfl)); clear hS2 ha)
    | (go_at_call 14; refine (k_split H2'.out).mono ?_; rintro e w3 ⟨rfl, hS3⟩; have ha : Sat w (pc w3.heap.size 30 [vi 1, vu 1] * _) _ := hS3.alloc (.cells #[vi 1, vu 1] 30); have H3 := Lib.hid (ha.cast (show _ = cxP h 4 kc2 kf2 * (pc w3.heap.size 30 [vi 1, vu 1] * (pc w2.heap.size 30 [vi 0, vu 1] * emp)) by ac_rfl)); have e0 := H3.out.dropL.dropL.cell 0 rfl; have e1 := H3.out.dropL.dropL.cell 1 rfl; clear hS3 ha)
    | (go_at_call 29; (with_reducible refine (k_get0 H3.out).mono ?_); rintro e w4 ⟨ao, lc, rfl, hS4⟩; have ha : Sat w (pc w4.heap.size 49 (elC ⟨3, 10, ao, 1, lc, 0⟩) * _) _ := hS4.alloc (elO ⟨3, 10, ao, 1, lc, 0⟩); have H4 := Lib.hid (ha.cast (show _ = cxP h 4 kc2 kf2 * (pc w3.heap.size 30 [vi 1, vu 1] * (pc w4.heap.size 49 (elC ⟨3, 10, ao, 1, lc, 0⟩) * (fiS (.slice ao 1 lc) [⟨3, 0⟩] * (pc w2.heap.size 30 [vi 0, vu 1] * emp)))) by ac_rfl)); have g0 := H4.out.dropL.cell 0 rfl; have g1 := H4.out.dropL.cell 1 rfl; clear hS4 ha)
    | (go_at_call 29; (with_reducible refine (k_get1 H4.out).mono ?_); rintro e w5 ⟨bo, bc, rfl, hS5⟩; have ha : Sat w (pc w5.heap.size 49 (elC ⟨2, 10, bo, 1, bc, 0⟩) * _) _ := hS5.alloc (elO ⟨2, 10, bo, 1, bc, 0⟩); have H5 := Lib.hid (ha.cast (show _ = fiS (.slice ao 1 lc) [⟨3, 0⟩] * (pc w4.heap.size 49 (elC ⟨3, 10, ao, 1, lc, 0⟩) * (pc w5.heap.size 49 (elC ⟨2, 10, bo, 1, bc, 0⟩) * (fiS (.slice bo 1 bc) [⟨2, 1⟩] * (cxP h 4 kc2 kf2 * (pc w3.heap.size 30 [vi 1, vu 1] * (pc w2.heap.size 30 [vi 0, vu 1] * emp)))))) by ac_rfl)); have i0 := H5.out.dropL.cell 0 rfl; have i1 := H5.out.dropL.cell 1 rfl; have i2 := H5.out.dropL.cell 2 rfl; have i3 := H5.out.dropL.cell 3 rfl; clear hS5 ha)
    | (go_at_call 23; (with_reducible refine (k_same (Sat.fiR (H5.out.alloc' _) kOk3) (lit1' _ 3 0 kOk3 (by simp)) (by simp)).mono ?_); rintro e w6 ⟨rfl, hb⟩; have H6 := Lib.hid (Sat.after (H5.out.alloc' _) hb); clear hb; have j0 := H6.out.dropL.dropL.cell 0 rfl; have j1 := H6.out.dropL.dropL.cell 1 rfl; have j2 := H6.out.dropL.dropL.cell 2 rfl; have j3 := H6.out.dropL.dropL.cell 3 rfl)
    | (go_at_call 23; (with_reducible refine (k_same (Sat.fiR (H6.out.dropL.dropL.dropL.alloc' _) kOk2) (lit1' _ 2 1 kOk2 (by simp)) (by simp)).mono ?_); rintro e w7 ⟨rfl, hb⟩; have H7 := Lib.hid (Sat.after (H6.out.alloc' _) hb); clear hb))
  go_ret
  exact ⟨rfl, H7.out.below⟩
end
end Go.Proofs.Ytknodagcmachiaa.Cn

namespace Go.Proofs.Ytknodagcmachiaa.Fi
open Go.RowKit
set_option linter.unusedVariables false

/-- What was used at those times is not there again at T. -/
def outAt (U : List Int) (period T : Int) : Nat := U.countP fun u => decide (T < u + period)
structure Win (S most period nw : Int) (X : List Rf) (U : List Int) : Prop where
  may : MayL X
  ok : OkL X
  tot : tot X = S
  len : (X.length : Int) ≤ most
  us : ∀ u ∈ U, 0 ≤ u ∧ u ≤ nw
  inv : ∀ T, nw ≤ T → (outAt U period T : Int) + totTo T X ≤ S
section
variable {S most period nw nw' : Int} {X : List Rf} {U : List Int}
theorem Win.move (h : Win S most period nw X U) (hn : nw ≤ nw') : Win S most period nw' X U :=
  ⟨h.may, h.ok, h.tot, h.len, fun u hu => ⟨(h.us u hu).1, by have := (h.us u hu).2; omega⟩, fun T hT => h.inv T (by omega)⟩
theorem Win.start (h : MayL X) (hok : OkL X) (hl : (X.length : Int) ≤ most) : Win (Go.Proofs.Ytknodagcmachiaa.Fi.tot X) most period nw X [] :=
  ⟨h, hok, rfl, hl, fun u hu => by simp at hu, fun T hT => by have := (totTo_bd T hok).2; simp [outAt]; omega⟩
theorem Win.step (h : Win S most period nw X U) (hc : ChOk X nw period most) (hn : 0 ≤ nw) (hp : 0 ≤ period) : Win S most period nw (chargeL X nw period most) (U ++ [nw]) := by
  obtain ⟨b1, b2, b3, b4⟩ := charge_law hc h.ok hn hp
  refine ⟨b1, b2, by rw [b3, h.tot], b4, fun u hu => ?_, fun T hT => ?_⟩
  · rcases List.mem_append.1 hu with h1 | h1
    · exact h.us u h1
    · simp at h1
      omega
  · have h1 := h.inv T hT
    have h2 := charge_totTo hc h.ok hn hp hT
    unfold outAt at h1 ⊢
    rw [List.countP_append, List.countP_singleton]
    by_cases h3 : T < nw + period
    · rw [if_pos h3] at h2
      rw [if_pos (by simpa using h3)]
      omega
    · rw [if_neg h3] at h2
      rw [if_neg (by simpa using h3)]
      omega
theorem Win.chOk (h : Win S most period nw X U) (hm : 1 ≤ most) (hp : period ≠ 0) (hf : nw + period ≤ 18446744073709551615) (ht : thN X nw ≠ 0) : ChOk X nw period most := ⟨h.may, hm, h.len, hp, hf, ht⟩
theorem Win.bound (h : Win S most period nw X U) (m : Nat) : (((U.drop m).countP fun u => decide (nw < u + period) : Nat) : Int) ≤ S := by
  have h1 := h.inv nw (Int.le_refl _)
  have h2 := (totTo_bd nw h.ok).1
  have h3 : (U.drop m).countP (fun u => decide (nw < u + period)) ≤ U.countP fun u => decide (nw < u + period) := (List.drop_sublist m U).countP_le
  unfold outAt at h1
  omega
theorem count_drop {j : Nat} {u : Int} (p : Int → Bool) (hj : U[j]? = some u) (hu : p u = true) : (U.drop j).countP p = (U.drop (j + 1)).countP p + 1 := by
  obtain ⟨hl, rfl⟩ := List.getElem?_eq_some_iff.1 hj
  rw [List.drop_eq_getElem_cons hl, List.countP_cons, if_pos hu]
end
end Go.Proofs.Ytknodagcmachiaa.Fi

namespace Go.Proofs.Ytknodagcmachiaa.Cn
open Go.RowKit Ac Fi
set_option linter.unusedVariables false
set_option linter.unusedSimpArgs false

/-- The cells of an act. -/
def kA8 (j : Nat) : IntKind := match j with | 0 => .i64 | 1 => .i64 | 2 => .u64 | 3 => .i64 | _ => .u64
theorem a_act8 {w0 : World} {ao : Option Addr} {cap n : Nat} {A : Nat → Int} (h : ArgK w0 8 kA8 (.slice ao n cap) n A) {k : Nat} (hk : k < n) :
    ∃ b off, ao = some ⟨b, off, none⟩ ∧ ∃ x0 x1 x2 x3 x4 x5 x6 x7, U64 x2 ∧ U64 x4 ∧ U64 x5 ∧ U64 x6 ∧ U64 x7 ∧ ∀ (w : World) (F : Hp), Sat w0 F w → w.cell? ⟨b, off + k * 8, none⟩ = some (vi x0) ∧ w.cell? ⟨b, off + k * 8 + 1, none⟩ = some (vi x1) ∧ w.cell? ⟨b, off + k * 8 + 2, none⟩ = some (vu x2) ∧ w.cell? ⟨b, off + k * 8 + 3, none⟩ = some (vi x3) ∧ w.cell? ⟨b, off + k * 8 + 4, none⟩ = some (vu x4) ∧ w.cell? ⟨b, off + k * 8 + 5, none⟩ = some (vu x5) ∧ w.cell? ⟨b, off + k * 8 + 6, none⟩ = some (vu x6) ∧ w.cell? ⟨b, off + k * 8 + 7, none⟩ = some (vu x7) := by
  have hw2 := h.wf (k * 8 + 2) (by omega)
  rw [show (k * 8 + 2) % 8 = 2 by omega] at hw2
  have hw4 := h.wf (k * 8 + 4) (by omega)
  rw [show (k * 8 + 4) % 8 = 4 by omega] at hw4
  have hw5 := h.wf (k * 8 + 5) (by omega)
  rw [show (k * 8 + 5) % 8 = 5 by omega] at hw5
  have hw6 := h.wf (k * 8 + 6) (by omega)
  rw [show (k * 8 + 6) % 8 = 6 by omega] at hw6
  have hw7 := h.wf (k * 8 + 7) (by omega)
  rw [show (k * 8 + 7) % 8 = 7 by omega] at hw7
  rcases h.form with ⟨h0, _⟩ | ⟨b, off, c, hv, hb, hc⟩
  · omega
  · cases hv
    refine ⟨b, off, rfl, A (k * 8), A (k * 8 + 1), A (k * 8 + 2), A (k * 8 + 3), A (k * 8 + 4), A (k * 8 + 5), A (k * 8 + 6), A (k * 8 + 7), wf_U64 (show (Lit.int .u64 (A (k * 8 + 2))).wf = true from hw2), wf_U64 (show (Lit.int .u64 (A (k * 8 + 4))).wf = true from hw4), wf_U64 (show (Lit.int .u64 (A (k * 8 + 5))).wf = true from hw5), wf_U64 (show (Lit.int .u64 (A (k * 8 + 6))).wf = true from hw6), wf_U64 (show (Lit.int .u64 (A (k * 8 + 7))).wf = true from hw7), fun w F hS => ?_⟩
    · have g : ∀ j, j < n * 8 → w.cell? ⟨b, off + j, none⟩ = some (.int (kA8 (j % 8)) (A j)) := fun j hj => (hS.old (by exact hb)).trans (hc j hj)
      refine ⟨?_, ?_, ?_, ?_, ?_, ?_, ?_, ?_⟩
      · rw [g (k * 8) (by omega), show k * 8 % 8 = 0 by omega]; rfl
      · rw [Nat.add_assoc]; rw [g (k * 8 + 1) (by omega), show (k * 8 + 1) % 8 = 1 by omega]; rfl
      · rw [Nat.add_assoc]; rw [g (k * 8 + 2) (by omega), show (k * 8 + 2) % 8 = 2 by omega]; rfl
      · rw [Nat.add_assoc]; rw [g (k * 8 + 3) (by omega), show (k * 8 + 3) % 8 = 3 by omega]; rfl
      · rw [Nat.add_assoc]; rw [g (k * 8 + 4) (by omega), show (k * 8 + 4) % 8 = 4 by omega]; rfl
      · rw [Nat.add_assoc]; rw [g (k * 8 + 5) (by omega), show (k * 8 + 5) % 8 = 5 by omega]; rfl
      · rw [Nat.add_assoc]; rw [g (k * 8 + 6) (by omega), show (k * 8 + 6) % 8 = 6 by omega]; rfl
      · rw [Nat.add_assoc]; rw [g (k * 8 + 7) (by omega), show (k * 8 + 7) % 8 = 7 by omega]; rfl

section
variable {cs : List CP} {i g j t : Int} {n T : Nat} {most times b per nw : Int} {free : List Nat} {U : List Int}
theorem sC_far (hi : i ≠ 0) (x : Cx) : (sC cs i g x)[0]? = cs[0]? := by
  unfold sC
  cases hc : isC cs i g with
  | none => rfl
  | some y =>
    obtain ⟨k, d⟩ := y
    obtain ⟨c1, c2, c3, c4⟩ := isC_some hc
    exact List.getElem?_set_ne (by omega)
theorem chg_far (hi : i ≠ 0) (now : Int) : (chgL most cs i g now)[0]? = cs[0]? := by
  unfold chgL
  split
  · exact sC_far hi _
  · rfl
theorem mk_far (h : Inv n most T cs free times) {c : CP} (hc : cs[0]? = some c) (ht : c.there = true) (b p now : Int) : (mkL cs free b p now)[0]? = cs[0]? := by
  unfold mkL
  split
  · rename_i he
    obtain ⟨d, hd, hdt, _⟩ := h.mkAt he
    rw [hd]
    refine List.getElem?_set_ne (fun e => ?_)
    rw [e] at hd
    rw [hc] at hd
    cases hd
    rw [ht] at hdt
    cases hdt
  · rfl
theorem sp_far (h : Inv n most T cs free times) {c : CP} (hc : cs[0]? = some c) (ht : c.there = true) (hi : i ≠ 0) (amount now : Int) : (spL cs free i g amount now)[0]? = cs[0]? := by
  unfold spL
  split
  · exact (sC_far hi _).trans (mk_far h hc ht _ _ _)
  · rfl
/-- What is known while time goes on. -/
structure WIn (b per most nw : Int) (T : Nat) (cs : List CP) (free : List Nat) (U : List Int) : Prop where
  inv : Inv 8 most T cs free 0
  me : ∃ c, cs[0]? = some c ∧ c.there = true ∧ c.gen = 1 ∧ c.cx.b = b ∧ c.cx.p = per ∧ Win b most per nw c.cx.l U
theorem WIn.is (h : WIn b per most nw T cs free U) : ∃ c, isC cs 0 1 = some (0, c) ∧ gC cs 0 1 = c.cx ∧ eC cs 0 1 = 0 ∧ cs[0]? = some c ∧ c.there = true ∧ c.gen = 1 ∧ c.cx.b = b ∧ c.cx.p = per ∧ Win b most per nw c.cx.l U := by
  obtain ⟨c, h1, h2, h3, h4⟩ := h.me
  have := isC_of h1 h2
  rw [h3] at this
  exact ⟨c, this, (isC_gC this).1, (isC_gC this).2, h1, h2, h3, h4⟩
theorem WIn.far (h : WIn b per most nw T cs free U) {cs' : List CP} {free' : List Nat} {T' : Nat} (hI : Inv 8 most T' cs' free' 0) (h0 : cs'[0]? = cs[0]?) : WIn b per most nw T' cs' free' U :=
  ⟨hI, by rw [h0]; exact h.me⟩
theorem WIn.move (h : WIn b per most nw T cs free U) {nw' : Int} (hn : nw ≤ nw') : WIn b per most nw' T cs free U :=
  ⟨h.inv, by obtain ⟨c, h1, h2, h3, h4, h5, h6⟩ := h.me; exact ⟨c, h1, h2, h3, h4, h5, h6.move hn⟩⟩
theorem WIn.up (h : WIn b per most nw T cs free U) {T' : Nat} (hT : T ≤ T') : WIn b per most nw T' cs free U := ⟨h.inv.mono hT, h.me⟩
theorem WIn.can (h : WIn b per most nw T cs free U) (hp : 1 ≤ per) (hf : nw + per ≤ 18446744073709551615) : chgB most cs 0 1 nw = canB cs 0 1 nw := by
  obtain ⟨c, h1, h2, h3, h4, h5, h6, h7, h8, h9⟩ := h.is
  have hth := there_iff (now := nw) h9.may h9.ok
  have hm := h.inv.mst
  have hiff : chgB most cs 0 1 nw = true ↔ canB cs 0 1 nw = true := by
    rw [chgB_iff, h2, h3, h8]
    unfold canB
    rw [h2, h3]
    simp only [true_and, decide_eq_true_eq]
    rw [hth]
    constructor
    · intro hc
      exact hc.th
    · intro hc
      exact h9.chOk (by omega) (by omega) hf hc
  cases hx : chgB most cs 0 1 nw <;> cases hy : canB cs 0 1 nw
  · rfl
  · rw [hx, hy] at hiff
    exact absurd (hiff.2 rfl) (by simp)
  · rw [hx, hy] at hiff
    exact absurd (hiff.1 rfl) (by simp)
  · rfl
theorem WIn.step (h : WIn b per most nw T cs free U) (hp : 1 ≤ per) (hn : 0 ≤ nw) (hb : chgB most cs 0 1 nw = true) : WIn b per most nw (T + 1) (chgL most cs 0 1 nw) free (U ++ [nw]) := by
  obtain ⟨c, h1, h2, h3, h4, h5, h6, h7, h8, h9⟩ := h.is
  refine ⟨h.inv.chg nw hn, ?_⟩
  obtain ⟨_, hc⟩ := chgB_iff.1 hb
  rw [h2, h8] at hc
  have : chgL most cs 0 1 nw = cs.set 0 { c with cx := { c.cx with l := chargeL c.cx.l nw per most } } := by
    unfold chgL
    rw [if_pos hb]
    unfold sC
    rw [h1, h2, h8]
  rw [this]
  exact ⟨_, set_selfC h4 _, h5, h6, h7, h8, h9.step hc hn (by omega)⟩
theorem WIn.stay (h : WIn b per most nw T cs free U) (hb : chgB most cs 0 1 nw = false) : WIn b per most nw (T + 1) (chgL most cs 0 1 nw) free U := by
  have : chgL most cs 0 1 nw = cs := by
    unfold chgL
    rw [hb, if_neg (by simp)]
  rw [this]
  exact ⟨h.inv.mono (Nat.le_succ T), h.me⟩
theorem WIn.bind (h : WIn b per most nw T cs free U) : WIn b per most nw (T + 1) (bindL cs 0 1 1) free U := by
  obtain ⟨c, h1, h2, h3, h4, h5, h6, h7, h8, h9⟩ := h.is
  refine ⟨h.inv.bind 1 (by omega), ?_⟩
  unfold bindL
  split
  · unfold sC
    rw [h1]
    exact ⟨_, set_selfC h4 _, h5, h6, by rw [h2]; exact h7, by rw [h2]; exact h8, by rw [h2]; exact h9⟩
  · exact ⟨c, h4, h5, h6, h7, h8, h9⟩
/-- At the beginning. -/
theorem WIn.begin (hb : 1 ≤ b ∧ b ≤ 1000) (hp : 1 ≤ per ∧ per ≤ 4294967296) (hm : 2 ≤ most ∧ most ≤ 16) :
    mkE (newF 8 8) b per 0 = 0 ∧ mkI (newF 8 8) b per 0 = 0 ∧ mkG (newC 8) (newF 8 8) b per 0 = 1 ∧
    mkE (mkF (newF 8 8) b per 0) 7 3 0 = 0 ∧ mkI (mkF (newF 8 8) b per 0) 7 3 0 = 1 ∧ mkG (mkL (newC 8) (newF 8 8) b per 0) (mkF (newF 8 8) b per 0) 7 3 0 = 1 ∧
    Inv 8 most 1 (mkL (newC 8) (newF 8 8) b per 0) (mkF (newF 8 8) b per 0) 0 ∧
    WIn b per most 0 2 (mkL (mkL (newC 8) (newF 8 8) b per 0) (mkF (newF 8 8) b per 0) 7 3 0) (mkF (mkF (newF 8 8) b per 0) 7 3 0) [] := by
  have hk : MkOk b per 0 := ⟨by omega, by omega, by omega, by omega, by omega⟩
  have hI0 := Inv.new 8 ⟨by omega, by omega⟩ most hm
  have hI1 := hI0.mk_ b per 0 (by omega)
  have hI2 := hI1.mk_ 7 3 0 (by omega)
  have e1 : mkE (newF 8 8) b per 0 = 0 := by unfold mkE; rw [if_pos hk, if_neg (by decide)]
  have eF : mkF (newF 8 8) b per 0 = [7, 6, 5, 4, 3, 2, 1] := by unfold mkF; rw [if_pos e1]; decide
  have eL : mkL (newC 8) (newF 8 8) b per 0 = (newC 8).set 0 ⟨1, true, ⟨b, per, [⟨b, 0⟩], 0⟩, -1⟩ := by unfold mkL; rw [if_pos e1]; rfl
  have e2 : mkE (mkF (newF 8 8) b per 0) 7 3 0 = 0 := by rw [eF]; decide
  refine ⟨e1, by unfold mkI; rw [if_pos e1]; decide, by unfold mkG; rw [if_pos e1]; decide, e2, by unfold mkI; rw [if_pos e2, eF]; decide, ?_, hI1, hI2, ?_⟩
  · unfold mkG
    rw [if_pos e2, eF, eL]
    rfl
  · have hc0 : (mkL (newC 8) (newF 8 8) b per 0)[0]? = some ⟨1, true, ⟨b, per, [⟨b, 0⟩], 0⟩, -1⟩ := by rw [eL]; rfl
    refine ⟨_, (mk_far hI1 hc0 rfl 7 3 0).trans hc0, rfl, rfl, rfl, rfl, ?_⟩
    have hl := Live.one (most := most) hk (by omega) hm.1 0
    have := Win.start (period := per) (nw := 0) hl.may hl.ok hl.len
    rw [hl.tot] at this
    exact this
end
end Go.Proofs.Ytknodagcmachiaa.Cn

namespace Go.Proofs.Ytknodagcmachiaa.Cn
open Go.RowKit Ac Fi
set_option linter.unusedVariables false
set_option linter.unusedSimpArgs false

/-- An act. -/
structure Act8 where
  k : Int
  i : Int
  g : Int
  j : Int
  t : Int
  a : Int
  b : Int
  now : Int
structure Act8.Ok (x : Act8) : Prop where
  g : U64 x.g
  t : U64 x.t
  a : U64 x.a
  b : U64 x.b
  now : U64 x.now
abbrev Act8.cells (x : Act8) : List Value := [vi x.k, vi x.i, vu x.g, vi x.j, vu x.t, vu x.a, vu x.b, vu x.now]
abbrev Act8.val (x : Act8) : Value := .agg #[vi x.k, vi x.i, vu x.g, vi x.j, vu x.t, vu x.a, vu x.b, vu x.now]
/-- Contexts plainly: places, which are free, how many went. -/
structure CS where
  cs : List CP
  free : List Nat
  times : Int
open Classical in
noncomputable def stepS (most : Int) (s : CS) (x : Act8) : CS :=
  if x.k = 1 then ⟨mkL s.cs s.free x.a x.b x.now, mkF s.free x.a x.b x.now, s.times⟩
  else if x.k = 2 then ⟨bindL s.cs x.i x.g 1, s.free, s.times⟩
  else if x.k = 3 then ⟨bindL s.cs x.i x.g (-1), s.free, s.times⟩
  else if x.k = 4 then ⟨chgL most s.cs x.i x.g x.now, s.free, s.times⟩
  else if x.k = 5 then ⟨spL s.cs s.free x.i x.g x.a x.now, spF s.cs s.free x.i x.g x.a x.now, s.times⟩
  else if x.k = 6 then ⟨doL most s.cs x.i x.g x.j x.t x.a x.now, s.free, s.times⟩
  else if x.k = 7 then ⟨drL s.cs x.i x.g s.times, drF s.cs s.free x.i x.g, drT s.cs x.i x.g s.times⟩
  else s
def InvS (n : Nat) (most : Int) (T : Nat) (s : CS) : Prop := Inv n most T s.cs s.free s.times
section
variable {n T : Nat} {most : Int} {s : CS} {x : Act8}
theorem InvS.mono (h : InvS n most T s) {T' : Nat} (ht : T ≤ T') : InvS n most T' s := Inv.mono h ht
theorem InvS.step (h : InvS n most T s) (hx : x.Ok) : InvS n most (T + 2) (stepS most s x) := by
  have h0 : Inv n most T s.cs s.free s.times := h
  have h2 : T + 1 ≤ T + 2 := by omega
  unfold stepS
  split
  · exact Inv.mono (h0.mk_ _ _ _ hx.now.1) h2
  split
  · exact Inv.mono (h0.bind 1 (by omega)) h2
  split
  · exact Inv.mono (h0.bind (-1) (by omega)) h2
  split
  · exact Inv.mono (h0.chg _ hx.now.1) h2
  split
  · exact h0.sp _ _ hx.a.1 hx.now.1
  split
  · exact h0.do_ _ _ hx.a.1 hx.now
  split
  · exact Inv.mono h0.dr h2
  · exact Inv.mono h0 (by omega)
end
/-- Both, side by side. -/
abbrev bothC (h q : Nat) (most : Int) (L0 L1 : Blks) (s : CS) (F : Hp) : Hp := cxQ L0 h most s.cs s.free * (cyQ L1 q most s.cs s.times * F)
def DoC (w0 : World) (h q : Nat) (most : Int) (L0 L1 : Blks) (s : CS) (F : Hp) (e : Ending) (w' : World) : Prop := e = .returned (.bool true) ∧ Sat w0 (bothC h q most L0 L1 s F) w'
end Go.Proofs.Ytknodagcmachiaa.Cn
