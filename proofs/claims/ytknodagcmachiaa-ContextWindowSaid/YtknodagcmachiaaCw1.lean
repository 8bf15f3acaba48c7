/-
  Law 08: acts as arguments; the plain law of ContextWindow. No statement is proved here.
-/
import Derived.Test.YtknodagcmachiaaCm6
import Derived.Test.YtknodagcmachiaaWn
namespace Go.Proofs.Ytknodagcmachiaa.Cn
open Go.RowKit Ac Fi
set_option linter.unusedVariables false
set_option linter.unusedSimpArgs false

/-- The cells of an act. -/
def kA8 (j : Nat) : IntKind := match j with | 0 => .i64 | 1 => .i64 | 2 => .u64 | 3 => .i64 | _ => .u64
theorem a_act8 {w0 : World} {ao : Option Addr} {cap n : Nat} {A : Nat → Int} (h : ArgK w0 8 kA8 (.slice ao n cap) n A) {k : Nat} (hk : k < n) :
    ∃ b off, ao = some ⟨b, off, none⟩ ∧ ∃ x0 x1 x2 x3 x4 x5 x6 x7, U64 x2 ∧ U64 x4 ∧ U64 x5 ∧ U64 x6 ∧ U64 x7 ∧ ∀ (w : World) (F : Hp), Sat w0 F w → w.cell? ⟨b, off + k * 8, none⟩ = some (vi x0) ∧ w.cell? ⟨b, off + k * 8 + 1, none⟩ = some (vi x1) ∧ w.cell? ⟨b, off + k * 8 + 2, none⟩ = some (vu x2) ∧ w.cell? ⟨b, off + k * 8 + 3, none⟩ = some (vi x3) ∧ w.cell? ⟨b, off + k * 8 + 4, none⟩ = some (vu x4) ∧ w.cell? ⟨b, off + k * 8 + 5, none⟩ = some (vu x5) ∧ w.cell? ⟨b, off + k * 8 + 6, none⟩ = some (vu x6) ∧ w.cell? ⟨b, off + k * 8 + 7, none⟩ = some (vu x7) := by
  have hw2 := h.wf (k * 8 + 2) (by omega)
  rw [show (k * 8 + 2) % 8 = 2 by omega] at hw2
  have hw4 := h.wf (k * 8 + 4) (by omega)
  rw [show (k * 8 + 4) % 8 = 4 by omega] at hw4
  have hw5 := h.wf (k * 8 + 5) (by omega)
  rw [show (k * 8 + 5) % 8 = 5 by omega] at hw5
  have hw6 := h.wf (k * 8 + 6) (by omega)
  rw [show (k * 8 + 6) % 8 = 6 by omega] at hw6
  have hw7 := h.wf (k * 8 + 7) (by omega)
  rw [show (k * 8 + 7) % 8 = 7 by omega] at hw7
  rcases h.form with ⟨h0, _⟩ | ⟨b, off, c, hv, hb, hc⟩
  · omega
  · cases hv
    refine ⟨b, off, rfl, A (k * 8), A (k * 8 + 1), A (k * 8 + 2), A (k * 8 + 3), A (k * 8 + 4), A (k * 8 + 5), A (k * 8 + 6), A (k * 8 + 7), wf_U64 (show (Lit.int .u64 (A (k * 8 + 2))).wf = true from hw2), wf_U64 (show (Lit.int .u64 (A (k * 8 + 4))).wf = true from hw4), wf_U64 (show (Lit.int .u64 (A (k * 8 + 5))).wf = true from hw5), wf_U64 (show (Lit.int .u64 (A (k * 8 + 6))).wf = true from hw6), wf_U64 (show (Lit.int .u64 (A (k * 8 + 7))).wf = true from hw7), fun w F hS => ?_⟩
    · have g : ∀ j, j < n * 8 → w.cell? ⟨b, off + j, none⟩ = some (.int (kA8 (j % 8)) (A j)) := fun j hj => (hS.old (by exact hb)).trans (hc j hj)
      refine ⟨?_, ?_, ?_, ?_, ?_, ?_, ?_, ?_⟩
      · rw [g (k * 8) (by omega), show k * 8 % 8 = 0 by omega]; rfl
      · rw [Nat.add_assoc]; rw [g (k * 8 + 1) (by omega), show (k * 8 + 1) % 8 = 1 by omega]; rfl
      · rw [Nat.add_assoc]; rw [g (k * 8 + 2) (by omega), show (k * 8 + 2) % 8 = 2 by omega]; rfl
      · rw [Nat.add_assoc]; rw [g (k * 8 + 3) (by omega), show (k * 8 + 3) % 8 = 3 by omega]; rfl
      · rw [Nat.add_assoc]; rw [g (k * 8 + 4) (by omega), show (k * 8 + 4) % 8 = 4 by omega]; rfl
      · rw [Nat.add_assoc]; rw [g (k * 8 + 5) (by omega), show (k * 8 + 5) % 8 = 5 by omega]; rfl
      · rw [Nat.add_assoc]; rw [g (k * 8 + 6) (by omega), show (k * 8 + 6) % 8 = 6 by omega]; rfl
      · rw [Nat.add_assoc]; rw [g (k * 8 + 7) (by omega), show (k * 8 + 7) % 8 = 7 by omega]; rfl

section
variable {cs : List CP} {i g j t : Int} {n T : Nat} {most times b per nw : Int} {free : List Nat} {U : List Int}
theorem sC_far (hi : i ≠ 0) (x : Cx) : (sC cs i g x)[0]? = cs[0]? := by
  unfold sC
  cases hc : isC cs i g with
  | none => rfl
  | some y =>
    obtain ⟨k, d⟩ := y
    obtain ⟨c1, c2, c3, c4⟩ := isC_some hc
    exact List.getElem?_set_ne (by omega)
theorem chg_far (hi : i ≠ 0) (now : Int) : (chgL most cs i g now)[0]? = cs[0]? := by
  unfold chgL
  split
  · exact sC_far hi _
  · rfl
theorem mk_far (h : Inv n most T cs free times) {c : CP} (hc : cs[0]? = some c) (ht : c.there = true) (b p now : Int) : (mkL cs free b p now)[0]? = cs[0]? := by
  unfold mkL
  split
  · rename_i he
    obtain ⟨d, hd, hdt, _⟩ := h.mkAt he
    rw [hd]
    refine List.getElem?_set_ne (fun e => ?_)
    rw [e] at hd
    rw [hc] at hd
    cases hd
    rw [ht] at hdt
    cases hdt
  · rfl
theorem sp_far (h : Inv n most T cs free times) {c : CP} (hc : cs[0]? = some c) (ht : c.there = true) (hi : i ≠ 0) (amount now : Int) : (spL cs free i g amount now)[0]? = cs[0]? := by
  unfold spL
  split
  · exact (sC_far hi _).trans (mk_far h hc ht _ _ _)
  · rfl
/-- What is known while time goes on. -/
structure WIn (b per most nw : Int) (T : Nat) (cs : List CP) (free : List Nat) (U : List Int) : Prop where
  inv : Inv 8 most T cs free 0
  me : ∃ c, cs[0]? = some c ∧ c.there = true ∧ c.gen = 1 ∧ c.cx.b = b ∧ c.cx.p = per ∧ Win b most per nw c.cx.l U
theorem WIn.is (h : WIn b per most nw T cs free U) : ∃ c, isC cs 0 1 = some (0, c) ∧ gC cs 0 1 = c.cx ∧ eC cs 0 1 = 0 ∧ cs[0]? = some c ∧ c.there = true ∧ c.gen = 1 ∧ c.cx.b = b ∧ c.cx.p = per ∧ Win b most per nw c.cx.l U := by
  obtain ⟨c, h1, h2, h3, h4⟩ := h.me
  have := isC_of h1 h2
  rw [h3] at this
  exact ⟨c, this, (isC_gC this).1, (isC_gC this).2, h1, h2, h3, h4⟩
theorem WIn.far (h : WIn b per most nw T cs free U) {cs' : List CP} {free' : List Nat} {T' : Nat} (hI : Inv 8 most T' cs' free' 0) (h0 : cs'[0]? = cs[0]?) : WIn b per most nw T' cs' free' U :=
  ⟨hI, by rw [h0]; exact h.me⟩
theorem WIn.move (h : WIn b per most nw T cs free U) {nw' : Int} (hn : nw ≤ nw') : WIn b per most nw' T cs free U :=
  ⟨h.inv, by obtain ⟨c, h1, h2, h3, h4, h5, h6⟩ := h.me; exact ⟨c, h1, h2, h3, h4, h5, h6.move hn⟩⟩
theorem WIn.up (h : WIn b per most nw T cs free U) {T' : Nat} (hT : T ≤ T') : WIn b per most nw T' cs free U := ⟨h.inv.mono hT, h.me⟩
theorem WIn.can (h : WIn b per most nw T cs free U) (hp : 1 ≤ per) (hf : nw + per ≤ 18446744073709551615) : chgB most cs 0 1 nw = canB cs 0 1 nw := by
  obtain ⟨c, h1, h2, h3, h4, h5, h6, h7, h8, h9⟩ := h.is
  have hth := there_iff (now := nw) h9.may h9.ok
  have hm := h.inv.mst
  have hiff : chgB most cs 0 1 nw = true ↔ canB cs 0 1 nw = true := by
    rw [chgB_iff, h2, h3, h8]
    unfold canB
    rw [h2, h3]
    simp only [true_and, decide_eq_true_eq]
    rw [hth]
    constructor
    · intro hc
      exact hc.th
    · intro hc
      exact h9.chOk (by omega) (by omega) hf hc
  cases hx : chgB most cs 0 1 nw <;> cases hy : canB cs 0 1 nw
  · rfl
  · rw [hx, hy] at hiff
    exact absurd (hiff.2 rfl) (by simp)
  · rw [hx, hy] at hiff
    exact absurd (hiff.1 rfl) (by simp)
  · rfl
theorem WIn.step (h : WIn b per most nw T cs free U) (hp : 1 ≤ per) (hn : 0 ≤ nw) (hb : chgB most cs 0 1 nw = true) : WIn b per most nw (T + 1) (chgL most cs 0 1 nw) free (U ++ [nw]) := by
  obtain ⟨c, h1, h2, h3, h4, h5, h6, h7, h8, h9⟩ := h.is
  refine ⟨h.inv.chg nw hn, ?_⟩
  obtain ⟨_, hc⟩ := chgB_iff.1 hb
  rw [h2, h8] at hc
  have : chgL most cs 0 1 nw = cs.set 0 { c with cx := { c.cx with l := chargeL c.cx.l nw per most } } := by
    unfold chgL
    rw [if_pos hb]
    unfold sC
    rw [h1, h2, h8]
  rw [this]
  exact ⟨_, set_selfC h4 _, h5, h6, h7, h8, h9.step hc hn (by omega)⟩
theorem WIn.stay (h : WIn b per most nw T cs free U) (hb : chgB most cs 0 1 nw = false) : WIn b per most nw (T + 1) (chgL most cs 0 1 nw) free U := by
  have : chgL most cs 0 1 nw = cs := by
    unfold chgL
    rw [hb, if_neg (by simp)]
  rw [this]
  exact ⟨h.inv.mono (Nat.le_succ T), h.me⟩
theorem WIn.bind (h : WIn b per most nw T cs free U) : WIn b per most nw (T + 1) (bindL cs 0 1 1) free U := by
  obtain ⟨c, h1, h2, h3, h4, h5, h6, h7, h8, h9⟩ := h.is
  refine ⟨h.inv.bind 1 (by omega), ?_⟩
  unfold bindL
  split
  · unfold sC
    rw [h1]
    exact ⟨_, set_selfC h4 _, h5, h6, by rw [h2]; exact h7, by rw [h2]; exact h8, by rw [h2]; exact h9⟩
  · exact ⟨c, h4, h5, h6, h7, h8, h9⟩
/-- At the beginning. -/
theorem WIn.begin (hb : 1 ≤ b ∧ b ≤ 1000) (hp : 1 ≤ per ∧ per ≤ 4294967296) (hm : 2 ≤ most ∧ most ≤ 16) :
    mkE (newF 8 8) b per 0 = 0 ∧ mkI (newF 8 8) b per 0 = 0 ∧ mkG (newC 8) (newF 8 8) b per 0 = 1 ∧
    mkE (mkF (newF 8 8) b per 0) 7 3 0 = 0 ∧ mkI (mkF (newF 8 8) b per 0) 7 3 0 = 1 ∧ mkG (mkL (newC 8) (newF 8 8) b per 0) (mkF (newF 8 8) b per 0) 7 3 0 = 1 ∧
    Inv 8 most 1 (mkL (newC 8) (newF 8 8) b per 0) (mkF (newF 8 8) b per 0) 0 ∧
    WIn b per most 0 2 (mkL (mkL (newC 8) (newF 8 8) b per 0) (mkF (newF 8 8) b per 0) 7 3 0) (mkF (mkF (newF 8 8) b per 0) 7 3 0) [] := by
  have hk : MkOk b per 0 := ⟨by omega, by omega, by omega, by omega, by omega⟩
  have hI0 := Inv.new 8 ⟨by omega, by omega⟩ most hm
  have hI1 := hI0.mk_ b per 0 (by omega)
  have hI2 := hI1.mk_ 7 3 0 (by omega)
  have e1 : mkE (newF 8 8) b per 0 = 0 := by unfold mkE; rw [if_pos hk, if_neg (by decide)]
  have eF : mkF (newF 8 8) b per 0 = [7, 6, 5, 4, 3, 2, 1] := by unfold mkF; rw [if_pos e1]; decide
  have eL : mkL (newC 8) (newF 8 8) b per 0 = (newC 8).set 0 ⟨1, true, ⟨b, per, [⟨b, 0⟩], 0⟩, -1⟩ := by unfold mkL; rw [if_pos e1]; rfl
  have e2 : mkE (mkF (newF 8 8) b per 0) 7 3 0 = 0 := by rw [eF]; decide
  refine ⟨e1, by unfold mkI; rw [if_pos e1]; decide, by unfold mkG; rw [if_pos e1]; decide, e2, by unfold mkI; rw [if_pos e2, eF]; decide, ?_, hI1, hI2, ?_⟩
  · unfold mkG
    rw [if_pos e2, eF, eL]
    rfl
  · have hc0 : (mkL (newC 8) (newF 8 8) b per 0)[0]? = some ⟨1, true, ⟨b, per, [⟨b, 0⟩], 0⟩, -1⟩ := by rw [eL]; rfl
    refine ⟨_, (mk_far hI1 hc0 rfl 7 3 0).trans hc0, rfl, rfl, rfl, rfl, ?_⟩
    have hl := Live.one (most := most) hk (by omega) hm.1 0
    have := Win.start (period := per) (nw := 0) hl.may hl.ok hl.len
    rw [hl.tot] at this
    exact this
end
end Go.Proofs.Ytknodagcmachiaa.Cn
