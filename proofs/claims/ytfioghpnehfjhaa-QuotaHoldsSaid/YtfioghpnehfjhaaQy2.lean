/-
  Law 10: QuotaHolds: its contracts over what is used. No statement is proved here.
-/
import Derived.Test.YtfioghpnehfjhaaQy1
import Derived.Test.YtfioghpnehfjhaaQp4
import Derived.Test.YtfioghpnehfjhaaArgs5
namespace Go.Proofs.Ytfioghpnehfjhaa.Dm
open Go.RowKit Ad
set_option linter.unusedVariables false

section
variable {w0 w : World} {F : Hp} {d p : Nat} {ps : List Pl} {m : Nat} {fr : List Nat}
theorem DInv.seen_per_wu (h : DInv ps m) (u : Nat → Int) : ∀ x ∈ seen (wu ps u) (wu ps u).length, x.2.2.v4 ≠ 0 := by
  intro x hx
  obtain ⟨a, hk, ha, ht, hx⟩ := seen_mem.1 hx
  rw [wu_at] at ha
  cases hb : ps[x.1]? with
  | none => rw [hb] at ha; cases ha
  | some b =>
    rw [hb] at ha
    cases ha
    have : (x.1, b.gen, b.x) ∈ seen ps ps.length := seen_mem.2 ⟨b, by rw [wu_len] at hk; exact hk, hb, ht, rfl⟩
    have h4 := (h.seen_per _ this).1
    rw [hx]
    show b.x.v4 ≠ 0
    dsimp only at h4
    omega
theorem w_reset (h : DInv ps m) (n : Int) (u : Nat → Int) (hS : Sat w0 (domB d p * (tblP p (wu ps u) fr * F)) w) : Calls Try.prog 15 #[vp d, vu n] w fun e w' => (∃ v, e = .returned v) ∧ Sat w0 (domB d p * (tblP p (wu ps (rsU ps m n u)) fr * F)) w' := by
  have hl : (wu ps u).length ≤ 4096 := by rw [wu_len, h.len]; omega
  refine (q_reset_l n (seen (wu ps u) (wu ps u).length) (fun w hh => dm_all hh hl) (h.seen_per_wu u) (Nat.le_trans (seen_len _ _) hl) hS).mono ?_
  rintro e w' ⟨v, rfl, h2⟩
  rw [h.reset_all u n] at h2
  exact ⟨⟨v, rfl⟩, h2.dropL⟩
theorem w_get (h : DInv ps m) (u : Nat → Int) {k : Nat} (hk : k < m) (hS : Sat w0 (domB d p * (tblP p (wu ps u) fr * F)) w) : Calls Try.prog 16 #[vp d, vr k 1] w fun e w' => e = .returned (.tuple #[ev { getX ps k 1 with v9 := u k }, vi 0]) ∧ Sat w0 (domB d p * (tblP p (wu ps u) fr * F)) w' := by
  have h1 := dm_get hS k 1
  obtain ⟨a, ha, ht, hg, _⟩ := h.here k hk
  rw [h.getX_wu u hk, getE_wu, (getE_here ha ht hg).1] at h1
  exact h1
theorem w_chain {cn : Nat → List Nat} (hi : DInv ps m) (hc : CnOk ps m cn) (u : Nat → Int) {k : Nat} (hk : k < m) (hS : Sat w0 (domB d p * (tblP p (wu ps u) fr * F)) w) :
    Calls Try.prog 17 #[vp d, vr k 1] w fun e w' => ∃ v, e = .returned v ∧ Sat w0 (sl 32 2 v (cn k).length (frefs ((cn k).map rf)) * (domB d p * (tblP p (wu ps u) fr * F))) w' := by
  have h := dm_chain hS k 1 _ (Ch_wu ps u _ _ (hc.ch k hk)) (by have := hc.len hk; have := hi.le; omega)
  rw [List.length_map] at h
  exact h
end
end Go.Proofs.Ytfioghpnehfjhaa.Dm
