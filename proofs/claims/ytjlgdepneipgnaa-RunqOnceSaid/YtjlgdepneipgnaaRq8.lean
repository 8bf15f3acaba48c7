/-
  The reference's queue of chapter 05: Take where one is next, and is put. No statement is proved here.
-/
import Derived.Test.YtjlgdepneipgnaaRq7
namespace Go.Proofs.Ytjlgdepneipgnaa.Rq
open Go.RowKit
set_option linter.unusedVariables false

section
variable {w0 w : World} {F : Hp} {q r m : Nat} {vL vN : Value} {xs : List Int} {z : Int} {b : Bool}
/-- The first one is taken: the list's slice goes on. -/
theorem headOff {A : Hp} {g off cap2 : Nat} {x : Int} {t : List Int} (h : Sat w0 (rqB q m (.slice (some ⟨g, off, none⟩) (t.length + 1) cap2) vN * (rs 3 (.slice (some ⟨g, off, none⟩) (t.length + 1) cap2) (vi x :: t.map vi) * A)) w) (o : Nat) (ho : o = off + 1 ∨ t = []) (v' : Value) (hv : v' = Value.slice (some ⟨g, o, none⟩) t.length (cap2 - 1)) :
    RdI (w.setCell ⟨q, 0, none⟩ v') (.slice (some ⟨g, off, none⟩) 1 cap2) [x] ∧ Sat w0 (rqB q m v' vN * (rs 3 v' (t.map vi) * A)) (w.setCell ⟨q, 0, none⟩ v') := by
  have h1 := h.store 0 v'
  have h2 : RdI (w.setCell ⟨q, 0, none⟩ v') (.slice (some ⟨g, off, none⟩) (t.length + 1) cap2) (x :: t) := rsRdI (ys := x :: t) h1.pull2
  have h3 := h2.pre (k := 1) (by simp) (by simp)
  refine ⟨h3, ?_⟩
  have h4 := rsTail h1.pull2 o (ho.imp id fun e => by rw [e]; rfl)
  rw [List.length_map] at h4
  rw [← hv] at h4
  exact h4.pull2
theorem putL_cons (hl : xs.length ≤ m) (hm1 : 2 ≤ m) (z : Int) : ∃ x t, putL m xs z = x :: t ∧ t.length ≤ m := by
  have hlen : 1 ≤ (putL m xs z).length ∧ (putL m xs z).length ≤ m + 1 := by
    unfold putL
    split
    · simp; omega
    · rw [List.length_drop]; omega
  cases hp : putL m xs z with
  | nil => rw [hp] at hlen; simp at hlen
  | cons x t => rw [hp] at hlen; exact ⟨x, t, rfl, by simp at hlen; omega⟩
set_option maxRecDepth 100000 in
set_option maxHeartbeats 4000000 in
theorem r_take_put (h : Sat w0 (rqB q m vL vN * (rs 3 vL (xs.map vi) * (rs 3 vN ((nsOf z true).map vi) * F))) w) (hl : xs.length ≤ m) (hm1 : 2 ≤ m) (hm : m ≤ 4096) {x : Int} {t : List Int} (hp : putL m xs z = x :: t) (ht : t.length ≤ m) :
    Calls Try.prog 54 #[vp q, .bool false] w fun e w' => ∃ v vL' u, e = .returned (.tuple #[v, .bool false, u]) ∧ RdI w' v [x] ∧
      Sat w0 (rqB q m vL' (.slice none 0 0) * (rs 3 vL' (t.map vi) * (sl 3 1 u (spillL m xs z).length ((spillL m xs z).map vi) * (rs 3 (.slice none 0 0) [] * F)))) w' := by
  have c2 := h.cell 2 rfl
  have f2 := h.free 2
  have h3 := h.store 2 (.slice none 0 0)
  obtain ⟨bN, off, cap, rfl, hne, cN⟩ : ∃ bN off cap, vN = .slice (some ⟨bN, off, none⟩) 1 cap ∧ bN ≠ q ∧ w.cell? ⟨bN, off, none⟩ = some (vi z) := by
    rcases h.pull3.rsE with ⟨_, h0, _⟩ | ⟨bN, off, cap, cur, hv, _, _, hS, hc⟩
    · cases h0
    · refine ⟨bN, off, cap, hv, hS.ne, ?_⟩
      have hx := hc 0 (vi z) rfl
      have := hS.cell _ hx
      simpa using this
  have h4 : Sat w0 (rqB q m vL (.slice none 0 0) * (rs 3 vL (xs.map vi) * F)) (w.setCell ⟨q, 2, none⟩ (.slice none 0 0)) := h3.drop3
  have HP := Lib.hid (r_put h4 hl hm1 hm z)
  rw [hp] at HP
  clear h h3 h4 hp
  go_enter Try.func54, Try.ntmps54
  go_wp2_with fail
  refine HP.out.mono ?_
  rintro e w2 ⟨v2, vL', rfl, hS⟩
  obtain ⟨g, o2, cap2, e, hcap⟩ := rsForm hS.pull3
  have e : vL' = .slice (some ⟨g, o2, none⟩) (t.length + 1) cap2 := by
    rw [e]
    simp
  have hcap : t.length + 1 ≤ cap2 := by simpa using hcap
  subst e
  have hS5 := hS.rot3
  have d0 := hS.pull2.cell 0 rfl
  have f0 := hS.pull2.free 0
  have hcap1 : (1 : Int) ≤ (cap2 : Int) := by omega
  have hcap3 : 1 ≤ cap2 := by omega
  have HH : Hid (∀ o, (o = o2 + 1 ∨ t = []) → ∀ v', v' = Value.slice (some ⟨g, o, none⟩) t.length (cap2 - 1) → RdI (w2.setCell ⟨q, 0, none⟩ v') (.slice (some ⟨g, o2, none⟩) 1 cap2) [x] ∧ Sat w0 (rqB q m v' (.slice none 0 0) * (rs 3 v' (t.map vi) * (sl 3 1 v2 (spillL m xs z).length ((spillL m xs z).map vi) * F))) (w2.setCell ⟨q, 0, none⟩ v')) := Lib.hid fun o ho v' hv => headOff hS5 o ho v' hv
  clear hS hS5
  by_cases hck : cap2 = 1
  · have ht0 : t = [] := List.eq_nil_of_length_eq_zero (by omega)
    have HF := Lib.hid (HH.out o2 (.inr ht0) _ rfl)
    subst ht0
    subst hck
    clear HH
    go_wp2
    go_ret3
    exact ⟨.slice (some ⟨g, o2, none⟩) 1 1, .slice (some ⟨g, o2, none⟩) 0 0, v2, rfl, HF.out.1, (HF.out.2.rsNil 3).pull4.cast (by ac_rfl)⟩
  · have HF := Lib.hid (HH.out (o2 + 1) (.inl rfl) _ rfl)
    clear HH
    go_wp2
    go_ret3
    exact ⟨.slice (some ⟨g, o2, none⟩) 1 cap2, .slice (some ⟨g, o2 + 1, none⟩) t.length (cap2 - 1), v2, rfl, HF.out.1, (HF.out.2.rsNil 3).pull4.cast (by ac_rfl)⟩
end
end Go.Proofs.Ytjlgdepneipgnaa.Rq
