/-
  The reference's queue of chapter 05: Take where nobody is next. No statement is proved here.
-/
import Derived.Test.YtjlgdepneipgnaaRq6
namespace Go.Proofs.Ytjlgdepneipgnaa.Rq
open Go.RowKit
set_option linter.unusedVariables false

section
variable {w0 w : World} {F : Hp} {q r m : Nat} {vL vN : Value} {xs : List Int} {z : Int} {b : Bool}
theorem rsTail {T : TypeId} {g off cap n : Nat} {y : Value} {ys : List Value} (h : Sat w0 (rs T (.slice (some ⟨g, off, none⟩) n cap) (y :: ys) * F) w) (o : Nat) (ho : o = off + 1 ∨ ys = []) :
    Sat w0 (rs T (.slice (some ⟨g, o, none⟩) ys.length (cap - 1)) ys * F) w := by
  rcases h.rsE with ⟨_, h0, _⟩ | ⟨g', off', cap', cur, hv, h1, h2, hS, hc⟩
  · cases h0
  · cases hv
    simp only [List.length_cons] at h1
    refine hS.rsI (by omega) (by omega) fun j u hj => ?_
    rcases ho with rfl | rfl
    · have := hc (j + 1) u (by simpa using hj)
      rw [show off + 1 + j = off + (j + 1) by omega]
      exact this
    · simp at hj
theorem rsForm {T : TypeId} {v y : Value} {ys : List Value} (h : Sat w0 (rs T v (y :: ys) * F) w) : ∃ g off cap, v = .slice (some ⟨g, off, none⟩) (ys.length + 1) cap ∧ ys.length + 1 ≤ cap := by
  rcases h.rsE with ⟨_, h0, _⟩ | ⟨g', off', cap', cur, hv, h1, h2, hS, hc⟩
  · cases h0
  · exact ⟨g', off', cap', hv, h1⟩
set_option maxHeartbeats 1000000 in
theorem r_take_nil (h : Sat w0 (rqB q m vL vN * (rs 3 vL [] * (rs 3 vN [] * F))) w) (c : Bool) :
    Calls Try.prog 54 #[vp q, .bool c] w fun e w' => e = .returned (.tuple #[.slice none 0 0, .bool false, .slice none 0 0]) ∧ w = w' := by
  have c0 := h.cell 0 rfl
  have c2 := h.cell 2 rfl
  obtain ⟨ao, cap, rfl⟩ : ∃ ao cap, vN = .slice ao 0 cap := Rd.len h.pull3.rsRd
  obtain ⟨bo, cap2, rfl⟩ : ∃ ao cap, vL = .slice ao 0 cap := Rd.len h.pull2.rsRd
  clear h
  cases c
  all_goals
    go_enter Try.func54, Try.ntmps54
    go_wp2
    go_ret3
    exact ⟨rfl, rfl⟩
set_option maxRecDepth 100000 in
set_option maxHeartbeats 2000000 in
theorem r_take_one {x : Int} {t : List Int} (h : Sat w0 (rqB q m vL vN * (rs 3 vL (vi x :: t.map vi) * (rs 3 vN [] * F))) w) (ht : t.length ≤ 4096) (c : Bool) :
    Calls Try.prog 54 #[vp q, .bool c] w fun e w' => ∃ v vL', e = .returned (.tuple #[v, .bool false, .slice none 0 0]) ∧ RdI w' v [x] ∧ Sat w0 (rqB q m vL' vN * (rs 3 vL' (t.map vi) * (rs 3 vN [] * F))) w' := by
  have c0 := h.cell 0 rfl
  have c2 := h.cell 2 rfl
  have f0 := h.free 0
  obtain ⟨ao, cap, rfl⟩ : ∃ ao cap, vN = .slice ao 0 cap := Rd.len h.pull3.rsRd
  obtain ⟨g, off, cap2, e, hcap⟩ := rsForm h.pull2
  rw [List.length_map] at e hcap
  subst e
  have hcap1 : (1 : Int) ≤ (cap2 : Int) := by omega
  have hcap3 : 1 ≤ cap2 := by omega
  have HT : Hid (∀ o, (o = off + 1 ∨ t = []) → ∀ v', v' = Value.slice (some ⟨g, o, none⟩) t.length (cap2 - 1) → RdI (w.setCell ⟨q, 0, none⟩ v') (.slice (some ⟨g, off, none⟩) 1 cap2) [x] ∧ Sat w0 (rqB q m v' (.slice ao 0 cap) * (rs 3 v' (t.map vi) * (rs 3 (.slice ao 0 cap) [] * F))) (w.setCell ⟨q, 0, none⟩ v')) := Lib.hid fun o ho v' hv => by
    have h1 := h.store 0 v'
    have h2 : RdI (w.setCell ⟨q, 0, none⟩ v') (.slice (some ⟨g, off, none⟩) (t.length + 1) cap2) (x :: t) := rsRdI (ys := x :: t) h1.pull2
    have h3 := h2.pre (k := 1) (by simp) (by simp)
    refine ⟨h3, ?_⟩
    have h4 := rsTail h1.pull2 o (ho.imp id fun e => by rw [e]; rfl)
    rw [List.length_map] at h4
    rw [← hv] at h4
    exact h4.pull2
  clear h
  by_cases hck : cap2 = 1
  · have ht0 : t = [] := List.eq_nil_of_length_eq_zero (by omega)
    have HF := Lib.hid (HT.out off (.inr ht0) _ rfl)
    subst ht0
    subst hck
    clear HT
    cases c
    all_goals
      go_enter Try.func54, Try.ntmps54
      go_wp2
      go_ret3
      exact ⟨.slice (some ⟨g, off, none⟩) 1 1, .slice (some ⟨g, off, none⟩) 0 0, rfl, HF.out.1, HF.out.2⟩
  · have HF := Lib.hid (HT.out (off + 1) (.inl rfl) _ rfl)
    clear HT
    cases c
    all_goals
      go_enter Try.func54, Try.ntmps54
      go_wp2
      go_ret3
      exact ⟨.slice (some ⟨g, off, none⟩) 1 cap2, .slice (some ⟨g, off + 1, none⟩) t.length (cap2 - 1), rfl, HF.out.1, HF.out.2⟩
end
end Go.Proofs.Ytjlgdepneipgnaa.Rq
