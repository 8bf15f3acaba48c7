/-
  The reference's queue of chapter 05: Has, Remove. No statement is proved here.
-/
import Derived.Test.YtjlgdepneipgnaaRq4
namespace Go.Proofs.Ytjlgdepneipgnaa.Rq
open Go.RowKit
set_option linter.unusedVariables false

section
variable {w0 w : World} {F : Hp} {q m : Nat} {vL vN : Value} {xs : List Int} {z : Int} {b : Bool}
theorem ns_mem (z : Int) (b : Bool) (g : Int) : g ∈ nsOf z b ↔ b = true ∧ z = g := by
  cases b with
  | false => simp [nsOf]
  | true => simp [nsOf, eq_comm]
theorem find_yes {ys : List Int} {g : Int} (h : g ∈ ys) : 0 ≤ findI ys g := by
  unfold findI
  rw [if_pos h]
  omega
theorem find_not {ys : List Int} {g : Int} (h : g ∉ ys) : findI ys g = -1 := by
  unfold findI
  rw [if_neg h]
theorem rsRdI {w' : World} {G : Hp} {v : Value} {ys : List Int} (h : Sat w0 (rs 3 v (ys.map vi) * G) w') : RdI w' v ys := by
  have := h.rsRd
  rw [List.length_map] at this
  exact this
set_option maxHeartbeats 1000000 in
theorem r_has (h : Sat w0 (rqB q m vL vN * (rs 3 vL (xs.map vi) * (rs 3 vN ((nsOf z b).map vi) * F))) w) (hl : xs.length ≤ 4096) (g : Int) :
    Calls Try.prog 51 #[vp q, vi g] w fun e w' => e = .returned (.bool (b && z == g || decide (g ∈ xs))) ∧ w = w' := by
  have c0 := h.cell 0 rfl
  have c2 := h.cell 2 rfl
  have hnl : (nsOf z b).length ≤ 1000000 := by cases b <;> simp [nsOf]
  have HN := Lib.hid (ref_find g _ _ w (rsRdI h.pull3) hnl)
  have HL := Lib.hid (ref_find g _ _ w (rsRdI h.pull2) (by omega))
  clear h hnl
  by_cases h1 : b = true ∧ z = g
  · have e1 : (b && z == g || decide (g ∈ xs)) = true := by
      obtain ⟨rfl, rfl⟩ := h1
      simp
    rw [e1]
    have h2 := find_yes ((ns_mem z b g).2 h1)
    clear e1 h1
    generalize findI (nsOf z b) g = f1 at *
    go_enter Try.func51, Try.ntmps51
    go_wp2_with (go_at_call 91; (with_reducible refine HN.out.mono ?_); rintro e w' ⟨rfl, rfl⟩)
    go_ret
    exact ⟨rfl, rfl⟩
  · have e1 : (b && z == g || decide (g ∈ xs)) = decide (g ∈ xs) := by
      cases b with
      | false => rfl
      | true =>
        have hz : (z == g) = false := beq_eq_false_iff_ne.2 fun e => h1 ⟨rfl, e⟩
        rw [hz]
        rfl
    have h2 := find_not (fun h => h1 ((ns_mem z b g).1 h))
    rw [e1, ← findI_ge]
    rw [h2] at HN
    clear e1 h1 h2
    generalize findI xs g = f2 at *
    go_enter Try.func51, Try.ntmps51
    go_wp2_with (first
      | (go_at_call 91; (with_reducible refine HN.out.mono ?_); rintro e w' ⟨rfl, rfl⟩)
      | (go_at_call 91; (with_reducible refine HL.out.mono ?_); rintro e w' ⟨rfl, rfl⟩))
    go_ret
    exact ⟨by simp, rfl⟩
set_option maxHeartbeats 1000000 in
theorem r_remove_next (h : Sat w0 (rqB q m vL vN * (rs 3 vL (xs.map vi) * (rs 3 vN ((nsOf z true).map vi) * F))) w) :
    Calls Try.prog 55 #[vp q, vi z] w fun e w' => e = .returned (.bool true) ∧ Sat w0 (rqB q m vL (.slice none 0 0) * (rs 3 vL (xs.map vi) * (rs 3 (.slice none 0 0) ((nsOf z false).map vi) * F))) w' := by
  have c2 := h.cell 2 rfl
  have f2 := h.free 2
  have HN := Lib.hid (ref_find z _ _ w (rsRdI h.pull3) (by simp [nsOf]))
  have h2 := find_yes ((ns_mem z true z).2 ⟨rfl, rfl⟩)
  generalize findI (nsOf z true) z = f1 at *
  have h3 := h.store 2 (.slice none 0 0)
  have h4 := Lib.hid (h3.drop3.rsNil 3)
  clear h h3
  go_enter Try.func55, Try.ntmps55
  go_wp2_with (go_at_call 91; (with_reducible refine HN.out.mono ?_); rintro e w' ⟨rfl, rfl⟩)
  go_ret
  exact ⟨rfl, h4.out.rot3⟩
set_option maxHeartbeats 2000000 in
theorem r_remove (h : Sat w0 (rqB q m vL vN * (rs 3 vL (xs.map vi) * (rs 3 vN ((nsOf z b).map vi) * F))) w) (hl : xs.length ≤ 4096) (g : Int) (hc : ¬ (b = true ∧ z = g)) :
    Calls Try.prog 55 #[vp q, vi g] w fun e w' => ∃ vL', e = .returned (.bool (decide (g ∈ xs))) ∧ Sat w0 (rqB q m vL' vN * (rs 3 vL' ((xs.erase g).map vi) * (rs 3 vN ((nsOf z b).map vi) * F))) w' := by
  have c0 := h.cell 0 rfl
  have c2 := h.cell 2 rfl
  have hf := h.free 0
  have hnl : (nsOf z b).length ≤ 1000000 := by cases b <;> simp [nsOf]
  have HN := Lib.hid (ref_find g _ _ w (rsRdI h.pull3) hnl)
  have HL := Lib.hid (ref_find g _ _ w (rsRdI h.pull2) (by omega))
  rw [find_not (fun h => hc ((ns_mem z b g).1 h))] at HN
  have hg : 0 ≤ findI xs g → _ := findI_erase (xs := xs) (x := g)
  have hb := findI_le xs g
  by_cases hmem : g ∈ xs
  · have h0 := find_yes hmem
    obtain ⟨he, hk⟩ := hg h0
    obtain ⟨k, hk2⟩ := Int.eq_ofNat_of_zero_le h0
    rw [hk2] at HL he hk
    simp only [Int.toNat_natCast] at he hk
    obtain ⟨ao, cap, rfl⟩ := (rsRdI h.pull2).len
    have hcap : ∀ ao' n cap', (.slice ao xs.length cap : Value) = .slice ao' n cap' → n ≤ cap' ∧ cap' ≤ maxLen := by
      intro ao' n cap' e
      rcases h.pull2.rsE with ⟨hv, _, _⟩ | ⟨g', off, c, cur, hv, h1, h2, _⟩
      · rw [hv] at e
        cases e
        exact ⟨Nat.le_refl _, Nat.zero_le _⟩
      · rw [hv] at e
        cases e
        exact ⟨h1, h2⟩
    have hcut := Lib.hid (ref_cut h (fun w' h' => rsRdI h'.pull2) (by omega) hcap k hk)
    rw [decide_eq_true hmem, ← he]
    clear h hg hb hmem h0 hk2 he hcap hc
    go_enter Try.func55, Try.ntmps55
    go_wp2_with (first
      | (go_at_call 91; (with_reducible refine HN.out.mono ?_); rintro e w' ⟨rfl, rfl⟩)
      | (go_at_call 91; (with_reducible refine HL.out.mono ?_); rintro e w' ⟨rfl, rfl⟩)
      | (go_at_call 92; refine hcut.out.mono ?_; rintro e w1 ⟨v1, rfl, hS1⟩; obtain ⟨ao1, cap1, rfl⟩ := hS1.rd.len; have d0 := hS1.pull2.cell 0 rfl; have f1 := hS1.pull2.free 0; have H1 := Lib.hid hS1; clear hS1))
    go_ret
    have h3 := ((H1.out.pull2.store 0 (.slice ao1 (xs.eraseIdx k).length cap1)).drop3).in2 Sat.rsOfSl
    exact ⟨_, rfl, h3⟩
  · rw [find_not hmem] at HL
    rw [decide_eq_false hmem, List.erase_of_not_mem hmem]
    have H := Lib.hid h
    clear h hg hb hmem hc
    go_enter Try.func55, Try.ntmps55
    go_wp2_with (first
      | (go_at_call 91; (with_reducible refine HN.out.mono ?_); rintro e w' ⟨rfl, rfl⟩)
      | (go_at_call 91; (with_reducible refine HL.out.mono ?_); rintro e w' ⟨rfl, rfl⟩))
    go_ret
    exact ⟨_, rfl, H.out⟩
end
end Go.Proofs.Ytjlgdepneipgnaa.Rq
