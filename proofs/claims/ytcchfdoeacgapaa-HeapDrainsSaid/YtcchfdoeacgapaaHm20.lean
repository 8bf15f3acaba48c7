/-
  The reference's heap of chapter 04: Pop. No statement is proved here.
-/
import Derived.Test.YtcchfdoeacgapaaHm19
namespace Go.Proofs.Ytcchfdoeacgapaa.Hm
open Go.RowKit
set_option linter.unusedVariables false

theorem trs_one (L : List Tr) : ∀ u ∈ trsV L, u.oneCell' = true := by
  intro u hu
  obtain ⟨t, _, ht⟩ := List.mem_flatMap.1 hu
  simp [trV] at ht
  rcases ht with rfl | rfl <;> rfl
theorem trsV_take (L : List Tr) (k : Nat) : trsV (L.take k) = (trsV L).take (k * 2) := by
  induction L generalizing k with
  | nil => simp [trsV]
  | cons t L ih =>
    cases k with
    | zero => simp [trsV]
    | succ k =>
      show trV t ++ trsV (L.take k) = (trV t ++ trsV L).take ((k + 1) * 2)
      rw [ih, show (k + 1) * 2 = (trV t).length + k * 2 by simp [trV]; omega, List.take_length_add_append]
theorem trsV_drop (L : List Tr) (k : Nat) : trsV (L.drop k) = (trsV L).drop (k * 2) := by
  induction L generalizing k with
  | nil => simp [trsV]
  | cons t L ih =>
    cases k with
    | zero => simp
    | succ k =>
      show trsV (L.drop k) = (trV t ++ trsV L).drop ((k + 1) * 2)
      rw [ih, show (k + 1) * 2 = (trV t).length + k * 2 by simp [trV]; omega, List.drop_length_add_append]
section
variable {w0 w : World} {F : Hp} {q : Nat} {L : List Tr}
theorem rdPre {w : World} {b off n cap k s : Nat} {xs : List Value} (h : Rd w s (.slice (some ⟨b, off, none⟩) n cap) n xs) (hn : n ≠ 0) (hk : k ≤ n) : Rd w s (.slice (some ⟨b, off, none⟩) k cap) k (xs.take (k * s)) := by
  obtain ⟨b', off', cap', e, hc⟩ := h.pos hn
  cases e
  have hl := h.1
  have hm : k * s ≤ n * s := Nat.mul_le_mul_right _ hk
  refine ⟨by rw [List.length_take]; omega, .inr ⟨b, off, cap, rfl, fun j u hj => hc j u ?_⟩⟩
  rw [List.getElem?_take] at hj
  split at hj
  · exact hj
  · cases hj
theorem rdPost {w : World} {b off n cap k s c2 : Nat} {a' : Addr} {xs : List Value} (h : Rd w s (.slice (some ⟨b, off, none⟩) n cap) n xs) (hn : n ≠ 0) (hk : k ≤ n) (ha : k < n → a' = ⟨b, off + k * s, none⟩) : Rd w s (.slice (some a') (n - k) c2) (n - k) (xs.drop (k * s)) := by
  obtain ⟨b', off', cap', e, hc⟩ := h.pos hn
  cases e
  have hl := h.1
  refine ⟨by rw [List.length_drop, hl, Nat.mul_sub_right_distrib], ?_⟩
  by_cases hkk : k = n
  · exact .inl ⟨by omega, _, _, by rw [hkk, Nat.sub_self]⟩
  · rw [ha (by omega)]
    refine .inr ⟨b, off + k * s, c2, rfl, fun j u hj => ?_⟩
    rw [Nat.add_assoc]
    refine hc _ u ?_
    rw [List.getElem?_drop] at hj
    exact hj
set_option maxRecDepth 100000 in
theorem r_pop_nil (hS : Sat w0 (refP q [] * F) w) (now : Int) :
    Calls Try.prog 59 #[vp q, vu now] w fun e w' => e = .returned (.tuple #[vi 0, .bool false]) ∧ w = w' := by
  obtain ⟨v, hS⟩ := refP_open hS
  obtain ⟨ao, cap, hv⟩ := hS.pull2.rd.len
  have hv : v = .slice ao 0 cap := hv
  subst hv
  have c0 := hS.cell 0 rfl
  clear hS
  go_enter Try.func59, Try.ntmps59
  go_wp2
  go_ret2
  exact ⟨rfl, rfl⟩
theorem refP_some {t : Tr} (hS : Sat w0 (refP q (t :: L) * F) w) : ∃ g cap n, L.length = n ∧ n + 1 ≤ cap ∧ cap ≤ maxLen ∧ Sat w0 (rfB q (vs g (n + 1) cap) * (sl 68 2 (vs g (n + 1) cap) (n + 1) (trsV (t :: L)) * F)) w := by
  obtain ⟨v, hS⟩ := refP_open hS
  obtain ⟨ao, cap, rfl⟩ := hS.pull2.rd.len
  obtain ⟨g, rfl⟩ := slSome hS.pull2 (by simp)
  have hc := hS.pull2.slCap
  exact ⟨g, cap, L.length, rfl, hc.1, hc.2, hS⟩
set_option maxRecDepth 100000 in
theorem r_pop_no {t : Tr} (hS : Sat w0 (refP q (t :: L) * F) w) (now : Int) (hlt : now < t.1) (hl : L.length ≤ 4096) :
    Calls Try.prog 59 #[vp q, vu now] w fun e w' => e = .returned (.tuple #[vi 0, .bool false]) ∧ w = w' := by
  obtain ⟨g, cap, n, hn, _, _, hS⟩ := refP_some hS
  obtain ⟨ta, ti⟩ := t
  have c0 := hS.cell 0 rfl
  have t0 : w.cell? ⟨g, 0, none⟩ = some (vu ta) := hS.pull2.slCell 0 rfl
  have hz3 : ((n : Int) + 1 == 0) = false := by simp; omega
  have hz2 : (0 : Int) < ((n + 1 : Nat) : Int) := by omega
  clear hS
  go_enter Try.func59, Try.ntmps59
  go_wp2
  go_ret2
  exact ⟨rfl, rfl⟩
set_option maxRecDepth 100000 in
set_option maxHeartbeats 2000000 in
theorem r_pop {t : Tr} (hS : Sat w0 (refP q (t :: L) * F) w) (now : Int) (hlt : ¬ now < t.1) (hl : L.length ≤ 4096) :
    Calls Try.prog 59 #[vp q, vu now] w fun e w' => e = .returned (.tuple #[vi t.2, .bool true]) ∧ Sat w0 (refP q L * F) w' := by
  obtain ⟨g, cap, n, hn, hc1, hc2, hS⟩ := refP_some hS
  obtain ⟨ta, ti⟩ := t
  unfold maxLen at hc2
  have c0 := hS.cell 0 rfl
  have f0 := hS.free 0
  have t0 : w.cell? ⟨g, 0, none⟩ = some (vu ta) := hS.pull2.slCell 0 rfl
  have t1 : w.cell? ⟨g, 1, none⟩ = some (vi ti) := hS.pull2.slCell 1 rfl
  have hz3 : ((n : Int) + 1 == 0) = false := by simp; omega
  have hz2 : (0 : Int) < ((n + 1 : Nat) : Int) := by omega
  have hz4 : (1 : Int) ≤ ((n + 1 : Nat) : Int) := by omega
  have hz5 : ((n + 1 : Nat) : Int) ≤ (cap : Int) := by omega
  have H := Lib.hid hS
  have HN := Lib.hid hn
  have hone := Lib.hid (trs_one L)
  have hb : n ≤ 4096 := by omega
  have HR : Hid (∀ (a' : Addr) (c2 : Nat), (0 < n → a' = ⟨g, 2, none⟩) → Rd w 2 (.slice (some a') n c2) n (trsV L)) := Lib.hid fun a' c2 ha => by
    have := rdPost (k := 1) (c2 := c2) (a' := a') hS.pull2.rd (by omega) (by omega) (fun h => by rw [ha (by omega)])
    rw [Nat.add_sub_cancel] at this
    exact this
  clear hS hn hl
  by_cases hz : n = 0
  · subst hz
    clear HR
    have hL : L = [] := List.eq_nil_of_length_eq_zero HN.out
    subst hL
    go_enter Try.func59, Try.ntmps59
    go_wp2
    all_goals
      go_ret2
      exact ⟨rfl, refP_shut ((((H.out.store 0 (.slice none 0 0)).drop2).addNil _ _).pull2)⟩
  · have hp : 0 < n := by omega
    have hq : ¬ cap = 1 := by omega
    have hq2 : ¬ 1 = cap := by omega
    have hq3 : ¬ cap ≤ 1 := by omega
    have hq4 : 1 < cap := by omega
    go_enter Try.func59, Try.ntmps59
    go_wp2_with (at_builtin; refine wpList_append_sl Etr rfl (.const (.slice none 0 0)) (.tmp 36) rfl (by rfl) (H.out.addNil 68 2) (by rfl) (HR.out _ _ (by intro hh; first | rfl | omega | (simp; try omega))) hone.out (by unfold maxLen; omega) (by omega) ?_; intro ao1 cap1 w9 hS9; simp only [Nat.zero_add, List.nil_append] at hS9; have d0 := hS9.pull2.cell 0 rfl; have f9 := hS9.pull2.free 0; have H9 := Lib.hid hS9; clear hS9)
    all_goals
      go_ret2
      refine ⟨rfl, refP_shut (v := .slice ao1 n cap1) ?_⟩
      have h3 := ((H9.out.pull2.store 0 (.slice ao1 n cap1)).drop3)
      unfold rl
      rw [HN.out]
      exact h3
end
end Go.Proofs.Ytcchfdoeacgapaa.Hm
