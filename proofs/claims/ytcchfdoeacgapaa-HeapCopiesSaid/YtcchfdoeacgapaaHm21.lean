/-
  The reference's heap of chapter 04: Remove. No statement is proved here.
-/
import Derived.Test.YtcchfdoeacgapaaHm20
namespace Go.Proofs.Ytcchfdoeacgapaa.Hm
open Go.RowKit
set_option linter.unusedVariables false

section
variable {w0 w : World} {F : Hp} {q : Nat} {L : List Tr}
set_option maxRecDepth 100000 in
theorem r_remove_no (hS : Sat w0 (refP q L * F) w) (id : Int) (hl : L.length ≤ 4096) (hno : findT L id = -1) :
    Calls Try.prog 60 #[vp q, vi id] w fun e w' => e = .returned (.bool false) ∧ w = w' := by
  have HF := Lib.hid (r_find hS id hl)
  rw [hno] at HF
  clear hS hl hno
  go_enter Try.func60, Try.ntmps60
  go_wp2_with (go_at_call 77; refine HF.out.mono ?_; rintro e w' ⟨rfl, rfl⟩)
  go_ret
  exact ⟨rfl, rfl⟩
set_option maxRecDepth 100000 in
set_option maxHeartbeats 4000000 in
theorem r_remove (hS : Sat w0 (refP q L * F) w) (id : Int) (hl : L.length ≤ 4096) (k : Nat) (hk : k < L.length) (hf : findT L id = k) :
    Calls Try.prog 60 #[vp q, vi id] w fun e w' => e = .returned (.bool true) ∧ Sat w0 (refP q (L.eraseIdx k) * F) w' := by
  have HF := Lib.hid (r_find hS id hl)
  rw [hf] at HF
  obtain ⟨v, hS⟩ := refP_open hS
  obtain ⟨n, hn⟩ : ∃ n, L.length = n := ⟨_, rfl⟩
  unfold rl at hS
  rw [hn] at hS hl hk
  obtain ⟨ao, cap, rfl⟩ := hS.pull2.rd.len
  obtain ⟨g, rfl⟩ := slSome hS.pull2 (by omega)
  obtain ⟨hc1, hc2⟩ := hS.pull2.slCap
  unfold maxLen at hc2
  have c0 := hS.cell 0 rfl
  have f0 := hS.free 0
  have hw1 : IntKind.i64.wrap ((k : Int) + 1) = (k : Int) + 1 := IntWalk.i64_in _ (by omega)
  have hk0 : (0 : Int) ≤ (k : Int) := by omega
  have hk1 : (k : Int) ≤ (cap : Int) := by omega
  have hk2 : (0 : Int) ≤ (k : Int) + 1 := by omega
  have hk3 : (k : Int) + 1 ≤ (n : Int) := by omega
  have hk4 : k + 1 ≤ cap := by omega
  have hk6 : k ≤ cap := by omega
  have hk7 : k + 1 ≤ n := by omega
  have hk8 : (n : Int) ≤ (cap : Int) := by omega
  have hk9 : (k : Int) + 1 ≤ (cap : Int) := by omega
  have hk5 : ((k : Int) + 1).toNat = k + 1 := by omega
  have H := Lib.hid hS
  have HP : Hid (∀ w' G, Sat w0 (sl 68 2 (vs g n cap) n (trsV L) * G) w' → Rd w' 2 (.slice (some ⟨g, 0, none⟩) k cap) k (trsV (L.take k))) := Lib.hid fun w' G h' => by
    rw [trsV_take]
    exact rdPre h'.rd (by omega) (by omega)
  have HQ : Hid (∀ w' G (a' : Addr) (c2 : Nat), Sat w0 (sl 68 2 (vs g n cap) n (trsV L) * G) w' → (k + 1 < n → a' = ⟨g, 0 + (k + 1) * 2, none⟩) → Rd w' 2 (.slice (some a') (n - (k + 1)) c2) (n - (k + 1)) (trsV (L.drop (k + 1)))) := Lib.hid fun w' G a' c2 h' ha => by
    rw [trsV_drop]
    exact rdPost h'.rd (by omega) (by omega) ha
  have HE : Hid (∀ v' w' m, m = n - 1 → Sat w0 (sl 68 2 v' m (trsV (L.take k) ++ trsV (L.drop (k + 1))) * (rfB q v' * F)) w' → Sat w0 (refP q (L.eraseIdx k) * F) w') := Lib.hid fun v' w' m hm h' => by
    refine refP_shut (v := v') ?_
    have e1 : (L.eraseIdx k).length = m := by rw [List.length_eraseIdx, hn, if_pos hk, hm]
    unfold rl
    rw [e1, List.eraseIdx_eq_take_drop_succ, trsV_append]
    exact h'.pull2
  have hone := Lib.hid (trs_one (L.take k))
  have hone2 := Lib.hid (trs_one (L.drop (k + 1)))
  clear hS hn hf
  by_cases hck : cap = k + 1
  · have hnk : n = k + 1 := by omega
    subst hck
    subst hnk
    have HZ : Hid (∀ w', Rd w' 2 (.slice (some ⟨g, 0, none⟩) 0 0) 0 (trsV (L.drop (k + 1)))) := Lib.hid fun w' => by
      have := (HQ.out _ _ ⟨g, 0 + (k + 1) * 2, none⟩ 0 H.out.pull2 (fun _ => rfl)).1
      rw [Nat.sub_self] at this
      exact ⟨this, .inl ⟨rfl, _, _, rfl⟩⟩
    have hk1 : (k : Int) ≤ (k : Int) + 1 := by omega
    go_enter Try.func60, Try.ntmps60
    go_wp2_with (go_at_call 77; refine HF.out.mono ?_; rintro e w' ⟨rfl, rfl⟩)
    go_region_law
      (first
        | ((refine step_append_sl Etr (by rfl) (.const (.slice none 0 0)) _ (by rfl) (by rfl) (H.out.drew.addNil 68 2) (by rfl) (HP.out _ _ H.out.drew.pull2) hone.out (by unfold maxLen; omega) (by omega) ?_; intro ao1 cap1 w1 hS1; simp only [Nat.zero_add, List.nil_append] at hS1; have d0 := hS1.pull2.cell 0 rfl))
        | ((refine step_append_sl Etr (by rfl) (.tmp 18) _ (by rfl) (by rfl) hS1 (by rfl) (HZ.out _) hone2.out (by unfold maxLen; omega) (by omega) ?_; intro ao2 cap2 w2 hS2; have e0 := hS2.pull2.cell 0 rfl; have f2 := hS2.pull2.free 0)))
    all_goals go_wp2
    all_goals go_ret
    all_goals
      exact ⟨rfl, HE.out _ _ _ (by omega) ((hS2.pull2.store 0 _).drop3.pull2)⟩
  · have hcz : cap ≠ 0 := by omega
    go_enter Try.func60, Try.ntmps60
    go_wp2_with (go_at_call 77; refine HF.out.mono ?_; rintro e w' ⟨rfl, rfl⟩)
    go_region_law
      (first
        | ((refine step_append_sl Etr (by rfl) (.const (.slice none 0 0)) _ (by rfl) (by rfl) (H.out.drew.addNil 68 2) (by rfl) (HP.out _ _ H.out.drew.pull2) hone.out (by unfold maxLen; omega) (by omega) ?_; intro ao1 cap1 w1 hS1; simp only [Nat.zero_add, List.nil_append] at hS1; have d0 := hS1.pull2.cell 0 rfl))
        | ((refine step_append_sl Etr (by rfl) (.tmp 18) _ (by rfl) (by rfl) hS1 (by rfl) (HQ.out _ _ _ _ hS1.pull3 (fun _ => by simp)) hone2.out (by unfold maxLen; omega) (by omega) ?_; intro ao2 cap2 w2 hS2; have e0 := hS2.pull2.cell 0 rfl; have f2 := hS2.pull2.free 0)))
    all_goals go_wp2
    all_goals go_ret
    all_goals
      exact ⟨rfl, HE.out _ _ _ (by omega) ((hS2.pull2.store 0 _).drop3.pull2)⟩
end
end Go.Proofs.Ytcchfdoeacgapaa.Hm
