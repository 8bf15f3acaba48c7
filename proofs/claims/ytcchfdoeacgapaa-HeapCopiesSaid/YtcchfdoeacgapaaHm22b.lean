/-
  The reference's heap of chapter 04: Put, before others. No statement is proved here.
-/
import Derived.Test.YtcchfdoeacgapaaHm22
namespace Go.Proofs.Ytcchfdoeacgapaa.Hm
open Go.RowKit
set_option linter.unusedVariables false

section
variable {w0 w : World} {F : Hp} {q : Nat} {L : List Tr}
set_option maxRecDepth 100000 in
set_option maxHeartbeats 8000000 in
theorem r_put_b {n K : Nat} {g cap : Nat} (hkn : K < n) (hS : Sat w0 (rfB q (vs g n cap) * (sl 68 2 (vs g n cap) n (trsV L) * F)) w) (at_ id : Int) (hn : L.length = n) (hl : n ≤ 4096) (hf : findT L id = -1) (hK : K ≤ n) (h1 : ∀ j, j < K → (gr L j).1 ≤ at_) (h2 : K < n → ¬ (gr L K).1 ≤ at_) :
    Calls Try.prog 58 #[vp q, vu at_, vi id] w (PutOk w0 q L F at_ id K) := by
  have HF := Lib.hid (r_find (refP_shut (hn ▸ hS)) id (by omega))
  rw [hf] at HF
  have c0 := hS.cell 0 rfl
  have H := Lib.hid hS
  have HN := Lib.hid hn
  have H1 := Lib.hid h1
  have H2 := Lib.hid h2
  have HX : Hid (∀ v' w' m, m = n + 1 → Sat w0 (sl 68 2 v' m (trsV (L.take K) ++ trV (at_, id) ++ trsV (L.drop K)) * (rfB q v' * F)) w' → PutOk w0 q L F at_ id K (.returned (vi 0)) w') := Lib.hid fun v' w' m hm h' => ⟨rfl, put_end HN.out hK hm h'⟩
  have hone := Lib.hid (trs_one (L.take K))
  have hone2 := Lib.hid (trs_one (L.drop K))
  have HB := Lib.hid (H.out.alloc (.cells #[vu at_, vi id] 68)).drew
  have b0 := HB.out.pull2.cell 0 rfl
  have b1 : (w.alloc (.cells #[vu at_, vi id] 68)).cell? ⟨q, 0, none⟩ = _ := b0
  have hB2 := H.out.lt
  have hcc := H.out.pull2.slCap
  have hc1 := hcc.1
  have hc2 := hcc.2
  unfold maxLen at hc2
  clear hcc
  have hk1 : (K : Int) ≤ (cap : Int) := by omega
  have hk6 : K ≤ cap := by omega
  have hk3 : (K : Int) ≤ (n : Int) := by omega
  have hk8 : (n : Int) ≤ (cap : Int) := by omega
  have HP : Hid (∀ w' G, Sat w0 (sl 68 2 (vs g n cap) n (trsV L) * G) w' → Rd w' 2 (.slice (some ⟨g, 0, none⟩) K cap) K (trsV (L.take K))) := Lib.hid fun w' G h' => by
    by_cases hz : n = 0
    · obtain rfl : K = 0 := by omega
      exact ⟨rfl, .inl ⟨rfl, _, _, rfl⟩⟩
    · rw [trsV_take]
      exact rdPre h'.rd hz (by omega)
  have HQ : Hid (∀ w' G (a' : Addr) (c2 : Nat), Sat w0 (sl 68 2 (vs g n cap) n (trsV L) * G) w' → (K < n → a' = ⟨g, 0 + K * 2, none⟩) → Rd w' 2 (.slice (some a') (n - K) c2) (n - K) (trsV (L.drop K))) := Lib.hid fun w' G a' c2 h' ha => by
    rw [trsV_drop]
    exact rdPost h'.rd (by omega) (by omega) ha
  clear hS hn hf h1 h2
  go_enter Try.func58, Try.ntmps58
  go_wp2_with (go_at_call 77; refine HF.out.mono ?_; rintro e w' ⟨rfl, rfl⟩)
  go_loopw [7] (fun i wr => ∃ k : Nat, k ≤ K ∧ i = vi k ∧ w = wr) (fun i _ => K - (intOf i).toNat)
  case atStart => exact ⟨0, Nat.zero_le _, rfl, rfl⟩
  case round =>
    obtain ⟨k, hk, rfl, rfl⟩ := hrel
    have hki0 : (0 : Int) ≤ (k : Int) := by omega
    by_cases hlt : k < K
    · have hki : (k : Int) < (n : Int) := by omega
      have hkd : decide (k < n) = true := decide_eq_true (by omega)
      have hkd2 : k < n := by omega
      have hh := H.out
      have q0 := hh.pull2.slCell (k * 2) (u := vu (gr L k).1) (by rw [show k * 2 = k * 2 + 0 from rfl, trsV_at L k 0 (by rw [HN.out]; omega) (by omega)]; rfl)
      have hd : decide ((gr L k).1 ≤ at_) = true := decide_eq_true (H1.out k hlt)
      clear hh b0 b1 HB HX H2 H1 hone hone2
      go_wp2
      go_roundw
      case rel => exact ⟨k + 1, by omega, by go_num, trivial⟩
      case measure => (simp [intOf]; try omega)
    · obtain rfl : k = K := by omega
      clear hlt
      have hki : (k : Int) < (n : Int) := by omega
      have hkd : decide (k < n) = true := decide_eq_true hkn
      have q0 := H.out.pull2.slCell (k * 2) (u := vu (gr L k).1) (by rw [show k * 2 = k * 2 + 0 from rfl, trsV_at L k 0 (by rw [HN.out]; omega) (by omega)]; rfl)
      have hd : decide ((gr L k).1 ≤ at_) = false := decide_eq_false (by have := H2.out hkn; omega)
      have hck : ¬ cap = k := by omega
      have hck2 : ¬ k = cap := by omega
      clear H1 H2
      go_wp2
      go_region_law
        (first
          | ((refine step_append_sl Etr (by rfl) (.const (.slice none 0 0)) _ (by rfl) (by rfl) (H.out.drew.addNil 68 2) (by rfl) (HP.out _ _ H.out.drew.pull2) hone.out (by unfold maxLen; omega) (by omega) ?_; intro ao1 cap1 w1 hS1; simp only [Nat.zero_add, List.nil_append] at hS1; have d0 := hS1.pull2.cell 0 rfl; have HC1 := (hS1.alloc (.cells #[vu at_, vi id] 68)).pull2; have d0a := HC1.pull3.cell 0 rfl))
          | ((refine step_append_sl Etr (by rfl) (.const (.slice none 0 0)) _ (by rfl) (by rfl) (HB.out.addNil 68 2) (by rfl) (HP.out _ _ HB.out.pull3) hone.out (by unfold maxLen; omega) (by omega) ?_; intro ao1 cap1 w1 hS1; simp only [Nat.zero_add, List.nil_append] at hS1; have d0 := hS1.pull3.cell 0 rfl; have HC1 := hS1))
          | ((refine step_append_sl Etr (by rfl) (.tmp 40) _ (by rfl) (by rfl) HC1 (by rfl) (rdOfPc HC1.pull2) (by simp [trV, Value.oneCell']) (by unfold maxLen; omega) (by omega) ?_; intro ao2 cap2 w2 hS2; have d1 := hS2.pull3.cell 0 rfl; have f2 := hS2.pull3.free 0))
          | ((refine step_append_sl Etr (by rfl) (.tmp 45) _ (by rfl) (by rfl) hS2 (by rfl) (HQ.out _ _ _ _ hS2.pull4 (fun _ => by simp)) hone2.out (by unfold maxLen; omega) (by omega) ?_; intro ao3 cap3 w3 hS3; have d2 := hS3.pull3.cell 0 rfl; have f3 := hS3.pull3.free 0)))
      all_goals go_wp2
      all_goals go_ret
      all_goals exact HX.out _ _ _ (by omega) ((hS3.pull3.store 0 _).pull2.drop3.drop3)
end
end Go.Proofs.Ytcchfdoeacgapaa.Hm
