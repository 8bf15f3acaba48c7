/-
  The reference's heap of chapter 04: Put, where there is no list yet. No statement is proved here.
-/
import Derived.Test.YtcchfdoeacgapaaHm22
namespace Go.Proofs.Ytcchfdoeacgapaa.Hm
open Go.RowKit
set_option linter.unusedVariables false

section
variable {w0 w : World} {F : Hp} {q : Nat} {L : List Tr}
set_option maxRecDepth 100000 in
set_option maxHeartbeats 8000000 in
theorem r_put_a {n K : Nat} (hS : Sat w0 (rfB q (.slice none 0 0) * (sl 68 2 (.slice none 0 0) n (trsV L) * F)) w) (at_ id : Int) (hn : L.length = n) (hl : n ≤ 4096) (hf : findT L id = -1) (hK : K ≤ n) (h1 : ∀ j, j < K → (gr L j).1 ≤ at_) (h2 : K < n → ¬ (gr L K).1 ≤ at_) :
    Calls Try.prog 58 #[vp q, vu at_, vi id] w (PutOk w0 q L F at_ id K) := by
  have HF := Lib.hid (r_find (refP_shut (hn ▸ hS)) id (by omega))
  rw [hf] at HF
  have c0 := hS.cell 0 rfl
  have H := Lib.hid hS
  have HN := Lib.hid hn
  have H1 := Lib.hid h1
  have H2 := Lib.hid h2
  have HX : Hid (∀ v' w' m, m = n + 1 → Sat w0 (sl 68 2 v' m (trsV (L.take K) ++ trV (at_, id) ++ trsV (L.drop K)) * (rfB q v' * F)) w' → PutOk w0 q L F at_ id K (.returned (vi 0)) w') := Lib.hid fun v' w' m hm h' => ⟨rfl, put_end HN.out hK hm h'⟩
  have hone := Lib.hid (trs_one (L.take K))
  have hone2 := Lib.hid (trs_one (L.drop K))
  have HB := Lib.hid (H.out.alloc (.cells #[vu at_, vi id] 68)).drew
  have b0 := HB.out.pull2.cell 0 rfl
  have b1 : (w.alloc (.cells #[vu at_, vi id] 68)).cell? ⟨q, 0, none⟩ = _ := b0
  have hB2 := H.out.lt
  obtain rfl : n = 0 := by
    rcases H.out.pull2.slE.2 with ⟨_, h0, _⟩ | ⟨g, cp, cur, hv, _⟩
    · exact h0
    · cases hv
  obtain rfl : K = 0 := by omega
  have hL : L = [] := List.eq_nil_of_length_eq_zero HN.out
  subst hL
  clear hS hn hf h1 h2
  go_enter Try.func58, Try.ntmps58
  go_wp2_with (go_at_call 77; refine HF.out.mono ?_; rintro e w' ⟨rfl, rfl⟩)
  go_loopw [7] (fun i wr => i = vi (0 : Nat) ∧ w = wr) (fun i _ => 0)
  case atStart => exact ⟨rfl, rfl⟩
  case round =>
    obtain ⟨rfl, rfl⟩ := hrel
    have hki : ¬ ((0 : Nat) : Int) < ((0 : Nat) : Int) := by omega
    clear H1 H2
    go_wp2
    go_region_law
      (first
        | ((refine step_append_sl Etr (by rfl) (.const (.slice none 0 0)) _ (by rfl) (by rfl) (H.out.drew.addNil 68 2) (by rfl) (Rd.nil _ _) hone.out (by unfold maxLen; omega) (by omega) ?_; intro ao1 cap1 w1 hS1; simp only [Nat.zero_add, List.nil_append] at hS1; have d0 := hS1.pull2.cell 0 rfl; have HC1 := (hS1.alloc (.cells #[vu at_, vi id] 68)).pull2; have d0a := HC1.pull3.cell 0 rfl))
        | ((refine step_append_sl Etr (by rfl) (.const (.slice none 0 0)) _ (by rfl) (by rfl) (HB.out.addNil 68 2) (by rfl) (Rd.nil _ _) hone.out (by unfold maxLen; omega) (by omega) ?_; intro ao1 cap1 w1 hS1; simp only [Nat.zero_add, List.nil_append] at hS1; have d0 := hS1.pull3.cell 0 rfl; have HC1 := hS1))
        | ((refine step_append_sl Etr (by rfl) (.tmp 40) _ (by rfl) (by rfl) HC1 (by rfl) (rdOfPc HC1.pull2) (by simp [trV, Value.oneCell']) (by unfold maxLen; omega) (by omega) ?_; intro ao2 cap2 w2 hS2; have d1 := hS2.pull3.cell 0 rfl; have f2 := hS2.pull3.free 0))
        | ((refine step_append_sl Etr (by rfl) (.tmp 45) _ (by rfl) (by rfl) hS2 (by rfl) (Rd.nil _ _) hone2.out (by unfold maxLen; omega) (by omega) ?_; intro ao3 cap3 w3 hS3; have d2 := hS3.pull3.cell 0 rfl; have f3 := hS3.pull3.free 0)))
    all_goals go_wp2
    all_goals go_ret
    all_goals exact HX.out _ _ _ (by omega) ((hS3.pull3.store 0 _).pull2.drop3.drop3)
end
end Go.Proofs.Ytcchfdoeacgapaa.Hm
