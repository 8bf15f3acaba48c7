/-
  The reference's queue of chapter 05: Put. No statement is proved here.
-/
import Derived.Test.YtjlgdepneipgnaaRq2
namespace Go.Proofs.Ytjlgdepneipgnaa.Rq
open Go.RowKit
set_option linter.unusedVariables false

/-- The reference's queue: its block. -/
abbrev rqB (q m : Nat) (vL vN : Value) : Hp := pc q 50 [vL, vi m, vN]
section
variable {w0 w : World} {F : Hp} {q m : Nat} {vL vN : Value} {xs : List Int}
theorem r_put_room (h : Sat w0 (rqB q m vL vN * (rs 3 vL (xs.map vi) * F)) w) (hlt : xs.length < m) (hm : m ≤ 4096) (g : Int) :
    Calls Try.prog 52 #[vp q, vi g] w fun e w' => ∃ v vL', e = .returned v ∧ Sat w0 (sl 3 1 v (spillL m xs g).length ((spillL m xs g).map vi) * (rqB q m vL' vN * (rs 3 vL' ((putL m xs g).map vi) * F))) w' := by
  have hR : RdI w vL xs := by
    have := h.pull2.rsRd
    rw [List.length_map] at this
    exact this
  obtain ⟨ao, cap, rfl⟩ := hR.len
  have c0 := h.cell 0 rfl
  have c1 := h.cell 1 rfl
  have hR' := Lib.hid hR
  have hS' := Lib.hid h
  rw [putL, spillL, if_pos hlt, if_pos hlt]
  clear h hR
  go_enter Try.func52, Try.ntmps52
  go_wp2
  go_quiet (fail)
  go_wp2_with (first | (at_builtin; refine wpList_append_sl Einti rfl (.const (.slice none 0 0)) (.tmp 21) rfl rfl ((hS'.out.drewN _).addNil 3 1) (by rfl) (hR'.out.drewN _) (by simp [Value.oneCell']) (by unfold maxLen; omega) (by omega) ?_; intro ao1 cap1 w1 hS1; simp only [Nat.zero_add, List.nil_append] at hS1) | (at_builtin; refine wpList_append_sl Einti rfl (.tmp 22) (.tmp 24) rfl rfl (hS1.alloc' _) (by rfl) (Rd.one _ _ _) (by simp [Value.oneCell']) (by unfold maxLen; omega) (by omega) ?_; intro ao2 cap2 w2 hS2; have d2 := (hS2.dropL).cell 0 rfl; have f2 := hS2.dropL.free 0))
  go_ret
  have h3 := (hS2.pull2.store 0 (.slice ao2 (xs.length + 1) cap2)).drop3
  have h4 := h3.in2 Sat.rsOfSl
  exact ⟨_, .slice ao2 (xs.length + 1) cap2, rfl, (h4.addNil 3 1).cast (by simp)⟩
set_option maxRecDepth 100000 in
set_option maxHeartbeats 2000000 in
theorem r_put_full (h : Sat w0 (rqB q m vL vN * (rs 3 vL (xs.map vi) * F)) w) (hful : xs.length = m) (hm1 : 2 ≤ m) (hm : m ≤ 4096) (g : Int) :
    Calls Try.prog 52 #[vp q, vi g] w fun e w' => ∃ v vL', e = .returned v ∧ Sat w0 (sl 3 1 v (spillL m xs g).length ((spillL m xs g).map vi) * (rqB q m vL' vN * (rs 3 vL' ((putL m xs g).map vi) * F))) w' := by
  have hR : RdI w vL xs := by
    have := h.pull2.rsRd
    rw [List.length_map] at this
    exact this
  have hcp : ∃ b off cap, vL = .slice (some ⟨b, off, none⟩) xs.length cap ∧ xs.length ≤ cap := by
    rcases h.pull2.rsE with ⟨_, h0, _⟩ | ⟨b, off, cap, cur, hv, h1, _⟩
    · have : xs = [] := by simpa using h0
      rw [this] at hful
      simp at hful
      omega
    · rw [List.length_map] at hv h1
      exact ⟨b, off, cap, hv, h1⟩
  obtain ⟨b, off, cap, rfl, hcap⟩ := hcp
  have c0 := h.cell 0 rfl
  have c1 := h.cell 1 rfl
  have hS' := Lib.hid h
  obtain ⟨half, hh⟩ : ∃ half : Nat, (m + 1) / 2 = half := ⟨_, rfl⟩
  have hhi : (m : Int) / 2 + (m : Int) % 2 = (half : Int) := by omega
  have hle : half ≤ xs.length := by omega
  have hpos : 1 ≤ half := by omega
  have hne : xs.length ≠ 0 := by omega
  have hge : ¬ (xs.length < m) := by omega
  rw [putL, spillL, if_neg hge, if_neg hge, hh]
  have hPre : Hid (∀ k, Rd (w.drewN k) 1 (.slice (some ⟨b, off, none⟩) half cap) half ((xs.take half).map vi)) := Lib.hid fun k => by
    have h1 := (hR.pre hne hle).drewN k
    unfold RdI at h1
    rw [List.length_take, Nat.min_eq_left hle] at h1
    exact h1
  have hPost : Hid (∀ (G : Hp) w' c2 a', Sat w0 (rs 3 (.slice (some ⟨b, off, none⟩) xs.length cap) (xs.map vi) * G) w' → (half < xs.length → a' = ⟨b, off + half, none⟩) → Rd w' 1 (.slice (some a') (xs.length - half) c2) (xs.length - half) ((xs.drop half).map vi)) := Lib.hid fun G w' c2 a' h ha => by
    have h0 : RdI w' (.slice (some ⟨b, off, none⟩) xs.length cap) xs := by
      have := h.rsRd
      rw [List.length_map] at this
      exact this
    have h1 := h0.post (c2 := c2) hne hle ha
    unfold RdI at h1
    rw [List.length_drop] at h1
    exact h1
  have hone := Lib.hid (oneI (xs.take half))
  have hone2 := Lib.hid (oneI (xs.drop half))
  have hlt2 : (xs.take half).length = half := by rw [List.length_take]; omega
  have hltd : (xs.drop half).length = xs.length - half := by simp
  have hmle : m ≤ xs.length := by omega
  have hhc : (half : Int) ≤ (cap : Int) := by omega
  have hhl : (half : Int) ≤ (xs.length : Int) := by omega
  have hcapN : half ≤ cap := by omega
  have hck : ¬ cap = half := by omega
  have hxl : xs.length ≤ 4096 := by omega
  clear h hR hh hful hge
  go_enter Try.func52, Try.ntmps52
  go_wp2
  go_quiet (fail)
  go_wp2
  go_quiet (fail)
  go_wp2_with (first
    | (at_builtin; refine wpList_append_sl Einti rfl (.const (.slice none 0 0)) (.tmp 44) rfl rfl ((hS'.out.drewN _).addNil 3 1) (by rfl) (hPre.out _) hone.out (by unfold maxLen; omega) (by omega) ?_; intro ao1 cap1 w1 hS1; simp only [Nat.zero_add, List.nil_append] at hS1)
    | (at_builtin; refine wpList_append_sl Einti rfl (.tmp 45) (.tmp 47) rfl rfl (hS1.alloc' _) (by rfl) (Rd.one _ _ _) (by simp [Value.oneCell']) (by unfold maxLen; omega) (by omega) ?_; intro ao2 cap2 w2 hS2; have d2 := (hS2.dropL).cell 0 rfl; have f2 := hS2.dropL.free 0; have H2 := Lib.hid hS2; clear hS1 hS2)
    | (at_builtin; refine wpList_append_sl Einti rfl (.const (.slice none 0 0)) (.tmp 55) rfl rfl (H2.out.addNil 3 1) (by rfl) (hPost.out _ _ _ _ H2.out.pull3 (fun _ => rfl)) hone2.out (by unfold maxLen; omega) (by omega) ?_; intro ao3 cap3 w3 hS3; simp only [Nat.zero_add, List.nil_append] at hS3; have d3 := hS3.pull3.cell 0 rfl; have f3 := hS3.pull3.free 0; have H3 := Lib.hid hS3; clear hS3))
  all_goals
    go_ret
    have h4 := (H3.out.pull3.store 0 (.slice ao3 (xs.length - half) cap3)).pull4.dropL
    have h5 := h4.in2 Sat.rsOfSl
    refine ⟨.slice ao2 (half + 1) cap2, .slice ao3 (xs.length - half) cap3, by simp, ?_⟩
    rw [show (xs.take half ++ [g]).length = half + 1 by simp; omega, List.map_append]
    exact h5.pull3
end
end Go.Proofs.Ytjlgdepneipgnaa.Rq
