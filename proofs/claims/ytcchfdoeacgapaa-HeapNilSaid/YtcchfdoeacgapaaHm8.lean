/-
  Contracts of heap.Heap: drop. No statement is proved here.
-/
import Derived.Test.YtcchfdoeacgapaaHm7
namespace Go.Proofs.Ytcchfdoeacgapaa.Hm
open Go.RowKit
set_option linter.unusedVariables false

section
variable {A : List Tm} {n i : Nat} {M : Int → Option Int}
theorem gt_take {j : Nat} (hj : j < n) : gt (A.take n) j = gt A j := by
  unfold gt
  rw [List.getElem?_take, if_pos hj]
theorem take_len (hl : A.length = n + 1) : (A.take n).length = n := by rw [List.length_take]; omega
theorem tmsV_take (A : List Tm) (n : Nat) : tmsV (A.take n) = (tmsV A).take (n * 3) := by
  induction A generalizing n with
  | nil => simp [tmsV]
  | cons t A ih =>
    cases n with
    | zero => simp [tmsV]
    | succ n =>
      rw [List.take_succ_cons]
      show tmV t ++ tmsV (A.take n) = (tmV t ++ tmsV A).take ((n + 1) * 3)
      have h3 : (tmV t).length = 3 := rfl
      rw [ih, List.take_append, h3, List.take_of_length_le (l := tmV t) (by omega), show (n + 1) * 3 - 3 = n * 3 by omega]
/-- The last one is dropped. -/
theorem drop_last (hl : A.length = n + 1) (h1 : HO A) (h2 : Nd A) (h3 : MF A M) : HO (A.take n) ∧ Nd (A.take n) ∧ MF (A.take n) (delM M (gt A n).2.1) ∧ (gt A n :: A.take n).Perm A := by
  have hn := take_len hl
  refine ⟨fun j h0 hj => ?_, fun a b ha hb e => ?_, ⟨fun j hj => ?_, fun k hk => ?_⟩, ?_⟩
  · unfold Ok
    rw [gt_take (by omega), gt_take (by omega)]
    exact h1 j h0 (by omega)
  · rw [gt_take (by omega), gt_take (by omega)] at e
    exact h2 a b (by omega) (by omega) e
  · rw [gt_take (by omega), delM, if_neg (fun e => by have := h2 n j (by omega) (by omega) e; omega)]
    exact h3.1 j (by omega)
  · unfold delM at hk
    by_cases hkn : (gt A n).2.1 = k
    · rw [if_pos hkn] at hk
      cases hk
    · rw [if_neg hkn] at hk
      obtain ⟨j, hj, he⟩ := h3.2 k hk
      have hjn : j ≠ n := fun e => hkn (e ▸ he)
      exact ⟨j, by omega, by rw [gt_take (by omega)]; exact he⟩
  · have e : A.take n ++ [gt A n] = A := by
      have h5 := List.take_append_drop n A
      rw [List.drop_eq_getElem_cons (by omega), List.drop_of_length_le (by omega)] at h5
      have h6 := gt_eq (l := A) (j := n) (by omega)
      rw [List.getElem?_eq_getElem (by omega)] at h6
      rw [← Option.some.inj h6]
      exact h5
    have h7 : (gt A n :: A.take n).Perm (A.take n ++ [gt A n]) := (List.perm_append_singleton _ _).symm
    rwa [e] at h7
/-- The last one takes the place of one that is dropped. -/
theorem drop_mid (hl : A.length = n + 1) (hi : i < n) (h1 : HO A) (h2 : Nd A) (h3 : MF A M) :
    E ((A.take n).set i (gt A n)) i ∧ Nd ((A.take n).set i (gt A n)) ∧ MF ((A.take n).set i (gt A n)) (putM (delM M (gt A i).2.1) (gt A n).2.1 i) ∧ (gt A i :: (A.take n).set i (gt A n)).Perm A := by
  have hn := take_len hl
  have g : ∀ j, j < n → gt ((A.take n).set i (gt A n)) j = gt A (if j = i then n else j) := fun j hj => by
    rw [gt_set (by omega)]
    by_cases hji : j = i
    · rw [if_pos hji, if_pos hji]
    · rw [if_neg hji, if_neg hji, gt_take hj]
  have hlen : ((A.take n).set i (gt A n)).length = n := by simp [hn]
  refine ⟨⟨fun j h0 hj hji hjp => ?_, fun c hi0 h0 hc hci => ?_⟩, fun a b ha hb e => ?_, ⟨fun j hj => ?_, fun k hk => ?_⟩, ?_⟩
  · rw [hlen] at hj
    unfold Ok
    rw [g j hj, g _ (by omega), if_neg hji, if_neg hjp]
    exact h1 j h0 (by omega)
  · rw [hlen] at hc
    rw [g c hc, g _ (by omega), if_neg (by omega), if_neg (by omega)]
    have e1 := h1 c h0 (by omega)
    unfold Ok at e1
    rw [hci] at e1
    exact nl_trans e1 (h1 i hi0 (by omega))
  · rw [hlen] at ha hb
    rw [g a ha, g b hb] at e
    have := h2 _ _ (by split <;> omega) (by split <;> omega) e
    split at this <;> split at this <;> omega
  · rw [hlen] at hj
    rw [g j hj]
    unfold putM delM
    by_cases hji : j = i
    · rw [if_pos hji, if_pos rfl, hji]
    · rw [if_neg hji, if_neg (fun e => by have := h2 n j (by omega) (by omega) e; omega), if_neg (fun e => hji (h2 i j (by omega) (by omega) e).symm)]
      exact h3.1 j (by omega)
  · rw [hlen]
    unfold putM delM at hk
    by_cases hkn : (gt A n).2.1 = k
    · exact ⟨i, hi, by rw [g i hi, if_pos rfl]; exact hkn⟩
    · rw [if_neg hkn] at hk
      by_cases hki : (gt A i).2.1 = k
      · rw [if_pos hki] at hk
        cases hk
      · rw [if_neg hki] at hk
        obtain ⟨j, hj, he⟩ := h3.2 k hk
        have hjn : j ≠ n := fun e => hkn (e ▸ he)
        have hji : j ≠ i := fun e => hki (e ▸ he)
        exact ⟨j, by omega, by rw [g j (by omega), if_neg hji]; exact he⟩
  · have hp := swp_perm (l := A) (i := i) (j := n) (by omega) (by omega)
    have e : swp A i n = (A.take n).set i (gt A n) ++ [gt A i] := by
      apply List.ext_getElem?
      intro m
      unfold swp
      rw [List.getElem?_set, List.getElem?_set, List.length_set]
      by_cases hm : m < n
      · rw [if_neg (by omega), List.getElem?_append_left (by omega), List.getElem?_set, hn]
        by_cases hmi : i = m
        · rw [if_pos hmi, if_pos hmi, if_pos (by omega), if_pos (by omega)]
        · rw [if_neg hmi, if_neg hmi, List.getElem?_take, if_pos hm]
      · rw [List.getElem?_append_right (by omega), hlen]
        by_cases hmn : m = n
        · subst hmn
          rw [if_pos rfl, if_pos (by omega), Nat.sub_self]
          rfl
        · rw [if_neg (by omega), if_neg (by omega), List.getElem?_eq_none (by omega), List.getElem?_eq_none (by simp; omega)]
    rw [e] at hp
    exact ((List.perm_append_singleton _ _).symm).trans hp
end
section
variable {w0 w : World} {F : Hp} {h g b n cap : Nat} {p : Int} {A : List Tm} {M : Int → Option Int}
theorem slShort (hS : Sat w0 (tl (vs g (n + 1) cap) (n + 1) A * F) w) : Sat w0 (tl (vs g n cap) n (A.take n) * F) w := by
  obtain ⟨cur, h1, h2, h3, h4, h5⟩ := hS.slP
  refine h5.slI (by omega) h2 h3 ?_
  rw [tmsV_take, ← h4, List.take_take]
  congr 1
  omega
set_option maxRecDepth 100000 in
set_option maxHeartbeats 4000000 in
theorem h_drop (hS : Sat w0 (hpB h (vs g (n + 1) cap) (.map (some b)) p * (tl (vs g (n + 1) cap) (n + 1) A * (mapI (.map (some b)) M * F))) w) (hn : n + 1 ≤ 1000000) (i : Nat) (hi : i < n + 1) (h1 : HO A) (h2 : Nd A) (h3 : MF A M) :
    Calls Try.prog 50 #[vp h, vi i] w fun e w' => e = .returned (.tuple #[]) ∧ ∃ A' M', HO A' ∧ Nd A' ∧ MF A' M' ∧ (gt A i :: A').Perm A ∧
      Sat w0 (hpB h (vs g n cap) (.map (some b)) p * (tl (vs g n cap) n A' * (mapI (.map (some b)) M' * F))) w' := by
  obtain ⟨hl, hc1, hc2⟩ := tlLen hS.pull2
  unfold maxLen at hc2
  obtain ⟨t0, t1, t2⟩ := tlCell hS.pull2 i hi
  have c0 := hS.cell 0 rfl
  have c1 := hS.cell 1 rfl
  have hi2 : (i : Int) < (n : Int) + 1 := by omega
  have hnn : ((n + 1 : Nat) : Int) - 1 = (n : Int) := by omega
  have H0 := Lib.hid (hS.drewN 1).pull3
  clear hS
  by_cases hin : i < n
  · have HDM := Lib.hid (drop_mid hl hin h1 h2 h3)
    have hin2 : (i : Int) < (n : Int) := by omega
    go_enter Try.func50, Try.ntmps50
    go_wp2
    refine wp_quiet_tail 13 (by kernel_rfl) (by kernel_rfl) ?_
    simp only [List.take_succ_cons, List.take_zero, List.drop_succ_cons, List.drop_zero]
    repeat (go_big_quiet_step (fail))
    refine wpQuiet_nil ?_
    go_wp2_with (first
      | (at_delete; refine wpList_del Try.underlying77 Try.underlying3 rfl _ _ rfl rfl _ rfl H0.out ?_; intro w4 hS4; have e0 := hS4.pull2.cell 0 rfl; obtain ⟨u0, u1, u2⟩ := tlCell hS4.pull3 n (by omega); have H4 : Hid (Sat w0 (pc w4.heap.size 82 (tmV (gt A n)) * (hpB h (vs g (n + 1) cap) (.map (some b)) p * (tl (vs g (n + 1) cap) (n + 1) A * (mapI (.map (some b)) (delM M (gt A i).2.1) * F)))) (w4.alloc (.cells #[vu (gt A n).1, vi (gt A n).2.1, vi (gt A n).2.2] 82))) := Lib.hid ((hS4.cast (show _ = hpB h (vs g (n + 1) cap) (.map (some b)) p * (tl (vs g (n + 1) cap) (n + 1) A * (mapI (.map (some b)) (delM M (gt A i).2.1) * F)) by ac_rfl)).alloc (.cells #[vu (gt A n).1, vi (gt A n).2.1, vi (gt A n).2.2] 82)); have f0 := H4.out.pull2.free 0; have g0 := H4.out.pull2.cell 0 rfl; have h5 := H4.out.pull2.store 0 (vs g n cap); have k0 := h5.pull2.cell 0 rfl; have k1 := h5.pull2.cell 1 rfl; have k2 := h5.pull2.cell 2 rfl; have H5 := Lib.hid h5; clear h5 hS4)
      | (go_at_call 71; refine (h_set (F := pc w4.heap.size 82 (tmV (gt A n)) * F) ((slShort H5.out.pull3).cast (show _ = hpB h (vs g n cap) (.map (some b)) p * (tl (vs g n cap) n (A.take n) * (mapI (.map (some b)) (delM M (gt A i).2.1) * (pc w4.heap.size 82 (tmV (gt A n)) * F))) by simp only [hpB, List.set_cons_zero]; ac_rfl)) i hin (gt A n)).mono ?_; rintro e w5 ⟨rfl, hS5⟩; have H6 := Lib.hid hS5; clear hS5)
      | (go_at_call 49; refine (h_up H6.out i hin HDM.out.1 HDM.out.2.1 (HDM.out.2.2.1.mp i)).mono ?_; rintro e w6 ⟨rfl, A1, M1, i1, hi1, hg1, hE1, hO1, hN1, hM1, hp1, _, hS6⟩; have H7 := Lib.hid hS6; clear hS6))
    have hx0 := H7.out.cell 0 rfl
    have hx1 := H7.out.cell 1 rfl
    have hy1 := H7.out.pull4.cell 1 rfl
    have hgi : gt ((A.take n).set i (gt A n)) i = gt A n := by rw [gt_set (by rw [take_len hl]; exact hin), if_pos rfl]
    have hM1i := hM1.1 i1 (by have := (tlLen H7.out.pull2).1; omega)
    rw [hg1, hgi] at hM1i
    have hlk : ∀ N, (Instr.lookup 77 (.map (some b)) (.int .i64 (gt A n).2.1) false).run Try.prog (w6.drewN N) = .ok (vi i1) (w6.drewN N) := fun N => by
      have := run_look (P := Try.prog) Try.underlying77 Try.underlying3 (by kernel_rfl) (H7.out.drewN N).pull3 (gt A n).2.1
      rwa [hM1i] at this
    have hl0 : (Instr.lookup 77 (.map (some b)) (.int .i64 (gt A n).2.1) false).run Try.prog w6.drew = .ok (vi i1) w6.drew := hlk 1
    have hl1 : (Instr.lookup 77 (.map (some b)) (.int .i64 (gt A n).2.1) false).run Try.prog w6 = .ok (vi i1) w6 := hlk 0
    have HDn := Lib.hid (fun N => h_down (H7.out.drewN N) i1 hi1 (by omega) hE1 hO1 hN1 (hM1.mp i1))
    have HP1 := Lib.hid hp1
    clear hlk hM1i hg1 hgi hE1 hO1 hN1 hM1 hp1
    refine wp_quiet_tail 9 (by kernel_rfl) (by kernel_rfl) ?_
    simp only [List.take_succ_cons, List.take_zero, List.drop_succ_cons, List.drop_zero]
    repeat (go_big_quiet_step (fail))
    refine wpQuiet_nil ?_
    go_wp2_with (go_at_call 72; refine (HDn.out 1).mono ?_; rintro e w7 ⟨rfl, A2, M2, hO2, hN2, hM2, hp2, hS7⟩; have H8 := Lib.hid hS7; clear hS7)
    go_end0
    exact ⟨rfl, A2, M2, hO2, hN2, hM2, ((hp2.trans HP1.out).cons (gt A i)).trans HDM.out.2.2.2, (H8.out.pull4.dropL).cast (by ac_rfl)⟩
  · obtain rfl : n = i := by omega
    have HDL := Lib.hid (drop_last hl h1 h2 h3)
    go_enter Try.func50, Try.ntmps50
    go_wp2
    refine wp_quiet_tail 13 (by kernel_rfl) (by kernel_rfl) ?_
    simp only [List.take_succ_cons, List.take_zero, List.drop_succ_cons, List.drop_zero]
    repeat (go_big_quiet_step (fail))
    refine wpQuiet_nil ?_
    go_wp2_with (at_delete; refine wpList_del Try.underlying77 Try.underlying3 rfl _ _ rfl rfl _ rfl H0.out ?_; intro w4 hS4; have e0 := hS4.pull2.cell 0 rfl; obtain ⟨u0, u1, u2⟩ := tlCell hS4.pull3 n (by omega); have H4 : Hid (Sat w0 (pc w4.heap.size 82 (tmV (gt A n)) * (hpB h (vs g (n + 1) cap) (.map (some b)) p * (tl (vs g (n + 1) cap) (n + 1) A * (mapI (.map (some b)) (delM M (gt A n).2.1) * F)))) (w4.alloc (.cells #[vu (gt A n).1, vi (gt A n).2.1, vi (gt A n).2.2] 82))) := Lib.hid ((hS4.cast (show _ = hpB h (vs g (n + 1) cap) (.map (some b)) p * (tl (vs g (n + 1) cap) (n + 1) A * (mapI (.map (some b)) (delM M (gt A n).2.1) * F)) by ac_rfl)).alloc (.cells #[vu (gt A n).1, vi (gt A n).2.1, vi (gt A n).2.2] 82)); have f0 := H4.out.pull2.free 0; have g0 := H4.out.pull2.cell 0 rfl; have h5 := H4.out.pull2.store 0 (vs g n cap); have k0 := h5.pull2.cell 0 rfl; have k1 := h5.pull2.cell 1 rfl; have k2 := h5.pull2.cell 2 rfl; have H5 := Lib.hid h5; clear h5 hS4)
    go_end0
    refine ⟨rfl, A.take n, delM M (gt A n).2.1, HDL.out.1, HDL.out.2.1, HDL.out.2.2.1, HDL.out.2.2.2, ?_⟩
    exact ((slShort H5.out.pull3).cast (show _ = pc w4.heap.size 82 (tmV (gt A n)) * (hpB h (vs g n cap) (.map (some b)) p * (tl (vs g n cap) n (A.take n) * (mapI (.map (some b)) (delM M (gt A n).2.1) * F))) by simp only [hpB, List.set_cons_zero]; ac_rfl)).dropL
end
end Go.Proofs.Ytcchfdoeacgapaa.Hm
