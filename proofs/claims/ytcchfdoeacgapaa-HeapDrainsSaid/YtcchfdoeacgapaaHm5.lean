/-
  Contracts of heap.Heap: up. No statement is proved here.
-/
import Derived.Test.YtcchfdoeacgapaaHm4
import Derived.WalkMore
import Derived.ScopeJumps
namespace Go.Proofs.Ytcchfdoeacgapaa.Hm
open Go.RowKit
set_option linter.unusedVariables false
def intAt : Value → Int | .int _ q => q | _ => 0
/-- How it stands while the timer of place i rises: it is at place k. -/
def UpR (A : List Tm) (i n k : Nat) (A' : List Tm) (M' : Int → Option Int) : Prop :=
  k < n ∧ A'.length = n ∧ E (A'.set k (gt A i)) k ∧ Nd (A'.set k (gt A i)) ∧ MP (A'.set k (gt A i)) M' k ∧ (A'.set k (gt A i)).Perm A ∧ (Ch A i → Ch (A'.set k (gt A i)) k)
section
variable {A A' : List Tm} {i n k : Nat} {M M' : Int → Option Int}
theorem set_self {l : List Tm} {j : Nat} (hj : j < l.length) : l.set j (gt l j) = l := by
  apply List.ext_getElem?
  intro m
  rw [List.getElem?_set]
  by_cases h : j = m
  · subst h
    rw [if_pos rfl, if_pos hj, gt_eq hj]
  · rw [if_neg h]
theorem UpR.start (hi : i < n) (hl : A.length = n) (hE : E A i) (hN : Nd A) (hM : MP A M i) : UpR A i n i A M := by
  have e : A.set i (gt A i) = A := set_self (by omega)
  unfold UpR
  rw [e]
  exact ⟨hi, hl, hE, hN, hM, List.Perm.refl _, id⟩
theorem swp_set {l : List Tm} {k q : Nat} {t : Tm} (hk : k < l.length) (hkq : k ≠ q) : swp (l.set k t) k q = (l.set k (gt l q)).set q t := by
  unfold swp
  rw [gt_set hk, gt_set hk, if_neg (Ne.symm hkq), if_pos rfl, List.set_set]
theorem UpR.step (h : UpR A i n k A' M') (h0 : 0 < k) (hl : ¬ nl (gt A i) (gt A' ((k - 1) / 2))) : UpR A i n ((k - 1) / 2) (A'.set k (gt A' ((k - 1) / 2))) (putM M' (gt A' ((k - 1) / 2)).2.1 k) := by
  obtain ⟨h1, h2, h3, h4, h5, h6, h7⟩ := h
  obtain ⟨q, hq⟩ : ∃ q, (k - 1) / 2 = q := ⟨_, rfl⟩
  have hqk : q ≠ k := by omega
  have gk : gt (A'.set k (gt A i)) k = gt A i := by rw [gt_set (by omega), if_pos rfl]
  have gq : gt (A'.set k (gt A i)) q = gt A' q := by rw [gt_set (by omega), if_neg hqk]
  have hs := up_step h0 (by simpa [h2] using h1) h3 (by rw [hq, gk, gq, ← hq]; exact hl)
  rw [hq] at hs hl ⊢
  have hlen : (A'.set k (gt A i)).length = n := by simp [h2]
  have hsw := swp_set (l := A') (k := k) (q := q) (t := gt A i) (by omega) (Ne.symm hqk)
  have hm := h5.swap (i := k) (j := q) (by omega) (by omega) (Ne.symm hqk) h4
  rw [gq] at hm
  have hn := h4.swap (i := k) (j := q) (by omega) (by omega)
  have hp := swp_perm (l := A'.set k (gt A i)) (i := k) (j := q) (by omega) (by omega)
  rw [hsw] at hs hm hn hp
  exact ⟨by omega, by simp [h2], hs.1, hn, hm, hp.trans h6, fun _ => hs.2⟩
theorem UpR.done (h : UpR A i n k A' M') (hd : k = 0 ∨ nl (gt A i) (gt A' ((k - 1) / 2))) : k < n ∧ gt (A'.set k (gt A i)) k = gt A i ∧ E (A'.set k (gt A i)) k ∧ OkI (A'.set k (gt A i)) k ∧ Nd (A'.set k (gt A i)) ∧ MF (A'.set k (gt A i)) (putM M' (gt A i).2.1 k) ∧ (A'.set k (gt A i)).Perm A ∧ (Ch A i → Ch (A'.set k (gt A i)) k) := by
  obtain ⟨h1, h2, h3, h4, h5, h6, h7⟩ := h
  have gk : gt (A'.set k (gt A i)) k = gt A i := by rw [gt_set (by omega), if_pos rfl]
  have hm := h5.done (i := k) (by simp [h2, h1]) h4
  rw [gk] at hm
  refine ⟨h1, gk, h3, fun h0 => ?_, h4, hm, h6, h7⟩
  unfold Ok
  rw [gk, gt_set (by omega), if_neg (by omega)]
  exact hd.resolve_left (by omega)
end
section
variable {w0 w : World} {F : Hp} {h g b n cap : Nat} {p : Int} {A : List Tm} {M : Int → Option Int}
set_option maxRecDepth 100000 in
set_option maxHeartbeats 2000000 in
theorem h_up (hS : Sat w0 (hpB h (vs g n cap) (.map (some b)) p * (tl (vs g n cap) n A * (mapI (.map (some b)) M * F))) w) (i : Nat) (hi : i < n) (hE : E A i) (hN : Nd A) (hM : MP A M i) :
    Calls Try.prog 49 #[vp h, vi i] w fun e w' => e = .returned (.tuple #[]) ∧ ∃ A' M' i', i' < n ∧ gt A' i' = gt A i ∧ E A' i' ∧ OkI A' i' ∧ Nd A' ∧ MF A' M' ∧ A'.Perm A ∧ (Ch A i → Ch A' i') ∧
      Sat w0 (hpB h (vs g n cap) (.map (some b)) p * (tl (vs g n cap) n A' * (mapI (.map (some b)) M' * F))) w' := by
  obtain ⟨hl, hc1, hc2⟩ := tlLen hS.pull2
  unfold maxLen at hc2
  obtain ⟨t0, t1, t2⟩ := tlCell hS.pull2 i hi
  have c0 := hS.cell 0 rfl
  have hi2 : (i : Int) < (n : Int) := by omega
  have HR0 := Lib.hid (UpR.start hi hl hE hN hM)
  have H0 : Hid (Sat w0 (pc w.heap.size 82 (tmV (gt A i)) * (hpB h (vs g n cap) (.map (some b)) p * (tl (vs g n cap) n A * (mapI (.map (some b)) M * F)))) (w.alloc (.cells #[vu (gt A i).1, vi (gt A i).2.1, vi (gt A i).2.2] 82))) := Lib.hid (hS.alloc (.cells #[vu (gt A i).1, vi (gt A i).2.1, vi (gt A i).2.2] 82))
  clear hE hN hM hS
  obtain ⟨bt, hbt⟩ : ∃ bt, w.heap.size = bt := ⟨_, rfl⟩
  rw [hbt] at H0
  have HBT := Lib.hid hbt
  clear hbt
  go_enter Try.func49, Try.ntmps49
  go_wp2
  refine wp_scope_jumps 0 (fun a' w' => ∃ (k : Nat) (A' : List Tm) (M' : Int → Option Int), (∃ (u5 u13 u14 u15 u16 u17 u18 u19 u20 u21 u22 u23 u24 u25 u26 u27 u28 u29 u30 u31 u32 u33 u34 u35 u36 u37 u38 u39 u40 u41 u42 u43 : Value), a' = { tmps := #[vp h, vi k, undef, undef, .pointer (some ⟨bt, 0, none⟩), u5, vp h, .pointer (some ⟨h, 0, none⟩), .pointer (some ⟨h, 0, none⟩), vs g n cap, vi i, .pointer (some ⟨g, i * 3, none⟩), tmA (gt A i), u13, u14, u15, u16, u17, u18, u19, u20, u21, u22, u23, u24, u25, u26, u27, u28, u29, u30, u31, u32, u33, u34, u35, u36, u37, u38, u39, u40, u41, u42, u43], defers := [] }) ∧ UpR A i n k A' M' ∧ Sat w0 (pc bt 82 (tmV (gt A i)) * (hpB h (vs g n cap) (.map (some b)) p * (tl (vs g n cap) n A' * (mapI (.map (some b)) M' * F)))) w') (fun a' _ => (intAt (a'.tmps.getD 1 undef)).toNat) rfl ?_ ?_
  · go_wp2
    go_step3
    rw [HBT.out]
    have HR := HR0
    have HS := H0
    clear c0 t0 t1 t2 H0 HR0
    have hr := HR.out
    have hk : i < n := hr.1
    have hkz : (i : Int) < (n : Int) := by omega
    have c0 := HS.out.pull2.cell 0 rfl
    have b0 := HS.out.cell 0 rfl
    have b1 := HS.out.cell 1 rfl
    have b2 := HS.out.cell 2 rfl
    by_cases hk0 : i = 0
    · have HD := Lib.hid (hr.done (.inl hk0))
      have hk2 : decide (0 < i) = false := decide_eq_false (by omega)
      have hk3 : ¬ (0 : Int) < (i : Int) := by omega
      have hk4 : (i : Int) - 1 < 9223372036854775807 := by omega
      have HX := Lib.hid (fun (w9 : World) (h9 : Sat w0 (pc bt 82 (tmV (gt A i)) * (hpB h (vs g n cap) (.map (some b)) p * (tl (vs g n cap) n A * (mapI (.map (some b)) M * F)))) w9) => h_set (h9.dropL) i hk (gt A i))
      clear hr hk0
      go_wp2
      go_quiet (fail)
      go_wp2_with (go_at_call 71; refine (HX.out _ (HS.out.drewN _)).mono ?_; rintro e w5 ⟨rfl, hS5⟩; have H5 := Lib.hid hS5; clear hS5)
      simp only [Exit.jump]
      go_end0
      exact ⟨rfl, _, _, i, HD.out.1, HD.out.2.1, HD.out.2.2.1, HD.out.2.2.2.1, HD.out.2.2.2.2.1, HD.out.2.2.2.2.2.1, HD.out.2.2.2.2.2.2.1, HD.out.2.2.2.2.2.2.2, H5.out⟩
    · obtain ⟨q, hq⟩ : ∃ q, (i - 1) / 2 = q := ⟨_, rfl⟩
      have hqn : q < n := by omega
      have hqz : (q : Int) < (n : Int) := by omega
      have hqd : ((i : Int) - 1) / 2 = (q : Int) := by omega
      have hk1 : (0 : Int) < (i : Int) := by omega
      have hk2 : decide (0 < i) = true := decide_eq_true (by omega)
      obtain ⟨t0, t1, t2⟩ := tlCell HS.out.pull3 q hqn
      have HD := Lib.hid (fun hx => hr.done (i := i) (.inr (show nl (gt A i) (gt A ((i - 1) / 2)) from hx)))
      have HT := Lib.hid (fun hx => hr.step (by omega) (show ¬ nl (gt A i) (gt A ((i - 1) / 2)) from hx))
      rw [hq] at HD HT
      have HX := Lib.hid (fun (w9 : World) (h9 : Sat w0 (pc bt 82 (tmV (gt A i)) * (hpB h (vs g n cap) (.map (some b)) p * (tl (vs g n cap) n A * (mapI (.map (some b)) M * F)))) w9) => h_set (h9.dropL) i hk (gt A i))
      have HY := Lib.hid (fun (w9 : World) (h9 : Sat w0 (pc bt 82 (tmV (gt A i)) * (hpB h (vs g n cap) (.map (some b)) p * (tl (vs g n cap) n A * (mapI (.map (some b)) M * F)))) w9) => h_set (F := pc bt 82 (tmV (gt A i)) * F) (h9.cast (by ac_rfl)) i hk (gt A q))
      have HL := Lib.hid (fun (w9 : World) (G : Hp) (h9 : Sat w0 G w9) => h_less h9 (gt A i) (gt A q))
      clear hr
      by_cases hx : nl (gt A i) (gt A q)
      · rw [lessT_no.2 hx] at HL
        have HD2 := Lib.hid (HD.out hx)
        clear hx HD HT
        go_wp2
        rw [hqd]
        go_region_held3 (fun w' => w'.cell? ⟨h, 0, none⟩ = some (vs g n cap) ∧ w'.cell? ⟨bt, 0, none⟩ = some (vu (gt A i).1) ∧ w'.cell? ⟨bt, 1, none⟩ = some (vi (gt A i).2.1) ∧ w'.cell? ⟨bt, 2, none⟩ = some (vi (gt A i).2.2) ∧ w'.cell? ⟨g, q * 3, none⟩ = some (vu (gt A q).1) ∧ w'.cell? ⟨g, q * 3 + 1, none⟩ = some (vi (gt A q).2.1) ∧ w'.cell? ⟨g, q * 3 + 2, none⟩ = some (vi (gt A q).2.2))
          (first | exact ⟨d0, d1, d2, d3, d4, d5, d6⟩ | go_keep)
          ((go_at_call 70; refine (HL.out _ _ (HS.out.drewN 1)).mono ?_; rintro e w5 ⟨rfl, hS5⟩; have d0 := hS5.pull2.cell 0 rfl; have d1 := hS5.cell 0 rfl; have d2 := hS5.cell 1 rfl; have d3 := hS5.cell 2 rfl; obtain ⟨d4, d5, d6⟩ := tlCell hS5.pull3 q hqn; have H5 := Lib.hid hS5; clear hS5))
        go_wp2_with (go_at_call 71; refine (HX.out _ H5.out).mono ?_; rintro e w6 ⟨rfl, hS6⟩; have H6 := Lib.hid hS6; clear hS6)
        simp only [Exit.jump]
        go_end0
        exact ⟨rfl, _, _, i, HD2.out.1, HD2.out.2.1, HD2.out.2.2.1, HD2.out.2.2.2.1, HD2.out.2.2.2.2.1, HD2.out.2.2.2.2.2.1, HD2.out.2.2.2.2.2.2.1, HD2.out.2.2.2.2.2.2.2, H6.out⟩
      · rw [lessT_yes.2 hx] at HL
        have HT2 := Lib.hid (HT.out hx)
        clear hx HD HT
        go_wp2
        rw [hqd]
        go_region_held3 (fun w' => w'.cell? ⟨h, 0, none⟩ = some (vs g n cap) ∧ w'.cell? ⟨bt, 0, none⟩ = some (vu (gt A i).1) ∧ w'.cell? ⟨bt, 1, none⟩ = some (vi (gt A i).2.1) ∧ w'.cell? ⟨bt, 2, none⟩ = some (vi (gt A i).2.2) ∧ w'.cell? ⟨g, q * 3, none⟩ = some (vu (gt A q).1) ∧ w'.cell? ⟨g, q * 3 + 1, none⟩ = some (vi (gt A q).2.1) ∧ w'.cell? ⟨g, q * 3 + 2, none⟩ = some (vi (gt A q).2.2))
          (first | exact ⟨d0, d1, d2, d3, d4, d5, d6⟩ | go_keep)
          ((go_at_call 70; refine (HL.out _ _ (HS.out.drewN 1)).mono ?_; rintro e w5 ⟨rfl, hS5⟩; have d0 := hS5.pull2.cell 0 rfl; have d1 := hS5.cell 0 rfl; have d2 := hS5.cell 1 rfl; have d3 := hS5.cell 2 rfl; obtain ⟨d4, d5, d6⟩ := tlCell hS5.pull3 q hqn; have H5 := Lib.hid hS5; clear hS5))
        go_wp2_with (go_at_call 71; refine (HY.out _ H5.out).mono ?_; rintro e w6 ⟨rfl, hS6⟩; have H6 := Lib.hid hS6; clear hS6)
        go_step3
        exact ⟨rfl, ⟨q, _, _, ⟨_, _, _, _, _, _, _, _, _, _, _, _, _, _, _, _, _, _, _, _, _, _, _, _, _, _, _, _, _, _, _, _, rfl⟩, HT2.out, H6.out.cast (by ac_rfl)⟩⟩

  · rintro a' wr ⟨k, A', M', ⟨u5, u13, u14, u15, u16, u17, u18, u19, u20, u21, u22, u23, u24, u25, u26, u27, u28, u29, u30, u31, u32, u33, u34, u35, u36, u37, u38, u39, u40, u41, u42, u43, rfl⟩, hR, hS'⟩
    have HR := Lib.hid hR
    have HS := Lib.hid hS'
    clear hR hS' c0 t0 t1 t2 H0 HR0
    have hr := HR.out
    have hk : k < n := hr.1
    have hkz : (k : Int) < (n : Int) := by omega
    have c0 := HS.out.pull2.cell 0 rfl
    have b0 := HS.out.cell 0 rfl
    have b1 := HS.out.cell 1 rfl
    have b2 := HS.out.cell 2 rfl
    by_cases hk0 : k = 0
    · have HD := Lib.hid (hr.done (.inl hk0))
      have hk2 : decide (0 < k) = false := decide_eq_false (by omega)
      have hk3 : ¬ (0 : Int) < (k : Int) := by omega
      have hk4 : (k : Int) - 1 < 9223372036854775807 := by omega
      have HX := Lib.hid (fun (w9 : World) (h9 : Sat w0 (pc bt 82 (tmV (gt A i)) * (hpB h (vs g n cap) (.map (some b)) p * (tl (vs g n cap) n A' * (mapI (.map (some b)) M' * F)))) w9) => h_set (h9.dropL) k hk (gt A i))
      clear hr hk0
      go_wp2
      go_quiet (fail)
      go_wp2_with (go_at_call 71; refine (HX.out _ (HS.out.drewN _)).mono ?_; rintro e w5 ⟨rfl, hS5⟩; have H5 := Lib.hid hS5; clear hS5)
      simp only [Exit.jump]
      go_end0
      exact ⟨rfl, _, _, k, HD.out.1, HD.out.2.1, HD.out.2.2.1, HD.out.2.2.2.1, HD.out.2.2.2.2.1, HD.out.2.2.2.2.2.1, HD.out.2.2.2.2.2.2.1, HD.out.2.2.2.2.2.2.2, H5.out⟩
    · obtain ⟨q, hq⟩ : ∃ q, (k - 1) / 2 = q := ⟨_, rfl⟩
      have hqn : q < n := by omega
      have hqz : (q : Int) < (n : Int) := by omega
      have hqd : ((k : Int) - 1) / 2 = (q : Int) := by omega
      have hk1 : (0 : Int) < (k : Int) := by omega
      have hk2 : decide (0 < k) = true := decide_eq_true (by omega)
      obtain ⟨t0, t1, t2⟩ := tlCell HS.out.pull3 q hqn
      have HD := Lib.hid (fun hx => hr.done (i := i) (.inr (show nl (gt A i) (gt A' ((k - 1) / 2)) from hx)))
      have HT := Lib.hid (fun hx => hr.step (by omega) (show ¬ nl (gt A i) (gt A' ((k - 1) / 2)) from hx))
      rw [hq] at HD HT
      have HX := Lib.hid (fun (w9 : World) (h9 : Sat w0 (pc bt 82 (tmV (gt A i)) * (hpB h (vs g n cap) (.map (some b)) p * (tl (vs g n cap) n A' * (mapI (.map (some b)) M' * F)))) w9) => h_set (h9.dropL) k hk (gt A i))
      have HY := Lib.hid (fun (w9 : World) (h9 : Sat w0 (pc bt 82 (tmV (gt A i)) * (hpB h (vs g n cap) (.map (some b)) p * (tl (vs g n cap) n A' * (mapI (.map (some b)) M' * F)))) w9) => h_set (F := pc bt 82 (tmV (gt A i)) * F) (h9.cast (by ac_rfl)) k hk (gt A' q))
      have HL := Lib.hid (fun (w9 : World) (G : Hp) (h9 : Sat w0 G w9) => h_less h9 (gt A i) (gt A' q))
      clear hr
      by_cases hx : nl (gt A i) (gt A' q)
      · rw [lessT_no.2 hx] at HL
        have HD2 := Lib.hid (HD.out hx)
        clear hx HD HT
        go_wp2
        rw [hqd]
        go_region_held3 (fun w' => w'.cell? ⟨h, 0, none⟩ = some (vs g n cap) ∧ w'.cell? ⟨bt, 0, none⟩ = some (vu (gt A i).1) ∧ w'.cell? ⟨bt, 1, none⟩ = some (vi (gt A i).2.1) ∧ w'.cell? ⟨bt, 2, none⟩ = some (vi (gt A i).2.2) ∧ w'.cell? ⟨g, q * 3, none⟩ = some (vu (gt A' q).1) ∧ w'.cell? ⟨g, q * 3 + 1, none⟩ = some (vi (gt A' q).2.1) ∧ w'.cell? ⟨g, q * 3 + 2, none⟩ = some (vi (gt A' q).2.2))
          (first | exact ⟨d0, d1, d2, d3, d4, d5, d6⟩ | go_keep)
          ((go_at_call 70; refine (HL.out _ _ (HS.out.drewN 1)).mono ?_; rintro e w5 ⟨rfl, hS5⟩; have d0 := hS5.pull2.cell 0 rfl; have d1 := hS5.cell 0 rfl; have d2 := hS5.cell 1 rfl; have d3 := hS5.cell 2 rfl; obtain ⟨d4, d5, d6⟩ := tlCell hS5.pull3 q hqn; have H5 := Lib.hid hS5; clear hS5))
        go_wp2_with (go_at_call 71; refine (HX.out _ H5.out).mono ?_; rintro e w6 ⟨rfl, hS6⟩; have H6 := Lib.hid hS6; clear hS6)
        simp only [Exit.jump]
        go_end0
        exact ⟨rfl, _, _, k, HD2.out.1, HD2.out.2.1, HD2.out.2.2.1, HD2.out.2.2.2.1, HD2.out.2.2.2.2.1, HD2.out.2.2.2.2.2.1, HD2.out.2.2.2.2.2.2.1, HD2.out.2.2.2.2.2.2.2, H6.out⟩
      · rw [lessT_yes.2 hx] at HL
        have HT2 := Lib.hid (HT.out hx)
        clear hx HD HT
        go_wp2
        rw [hqd]
        go_region_held3 (fun w' => w'.cell? ⟨h, 0, none⟩ = some (vs g n cap) ∧ w'.cell? ⟨bt, 0, none⟩ = some (vu (gt A i).1) ∧ w'.cell? ⟨bt, 1, none⟩ = some (vi (gt A i).2.1) ∧ w'.cell? ⟨bt, 2, none⟩ = some (vi (gt A i).2.2) ∧ w'.cell? ⟨g, q * 3, none⟩ = some (vu (gt A' q).1) ∧ w'.cell? ⟨g, q * 3 + 1, none⟩ = some (vi (gt A' q).2.1) ∧ w'.cell? ⟨g, q * 3 + 2, none⟩ = some (vi (gt A' q).2.2))
          (first | exact ⟨d0, d1, d2, d3, d4, d5, d6⟩ | go_keep)
          ((go_at_call 70; refine (HL.out _ _ (HS.out.drewN 1)).mono ?_; rintro e w5 ⟨rfl, hS5⟩; have d0 := hS5.pull2.cell 0 rfl; have d1 := hS5.cell 0 rfl; have d2 := hS5.cell 1 rfl; have d3 := hS5.cell 2 rfl; obtain ⟨d4, d5, d6⟩ := tlCell hS5.pull3 q hqn; have H5 := Lib.hid hS5; clear hS5))
        go_wp2_with (go_at_call 71; refine (HY.out _ H5.out).mono ?_; rintro e w6 ⟨rfl, hS6⟩; have H6 := Lib.hid hS6; clear hS6)
        go_step3
        exact ⟨rfl, ⟨q, _, _, ⟨_, _, _, _, _, _, _, _, _, _, _, _, _, _, _, _, _, _, _, _, _, _, _, _, _, _, _, _, _, _, _, _, rfl⟩, HT2.out, H6.out.cast (by ac_rfl)⟩, by simp [intAt]; omega⟩

end
end Go.Proofs.Ytcchfdoeacgapaa.Hm
