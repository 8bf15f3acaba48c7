/-
  Contracts of heap.Heap: down. No statement is proved here.
-/
import Derived.Test.YtcchfdoeacgapaaHm5
namespace Go.Proofs.Ytcchfdoeacgapaa.Hm
open Go.RowKit
set_option linter.unusedVariables false
/-- How it stands while the timer of place i sinks: it is at place k. -/
def DnR (A : List Tm) (i n k : Nat) (A' : List Tm) (M' : Int → Option Int) : Prop :=
  k < n ∧ A'.length = n ∧ E (A'.set k (gt A i)) k ∧ OkI (A'.set k (gt A i)) k ∧ Nd (A'.set k (gt A i)) ∧ MP (A'.set k (gt A i)) M' k ∧ (A'.set k (gt A i)).Perm A
section
variable {A A' : List Tm} {i n k : Nat} {M M' : Int → Option Int}
theorem DnR.start (hi : i < n) (hl : A.length = n) (hE : E A i) (hO : OkI A i) (hN : Nd A) (hM : MP A M i) : DnR A i n i A M := by
  have e : A.set i (gt A i) = A := set_self (by omega)
  unfold DnR
  rw [e]
  exact ⟨hi, hl, hE, hO, hN, hM, List.Perm.refl _⟩
theorem DnR.step {m : Nat} (h : DnR A i n k A' M') (h0 : 0 < m) (hm : m < n) (hk : (m - 1) / 2 = k) (hmin : ∀ c, 0 < c → c < n → (c - 1) / 2 = k → nl (gt A' c) (gt A' m)) (hl : ¬ nl (gt A' m) (gt A i)) :
    DnR A i n m (A'.set k (gt A' m)) (putM M' (gt A' m).2.1 k) := by
  obtain ⟨h1, h2, h3, h4, h5, h6, h7⟩ := h
  have hmk : m ≠ k := by omega
  have gk : gt (A'.set k (gt A i)) k = gt A i := by rw [gt_set (by omega), if_pos rfl]
  have gm : ∀ c, c ≠ k → gt (A'.set k (gt A i)) c = gt A' c := fun c hc => by rw [gt_set (by omega), if_neg hc]
  have hlen : (A'.set k (gt A i)).length = n := by simp [h2]
  have hs := down_step (l := A'.set k (gt A i)) (i := k) (k := m) (by omega) (by omega) h0 hk h3 h4 (fun c c0 c1 c2 => by rw [gm c (by omega), gm m hmk]; exact hmin c c0 (by omega) c2) (by rw [gm m hmk, gk]; exact hl)
  have hsw := swp_set (l := A') (k := k) (q := m) (t := gt A i) (by omega) (Ne.symm hmk)
  have hmp := h6.swap (i := k) (j := m) (by omega) (by omega) (Ne.symm hmk) h5
  rw [gm m hmk] at hmp
  have hn := h5.swap (i := k) (j := m) (by omega) (by omega)
  have hp := swp_perm (l := A'.set k (gt A i)) (i := k) (j := m) (by omega) (by omega)
  rw [hsw] at hs hmp hn hp
  exact ⟨hm, by simp [h2], hs.1, hs.2, hn, hmp, hp.trans h7⟩
theorem DnR.done (h : DnR A i n k A' M') (hd : ∀ c, 0 < c → c < n → (c - 1) / 2 = k → nl (gt A' c) (gt A i)) : HO (A'.set k (gt A i)) ∧ Nd (A'.set k (gt A i)) ∧ MF (A'.set k (gt A i)) (putM M' (gt A i).2.1 k) ∧ (A'.set k (gt A i)).Perm A := by
  obtain ⟨h1, h2, h3, h4, h5, h6, h7⟩ := h
  have gk : gt (A'.set k (gt A i)) k = gt A i := by rw [gt_set (by omega), if_pos rfl]
  have hm := h6.done (i := k) (by simp [h2, h1]) h5
  rw [gk] at hm
  refine ⟨HO.of h3 h4 (fun c c0 c1 c2 => ?_), h5, hm, h7⟩
  unfold Ok
  rw [c2, gk, gt_set (by omega), if_neg (by omega)]
  exact hd c c0 (by simpa [h2] using c1) c2
end
section
variable {w0 w : World} {F : Hp} {h g b n cap : Nat} {p : Int} {A : List Tm} {M : Int → Option Int}
set_option maxRecDepth 1000000 in
set_option maxHeartbeats 4000000 in
theorem h_down (hS : Sat w0 (hpB h (vs g n cap) (.map (some b)) p * (tl (vs g n cap) n A * (mapI (.map (some b)) M * F))) w) (i : Nat) (hi : i < n) (hn : n ≤ 1000000) (hE : E A i) (hO : OkI A i) (hN : Nd A) (hM : MP A M i) :
    Calls Try.prog 72 #[vp h, vi i] w fun e w' => e = .returned (.tuple #[]) ∧ ∃ A' M', HO A' ∧ Nd A' ∧ MF A' M' ∧ A'.Perm A ∧
      Sat w0 (hpB h (vs g n cap) (.map (some b)) p * (tl (vs g n cap) n A' * (mapI (.map (some b)) M' * F))) w' := by
  obtain ⟨hl, hc1, hc2⟩ := tlLen hS.pull2
  unfold maxLen at hc2
  obtain ⟨t0, t1, t2⟩ := tlCell hS.pull2 i hi
  have c0 := hS.cell 0 rfl
  have hi2 : (i : Int) < (n : Int) := by omega
  have HR0 := Lib.hid (DnR.start hi hl hE hO hN hM)
  have H0 : Hid (Sat w0 (pc w.heap.size 82 (tmV (gt A i)) * (hpB h (vs g n cap) (.map (some b)) p * (tl (vs g n cap) n A * (mapI (.map (some b)) M * F)))) (w.alloc (.cells #[vu (gt A i).1, vi (gt A i).2.1, vi (gt A i).2.2] 82))) := Lib.hid (hS.alloc (.cells #[vu (gt A i).1, vi (gt A i).2.1, vi (gt A i).2.2] 82))
  clear hE hN hM hS hO
  obtain ⟨bt, hbt⟩ : ∃ bt, w.heap.size = bt := ⟨_, rfl⟩
  rw [hbt] at H0
  have HBT := Lib.hid hbt
  clear hbt
  go_enter Try.func72, Try.ntmps72
  go_wp2
  rw [HBT.out]
  clear c0 t0 t1 t2
  go_loopw [1] (fun iv wr => ∃ (k : Nat) (A' : List Tm) (M' : Int → Option Int), iv = vi k ∧ DnR A i n k A' M' ∧ Sat w0 (pc bt 82 (tmV (gt A i)) * (hpB h (vs g n cap) (.map (some b)) p * (tl (vs g n cap) n A' * (mapI (.map (some b)) M' * F)))) wr) (fun iv _ => n - (intOf iv).toNat)
  case atStart => exact ⟨i, A, M, rfl, HR0.out, H0.out⟩
  case round =>
    obtain ⟨k, A', M', rfl, hR, hS'⟩ := hrel
    have HR := Lib.hid hR
    have HS := Lib.hid hS'
    have hk : k < n := hR.1
    have hkz : (k : Int) < (n : Int) := by omega
    have c0 := hS'.pull2.cell 0 rfl
    have b0 := hS'.cell 0 rfl
    have b1 := hS'.cell 1 rfl
    have b2 := hS'.cell 2 rfl
    clear hR hS'
    obtain ⟨c1, hc1⟩ : ∃ c1, c1 = 2 * k + 1 := ⟨_, rfl⟩
    have HC1 := Lib.hid hc1
    have HCD := Lib.hid (show 2 * (k : Int) + 1 = (c1 : Int) by omega)
    have hkb : 2 * (k : Int) + 1 < 9223372036854775807 := by omega
    have hcb : (c1 : Int) + 1 < 9223372036854775807 := by omega
    have hz0 : (0 : Int) ≤ (c1 : Int) + 1 := by omega
    have hz1 : (0 : Int) ≤ (c1 : Int) := by omega
    have hwr : IntKind.i64.wrap ((c1 : Int) + 1) = (c1 : Int) + 1 := IntWalk.i64_in _ (by omega)
    clear hc1
    by_cases hc1n : c1 < n
    · have hc1z : (c1 : Int) < (n : Int) := by omega
      obtain ⟨t0, t1, t2⟩ := tlCell HS.out.pull3 c1 hc1n
      by_cases hc2n : c1 + 1 < n
      · have hc2z : (c1 : Int) + 1 < (n : Int) := by omega
        have hc2d : decide (c1 + 1 < n) = true := decide_eq_true hc2n
        have hc2e : decide ((c1 : Int) + 1 < (n : Int)) = true := decide_eq_true hc2z
        obtain ⟨v0, v1, v2⟩ := tlCell HS.out.pull3 (c1 + 1) hc2n
        by_cases hll : nl (gt A' (c1 + 1)) (gt A' c1)
        · have hl2 := lessT_no.2 hll
          have hmin : Hid (∀ c, 0 < c → c < n → (c - 1) / 2 = k → nl (gt A' c) (gt A' c1)) := Lib.hid fun c h0 hcn hck => by
            have hc1 := HC1.out
            obtain rfl | rfl : c = c1 ∨ c = c1 + 1 := by omega
            · exact nl_refl _
            · exact hll
          clear hll
          go_wp2
          rw [HCD.out]
          go_region_held3 (fun w' => w'.cell? ⟨h, 0, none⟩ = some (vs g n cap) ∧ w'.cell? ⟨g, c1 * 3, none⟩ = some (vu (gt A' c1).1) ∧ w'.cell? ⟨g, c1 * 3 + 1, none⟩ = some (vi (gt A' c1).2.1) ∧ w'.cell? ⟨g, c1 * 3 + 2, none⟩ = some (vi (gt A' c1).2.2) ∧ w'.cell? ⟨g, (c1 + 1) * 3, none⟩ = some (vu (gt A' (c1 + 1)).1) ∧ w'.cell? ⟨g, (c1 + 1) * 3 + 1, none⟩ = some (vi (gt A' (c1 + 1)).2.1) ∧ w'.cell? ⟨g, (c1 + 1) * 3 + 2, none⟩ = some (vi (gt A' (c1 + 1)).2.2))
            (first | exact ⟨d0, d1, d2, d3, d4, d5, d6⟩ | go_keep)
            ((go_at_call 70; refine (h_less (HS.out.drewN 1) (gt A' (c1 + 1)) (gt A' c1)).mono ?_; rw [hl2]; rintro e w6 ⟨rfl, hS6⟩; have d0 := hS6.pull2.cell 0 rfl; obtain ⟨d1, d2, d3⟩ := tlCell hS6.pull3 c1 hc1n; obtain ⟨d4, d5, d6⟩ := tlCell hS6.pull3 (c1 + 1) hc2n; have HS2 := Lib.hid hS6; clear hS6))
          go_wp2
          have hmn : c1 < n := by omega
          have hmz : (c1 : Int) < (n : Int) := by omega
          have hge : decide (n ≤ c1) = false := decide_eq_false (by omega)
          have hgz : ¬ (n : Int) ≤ (c1 : Int) := by omega
          have hgy : decide ((n : Int) ≤ (c1 : Int)) = false := decide_eq_false hgz
          have e0 := HS2.out.pull2.cell 0 rfl
          have e1 := HS2.out.cell 0 rfl
          have e2 := HS2.out.cell 1 rfl
          have e3 := HS2.out.cell 2 rfl
          obtain ⟨e4, e5, e6⟩ := tlCell HS2.out.pull3 (c1) hmn
          by_cases hx : nl (gt A' (c1)) (gt A i)
          · have hlt := lessT_no.2 hx
            have HD := Lib.hid (HR.out.done (fun c h0 hcn hck => nl_trans (hmin.out c h0 hcn hck) hx))
            clear hx
            go_region_held3 (fun w' => w'.cell? ⟨h, 0, none⟩ = some (vs g n cap) ∧ w'.cell? ⟨bt, 0, none⟩ = some (vu (gt A i).1) ∧ w'.cell? ⟨bt, 1, none⟩ = some (vi (gt A i).2.1) ∧ w'.cell? ⟨bt, 2, none⟩ = some (vi (gt A i).2.2) ∧ w'.cell? ⟨g, c1 * 3, none⟩ = some (vu (gt A' c1).1) ∧ w'.cell? ⟨g, c1 * 3 + 1, none⟩ = some (vi (gt A' c1).2.1) ∧ w'.cell? ⟨g, c1 * 3 + 2, none⟩ = some (vi (gt A' c1).2.2))
              (first | exact ⟨d0, d1, d2, d3, d4, d5, d6⟩ | go_keep)
              ((go_at_call 70; refine (h_less (HS2.out.drew) (gt A' (c1)) (gt A i)).mono ?_; rw [hlt]; rintro e w7 ⟨rfl, hS7⟩; have d0 := hS7.pull2.cell 0 rfl; have d1 := hS7.cell 0 rfl; have d2 := hS7.cell 1 rfl; have d3 := hS7.cell 2 rfl; obtain ⟨d4, d5, d6⟩ := tlCell hS7.pull3 (c1) hmn; have H7 := Lib.hid hS7; clear hS7))
            go_wp2_with (go_at_call 71; refine (h_set (H7.out.dropL) k hk (gt A i)).mono ?_; rintro e w8 ⟨rfl, hS8⟩; have H8 := Lib.hid hS8; clear hS8)
            go_end0
            exact ⟨rfl, _, _, HD.out.1, HD.out.2.1, HD.out.2.2.1, HD.out.2.2.2, H8.out⟩
          · have hlt := lessT_yes.2 hx
            have HT := Lib.hid (HR.out.step (m := c1) (by have hc1 := HC1.out; omega) hmn (by have hc1 := HC1.out; omega) hmin.out hx)
            clear hx
            go_region_held3 (fun w' => w'.cell? ⟨h, 0, none⟩ = some (vs g n cap) ∧ w'.cell? ⟨bt, 0, none⟩ = some (vu (gt A i).1) ∧ w'.cell? ⟨bt, 1, none⟩ = some (vi (gt A i).2.1) ∧ w'.cell? ⟨bt, 2, none⟩ = some (vi (gt A i).2.2) ∧ w'.cell? ⟨g, c1 * 3, none⟩ = some (vu (gt A' c1).1) ∧ w'.cell? ⟨g, c1 * 3 + 1, none⟩ = some (vi (gt A' c1).2.1) ∧ w'.cell? ⟨g, c1 * 3 + 2, none⟩ = some (vi (gt A' c1).2.2))
              (first | exact ⟨d0, d1, d2, d3, d4, d5, d6⟩ | go_keep)
              ((go_at_call 70; refine (h_less (HS2.out.drew) (gt A' (c1)) (gt A i)).mono ?_; rw [hlt]; rintro e w7 ⟨rfl, hS7⟩; have d0 := hS7.pull2.cell 0 rfl; have d1 := hS7.cell 0 rfl; have d2 := hS7.cell 1 rfl; have d3 := hS7.cell 2 rfl; obtain ⟨d4, d5, d6⟩ := tlCell hS7.pull3 (c1) hmn; have H7 := Lib.hid hS7; clear hS7))
            go_wp2_with (go_at_call 71; refine (h_set (F := pc bt 82 (tmV (gt A i)) * F) (H7.out.cast (by ac_rfl)) k hk (gt A' (c1))).mono ?_; rintro e w8 ⟨rfl, hS8⟩; have H8 := Lib.hid hS8; clear hS8)
            go_roundw
            case rel => exact ⟨c1, _, _, by go_num, HT.out, H8.out.cast (by ac_rfl)⟩
            case measure => have hc1 := HC1.out; simp [intOf]; omega
        · have hl2 := lessT_yes.2 hll
          have hmin : Hid (∀ c, 0 < c → c < n → (c - 1) / 2 = k → nl (gt A' c) (gt A' (c1 + 1))) := Lib.hid fun c h0 hcn hck => by
            have hc1 := HC1.out
            obtain rfl | rfl : c = c1 ∨ c = c1 + 1 := by omega
            · exact nl_total hll
            · exact nl_refl _
          clear hll
          go_wp2
          rw [HCD.out]
          go_region_held3 (fun w' => w'.cell? ⟨h, 0, none⟩ = some (vs g n cap) ∧ w'.cell? ⟨g, c1 * 3, none⟩ = some (vu (gt A' c1).1) ∧ w'.cell? ⟨g, c1 * 3 + 1, none⟩ = some (vi (gt A' c1).2.1) ∧ w'.cell? ⟨g, c1 * 3 + 2, none⟩ = some (vi (gt A' c1).2.2) ∧ w'.cell? ⟨g, (c1 + 1) * 3, none⟩ = some (vu (gt A' (c1 + 1)).1) ∧ w'.cell? ⟨g, (c1 + 1) * 3 + 1, none⟩ = some (vi (gt A' (c1 + 1)).2.1) ∧ w'.cell? ⟨g, (c1 + 1) * 3 + 2, none⟩ = some (vi (gt A' (c1 + 1)).2.2))
            (first | exact ⟨d0, d1, d2, d3, d4, d5, d6⟩ | go_keep)
            ((go_at_call 70; refine (h_less (HS.out.drewN 1) (gt A' (c1 + 1)) (gt A' c1)).mono ?_; rw [hl2]; rintro e w6 ⟨rfl, hS6⟩; have d0 := hS6.pull2.cell 0 rfl; obtain ⟨d1, d2, d3⟩ := tlCell hS6.pull3 c1 hc1n; obtain ⟨d4, d5, d6⟩ := tlCell hS6.pull3 (c1 + 1) hc2n; have HS2 := Lib.hid hS6; clear hS6))
          go_wp2
          have hmn : (c1 + 1) < n := by omega
          have hmz : (c1 : Int) + 1 < (n : Int) := by omega
          have hge : decide (n ≤ (c1 + 1)) = false := decide_eq_false (by omega)
          have hgz : ¬ (n : Int) ≤ (c1 : Int) + 1 := by omega
          have hgy : decide ((n : Int) ≤ (c1 : Int) + 1) = false := decide_eq_false hgz
          have e0 := HS2.out.pull2.cell 0 rfl
          have e1 := HS2.out.cell 0 rfl
          have e2 := HS2.out.cell 1 rfl
          have e3 := HS2.out.cell 2 rfl
          obtain ⟨e4, e5, e6⟩ := tlCell HS2.out.pull3 ((c1 + 1)) hmn
          by_cases hx : nl (gt A' ((c1 + 1))) (gt A i)
          · have hlt := lessT_no.2 hx
            have HD := Lib.hid (HR.out.done (fun c h0 hcn hck => nl_trans (hmin.out c h0 hcn hck) hx))
            clear hx
            go_region_held3 (fun w' => w'.cell? ⟨h, 0, none⟩ = some (vs g n cap) ∧ w'.cell? ⟨bt, 0, none⟩ = some (vu (gt A i).1) ∧ w'.cell? ⟨bt, 1, none⟩ = some (vi (gt A i).2.1) ∧ w'.cell? ⟨bt, 2, none⟩ = some (vi (gt A i).2.2) ∧ w'.cell? ⟨g, (c1 + 1) * 3, none⟩ = some (vu (gt A' (c1 + 1)).1) ∧ w'.cell? ⟨g, (c1 + 1) * 3 + 1, none⟩ = some (vi (gt A' (c1 + 1)).2.1) ∧ w'.cell? ⟨g, (c1 + 1) * 3 + 2, none⟩ = some (vi (gt A' (c1 + 1)).2.2))
              (first | exact ⟨d0, d1, d2, d3, d4, d5, d6⟩ | go_keep)
              ((go_at_call 70; refine (h_less (HS2.out.drew) (gt A' ((c1 + 1))) (gt A i)).mono ?_; rw [hlt]; rintro e w7 ⟨rfl, hS7⟩; have d0 := hS7.pull2.cell 0 rfl; have d1 := hS7.cell 0 rfl; have d2 := hS7.cell 1 rfl; have d3 := hS7.cell 2 rfl; obtain ⟨d4, d5, d6⟩ := tlCell hS7.pull3 ((c1 + 1)) hmn; have H7 := Lib.hid hS7; clear hS7))
            go_wp2_with (go_at_call 71; refine (h_set (H7.out.dropL) k hk (gt A i)).mono ?_; rintro e w8 ⟨rfl, hS8⟩; have H8 := Lib.hid hS8; clear hS8)
            go_end0
            exact ⟨rfl, _, _, HD.out.1, HD.out.2.1, HD.out.2.2.1, HD.out.2.2.2, H8.out⟩
          · have hlt := lessT_yes.2 hx
            have HT := Lib.hid (HR.out.step (m := (c1 + 1)) (by have hc1 := HC1.out; omega) hmn (by have hc1 := HC1.out; omega) hmin.out hx)
            clear hx
            go_region_held3 (fun w' => w'.cell? ⟨h, 0, none⟩ = some (vs g n cap) ∧ w'.cell? ⟨bt, 0, none⟩ = some (vu (gt A i).1) ∧ w'.cell? ⟨bt, 1, none⟩ = some (vi (gt A i).2.1) ∧ w'.cell? ⟨bt, 2, none⟩ = some (vi (gt A i).2.2) ∧ w'.cell? ⟨g, (c1 + 1) * 3, none⟩ = some (vu (gt A' (c1 + 1)).1) ∧ w'.cell? ⟨g, (c1 + 1) * 3 + 1, none⟩ = some (vi (gt A' (c1 + 1)).2.1) ∧ w'.cell? ⟨g, (c1 + 1) * 3 + 2, none⟩ = some (vi (gt A' (c1 + 1)).2.2))
              (first | exact ⟨d0, d1, d2, d3, d4, d5, d6⟩ | go_keep)
              ((go_at_call 70; refine (h_less (HS2.out.drew) (gt A' ((c1 + 1))) (gt A i)).mono ?_; rw [hlt]; rintro e w7 ⟨rfl, hS7⟩; have d0 := hS7.pull2.cell 0 rfl; have d1 := hS7.cell 0 rfl; have d2 := hS7.cell 1 rfl; have d3 := hS7.cell 2 rfl; obtain ⟨d4, d5, d6⟩ := tlCell hS7.pull3 ((c1 + 1)) hmn; have H7 := Lib.hid hS7; clear hS7))
            go_wp2_with (go_at_call 71; refine (h_set (F := pc bt 82 (tmV (gt A i)) * F) (H7.out.cast (by ac_rfl)) k hk (gt A' ((c1 + 1)))).mono ?_; rintro e w8 ⟨rfl, hS8⟩; have H8 := Lib.hid hS8; clear hS8)
            go_roundw
            case rel => exact ⟨(c1 + 1), _, _, by go_num, HT.out, H8.out.cast (by ac_rfl)⟩
            case measure => have hc1 := HC1.out; simp [intOf]; omega
      · have hc2z : ¬ (c1 : Int) + 1 < (n : Int) := by omega
        have hc2d : decide (c1 + 1 < n) = false := decide_eq_false hc2n
        have hc2e : decide ((c1 : Int) + 1 < (n : Int)) = false := decide_eq_false hc2z
        have hmin : Hid (∀ c, 0 < c → c < n → (c - 1) / 2 = k → nl (gt A' c) (gt A' c1)) := Lib.hid fun c h0 hcn hck => by
          have hc1 := HC1.out
          obtain rfl : c = c1 := by omega
          exact nl_refl _
        go_wp2
        rw [HCD.out]
        go_quiet (fail)
        go_wp2
        have HS2 := HS
        have hmn : c1 < n := by omega
        have hmz : (c1 : Int) < (n : Int) := by omega
        have hge : decide (n ≤ c1) = false := decide_eq_false (by omega)
        have hgz : ¬ (n : Int) ≤ (c1 : Int) := by omega
        have hgy : decide ((n : Int) ≤ (c1 : Int)) = false := decide_eq_false hgz
        have e0 := HS2.out.pull2.cell 0 rfl
        have e1 := HS2.out.cell 0 rfl
        have e2 := HS2.out.cell 1 rfl
        have e3 := HS2.out.cell 2 rfl
        obtain ⟨e4, e5, e6⟩ := tlCell HS2.out.pull3 (c1) hmn
        by_cases hx : nl (gt A' (c1)) (gt A i)
        · have hlt := lessT_no.2 hx
          have HD := Lib.hid (HR.out.done (fun c h0 hcn hck => nl_trans (hmin.out c h0 hcn hck) hx))
          clear hx
          go_region_held3 (fun w' => w'.cell? ⟨h, 0, none⟩ = some (vs g n cap) ∧ w'.cell? ⟨bt, 0, none⟩ = some (vu (gt A i).1) ∧ w'.cell? ⟨bt, 1, none⟩ = some (vi (gt A i).2.1) ∧ w'.cell? ⟨bt, 2, none⟩ = some (vi (gt A i).2.2) ∧ w'.cell? ⟨g, c1 * 3, none⟩ = some (vu (gt A' c1).1) ∧ w'.cell? ⟨g, c1 * 3 + 1, none⟩ = some (vi (gt A' c1).2.1) ∧ w'.cell? ⟨g, c1 * 3 + 2, none⟩ = some (vi (gt A' c1).2.2))
            (first | exact ⟨d0, d1, d2, d3, d4, d5, d6⟩ | go_keep)
            ((go_at_call 70; refine (h_less ((HS.out.drewN _).drew) (gt A' (c1)) (gt A i)).mono ?_; rw [hlt]; rintro e w7 ⟨rfl, hS7⟩; have d0 := hS7.pull2.cell 0 rfl; have d1 := hS7.cell 0 rfl; have d2 := hS7.cell 1 rfl; have d3 := hS7.cell 2 rfl; obtain ⟨d4, d5, d6⟩ := tlCell hS7.pull3 (c1) hmn; have H7 := Lib.hid hS7; clear hS7))
          go_wp2_with (go_at_call 71; refine (h_set (H7.out.dropL) k hk (gt A i)).mono ?_; rintro e w8 ⟨rfl, hS8⟩; have H8 := Lib.hid hS8; clear hS8)
          go_end0
          exact ⟨rfl, _, _, HD.out.1, HD.out.2.1, HD.out.2.2.1, HD.out.2.2.2, H8.out⟩
        · have hlt := lessT_yes.2 hx
          have HT := Lib.hid (HR.out.step (m := c1) (by have hc1 := HC1.out; omega) hmn (by have hc1 := HC1.out; omega) hmin.out hx)
          clear hx
          go_region_held3 (fun w' => w'.cell? ⟨h, 0, none⟩ = some (vs g n cap) ∧ w'.cell? ⟨bt, 0, none⟩ = some (vu (gt A i).1) ∧ w'.cell? ⟨bt, 1, none⟩ = some (vi (gt A i).2.1) ∧ w'.cell? ⟨bt, 2, none⟩ = some (vi (gt A i).2.2) ∧ w'.cell? ⟨g, c1 * 3, none⟩ = some (vu (gt A' c1).1) ∧ w'.cell? ⟨g, c1 * 3 + 1, none⟩ = some (vi (gt A' c1).2.1) ∧ w'.cell? ⟨g, c1 * 3 + 2, none⟩ = some (vi (gt A' c1).2.2))
            (first | exact ⟨d0, d1, d2, d3, d4, d5, d6⟩ | go_keep)
            ((go_at_call 70; refine (h_less ((HS.out.drewN _).drew) (gt A' (c1)) (gt A i)).mono ?_; rw [hlt]; rintro e w7 ⟨rfl, hS7⟩; have d0 := hS7.pull2.cell 0 rfl; have d1 := hS7.cell 0 rfl; have d2 := hS7.cell 1 rfl; have d3 := hS7.cell 2 rfl; obtain ⟨d4, d5, d6⟩ := tlCell hS7.pull3 (c1) hmn; have H7 := Lib.hid hS7; clear hS7))
          go_wp2_with (go_at_call 71; refine (h_set (F := pc bt 82 (tmV (gt A i)) * F) (H7.out.cast (by ac_rfl)) k hk (gt A' (c1))).mono ?_; rintro e w8 ⟨rfl, hS8⟩; have H8 := Lib.hid hS8; clear hS8)
          go_roundw
          case rel => exact ⟨c1, _, _, by go_num, HT.out, H8.out.cast (by ac_rfl)⟩
          case measure => have hc1 := HC1.out; simp [intOf]; omega
    · have hc1z : ¬ (c1 : Int) < (n : Int) := by omega
      have hc2z : ¬ (c1 : Int) + 1 < (n : Int) := by omega
      have hc2d : decide (c1 + 1 < n) = false := decide_eq_false (by omega)
      have hc2e : decide ((c1 : Int) + 1 < (n : Int)) = false := decide_eq_false hc2z
      have hge : decide (n ≤ c1) = true := decide_eq_true (by omega)
      have hgz : (n : Int) ≤ (c1 : Int) := by omega
      have hgy : decide ((n : Int) ≤ (c1 : Int)) = true := decide_eq_true hgz
      have HD := Lib.hid (HR.out.done (fun c h0 hcn hck => by have hc1 := HC1.out; omega))
      go_wp2
      rw [HCD.out]
      go_quiet (fail)
      go_wp2
      go_quiet (fail)
      go_wp2_with (go_at_call 71; refine (h_set ((HS.out.drewN _).dropL) k hk (gt A i)).mono ?_; rintro e w8 ⟨rfl, hS8⟩; have H8 := Lib.hid hS8; clear hS8)
      go_end0
      exact ⟨rfl, _, _, HD.out.1, HD.out.2.1, HD.out.2.2.1, HD.out.2.2.2, H8.out⟩

end
end Go.Proofs.Ytcchfdoeacgapaa.Hm
