/-
  The walk of RunqSteals. No statement is proved here.
-/
import Derived.Test.YtjlgdepneipgnaaRq30
import Derived.Laws.IdiomStrings
namespace Go.Proofs.Ytjlgdepneipgnaa.Rq
open Go.RowKit
set_option linter.unusedVariables false

theorem Eu8 : SlT Try.prog 37 5 1 1 (.int .u8 0) := SlT.mk' Try.underlying37 (by kernel_rfl) rfl (by decide)
/-- Affinities as a string. -/
def strOf (af : List Nat) : ByteArray := ⟨(af.map UInt8.ofNat).toArray⟩
theorem conv_aff {w : World} {v : Value} {af : List Nat} (h : RdA w v af) : (convert 37 9 v).run Try.prog w = .ok (.string (strOf af)) w := by
  rcases h.1.2 with ⟨h0, ao, cap, rfl⟩ | ⟨b, off, cap, rfl, hc⟩
  · obtain rfl : af = [] := List.eq_nil_of_length_eq_zero h0
    cases ao with
    | none =>
      rw [run_convert_bytes_string w _ _ _ none 0 cap Try.underlying37 Try.underlying5 Try.underlying9]
      rfl
    | some a => exact run_convert_bytes_back w _ _ _ a cap [] Try.underlying37 Try.underlying5 Try.underlying9 (fun j hj => by simp at hj)
  · have hl : af.length = (af.map UInt8.ofNat).length := by simp
    rw [hl]
    refine run_convert_bytes_back w _ _ _ ⟨b, off, none⟩ cap (af.map UInt8.ofNat) Try.underlying37 Try.underlying5 Try.underlying9 (fun j hj => ?_)
    have hj' : j < af.length := by simpa using hj
    rw [Rd.add, hc j (.int .u8 (af[j] : Nat)) (by simp [hj'])]
    have := h.2 af[j] (List.getElem_mem hj')
    have e : (UInt8.ofNat af[j]).toNat = af[j] := by
      rw [UInt8.toNat_ofNat']
      exact Nat.mod_eq_of_lt this
    simp only [List.getElem_map, e]
theorem oneA (af : List Nat) : ∀ u ∈ af.map fun a : Nat => Value.int .u8 a, u.oneCell' = true := by
  intro u hu
  obtain ⟨a, _, rfl⟩ := List.mem_map.1 hu
  rfl
section
variable {f : Int → Bool} {xs : List Int} {z : Int} {b : Bool}
theorem thief_some (h : 0 < (xs.filter f).length) : (thiefO f xs z b).length = ((xs.filter f).length + 1) / 2 := by
  have he : (stealO f (halfK f xs) xs).isEmpty = false := by
    rw [half_empty]
    cases hl : xs.filter f with
    | nil => rw [hl] at h; simp at h
    | cons _ _ => rfl
  unfold thiefO
  rw [he]
  simp only [Bool.false_and, Bool.false_eq_true, if_false]
  rw [stealO_eq, List.length_take, halfK]
  omega
theorem thief_none (h : (xs.filter f).length = 0) : (thiefO f xs z b).length ≤ 1 := by
  have h0 : stealO f (halfK f xs) xs = [] := by
    rw [stealO_eq, List.eq_nil_of_length_eq_zero h]
    simp
  unfold thiefO
  split
  · simp
  · rw [h0]
    simp
theorem thief_may {o : Int} (h : o ∈ thiefO f xs z b) : f o = true := by
  unfold thiefO at h
  split at h
  · rename_i hc
    simp only [Bool.and_eq_true] at hc
    obtain rfl : o = z := by simpa using h
    exact hc.2
  · exact (stealO_mem h).1
end
section
variable {w0 : World} {v v4 : Value} {n : Nat} {K G : Nat → Int} {Y : Nat → Bool} {V : Nat → Value} {af : Nat → List Nat}
set_option maxRecDepth 100000 in
set_option maxHeartbeats 2000000 in
theorem steals_e1 {ao a4 : Option Addr} {n cap l4 c4 : Nat} (most p : Int) (hm : 2 ≤ most ∧ most ≤ 4096) (F1 : Few w0 (.slice ao n cap) 100 false) :
    Calls Try.prog 4 #[vi most, .slice ao n cap, vi p, .slice a4 l4 c4] w0 (TrueBelow w0) := by
  have HM := Lib.hid (may5 most)
  rw [decide_eq_true hm] at HM
  have H1 := Lib.hid F1
  clear F1
  obtain ⟨m, rfl⟩ := Int.eq_ofNat_of_zero_le (show 0 ≤ most by omega)
  have HQ := Lib.hid (q_new m (by omega) (by omega) (Sat.start w0))
  clear hm
  go_enter Try.func4, Try.ntmps4
  go_wp2_with (first
    | (go_at_call 17; refine HQ.out.mono ?_; rintro e w1 ⟨q, r, rfl, hS1⟩; have HB := Lib.hid hS1.below; clear hS1)
    | (go_at_call 18; (with_reducible refine (H1.out _ HB.out).mono ?_); rintro e w' ⟨rfl, rfl⟩)
    | (go_at_call 19; refine (HM.out _).mono ?_; rintro e w' ⟨rfl, rfl⟩)
    | (go_at_call 20; refine (known5 _).mono ?_; rintro e w3 ⟨rfl, hb⟩))
  go_ret
  exact ⟨rfl, HB.out.trans (hb.mono HB.out.size)⟩
set_option maxRecDepth 100000 in
set_option maxHeartbeats 2000000 in
theorem steals_e2 {ao a4 : Option Addr} {n cap l4 c4 : Nat} (most p : Int) (hm : 2 ≤ most ∧ most ≤ 4096) (F1 : Few w0 (.slice ao n cap) 100 true) (hl : 100 < l4) (hl2 : l4 ≤ maxLen) :
    Calls Try.prog 4 #[vi most, .slice ao n cap, vi p, .slice a4 l4 c4] w0 (TrueBelow w0) := by
  have HM := Lib.hid (may5 most)
  rw [decide_eq_true hm] at HM
  have H1 := Lib.hid F1
  clear F1
  have hl3 : (100 : Int) < (l4 : Int) := by omega
  unfold maxLen at hl2
  obtain ⟨m, rfl⟩ := Int.eq_ofNat_of_zero_le (show 0 ≤ most by omega)
  have HQ := Lib.hid (q_new m (by omega) (by omega) (Sat.start w0))
  clear hm
  go_enter Try.func4, Try.ntmps4
  go_wp2_with (first
    | (go_at_call 17; refine HQ.out.mono ?_; rintro e w1 ⟨q, r, rfl, hS1⟩; have HB := Lib.hid hS1.below; clear hS1)
    | (go_at_call 18; (with_reducible refine (H1.out _ HB.out).mono ?_); rintro e w' ⟨rfl, rfl⟩)
    | (go_at_call 19; refine (HM.out _).mono ?_; rintro e w' ⟨rfl, rfl⟩)
    | (go_at_call 20; refine (known5 _).mono ?_; rintro e w3 ⟨rfl, hb⟩))
  go_ret
  exact ⟨rfl, HB.out.trans (hb.mono HB.out.size)⟩
set_option maxRecDepth 100000 in
set_option maxHeartbeats 2000000 in
theorem steals_e3 {ao a4 : Option Addr} {n cap l4 c4 : Nat} (most p : Int) (hm : ¬ (2 ≤ most ∧ most ≤ 4096)) (F1 : Few w0 (.slice ao n cap) 100 false) :
    Calls Try.prog 4 #[vi most, .slice ao n cap, vi p, .slice a4 l4 c4] w0 (TrueBelow w0) := by
  have HM := Lib.hid (may5 most)
  rw [decide_eq_false hm] at HM
  have H1 := Lib.hid F1
  clear F1
  have HQ := Lib.hid (q_new_no most (by omega) w0)
  clear hm
  go_enter Try.func4, Try.ntmps4
  go_wp2_with (first
    | (go_at_call 17; refine HQ.out.mono ?_; rintro e w1 ⟨rfl, rfl⟩)
    | (go_at_call 18; (with_reducible refine (H1.out _ (Below.refl _ _)).mono ?_); rintro e w' ⟨rfl, rfl⟩)
    | (go_at_call 19; refine (HM.out _).mono ?_; rintro e w' ⟨rfl, rfl⟩)
    | (go_at_call 20; refine (known5 _).mono ?_; rintro e w3 ⟨rfl, hb⟩))
  go_ret
  exact ⟨rfl, hb⟩
set_option maxRecDepth 100000 in
set_option maxHeartbeats 2000000 in
theorem steals_e4 {ao a4 : Option Addr} {n cap l4 c4 : Nat} (most p : Int) (hm : ¬ (2 ≤ most ∧ most ≤ 4096)) (F1 : Few w0 (.slice ao n cap) 100 true) :
    Calls Try.prog 4 #[vi most, .slice ao n cap, vi p, .slice a4 l4 c4] w0 (TrueBelow w0) := by
  have HM := Lib.hid (may5 most)
  rw [decide_eq_false hm] at HM
  have H1 := Lib.hid F1
  clear F1
  have HQ := Lib.hid (q_new_no most (by omega) w0)
  clear hm
  go_enter Try.func4, Try.ntmps4
  go_wp2_with (first
    | (go_at_call 17; refine HQ.out.mono ?_; rintro e w1 ⟨rfl, rfl⟩)
    | (go_at_call 18; (with_reducible refine (H1.out _ (Below.refl _ _)).mono ?_); rintro e w' ⟨rfl, rfl⟩)
    | (go_at_call 19; refine (HM.out _).mono ?_; rintro e w' ⟨rfl, rfl⟩)
    | (go_at_call 20; refine (known5 _).mono ?_; rintro e w3 ⟨rfl, hb⟩))
  go_ret
  exact ⟨rfl, hb⟩
set_option maxRecDepth 100000 in
set_option maxHeartbeats 8000000 in
theorem steals_walk (most t : Int) (h : Acts w0 v n K G Y V af) {ag : List Nat} (hg : IsAff w0 v4 ag) :
    Calls Try.prog 4 #[vi most, v, vi t, v4] w0 (TrueBelow w0) := by
  obtain ⟨ao, cap, rfl⟩ := h.len
  obtain ⟨a4, c4, rfl⟩ := (hg.1 w0 (Below.refl _ _)).1.len
  obtain ⟨f1, F1⟩ : ∃ f, Few w0 (.slice ao n cap) 100 f := few_of h 100 (by omega)
  by_cases hm : 2 ≤ most ∧ most ≤ 4096
  · cases f1 with
    | false => exact steals_e1 most t hm F1
    | true =>
      by_cases hlong : 100 < ag.length
      · exact steals_e2 most t hm F1 hlong hg.2
      · have hsm := h.small
        unfold maxLen at hsm
        have HF1 := Lib.hid F1
        have HG := Lib.hid hg
        have HM := Lib.hid (may5 most)
        rw [decide_eq_true hm] at HM
        obtain ⟨m, rfl⟩ := Int.eq_ofNat_of_zero_le (show 0 ≤ most by omega)
        have HQ := Lib.hid (q_new m (by omega) (by omega) (Sat.start w0))
        have hm1 : 2 ≤ m := by omega
        have hm2 : m ≤ 4096 := by omega
        have hgl : ¬ (100 : Int) < (ag.length : Int) := by omega
        obtain ⟨lg, hlg⟩ : ∃ lg, ag.length = lg := ⟨_, rfl⟩
        have hlg100 : lg ≤ 100 := by omega
        rw [hlg] at hgl HG ⊢
        have HLG := Lib.hid hlg
        clear hm F1 hg hlong hlg
        go_enter Try.func4, Try.ntmps4
        go_wp2_with (first
          | (go_at_call 17; refine HQ.out.mono ?_; rintro e w1 ⟨q, r, rfl, hS1⟩; have H1 := Lib.hid hS1; clear hS1)
          | (go_at_call 18; (with_reducible refine (HF1.out _ H1.out.below).mono ?_); rintro e w' ⟨rfl, rfl⟩)
          | (go_at_call 19; refine (HM.out _).mono ?_; rintro e w' ⟨rfl, rfl⟩)
          | (go_at_call 21; refine (r_new m H1.out).mono ?_; rintro e w2 ⟨p, rfl, hS2⟩; have H2 := Lib.hid (refQ_shut hS2).rot3; clear hS2))
        go_loopw [12] (fun i wr => ∃ (k : Nat) (xs : List Int) (z : Int) (b : Bool), k ≤ n ∧ i = vi k ∧ (allQ xs z b).Nodup ∧ Sat w0 (bothQ q r p m xs z b emp) wr) (fun i _ => n - (intOf i).toNat)
        case atStart => exact ⟨0, [], 0, false, Nat.zero_le _, rfl, by simp [allQ], H2.out.cast (by unfold bothQ; ac_rfl)⟩
        case round =>
          obtain ⟨k, xs, z, b, hk, rfl, hnd, hS⟩ := hrel
          have hxl := hS.pull2.ringLen
          have HND := Lib.hid hnd
          clear hnd
          by_cases hlt : k < n
          · obtain ⟨bx, off, kd, g, y, u, rfl, c0, c1, c2, ⟨a5, l5, p5, rfl⟩, c3, hd⟩ := do_at h hlt hS hm1
            have HD := Lib.hid hd
            clear hS hd
            go_wp2_with (go_at_call 22; refine HD.out.mono ?_; rintro e w3 ⟨xs', z', b', rfl, hS3, hn3⟩; have H3 := Lib.hid hS3; have HN3 := Lib.hid (hn3 HND.out); clear hS3 hn3)
            go_roundw
            case rel => exact ⟨k + 1, xs', z', b', by omega, by go_num, HN3.out, H3.out⟩
            case measure => simp [intOf]; omega
          · obtain rfl : n = k := by omega
            obtain ⟨vL, vN, hO⟩ := refQ_open (hS.cast (show _ = refQ p m xs z b * (quB q r z b * (ringP r m xs * emp)) by unfold bothQ; ac_rfl))
            obtain ⟨aL, cL, rfl⟩ := (rsRdI hO.pull2).len
            have c0 := hO.cell 0 rfl
            have HO := Lib.hid hO
            clear hS hO
            have hgr : ∀ w', Below w0.heap.size w0 w' → Rd w' 1 (.slice a4 lg c4) lg (ag.map fun a : Nat => Value.int .u8 a) := fun w' hb => by
              have := (HG.out.1 w' hb).1
              rwa [HLG.out] at this
            have HGR := Lib.hid hgr
            clear hgr
            have honea := Lib.hid (oneA ag)
            have honei := Lib.hid (oneI xs)
            go_wp2_with (first
              | (at_builtin; refine wpList_append_sl Einti rfl (.const (.slice none 0 0)) (.tmp 80) rfl rfl (HO.out.addNil 3 1) (by rfl) (rsRdI HO.out.pull2) honei.out (by unfold maxLen; omega) (by omega) ?_; intro ao4 cap4 w4 hS4; simp only [Nat.zero_add, List.nil_append] at hS4; have H4 := Lib.hid hS4; clear hS4)
              | (at_builtin; refine wpList_append_sl Eu8 rfl (.const (.slice none 0 0)) (.tmp 82) rfl rfl (H4.out.addNil 5 1) (by rfl) (HGR.out _ H4.out.below) honea.out (by unfold maxLen; omega) (by omega) ?_; intro ao5 cap5 w5 hS5; simp only [Nat.zero_add, List.nil_append] at hS5; have H5 := Lib.hid (refQ_shut (hS5.cast (show _ = rqB p m (.slice aL xs.length cL) vN * (rs 3 (.slice aL xs.length cL) (xs.map vi) * (rs 3 vN ((nsOf z b).map vi) * (quB q r z b * (ringP r m xs * (sl 5 1 (.slice ao5 lg cap5) lg (ag.map fun a : Nat => Value.int .u8 a) * (sl 3 1 (.slice ao4 xs.length cap4) xs.length (xs.map vi) * emp)))))) by ac_rfl))); clear hS5)
              | (go_at_call 23; refine (q_steal H5.out.rot3 t (fun w' h' => ⟨by have h9 := h'.pull2.rd; rw [← HLG.out] at h9; rw [← HLG.out]; exact h9, (HG.out.1 w' h'.below).2⟩)).mono ?_; rintro e w6 ⟨v6, rfl, hS6⟩; obtain ⟨a6, c6, rfl⟩ := hS6.rd.len; have H6 := Lib.hid hS6; clear hS6))
            go_loopw [16, 17] (fun c i wy => ∃ (k : Nat), k ≤ xs.length ∧ i = vi k ∧ c = vi ((xs.take k).filter (mayG ag t)).length ∧ w6 = wy) (fun _ i _ => xs.length - (intOf i).toNat)
            case atStart => exact ⟨0, Nat.zero_le _, rfl, rfl, rfl⟩
            case round =>
              obtain ⟨k, hk, rfl, rfl, rfl⟩ := hrel
              have hfl : ((xs.take k).filter (mayG ag t)).length ≤ xs.length := Nat.le_trans (List.length_filter_le _ _) (List.length_take_le' _ _)
              by_cases hlt : k < xs.length
              · obtain ⟨g, hg⟩ : ∃ g, xs[k]? = some g := ⟨xs[k], List.getElem?_eq_getElem hlt⟩
                have htk : xs.take (k + 1) = xs.take k ++ [g] := by
                  rw [List.take_add_one, hg]
                  rfl
                obtain ⟨bx, ox, rfl, hc⟩ := (show RdI w6 (.slice ao4 xs.length cap4) xs from H6.out.pull6.rd).at_ (by omega)
                have cg := hc k hlt
                rw [hg] at cg
                have HMy := Lib.hid (r_may (g := g) (p := t) (HG.out.1 w6 H6.out.below))
                clear hc c0
                by_cases hmy : mayG ag t g = true
                · rw [hmy] at HMy
                  have hfi : ((xs.take (k + 1)).filter (mayG ag t)).length = ((xs.take k).filter (mayG ag t)).length + 1 := by
                    rw [htk, List.filter_append, List.filter_cons_of_pos hmy]
                    simp
                  have HF := Lib.hid hfi
                  clear hfi htk hg hmy
                  generalize ((xs.take k).filter (mayG ag t)).length = c at *
                  go_wp2_with (go_at_call 24; refine HMy.out.mono ?_; rintro e w' ⟨rfl, rfl⟩)
                  go_roundw
                  case rel => exact ⟨k + 1, by omega, by go_num, by rw [HF.out]; go_num, by trivial⟩
                  case measure => simp [intOf]; omega
                · have hm' : mayG ag t g = false := by simpa using hmy
                  rw [hm'] at HMy
                  have hfi : ((xs.take (k + 1)).filter (mayG ag t)).length = ((xs.take k).filter (mayG ag t)).length := by
                    rw [htk, List.filter_append, List.filter_cons_of_neg hmy]
                    simp
                  have HF := Lib.hid hfi
                  clear hfi htk hg hmy hm'
                  generalize ((xs.take k).filter (mayG ag t)).length = c at *
                  go_wp2_with (go_at_call 24; refine HMy.out.mono ?_; rintro e w' ⟨rfl, rfl⟩)
                  go_roundw
                  case rel => exact ⟨k + 1, by omega, by go_num, by rw [HF.out], by trivial⟩
                  case measure => simp [intOf]; omega
              · obtain rfl : k = xs.length := by omega
                rw [List.take_length] at hfl ⊢
                have hO1 := thief_some (f := mayG ag t) (xs := xs) (z := z) (b := b)
                have hO2 := thief_none (f := mayG ag t) (xs := xs) (z := z) (b := b)
                have HOm : Hid (∀ o ∈ thiefO (mayG ag t) xs z b, mayG ag t o = true) := Lib.hid fun o ho => thief_may ho
                have HOn : Hid (∀ o ∈ thiefO (mayG ag t) xs z b, hasQ (thiefL (mayG ag t) xs) z (thiefB (mayG ag t) xs z b) o = false) := Lib.hid fun o ho => by
                  cases hh : hasQ (thiefL (mayG ag t) xs) z (thiefB (mayG ag t) xs z b) o with
                  | false => rfl
                  | true =>
                    have h1 := (thief_perm (mayG ag t) xs z b).nodup_iff.2 HND.out
                    exact absurd rfl ((List.nodup_append.1 h1).2.2 o (hasQ_mem.1 hh) o ho)
                have HRS : Hid (∀ (w' : World) (A : Hp), Sat w0 (refQ p m xs z b * A) w' → Calls Try.prog 26 #[vp p, vi t, .slice a4 lg c4] w' fun e w'' => ∃ u, e = .returned u ∧ RdI w'' u (thiefO (mayG ag t) xs z b) ∧ Sat w0 (refQ p m (thiefL (mayG ag t) xs) z (thiefB (mayG ag t) xs z b) * A) w'') :=
                  Lib.hid fun w' A h' => r_steal' h' (by omega) t fun w'' h'' => HG.out.1 w'' h''.below
                have hol := thiefO_len (xs := xs) (z := z) (b := b) (mayG ag t)
                generalize thiefO (mayG ag t) xs z b = O at *
                generalize thiefL (mayG ag t) xs = tl at *
                generalize thiefB (mayG ag t) xs z b = tb at *
                generalize (xs.filter (mayG ag t)).length = L at *
                obtain ⟨ol, hole⟩ : ∃ ol, O.length = ol := ⟨_, rfl⟩
                rw [hole] at hO1 hO2 hol H6 ⊢
                have HOL := Lib.hid hole
                have kc1 := conv_aff (w := w6) (v := .slice ao5 lg cap5) (af := ag) ⟨by have h9 := H6.out.pull5.rd; rw [← HLG.out] at h9; rw [← HLG.out]; exact h9, (HG.out.1 w6 H6.out.below).2⟩
                have kc2 := conv_aff (w := w6) (v := .slice a4 lg c4) (af := ag) (HG.out.1 w6 H6.out.below)
                have hcase : (L = 0 ∧ ol ≤ 1) ∨ (0 < L ∧ ol = (L + 1) / 2) := by
                  rcases Nat.eq_zero_or_pos L with h0 | h0
                  · exact .inl ⟨h0, hO2 h0⟩
                  · exact .inr ⟨h0, hO1 h0⟩
                clear hole hO1 hO2 c0
                generalize strOf ag = sg at *
                have HX : Hid (∀ w', Rd w' 1 (.slice a6 ol c6) ol (O.map vi) → RdI w' (.slice a6 ol c6) O) := Lib.hid fun w' h' => by
                  rw [RdI, HOL.out]
                  exact h'
                have hol4 : ol ≤ 4097 := by omega
                have HL := Lib.hid (allQ_len (xs := tl) (z := z) (b := tb))
                have HAll : Hid (∀ (w1 : World) (G : Hp), Sat w0 (quB q r z tb * (ringP r m tl * G)) w1 → Calls Try.prog 28 #[vp q] w1 fun e w' => ∃ v, e = .returned v ∧ Sat w0 (sl 3 1 v (allQ tl z tb).length ((allQ tl z tb).map vi) * (quB q r z tb * (ringP r m tl * G))) w') := Lib.hid fun w1 G h => q_all h
                have HRA : Hid (∀ (w1 : World) (G : Hp), tl.length ≤ 4096 → Sat w0 (refQ p m tl z tb * G) w1 → Calls Try.prog 29 #[vp p] w1 fun e w' => ∃ v, e = .returned v ∧ Sat w0 (sl 3 1 v (allQ tl z tb).length ((allQ tl z tb).map vi) * (refQ p m tl z tb * G)) w') := Lib.hid fun w1 G hl h => r_all' h hl
                generalize allQ tl z tb = l at *
                rcases hcase with ⟨h0, h1⟩ | ⟨h0, h1⟩
                · subst h0
                  have h2 : ¬ (1 : Int) < (ol : Int) := by omega
                  go_wp2_with fail
                  go_loopw [18] (fun i wy => ∃ (k : Nat), k ≤ ol ∧ i = vi k ∧ Sat w0 (sl 3 1 (.slice a6 ol c6) ol (O.map vi) * (quB q r z tb * (ringP r m tl * (refQ p m xs z b * (sl 5 1 (.slice ao5 lg cap5) lg (ag.map fun a : Nat => Value.int .u8 a) * (sl 3 1 (.slice ao4 xs.length cap4) xs.length (xs.map vi) * emp)))))) wy) (fun i _ => ol - (intOf i).toNat)
                  case atStart => exact ⟨0, Nat.zero_le _, rfl, H6.out⟩
                  case round =>
                    obtain ⟨k, hk, rfl, hS⟩ := hrel
                    have htl := hS.pull3.ringLen
                    clear kc1 kc2
                    by_cases hlt : k < ol
                    · obtain ⟨o, ho⟩ : ∃ o, O[k]? = some o := ⟨O[k]'(by rw [HOL.out]; exact hlt), List.getElem?_eq_getElem _⟩
                      obtain ⟨bx, ox, cx, hv, hc⟩ := hS.rd.pos (by omega)
                      cases hv
                      have cg := hc k (vi o) (by rw [List.getElem?_map, ho]; rfl)
                      have hmem : o ∈ O := List.mem_of_getElem? ho
                      have HMy := r_may (g := o) (p := t) (HG.out.1 wr hS.below)
                      rw [HOm.out o hmem] at HMy
                      have HMz := Lib.hid HMy
                      have HHas : Hid (Calls Try.prog 25 #[vp q, vi o] wr fun e w' => e = .returned (.bool false) ∧ Sat w0 (quB q r z tb * (ringP r m tl * (sl 3 1 (.slice (some ⟨bx, ox, none⟩) ol c6) ol (O.map vi) * (refQ p m xs z b * (sl 5 1 (.slice ao5 lg cap5) lg (ag.map fun a : Nat => Value.int .u8 a) * (sl 3 1 (.slice ao4 xs.length cap4) xs.length (xs.map vi) * emp)))))) w') := Lib.hid <| by
                        have h9 := q_has (hS.cast (show _ = quB q r z tb * (ringP r m tl * (sl 3 1 (.slice (some ⟨bx, ox, none⟩) ol c6) ol (O.map vi) * (refQ p m xs z b * (sl 5 1 (.slice ao5 lg cap5) lg (ag.map fun a : Nat => Value.int .u8 a) * (sl 3 1 (.slice ao4 xs.length cap4) xs.length (xs.map vi) * emp))))) by ac_rfl)) o
                        have h8 := HOn.out o hmem
                        unfold hasQ at h8
                        rwa [h8] at h9
                      clear hc hS HMy
                      go_wp2_with (first
                        | (go_at_call 24; refine HMz.out.mono ?_; rintro e w' ⟨rfl, rfl⟩)
                        | (go_at_call 25; refine HHas.out.mono ?_; rintro e w8 ⟨rfl, hS8⟩; have H8 := Lib.hid hS8; clear hS8))
                      go_roundw
                      case rel => exact ⟨k + 1, by omega, by go_num, H8.out.cast (by ac_rfl)⟩
                      case measure => simp [intOf]; omega
                    · obtain rfl : ol = k := by omega
                      have HS := Lib.hid hS
                      clear hS
                      go_wp2_with (first
                        | (go_at_call 26; refine (HRS.out _ _ HS.out.pull4).mono ?_; rintro e w8 ⟨u8', rfl, hR8, hS8⟩; have H8 := Lib.hid hS8; have HR8 := Lib.hid hR8; clear hS8 hR8)
                        | (go_at_call 27; (with_reducible refine (ref_same_yes O _ _ _ (HX.out _ H8.out.pull2.rd) HR8.out (by have := HOL.out; omega)).mono ?_); rintro e w9 ⟨rfl, N9, rfl⟩; have H9 := Lib.hid ((H8.out.drewN N9).pull3))
                        | (go_at_call 28; refine (HAll.out _ _ (H9.out.cast (show _ = quB q r z tb * (ringP r m tl * (refQ p m tl z tb * (sl 3 1 (.slice a6 ol c6) ol (O.map vi) * (sl 5 1 (.slice ao5 lg cap5) lg (ag.map fun a : Nat => Value.int .u8 a) * (sl 3 1 (.slice ao4 xs.length cap4) xs.length (xs.map vi) * emp))))) by ac_rfl))).mono ?_; rintro e w10 ⟨v10, rfl, hS10⟩; have H10 := Lib.hid hS10; clear hS10)
                        | (go_at_call 29; refine (HRA.out _ _ (by omega) H10.out.pull4).mono ?_; rintro e w11 ⟨v11, rfl, hS11⟩; have H11 := Lib.hid hS11; clear hS11)
                        | (go_at_call 27; refine (ref_same_yes l _ _ _ H11.out.pull3.rd H11.out.rd (by have := HL.out; omega)).mono ?_; rintro e w12 ⟨rfl, N12, rfl⟩; have H12 := Lib.hid (H11.out.drewN N12))
                        | (go_at_call 20; refine (known5 _).mono ?_; rintro e w13 ⟨rfl, hb⟩))
                      go_ret
                      exact ⟨rfl, H12.out.below.trans (hb.mono H12.out.size)⟩

                · have h2 : (0 : Int) < (L : Int) := by omega
                  have h3 : ((L : Int) == 0) = false := by simp; omega
                  have h4 : ((ol : Int) != ((L : Int) + 1) / 2) = false := by simp; omega
                  have HH1 := Lib.hid h1
                  clear h1
                  go_wp2_with fail
                  go_loopw [18] (fun i wy => ∃ (k : Nat), k ≤ ol ∧ i = vi k ∧ Sat w0 (sl 3 1 (.slice a6 ol c6) ol (O.map vi) * (quB q r z tb * (ringP r m tl * (refQ p m xs z b * (sl 5 1 (.slice ao5 lg cap5) lg (ag.map fun a : Nat => Value.int .u8 a) * (sl 3 1 (.slice ao4 xs.length cap4) xs.length (xs.map vi) * emp)))))) wy) (fun i _ => ol - (intOf i).toNat)
                  case atStart => exact ⟨0, Nat.zero_le _, rfl, H6.out⟩
                  case round =>
                    obtain ⟨k, hk, rfl, hS⟩ := hrel
                    have htl := hS.pull3.ringLen
                    clear kc1 kc2
                    by_cases hlt : k < ol
                    · obtain ⟨o, ho⟩ : ∃ o, O[k]? = some o := ⟨O[k]'(by rw [HOL.out]; exact hlt), List.getElem?_eq_getElem _⟩
                      obtain ⟨bx, ox, cx, hv, hc⟩ := hS.rd.pos (by omega)
                      cases hv
                      have cg := hc k (vi o) (by rw [List.getElem?_map, ho]; rfl)
                      have hmem : o ∈ O := List.mem_of_getElem? ho
                      have HMy := r_may (g := o) (p := t) (HG.out.1 wr hS.below)
                      rw [HOm.out o hmem] at HMy
                      have HMz := Lib.hid HMy
                      have HHas : Hid (Calls Try.prog 25 #[vp q, vi o] wr fun e w' => e = .returned (.bool false) ∧ Sat w0 (quB q r z tb * (ringP r m tl * (sl 3 1 (.slice (some ⟨bx, ox, none⟩) ol c6) ol (O.map vi) * (refQ p m xs z b * (sl 5 1 (.slice ao5 lg cap5) lg (ag.map fun a : Nat => Value.int .u8 a) * (sl 3 1 (.slice ao4 xs.length cap4) xs.length (xs.map vi) * emp)))))) w') := Lib.hid <| by
                        have h9 := q_has (hS.cast (show _ = quB q r z tb * (ringP r m tl * (sl 3 1 (.slice (some ⟨bx, ox, none⟩) ol c6) ol (O.map vi) * (refQ p m xs z b * (sl 5 1 (.slice ao5 lg cap5) lg (ag.map fun a : Nat => Value.int .u8 a) * (sl 3 1 (.slice ao4 xs.length cap4) xs.length (xs.map vi) * emp))))) by ac_rfl)) o
                        have h8 := HOn.out o hmem
                        unfold hasQ at h8
                        rwa [h8] at h9
                      clear hc hS HMy
                      go_wp2_with (first
                        | (go_at_call 24; refine HMz.out.mono ?_; rintro e w' ⟨rfl, rfl⟩)
                        | (go_at_call 25; refine HHas.out.mono ?_; rintro e w8 ⟨rfl, hS8⟩; have H8 := Lib.hid hS8; clear hS8))
                      go_roundw
                      case rel => exact ⟨k + 1, by omega, by go_num, H8.out.cast (by ac_rfl)⟩
                      case measure => simp [intOf]; omega
                    · obtain rfl : ol = k := by omega
                      have HS := Lib.hid hS
                      clear hS
                      go_wp2_with (first
                        | (go_at_call 26; refine (HRS.out _ _ HS.out.pull4).mono ?_; rintro e w8 ⟨u8', rfl, hR8, hS8⟩; have H8 := Lib.hid hS8; have HR8 := Lib.hid hR8; clear hS8 hR8)
                        | (go_at_call 27; (with_reducible refine (ref_same_yes O _ _ _ (HX.out _ H8.out.pull2.rd) HR8.out (by have := HOL.out; omega)).mono ?_); rintro e w9 ⟨rfl, N9, rfl⟩; have H9 := Lib.hid ((H8.out.drewN N9).pull3))
                        | (go_at_call 28; refine (HAll.out _ _ (H9.out.cast (show _ = quB q r z tb * (ringP r m tl * (refQ p m tl z tb * (sl 3 1 (.slice a6 ol c6) ol (O.map vi) * (sl 5 1 (.slice ao5 lg cap5) lg (ag.map fun a : Nat => Value.int .u8 a) * (sl 3 1 (.slice ao4 xs.length cap4) xs.length (xs.map vi) * emp))))) by ac_rfl))).mono ?_; rintro e w10 ⟨v10, rfl, hS10⟩; have H10 := Lib.hid hS10; clear hS10)
                        | (go_at_call 29; refine (HRA.out _ _ (by omega) H10.out.pull4).mono ?_; rintro e w11 ⟨v11, rfl, hS11⟩; have H11 := Lib.hid hS11; clear hS11)
                        | (go_at_call 27; refine (ref_same_yes l _ _ _ H11.out.pull3.rd H11.out.rd (by have := HL.out; omega)).mono ?_; rintro e w12 ⟨rfl, N12, rfl⟩; have H12 := Lib.hid (H11.out.drewN N12))
                        | (go_at_call 20; refine (known5 _).mono ?_; rintro e w13 ⟨rfl, hb⟩))
                      go_ret
                      exact ⟨rfl, H12.out.below.trans (hb.mono H12.out.size)⟩

  · cases f1 with
    | false => exact steals_e3 most t hm F1
    | true => exact steals_e4 most t hm F1
theorem steals5_row (w0 : World) (most : Int) (wm : (Lit.int .i64 most).wf = true) (v : Value) (n : Nat) (A : Nat → Value) (h : ArgS w0 4 (actC w0) v n A) (t : Int) (wt : (Lit.int .i64 t).wf = true) (v4 : Value) (n4 : Nat) (A4 : Nat → Int) (h4 : ArgK w0 1 (fun _ => .u8) v4 n4 A4) :
    Calls Try.prog 4 #[vi most, v, vi t, v4] w0 (TrueBelow w0) := by
  obtain ⟨K, G, Y, V, af, h⟩ := acts_of h
  obtain ⟨ag, hg⟩ := isAff_of (show IsInts w0 .u8 v4 from ⟨n4, A4, h4⟩)
  exact steals_walk most t h hg
end
end Go.Proofs.Ytjlgdepneipgnaa.Rq
