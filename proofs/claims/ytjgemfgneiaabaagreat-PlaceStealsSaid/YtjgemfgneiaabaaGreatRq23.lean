/-
  Chapter 05: few; the reference's Steal. No statement is proved here.
-/
import Derived.Test.YtjgemfgneiaabaaGreatMg6
import Derived.Test.YtjgemfgneiaabaaGreatMg8
namespace Go.Proofs.YtjgemfgneiaabaaGreat.Rq
open Go.RowKit
set_option linter.unusedVariables false

def fewB (n m : Nat) (ln : Nat → Nat) : Bool := decide (n ≤ m) && (List.range n).all fun i => decide (ln i ≤ 100)
theorem fewB_yes {n m : Nat} {ln : Nat → Nat} (h : fewB n m ln = true) : n ≤ m ∧ ∀ i, i < n → ln i ≤ 100 := by
  simp only [fewB, Bool.and_eq_true, decide_eq_true_eq, List.all_eq_true, List.mem_range] at h
  exact h
theorem fewB_not {n m : Nat} {ln : Nat → Nat} {k : Nat} (hk : k < n) (h : 100 < ln k) : fewB n m ln = false := by
  cases he : fewB n m ln with
  | false => rfl
  | true => exact absurd ((fewB_yes he).2 k hk) (by omega)
theorem fewB_le {n m : Nat} {ln : Nat → Nat} (h : n ≤ m → ∀ i, i < n → ln i ≤ 100) : fewB n m ln = decide (n ≤ m) := by
  unfold fewB
  by_cases hn : n ≤ m
  · have : ((List.range n).all fun i => decide (ln i ≤ 100)) = true := by
      simp only [List.all_eq_true, List.mem_range, decide_eq_true_eq]
      exact h hn
    rw [this, Bool.and_true]
  · rw [decide_eq_false hn, Bool.false_and]
section
variable {w0 w : World} {v : Value} {n : Nat} {K G : Nat → Int} {Y : Nat → Bool} {V : Nat → Value} {af : Nat → List Nat}
end

theorem steal_snoc (f : Int → Bool) (g : Int) : ∀ (ys : List Int) (h : Nat),
    stealO f h (ys ++ [g]) = (if f g = true ∧ (stealO f h ys).length < h then stealO f h ys ++ [g] else stealO f h ys) ∧
    stealL f h (ys ++ [g]) = (if f g = true ∧ (stealO f h ys).length < h then stealL f h ys else stealL f h ys ++ [g])
  | [], 0 => by simp [stealO, stealL]
  | [], h + 1 => by
    by_cases hg : f g = true <;> simp [stealO, stealL, hg]
  | x :: t, 0 => by simp [stealO, stealL]
  | x :: t, h + 1 => by
    have h1 := steal_snoc f g t h
    have h2 := steal_snoc f g t (h + 1)
    by_cases hx : f x = true
    · simp only [List.cons_append, stealO, stealL, hx, if_true, List.length_cons, Nat.add_lt_add_iff_right]
      rw [h1.1, h1.2]
      refine ⟨?_, rfl⟩
      split <;> rfl
    · simp only [List.cons_append, stealO, stealL, hx, Bool.false_eq_true, if_false]
      rw [h2.1, h2.2]
      refine ⟨rfl, ?_⟩
      split <;> rfl
section
variable {w0 w : World} {F : Hp} {q m : Nat} {vL vN : Value} {xs : List Int} {z : Int} {b : Bool}
set_option maxRecDepth 100000 in
set_option maxHeartbeats 4000000 in
theorem r_steal2 (h : Sat w0 (rqB q m vL vN * (rs 3 vL (xs.map vi) * (rs 3 vN ((nsOf z b).map vi) * F))) w) (hl : xs.length ≤ 4096) (p : Int) {v : Value} {af : List Nat} (hA : ∀ w', Sat w0 F w' → RdA w' v af) :
    Calls Tryz.prog 74 #[vp q, vi p, v] w fun e w' => ∃ u vL' vN', e = .returned u ∧ Sat w0 (rs 3 u ((thiefO (mayG af p) xs z b).map vi) * (rqB q m vL' vN' * (rs 3 vL' ((thiefL (mayG af p) xs).map vi) * (rs 3 vN' ((nsOf z (thiefB (mayG af p) xs z b)).map vi) * F)))) w' := by
  obtain ⟨ao, cap, rfl⟩ := (rsRdI h.pull2).len
  have HA := Lib.hid hA
  have H := Lib.hid h
  have c0 := h.cell 0 rfl
  clear hA
  go_enter Tryz.func74, Tryz.ntmps74
  go_wp2
  go_loopw [7, 8] (fun c i wr => ∃ (k : Nat), k ≤ xs.length ∧ i = vi k ∧ c = vi ((xs.take k).filter (mayG af p)).length ∧ w = wr) (fun _ i _ => xs.length - (intOf i).toNat)
  case atStart => exact ⟨0, Nat.zero_le _, rfl, rfl, rfl⟩
  case round =>
    obtain ⟨k, hk, rfl, rfl, rfl⟩ := hrel
    have hfl : ((xs.take k).filter (mayG af p)).length ≤ xs.length := Nat.le_trans (List.length_filter_le _ _) (List.length_take_le' _ _)
    by_cases hlt : k < xs.length
    · obtain ⟨g, hg⟩ : ∃ g, xs[k]? = some g := ⟨xs[k], List.getElem?_eq_getElem hlt⟩
      have htk : xs.take (k + 1) = xs.take k ++ [g] := by
        rw [List.take_add_one, hg]
        rfl
      obtain ⟨bx, ox, rfl, hc⟩ := (rsRdI h.pull2).at_ (by omega)
      have cg := hc k hlt
      rw [hg] at cg
      have HM := Lib.hid (r_may (g := g) (p := p) (HA.out _ h.dropL.dropL.dropL))
      clear hc h
      by_cases hm : mayG af p g = true
      · rw [hm] at HM
        have hfi : ((xs.take (k + 1)).filter (mayG af p)).length = ((xs.take k).filter (mayG af p)).length + 1 := by
          rw [htk, List.filter_append, List.filter_cons_of_pos hm]
          simp
        have HF := Lib.hid hfi
        clear hfi htk hg
        generalize ((xs.take k).filter (mayG af p)).length = c at *
        go_wp2_with (go_at_call 103; refine HM.out.mono ?_; rintro e w' ⟨rfl, rfl⟩)
        go_roundw
        case rel => exact ⟨k + 1, by omega, by go_num, by rw [HF.out]; go_num, by trivial⟩
        case measure => simp [intOf]; omega
      · have hm' : mayG af p g = false := by simpa using hm
        rw [hm'] at HM
        have hfi : ((xs.take (k + 1)).filter (mayG af p)).length = ((xs.take k).filter (mayG af p)).length := by
          rw [htk, List.filter_append, List.filter_cons_of_neg hm]
          simp
        have HF := Lib.hid hfi
        clear hfi htk hg
        generalize ((xs.take k).filter (mayG af p)).length = c at *
        go_wp2_with (go_at_call 103; refine HM.out.mono ?_; rintro e w' ⟨rfl, rfl⟩)
        go_roundw
        case rel => exact ⟨k + 1, by omega, by go_num, by rw [HF.out], by trivial⟩
        case measure => simp [intOf]; omega
    · obtain rfl : k = xs.length := by omega
      rw [List.take_length] at hfl ⊢
      obtain ⟨L, hL⟩ : ∃ L, (xs.filter (mayG af p)).length = L := ⟨_, rfl⟩
      rw [hL] at hfl ⊢
      have hhalf : halfK (mayG af p) xs = (L + 1) / 2 := by rw [halfK, hL]
      have HHf := Lib.hid hhalf
      clear hhalf hL h
      go_wp2
      go_loopw [9, 10, 11] (fun o l i wx => ∃ (k : Nat), k ≤ xs.length ∧ i = vi k ∧ Sat w0 (sl 3 1 o (stealO (mayG af p) ((L + 1) / 2) (xs.take k)).length ((stealO (mayG af p) ((L + 1) / 2) (xs.take k)).map vi) * (sl 3 1 l (stealL (mayG af p) ((L + 1) / 2) (xs.take k)).length ((stealL (mayG af p) ((L + 1) / 2) (xs.take k)).map vi) *
          (rqB q m (.slice ao xs.length cap) vN * (rs 3 (.slice ao xs.length cap) (xs.map vi) * (rs 3 vN ((nsOf z b).map vi) * F))))) wx) (fun _ _ i _ => xs.length - (intOf i).toNat)
      case atStart => exact ⟨0, Nat.zero_le _, rfl, by cases h0 : (L + 1) / 2 <;> simpa [stealO, stealL] using (H.out.addNil 3 1).addNil 3 1⟩
      case round =>
        obtain ⟨k, hk, rfl, hS⟩ := hrel
        have hOl : (stealO (mayG af p) ((L + 1) / 2) (xs.take k)).length ≤ xs.length := by
          rw [stealO_eq]
          exact Nat.le_trans (List.length_take_le' _ _) (Nat.le_trans (List.length_filter_le _ _) (List.length_take_le' _ _))
        have hLl : (stealL (mayG af p) ((L + 1) / 2) (xs.take k)).length ≤ xs.length := by
          have h1 := (steal_perm (mayG af p) (xs.take k) ((L + 1) / 2)).length_eq
          rw [List.length_append, List.length_take] at h1
          omega
        by_cases hlt : k < xs.length
        · obtain ⟨g, hg⟩ : ∃ g, xs[k]? = some g := ⟨xs[k], List.getElem?_eq_getElem hlt⟩
          have htk : xs.take (k + 1) = xs.take k ++ [g] := by
            rw [List.take_add_one, hg]
            rfl
          have hsn := steal_snoc (mayG af p) g (xs.take k) ((L + 1) / 2)
          rw [← htk] at hsn
          obtain ⟨bx, ox, rfl, hc⟩ := (rsRdI hS.pull4).at_ (by omega)
          have cg := hc k hlt
          rw [hg] at cg
          have d0 := hS.pull3.cell 0 rfl
          have HM := Lib.hid (r_may (g := g) (p := p) (HA.out _ hS.dropL.dropL.dropL.dropL.dropL))
          obtain ⟨O', hO'⟩ : ∃ O', stealO (mayG af p) ((L + 1) / 2) (xs.take (k + 1)) = O' := ⟨_, rfl⟩
          obtain ⟨R', hR'⟩ : ∃ R', stealL (mayG af p) ((L + 1) / 2) (xs.take (k + 1)) = R' := ⟨_, rfl⟩
          rw [hO', hR'] at hsn
          have HO' := Lib.hid hO'
          have HR' := Lib.hid hR'
          generalize stealO (mayG af p) ((L + 1) / 2) (xs.take k) = O at *
          generalize stealL (mayG af p) ((L + 1) / 2) (xs.take k) = R at *
          obtain ⟨ao9, cap9, rfl⟩ := hS.rd.len
          obtain ⟨ao10, cap10, rfl⟩ := hS.pull2.rd.len
          have HS := Lib.hid hS
          have hw2 : IntKind.i64.wrap (2 * (O.length : Int)) = 2 * (O.length : Int) := IntWalk.i64_in _ (by omega)
          by_cases hm : mayG af p g = true
          · rw [hm] at HM
            by_cases h2 : 2 * O.length < L
            · rw [if_pos ⟨hm, by omega⟩, if_pos ⟨hm, by omega⟩] at hsn
              have HN := Lib.hid hsn
              clear hsn hO' hR' hS hc htk hg hm c0
              generalize mayG af p = f at *
              have h3 : 2 * (O.length : Int) < (L : Int) := by omega
              go_wp2_with (first
                | (go_at_call 103; refine HM.out.mono ?_; rintro e w' ⟨rfl, rfl⟩)
                | (at_builtin; refine wpList_append_sl Einti rfl (.tmp 59) (.tmp 67) rfl rfl (HS.out.alloc' _) (by rfl) (Rd.one _ _ _) (by simp [Value.oneCell']) (by unfold maxLen; omega) (by omega) ?_; intro ao3 cap3 w3 hS3; have H3 := Lib.hid hS3; clear hS3))
              go_roundw
              case rel =>
                refine ⟨k + 1, by omega, by go_num, ?_⟩
                rw [HO'.out, HR'.out, HN.out.1, HN.out.2, List.length_append, List.map_append]
                exact H3.out
              case measure => simp [intOf]; omega
            · rw [if_neg (by omega), if_neg (by omega)] at hsn
              have HN := Lib.hid hsn
              clear hsn hO' hR' hS hc htk hg hm c0
              have h3 : ¬ 2 * (O.length : Int) < (L : Int) := by omega
              go_wp2_with (first
                | (go_at_call 103; refine HM.out.mono ?_; rintro e w' ⟨rfl, rfl⟩)
                | (at_builtin; refine wpList_append_sl Einti rfl (.tmp 69) (.tmp 77) rfl rfl (HS.out.pull2.alloc' _) (by rfl) (Rd.one _ _ _) (by simp [Value.oneCell']) (by unfold maxLen; omega) (by omega) ?_; intro ao3 cap3 w3 hS3; have H3 := Lib.hid hS3; clear hS3))
              go_roundw
              case rel =>
                refine ⟨k + 1, by omega, by go_num, ?_⟩
                rw [HO'.out, HR'.out, HN.out.1, HN.out.2, List.length_append, List.map_append]
                exact H3.out.pull2
              case measure => simp [intOf]; omega
          · have hm' : mayG af p g = false := by simpa using hm
            rw [hm'] at HM
            rw [if_neg (fun h => hm h.1), if_neg (fun h => hm h.1)] at hsn
            have HN := Lib.hid hsn
            clear hsn hO' hR' hS hc htk hg hm hm' c0 hw2
            go_wp2_with (first
              | (go_at_call 103; refine HM.out.mono ?_; rintro e w' ⟨rfl, rfl⟩)
              | (at_builtin; refine wpList_append_sl Einti rfl (.tmp 69) (.tmp 77) rfl rfl (HS.out.pull2.alloc' _) (by rfl) (Rd.one _ _ _) (by simp [Value.oneCell']) (by unfold maxLen; omega) (by omega) ?_; intro ao3 cap3 w3 hS3; have H3 := Lib.hid hS3; clear hS3))
            go_roundw
            case rel =>
              refine ⟨k + 1, by omega, by go_num, ?_⟩
              rw [HO'.out, HR'.out, HN.out.1, HN.out.2, List.length_append, List.map_append]
              exact H3.out.pull2
            case measure => simp [intOf]; omega
        · obtain rfl : k = xs.length := by omega
          rw [List.take_length] at hS hOl hLl
          have hle : thiefO (mayG af p) xs z b = if (stealO (mayG af p) ((L + 1) / 2) xs).isEmpty && b && mayG af p z then [z] else stealO (mayG af p) ((L + 1) / 2) xs := by rw [thiefO, HHf.out]
          have hlb : thiefB (mayG af p) xs z b = if (stealO (mayG af p) ((L + 1) / 2) xs).isEmpty && b && mayG af p z then false else b := by rw [thiefB, HHf.out]
          have hll : thiefL (mayG af p) xs = stealL (mayG af p) ((L + 1) / 2) xs := by rw [thiefL, HHf.out]
          generalize stealO (mayG af p) ((L + 1) / 2) xs = O at *
          generalize stealL (mayG af p) ((L + 1) / 2) xs = R at *
          obtain ⟨ao9, cap9, rfl⟩ := hS.rd.len
          obtain ⟨ao10, cap10, rfl⟩ := hS.pull2.rd.len
          have f0 := hS.pull3.free 0
          have d0 := hS.pull3.cell 0 rfl
          have hS2 := hS.pull3.store 0 (.slice ao10 R.length cap10)
          have HLE := Lib.hid hle
          have HLB := Lib.hid hlb
          have HLL := Lib.hid hll
          have e2 := hS2.cell 2 rfl
          have g2 := hS2.free 2
          have hS3 : Sat w0 (rqB q m (.slice ao10 R.length cap10) vN * (sl 3 1 (.slice ao9 O.length cap9) O.length (O.map vi) * (sl 3 1 (.slice ao10 R.length cap10) R.length (R.map vi) * (rs 3 vN ((nsOf z b).map vi) * F)))) (wr.setCell ⟨q, 0, none⟩ (.slice ao10 R.length cap10)) :=
            (hS2.pull4.dropL).cast (by simp only [List.set_cons_zero])
          have HD := Lib.hid ((hS3.pull2.rsOfSl).in3 Sat.rsOfSl)
          have HH3 := Lib.hid hS3
          have HM := Lib.hid (r_may (g := z) (p := p) (HA.out _ hS3.dropL.dropL.dropL.dropL))
          clear hle hlb hll hS hS2 hS3 c0 H hlt
          cases O with
          | cons y O' =>
            have h0 : ¬ ((y :: O').length : Int) = 0 := by simp; omega
            generalize hol : (y :: O').length = ol at *
            go_wp2
            go_ret
            refine ⟨_, .slice ao10 R.length cap10, vN, rfl, ?_⟩
            rw [HLE.out, HLB.out, HLL.out]
            simpa using HD.out
          | nil =>
            cases b with
            | false =>
              obtain ⟨aN, cN, rfl⟩ : ∃ aN cN, vN = .slice aN 0 cN := (rsRdI HH3.out.pull4).len
              go_wp2
              go_ret
              refine ⟨_, .slice ao10 R.length cap10, .slice aN 0 cN, rfl, ?_⟩
              rw [HLE.out, HLB.out, HLL.out]
              simpa using HD.out
            | true =>
              obtain ⟨aN, cN, rfl⟩ : ∃ aN cN, vN = .slice aN 1 cN := (rsRdI HH3.out.pull4).len
              obtain ⟨bN, oN, rfl, hcz⟩ := (rsRdI HH3.out.pull4).at_ (by simp [nsOf])
              have cz : (wr.setCell ⟨q, 0, none⟩ (.slice ao10 R.length cap10)).cell? ⟨bN, oN, none⟩ = some (vi z) := by simpa [nsOf] using hcz 0 (by simp [nsOf])
              clear hcz
              generalize mayG af p z = t at *
              cases t with
              | false =>
                go_wp2_with (go_at_call 103; refine HM.out.mono ?_; rintro e w' ⟨rfl, rfl⟩)
                go_ret
                refine ⟨_, .slice ao10 R.length cap10, .slice (some ⟨bN, oN, none⟩) 1 cN, rfl, ?_⟩
                rw [HLE.out, HLB.out, HLL.out]
                simpa using HD.out
              | true =>
                have h5 : Sat w0 (rqB q m (.slice ao10 R.length cap10) (.slice none 0 0) * (rs 3 (.slice ao10 R.length cap10) (R.map vi) * (rs 3 (.slice (some ⟨bN, oN, none⟩) 1 cN) ((nsOf z true).map vi) * F))) _ := HD.out.dropL.store 2 (.slice none 0 0)
                have H5 := Lib.hid ((h5.pull3.rsNil 3).rot4)
                clear h5
                go_wp2_with (go_at_call 103; refine HM.out.mono ?_; rintro e w' ⟨rfl, rfl⟩)
                go_ret
                refine ⟨_, .slice ao10 R.length cap10, .slice none 0 0, rfl, ?_⟩
                rw [HLE.out, HLB.out, HLL.out]
                exact H5.out
theorem r_steal (h : Sat w0 (rqB q m vL vN * (rs 3 vL (xs.map vi) * (rs 3 vN ((nsOf z b).map vi) * F))) w) (hl : xs.length ≤ 4096) (p : Int) {v : Value} {af : List Nat} (hA : ∀ w', Sat w0 F w' → RdA w' v af) :
    Calls Tryz.prog 74 #[vp q, vi p, v] w fun e w' => ∃ u vL' vN', e = .returned u ∧ RdI w' u (thiefO (mayG af p) xs z b) ∧ Sat w0 (rqB q m vL' vN' * (rs 3 vL' ((thiefL (mayG af p) xs).map vi) * (rs 3 vN' ((nsOf z (thiefB (mayG af p) xs z b)).map vi) * F))) w' :=
  (r_steal2 h hl p hA).mono fun e w' ⟨u, vL', vN', he, hS⟩ => ⟨u, vL', vN', he, rsRdI hS, hS.dropL⟩
end
end Go.Proofs.YtjgemfgneiaabaaGreat.Rq
