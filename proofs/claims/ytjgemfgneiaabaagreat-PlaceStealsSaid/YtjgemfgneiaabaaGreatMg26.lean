/-
  The reference's places: There, Put. No statement is proved here.
-/
import Derived.Test.YtjgemfgneiaabaaGreatMg25
import Derived.Test.YtjgemfgneiaabaaGreatMg21
namespace Go.Proofs.YtjgemfgneiaabaaGreat.Pc
open Go.RowKit Rq Gq Nu
set_option linter.unusedVariables false
set_option linter.unusedSimpArgs false

/-- The Ps of a set that are there, one behind the other. -/
def thL (s n : Nat) : List Int := ((List.range n).filter fun i : Nat => hasB s i).map (fun i : Nat => (i : Int))
theorem thL_succ (s n : Nat) : thL s (n + 1) = thL s n ++ (if hasB s n then [(n : Int)] else []) := by
  unfold thL
  rw [List.range_succ, List.filter_append, List.map_append]
  by_cases h : hasB s n = true
  · rw [if_pos h, List.filter_cons_of_pos (by simpa using h)]
    rfl
  · rw [if_neg h, List.filter_cons_of_neg (by simpa using h)]
    rfl
theorem thL_len (s n : Nat) : (thL s n).length ≤ n := by
  unfold thL
  rw [List.length_map]
  exact Nat.le_trans (List.length_filter_le _ _) (by simp)
theorem filter_lt (f : Nat → Bool) {n m : Nat} (h : n ≤ m) : (List.range m).filter (fun x => f x && decide (x < n)) = (List.range n).filter f := by
  obtain ⟨d, rfl⟩ := Nat.exists_eq_add_of_le h
  rw [List.range_add, List.filter_append]
  have h1 : (List.map (fun x => n + x) (List.range d)).filter (fun x => f x && decide (x < n)) = [] := by
    rw [List.filter_eq_nil_iff]
    intro x hx
    obtain ⟨y, _, rfl⟩ := List.mem_map.1 hx
    have : ¬ n + y < n := by omega
    simp [this]
  have h2 : (List.range n).filter (fun x => f x && decide (x < n)) = (List.range n).filter f := List.filter_congr fun x hx => by
    rw [decide_eq_true (List.mem_range.1 hx), Bool.and_true]
  rw [h1, h2, List.append_nil]
theorem there_thL {s n : Nat} (hs : s < 256) (hn : n ≤ 8) : thL s n = (thereM s n).map (fun i : Nat => (i : Int)) := by
  unfold thL thereM thereP
  congr 1
  rw [← filter_lt (fun i : Nat => hasB s i) hn]
  refine List.filter_congr fun x hx => ?_
  have h8 := List.mem_range.1 hx
  have h9 := mask_has ⟨n, by omega⟩ ⟨x, h8⟩ ⟨s, hs⟩
  dsimp only at h9
  unfold hasB
  rw [Int.toNat_natCast, h9, Bool.and_assoc]
theorem thL_none {s n : Nat} (hs : s < 256) (hn : n ≤ 8) (h : thereM s n = []) : thL s n = [] := by rw [there_thL hs hn, h]; rfl
/-- The one at the pick. -/
theorem thL_at {s n : Nat} (hs : s < 256) (hn : n ≤ 8) (pick : Int) (h : thereM s n ≠ []) {k : Nat} (hk : nthI (s &&& maskN n) pick = k) : 0 < (thL s n).length ∧ atR (thL s n).length pick < (thL s n).length ∧ (thL s n)[atR (thL s n).length pick]? = some (k : Int) := by
  have hm0 : 0 < (thereM s n).length := List.length_pos_iff.2 h
  obtain ⟨e1, e2, _, _⟩ := atR_lt hm0 pick
  have hlt : atR (thereM s n).length pick < (thereM s n).length := by unfold atR; omega
  rw [there_thL hs hn, List.length_map]
  refine ⟨hm0, hlt, ?_⟩
  rw [List.getElem?_map, List.getElem?_eq_getElem hlt]
  have hk : (((thereM s n)[atR (thereM s n).length pick]?.getD 0 : Nat) : Int) = k := hk
  rw [List.getElem?_eq_getElem hlt] at hk
  show some (((thereM s n)[atR (thereM s n).length pick] : Nat) : Int) = _
  rw [← hk]
  rfl
section
variable {w0 w : World} {F : Hp} {D : Ar} {p : Nat → Pl} {gx : List Int} {vG : Value} {vR : Nat → Value}
set_option maxRecDepth 100000 in
set_option maxHeartbeats 2000000 in
theorem pr_there (h : Sat w0 (prO D vG vR p gx * F) w) (ho : D.Ok) {s : Nat} (hs : s < 256) : Calls Tryz.prog 13 #[vp D.s, .int .u8 s] w fun e w' => ∃ v, e = .returned v ∧ Sat w0 (sl 3 1 v (thL s D.n).length ((thL s D.n).map vi) * (prO D vG vR p gx * F)) w' := by
  have H := Lib.hid h
  have hn8 := ho.n8
  clear h
  go_enter Tryz.func13, Tryz.ntmps13
  go_wp2
  go_loopw [5, 6] (fun o i wr => ∃ k : Nat, k ≤ D.n ∧ i = vi k ∧ Sat w0 (sl 3 1 o (thL s k).length ((thL s k).map vi) * (prO D vG vR p gx * F)) wr) (fun _ i _ => D.n - (intOf i).toNat)
  case atStart => exact ⟨0, Nat.zero_le _, rfl, H.out.addNil 3 1⟩
  case round =>
    clear H
    obtain ⟨k, hk, rfl, hS⟩ := hrel
    have c1 := (pr_cells hS.dropL).1
    unfold Ar.v at c1
    obtain ⟨ao, cap, rfl⟩ := hS.rd.len
    have hlen := thL_len s k
    by_cases hlt : k < D.n
    · have hki : (k : Int) < (D.n : Int) := by omega
      have hh := fun w => ref_has1 s hs (k : Int) w
      have hsn := thL_succ s k
      cases hb : hasB s k with
      | true =>
        rw [hb] at hh hsn
        rw [if_pos rfl] at hsn
        have HH := Lib.hid hh
        have HN := Lib.hid hsn
        have HS := Lib.hid hS
        clear hh hsn hS hb
        generalize thL s k = L at *
        go_wp2_with (first
          | (go_at_call 59; refine (HH.out _).mono ?_; rintro e w' ⟨rfl, rfl⟩)
          | (at_builtin; refine wpList_append_sl Einti rfl (.tmp 19) (.tmp 21) rfl rfl (HS.out.alloc' _) (by rfl) (Rd.one _ _ _) (by simp [Value.oneCell']) (by unfold maxLen; omega) (by omega) ?_; intro ao3 cap3 w3 hS3; have H3 := Lib.hid hS3; clear hS3))
        go_roundw
        case rel =>
          refine ⟨k + 1, by omega, by go_num, ?_⟩
          rw [HN.out, List.length_append, List.map_append]
          exact H3.out
        case measure => simp [intOf]; omega
      | false =>
        rw [hb] at hh hsn
        rw [if_neg (by simp), List.append_nil] at hsn
        have HH := Lib.hid hh
        have HN := Lib.hid hsn
        have HS := Lib.hid hS
        clear hh hsn hS hb
        generalize thL s k = L at *
        go_wp2_with (go_at_call 59; refine (HH.out _).mono ?_; rintro e w' ⟨rfl, rfl⟩)
        go_roundw
        case rel =>
          refine ⟨k + 1, by omega, by go_num, ?_⟩
          rw [HN.out]
          exact HS.out
        case measure => simp [intOf]; omega
    · obtain rfl : k = D.n := by omega
      have HS := Lib.hid hS
      clear hS
      go_wp2
      go_ret
      exact ⟨_, rfl, HS.out⟩
end
end Go.Proofs.YtjgemfgneiaabaaGreat.Pc

namespace Go.Proofs.YtjgemfgneiaabaaGreat.Pc
open Go.RowKit Rq Gq Nu
set_option linter.unusedVariables false
set_option linter.unusedSimpArgs false

theorem atR_neg {m : Nat} (hm : 0 < m) {pick : Int} (h : pick.tmod m < 0) : pick.tmod m + m = (atR m pick : Int) := by
  obtain ⟨e1, e2, e3, e4⟩ := atR_lt hm pick
  unfold atR
  rw [Int.toNat_of_nonneg e1]
  generalize pick.tmod m = t at *
  rw [Int.tmod_eq_of_lt (by omega) (by omega)]
theorem atR_pos {m : Nat} (hm : 0 < m) {pick : Int} (h : ¬ pick.tmod m < 0) : pick.tmod m = (atR m pick : Int) := by
  obtain ⟨e1, e2, e3, e4⟩ := atR_lt hm pick
  unfold atR
  rw [Int.toNat_of_nonneg e1]
  generalize pick.tmod m = t at *
  rw [Int.tmod_eq_emod_of_nonneg (by omega), Int.add_emod_right, Int.emod_eq_of_lt (by omega) (by omega)]
section
variable {w0 w : World} {F : Hp} {D : Ar} {p : Nat → Pl} {gx : List Int} {vG : Value} {vR : Nat → Value}
/-- One is to be next, what is spilled goes to the global queue. -/
theorem pr_putnext2 {k : Nat} (h : Sat w0 (prO D vG vR p gx * F) w) (ho : D.Ok) (hk : k < D.n) (hx : (p k).xs.length ≤ D.m) (hl : gx.length ≤ 999000) (g : Int) :
    Calls Tryz.prog 79 #[vp (D.q k), vi g] w fun e w' => ∃ v, e = .returned v ∧ Fx D k w' ∧ Calls Tryz.prog 25 #[vp D.a, v] w' fun e w'' => e = .returned (.tuple #[]) ∧ Fx D k w'' ∧ ∃ vG', Sat w0 (prO D vG' vR (up p k (nextY D.m (p k) g)) (gx ++ nextS D.m (p k).xs (p k).z (p k).b) * F) w'' := by
  have hm := ho.m32
  refine (r_putnext' (pr_out h hk) hx ho.m2 (by omega) g).mono ?_
  rintro e w' ⟨v, he, hS⟩
  refine ⟨v, he, prX_fx hS.dropL.dropL hk, ?_⟩
  have hsl := nextS_len (m := D.m) (xs := (p k).xs) (z := (p k).z) (b := (p k).b)
  refine (pr_spill hS (by omega)).mono ?_
  rintro e w'' ⟨he2, vG', h5⟩
  exact ⟨he2, prX_fx h5.dropL hk, vG', pr_in (y := nextY D.m (p k) g) h5 hk rfl rfl rfl rfl⟩
set_option maxRecDepth 100000 in
set_option maxHeartbeats 2000000 in
theorem pr_put_next (h : Sat w0 (prO D vG vR p gx * F) w) (ho : D.Ok) (g : Int) {s : Nat} (hs : s < 256) (k : Nat) (hk : k < D.n) (hx : (p k).xs.length ≤ D.m) (hb : hasB s k = true) (pick : Int) (hl : gx.length ≤ 999000) :
    Calls Tryz.prog 23 #[vp D.s, vi g, .int .u8 s, vi k, vi pick] w fun e w' => e = .returned (.tuple #[]) ∧ ∃ vG', Sat w0 (prO D vG' vR (up p k (nextY D.m (p k) g)) (gx ++ nextS D.m (p k).xs (p k).z (p k).b) * F) w' := by
  obtain ⟨a1, a2, a3⟩ := pr_fx h hk
  have hki : (k : Int) < (D.n : Int) := by omega
  have HI := Lib.hid (pr_is h (k : Int))
  rw [inP_nat hk] at HI
  have hh := fun w => ref_has1 s hs (k : Int) w
  rw [hb] at hh
  have HH := Lib.hid hh
  have HP := Lib.hid (pr_putnext2 h.drew ho hk hx hl g)
  clear h hk hb hh hx hl
  go_enter Tryz.func23, Tryz.ntmps23
  go_wp2_with (first
    | (go_at_call 73; refine HI.out.mono ?_; rintro e w' ⟨rfl, rfl⟩)
    | (go_at_call 59; refine (HH.out _).mono ?_; rintro e w' ⟨rfl, rfl⟩))
  go_region_held3 (fun w' => w'.cell? ⟨D.s, 0, none⟩ = some (.slice (some ⟨D.sb, 0, none⟩) D.n D.cap) ∧ w'.cell? ⟨D.s, 1, none⟩ = some (vp D.a) ∧ w'.cell? ⟨D.sb, k * 4, none⟩ = some (vp (D.q k))) (first | (with_reducible exact g2) | (with_reducible exact g1) | exact ⟨a1, a2, a3⟩)
    (first
      | (go_at_call 79; refine HP.out.mono ?_; rintro e w1 ⟨v, rfl, g1, hB⟩; have HB := Lib.hid hB; clear hB)
      | (go_at_call 25; refine HB.out.mono ?_; rintro e w2 ⟨rfl, g2, vG', hS2⟩; have H2 := Lib.hid hS2; clear hS2))
  all_goals go_wp2
  all_goals refine bodyPost_ret (results_none rfl _ _ _) rfl ?_
  all_goals exact ⟨rfl, _, H2.out⟩
set_option maxRecDepth 100000 in
set_option maxHeartbeats 2000000 in
theorem pr_put_all (h : Sat w0 (prO D vG vR p gx * F) w) (ho : D.Ok) (g : Int) {s : Nat} (hs : s < 256) (by_ pick : Int) (hc : (inP D.n by_ && hasB s by_) = false) (hne : thereM s D.n = []) (hl : gx.length ≤ 999000) :
    Calls Tryz.prog 23 #[vp D.s, vi g, .int .u8 s, vi by_, vi pick] w fun e w' => e = .returned (.tuple #[]) ∧ ∃ vG', Sat w0 (prO D vG' vR p (gx ++ [g]) * F) w' := by
  have HI := Lib.hid (pr_is h by_)
  have hh := fun w => ref_has1 s hs by_ w
  have HT : Hid (Calls Tryz.prog 13 #[vp D.s, .int .u8 s] w fun e w' => ∃ ao cap, e = .returned (.slice ao 0 cap) ∧ w'.cell? ⟨D.s, 1, none⟩ = some (vp D.a) ∧ Calls Tryz.prog 25 #[vp D.a, .slice (some ⟨w'.heap.size, 0, none⟩) 1 1] (w'.alloc (.cells #[vi g] 3)) fun e w'' => e = .returned (.tuple #[]) ∧ ∃ vG', Sat w0 (prO D vG' vR p (gx ++ [g]) * F) w'') := Lib.hid (by
    refine (pr_there h ho hs).mono ?_
    rintro e w' ⟨v, rfl, hS⟩
    rw [thL_none hs ho.n8 hne] at hS
    obtain ⟨ao, cap, rfl⟩ := hS.rd.len
    refine ⟨ao, cap, rfl, (pr_cells hS.dropL).2, ?_⟩
    have hZ := (hS.dropL.alloc (.cells #[vi g] 3)).pull2
    have hZ : Sat w0 (prO D vG vR p gx * (pc w'.heap.size 3 [vi g] * F)) (w'.alloc (.cells #[vi g] 3)) := hZ
    refine (rg_put (pr_glob hZ) (ys := [g]) (fun w2 h2 => rdI_pc h2.pull2) (by simp; omega)).mono ?_
    rintro e w2 ⟨vL', he, h2⟩
    exact ⟨he, vL', (pr_globI h2).drop2⟩)
  clear h hne hs hl
  cases hi : inP D.n by_ with
  | true =>
    rw [hi, Bool.true_and] at hc
    rw [hi] at HI
    rw [hc] at hh
    have HH := Lib.hid hh
    clear hh hc hi
    go_enter Tryz.func23, Tryz.ntmps23
    go_wp2_with (first
      | (go_at_call 73; refine HI.out.mono ?_; rintro e w' ⟨rfl, rfl⟩)
      | (go_at_call 59; refine (HH.out _).mono ?_; rintro e w' ⟨rfl, rfl⟩)
      | (go_at_call 13; refine HT.out.mono ?_; rintro e w1 ⟨ao, cap, rfl, a1, hB⟩; have HB := Lib.hid hB; clear hB)
      | (go_at_call 25; refine HB.out.mono ?_; rintro e w2 ⟨rfl, vG', hS2⟩; have H2 := Lib.hid hS2; clear hS2))
    refine bodyPost_ret (results_none rfl _ _ _) rfl ?_
    exact ⟨rfl, _, H2.out⟩
  | false =>
    rw [hi] at HI
    clear hh hc hi
    go_enter Tryz.func23, Tryz.ntmps23
    go_wp2_with (first
      | (go_at_call 73; refine HI.out.mono ?_; rintro e w' ⟨rfl, rfl⟩)
      | (go_at_call 13; refine HT.out.mono ?_; rintro e w1 ⟨ao, cap, rfl, a1, hB⟩; have HB := Lib.hid hB; clear hB)
      | (go_at_call 25; refine HB.out.mono ?_; rintro e w2 ⟨rfl, vG', hS2⟩; have H2 := Lib.hid hS2; clear hS2))
    refine bodyPost_ret (results_none rfl _ _ _) rfl ?_
    exact ⟨rfl, _, H2.out⟩
end
end Go.Proofs.YtjgemfgneiaabaaGreat.Pc
