/-
  The walk of PlaceSteals: guards that are not met. No statement is proved here.
-/
import Derived.Test.YtjgemfgneiaabaaGreatMg31
import Derived.Test.YtjgemfgneiaabaaGreatPr20
import Derived.Test.YtjgemfgneiaabaaGreatMg34
namespace Go.Proofs.YtjgemfgneiaabaaGreat.Pc
open Go.RowKit Rq Gq Nu
set_option linter.unusedVariables false
set_option linter.unusedSimpArgs false

section
variable {w0 : World} {v : Value} {n : Nat} {A : Nat → Ac}
set_option maxRecDepth 100000 in
theorem steals_no (ps ring : Int) (h : Acts w0 v n A) (hm : may19 ps ring = false) (q vic : Int) (a9 : Option Addr) (l9 c9 : Nat) : Calls Tryz.prog 4 #[vi ps, vi ring, v, vi q, vi vic, .slice a9 l9 c9] w0 (TrueB w0) := by
  obtain ⟨ao, cap, rfl⟩ := h.len
  have HF := Lib.hid (few19 h (Below.refl _ _) 60 (by omega))
  have HM := Lib.hid (may_19 ps ring w0)
  rw [hm] at HM
  have HN := Lib.hid (pl_new_no ps ring (by unfold may19 at hm; rw [decide_eq_false_iff_not] at hm; omega) w0)
  generalize fewB n 60 _ = f at *
  clear hm
  cases f
  all_goals
    go_enter Tryz.func4, Tryz.ntmps4
    go_wp2_with (first
      | (go_at_call 5; refine HN.out.mono ?_; rintro e w' ⟨rfl, rfl⟩)
      | (go_at_call 6; refine HF.out.mono ?_; rintro e w' ⟨rfl, rfl⟩)
      | (go_at_call 7; refine HM.out.mono ?_; rintro e w' ⟨rfl, rfl⟩)
      | (go_at_call 8; refine (known19 _).mono ?_; rintro e w3 ⟨rfl, hb⟩))
    go_ret
    exact ⟨rfl, hb⟩
set_option maxRecDepth 100000 in
theorem steals_few (ps ring : Nat) (h : Acts w0 v n A) (h1 : 1 ≤ ps) (h8 : ps ≤ 8) (h2 : 2 ≤ ring) (h32 : ring ≤ 32) (hf : (fewB n 60 fun i => (A i).af.length) = false) (q vic : Int) (a9 : Option Addr) (l9 c9 : Nat) : Calls Tryz.prog 4 #[vi ps, vi ring, v, vi q, vi vic, .slice a9 l9 c9] w0 (TrueB w0) := by
  obtain ⟨ao, cap, rfl⟩ := h.len
  have HF : Hid (∀ w', Below w0.heap.size w0 w' → Calls Tryz.prog 6 #[.slice ao n cap, vi 60] w' fun e w'' => e = .returned (.bool false) ∧ w' = w'') := Lib.hid fun w' hb => by
    have := few19 h hb 60 (by omega)
    rw [hf] at this
    exact this
  have HM : Hid (∀ w', Calls Tryz.prog 7 #[vi ps, vi ring] w' fun e w'' => e = .returned (.bool true) ∧ w' = w'') := Lib.hid fun w' => by
    have := may_19 ps ring w'
    rw [show may19 ps ring = true by unfold may19; rw [decide_eq_true_eq]; omega] at this
    exact this
  have HN := Lib.hid (pl_new ps ring h1 h8 h2 h32 (Sat.start w0))
  clear hf h
  go_enter Tryz.func4, Tryz.ntmps4
  go_wp2_with (first
    | (go_at_call 5; refine HN.out.mono ?_; rintro e w1 ⟨D, _, _, rfl, hS⟩; have HB := Lib.hid hS.below; clear hS)
    | (go_at_call 6; refine (HF.out _ HB.out).mono ?_; rintro e w' ⟨rfl, rfl⟩)
    | (go_at_call 7; refine (HM.out _).mono ?_; rintro e w' ⟨rfl, rfl⟩)
    | (go_at_call 8; refine (known19 _).mono ?_; rintro e w3 ⟨rfl, hb⟩))
  go_ret
  exact ⟨rfl, HB.out.trans (hb.mono HB.out.size)⟩
set_option maxRecDepth 100000 in
theorem steals_long (ps ring : Nat) (h : Acts w0 v n A) (h1 : 1 ≤ ps) (h8 : ps ≤ 8) (h2 : 2 ≤ ring) (h32 : ring ≤ 32) (hf : (fewB n 60 fun i => (A i).af.length) = true) (q vic : Int) (a9 : Option Addr) (l9 c9 : Nat) (h9 : 100 < l9) : Calls Tryz.prog 4 #[vi ps, vi ring, v, vi q, vi vic, .slice a9 l9 c9] w0 (TrueB w0) := by
  obtain ⟨ao, cap, rfl⟩ := h.len
  have HF : Hid (∀ w', Below w0.heap.size w0 w' → Calls Tryz.prog 6 #[.slice ao n cap, vi 60] w' fun e w'' => e = .returned (.bool true) ∧ w' = w'') := Lib.hid fun w' hb => by
    have := few19 h hb 60 (by omega)
    rw [hf] at this
    exact this
  have HM : Hid (∀ w', Calls Tryz.prog 7 #[vi ps, vi ring] w' fun e w'' => e = .returned (.bool true) ∧ w' = w'') := Lib.hid fun w' => by
    have := may_19 ps ring w'
    rw [show may19 ps ring = true by unfold may19; rw [decide_eq_true_eq]; omega] at this
    exact this
  have HN := Lib.hid (pl_new ps ring h1 h8 h2 h32 (Sat.start w0))
  have h9i : (100 : Int) < (l9 : Int) := by omega
  clear hf h
  go_enter Tryz.func4, Tryz.ntmps4
  go_wp2_with (first
    | (go_at_call 5; refine HN.out.mono ?_; rintro e w1 ⟨D, _, _, rfl, hS⟩; have HB := Lib.hid hS.below; clear hS)
    | (go_at_call 6; refine (HF.out _ HB.out).mono ?_; rintro e w' ⟨rfl, rfl⟩)
    | (go_at_call 7; refine (HM.out _).mono ?_; rintro e w' ⟨rfl, rfl⟩)
    | (go_at_call 8; refine (known19 _).mono ?_; rintro e w3 ⟨rfl, hb⟩))
  go_ret
  exact ⟨rfl, HB.out.trans (hb.mono HB.out.size)⟩
end
end Go.Proofs.YtjgemfgneiaabaaGreat.Pc

namespace Go.Proofs.YtjgemfgneiaabaaGreat.Pc
open Go.RowKit Rq Gq Nu
set_option linter.unusedVariables false
set_option linter.unusedSimpArgs false

theorem gone {l ys l' : List Int} {y : Int} (h : (l' ++ [y]).Perm l) (hn : l.Nodup) : y ∉ l' := fun hy => by
  have h1 := h.nodup_iff.2 hn
  exact (List.nodup_append.1 h1).2.2 y hy y (by simp) rfl
section
variable {w0 : World} {v : Value} {n : Nat} {A : Nat → Ac} {D : Ad} {p : Nat → Pl} {gx : List Int} {F : Hp}
theorem x32 {w : World} (h : Sat w0 (plB D p gx * F) w) (ho : D.Ok) : ∀ i, i < D.n → (p i).xs.length ≤ 32 := fun i hi => by
  have h1 := (pl_ring h hi).1
  have h2 := ho.m32
  omega
theorem lay_forms {w : World} {v1 v2 v3 v4 v5 v6 : Value} {rv : Nat → Value} {m : Nat} (h : Sat w0 (layB m p gx v1 v2 v3 v4 v5 v6 rv * F) w) (hn : m ≠ 0) : (∃ a n c, v1 = .slice a n c) ∧ (∃ a n c, v2 = .slice a n c) ∧ (∃ a n c, v3 = .slice a n c) ∧ (∃ a n c, v4 = .slice a n c) ∧ (∃ a n c, v5 = .slice a n c) ∧ (∃ a n c, v6 = .slice a n c) := by
  have hr := lay_ok h hn
  refine ⟨?_, ?_, ?_, ?_, ?_, ?_⟩
  · obtain ⟨a, c, hv⟩ := hr.r1.len
    exact ⟨_, _, _, hv⟩
  · obtain ⟨a, c, hv⟩ := hr.r2.len
    exact ⟨_, _, _, hv⟩
  · obtain ⟨b, o, c, hv, _⟩ := hr.r3
    exact ⟨_, _, _, hv⟩
  · obtain ⟨a, c, hv⟩ := hr.r4.len
    exact ⟨_, _, _, hv⟩
  · obtain ⟨b, o, c, hv, _⟩ := hr.r5
    exact ⟨_, _, _, hv⟩
  · obtain ⟨a, c, hv⟩ := hr.r6.len
    exact ⟨_, _, _, hv⟩
set_option maxRecDepth 100000 in
set_option maxHeartbeats 16000000 in
theorem steals_yes (ps ring : Nat) (h : Acts w0 v n A) (h1 : 1 ≤ ps) (h8 : ps ≤ 8) (h2 : 2 ≤ ring) (h32 : ring ≤ 32) (hf : (fewB n 60 fun i => (A i).af.length) = true) (q vic : Int) {a9 : Option Addr} {c9 : Nat} {ag : List Nat} (hag : ∀ w', Below w0.heap.size w0 w' → RdA w' (.slice a9 ag.length c9) ag) (h100 : ag.length ≤ 100) : Calls Tryz.prog 4 #[vi ps, vi ring, v, vi q, vi vic, .slice a9 ag.length c9] w0 (TrueB w0) := by
  obtain ⟨ao, cap, rfl⟩ := h.len
  have hsm := h.small
  unfold maxLen at hsm
  have hn60 := (fewB_yes hf).1
  have HF : Hid (∀ w', Below w0.heap.size w0 w' → Calls Tryz.prog 6 #[.slice ao n cap, vi 60] w' fun e w'' => e = .returned (.bool true) ∧ w' = w'') := Lib.hid fun w' hb => by
    have := few19 h hb 60 (by omega)
    rw [hf] at this
    exact this
  have HM : Hid (∀ w', Calls Tryz.prog 7 #[vi ps, vi ring] w' fun e w'' => e = .returned (.bool true) ∧ w' = w'') := Lib.hid fun w' => by
    have := may_19 ps ring w'
    rw [show may19 ps ring = true by unfold may19; rw [decide_eq_true_eq]; omega] at this
    exact this
  have HN := Lib.hid (pl_new ps ring h1 h8 h2 h32 (Sat.start w0))
  have HAG := Lib.hid hag
  have hl9 : ¬ (100 : Int) < (ag.length : Int) := by omega
  clear hf hag
  go_enter Tryz.func4, Tryz.ntmps4
  go_wp2_with (first
    | (go_at_call 5; refine HN.out.mono ?_; rintro e w1 ⟨D, hdn, hdm, rfl, hS⟩; have HO := Lib.hid (show D.Ok from ⟨by omega, by omega, by omega, by omega⟩); have HDN := Lib.hid hdn; have HDM := Lib.hid hdm; have H1 := Lib.hid hS; have HR := Lib.hid (pr_new ps ring h1 h8 h2 h32 hS); clear hS hdn hdm)
    | (go_at_call 6; refine (HF.out _ H1.out.below).mono ?_; rintro e w' ⟨rfl, rfl⟩)
    | (go_at_call 7; refine (HM.out _).mono ?_; rintro e w' ⟨rfl, rfl⟩)
    | (go_at_call 9; refine HR.out.mono ?_; rintro e w2 ⟨R, hrn, hrm, rfl, hS⟩; have HMT := Lib.hid (Mate.mk' HO.out (hrn.trans HDN.out.symm) (hrm.trans HDM.out.symm)); have H2 : Hid (Two w0 D R (fun _ => pl0) [] emp w2) := Lib.hid hS.pull2; clear hS hrn hrm))
  clear HR H1 HF HM HN HDM
  go_loopw [16] (fun i wy => ∃ (k : Nat) (p : Nat → Pl) (gx : List Int), k ≤ n ∧ i = vi k ∧ Hid (Fit D.n p gx k (fun _ => True)) ∧ Two w0 D R p gx emp wy) (fun i _ => n - (intOf i).toNat)
  case atStart => exact ⟨0, fun _ => pl0, [], Nat.zero_le _, rfl, Lib.hid (fit_zero _ _), H2.out⟩
  case round =>
    clear H2
    obtain ⟨i, p, gx, hi, rfl, HFT, hS⟩ := hrel
    by_cases hlt : i < n
    · have hii : (i : Int) < (n : Int) := by omega
      obtain ⟨bx, off, rfl, c0, c1, c2, c3, c4, c5⟩ := h.at_ hS.below i hlt
      obtain ⟨a5, p5, hv5⟩ := ((h.aff i hlt).1 _ hS.below).1.len
      rw [hv5] at c5
      have HDO : Hid (Calls Tryz.prog 10 #[vp D.s, vp R.s, .agg #[vi (A i).k, vi (A i).g, vi (A i).p, vi (A i).n, .int .u8 (A i).set, .slice a5 (A i).af.length p5]] _ fun e w' => IsB e ∧ ∃ p' gx', Fit D.n p' gx' (i + 1) (fun _ => True) ∧ Two w0 D R p' gx' emp w') := Lib.hid (by
        have := do19 hS HMT.out HFT.out (by omega) (A i) (fun w' h' => (h.aff i hlt).1 w' h') (h.set i hlt) (h.num i hlt) trivial
        unfold Ac.cells at this
        rw [hv5] at this
        exact this)
      clear hS hv5
      generalize (A i).g = g at *
      generalize (A i).k = kd at *
      generalize (A i).p = pp at *
      generalize (A i).n = nn at *
      generalize (A i).set = sx at *
      generalize (A i).af.length = al at *
      go_wp2_with (go_at_call 10; refine HDO.out.mono ?_; rintro e w2 ⟨⟨b, rfl⟩, p', gx', hfit, hS⟩; have H3 := Lib.hid hS; have HF3 := Lib.hid hfit; clear hS hfit)
      go_roundw
      case rel => exact ⟨i + 1, p', gx', by omega, by go_num, HF3, H3.out⟩
      case measure => simp [intOf]; omega
    · obtain rfl : i = n := by omega
      have hgl := HFT.out.glen
      have hn0 : D.n ≠ 0 := by have := HO.out.n1; omega
      have HN0 := Lib.hid hn0
      have HX32 := Lib.hid (x32 hS HO.out)
      have HV := Lib.hid (pl_view hS HO.out (by omega))
      clear hS hn0
      go_upto_region 10 with (go_at_call 14; refine HV.out.mono ?_; rintro e w2 ⟨v1, v2, v3, v4, v5, v6, rv, rfl, hS⟩; obtain ⟨⟨x1, y1, k1, rfl⟩, ⟨x2, y2, k2, rfl⟩, ⟨x3, y3, k3, rfl⟩, ⟨x4, y4, k4, rfl⟩, ⟨x5, y5, k5, rfl⟩, ⟨x6, y6, k6, rfl⟩⟩ := lay_forms hS HN0.out; have hA := hS.alloc (.cells #[.slice x1 y1 k1, .slice x2 y2 k2, .slice x3 y3 k3, .slice x4 y4 k4, .slice x5 y5 k5, .slice x6 y6 k6] 47); have HS2 : Hid (Sat w0 (pc w2.heap.size 47 [.slice x1 y1 k1, .slice x2 y2 k2, .slice x3 y3 k3, .slice x4 y4 k4, .slice x5 y5 k5, .slice x6 y6 k6] * (layB D.n p gx (.slice x1 y1 k1) (.slice x2 y2 k2) (.slice x3 y3 k3) (.slice x4 y4 k4) (.slice x5 y5 k5) (.slice x6 y6 k6) rv * (plB D p gx * (prB R p gx * emp)))) (w2.alloc (.cells #[.slice x1 y1 k1, .slice x2 y2 k2, .slice x3 y3 k3, .slice x4 y4 k4, .slice x5 y5 k5, .slice x6 y6 k6] 47))) := Lib.hid hA; clear hS hA)
      generalize w2.heap.size = bw at *
      have hS2 : Two w0 D R p gx (pc bw 47 [.slice x1 y1 k1, .slice x2 y2 k2, .slice x3 y3 k3, .slice x4 y4 k4, .slice x5 y5 k5, .slice x6 y6 k6] * (layB D.n p gx (.slice x1 y1 k1) (.slice x2 y2 k2) (.slice x3 y3 k3) (.slice x4 y4 k4) (.slice x5 y5 k5) (.slice x6 y6 k6) rv * emp)) (w2.alloc (.cells #[.slice x1 y1 k1, .slice x2 y2 k2, .slice x3 y3 k3, .slice x4 y4 k4, .slice x5 y5 k5, .slice x6 y6 k6] 47)) := HS2.out.cast (by ac_rfl)
      obtain ⟨ys, p', gx', hfit, hperm, hnil, hmay, hy1, hX⟩ := b_steal hS2 HMT.out HFT.out (by omega) q vic (u := .slice a9 ag.length c9) (af := ag) (fun w' h' => HAG.out w' h'.below)
      have hgl' := hfit.glen
      clear HV HS2 hS2
      rcases ys with _ | ⟨y, ys⟩
      · obtain ⟨rfl, rfl⟩ := hnil rfl
        have HX : Hid (Calls Tryz.prog 15 #[vp D.s, vi q, vi vic, .slice a9 ag.length c9] (w2.alloc (.cells #[.slice x1 y1 k1, .slice x2 y2 k2, .slice x3 y3 k3, .slice x4 y4 k4, .slice x5 y5 k5, .slice x6 y6 k6] 47)) fun e w1 => e = .returned (.tuple #[vi 0, .bool false]) ∧ Two w0 D R p' gx' (pc bw 47 [.slice x1 y1 k1, .slice x2 y2 k2, .slice x3 y3 k3, .slice x4 y4 k4, .slice x5 y5 k5, .slice x6 y6 k6] * (layB D.n p' gx' (.slice x1 y1 k1) (.slice x2 y2 k2) (.slice x3 y3 k3) (.slice x4 y4 k4) (.slice x5 y5 k5) (.slice x6 y6 k6) rv * emp)) w1) := Lib.hid (hX.mono fun e w1 hh => ⟨hh.1, hh.2.1⟩)
        clear hX hnil hmay hfit hperm hy1
        go_wp2_with (go_at_call 15; refine HX.out.mono ?_; rintro e w4 ⟨rfl, hS⟩; have c0 := hS.dropL.dropL.cell 0 rfl; have c1 := hS.dropL.dropL.cell 1 rfl; have c2 := hS.dropL.dropL.cell 2 rfl; have c3 := hS.dropL.dropL.cell 3 rfl; have c4 := hS.dropL.dropL.cell 4 rfl; have c5 := hS.dropL.dropL.cell 5 rfl; have HV := Lib.hid (pl_view hS.drew HO.out (by omega)); clear hS)
        go_region_held3 (fun w' => w'.cell? ⟨bw, 0, none⟩ = some (.slice x1 y1 k1) ∧ w'.cell? ⟨bw, 1, none⟩ = some (.slice x2 y2 k2) ∧ w'.cell? ⟨bw, 2, none⟩ = some (.slice x3 y3 k3) ∧ w'.cell? ⟨bw, 3, none⟩ = some (.slice x4 y4 k4) ∧ w'.cell? ⟨bw, 4, none⟩ = some (.slice x5 y5 k5) ∧ w'.cell? ⟨bw, 5, none⟩ = some (.slice x6 y6 k6)) (first | (with_reducible exact s9) | (with_reducible exact ⟨e0, e1, e2, e3, e4, e5⟩) | (with_reducible exact ⟨d0, d1, d2, d3, d4, d5⟩) | exact ⟨c0, c1, c2, c3, c4, c5⟩)
          (first
            | (go_at_call 14; refine HV.out.mono ?_; rintro e w5 ⟨u1, u2, u3, u4, u5, u6, ru, rfl, hS⟩; have d0 := hS.dropL.dropL.dropL.cell 0 rfl; have d1 := hS.dropL.dropL.dropL.cell 1 rfl; have d2 := hS.dropL.dropL.dropL.cell 2 rfl; have d3 := hS.dropL.dropL.dropL.cell 3 rfl; have d4 := hS.dropL.dropL.dropL.cell 4 rfl; have d5 := hS.dropL.dropL.dropL.cell 5 rfl; have HSM := Lib.hid (lay_same hS HN0.out HO.out.n8 HX32.out (by omega) (fun w' h' => lay_ok h' HN0.out) (fun w' h' => lay_ok h'.dropL.dropL.dropL.dropL HN0.out)); clear hS)
            | (go_at_call 16; refine HSM.out.mono ?_; rintro e w6 ⟨rfl, hS⟩; have e0 := hS.dropL.dropL.dropL.cell 0 rfl; have e1 := hS.dropL.dropL.dropL.cell 1 rfl; have e2 := hS.dropL.dropL.dropL.cell 2 rfl; have e3 := hS.dropL.dropL.dropL.cell 3 rfl; have e4 := hS.dropL.dropL.dropL.cell 4 rfl; have e5 := hS.dropL.dropL.dropL.cell 5 rfl; have HBL := Lib.hid hS.below; have HLT := Lib.hid hS.dropL.dropL.dropL.lt; clear hS)
            | (go_at_call 8; refine (known19 _).mono ?_; rintro e w9 ⟨rfl, hb⟩; have s9 : w9.cell? ⟨bw, 0, none⟩ = some (.slice x1 y1 k1) ∧ w9.cell? ⟨bw, 1, none⟩ = some (.slice x2 y2 k2) ∧ w9.cell? ⟨bw, 2, none⟩ = some (.slice x3 y3 k3) ∧ w9.cell? ⟨bw, 3, none⟩ = some (.slice x4 y4 k4) ∧ w9.cell? ⟨bw, 4, none⟩ = some (.slice x5 y5 k5) ∧ w9.cell? ⟨bw, 5, none⟩ = some (.slice x6 y6 k6) := ⟨(hb.cell (p := ⟨bw, 0, none⟩) HLT.out).trans e0, (hb.cell (p := ⟨bw, 1, none⟩) HLT.out).trans e1, (hb.cell (p := ⟨bw, 2, none⟩) HLT.out).trans e2, (hb.cell (p := ⟨bw, 3, none⟩) HLT.out).trans e3, (hb.cell (p := ⟨bw, 4, none⟩) HLT.out).trans e4, (hb.cell (p := ⟨bw, 5, none⟩) HLT.out).trans e5⟩))
        all_goals go_wp2
        all_goals go_ret
        all_goals exact ⟨rfl, HBL.out.trans (hb.mono HBL.out.size)⟩
      · obtain rfl : ys = [] := by
          cases ys with
          | nil => rfl
          | cons a b => simp at hy1
        obtain ⟨m0, m1, m2, m3, m4⟩ := hmay y (by simp)
        have hnw := gone (ys := []) hperm HFT.out.nd
        obtain ⟨kq, rfl, hkq⟩ := inP_yes m2
        obtain ⟨kv, rfl, hkv⟩ := inP_yes m3
        have hdn := HDN.out
        have g1 : ¬ (kq : Int) < 0 := by omega
        have g2 : ¬ (ps : Int) ≤ (kq : Int) := by omega
        have g2n : ¬ ps ≤ kq := by omega
        have g3 : ¬ (kv : Int) < 0 := by omega
        have g4 : ¬ (ps : Int) ≤ (kv : Int) := by omega
        have g4n : ¬ ps ≤ kv := by omega
        have g5 : ((kq : Int) == (kv : Int)) = false := beq_eq_false_iff_ne.2 m4
        have g6 : ¬ y < 0 := by omega
        have g7 : ¬ (ag.length : Int) ≤ y := by omega
        have hwz : (whereV p' D.n gx' y).1 = 0 := by
          cases hd : decide ((whereV p' D.n gx' y).1 = 0) with
          | true => simpa using hd
          | false => exact absurd ((where_mem p' D.n gx' y).1 (by simpa using hd)) hnw
        have HWZ := Lib.hid hwz
        have hfd : ∀ (a b : Int) (w : World), (Instr.field 39 (.agg #[vi a, vi b]) 0).run Tryz.prog w = .ok (vi a) w := fun _ _ _ => rfl
        have HX : Hid (Calls Tryz.prog 15 #[vp D.s, vi kq, vi kv, .slice a9 ag.length c9] (w2.alloc (.cells #[.slice x1 y1 k1, .slice x2 y2 k2, .slice x3 y3 k3, .slice x4 y4 k4, .slice x5 y5 k5, .slice x6 y6 k6] 47)) fun e w1 => e = .returned (.tuple #[vi y, .bool true]) ∧ Sat w0 (plB D p' gx' * (prB R p gx * (pc bw 47 [.slice x1 y1 k1, .slice x2 y2 k2, .slice x3 y3 k3, .slice x4 y4 k4, .slice x5 y5 k5, .slice x6 y6 k6] * (layB D.n p gx (.slice x1 y1 k1) (.slice x2 y2 k2) (.slice x3 y3 k3) (.slice x4 y4 k4) (.slice x5 y5 k5) (.slice x6 y6 k6) rv * emp)))) w1 ∧ ∀ w2, Sat w0 (plB D p' gx' * (prB R p gx * (pc bw 47 [.slice x1 y1 k1, .slice x2 y2 k2, .slice x3 y3 k3, .slice x4 y4 k4, .slice x5 y5 k5, .slice x6 y6 k6] * (layB D.n p gx (.slice x1 y1 k1) (.slice x2 y2 k2) (.slice x3 y3 k3) (.slice x4 y4 k4) (.slice x5 y5 k5) (.slice x6 y6 k6) rv * emp)))) w2 → Calls Tryz.prog 17 #[vp R.s, vi kq, vi kv, .slice a9 ag.length c9] w2 fun e w3 => ∃ b o c, e = .returned (.slice (some ⟨b, o, none⟩) 1 c) ∧ w3.cell? ⟨b, o, none⟩ = some (vi y) ∧ Two w0 D R p' gx' (pc bw 47 [.slice x1 y1 k1, .slice x2 y2 k2, .slice x3 y3 k3, .slice x4 y4 k4, .slice x5 y5 k5, .slice x6 y6 k6] * (layB D.n p gx (.slice x1 y1 k1) (.slice x2 y2 k2) (.slice x3 y3 k3) (.slice x4 y4 k4) (.slice x5 y5 k5) (.slice x6 y6 k6) rv * emp)) w3) := Lib.hid (hX.mono fun e w1 hh => ⟨hh.1, hh.2.1, fun w2 h2 => (hh.2.2 w0 w2 _ h2 (fun w' h' => HAG.out w' h'.below)).mono fun e w3 ⟨vv, he, hR, hS⟩ => by
          obtain ⟨b, o, c, hv, hc⟩ := Rd.pos hR (by simp)
          exact ⟨b, o, c, by rw [he, hv]; rfl, hc 0 (vi y) rfl, hS⟩⟩)
        clear hX hnil hmay hfit hperm hy1 hnw hwz m2 m3 m4 hdn hkq hkv
        go_wp2_with (first
          | (go_at_call 15; refine HX.out.mono ?_; rintro e w4 ⟨rfl, hS, hB⟩; have HB := Lib.hid hB; have HW := Lib.hid (pl_where hS HO.out y (by omega)); clear hS hB)
          | (go_at_call 12; refine HW.out.mono ?_; rintro e w5 ⟨rfl, hS⟩; rw [HWZ.out]; have HST := Lib.hid (HB.out _ hS); clear hS)
          | (go_at_call 17; refine HST.out.mono ?_; rintro e w6 ⟨b6, o6, cc6, rfl, cx, hS⟩; have HX2 := Lib.hid (x32 hS HO.out); have HRX := Lib.hid (two_x HMT.out hS); have HV := Lib.hid (pl_view hS HO.out (by omega)); clear hS)
          | (go_at_call 14; refine HV.out.mono ?_; rintro e w7 ⟨u1, u2, u3, u4, u5, u6, ru, rfl, hS⟩; obtain ⟨vG, vR, h7⟩ := pr_open hS.pull3; have HRV := Lib.hid (pr_view h7 HMT.out.r HRX.out (by omega)); clear hS h7)
          | (go_at_call 18; refine HRV.out.mono ?_; rintro e w8 ⟨t1, t2, t3, t4, t5, t6, rt, rfl, hS⟩; rw [HMT.out.n] at hS; have HSM := Lib.hid (lay_same hS HN0.out HO.out.n8 HX2.out (by omega) (fun w' h' => lay_ok h'.dropL.dropL HN0.out) (fun w' h' => lay_ok h' HN0.out)); clear hS)
          | (go_at_call 16; refine HSM.out.mono ?_; rintro e w9 ⟨rfl, hS⟩; have HBL := Lib.hid hS.below; clear hS)
          | (go_at_call 8; refine (known19 _).mono ?_; rintro e w10 ⟨rfl, hb⟩))
        go_ret
        exact ⟨rfl, HBL.out.trans (hb.mono HBL.out.size)⟩
end
end Go.Proofs.YtjgemfgneiaabaaGreat.Pc

namespace Go.Proofs.YtjgemfgneiaabaaGreat.Pc
open Go.RowKit Rq Gq Nu
set_option linter.unusedVariables false

theorem steals_walk19 {w0 : World} {v : Value} {n : Nat} {A : Nat → Ac} (ps ring : Int) (h : Acts w0 v n A) (q vic : Int) {v4 : Value} {ag : List Nat} (hg : IsAff w0 v4 ag) : Calls Tryz.prog 4 #[vi ps, vi ring, v, vi q, vi vic, v4] w0 (TrueB w0) := by
  obtain ⟨a9, c9, rfl⟩ := (hg.1 _ (Below.refl _ _)).1.len
  cases hm : may19 ps ring with
  | false => exact steals_no ps ring h hm q vic a9 ag.length c9
  | true =>
    unfold may19 at hm
    rw [decide_eq_true_eq] at hm
    obtain ⟨a, rfl⟩ := Int.eq_ofNat_of_zero_le (show 0 ≤ ps by omega)
    obtain ⟨b, rfl⟩ := Int.eq_ofNat_of_zero_le (show 0 ≤ ring by omega)
    cases hf : fewB n 60 fun i => (A i).af.length with
    | false => exact steals_few a b h (by omega) (by omega) (by omega) (by omega) hf q vic a9 ag.length c9
    | true =>
      by_cases hl : 100 < ag.length
      · exact steals_long a b h (by omega) (by omega) (by omega) (by omega) hf q vic a9 ag.length c9 hl
      · exact steals_yes a b h (by omega) (by omega) (by omega) (by omega) hf q vic hg.1 (by omega)
theorem steals19_row (w0 : World) (ps : Int) (wp : (Lit.int .i64 ps).wf = true) (ring : Int) (wr : (Lit.int .i64 ring).wf = true) (v : Value) (n : Nat) (A : Nat → Value) (h : ArgS w0 6 (actC19 w0) v n A) (q : Int) (wq : (Lit.int .i64 q).wf = true) (vic : Int) (wv : (Lit.int .i64 vic).wf = true) (v4 : Value) (n4 : Nat) (A4 : Nat → Int) (h4 : ArgK w0 1 (fun _ => .u8) v4 n4 A4) :
    Calls Tryz.prog 4 #[vi ps, vi ring, v, vi q, vi vic, v4] w0 (TrueBelow w0) := by
  obtain ⟨B, h⟩ := acts_of h
  obtain ⟨ag, hg⟩ := isAff_of (show IsInts w0 .u8 v4 from ⟨n4, A4, h4⟩)
  exact steals_walk19 ps ring h q vic hg
end Go.Proofs.YtjgemfgneiaabaaGreat.Pc
