/-
  The walk of PlacePuts. No statement is proved here.
-/
import Derived.Test.YtjgemfgneiaabaaGreatMg31
namespace Go.Proofs.YtjgemfgneiaabaaGreat.Pc
open Go.RowKit Rq Gq Nu
set_option linter.unusedVariables false
set_option linter.unusedSimpArgs false

theorem take_mem {L : List Int} {q y : Int} {k : Nat} (hk : L[k]? = some y) : decide (q ∈ L.take (k + 1)) = (decide (q ∈ L.take k) || y == q) := by
  rw [List.take_add_one, hk]
  by_cases h : y = q
  · subst h
    simp
  · have h2 : (y == q) = false := beq_eq_false_iff_ne.2 h
    rw [h2, Bool.or_false]
    have : q ≠ y := fun e => h e.symm
    simp [this]
section
variable {w0 : World} {v : Value} {n : Nat} {A : Nat → Ac}
set_option maxRecDepth 100000 in
set_option maxHeartbeats 16000000 in
theorem puts_yes (ps ring : Nat) (h : Acts w0 v n A) (h1 : 1 ≤ ps) (h8 : ps ≤ 8) (h2 : 2 ≤ ring) (h32 : ring ≤ 32) (hf : (fewB n 60 fun i => (A i).af.length) = true) (st : Nat) (hst : st < 256) (q pick : Int) : Calls Tryz.prog 3 #[vi ps, vi ring, v, .int .u8 st, vi q, vi pick] w0 (TrueB w0) := by
  obtain ⟨ao, cap, rfl⟩ := h.len
  have hsm := h.small
  unfold maxLen at hsm
  have hn60 := (fewB_yes hf).1
  have HF : Hid (∀ w', Below w0.heap.size w0 w' → Calls Tryz.prog 6 #[.slice ao n cap, vi 60] w' fun e w'' => e = .returned (.bool true) ∧ w' = w'') := Lib.hid fun w' hb => by
    have := few19 h hb 60 (by omega)
    rw [hf] at this
    exact this
  have HM : Hid (∀ w', Calls Tryz.prog 7 #[vi ps, vi ring] w' fun e w'' => e = .returned (.bool true) ∧ w' = w'') := Lib.hid fun w' => by
    have := may_19 ps ring w'
    rw [show may19 ps ring = true by unfold may19; rw [decide_eq_true_eq]; omega] at this
    exact this
  have HN := Lib.hid (pl_new ps ring h1 h8 h2 h32 (Sat.start w0))
  clear hf
  go_enter Tryz.func3, Tryz.ntmps3
  go_wp2_with (first
    | (go_at_call 5; refine HN.out.mono ?_; rintro e w1 ⟨D, hdn, hdm, rfl, hS⟩; have HO := Lib.hid (show D.Ok from ⟨by omega, by omega, by omega, by omega⟩); have HDN := Lib.hid hdn; have HDM := Lib.hid hdm; have H1 := Lib.hid hS; have HR := Lib.hid (pr_new ps ring h1 h8 h2 h32 hS); clear hS hdn hdm)
    | (go_at_call 6; refine (HF.out _ H1.out.below).mono ?_; rintro e w' ⟨rfl, rfl⟩)
    | (go_at_call 7; refine (HM.out _).mono ?_; rintro e w' ⟨rfl, rfl⟩)
    | (go_at_call 9; refine HR.out.mono ?_; rintro e w2 ⟨R, hrn, hrm, rfl, hS⟩; have HMT := Lib.hid (Mate.mk' HO.out (hrn.trans HDN.out.symm) (hrm.trans HDM.out.symm)); have H2 : Hid (Two w0 D R (fun _ => pl0) [] emp w2) := Lib.hid hS.pull2; clear hS hrn hrm))
  clear HR H1 HF HM HN HDN HDM
  go_loopw [16] (fun i wy => ∃ (k : Nat) (p : Nat → Pl) (gx : List Int), k ≤ n ∧ i = vi k ∧ Hid (Fit D.n p gx k (fun x => x ≠ 31)) ∧ Two w0 D R p gx emp wy) (fun i _ => n - (intOf i).toNat)
  case atStart => exact ⟨0, fun _ => pl0, [], Nat.zero_le _, rfl, Lib.hid (fit_zero _ _), H2.out⟩
  case round =>
    clear H2
    obtain ⟨i, p, gx, hi, rfl, HFT, hS⟩ := hrel
    by_cases hlt : i < n
    · have hii : (i : Int) < (n : Int) := by omega
      obtain ⟨bx, off, rfl, c0, c1, c2, c3, c4, c5⟩ := h.at_ hS.below i hlt
      obtain ⟨a5, p5, hv5⟩ := ((h.aff i hlt).1 _ hS.below).1.len
      rw [hv5] at c5
      by_cases hg : 31 ≤ (A i).g
      · have H3 := Lib.hid hS
        clear hS c0 c2 c3 c4 c5
        generalize (A i).g = g at *
        go_wp2
        go_roundw
        case rel => exact ⟨i + 1, p, gx, by omega, by go_num, Lib.hid HFT.out.same, H3.out⟩
        case measure => simp [intOf]; omega
      · have hg2 : ¬ (31 : Int) ≤ (A i).g := hg
        have HDO : Hid (Calls Tryz.prog 10 #[vp D.s, vp R.s, .agg #[vi (A i).k, vi (A i).g, vi (A i).p, vi (A i).n, .int .u8 (A i).set, .slice a5 (A i).af.length p5]] _ fun e w' => IsB e ∧ ∃ p' gx', Fit D.n p' gx' (i + 1) (fun x => x ≠ 31) ∧ Two w0 D R p' gx' emp w') := Lib.hid (by
          have := do19 hS HMT.out HFT.out (by omega) (A i) (fun w' h' => (h.aff i hlt).1 w' h') (h.set i hlt) (h.num i hlt) (by omega)
          unfold Ac.cells at this
          rw [hv5] at this
          exact this)
        clear hS hv5
        generalize (A i).g = g at *
        generalize (A i).k = kd at *
        generalize (A i).p = pp at *
        generalize (A i).n = nn at *
        generalize (A i).set = sx at *
        generalize (A i).af.length = al at *
        go_wp2_with (go_at_call 10; refine HDO.out.mono ?_; rintro e w2 ⟨⟨b, rfl⟩, p', gx', hfit, hS⟩; have H3 := Lib.hid hS; have HF3 := Lib.hid hfit; clear hS hfit)
        go_roundw
        case rel => exact ⟨i + 1, p', gx', by omega, by go_num, HF3, H3.out⟩
        case measure => simp [intOf]; omega
    · obtain rfl : i = n := by omega
      have hgl := HFT.out.glen
      have HP := Lib.hid (put31 hS HO.out (x := 31) (fun hh => HFT.out.all 31 hh rfl) hst q pick (by omega))
      clear hS hgl
      go_wp2_with (first
        | (go_at_call 11; refine HP.out.mono ?_; rintro e w2 ⟨rfl, p', gx', hd, hgl, hS⟩; have HD := Lib.hid hd; have HW := Lib.hid ((pl_where hS HO.out 31 (by omega)).mono fun e w' hh => (⟨_, _, rfl, hh.1, hh.2⟩ : ∃ a b, whereV p' D.n gx' 31 = (a, b) ∧ e = .returned (.agg #[vi a, vi b]) ∧ Sat w0 (plB D p' gx' * (prB R p gx * emp)) w')); clear hS hd hgl)
        | (go_at_call 12; refine HW.out.mono ?_; rintro e w3 ⟨a, b, hAB, rfl, hS⟩; have HAB := Lib.hid hAB; have s2 := hS.alloc (.cells #[vi a, vi b] 39); obtain ⟨vG, vR, h4⟩ := pr_open (show Sat w0 (prB R p gx * (pc w3.heap.size 39 [vi a, vi b] * (plB D p' gx' * emp))) _ from s2.pull3); have HT := Lib.hid (pr_there h4 HMT.out.r hst); clear hS s2 h4 hAB)
        | (go_at_call 13; refine HT.out.mono ?_; rintro e w5 ⟨vl, rfl, hS⟩; have y0 := hS.dropL.dropL.cell 0 rfl; have y1 := hS.dropL.dropL.cell 1 rfl; have hly := hS.dropL.dropL.lt; have hlen := thL_len st R.n; have hn8 := HMT.out.r.n8; have hrn := Lib.hid HMT.out.n; have HRD : Hid (RdI w5 vl (thL st R.n)) := Lib.hid hS.rd; have HBL := Lib.hid hS.below; obtain ⟨al, cpl, rfl⟩ := hS.rd.len; have HSL := Lib.hid (fun (hz : 0 < (thL st R.n).length) => slPos hS (by omega)); have HSB := Lib.hid hS; clear hS))
      have HD := HD.out
      rw [HAB.out, ← hrn.out] at HD
      unfold Puts31 at HD
      obtain ⟨L, hLL⟩ : ∃ L, thL st R.n = L := ⟨_, rfl⟩
      rw [hLL] at HD HRD HSL HSB hlen ⊢
      clear hLL
      have HDD := Lib.hid HD
      have hL8 : L.length ≤ 8 := by omega
      clear HD HP HW HT hlen hn8 hrn
      go_loopw [19, 20] (fun ac j wy => ∃ k : Nat, k ≤ L.length ∧ j = vi k ∧ ac = .bool (decide (q ∈ L.take k)) ∧ wy = w5) (fun _ j _ => L.length - (intOf j).toNat)
      case atStart => exact ⟨0, Nat.zero_le _, rfl, by simp, rfl⟩
      case round =>
        obtain ⟨k, hk, rfl, rfl, rfl⟩ := hrel
        by_cases hlt : k < L.length
        · have hki : (k : Int) < (L.length : Int) := by omega
          obtain ⟨b', o', hbo, hc⟩ := HRD.out.at_ (by omega)
          subst hbo
          have cj := hc k hlt
          have hgt : L[k]? = some (L[k]?.getD 0) := by simp [hlt]
          have HTM := Lib.hid (take_mem (q := q) hgt)
          generalize L[k]?.getD 0 = y at *
          generalize decide (q ∈ L.take k) = t at *
          have HLT := Lib.hid hlt
          clear hc hgt hlt
          cases t
          all_goals
            go_wp2
            go_roundw
            case rel => exact ⟨k + 1, by have := HLT.out; omega, by go_num, by rw [HTM.out]; simp, by trivial⟩
            case measure => (have := HLT.out; simp [intOf]; omega)
        · obtain rfl : k = L.length := by omega
          rw [List.take_length]
          have e5 := fun a b w => eq_spot a b w
          rcases HDD.out with ⟨hq, hab⟩ | ⟨hq, hL, hab⟩ | ⟨hq, hL0, hab⟩
          · cases hab
            rw [decide_eq_true hq]
            clear hq
            go_wp2_with (go_at_call 8; refine (known19 _).mono ?_; rintro e w9 ⟨rfl, hb⟩)
            go_ret
            exact ⟨rfl, HBL.out.trans (hb.mono HBL.out.size)⟩
          · cases hab
            subst hL
            rw [decide_eq_false hq]
            clear hq
            go_wp2_with (go_at_call 8; refine (known19 _).mono ?_; rintro e w9 ⟨rfl, hb⟩)
            go_ret
            exact ⟨rfl, HBL.out.trans (hb.mono HBL.out.size)⟩
          · rw [decide_eq_false hq]
            have hLz : ((L.length : Int) == 0) = false := by
              rw [beq_eq_false_iff_ne]
              omega
            have hLz2 : ¬ (L.length : Int) = 0 := by omega
            have hLz3 : ¬ L.length = 0 := by omega
            rcases hab with hab | ⟨kk, hat, hab⟩
            · cases hab
              clear hq
              go_wp2_with (go_at_call 8; refine (known19 _).mono ?_; rintro e w9 ⟨rfl, hb⟩)
              go_ret
              exact ⟨rfl, HBL.out.trans (hb.mono HBL.out.size)⟩
            · cases hab
              obtain ⟨bl, cl, hsl, hcl⟩ := HSL.out hL0
              cases hsl
              have hcc := HSB.out.slCell (atR L.length pick) (u := vi kk) (by rw [List.getElem?_map, hat]; rfl)
              have hlb := HSB.out.slLt
              have hil := (List.getElem?_eq_some_iff.1 hat).1
              have hng := fun h => atR_neg (m := L.length) hL0 (pick := pick) h
              have hps := fun h => atR_pos (m := L.length) hL0 (pick := pick) h
              obtain ⟨_, _, t3, t4⟩ := atR_lt hL0 pick
              have HBD := Lib.hid HSB.out.drew.below
              clear hq hat HSB HSL HRD HDD
              generalize hi9 : atR L.length pick = i9 at *
              clear hi9
              generalize L.length = LL at *
              obtain ⟨t, ht⟩ : ∃ t, pick.tmod (LL : Int) = t := ⟨_, rfl⟩
              rw [ht] at hng hps t3 t4
              have hw1 : IntKind.i64.wrap t = t := IntWalk.i64_in _ (by omega)
              have hw2 : IntKind.i64.wrap (t + LL) = t + LL := IntWalk.i64_in _ (by omega)
              have hi92 : (i9 : Int) < (LL : Int) := by omega
              have hi90 : (0 : Int) ≤ (i9 : Int) := by omega
              have e3 := eq_spot 3 kk
              by_cases hneg : t < 0
              all_goals
                first
                  | (have hti := hng hneg; rw [hti] at hw2)
                  | (have hti := hps hneg; subst hti)
                clear hng hps t3 t4
                have hly2 : w3.heap.size < wr.drew.heap.size := hly
                have hlb2 : bl < wr.drew.heap.size := hlb
                have z0 : wr.drew.cell? ⟨w3.heap.size, 0, none⟩ = some (vi 3) := y0
                have z1 : wr.drew.cell? ⟨w3.heap.size, 1, none⟩ = some (vi kk) := y1
                have z2 : wr.drew.cell? ⟨bl, i9, none⟩ = some (vi kk) := hcc
                have HZZ : Hid (∀ w9, Below wr.drew.heap.size wr.drew w9 → w9.cell? ⟨w3.heap.size, 0, none⟩ = some (vi 3) ∧ w9.cell? ⟨w3.heap.size, 1, none⟩ = some (vi kk) ∧ w9.cell? ⟨bl, i9, none⟩ = some (vi kk)) := Lib.hid fun w9 hb => ⟨(hb.cell (p := ⟨w3.heap.size, 0, none⟩) hly2).trans z0, (hb.cell (p := ⟨w3.heap.size, 1, none⟩) hly2).trans z1, (hb.cell (p := ⟨bl, i9, none⟩) hlb2).trans z2⟩
                go_wp2
                go_region_held3 (fun w' => w'.cell? ⟨w3.heap.size, 0, none⟩ = some (vi 3) ∧ w'.cell? ⟨w3.heap.size, 1, none⟩ = some (vi kk) ∧ w'.cell? ⟨bl, i9, none⟩ = some (vi kk)) (first | (with_reducible exact k0) | exact ⟨z0, z1, z2⟩)
                  ((go_at_call 8; refine (known19 _).mono ?_; rintro e w9 ⟨rfl, hb⟩; have k0 := HZZ.out _ hb))
                all_goals go_wp2
                all_goals go_ret
                all_goals exact ⟨rfl, HBD.out.trans (hb.mono HBD.out.size)⟩
end
end Go.Proofs.YtjgemfgneiaabaaGreat.Pc

namespace Go.Proofs.YtjgemfgneiaabaaGreat.Pc
open Go.RowKit Rq Gq Nu
set_option linter.unusedVariables false

theorem puts_walk {w0 : World} {v : Value} {n : Nat} {A : Nat → Ac} (ps ring : Int) (h : Acts w0 v n A) (st : Nat) (hst : st < 256) (q pick : Int) : Calls Tryz.prog 3 #[vi ps, vi ring, v, .int .u8 st, vi q, vi pick] w0 (TrueB w0) := by
  cases hm : may19 ps ring with
  | false => exact puts_no ps ring h hm st q pick
  | true =>
    unfold may19 at hm
    rw [decide_eq_true_eq] at hm
    obtain ⟨a, rfl⟩ := Int.eq_ofNat_of_zero_le (show 0 ≤ ps by omega)
    obtain ⟨b, rfl⟩ := Int.eq_ofNat_of_zero_le (show 0 ≤ ring by omega)
    cases hf : fewB n 60 fun i => (A i).af.length with
    | false => exact puts_few a b h (by omega) (by omega) (by omega) (by omega) hf st q pick
    | true => exact puts_yes a b h (by omega) (by omega) (by omega) (by omega) hf st hst q pick
theorem puts_row (w0 : World) (ps : Int) (wp : (Lit.int .i64 ps).wf = true) (ring : Int) (wr : (Lit.int .i64 ring).wf = true) (v : Value) (n : Nat) (A : Nat → Value) (h : ArgS w0 6 (actC19 w0) v n A) (set_ : Int) (ws : (Lit.int .u8 set_).wf = true) (q : Int) (wq : (Lit.int .i64 q).wf = true) (pick : Int) (wk : (Lit.int .i64 pick).wf = true) :
    Calls Tryz.prog 3 #[vi ps, vi ring, v, .int .u8 set_, vi q, vi pick] w0 (TrueBelow w0) := by
  obtain ⟨B, h⟩ := acts_of h
  obtain ⟨s, hs, hlt⟩ := u8_of (v := .int .u8 set_) ⟨set_, rfl, ws⟩
  cases hs
  exact puts_walk ps ring h s hlt q pick
end Go.Proofs.YtjgemfgneiaabaaGreat.Pc
