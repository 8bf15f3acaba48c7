/-
  The reference's places: Put into a ring. No statement is proved here.
-/
import Derived.Test.YtjgemfgneiaabaaGreatMg26
import Derived.Test.YtjgemfgneiaabaaGreatMg25
import Derived.Test.YtjgemfgneiaabaaGreatMg19
import Derived.Test.YtjgemfgneiaabaaGreatPm8
namespace Go.Proofs.YtjgemfgneiaabaaGreat.Pc
open Go.RowKit Rq Gq Nu
set_option linter.unusedVariables false
set_option linter.unusedSimpArgs false

section
variable {w0 w : World} {F : Hp} {D : Ar} {p : Nat → Pl} {gx : List Int} {vG : Value} {vR : Nat → Value}
set_option maxRecDepth 100000 in
set_option maxHeartbeats 4000000 in
theorem pr_put_ring (h : Sat w0 (prO D vG vR p gx * F) w) (ho : D.Ok) (g : Int) {s : Nat} (hs : s < 256) (by_ pick : Int) (hc : (inP D.n by_ && hasB s by_) = false) (k : Nat) (hk : k < D.n) (hx : (p k).xs.length ≤ D.m) (hne : thereM s D.n ≠ []) (hki : nthI (s &&& maskN D.n) pick = k) (hl : gx.length ≤ 999000) :
    Calls Tryz.prog 23 #[vp D.s, vi g, .int .u8 s, vi by_, vi pick] w fun e w' => e = .returned (.tuple #[]) ∧ ∃ vG', Sat w0 (prO D vG' vR (up p k (putY D.m (p k) g)) (gx ++ spillL D.m (p k).xs g) * F) w' := by
  have HI := Lib.hid (pr_is h by_)
  have hh := fun w => ref_has1 s hs by_ w
  obtain ⟨hL0, hiL, hat⟩ := thL_at hs ho.n8 pick hne hki
  have hL8 : (thL s D.n).length ≤ 8 := Nat.le_trans (thL_len s D.n) ho.n8
  have hng := fun h => atR_neg (m := (thL s D.n).length) hL0 (pick := pick) h
  have hps := fun h => atR_pos (m := (thL s D.n).length) hL0 (pick := pick) h
  obtain ⟨_, _, e3, e4⟩ := atR_lt hL0 pick
  have HT : Hid (Calls Tryz.prog 13 #[vp D.s, .int .u8 s] w fun e w' => ∃ b cap, e = .returned (.slice (some ⟨b, 0, none⟩) (thL s D.n).length cap) ∧ (thL s D.n).length ≤ cap ∧ w'.cell? ⟨b, atR (thL s D.n).length pick, none⟩ = some (vi k) ∧ Fx D k w' ∧ Calls Tryz.prog 75 #[vp (D.q k), vi g] w'.drew fun e w' => ∃ v, e = .returned v ∧ Fx D k w' ∧ w'.cell? ⟨b, atR (thL s D.n).length pick, none⟩ = some (vi k) ∧ Calls Tryz.prog 25 #[vp D.a, v] w' fun e w'' => e = .returned (.tuple #[]) ∧ Fx D k w'' ∧ w''.cell? ⟨b, atR (thL s D.n).length pick, none⟩ = some (vi k) ∧ ∃ vG', Sat w0 (prO D vG' vR (up p k (putY D.m (p k) g)) (gx ++ spillL D.m (p k).xs g) * F) w'') := Lib.hid (by
    refine (pr_there h ho hs).mono ?_
    rintro e w' ⟨v, rfl, hS⟩
    obtain ⟨b, cap, rfl, hcap⟩ := slPos hS (by omega)
    refine ⟨b, cap, rfl, hcap, hS.slCell _ (by rw [List.getElem?_map, hat]; rfl), pr_fx hS.dropL hk, ?_⟩
    refine (pr_put3 (fun w2 => w2.cell? ⟨b, atR (thL s D.n).length pick, none⟩ = some (vi k)) (fun w2 h2 => h2.slCell _ (by rw [List.getElem?_map, hat]; rfl)) (y := putY D.m (p k) g) (g := g) (pr_out hS.pull2 hk).drew ho hk hx hl rfl rfl rfl rfl rfl rfl rfl).mono ?_
    rintro e w2 ⟨v, he, h1, c1, h2⟩
    refine ⟨v, he, h1, c1, h2.mono ?_⟩
    rintro e w3 ⟨he, h3, c3, vG', h4⟩
    exact ⟨he, h3, c3, vG', h4.drop2⟩)
  have hkn : (k : Int) < (D.n : Int) := by omega
  obtain ⟨L, hL⟩ : ∃ L, (thL s D.n).length = L := ⟨_, rfl⟩
  rw [hL] at HT hL0 hiL hL8 hng hps e3 e4
  clear h hat hki hne hx hl hk hL
  obtain ⟨i, hi⟩ : ∃ i, atR L pick = i := ⟨_, rfl⟩
  rw [hi] at HT hiL hng hps
  clear hi
  obtain ⟨t, ht⟩ : ∃ t, pick.tmod (L : Int) = t := ⟨_, rfl⟩
  rw [ht] at hng hps e3 e4
  have hLz : ((L : Int) == 0) = false := by
    rw [beq_eq_false_iff_ne]
    omega
  have hLz2 : ¬ (L : Int) = 0 := by omega
  have hw1 : IntKind.i64.wrap t = t := IntWalk.i64_in _ (by omega)
  have hw2 : IntKind.i64.wrap (t + L) = t + L := IntWalk.i64_in _ (by omega)
  have hiL2 : (i : Int) < (L : Int) := by omega
  have hi0 : (0 : Int) ≤ (i : Int) := by omega
  cases hi : inP D.n by_
  all_goals
    rw [hi] at HI hc
    first
      | (rw [Bool.true_and] at hc; rw [hc] at hh)
      | skip
    have HH := Lib.hid hh
    clear hh hc hi
    by_cases hneg : t < 0
  all_goals
    first
      | (have hti := hng hneg; rw [hti] at hw2)
      | (have hti := hps hneg; subst hti)
    clear hng hps e3 e4 hs
    go_enter Tryz.func23, Tryz.ntmps23
    go_wp2_with (first
      | (go_at_call 73; refine HI.out.mono ?_; rintro e w' ⟨rfl, rfl⟩)
      | (go_at_call 59; refine (HH.out _).mono ?_; rintro e w' ⟨rfl, rfl⟩)
      | (go_at_call 13; refine HT.out.mono ?_; rintro e w1 ⟨b, cap, rfl, hcap, cl, ⟨a1, a2, a3⟩, hB⟩; have HP := Lib.hid hB; clear hB))
    go_region_held3 (fun w' => w'.cell? ⟨D.s, 0, none⟩ = some (.slice (some ⟨D.sb, 0, none⟩) D.n D.cap) ∧ w'.cell? ⟨D.s, 1, none⟩ = some (vp D.a) ∧ w'.cell? ⟨D.sb, k * 4, none⟩ = some (vp (D.q k)) ∧ w'.cell? ⟨b, i, none⟩ = some (vi k)) (first | (with_reducible exact ⟨g2.1, g2.2.1, g2.2.2, t2⟩) | (with_reducible exact ⟨g1.1, g1.2.1, g1.2.2, t1⟩) | exact ⟨a1, a2, a3, cl⟩)
      (first
        | (go_at_call 75; refine HP.out.mono ?_; rintro e w1 ⟨v, rfl, g1, t1, hB⟩; have HB := Lib.hid hB; clear hB)
        | (go_at_call 25; refine HB.out.mono ?_; rintro e w2 ⟨rfl, g2, t2, vG', hS2⟩; have H2 := Lib.hid hS2; clear hS2))
    all_goals go_end0
    all_goals exact ⟨rfl, _, H2.out⟩
end
end Go.Proofs.YtjgemfgneiaabaaGreat.Pc

namespace Go.Proofs.YtjgemfgneiaabaaGreat.Pc
open Go.RowKit Rq Gq
set_option linter.unusedVariables false
set_option linter.unusedSimpArgs false

section
variable {w0 w : World} {F : Hp} {D : Ar} {p : Nat → Pl} {gx : List Int} {vG : Value} {vR : Nat → Value}
set_option maxRecDepth 100000 in
set_option maxHeartbeats 4000000 in
theorem pr_remove (h : Sat w0 (prO D vG vR p gx * F) w) (ho : D.Ok) (hx : ∀ k, k < D.n → (p k).xs.length ≤ D.m) (g : Int) (hl : gx.length ≤ 4096) :
    Calls Tryz.prog 27 #[vp D.s, vi g] w fun e w' => ∃ vG', e = .returned (.bool (rmH p D.n gx g)) ∧ Sat w0 (prO D vG' vR (rmP p D.n g) (rmG p D.n gx g) * F) w' := by
  have H := Lib.hid h
  have HX := Lib.hid hx
  have hn8 := ho.n8
  have hm32 := ho.m32
  clear h hx
  go_enter Tryz.func27, Tryz.ntmps27
  go_wp2
  go_loopw [5] (fun i wr => ∃ j : Nat, j ≤ D.n ∧ i = vi j ∧ Hid (∀ j', j' < j → hasY (p j') g = false) ∧ Sat w0 (prO D vG vR p gx * F) wr) (fun i _ => D.n - (intOf i).toNat)
  case atStart => exact ⟨0, Nat.zero_le _, rfl, Lib.hid (fun j h => by omega), H.out⟩
  case round =>
    clear H
    obtain ⟨j, hj, rfl, hno, hS⟩ := hrel
    have c1 := (pr_cells hS).1
    unfold Ar.v at c1
    by_cases hlt : j < D.n
    · have r0 := (pr_row hS hlt).1
      have hji : (j : Int) < (D.n : Int) := by omega
      have hq := r_remove' (pr_out hS hlt) (by have := HX.out j hlt; omega) g
      obtain ⟨t, ht⟩ : ∃ t, hasY (p j) g = t := ⟨_, rfl⟩
      rw [show hasQ (p j).xs (p j).z (p j).b g = t from ht] at hq
      have HQ := Lib.hid (hq.mono fun e w' hh => (⟨hh.1, pr_in (y := rmY (p j) g) hh.2 hlt rfl rfl rfl rfl⟩ : e = .returned (.bool t) ∧ Sat w0 (prO D vG vR (up p j (rmY (p j) g)) gx * F) w'))
      have HT := Lib.hid ht
      have HL := Lib.hid hlt
      clear hS hq ht hlt
      cases t with
      | true =>
        go_wp2_with (go_at_call 83; refine HQ.out.mono ?_; rintro e w1 ⟨rfl, hS1⟩; have H1 := Lib.hid hS1; clear hS1)
        go_ret
        have hk : rmK p D.n g = some j := find_range HL.out HT.out hno.out
        refine ⟨vG, by simp only [rmH, hk]; rfl, ?_⟩
        simp only [rmP, rmG, hk]
        exact H1.out
      | false =>
        go_wp2_with (go_at_call 83; refine HQ.out.mono ?_; rintro e w1 ⟨rfl, hS1⟩; have H1 := Lib.hid hS1; clear hS1)
        go_roundw
        case rel =>
          refine ⟨j + 1, by omega, by go_num, Lib.hid (fun j' h => ?_), ?_⟩
          · by_cases hjj : j' = j
            · rw [hjj]
              exact HT.out
            · exact hno.out j' (by omega)
          · have h9 := H1.out
            rw [rmY_no HT.out, up_self] at h9
            exact h9
        case measure => simp [intOf]; omega
    · obtain rfl : j = D.n := by omega
      have hk : rmK p D.n g = none := find_none hno.out
      have e1 : rmH p D.n gx g = decide (g ∈ gx) := by unfold rmH; rw [hk]
      have e2 : rmP p D.n g = p := by unfold rmP; rw [hk]
      have e3 : rmG p D.n gx g = gx.erase g := by unfold rmG; rw [hk]
      obtain ⟨t, ht⟩ : ∃ t, decide (g ∈ gx) = t := ⟨_, rfl⟩
      rw [ht] at e1
      have E1 := Lib.hid e1
      have E2 := Lib.hid e2
      have E3 := Lib.hid e3
      have c2 := (pr_cells hS).2
      have hg := rg_remove (pr_glob hS) hl g
      rw [ht] at hg
      have HG := Lib.hid hg
      clear hS hno hk e1 e2 e3 ht hg
      go_wp2_with (go_at_call 84; refine HG.out.mono ?_; rintro e w1 ⟨vL', rfl, hS1⟩; have H1 := Lib.hid (pr_globI hS1); clear hS1)
      go_ret
      rw [E1.out, E2.out, E3.out]
      exact ⟨_, by first | rfl | simp, H1.out⟩
end
end Go.Proofs.YtjgemfgneiaabaaGreat.Pc

namespace Go.Proofs.YtjgemfgneiaabaaGreat.Pc
open Go.RowKit Rq Gq
set_option linter.unusedVariables false
set_option linter.unusedSimpArgs false

theorem rdI_cell {w : World} {g off n cap i : Nat} {xs : List Int} {y : Int} (h : RdI w (.slice (some ⟨g, off, none⟩) n cap) xs) (hi : xs[i]? = some y) : w.cell? ⟨g, off + i, none⟩ = some (vi y) := by
  obtain ⟨b', o', he, hcs⟩ := h.at_ (by rintro h0; rw [List.length_eq_zero_iff.1 h0] at hi; cases hi)
  cases he
  have hl := (List.getElem?_eq_some_iff.1 hi).1
  have := hcs i hl
  rwa [hi] at this
section
variable {w0 w : World} {F : Hp} {D : Ar} {p : Nat → Pl} {gx : List Int} {vG : Value} {vR : Nat → Value}
set_option maxRecDepth 100000 in
theorem pr_steal_no (h : Sat w0 (prO D vG vR p gx * F) w) (k v : Int) (hk : (inP D.n k && inP D.n v && !(k == v)) = false) (ao : Option Addr) (n cap : Nat) : Calls Tryz.prog 17 #[vp D.s, vi k, vi v, .slice ao n cap] w fun e w' => e = .returned (.slice none 0 0) ∧ w = w' := by
  have HI := Lib.hid (pr_is h k)
  have HJ := Lib.hid (pr_is h v)
  clear h
  cases h1 : inP D.n k with
  | false =>
    rw [h1] at HI
    clear h1 hk HJ
    go_enter Tryz.func17, Tryz.ntmps17
    go_wp2_with (go_at_call 73; refine HI.out.mono ?_; rintro e w' ⟨rfl, rfl⟩)
    go_ret
    exact ⟨rfl, rfl⟩
  | true =>
    rw [h1] at HI hk
    cases h2 : inP D.n v with
    | false =>
      rw [h2] at HJ
      clear h1 h2 hk
      go_enter Tryz.func17, Tryz.ntmps17
      go_wp2_with (first | (go_at_call 73; refine HI.out.mono ?_; rintro e w' ⟨rfl, rfl⟩; clear HI) | (go_at_call 73; refine HJ.out.mono ?_; rintro e w' ⟨rfl, rfl⟩))
      go_ret
      exact ⟨rfl, rfl⟩
    | true =>
      rw [h2] at HJ hk
      obtain rfl : k = v := by simpa using hk
      clear h1 h2 hk HJ
      go_enter Tryz.func17, Tryz.ntmps17
      go_wp2_with (go_at_call 73; refine HI.out.mono ?_; rintro e w' ⟨rfl, rfl⟩)
      go_ret
      exact ⟨rfl, rfl⟩
set_option maxRecDepth 100000 in
set_option maxHeartbeats 4000000 in
theorem pr_steal_at (h : Sat w0 (prO D vG vR p gx * F) w) (ho : D.Ok) (hx : ∀ i, i < D.n → (p i).xs.length ≤ D.m) (k v : Nat) (hk : k < D.n) (hv : v < D.n) (hkv : k ≠ v) (hl : gx.length ≤ 990000) {u : Value} {af : List Nat} (hA : ∀ w', Sat w0 F w' → RdA w' u af) :
    Calls Tryz.prog 17 #[vp D.s, vi k, vi v, u] w fun e w' => ∃ u vG', e = .returned u ∧ RdI w' u ((thiefG (mayG af k) (p v)).take 1) ∧ Sat w0 (prO D vG' vR (up (up p v (thiefY (mayG af k) (p v))) k (puts D.m (p k) gx (thiefG (mayG af k) (p v)).tail).1) (puts D.m (p k) gx (thiefG (mayG af k) (p v)).tail).2 * F) w' := by
  have HI := Lib.hid (pr_is h (k : Int))
  have HJ := Lib.hid (pr_is h (v : Int))
  rw [inP_nat hk] at HI
  rw [inP_nat hv] at HJ
  have hki : ((k : Int) == (v : Int)) = false := by
    rw [beq_eq_false_iff_ne]
    omega
  have c1 := (pr_cells h).1
  have r0 := (pr_row h hv).1
  have hvi : (v : Int) < (D.n : Int) := by omega
  have hki2 : (k : Int) < (D.n : Int) := by omega
  have hm32 := ho.m32
  unfold Ar.v at c1
  have hlen : (thiefG (mayG af k) (p v)).length ≤ 33 := by
    have := thiefO_len (xs := (p v).xs) (z := (p v).z) (b := (p v).b) (mayG af k)
    have h1 := hx v hv
    unfold thiefG
    omega
  have hxk := hx k hk
  have hq := r_steal3 (pr_out h hv) (by have := hx v hv; omega) (k : Int) (fun w' h' => hA w' h'.dropL)
  obtain ⟨ao, cap, rfl⟩ := (hA w h.dropL).1.len
  have HQ := Lib.hid (hq.mono fun (e : Ending) w' ⟨u, he, hS⟩ => (⟨u, he, pr_in (y := thiefY (mayG af k) (p v)) (F := rs 3 u ((thiefG (mayG af k) (p v)).map vi) * F) (hS.cast (show rs 3 u ((thiefG (mayG af k) (p v)).map vi) * (refQ (D.q v) D.m (thiefL (mayG af k) (p v).xs) (p v).z (thiefB (mayG af k) (p v).xs (p v).z (p v).b) * (prX D vG vR p gx v * F)) = refQ (D.q v) D.m (thiefL (mayG af k) (p v).xs) (p v).z (thiefB (mayG af k) (p v).xs (p v).z (p v).b) * (prX D vG vR p gx v * (rs 3 u ((thiefG (mayG af k) (p v)).map vi) * F)) by ac_rfl)) hv rfl rfl rfl rfl⟩ : ∃ u, e = Ending.returned u ∧ Sat w0 (prO D vG vR (up p v (thiefY (mayG af k) (p v))) gx * (rs 3 u ((thiefG (mayG af k) (p v)).map vi) * F)) w'))
  have HPK : Hid ((up p v (thiefY (mayG af k) (p v))) k = p k) := Lib.hid (up_ne _ _ hkv)
  have hxk : ((up p v (thiefY (mayG af k) (p v))) k).xs.length ≤ D.m := by rw [up_ne _ _ hkv]; exact hxk
  generalize up p v (thiefY (mayG af k) (p v)) = p1 at *
  generalize hO : thiefG (mayG af k) (p v) = O at *
  have HK := Lib.hid hk
  rw [← HPK.out]
  clear h hq hA hO hk hv hkv hx
  cases O with
  | nil =>
    go_enter Tryz.func17, Tryz.ntmps17
    go_wp2_with (first
      | (go_at_call 73; refine HI.out.mono ?_; rintro e w' ⟨rfl, rfl⟩; clear HI)
      | (go_at_call 73; refine HJ.out.mono ?_; rintro e w' ⟨rfl, rfl⟩)
      | (go_at_call 74; refine HQ.out.mono ?_; rintro e w1 ⟨u, rfl, hS⟩; obtain ⟨a1, c2, rfl⟩ : ∃ a1 c2, u = .slice a1 0 c2 := (rsRdI hS.pull2).len; have H1 := Lib.hid hS; clear hS))
    go_loopw [10] (fun i wr => i = vi 1 ∧ wr = w1) (fun i _ => 0)
    case atStart => exact ⟨rfl, rfl⟩
    case round =>
      obtain ⟨rfl, rfl⟩ := hrel
      go_wp2
      go_ret
      refine ⟨_, vG, rfl, Rd.nil _ _, ?_⟩
      have h9 := H1.out.drop2
      rw [show (puts D.m (p1 k) gx ([] : List Int).tail).1 = p1 k from rfl, up_self]
      exact h9
  | cons o O =>
    have hl1 : O.length ≤ 32 := by simp at hlen; omega
    go_enter Tryz.func17, Tryz.ntmps17
    go_wp2_with (first
      | (go_at_call 73; refine HI.out.mono ?_; rintro e w' ⟨rfl, rfl⟩; clear HI)
      | (go_at_call 73; refine HJ.out.mono ?_; rintro e w' ⟨rfl, rfl⟩)
      | (go_at_call 74; refine HQ.out.mono ?_; rintro e w1 ⟨u, rfl, hS⟩; obtain ⟨g1, of1, ca, hu, hca⟩ := rsForm hS.pull2; rw [List.length_map] at hu hca; subst hu; have H1 := Lib.hid hS; clear hS))
    go_loopw [10] (fun i wr => ∃ (j : Nat) (y : Pl) (gy : List Int) (vH : Value), j ≤ O.length ∧ i = vi ((j : Int) + 1) ∧ Hid (puts D.m y gy (O.drop j) = puts D.m (p1 k) gx O) ∧ y.xs.length ≤ D.m ∧ gy.length ≤ gx.length + j * 100 ∧ Sat w0 (prO D vH vR (up p1 k y) gy * (rs 3 (.slice (some ⟨g1, of1, none⟩) (O.length + 1) ca) ((o :: O).map vi) * F)) wr) (fun i _ => O.length + 1 - (intOf i).toNat)
    case atStart => exact ⟨0, p1 k, gx, vG, Nat.zero_le _, rfl, Lib.hid rfl, hxk, by omega, H1.out.cast (by rw [up_self])⟩
    case round =>
      clear H1 c1 r0
      obtain ⟨j, y, gy, vH, hj, rfl, hp, hyx, hgl, hS⟩ := hrel
      by_cases hlt : j < O.length
      · obtain ⟨a1, a2, a3⟩ := pr_fx hS HK.out
        have hji : (j : Int) + 1 < (O.length : Int) + 1 := by omega
        have hji2 : ((j : Int) + 1).toNat = j + 1 := by omega
        have hji3 : (0 : Int) ≤ (j : Int) + 1 := by omega
        obtain ⟨b', o', he, hcs⟩ := (show RdI wr (.slice (some ⟨g1, of1, none⟩) (O.length + 1) ca) (o :: O) from rsRdI hS.pull2).at_ (by simp)
        cases he
        have sj : wr.cell? ⟨g1, of1 + (j + 1), none⟩ = some (vi (O[j]?.getD 0)) := by
          have := hcs (j + 1) (by simp; omega)
          simpa [hlt] using this
        have hd : O.drop j = (O[j]?.getD 0) :: O.drop (j + 1) := by
          rw [List.drop_eq_getElem_cons hlt]
          simp [hlt]
        rw [hd] at hp
        have hg : (o :: O)[j + 1]? = some (O[j]?.getD 0) := by simp [hlt]
        generalize O[j]?.getD 0 = g at *
        have hp2 := pr_put3 (fun w' => w'.cell? ⟨g1, of1 + (j + 1), none⟩ = some (vi g)) (fun w' h' => rdI_cell (show RdI w' (.slice (some ⟨g1, of1, none⟩) (O.length + 1) ca) (o :: O) from rsRdI h') hg) (y := putY D.m y g) (g := g) (pr_out hS.drew HK.out) ho HK.out (by rw [up_at]; exact hyx) (by omega) (by rw [up_at]; rfl) (by rw [up_at]; rfl) (by rw [up_at]; rfl) (by rw [up_at]; rfl) (by rw [up_at]; rfl) (by rw [up_at]; rfl) (by rw [up_at]; rfl)
        rw [up_at, up_up] at hp2
        have HQ2 := Lib.hid hp2
        have hsl := spill_len (m := D.m) (xs := y.xs) g
        have hpl : (putL D.m y.xs g).length ≤ D.m := by
          have h2 := ho.m2
          unfold putL
          split
          · rw [List.length_append, List.length_singleton]; omega
          · rw [List.length_drop]; omega
        clear hS hd hlt hcs hp2
        go_wp2
        go_region_held3 (fun w' => w'.cell? ⟨D.s, 0, none⟩ = some (.slice (some ⟨D.sb, 0, none⟩) D.n D.cap) ∧ w'.cell? ⟨D.s, 1, none⟩ = some (vp D.a) ∧ w'.cell? ⟨D.sb, k * 4, none⟩ = some (vp (D.q k)) ∧ w'.cell? ⟨g1, of1 + (j + 1), none⟩ = some (vi g)) (first | (with_reducible exact ⟨g2.1, g2.2.1, g2.2.2, t2⟩) | (with_reducible exact ⟨e1.1, e1.2.1, e1.2.2, t1⟩) | exact ⟨a1, a2, a3, sj⟩)
          (first
            | (go_at_call 75; refine HQ2.out.mono ?_; rintro e w1 ⟨v, rfl, e1, t1, hB⟩; have HB := Lib.hid hB; clear hB)
            | (go_at_call 25; refine HB.out.mono ?_; rintro e w2 ⟨rfl, g2, t2, vG', hS2⟩; have H2 := Lib.hid hS2; clear hS2))
        all_goals go_wp2
        all_goals go_roundw
        all_goals first
          | exact ⟨j + 1, putY D.m y g, gy ++ spillL D.m y.xs g, _, by omega, by go_num, hp, hpl, by rw [List.length_append]; omega, H2.out⟩
          | (simp [intOf]; omega)
      · obtain rfl : j = O.length := by omega
        have hp2 := hp.out
        rw [List.drop_length] at hp2
        have HP2 := Lib.hid (show (y, gy) = puts D.m (p1 k) gx O from hp2)
        have H9 := Lib.hid hS
        have hR : RdI wr (.slice (some ⟨g1, of1, none⟩) (O.length + 1) ca) (o :: O) := rsRdI hS.pull2
        have HR := Lib.hid (hR.pre (k := 1) (by simp) (by simp))
        have hca1 : (1 : Int) ≤ (ca : Int) := by omega
        have hca2 : 1 ≤ ca := by omega
        clear hS hp hp2 hR
        go_wp2
        go_ret
        refine ⟨_, vH, rfl, HR.out, ?_⟩
        rw [show (o :: O).tail = O from rfl, ← HP2.out]
        exact H9.out.drop2
end
end Go.Proofs.YtjgemfgneiaabaaGreat.Pc
