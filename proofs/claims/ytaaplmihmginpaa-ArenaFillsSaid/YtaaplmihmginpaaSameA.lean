/-
  The walk of helmsmanlaw02.same: a table and the reference's table that are alike look the same. No statement is proved here.
-/
import Derived.Test.YtaaplmihmginpaaLenA
namespace Go.Proofs.Ytaaplmihmginpaa.Ar
open Go.RowKit
set_option linter.unusedVariables false

def cTh (ps : List Pl) (k : Nat) : Nat := (ps.take k).countP Pl.there
def cRe (ps : List Pl) (k : Nat) : Nat := (ps.take k).countP Pl.retired
theorem countP_take_succ {α : Type} (q : α → Bool) {l : List α} {k : Nat} {a : α} (h : l[k]? = some a) : (l.take (k + 1)).countP q = (l.take k).countP q + if q a then 1 else 0 := by
  rw [List.take_add_one, h, List.countP_append]
  simp [List.countP_cons]
theorem cTh_succ {ps : List Pl} {k : Nat} {a : Pl} (h : ps[k]? = some a) : cTh ps (k + 1) = cTh ps k + if a.there then 1 else 0 := countP_take_succ Pl.there h
theorem cRe_succ {ps : List Pl} {k : Nat} {a : Pl} (h : ps[k]? = some a) : cRe ps (k + 1) = cRe ps k + if a.retired then 1 else 0 := countP_take_succ Pl.retired h
theorem seen_length (ps : List Pl) : ∀ k, k ≤ ps.length → (seen ps k).length = cTh ps k := by
  intro k
  induction k with
  | zero => intro _; rfl
  | succ k ih =>
    intro hk
    obtain ⟨a, ha⟩ : ∃ a, ps[k]? = some a := ⟨ps[k], List.getElem?_eq_getElem (by omega)⟩
    rw [cTh, countP_take_succ _ ha]
    cases h : a.there with
    | true =>
      rw [seen_yes ha h, List.length_append, ih (by omega)]
      rfl
    | false =>
      rw [seen_no ha h, ih (by omega)]
      rfl
theorem cRe_le (ps : List Pl) (k : Nat) : cRe ps k ≤ k := Nat.le_trans List.countP_le_length (by simp; omega)
theorem cTh_le (ps : List Pl) (k : Nat) : cTh ps k ≤ k := Nat.le_trans List.countP_le_length (by simp; omega)
theorem cTh_all (ps : List Pl) {k : Nat} (h : ps.length ≤ k) : cTh ps k = ps.countP Pl.there := by rw [cTh, List.take_of_length_le h]
theorem cRe_all (ps : List Pl) {k : Nat} (h : ps.length ≤ k) : cRe ps k = ps.countP Pl.retired := by rw [cRe, List.take_of_length_le h]
theorem atV_no {ps : List Pl} {m : Int} (h : ∀ k : Nat, m = k → ∀ a, ps[k]? = some a → a.there = false) : atV ps m = .tuple #[vr 0 0, .bool false] := by
  have : atP ps m = none := by
    unfold atP
    split
    · rfl
    · split
      · rfl
      · rename_i h0 _ a ha
        rw [if_neg]
        rw [h m.toNat (by omega) a ha]
        simp
  simp only [atV, this]
theorem atV_yes {ps : List Pl} {k : Nat} {a : Pl} (h : ps[k]? = some a) (ht : a.there = true) : atV ps k = .tuple #[vr k a.gen, .bool true] := by
  have : atP ps k = some (k, a) := by
    unfold atP
    rw [if_neg (by omega), Int.toNat_natCast, h]
    simp [ht]
  simp only [atV, this]
theorem isAt_yes {ps : List Pl} {k : Nat} {a : Pl} (h : ps[k]? = some a) (ht : a.there = true) : isAt ps k a.gen = some (k, a) := by
  unfold isAt
  rw [if_neg (by omega), Int.toNat_natCast, h]
  simp [ht]
theorem busy_count (ps : List Pl) (h : ∀ (k : Nat) (a : Pl), ps[k]? = some a → a.there = true → a.retired = false) : ps.countP Pl.busy = ps.countP Pl.there + ps.countP Pl.retired := by
  induction ps with
  | nil => rfl
  | cons a ps ih =>
    have h1 := ih (fun k b hb => h (k + 1) b hb)
    have h0 := h 0 a rfl
    rw [List.countP_cons, List.countP_cons, List.countP_cons, h1]
    unfold Pl.busy
    cases ht : a.there <;> cases hr : a.retired <;> simp_all <;> omega

section
variable {w0 w : World} {p q : Nat} {ps : List Pl} {free : List Nat} {rs : List RP} {times : Int} {F : Hp}
/-- What is read of the reference's places. -/
theorem rcells {b cap k : Nat} {r : RP} (h : Sat w0 (refB q (.slice (some ⟨b, 0, none⟩) rs.length cap) times * (refL (.slice (some ⟨b, 0, none⟩) rs.length cap) rs * F)) w) (hr : rs[k]? = some r) :
    w.cell? ⟨q, 0, none⟩ = some (.slice (some ⟨b, 0, none⟩) rs.length cap) ∧ w.cell? ⟨b, k * 5, none⟩ = some (vu r.gen) ∧ w.cell? ⟨b, k * 5 + 1, none⟩ = some (.bool r.there) ∧ w.cell? ⟨b, k * 5 + 2, none⟩ = some (.bool r.retired) ∧ w.cell? ⟨b, k * 5 + 3, none⟩ = some (vi r.x) := by
  have h0 := h.pull2.slCell (k * 5 + 0) (flat_get (j := 0) RP.len hr rfl)
  rw [Nat.add_zero] at h0
  exact ⟨h.cell 0 rfl, h0, h.pull2.slCell _ (flat_get (j := 1) RP.len hr rfl), h.pull2.slCell _ (flat_get (j := 2) RP.len hr rfl), h.pull2.slCell _ (flat_get (j := 3) RP.len hr rfl)⟩

set_option maxRecDepth 100000 in
set_option maxHeartbeats 4000000 in
theorem sameA (h : Sat w0 (tblP p ps free * (refP q rs times * F)) w) (hR : Rel ps free rs times) :
    Calls Try.prog 43 #[vp p, vp q] w fun e w' => e = .returned (.bool true) ∧ Sat w0 (tblP p ps free * (refP q rs times * F)) w' := by
  have hok := tblOk_of h
  have hpos := hok.pos
  have hsm := hok.small
  have hfs := hok.fsmall
  have hlen := hR.len
  have hex := Lib.hid hok.excl
  have hcnt := Lib.hid (show cTh ps ps.length + free.length + cRe ps ps.length = ps.length by
    have := hok.cnt
    rw [busy_count ps hok.excl] at this
    rw [cTh_all ps (Nat.le_refl _), cRe_all ps (Nat.le_refl _)]
    omega)
  have hfl := Lib.hid (rfree_len hok hR)
  obtain ⟨v, hv⟩ := ropen h.pull2
  obtain ⟨b, cap, rfl, _⟩ := rat hv (by omega)
  have hv2 : Sat w0 (tblP p ps free * (refB q (.slice (some ⟨b, 0, none⟩) rs.length cap) times * (refL (.slice (some ⟨b, 0, none⟩) rs.length cap) rs * F))) w := hv.cast (by ac_rfl)
  have H := Lib.hid hv2
  have HR := Lib.hid hR
  rw [hlen] at hpos hsm hcnt
  have HL := Lib.hid hlen
  have HOK := Lib.hid hok
  clear h hv hv2 hR hlen hok
  go_enter Try.func43, Try.ntmps43
  go_wp2
  go_loopw [5, 6, 7] (fun th re i wr => ∃ m : Int, -1 ≤ m ∧ m ≤ rs.length + 1 ∧ i = vi m ∧ th = vi (cTh ps m.toNat) ∧ re = vi (cRe ps m.toNat) ∧ Sat w0 (tblP p ps free * (refB q (.slice (some ⟨b, 0, none⟩) rs.length cap) times * (refL (.slice (some ⟨b, 0, none⟩) rs.length cap) rs * F))) wr) (fun _ _ i _ => (rs.length + 1 - intOf i).toNat)
  case atStart => exact ⟨-1, by omega, by omega, rfl, rfl, rfl, H.out⟩
  case round =>
    obtain ⟨m, hm1, hm2, rfl, rfl, rfl, hS⟩ := hrel
    have c0 := hS.pull2.cell 0 rfl
    by_cases hneg : m < 0
    · obtain rfl : m = -1 := by omega
      have hat := atV_no (ps := ps) (m := -1) (fun k hk => by omega)
      have HA := at_ hS (-1)
      rw [hat] at HA
      have HA2 := Lib.hid HA
      have hl0 : (-1 : Int) ≤ (rs.length : Int) := by omega
      have HS := Lib.hid hS
      clear hat HA hS
      go_wp2_with (go_at_call 34; refine HA2.out.mono ?_; rintro e w1 ⟨rfl, hS1⟩; have H1 := Lib.hid hS1; clear hS1)
      go_roundw
      case rel => exact ⟨0, by omega, by omega, rfl, rfl, rfl, H1.out.alloc' _⟩
      case measure => (simp [intOf]; try omega)
    · obtain ⟨k, rfl⟩ := Int.eq_ofNat_of_zero_le (show 0 ≤ m by omega)
      simp only [Int.toNat_natCast]
      have hT := cTh_le ps k
      have hRe := cRe_le ps k
      by_cases hk : rs.length < k
      · obtain rfl : k = rs.length + 1 := by omega
        have e1 : cTh ps (rs.length + 1) = cTh ps rs.length := by rw [cTh_all ps (by have := HL.out; omega), cTh_all ps (by have := HL.out; omega)]
        have e2 : cRe ps (rs.length + 1) = cRe ps rs.length := by rw [cRe_all ps (by have := HL.out; omega), cRe_all ps (by have := HL.out; omega)]
        rw [e1] at hT ⊢
        rw [e2] at hRe ⊢
        have hsl := Lib.hid (seen_length ps ps.length (Nat.le_refl _))
        have hre := Lib.hid (cRe_all ps (k := rs.length) (by have := HL.out; omega))
        have HLn2 : Hid (∀ w', Sat w0 (tblP p ps free * (refB q (.slice (some ⟨b, 0, none⟩) rs.length cap) times * (refL (.slice (some ⟨b, 0, none⟩) rs.length cap) rs * F))) w' → Calls Try.prog 36 #[vp p] w' fun e w2 => e = .returned (vi (cTh ps rs.length)) ∧ Sat w0 (tblP p ps free * (refB q (.slice (some ⟨b, 0, none⟩) rs.length cap) times * (refL (.slice (some ⟨b, 0, none⟩) rs.length cap) rs * F))) w2) := Lib.hid fun w' h' => by
          have := len_ h'
          rw [hsl.out, HL.out] at this
          exact this
        have HS := Lib.hid hS
        have hl1 : ¬ ((rs.length : Int) + 1 ≤ (rs.length : Int)) := by omega
        have HSz : Hid (∀ w' F', Sat w0 (tblP p ps free * F') w' → Calls Try.prog 46 #[vp p] w' fun e w2 => e = .returned (vi rs.length) ∧ w' = w2) := Lib.hid fun w' F' h' => by
          obtain ⟨s, hs⟩ := open_ h'
          have := size_ hs
          rw [HL.out] at this
          exact this
        have HFr : Hid (∀ w' F', Sat w0 (tblP p ps free * F') w' → Calls Try.prog 37 #[vp p] w' fun e w2 => e = .returned (vi free.length) ∧ w' = w2) := Lib.hid fun w' F' h' => by
          obtain ⟨s, hs⟩ := open_ h'
          exact frees hs
        have HRt : Hid (∀ w' F', Sat w0 (tblP p ps free * F') w' → Calls Try.prog 35 #[vp p] w' fun e w2 => e = .returned (vi (cRe ps rs.length)) ∧ Sat w0 (tblP p ps free * F') w2) := Lib.hid fun w' F' h' => by
          have := retired_ h'
          rw [← hre.out] at this
          exact this
        clear hS e1 e2
        have hsum1 : IntKind.i64.wrap ((cTh ps rs.length : Int) + free.length) = (cTh ps rs.length : Int) + free.length := IntWalk.i64_in _ (by omega)
        have hsum2 : IntKind.i64.wrap ((cTh ps rs.length : Int) + free.length + cRe ps rs.length) = (cTh ps rs.length : Int) + free.length + cRe ps rs.length := IntWalk.i64_in _ (by omega)
        have hbeq : (((cTh ps rs.length : Int) + free.length + cRe ps rs.length) == (rs.length : Int)) = true := by have := hcnt.out; rw [beq_iff_eq]; omega
        go_wp2
        go_region_held3 (fun w' => w'.cell? ⟨q, 0, none⟩ = some (.slice (some ⟨b, 0, none⟩) rs.length cap))
          (first | exact d0 | exact d1 | exact d2 | go_keep)
          (first
            | (go_at_call 36; refine (HLn2.out _ (HS.out.drewN 1)).mono ?_; rintro e w1 ⟨rfl, hS1⟩; have d0 := hS1.pull2.cell 0 rfl; have H1 := Lib.hid hS1; clear hS1)
            | (go_at_call 46; refine (HSz.out _ _ H1.out).mono ?_; rintro e w' ⟨rfl, rfl⟩)
            | (go_at_call 37; refine (HFr.out _ _ H3.out).mono ?_; rintro e w' ⟨rfl, rfl⟩)
            | (go_at_call 37; refine (HFr.out _ _ H1.out).mono ?_; rintro e w' ⟨rfl, rfl⟩)
            | (go_at_call 69; refine (rfree_o H1.out.rot3 hsm).mono ?_; rintro e w2 ⟨u, rfl, hS2⟩; obtain ⟨uo, ucap, rfl⟩ := hS2.rd.len; rw [hfl.out]; have hS3 : Sat w0 (tblP p ps free * (refB q (.slice (some ⟨b, 0, none⟩) rs.length cap) times * (refL (.slice (some ⟨b, 0, none⟩) rs.length cap) rs * F))) w2 := hS2.dropL.cast (by ac_rfl); have d1 := hS3.pull2.cell 0 rfl; have H2 := Lib.hid hS3; clear hS2 hS3)
            | (go_at_call 35; refine (HRt.out _ _ H2.out).mono ?_; rintro e w3 ⟨rfl, hS4⟩; have d2 := hS4.pull2.cell 0 rfl; have H3 := Lib.hid hS4; clear hS4))
        go_wp2
        go_ret
        exact ⟨by simp, (rshut H3.out.rot3).pull2.cast (by ac_rfl)⟩
      · by_cases hk2 : k = rs.length
        · subst hk2
          have hat := atV_no (ps := ps) (m := rs.length) (fun k hk a ha => by
            have := (List.getElem?_eq_some_iff.1 ha).1
            have := HL.out
            omega)
          have HA := at_ hS rs.length
          rw [hat] at HA
          have HA2 := Lib.hid HA
          have e1 := Lib.hid (show cTh ps (rs.length + 1) = cTh ps rs.length by rw [cTh_all ps (by have := HL.out; omega), cTh_all ps (by have := HL.out; omega)])
          have e2 := Lib.hid (show cRe ps (rs.length + 1) = cRe ps rs.length by rw [cRe_all ps (by have := HL.out; omega), cRe_all ps (by have := HL.out; omega)])
          have h00 : decide ((rs.length : Int) < 0) = false := decide_eq_false (by omega)
          have HS := Lib.hid hS
          clear hat HA hS
          go_wp2_with (go_at_call 34; refine HA2.out.mono ?_; rintro e w1 ⟨rfl, hS1⟩; have hB := hS1.alloc' (.cells #[vi 0, vu 0] 45); have d0 := hB.pull2.cell 0 rfl; have H1 := Lib.hid hS1; clear hS1 hB)
          go_roundw
          case rel => exact ⟨rs.length + 1, by omega, by omega, by go_num, by rw [show ((rs.length : Int) + 1).toNat = rs.length + 1 by omega, e1.out], by rw [show ((rs.length : Int) + 1).toNat = rs.length + 1 by omega, e2.out], H1.out.alloc' _⟩
          case measure => (simp [intOf]; try omega)
        · have hlt : k < rs.length := by omega
          obtain ⟨r, hr⟩ : ∃ r, rs[k]? = some r := ⟨rs[k], List.getElem?_eq_getElem hlt⟩
          have hps : ps[k]? = some r.pl := by rw [HR.out.eq, List.getElem?_map, hr]; rfl
          have hkl : (k : Int) < (rs.length : Int) := by omega
          have hkl2 : (k : Int) ≤ (rs.length : Int) := by omega
          have h00 : decide ((k : Int) < 0) = false := decide_eq_false (by omega)
          have hne : ((k : Int) == (rs.length : Int)) = false := beq_eq_false_iff_ne.2 (by omega)
          have e1 := Lib.hid (cTh_succ hps)
          have e2 := Lib.hid (cRe_succ hps)
          have HRr := Lib.hid hr
          have HP := Lib.hid hps
          have hexr := hex.out k _ hps
          clear hr hps
          obtain ⟨gen, there, retired, x, freed⟩ := r
          simp only [RP.pl] at e1 e2 HP hexr
          cases there with
          | false =>
            have hat := atV_no (ps := ps) (m := k) (fun j hj a ha => by
              obtain rfl : j = k := by omega
              rw [HP.out] at ha
              cases ha
              rfl)
            have HA := at_ hS k
            rw [hat] at HA
            have HA2 := Lib.hid HA
            have HS := Lib.hid hS
            clear hat HA hS hexr
            cases retired
            all_goals
              go_wp2_with (go_at_call 34; refine HA2.out.mono ?_; rintro e w1 ⟨rfl, hS1⟩; have hB := hS1.alloc' (.cells #[vi 0, vu 0] 45); obtain ⟨d0, d1, d2, d3, d4⟩ := rcells hB.rot3 HRr.out; have H1 := Lib.hid hS1; clear hS1 hB)
              go_roundw
              case rel => exact ⟨k + 1, by omega, by omega, by go_num, by rw [show ((k : Int) + 1).toNat = k + 1 by omega, e1.out]; simp, by rw [show ((k : Int) + 1).toNat = k + 1 by omega, e2.out]; simp, H1.out.alloc' _⟩
              case measure => (simp [intOf]; try omega)
          | true =>
            obtain rfl := hexr rfl
            have HA := at_ hS k
            rw [atV_yes HP.out rfl] at HA
            have HA2 := Lib.hid HA
            have hgx : getX ps k gen = x := by rw [getX, show gen = (⟨gen, true, false, x⟩ : Pl).gen from rfl, isAt_yes HP.out rfl]
            have hge : getE ps k gen = 0 := by rw [getE, show gen = (⟨gen, true, false, x⟩ : Pl).gen from rfl, isAt_yes HP.out rfl]
            have HG : Hid (∀ w' F', Sat w0 (tblP p ps free * F') w' → Calls Try.prog 28 #[vp p, vr k gen] w' fun e w2 => e = .returned (.tuple #[vi x, vi 0]) ∧ Sat w0 (tblP p ps free * F') w2) := Lib.hid fun w' F' h' => by
              have := get_ h' k gen
              rw [hgx, hge] at this
              exact this
            have HS := Lib.hid hS
            clear HA hS hexr hgx hge
            go_wp2_with (first
              | (go_at_call 34; refine HA2.out.mono ?_; rintro e w1 ⟨rfl, hS1⟩; have hB : Sat w0 (pc w1.heap.size 45 [vi k, vu gen] * _) (w1.alloc (.cells #[vi k, vu gen] 45)) := hS1.alloc _; have b0 := hB.cell 0 rfl; have b1 := hB.cell 1 rfl; obtain ⟨d0, d1, d2, d3, d4⟩ := rcells hB.dropL.rot3 HRr.out; have H1 := Lib.hid hB; clear hS1 hB)
              | (go_at_call 28; refine (HG.out _ _ H1.out.pull2).mono ?_; rintro e w2 ⟨rfl, hS2⟩; have f0 := hS2.pull2.cell 0 rfl; have f1 := hS2.pull2.cell 1 rfl; obtain ⟨g0, g1, g2, g3, g4⟩ := rcells hS2.drop2.rot3 HRr.out; have H2 := Lib.hid hS2.drop2; clear hS2))
            go_quiet (fail)
            go_wp2
            go_roundw
            case rel => exact ⟨k + 1, by omega, by omega, by go_num, by rw [show ((k : Int) + 1).toNat = k + 1 by omega, e1.out]; simp, by rw [show ((k : Int) + 1).toNat = k + 1 by omega, e2.out]; simp, H2.out.drewN _⟩
            case measure => (simp [intOf]; try omega)
end
end Go.Proofs.Ytaaplmihmginpaa.Ar
