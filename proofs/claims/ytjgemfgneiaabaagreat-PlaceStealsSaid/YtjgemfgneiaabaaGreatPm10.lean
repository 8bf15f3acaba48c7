/-
  Package place: Where. No statement is proved here.
-/
import Derived.Test.YtjgemfgneiaabaaGreatMg19
import Derived.Test.YtjgemfgneiaabaaGreatMg18
namespace Go.Proofs.YtjgemfgneiaabaaGreat.Pc
open Go.RowKit Rq Gq
set_option linter.unusedVariables false
set_option linter.unusedSimpArgs false

section
variable {w0 w : World} {F : Hp} {D : Ad} {p : Nat → Pl} {gx : List Int}
def whJ (p : Nat → Pl) (n : Nat) (g : Int) (j : Nat) : Option Nat := (List.range n).find? fun k => look p g j k
/-- Where somebody is, in plain words: of what kind, at which P. -/
def whereV (p : Nat → Pl) (n : Nat) (gx : List Int) (g : Int) : Int × Int := match whJ p n g 0 with
  | some k => (1, (k : Int))
  | none => match whJ p n g 1 with
    | some k => (2, (k : Int))
    | none => match whJ p n g 2 with
      | some k => (3, (k : Int))
      | none => if g ∈ gx then (4, 0) else (0, 0)

set_option maxRecDepth 100000 in
set_option maxHeartbeats 8000000 in
theorem pl_where (h : Sat w0 (plB D p gx * F) w) (ho : D.Ok) (g : Int) (hl : gx.length ≤ 1000000) :
    Calls Tryz.prog 12 #[vp D.s, vi g] w fun e w' => e = .returned (.agg #[vi (whereV p D.n gx g).1, vi (whereV p D.n gx g).2]) ∧ Sat w0 (plB D p gx * F) w' := by
  have h4 := (((h.alloc (.cells #[vp D.s] 23)).alloc (.cells #[vi g] 3)).alloc (.cells #[vi 0, vi 0] 39)).alloc (.cells #[.func (.func 52) #[] #[vp w.heap.size, vp (w.heap.size + 1)], .func (.func 54) #[] #[vp w.heap.size, vp (w.heap.size + 1)], .func (.func 56) #[] #[vp w.heap.size, vp (w.heap.size + 1)]] 97)
  simp only [World.size_alloc] at h4
  have hn1 := ho.n1
  have hn8 := ho.n8
  have hnp : (0 : Int) < (D.n : Int) := by omega
  have h5 := h4.cast (show _ = pc w.heap.size 23 [vp D.s] * (pc (w.heap.size + 1) 3 [vi g] * (pc (w.heap.size + 2) 39 [vi 0, vi 0] * (pc (w.heap.size + 3) 97 [.func (.func 52) #[] #[vp w.heap.size, vp (w.heap.size + 1)], .func (.func 54) #[] #[vp w.heap.size, vp (w.heap.size + 1)], .func (.func 56) #[] #[vp w.heap.size, vp (w.heap.size + 1)]] * (plB D p gx * F)))) by
    show pc (w.heap.size + 3) 97 _ * (pc (w.heap.size + 2) 39 _ * (pc (w.heap.size + 1) 3 _ * (pc w.heap.size 23 _ * (plB D p gx * F)))) = _
    ac_rfl)
  have H5 := Lib.hid h5
  clear h h4 h5
  go_enter Tryz.func12, Tryz.ntmps12
  go_wp2
  go_loopw [16] (fun i wr => ∃ j : Nat, j ≤ 3 ∧ i = vi j ∧ (∀ j', j' < j → ∀ k', k' < D.n → look p g j' k' = false) ∧ Sat w0 (pc w.heap.size 23 [vp D.s] * (pc (w.heap.size + 1) 3 [vi g] * (pc (w.heap.size + 2) 39 [vi 0, vi 0] * (pc (w.heap.size + 3) 97 [.func (.func 52) #[] #[vp w.heap.size, vp (w.heap.size + 1)], .func (.func 54) #[] #[vp w.heap.size, vp (w.heap.size + 1)], .func (.func 56) #[] #[vp w.heap.size, vp (w.heap.size + 1)]] * (plB D p gx * F))))) wr) (fun i _ => 3 - (intOf i).toNat)
  case atStart => exact ⟨0, by omega, rfl, fun j' h => absurd h (by omega), H5.out⟩
  case round =>
    clear H5
    obtain ⟨j, hj, rfl, hno, hS⟩ := hrel
    have a0 := hS.cell 0 rfl
    have a1 := hS.pull4.cell 0 rfl
    have a2 := hS.pull4.cell 1 rfl
    have a3 := hS.pull4.cell 2 rfl
    have HS := Lib.hid hS
    clear hS
    by_cases hj3 : j < 3
    · rcases (show j = 0 ∨ j = 1 ∨ j = 2 by omega) with rfl | rfl | rfl
      · go_wp2_with (go_at_call 50; refine (pl_ps (HS.out.cast (show _ = plB D p gx * (pc w.heap.size 23 [vp D.s] * (pc (w.heap.size + 1) 3 [vi g] * (pc (w.heap.size + 2) 39 [vi 0, vi 0] * (pc (w.heap.size + 3) 97 [.func (.func 52) #[] #[vp w.heap.size, vp (w.heap.size + 1)], .func (.func 54) #[] #[vp w.heap.size, vp (w.heap.size + 1)], .func (.func 56) #[] #[vp w.heap.size, vp (w.heap.size + 1)]] * F)))) by ac_rfl))).mono ?_; rintro e w' ⟨rfl, rfl⟩)
        go_loopw [22] (fun i wy => ∃ k : Nat, k ≤ D.n ∧ i = vi k ∧ Hid (∀ k', k' < k → look p g 0 k' = false) ∧ Sat w0 (pc w.heap.size 23 [vp D.s] * (pc (w.heap.size + 1) 3 [vi g] * (pc (w.heap.size + 2) 39 [vi 0, vi 0] * (pc (w.heap.size + 3) 97 [.func (.func 52) #[] #[vp w.heap.size, vp (w.heap.size + 1)], .func (.func 54) #[] #[vp w.heap.size, vp (w.heap.size + 1)], .func (.func 56) #[] #[vp w.heap.size, vp (w.heap.size + 1)]] * (plB D p gx * F))))) wy) (fun i _ => D.n - (intOf i).toNat)
        case atStart => exact ⟨0, Nat.zero_le _, rfl, Lib.hid (fun k' h => absurd h (by omega)), HS.out⟩
        case round =>
          clear HS a0 a1 a2 a3
          obtain ⟨k, hk, rfl, hno2, hS2⟩ := hrel
          by_cases hlt : k < D.n
          · have hki : (k : Int) < (D.n : Int) := by omega
            have hb0 := hS2.cell 0 rfl
            have hb1 := hS2.pull2.cell 0 rfl
            have hc := ((look0 (hS2.cast (show _ = plB D p gx * (pc w.heap.size 23 [vp D.s] * (pc (w.heap.size + 1) 3 [vi g] * (pc (w.heap.size + 2) 39 [vi 0, vi 0] * (pc (w.heap.size + 3) 97 [.func (.func 52) #[] #[vp w.heap.size, vp (w.heap.size + 1)], .func (.func 54) #[] #[vp w.heap.size, vp (w.heap.size + 1)], .func (.func 56) #[] #[vp w.heap.size, vp (w.heap.size + 1)]] * F)))) by ac_rfl)) hlt hb0 hb1).mono fun e w' hh => (⟨hh.1, hh.2.1.cast (show _ = pc w.heap.size 23 [vp D.s] * (pc (w.heap.size + 1) 3 [vi g] * (pc (w.heap.size + 2) 39 [vi 0, vi 0] * (pc (w.heap.size + 3) 97 [.func (.func 52) #[] #[vp w.heap.size, vp (w.heap.size + 1)], .func (.func 54) #[] #[vp w.heap.size, vp (w.heap.size + 1)], .func (.func 56) #[] #[vp w.heap.size, vp (w.heap.size + 1)]] * (plB D p gx * F)))) by ac_rfl)⟩ : e = Ending.returned (vi (if look p g 0 k then 1 else 0)) ∧ Sat w0 (pc w.heap.size 23 [vp D.s] * (pc (w.heap.size + 1) 3 [vi g] * (pc (w.heap.size + 2) 39 [vi 0, vi 0] * (pc (w.heap.size + 3) 97 [.func (.func 52) #[] #[vp w.heap.size, vp (w.heap.size + 1)], .func (.func 54) #[] #[vp w.heap.size, vp (w.heap.size + 1)], .func (.func 56) #[] #[vp w.heap.size, vp (w.heap.size + 1)]] * (plB D p gx * F))))) w'))
            obtain ⟨t, ht⟩ : ∃ t, look p g 0 k = t := ⟨_, rfl⟩
            rw [ht] at hc
            have HC := Lib.hid hc
            have HT := Lib.hid ht
            have HL := Lib.hid hlt
            have HN := Lib.hid hno
            clear hS2 hc ht hlt hno
            cases t with
            | true =>
              go_wp2_with (go_at_call 52; refine HC.out.mono ?_; rintro e w3 ⟨rfl, hS3⟩; have q0 := hS3.pull3.cell 0 rfl; have q1 := hS3.pull3.cell 1 rfl; have qf := hS3.pull3.free 0; have qf1 := hS3.pull3.free 1; have s1 := hS3.pull3.store 0 (vi 1); have q2 := s1.cell 1 rfl; have qf2 := s1.free 1; have s2 := s1.store 1 (vi k); have S2 := Lib.hid s2; clear hS3 s1 s2)
              refine bodyPost_ret (v := .agg #[vi 1, vi k]) (results_row1 rfl _ _ _ rfl S2.out.rangeN Tryz.underlying39 rfl (by kernel_rfl)) rfl ?_
              have hwv : whereV p D.n gx g = (1, (k : Int)) := by
                unfold whereV
                rw [show whJ p D.n g 0 = some k from find_range HL.out HT.out hno2.out]
              rw [hwv]
              exact ⟨rfl, (S2.out.cast (show _ = (pc (w.heap.size + 2) 39 [vi 1, vi k] * (pc w.heap.size 23 [vp D.s] * (pc (w.heap.size + 1) 3 [vi g] * (pc (w.heap.size + 3) 97 [.func (.func 52) #[] #[vp w.heap.size, vp (w.heap.size + 1)], .func (.func 54) #[] #[vp w.heap.size, vp (w.heap.size + 1)], .func (.func 56) #[] #[vp w.heap.size, vp (w.heap.size + 1)]] * (plB D p gx * F))))) from rfl)).dropL.dropL.dropL.dropL⟩
            | false =>
              go_wp2_with (go_at_call 52; refine HC.out.mono ?_; rintro e w3 ⟨rfl, hS3⟩; have H3 := Lib.hid hS3; clear hS3)
              go_roundw
              case rel =>
                refine ⟨k + 1, by omega, by go_num, Lib.hid (fun k' h => ?_), H3.out⟩
                by_cases hkk : k' = k
                · rw [hkk]
                  exact HT.out
                · exact hno2.out k' (by omega)
              case measure => simp [intOf]; omega
          · obtain rfl : k = D.n := by omega
            have H2 := Lib.hid hS2
            have HN := Lib.hid hno
            clear hS2 hno hlt
            go_wp2
            go_roundw
            case rel =>
              refine ⟨0 + 1, by omega, by go_num, ?_, H2.out⟩
              intro j' hj' k' hk'
              by_cases hjj : j' = 0
              · rw [hjj]
                exact hno2.out k' hk'
              · exact HN.out j' (by omega) k' hk'
            case measure => simp [intOf]
      · go_wp2_with (go_at_call 50; refine (pl_ps (HS.out.cast (show _ = plB D p gx * (pc w.heap.size 23 [vp D.s] * (pc (w.heap.size + 1) 3 [vi g] * (pc (w.heap.size + 2) 39 [vi 0, vi 0] * (pc (w.heap.size + 3) 97 [.func (.func 52) #[] #[vp w.heap.size, vp (w.heap.size + 1)], .func (.func 54) #[] #[vp w.heap.size, vp (w.heap.size + 1)], .func (.func 56) #[] #[vp w.heap.size, vp (w.heap.size + 1)]] * F)))) by ac_rfl))).mono ?_; rintro e w' ⟨rfl, rfl⟩)
        go_loopw [22] (fun i wy => ∃ k : Nat, k ≤ D.n ∧ i = vi k ∧ Hid (∀ k', k' < k → look p g 1 k' = false) ∧ Sat w0 (pc w.heap.size 23 [vp D.s] * (pc (w.heap.size + 1) 3 [vi g] * (pc (w.heap.size + 2) 39 [vi 0, vi 0] * (pc (w.heap.size + 3) 97 [.func (.func 52) #[] #[vp w.heap.size, vp (w.heap.size + 1)], .func (.func 54) #[] #[vp w.heap.size, vp (w.heap.size + 1)], .func (.func 56) #[] #[vp w.heap.size, vp (w.heap.size + 1)]] * (plB D p gx * F))))) wy) (fun i _ => D.n - (intOf i).toNat)
        case atStart => exact ⟨0, Nat.zero_le _, rfl, Lib.hid (fun k' h => absurd h (by omega)), HS.out⟩
        case round =>
          clear HS a0 a1 a2 a3
          obtain ⟨k, hk, rfl, hno2, hS2⟩ := hrel
          by_cases hlt : k < D.n
          · have hki : (k : Int) < (D.n : Int) := by omega
            have hb0 := hS2.cell 0 rfl
            have hb1 := hS2.pull2.cell 0 rfl
            have hc := ((look1 (hS2.cast (show _ = plB D p gx * (pc w.heap.size 23 [vp D.s] * (pc (w.heap.size + 1) 3 [vi g] * (pc (w.heap.size + 2) 39 [vi 0, vi 0] * (pc (w.heap.size + 3) 97 [.func (.func 52) #[] #[vp w.heap.size, vp (w.heap.size + 1)], .func (.func 54) #[] #[vp w.heap.size, vp (w.heap.size + 1)], .func (.func 56) #[] #[vp w.heap.size, vp (w.heap.size + 1)]] * F)))) by ac_rfl)) hlt hb0 hb1).mono fun e w' hh => (⟨hh.1, hh.2.cast (show _ = pc w.heap.size 23 [vp D.s] * (pc (w.heap.size + 1) 3 [vi g] * (pc (w.heap.size + 2) 39 [vi 0, vi 0] * (pc (w.heap.size + 3) 97 [.func (.func 52) #[] #[vp w.heap.size, vp (w.heap.size + 1)], .func (.func 54) #[] #[vp w.heap.size, vp (w.heap.size + 1)], .func (.func 56) #[] #[vp w.heap.size, vp (w.heap.size + 1)]] * (plB D p gx * F)))) by ac_rfl)⟩ : e = Ending.returned (vi (if look p g 1 k then 2 else 0)) ∧ Sat w0 (pc w.heap.size 23 [vp D.s] * (pc (w.heap.size + 1) 3 [vi g] * (pc (w.heap.size + 2) 39 [vi 0, vi 0] * (pc (w.heap.size + 3) 97 [.func (.func 52) #[] #[vp w.heap.size, vp (w.heap.size + 1)], .func (.func 54) #[] #[vp w.heap.size, vp (w.heap.size + 1)], .func (.func 56) #[] #[vp w.heap.size, vp (w.heap.size + 1)]] * (plB D p gx * F))))) w'))
            obtain ⟨t, ht⟩ : ∃ t, look p g 1 k = t := ⟨_, rfl⟩
            rw [ht] at hc
            have HC := Lib.hid hc
            have HT := Lib.hid ht
            have HL := Lib.hid hlt
            have HN := Lib.hid hno
            clear hS2 hc ht hlt hno
            cases t with
            | true =>
              go_wp2_with (go_at_call 54; refine HC.out.mono ?_; rintro e w3 ⟨rfl, hS3⟩; have q0 := hS3.pull3.cell 0 rfl; have q1 := hS3.pull3.cell 1 rfl; have qf := hS3.pull3.free 0; have qf1 := hS3.pull3.free 1; have s1 := hS3.pull3.store 0 (vi 2); have q2 := s1.cell 1 rfl; have qf2 := s1.free 1; have s2 := s1.store 1 (vi k); have S2 := Lib.hid s2; clear hS3 s1 s2)
              refine bodyPost_ret (v := .agg #[vi 2, vi k]) (results_row1 rfl _ _ _ rfl S2.out.rangeN Tryz.underlying39 rfl (by kernel_rfl)) rfl ?_
              have hwv : whereV p D.n gx g = (2, (k : Int)) := by
                unfold whereV
                rw [show whJ p D.n g 0 = none from find_none (fun k' h => HN.out 0 (by omega) k' h), show whJ p D.n g 1 = some k from find_range HL.out HT.out hno2.out]
              rw [hwv]
              exact ⟨rfl, (S2.out.cast (show _ = (pc (w.heap.size + 2) 39 [vi 2, vi k] * (pc w.heap.size 23 [vp D.s] * (pc (w.heap.size + 1) 3 [vi g] * (pc (w.heap.size + 3) 97 [.func (.func 52) #[] #[vp w.heap.size, vp (w.heap.size + 1)], .func (.func 54) #[] #[vp w.heap.size, vp (w.heap.size + 1)], .func (.func 56) #[] #[vp w.heap.size, vp (w.heap.size + 1)]] * (plB D p gx * F))))) from rfl)).dropL.dropL.dropL.dropL⟩
            | false =>
              go_wp2_with (go_at_call 54; refine HC.out.mono ?_; rintro e w3 ⟨rfl, hS3⟩; have H3 := Lib.hid hS3; clear hS3)
              go_roundw
              case rel =>
                refine ⟨k + 1, by omega, by go_num, Lib.hid (fun k' h => ?_), H3.out⟩
                by_cases hkk : k' = k
                · rw [hkk]
                  exact HT.out
                · exact hno2.out k' (by omega)
              case measure => simp [intOf]; omega
          · obtain rfl : k = D.n := by omega
            have H2 := Lib.hid hS2
            have HN := Lib.hid hno
            clear hS2 hno hlt
            go_wp2
            go_roundw
            case rel =>
              refine ⟨1 + 1, by omega, by go_num, ?_, H2.out⟩
              intro j' hj' k' hk'
              by_cases hjj : j' = 1
              · rw [hjj]
                exact hno2.out k' hk'
              · exact HN.out j' (by omega) k' hk'
            case measure => simp [intOf]
      · go_wp2_with (go_at_call 50; refine (pl_ps (HS.out.cast (show _ = plB D p gx * (pc w.heap.size 23 [vp D.s] * (pc (w.heap.size + 1) 3 [vi g] * (pc (w.heap.size + 2) 39 [vi 0, vi 0] * (pc (w.heap.size + 3) 97 [.func (.func 52) #[] #[vp w.heap.size, vp (w.heap.size + 1)], .func (.func 54) #[] #[vp w.heap.size, vp (w.heap.size + 1)], .func (.func 56) #[] #[vp w.heap.size, vp (w.heap.size + 1)]] * F)))) by ac_rfl))).mono ?_; rintro e w' ⟨rfl, rfl⟩)
        go_loopw [22] (fun i wy => ∃ k : Nat, k ≤ D.n ∧ i = vi k ∧ Hid (∀ k', k' < k → look p g 2 k' = false) ∧ Sat w0 (pc w.heap.size 23 [vp D.s] * (pc (w.heap.size + 1) 3 [vi g] * (pc (w.heap.size + 2) 39 [vi 0, vi 0] * (pc (w.heap.size + 3) 97 [.func (.func 52) #[] #[vp w.heap.size, vp (w.heap.size + 1)], .func (.func 54) #[] #[vp w.heap.size, vp (w.heap.size + 1)], .func (.func 56) #[] #[vp w.heap.size, vp (w.heap.size + 1)]] * (plB D p gx * F))))) wy) (fun i _ => D.n - (intOf i).toNat)
        case atStart => exact ⟨0, Nat.zero_le _, rfl, Lib.hid (fun k' h => absurd h (by omega)), HS.out⟩
        case round =>
          clear HS a0 a1 a2 a3
          obtain ⟨k, hk, rfl, hno2, hS2⟩ := hrel
          by_cases hlt : k < D.n
          · have hki : (k : Int) < (D.n : Int) := by omega
            have hb0 := hS2.cell 0 rfl
            have hb1 := hS2.pull2.cell 0 rfl
            have hc := ((look2 (F := pc (w.heap.size + 2) 39 [vi 0, vi 0] * (pc (w.heap.size + 3) 97 [.func (.func 52) #[] #[vp w.heap.size, vp (w.heap.size + 1)], .func (.func 54) #[] #[vp w.heap.size, vp (w.heap.size + 1)], .func (.func 56) #[] #[vp w.heap.size, vp (w.heap.size + 1)]] * F)) (hS2.cast (show _ = pc w.heap.size 23 [vp D.s] * (pc (w.heap.size + 1) 3 [vi g] * (plB D p gx * (pc (w.heap.size + 2) 39 [vi 0, vi 0] * (pc (w.heap.size + 3) 97 [.func (.func 52) #[] #[vp w.heap.size, vp (w.heap.size + 1)], .func (.func 54) #[] #[vp w.heap.size, vp (w.heap.size + 1)], .func (.func 56) #[] #[vp w.heap.size, vp (w.heap.size + 1)]] * F)))) by ac_rfl)) hlt).mono fun e w' hh => (⟨hh.1, hh.2.cast (show _ = pc w.heap.size 23 [vp D.s] * (pc (w.heap.size + 1) 3 [vi g] * (pc (w.heap.size + 2) 39 [vi 0, vi 0] * (pc (w.heap.size + 3) 97 [.func (.func 52) #[] #[vp w.heap.size, vp (w.heap.size + 1)], .func (.func 54) #[] #[vp w.heap.size, vp (w.heap.size + 1)], .func (.func 56) #[] #[vp w.heap.size, vp (w.heap.size + 1)]] * (plB D p gx * F)))) by ac_rfl)⟩ : e = Ending.returned (vi (if look p g 2 k then 3 else 0)) ∧ Sat w0 (pc w.heap.size 23 [vp D.s] * (pc (w.heap.size + 1) 3 [vi g] * (pc (w.heap.size + 2) 39 [vi 0, vi 0] * (pc (w.heap.size + 3) 97 [.func (.func 52) #[] #[vp w.heap.size, vp (w.heap.size + 1)], .func (.func 54) #[] #[vp w.heap.size, vp (w.heap.size + 1)], .func (.func 56) #[] #[vp w.heap.size, vp (w.heap.size + 1)]] * (plB D p gx * F))))) w'))
            obtain ⟨t, ht⟩ : ∃ t, look p g 2 k = t := ⟨_, rfl⟩
            rw [ht] at hc
            have HC := Lib.hid hc
            have HT := Lib.hid ht
            have HL := Lib.hid hlt
            have HN := Lib.hid hno
            clear hS2 hc ht hlt hno
            cases t with
            | true =>
              go_wp2_with (go_at_call 56; refine HC.out.mono ?_; rintro e w3 ⟨rfl, hS3⟩; have q0 := hS3.pull3.cell 0 rfl; have q1 := hS3.pull3.cell 1 rfl; have qf := hS3.pull3.free 0; have qf1 := hS3.pull3.free 1; have s1 := hS3.pull3.store 0 (vi 3); have q2 := s1.cell 1 rfl; have qf2 := s1.free 1; have s2 := s1.store 1 (vi k); have S2 := Lib.hid s2; clear hS3 s1 s2)
              refine bodyPost_ret (v := .agg #[vi 3, vi k]) (results_row1 rfl _ _ _ rfl S2.out.rangeN Tryz.underlying39 rfl (by kernel_rfl)) rfl ?_
              have hwv : whereV p D.n gx g = (3, (k : Int)) := by
                unfold whereV
                rw [show whJ p D.n g 0 = none from find_none (fun k' h => HN.out 0 (by omega) k' h), show whJ p D.n g 1 = none from find_none (fun k' h => HN.out 1 (by omega) k' h), show whJ p D.n g 2 = some k from find_range HL.out HT.out hno2.out]
              rw [hwv]
              exact ⟨rfl, (S2.out.cast (show _ = (pc (w.heap.size + 2) 39 [vi 3, vi k] * (pc w.heap.size 23 [vp D.s] * (pc (w.heap.size + 1) 3 [vi g] * (pc (w.heap.size + 3) 97 [.func (.func 52) #[] #[vp w.heap.size, vp (w.heap.size + 1)], .func (.func 54) #[] #[vp w.heap.size, vp (w.heap.size + 1)], .func (.func 56) #[] #[vp w.heap.size, vp (w.heap.size + 1)]] * (plB D p gx * F))))) from rfl)).dropL.dropL.dropL.dropL⟩
            | false =>
              go_wp2_with (go_at_call 56; refine HC.out.mono ?_; rintro e w3 ⟨rfl, hS3⟩; have H3 := Lib.hid hS3; clear hS3)
              go_roundw
              case rel =>
                refine ⟨k + 1, by omega, by go_num, Lib.hid (fun k' h => ?_), H3.out⟩
                by_cases hkk : k' = k
                · rw [hkk]
                  exact HT.out
                · exact hno2.out k' (by omega)
              case measure => simp [intOf]; omega
          · obtain rfl : k = D.n := by omega
            have H2 := Lib.hid hS2
            have HN := Lib.hid hno
            clear hS2 hno hlt
            go_wp2
            go_roundw
            case rel =>
              refine ⟨2 + 1, by omega, by go_num, ?_, H2.out⟩
              intro j' hj' k' hk'
              by_cases hjj : j' = 2
              · rw [hjj]
                exact hno2.out k' hk'
              · exact HN.out j' (by omega) k' hk'
            case measure => simp [intOf]
    · obtain rfl : j = 3 := by omega
      have hpl := HS.out.cast (show _ = plB D p gx * (pc w.heap.size 23 [vp D.s] * (pc (w.heap.size + 1) 3 [vi g] * (pc (w.heap.size + 2) 39 [vi 0, vi 0] * (pc (w.heap.size + 3) 97 [.func (.func 52) #[] #[vp w.heap.size, vp (w.heap.size + 1)], .func (.func 54) #[] #[vp w.heap.size, vp (w.heap.size + 1)], .func (.func 56) #[] #[vp w.heap.size, vp (w.heap.size + 1)]] * F)))) by ac_rfl)
      have HP := Lib.hid (pl_ps hpl.drew)
      have HP0 := Lib.hid (pl_ps hpl)
      have c2 := (pl_cells hpl).2.2
      have hgh := (g_has (pl_glob hpl.drew) hl g).mono fun e w' hh => (⟨hh.1, (pl_globI hh.2).cast (show _ = pc w.heap.size 23 [vp D.s] * (pc (w.heap.size + 1) 3 [vi g] * (pc (w.heap.size + 2) 39 [vi 0, vi 0] * (pc (w.heap.size + 3) 97 [.func (.func 52) #[] #[vp w.heap.size, vp (w.heap.size + 1)], .func (.func 54) #[] #[vp w.heap.size, vp (w.heap.size + 1)], .func (.func 56) #[] #[vp w.heap.size, vp (w.heap.size + 1)]] * (plB D p gx * F)))) by ac_rfl)⟩ : e = Ending.returned (.bool (decide (g ∈ gx))) ∧ Sat w0 (pc w.heap.size 23 [vp D.s] * (pc (w.heap.size + 1) 3 [vi g] * (pc (w.heap.size + 2) 39 [vi 0, vi 0] * (pc (w.heap.size + 3) 97 [.func (.func 52) #[] #[vp w.heap.size, vp (w.heap.size + 1)], .func (.func 54) #[] #[vp w.heap.size, vp (w.heap.size + 1)], .func (.func 56) #[] #[vp w.heap.size, vp (w.heap.size + 1)]] * (plB D p gx * F))))) w')
      obtain ⟨t, ht⟩ : ∃ t, decide (g ∈ gx) = t := ⟨_, rfl⟩
      rw [ht] at hgh
      have HH := Lib.hid hgh
      have hwv : whereV p D.n gx g = (if t then (4, 0) else (0, 0)) := by
        unfold whereV
        rw [show whJ p D.n g 0 = none from find_none (fun k' h => hno 0 (by omega) k' h), show whJ p D.n g 1 = none from find_none (fun k' h => hno 1 (by omega) k' h), show whJ p D.n g 2 = none from find_none (fun k' h => hno 2 (by omega) k' h), ← ht]
        by_cases hg : g ∈ gx
        · simp [hg]
        · simp [hg]
      have HWV := Lib.hid hwv
      have hb0 := HS.out.cell 0 rfl
      have hb1 := HS.out.pull2.cell 0 rfl
      have hd1 : decide ((0 : Int) < (D.n : Int)) = true := decide_eq_true hnp
      have hd2 : decide (0 < D.n) = true := decide_eq_true (by omega)
      clear hpl hgh ht hwv hno a0 a1 a2 a3
      go_wp2
      go_region_held3 (fun w' => w'.cell? ⟨w.heap.size, 0, none⟩ = some (vp D.s) ∧ w'.cell? ⟨w.heap.size + 1, 0, none⟩ = some (vi g) ∧ w'.cell? ⟨D.s, 2, none⟩ = some (vp D.a)) (first | exact ⟨hb0, hb1, c2⟩ | exact ⟨q0, q1, q2⟩)
        (first
          | (go_at_call 50; refine HP.out.mono ?_; rintro e w' ⟨rfl, rfl⟩)
          | (go_at_call 58; refine HH.out.mono ?_; rintro e w3 ⟨rfl, hS3⟩; have q0 := hS3.cell 0 rfl; have q1 := hS3.pull2.cell 0 rfl; have q2 := (pl_cells hS3.dropL.dropL.dropL.dropL).2.2; have H3 := Lib.hid hS3; clear hS3))
      all_goals
        cases t with
        | true =>
          have qa := H3.out.pull3.cell 0 rfl
          have qb := H3.out.pull3.cell 1 rfl
          have qf := H3.out.pull3.free 0
          have qf1 := H3.out.pull3.free 1
          have s1 := H3.out.pull3.store 0 (vi 4)
          have qc := s1.cell 1 rfl
          have qf2 := s1.free 1
          have s2 := s1.store 1 (vi 0)
          have S2 := Lib.hid s2
          clear s1 s2
          go_wp2
          refine bodyPost_ret (v := .agg #[vi 4, vi 0]) (results_row1 rfl _ _ _ rfl S2.out.rangeN Tryz.underlying39 rfl (by kernel_rfl)) rfl ?_
          rw [HWV.out]
          exact ⟨rfl, (S2.out.cast (show _ = (pc (w.heap.size + 2) 39 [vi 4, vi 0] * (pc w.heap.size 23 [vp D.s] * (pc (w.heap.size + 1) 3 [vi g] * (pc (w.heap.size + 3) 97 [.func (.func 52) #[] #[vp w.heap.size, vp (w.heap.size + 1)], .func (.func 54) #[] #[vp w.heap.size, vp (w.heap.size + 1)], .func (.func 56) #[] #[vp w.heap.size, vp (w.heap.size + 1)]] * (plB D p gx * F))))) from rfl)).dropL.dropL.dropL.dropL⟩
        | false =>
          have qa := H3.out.pull3.cell 0 rfl
          have qb := H3.out.pull3.cell 1 rfl
          have qf := H3.out.pull3.free 0
          have qf1 := H3.out.pull3.free 1
          have s1 := H3.out.pull3.store 0 (vi 0)
          have qc := s1.cell 1 rfl
          have qf2 := s1.free 1
          have s2 := s1.store 1 (vi 0)
          have S2 := Lib.hid s2
          clear s1 s2
          go_wp2
          refine bodyPost_ret (v := .agg #[vi 0, vi 0]) (results_row1 rfl _ _ _ rfl S2.out.rangeN Tryz.underlying39 rfl (by kernel_rfl)) rfl ?_
          rw [HWV.out]
          exact ⟨rfl, (S2.out.cast (show _ = (pc (w.heap.size + 2) 39 [vi 0, vi 0] * (pc w.heap.size 23 [vp D.s] * (pc (w.heap.size + 1) 3 [vi g] * (pc (w.heap.size + 3) 97 [.func (.func 52) #[] #[vp w.heap.size, vp (w.heap.size + 1)], .func (.func 54) #[] #[vp w.heap.size, vp (w.heap.size + 1)], .func (.func 56) #[] #[vp w.heap.size, vp (w.heap.size + 1)]] * (plB D p gx * F))))) from rfl)).dropL.dropL.dropL.dropL⟩
end
end Go.Proofs.YtjgemfgneiaabaaGreat.Pc
