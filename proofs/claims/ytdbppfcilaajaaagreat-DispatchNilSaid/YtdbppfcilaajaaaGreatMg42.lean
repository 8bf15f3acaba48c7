/-
  Package num: All, Nth. No statement is proved here.
-/
import Derived.Test.YtdbppfcilaajaaaGreatMg28
import Derived.Test.YtdbppfcilaajaaaGreatMg37
import Derived.Test.YtdbppfcilaajaaaGreatMg39
import Derived.Test.YtdbppfcilaajaaaGreatMg38
namespace Go.Proofs.YtdbppfcilaajaaaGreat.Nu
open Go.RowKit Rq Gq
attribute [local go_sem] Oper.semAt_some
set_option linter.unusedVariables false
set_option linter.unusedSimpArgs false

section
variable {w0 w : World} {F : Hp} {s : Nat}
abbrev bu (b s : Nat) : Hp := pc b 5 [.int .u8 s]
theorem num_all (h : Sat w0 F w) : Calls Tryz.prog 204 #[.int .u8 s] w fun e w' => ∃ bx, e = .returned (.func (.func 234) #[] #[vp bx]) ∧ Sat w0 (bu bx s * F) w' := by
  have H := Lib.hid (show Sat w0 (bu w.heap.size s * F) (w.alloc (.cells #[.int .u8 s] 5)) from h.alloc _)
  clear h
  go_enter Tryz.func204, Tryz.ntmps204
  go_wp2
  go_ret
  exact ⟨_, rfl, H.out⟩
set_option maxRecDepth 100000 in
set_option maxHeartbeats 2000000 in
theorem num_all1 (n : Nat) (hn : 1 ≤ n) (hs : s < 256) (H : Nat → Hp) (S : Hp) (bx l : Nat)
    (hK : ∀ (k : Nat) W (F : Hp), k < 8 → hasB s k = false → Sat w0 (H k * F) W → Sat w0 (H (k + 1) * F) W)
    (hY : ∀ (k : Nat) W (F : Hp), k < 8 → hasB s k = true → Sat w0 (bu bx s * (H k * F)) W → YieldAt Fence.wide (n - 1) Tryz.prog l #[vi k] W fun e W' => (e = .returned (.bool true) ∧ Sat w0 (bu bx s * (H (k + 1) * F)) W') ∨ (e = .returned (.bool false) ∧ Sat w0 (S * F) W'))
    (h0 : Sat w0 (bu bx s * H 0) w) :
    CallsIn Fence.wide n Tryz.prog 234 #[.func (.yield l) #[] #[], vp bx] w fun e W' => (∃ v, e = .returned v) ∧ (Sat w0 (bu bx s * H 8) W' ∨ Sat w0 S W') := by
  have HY := Lib.hid hY
  have HK := Lib.hid hK
  have HS0 := Lib.hid h0
  clear hY hK h0
  refine callsIn_of_wp Tryz.func234 rfl trivial ?_ rfl
  simp only [Tryz.ntmps234, List.size_toArray, List.length_cons, List.length_nil, Nat.reduceAdd, Nat.reduceSub, Array.replicate_succ, Array.replicate_zero, List.push_toArray, List.append_toArray, List.nil_append, List.cons_append]
  gi_wp2
  gi_loopw [4] (fun i wr => ∃ k : Nat, k ≤ 8 ∧ i = vi k ∧ Sat w0 (bu bx s * H k) wr) (fun i _ => 8 - (intOf i).toNat)
  case atStart => exact ⟨0, by omega, rfl, HS0.out⟩
  case round =>
    obtain ⟨k, hk, rfl, hS⟩ := hrel
    clear HS0
    by_cases hlt : k < 8
    · have hki : (k : Int) < 8 := by omega
      have c0 := hS.cell 0 rfl
      have hh := num_has s hs (k : Int) wr
      obtain ⟨t, ht⟩ : ∃ t, hasB s (k : Int) = t := ⟨_, rfl⟩
      rw [ht] at hh
      have HH := Lib.hid hh
      clear hh
      cases t with
      | false =>
        have H9 := Lib.hid hS
        have HT := Lib.hid ht
        clear hS ht hlt
        gi_wp2_with (refine ⟨trivial, ?_⟩; gi_at_call 151; refine (callsIn_wide.2 HH.out).mono ?_; rintro e w' ⟨rfl, rfl⟩)
        refine ⟨fun _ h => (by cases h), ?_⟩
        gi_wp2
        go_roundw
        case rel => exact ⟨k + 1, by omega, by go_num, (HK.out k _ (bu bx s) (by omega) HT.out H9.out.swap).swap⟩
        case measure => simp [intOf]; omega
      | true =>
        have hR := HY.out k wr emp hlt ht (hS.cast (by rw [sep_emp]))
        obtain ⟨fn2, tmps2, assign2, body2, hy, hR⟩ := hR
        have HR2 := Lib.hid hR
        clear hR hS ht hlt
        gi_wp2_with (refine ⟨trivial, ?_⟩; gi_at_call 151; refine (callsIn_wide.2 HH.out).mono ?_; rintro e w' ⟨rfl, rfl⟩)
        refine HR2.out.mono ?_
        rintro e W3 (⟨rfl, hS3⟩ | ⟨rfl, hS3⟩)
        · have HT := Lib.hid (hS3.cast (show _ = bu bx s * H (k + 1) by rw [sep_emp]))
          clear hS3 HR2 hy
          gi_wp2
          go_roundw
          case rel => exact ⟨k + 1, by omega, by go_num, HT.out⟩
          case measure => simp [intOf]; omega
        · have HT := Lib.hid (hS3.cast (sep_emp S))
          clear hS3 HR2 hy
          gi_wp2
          refine bodyPost_ret (results_none rfl _ _ _) rfl ?_
          exact ⟨⟨_, rfl⟩, .inr HT.out⟩
    · obtain rfl : k = 8 := by omega
      have HT := Lib.hid hS
      clear hS
      gi_wp2
      go_end0
      exact ⟨⟨_, rfl⟩, .inl HT.out⟩
end
end Go.Proofs.YtdbppfcilaajaaaGreat.Nu

namespace Go.Proofs.YtdbppfcilaajaaaGreat.Nu
open Go.RowKit Rq Gq
attribute [local go_sem] Oper.semAt_some
set_option linter.unusedVariables false
set_option linter.unusedSimpArgs false

/-- The Ps of a set. -/
def thereP (s : Nat) : List Nat := (List.range 8).filter fun i : Nat => hasB s i
def cntP (s k : Nat) : Nat := ((List.range k).filter fun i : Nat => hasB s i).length
theorem ones_len : ∀ s : Fin 256, Lib.onesCount s.val = (thereP s.val).length := by decide +kernel
theorem there_at : ∀ (s : Fin 256) (k : Fin 8), hasB s.val (k.val : Int) = true → (thereP s.val)[cntP s.val k.val]? = some k.val := by decide +kernel
theorem cnt_no {s k : Nat} (h : hasB s k = false) : cntP s (k + 1) = cntP s k := by
  unfold cntP
  rw [List.range_succ, List.filter_append]
  simp [h]
theorem cnt_yes {s k : Nat} (h : hasB s k = true) : cntP s (k + 1) = cntP s k + 1 := by
  unfold cntP
  rw [List.range_succ, List.filter_append]
  simp [h]
/-- Which one comes at a place. -/
def atR (m : Nat) (pick : Int) : Nat := ((pick.tmod m + m).tmod m).toNat
def nthI (s : Nat) (pick : Int) : Int := ((thereP s)[atR (thereP s).length pick]?.getD 0 : Nat)
theorem atR_lt {m : Nat} (hm : 0 < m) (pick : Int) : 0 ≤ (pick.tmod m + m).tmod m ∧ (pick.tmod m + m).tmod m < m ∧ -(m : Int) < pick.tmod m ∧ pick.tmod m < m := by
  have h1 : -(m : Int) < pick.tmod m ∧ pick.tmod m < m := by
    have := Int.tmod_lt_of_pos pick (show (0 : Int) < m by omega)
    have h2 := Int.lt_tmod_of_pos pick (show (0 : Int) < m by omega)
    omega
  have h3 : (0 : Int) ≤ pick.tmod m + m := by omega
  refine ⟨Int.tmod_nonneg _ h3, Int.tmod_lt_of_pos _ (by omega), h1.1, h1.2⟩
section
variable {w0 w : World} {F : Hp} {s : Nat}
abbrev b3n (b : Nat) (v : Value) : Hp := pc b 3 [v]
abbrev b5n (b : Nat) (v : Value) : Hp := pc b 4 [v]
set_option maxRecDepth 100000 in
set_option maxHeartbeats 8000000 in
theorem num_nth_at (hs : s < 256) (h : Sat w0 F w) (hm : thereP s ≠ []) (pick : Int) :
    Calls Tryz.prog 153 #[.int .u8 s, vi pick] w fun e w' => e = .returned (.tuple #[vi (nthI s pick), .bool true]) ∧ Sat w0 F w' := by
  have hc := num_count s hs
  obtain ⟨m, hml⟩ : ∃ m, (thereP s).length = m := ⟨_, rfl⟩
  have hm0 : 0 < m := by rw [← hml]; exact List.length_pos_iff.2 hm
  have hm8 : m ≤ 8 := by rw [← hml]; exact Nat.le_trans (List.length_filter_le _ _) (by simp)
  rw [ones_len ⟨s, hs⟩, show (thereP (⟨s, hs⟩ : Fin 256).val).length = m from hml] at hc
  have HC := Lib.hid hc
  obtain ⟨e1, e2, e3, e4⟩ := atR_lt hm0 pick
  obtain ⟨r, hr⟩ := Int.eq_ofNat_of_zero_le e1
  have hrm : r < m := by omega
  have hres : ∀ k : Nat, k < 8 → hasB s k = true → cntP s k = r → nthI s pick = k := fun k hk hb hcr => by
    have h1 := there_at ⟨s, hs⟩ ⟨k, hk⟩ hb
    dsimp only at h1
    unfold nthI atR
    rw [hml, hr, Int.toNat_natCast, ← hcr, h1]
    rfl
  have hall : cntP s 8 = m := hml
  obtain ⟨t1, ht1⟩ : ∃ t, pick.tmod m = t := ⟨_, rfl⟩
  rw [ht1] at e3 e4 hr
  have hmz : ((m : Int) == 0) = false := by
    rw [beq_eq_false_iff_ne]
    omega
  have hmz2 : ¬ (m : Int) = 0 := by omega
  have hw1 : IntKind.i64.wrap t1 = t1 := IntWalk.i64_in _ (by omega)
  have hw2 : IntKind.i64.wrap (t1 + m) = t1 + m := IntWalk.i64_in _ (by omega)
  have hw3 : IntKind.i64.wrap (r : Int) = r := IntWalk.i64_in _ (by omega)
  have hB : Sat w0 (b5n (w.heap.size + 2) (.bool false) * (b3n (w.heap.size + 1) (vi 0) * (b3n w.heap.size (vi pick) * F))) (((w.alloc (.cells #[vi pick] 3)).alloc (.cells #[vi 0] 3)).alloc (.cells #[.bool false] 4)) := by
    have h4 := ((h.alloc (.cells #[vi pick] 3)).alloc (.cells #[vi 0] 3)).alloc (.cells #[.bool false] 4)
    simp only [World.size_alloc] at h4
    exact h4
  have c0 := hB.pull3.cell 0 rfl
  have f0 := hB.pull3.free 0
  have H4 := Lib.hid hB.pull3
  have HRES := Lib.hid hres
  have HALL := Lib.hid hall
  clear h hc hB hres hall hml e1 e2 hm
  generalize hwb : ((w.alloc (.cells #[vi pick] 3)).alloc (.cells #[vi 0] 3)).alloc (.cells #[.bool false] 4) = wb at *
  generalize hb1 : w.heap.size = b at *
  have HW := Lib.hid hwb
  have HB1 := Lib.hid hb1
  clear hwb hb1
  refine (callsIn_wide (n := 9)).1 ?_
  refine callsIn_of_wp_marks Tryz.func153 rfl trivial ?_ rfl
  simp only [Tryz.ntmps153, List.size_toArray, List.length_cons, List.length_nil, Nat.reduceAdd, Nat.reduceSub, Array.replicate_succ, Array.replicate_zero, List.push_toArray, List.append_toArray, List.nil_append, List.cons_append]
  gi_wp2_with fail
  refine ⟨trivial, ?_⟩
  rw [HW.out, HB1.out]
  refine (callsIn_wide.2 (HC.out _)).mono ?_
  rintro e w' ⟨rfl, rfl⟩
  gi_wp2_with fail
  refine ⟨trivial, ?_⟩
  have h5 : Sat w0 (b3n b (vi r) * (b3n (b + 1) (vi 0) * (b5n (b + 2) (.bool false) * F))) (wb.setCell ⟨b, 0, none⟩ (vi r)) := (show Sat w0 (b3n b (vi r) * _) _ from H4.out.store 0 (vi r)).cast (by
    show b3n b (vi r) * (b5n (b + 2) (.bool false) * (b3n (b + 1) (vi 0) * F)) = _
    ac_rfl)
  refine (callsIn_wide.2 (num_all (s := s) h5)).mono ?_
  rintro e w1 ⟨bx, rfl, hS⟩
  have h1 : Sat w0 (bu bx s * (b3n b (vi ((r : Int) - (cntP s 0 : Nat))) * (b3n (b + 1) (vi 0) * (b5n (b + 2) (.bool false) * given (cntP s 0 ≤ r) F)))) w1 := by
    refine (Sat.givenI (p := cntP s 0 ≤ r) (Nat.zero_le _) (A := F) (F := bu bx s * (b3n b (vi r) * (b3n (b + 1) (vi 0) * b5n (b + 2) (.bool false)))) (hS.cast ?_)).cast ?_
    · ac_rfl
    · rw [show ((r : Int) - (cntP s 0 : Nat)) = r by show (r : Int) - 0 = r; omega]
      ac_rfl
  have H1 := Lib.hid h1
  clear hS h1 h5 c0 f0
  gi_wp2
  refine wpIn_act ?_
  intro a0 ha0
  refine wpIn_range_stop (H' := bu bx s * (b3n b (vi ((r : Int) - (cntP s 8 : Nat))) * (b3n (b + 1) (vi 0) * (b5n (b + 2) (.bool false) * given (cntP s 8 ≤ r) F)))) (S := fun c => given (c = .ret) (b3n (b + 1) (vi (nthI s pick)) * (b5n (b + 2) (.bool true) * F))) rfl (by omega) (gf := 234) (lb := #[vp bx]) (by rw [ha0]; rfl) trivial (enters_of Tryz.func234 (by kernel_rfl) rfl) H1.out ?call ?done ?stop
  case call =>
    intro fn ll DD R Rd W hfn hR hRd' hS
    have hS : Sat w0 (bu bx s * (pt ll R * (pt DD dmark * (b3n b (vi ((r : Int) - (cntP s 0 : Nat))) * (b3n (b + 1) (vi 0) * (b5n (b + 2) (.bool false) * given (cntP s 0 ≤ r) F)))))) W := hS.cast (by ac_rfl)
    refine (num_all1 8 (by omega) hs (fun k => pt ll R * (pt DD dmark * (b3n b (vi ((r : Int) - (cntP s k : Nat))) * (b3n (b + 1) (vi 0) * (b5n (b + 2) (.bool false) * given (cntP s k ≤ r) F))))) (ex fun c => pt ll (Rd c) * (pt DD dmark * given (c = .ret) (b3n (b + 1) (vi (nthI s pick)) * (b5n (b + 2) (.bool true) * F)))) bx ll ?skip ?round hS).mono ?back
    case back =>
      rintro e W' ⟨he, h2 | h2⟩
      · exact ⟨he, .inl (h2.cast (by ac_rfl))⟩
      · obtain ⟨c, h3⟩ := (h2.cast (sep_emp _).symm).exE
        exact ⟨he, .inr ⟨c, h3.cast (sep_emp _)⟩⟩
    case skip =>
      intro k W2 F2 hk hb hS2
      rw [cnt_no hb]
      exact hS2
    case round =>
      intro k W2 F2 hk hb hS2
      obtain ⟨hle, h6⟩ := (hS2.cast (show _ = given (cntP s k ≤ r) F * (b3n b (vi ((r : Int) - (cntP s k : Nat))) * (b3n (b + 1) (vi 0) * (b5n (b + 2) (.bool false) * (bu bx s * (pt ll R * (pt DD dmark * F2)))))) by ac_rfl)).givenE
      have h8 : Sat w0 (pt ll R * (b3n b (vi ((r : Int) - (cntP s k : Nat))) * (b3n (b + 1) (vi 0) * (b5n (b + 2) (.bool false) * (bu bx s * (F * (pt DD dmark * F2))))))) W2 := h6.cast (by ac_rfl)
      have H8 := Lib.hid h8
      have hr1 := HRES.out k hk hb
      have hcy := cnt_yes hb
      clear hS hS2 h6 h8
      have hY := yield_stop (P := Tryz.prog) (G := Fence.wide) (n := 8 - 1) (args := #[vi k]) (X' := (b3n b (vi ((r : Int) - (cntP s (k + 1) : Nat))) * (b3n (b + 1) (vi 0) * (b5n (b + 2) (.bool false) * given (cntP s (k + 1) ≤ r) F))) * (bu bx s * (pt DD dmark * F2)))
        (S := fun c => given (c = .ret) (b3n (b + 1) (vi (nthI s pick)) * (b5n (b + 2) (.bool true) * F)) * (pt DD dmark * F2))
        (A := fun a' W' => a' = { tmps := (a0.tmps.setIfInBounds 21 (vi k)).setIfInBounds 7 (vi k), defers := [] } ∧ W' = W2) hfn rfl hR hRd' H8.out ?ha ?assign ?body
      case ha =>
        rintro a' W' ⟨_, rfl⟩
        exact H8.out.blk.1
      case assign =>
        intro K hK
        have HK := Lib.hid hK
        clear hK hR hRd'
        subst ha0
        gi_wp2
        exact HK.out _ _ ⟨by simp, rfl⟩
      case body =>
        rintro Bo a' W' ⟨rfl, rfl⟩
        have h5 : Sat w0 (pt ll Bo * _) _ := H8.out.putObj (o' := Bo)
        clear hR hRd' H8
        subst ha0
        simp only [List.setIfInBounds_toArray, List.set_cons_succ, List.set_cons_zero]
        generalize (W'.putObj ll Bo) = W3 at *
        obtain ⟨x, hx⟩ : ∃ x : Int, (r : Int) - (cntP s k : Nat) = x := ⟨_, rfl⟩
        rw [hx] at h5
        have x0 := h5.pull2.cell 0 rfl
        have fx := h5.pull2.free 0
        by_cases hxz : x = 0
        · have hnt := hr1 (by omega)
          rw [hnt]
          subst hxz
          have o0 := h5.pull3.cell 0 rfl
          have of0 := h5.pull3.free 0
          have h6 : Sat w0 (b3n (b + 1) (vi k) * _) _ := h5.pull3.store 0 (vi k)
          have p0 := h6.pull4.cell 0 rfl
          have pf := h6.pull4.free 0
          have h7 : Sat w0 (b5n (b + 2) (.bool true) * _) _ := h6.pull4.store 0 (.bool true)
          have H7 := Lib.hid (show ∀ cc : Code, cc = .ret → Sat w0 (pt ll Bo * (given (cc = .ret) (b3n (b + 1) (vi k) * (b5n (b + 2) (.bool true) * F)) * (pt DD dmark * F2))) _ from fun cc hcc => (Sat.givenI (p := cc = .ret) hcc (A := b3n (b + 1) (vi k) * (b5n (b + 2) (.bool true) * F)) (F := pt ll Bo * (pt DD dmark * F2)) ((h7.cast (show _ = b3n b (vi 0) * (bu bx s * ((b3n (b + 1) (vi k) * (b5n (b + 2) (.bool true) * F)) * (pt ll Bo * (pt DD dmark * F2)))) by ac_rfl)).dropL.dropL)).cast (by ac_rfl))
          clear h5 h6 h7 hr1 hcy hle hx hnt
          gi_wp2
          exact H7.out .ret rfl
        · have hxz2 : (x == 0) = false := by
            rw [beq_eq_false_iff_ne]
            exact hxz
          have hwx : IntKind.i64.wrap (x - 1) = x - 1 := IntWalk.i64_in _ (by omega)
          have h6 : Sat w0 (b3n b (vi (x - 1)) * _) _ := h5.pull2.store 0 (vi (x - 1))
          have H6 := Lib.hid h6
          have HCY := Lib.hid hcy
          have HX := Lib.hid hx
          have HLE := Lib.hid (show cntP s k + 1 ≤ r by omega)
          clear h5 h6 hr1 hcy hle hx
          gi_wp2
          have hv : (r : Int) - (cntP s (k + 1) : Nat) = x - 1 := by
            have h1 := HX.out
            have h2 := HCY.out
            omega
          refine (Sat.givenI (p := cntP s (k + 1) ≤ r) (by have h1 := HCY.out; have h2 := HLE.out; omega) (A := F) (F := b3n b (vi (x - 1)) * (b3n (b + 1) (vi 0) * (b5n (b + 2) (.bool false) * (pt ll Bo * (bu bx s * (pt DD dmark * F2)))))) (H6.out.cast ?_)).cast ?_
          · ac_rfl
          · rw [hv]
            ac_rfl
      refine hY.mono ?_
      rintro e W' (⟨rfl, h9⟩ | ⟨c, rfl, h9⟩)
      · exact .inl ⟨rfl, h9.cast (by ac_rfl)⟩
      · refine .inr ⟨rfl, ?_⟩
        exact (Sat.exI (f := fun c => pt ll (Rd c) * (pt DD dmark * given (c = .ret) (b3n (b + 1) (vi (nthI s pick)) * (b5n (b + 2) (.bool true) * F)))) (F := F2) c (h9.cast (by ac_rfl)))
  case done =>
    intro DD W hS
    obtain ⟨hle, _⟩ := (hS.cast (show _ = given (cntP s 8 ≤ r) F * (pt DD dmark * (bu bx s * (b3n b (vi ((r : Int) - (cntP s 8 : Nat))) * (b3n (b + 1) (vi 0) * b5n (b + 2) (.bool false))))) by ac_rfl)).givenE
    rw [HALL.out] at hle
    omega
  case stop =>
    intro c DD W hS
    obtain ⟨hc, hS2⟩ := (hS.cast (sep_comm _ _)).givenE
    have h4 : Sat w0 (b3n (b + 1) (vi (nthI s pick)) * (b5n (b + 2) (.bool true) * (pt DD dmark * F))) W := hS2.cast (by ac_rfl)
    have hk := h4.pull3.blk.1
    have H4 := Lib.hid h4
    clear hS hS2 h4
    subst hc
    subst ha0
    gi_wp2
    refine ⟨by simp, .inl ⟨_, _, rfl, run_takeDeferred hk, ?_⟩⟩
    have h7 := H4.out.pull3.putObj (o' := .deferred none)
    have k0 := h7.pull2.cell 0 rfl
    have k1 := h7.pull3.cell 0 rfl
    exact ⟨.tuple #[vi (nthI s pick), .bool true], by simp [results, Tryz.f153, go_sem, k0, k1], rfl, h7.dropL.dropL.dropL⟩
end
end Go.Proofs.YtdbppfcilaajaaaGreat.Nu

namespace Go.Proofs.YtdbppfcilaajaaaGreat.Pc
open Go.RowKit Rq Gq Nu
set_option linter.unusedVariables false
set_option linter.unusedSimpArgs false

section
variable {w0 w : World} {F : Hp} {D : Ad} {p : Nat → Pl} {gx : List Int}
/-- The Ps of a set that are there. -/
def thereM (s n : Nat) : List Nat := thereP (s &&& maskN n)
set_option maxRecDepth 100000 in
set_option maxHeartbeats 2000000 in
theorem pl_put_ring_out (h : Sat w0 (plB D p gx * F) w) (ho : D.Ok) (g : Int) {s : Nat} (hs : s < 256) (by_ pick : Int) (hby : inP D.n by_ = false) (k : Nat) (hk : k < D.n) (hne : thereM s D.n ≠ []) (hki : nthI (s &&& maskN D.n) pick = k) (hl : gx.length ≤ 999000) :
    Calls Tryz.prog 84 #[vp D.s, vi g, .int .u8 s, vi by_, vi pick] w fun e w' => e = .returned (.tuple #[]) ∧ Sat w0 (plB D (up p k (putY D.m (p k) g)) (gx ++ spillL D.m (p k).xs g) * F) w' := by
  have HI := Lib.hid (pl_is h by_)
  rw [hby] at HI
  have HP := Lib.hid (pl_ps h)
  have HM := Lib.hid (num_mask D.n ho.n8)
  have hand := mask_and ⟨s, hs⟩ ⟨D.n, by have := ho.n8; omega⟩
  dsimp only at hand
  have hsm : s &&& maskN D.n < 256 := Nat.lt_of_le_of_lt Nat.and_le_left hs
  have hki2 : (k : Int) < (D.n : Int) := by omega
  have hn := num_nth_at hsm h hne pick
  rw [hki] at hn
  have HN := Lib.hid hn
  have HK := Lib.hid hk
  clear hn hki hne hk
  obtain ⟨mi, hmi⟩ : ∃ mi : Int, (maskN D.n : Int) = mi := ⟨_, rfl⟩
  rw [hmi] at hand HM
  obtain ⟨si, hsi⟩ : ∃ si : Int, ((s &&& maskN D.n : Nat) : Int) = si := ⟨_, rfl⟩
  rw [hsi] at hand HN
  clear h hby hmi hsi hsm
  go_enter Tryz.func84, Tryz.ntmps84
  go_wp2_with (first
    | (go_at_call 66; refine HI.out.mono ?_; rintro e w' ⟨rfl, rfl⟩)
    | (go_at_call 13; refine HP.out.mono ?_; rintro e w' ⟨rfl, rfl⟩)
    | (go_at_call 85; refine (HM.out _).mono ?_; rintro e w' ⟨rfl, rfl⟩)
    | (go_at_call 153; refine HN.out.mono ?_; rintro e w1 ⟨rfl, hS1⟩; have c1 := (pl_cells hS1).1; have r0 := (pl_row hS1 HK.out).1; unfold Ad.v at c1; have HQ := Lib.hid (pl_put_at hS1 ho k HK.out g hl); clear hS1)
    | (go_at_call 133; refine HQ.out.mono ?_; rintro e w2 ⟨v2, rfl, ⟨a2, n2, cp2, rfl⟩, _, hB⟩; have HB2 := Lib.hid hB; clear hB)
    | (go_at_call 29; refine HB2.out.mono ?_; rintro e w3 ⟨rfl, hS3⟩; have H3 := Lib.hid hS3; clear hS3))
  refine bodyPost_ret (results_none rfl _ _ _) rfl ?_
  exact ⟨rfl, H3.out⟩
end
end Go.Proofs.YtdbppfcilaajaaaGreat.Pc

namespace Go.Proofs.YtdbppfcilaajaaaGreat.Pc
open Go.RowKit Rq Gq
set_option linter.unusedVariables false
set_option linter.unusedSimpArgs false

section
variable {w0 w : World} {F : Hp} {D : Ad} {p : Nat → Pl} {gx : List Int}
theorem find_none {f : Nat → Bool} {n : Nat} (hno : ∀ j, j < n → f j = false) : (List.range n).find? f = none :=
  List.find?_eq_none.2 fun x hx => by rw [hno x (List.mem_range.1 hx)]; simp
theorem find_range {f : Nat → Bool} : ∀ {n k : Nat}, k < n → f k = true → (∀ j, j < k → f j = false) → (List.range n).find? f = some k
  | 0, k, hk, _, _ => by omega
  | n + 1, k, hk, h, hno => by
    rw [List.range_succ, List.find?_append]
    by_cases hn : k < n
    · rw [find_range hn h hno]
      rfl
    · obtain rfl : k = n := by omega
      rw [find_none hno, List.find?_cons_of_pos h]
      rfl
/-- Remove, in plain words. -/
def rmK (p : Nat → Pl) (n : Nat) (g : Int) : Option Nat := (List.range n).find? fun i => hasY (p i) g
def rmP (p : Nat → Pl) (n : Nat) (g : Int) : Nat → Pl := match rmK p n g with
  | some k => up p k (rmY (p k) g)
  | none => p
def rmG (p : Nat → Pl) (n : Nat) (gx : List Int) (g : Int) : List Int := match rmK p n g with
  | some _ => gx
  | none => gx.erase g
def rmH (p : Nat → Pl) (n : Nat) (gx : List Int) (g : Int) : Bool := match rmK p n g with
  | some _ => true
  | none => decide (g ∈ gx)
theorem rmY_no {y : Pl} {g : Int} (h : hasY y g = false) : rmY y g = y := by
  unfold hasY hasQ at h
  simp only [Bool.or_eq_false_iff] at h
  obtain ⟨h1, h2⟩ := h
  have h2 : g ∉ y.xs := by simpa using h2
  unfold rmY rmL rmB
  rw [if_neg (by simp [h1]), List.erase_of_not_mem h2]
  cases hb : y.b with
  | false => cases y; simp at hb; simp [hb]
  | true =>
    rw [hb, Bool.true_and] at h1
    cases y
    simp at hb
    simp [hb] at h1 ⊢
    exact h1
set_option maxRecDepth 100000 in
set_option maxHeartbeats 4000000 in
theorem pl_remove (h : Sat w0 (plB D p gx * F) w) (ho : D.Ok) (g : Int) (hl : gx.length ≤ 1000000) :
    Calls Tryz.prog 28 #[vp D.s, vi g] w fun e w' => e = .returned (.bool (rmH p D.n gx g)) ∧ Sat w0 (plB D (rmP p D.n g) (rmG p D.n gx g) * F) w' := by
  have HP := Lib.hid (pl_ps h)
  have H := Lib.hid h
  have hn1 := ho.n1
  have hn8 := ho.n8
  have hnp : (0 : Int) < (D.n : Int) := by omega
  clear h
  go_enter Tryz.func28, Tryz.ntmps28
  go_wp2_with (go_at_call 13; refine HP.out.mono ?_; rintro e w' ⟨rfl, rfl⟩)
  go_loopw [8] (fun i wr => ∃ j : Nat, j ≤ D.n ∧ i = vi j ∧ Hid (∀ j', j' < j → hasY (p j') g = false) ∧ Sat w0 (plB D p gx * F) wr) (fun i _ => D.n - (intOf i).toNat)
  case atStart => exact ⟨0, Nat.zero_le _, rfl, Lib.hid (fun j' h => absurd h (by omega)), H.out⟩
  case round =>
    clear H HP
    obtain ⟨j, hj, rfl, hno, hS⟩ := hrel
    by_cases hlt : j < D.n
    · have c1 := (pl_cells hS).1
      have r0 := (pl_row hS hlt).1
      have hji : (j : Int) < (D.n : Int) := by omega
      unfold Ad.v at c1
      have hq := q_remove' (pl_out hS hlt) g
      obtain ⟨t, ht⟩ : ∃ t, hasY (p j) g = t := ⟨_, rfl⟩
      rw [show hasQ (p j).xs (p j).z (p j).b g = t from ht] at hq
      have HQ := Lib.hid (hq.mono fun e w' hh => (⟨hh.1, pl_in (y := rmY (p j) g) hh.2 hlt rfl rfl rfl rfl⟩ : e = .returned (.bool t) ∧ Sat w0 (plB D (up p j (rmY (p j) g)) gx * F) w'))
      have HT := Lib.hid ht
      have HL := Lib.hid hlt
      clear hS hq ht hlt
      cases t with
      | true =>
        go_wp2_with (go_at_call 86; refine HQ.out.mono ?_; rintro e w1 ⟨rfl, hS1⟩; have H1 := Lib.hid hS1; clear hS1)
        go_ret
        have hk : rmK p D.n g = some j := find_range HL.out HT.out hno.out
        refine ⟨by simp only [rmH, hk]; rfl, ?_⟩
        simp only [rmP, rmG, hk]
        exact H1.out
      | false =>
        go_wp2_with (go_at_call 86; refine HQ.out.mono ?_; rintro e w1 ⟨rfl, hS1⟩; have H1 := Lib.hid hS1; clear hS1)
        go_roundw
        case rel =>
          refine ⟨j + 1, by omega, by go_num, Lib.hid (fun j' h => ?_), ?_⟩
          · by_cases hjj : j' = j
            · rw [hjj]
              exact HT.out
            · exact hno.out j' (by omega)
          · have h9 := H1.out
            rw [rmY_no HT.out, up_self] at h9
            exact h9
        case measure => simp [intOf]; omega
    · obtain rfl : j = D.n := by omega
      have hk : rmK p D.n g = none := find_none hno.out
      have e1 : rmH p D.n gx g = decide (g ∈ gx) := by unfold rmH; rw [hk]
      have e2 : rmP p D.n g = p := by unfold rmP; rw [hk]
      have e3 : rmG p D.n gx g = gx.erase g := by unfold rmG; rw [hk]
      obtain ⟨t, ht⟩ : ∃ t, decide (g ∈ gx) = t := ⟨_, rfl⟩
      rw [ht] at e1
      have E1 := Lib.hid e1
      have E2 := Lib.hid e2
      have E3 := Lib.hid e3
      have c2 := (pl_cells hS).2.2
      have HP := Lib.hid (pl_ps hS)
      have hg := g_remove (pl_glob hS) hl g
      rw [ht] at hg
      have HG := Lib.hid hg
      clear hS hno hk e1 e2 e3 ht hg
      go_wp2_with (first
        | (go_at_call 13; refine HP.out.mono ?_; rintro e w' ⟨rfl, rfl⟩)
        | (go_at_call 87; refine HG.out.mono ?_; rintro e w1 ⟨rfl, hS1⟩; have H1 := Lib.hid (pl_globI hS1); clear hS1))
      go_ret
      rw [E1.out, E2.out, E3.out]
      exact ⟨by first | rfl | simp, H1.out⟩
end
end Go.Proofs.YtdbppfcilaajaaaGreat.Pc
