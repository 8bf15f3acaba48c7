/-
  Package num: Nth. No statement is proved here.
-/
import Derived.Test.YtjgemfgneiaabaaGreatMg20
namespace Go.Proofs.YtjgemfgneiaabaaGreat.Nu
open Go.RowKit Rq Gq
attribute [local go_sem] Oper.semAt_some
set_option linter.unusedVariables false
set_option linter.unusedSimpArgs false

/-- The Ps of a set. -/
def thereP (s : Nat) : List Nat := (List.range 8).filter fun i : Nat => hasB s i
def cntP (s k : Nat) : Nat := ((List.range k).filter fun i : Nat => hasB s i).length
theorem ones_len : ∀ s : Fin 256, Lib.onesCount s.val = (thereP s.val).length := by decide +kernel
theorem there_at : ∀ (s : Fin 256) (k : Fin 8), hasB s.val (k.val : Int) = true → (thereP s.val)[cntP s.val k.val]? = some k.val := by decide +kernel
theorem cnt_no {s k : Nat} (h : hasB s k = false) : cntP s (k + 1) = cntP s k := by
  unfold cntP
  rw [List.range_succ, List.filter_append]
  simp [h]
theorem cnt_yes {s k : Nat} (h : hasB s k = true) : cntP s (k + 1) = cntP s k + 1 := by
  unfold cntP
  rw [List.range_succ, List.filter_append]
  simp [h]
/-- Which one comes at a place. -/
def atR (m : Nat) (pick : Int) : Nat := ((pick.tmod m + m).tmod m).toNat
def nthI (s : Nat) (pick : Int) : Int := ((thereP s)[atR (thereP s).length pick]?.getD 0 : Nat)
theorem atR_lt {m : Nat} (hm : 0 < m) (pick : Int) : 0 ≤ (pick.tmod m + m).tmod m ∧ (pick.tmod m + m).tmod m < m ∧ -(m : Int) < pick.tmod m ∧ pick.tmod m < m := by
  have h1 : -(m : Int) < pick.tmod m ∧ pick.tmod m < m := by
    have := Int.tmod_lt_of_pos pick (show (0 : Int) < m by omega)
    have h2 := Int.lt_tmod_of_pos pick (show (0 : Int) < m by omega)
    omega
  have h3 : (0 : Int) ≤ pick.tmod m + m := by omega
  refine ⟨Int.tmod_nonneg _ h3, Int.tmod_lt_of_pos _ (by omega), h1.1, h1.2⟩
section
variable {w0 w : World} {F : Hp} {s : Nat}
abbrev b3n (b : Nat) (v : Value) : Hp := pc b 3 [v]
abbrev b5n (b : Nat) (v : Value) : Hp := pc b 4 [v]
set_option maxRecDepth 100000 in
set_option maxHeartbeats 4000000 in
theorem num_nth_no (hs : s < 256) (h : Sat w0 F w) (hm : thereP s = []) (pick : Int) :
    Calls Tryz.prog 48 #[.int .u8 s, vi pick] w fun e w' => e = .returned (.tuple #[vi 0, .bool false]) ∧ Sat w0 F w' := by
  have hc := num_count s hs
  rw [ones_len ⟨s, hs⟩, show thereP (⟨s, hs⟩ : Fin 256).val = [] from hm] at hc
  have HC := Lib.hid hc
  have h4 := ((h.alloc (.cells #[vi pick] 3)).alloc (.cells #[vi 0] 3)).alloc (.cells #[.bool false] 4)
  simp only [World.size_alloc] at h4
  have h4 : Sat w0 (b3n (w.heap.size + 1) (vi 0) * (b5n (w.heap.size + 2) (.bool false) * (b3n w.heap.size (vi pick) * F))) _ := h4.cast (show _ = b3n (w.heap.size + 1) (vi 0) * (b5n (w.heap.size + 2) (.bool false) * (b3n w.heap.size (vi pick) * F)) by show b5n (w.heap.size + 2) (.bool false) * (b3n (w.heap.size + 1) (vi 0) * (b3n w.heap.size (vi pick) * F)) = _; ac_rfl)
  have c0 := h4.cell 0 rfl
  have f0 := h4.free 0
  have c1 := h4.pull2.cell 0 rfl
  have f1 := h4.pull2.free 0
  have H6 := Lib.hid h4.dropL.dropL.dropL
  clear h hc h4 hm
  go_enter Tryz.func48, Tryz.ntmps48
  go_wp2_with (go_at_call 91; refine (HC.out _).mono ?_; rintro e w' ⟨rfl, rfl⟩)
  refine bodyPost_ret (v := .tuple #[vi 0, .bool false]) (by simp [results, Tryz.f48, go_sem, c0, c1]) rfl ?_
  exact ⟨rfl, H6.out⟩
set_option maxRecDepth 100000 in
set_option maxHeartbeats 8000000 in
theorem num_nth_at (hs : s < 256) (h : Sat w0 F w) (hm : thereP s ≠ []) (pick : Int) :
    Calls Tryz.prog 48 #[.int .u8 s, vi pick] w fun e w' => e = .returned (.tuple #[vi (nthI s pick), .bool true]) ∧ Sat w0 F w' := by
  have hc := num_count s hs
  obtain ⟨m, hml⟩ : ∃ m, (thereP s).length = m := ⟨_, rfl⟩
  have hm0 : 0 < m := by rw [← hml]; exact List.length_pos_iff.2 hm
  have hm8 : m ≤ 8 := by rw [← hml]; exact Nat.le_trans (List.length_filter_le _ _) (by simp)
  rw [ones_len ⟨s, hs⟩, show (thereP (⟨s, hs⟩ : Fin 256).val).length = m from hml] at hc
  have HC := Lib.hid hc
  obtain ⟨e1, e2, e3, e4⟩ := atR_lt hm0 pick
  obtain ⟨r, hr⟩ := Int.eq_ofNat_of_zero_le e1
  have hrm : r < m := by omega
  have hres : ∀ k : Nat, k < 8 → hasB s k = true → cntP s k = r → nthI s pick = k := fun k hk hb hcr => by
    have h1 := there_at ⟨s, hs⟩ ⟨k, hk⟩ hb
    dsimp only at h1
    unfold nthI atR
    rw [hml, hr, Int.toNat_natCast, ← hcr, h1]
    rfl
  have hall : cntP s 8 = m := hml
  obtain ⟨t1, ht1⟩ : ∃ t, pick.tmod m = t := ⟨_, rfl⟩
  rw [ht1] at e3 e4 hr
  have hmz : ((m : Int) == 0) = false := by
    rw [beq_eq_false_iff_ne]
    omega
  have hmz2 : ¬ (m : Int) = 0 := by omega
  have hw1 : IntKind.i64.wrap t1 = t1 := IntWalk.i64_in _ (by omega)
  have hw2 : IntKind.i64.wrap (t1 + m) = t1 + m := IntWalk.i64_in _ (by omega)
  have hw3 : IntKind.i64.wrap (r : Int) = r := IntWalk.i64_in _ (by omega)
  have hB : Sat w0 (b5n (w.heap.size + 2) (.bool false) * (b3n (w.heap.size + 1) (vi 0) * (b3n w.heap.size (vi pick) * F))) (((w.alloc (.cells #[vi pick] 3)).alloc (.cells #[vi 0] 3)).alloc (.cells #[.bool false] 4)) := by
    have h4 := ((h.alloc (.cells #[vi pick] 3)).alloc (.cells #[vi 0] 3)).alloc (.cells #[.bool false] 4)
    simp only [World.size_alloc] at h4
    exact h4
  have c0 := hB.pull3.cell 0 rfl
  have f0 := hB.pull3.free 0
  have H4 := Lib.hid hB.pull3
  have HRES := Lib.hid hres
  have HALL := Lib.hid hall
  clear h hc hB hres hall hml e1 e2 hm
  generalize hwb : ((w.alloc (.cells #[vi pick] 3)).alloc (.cells #[vi 0] 3)).alloc (.cells #[.bool false] 4) = wb at *
  generalize hb1 : w.heap.size = b at *
  have HW := Lib.hid hwb
  have HB1 := Lib.hid hb1
  clear hwb hb1
  refine (callsIn_wide (n := 9)).1 ?_
  refine callsIn_of_wp_marks Tryz.func48 rfl trivial ?_ rfl
  simp only [Tryz.ntmps48, List.size_toArray, List.length_cons, List.length_nil, Nat.reduceAdd, Nat.reduceSub, Array.replicate_succ, Array.replicate_zero, List.push_toArray, List.append_toArray, List.nil_append, List.cons_append]
  gi_wp2_with fail
  refine ⟨trivial, ?_⟩
  rw [HW.out, HB1.out]
  refine (callsIn_wide.2 (HC.out _)).mono ?_
  rintro e w' ⟨rfl, rfl⟩
  gi_wp2_with fail
  refine ⟨trivial, ?_⟩
  have h5 : Sat w0 (b3n b (vi r) * (b3n (b + 1) (vi 0) * (b5n (b + 2) (.bool false) * F))) (wb.setCell ⟨b, 0, none⟩ (vi r)) := (show Sat w0 (b3n b (vi r) * _) _ from H4.out.store 0 (vi r)).cast (by
    show b3n b (vi r) * (b5n (b + 2) (.bool false) * (b3n (b + 1) (vi 0) * F)) = _
    ac_rfl)
  refine (callsIn_wide.2 (num_all (s := s) h5)).mono ?_
  rintro e w1 ⟨bx, rfl, hS⟩
  have h1 : Sat w0 (bu bx s * (b3n b (vi ((r : Int) - (cntP s 0 : Nat))) * (b3n (b + 1) (vi 0) * (b5n (b + 2) (.bool false) * given (cntP s 0 ≤ r) F)))) w1 := by
    refine (Sat.givenI (p := cntP s 0 ≤ r) (Nat.zero_le _) (A := F) (F := bu bx s * (b3n b (vi r) * (b3n (b + 1) (vi 0) * b5n (b + 2) (.bool false)))) (hS.cast ?_)).cast ?_
    · ac_rfl
    · rw [show ((r : Int) - (cntP s 0 : Nat)) = r by show (r : Int) - 0 = r; omega]
      ac_rfl
  have H1 := Lib.hid h1
  clear hS h1 h5 c0 f0
  gi_wp2
  refine wpIn_act ?_
  intro a0 ha0
  refine wpIn_range_stop (H' := bu bx s * (b3n b (vi ((r : Int) - (cntP s 8 : Nat))) * (b3n (b + 1) (vi 0) * (b5n (b + 2) (.bool false) * given (cntP s 8 ≤ r) F)))) (S := fun c => given (c = .ret) (b3n (b + 1) (vi (nthI s pick)) * (b5n (b + 2) (.bool true) * F))) rfl (by omega) (gf := 110) (lb := #[vp bx]) (by rw [ha0]; rfl) trivial (enters_of Tryz.func110 (by kernel_rfl) rfl) H1.out ?call ?done ?stop
  case call =>
    intro fn ll DD R Rd W hfn hR hRd' hS
    have hS : Sat w0 (bu bx s * (pt ll R * (pt DD dmark * (b3n b (vi ((r : Int) - (cntP s 0 : Nat))) * (b3n (b + 1) (vi 0) * (b5n (b + 2) (.bool false) * given (cntP s 0 ≤ r) F)))))) W := hS.cast (by ac_rfl)
    refine (num_all1 8 (by omega) hs (fun k => pt ll R * (pt DD dmark * (b3n b (vi ((r : Int) - (cntP s k : Nat))) * (b3n (b + 1) (vi 0) * (b5n (b + 2) (.bool false) * given (cntP s k ≤ r) F))))) (ex fun c => pt ll (Rd c) * (pt DD dmark * given (c = .ret) (b3n (b + 1) (vi (nthI s pick)) * (b5n (b + 2) (.bool true) * F)))) bx ll ?skip ?round hS).mono ?back
    case back =>
      rintro e W' ⟨he, h2 | h2⟩
      · exact ⟨he, .inl (h2.cast (by ac_rfl))⟩
      · obtain ⟨c, h3⟩ := (h2.cast (sep_emp _).symm).exE
        exact ⟨he, .inr ⟨c, h3.cast (sep_emp _)⟩⟩
    case skip =>
      intro k W2 F2 hk hb hS2
      rw [cnt_no hb]
      exact hS2
    case round =>
      intro k W2 F2 hk hb hS2
      obtain ⟨hle, h6⟩ := (hS2.cast (show _ = given (cntP s k ≤ r) F * (b3n b (vi ((r : Int) - (cntP s k : Nat))) * (b3n (b + 1) (vi 0) * (b5n (b + 2) (.bool false) * (bu bx s * (pt ll R * (pt DD dmark * F2)))))) by ac_rfl)).givenE
      have h8 : Sat w0 (pt ll R * (b3n b (vi ((r : Int) - (cntP s k : Nat))) * (b3n (b + 1) (vi 0) * (b5n (b + 2) (.bool false) * (bu bx s * (F * (pt DD dmark * F2))))))) W2 := h6.cast (by ac_rfl)
      have H8 := Lib.hid h8
      have hr1 := HRES.out k hk hb
      have hcy := cnt_yes hb
      clear hS hS2 h6 h8
      have hY := yield_stop (P := Tryz.prog) (G := Fence.wide) (n := 8 - 1) (args := #[vi k]) (X' := (b3n b (vi ((r : Int) - (cntP s (k + 1) : Nat))) * (b3n (b + 1) (vi 0) * (b5n (b + 2) (.bool false) * given (cntP s (k + 1) ≤ r) F))) * (bu bx s * (pt DD dmark * F2)))
        (S := fun c => given (c = .ret) (b3n (b + 1) (vi (nthI s pick)) * (b5n (b + 2) (.bool true) * F)) * (pt DD dmark * F2))
        (A := fun a' W' => a' = { tmps := (a0.tmps.setIfInBounds 21 (vi k)).setIfInBounds 7 (vi k), defers := [] } ∧ W' = W2) hfn rfl hR hRd' H8.out ?ha ?assign ?body
      case ha =>
        rintro a' W' ⟨_, rfl⟩
        exact H8.out.blk.1
      case assign =>
        intro K hK
        have HK := Lib.hid hK
        clear hK hR hRd'
        subst ha0
        gi_wp2
        exact HK.out _ _ ⟨by simp, rfl⟩
      case body =>
        rintro Bo a' W' ⟨rfl, rfl⟩
        have h5 : Sat w0 (pt ll Bo * _) _ := H8.out.putObj (o' := Bo)
        clear hR hRd' H8
        subst ha0
        simp only [List.setIfInBounds_toArray, List.set_cons_succ, List.set_cons_zero]
        generalize (W'.putObj ll Bo) = W3 at *
        obtain ⟨x, hx⟩ : ∃ x : Int, (r : Int) - (cntP s k : Nat) = x := ⟨_, rfl⟩
        rw [hx] at h5
        have x0 := h5.pull2.cell 0 rfl
        have fx := h5.pull2.free 0
        by_cases hxz : x = 0
        · have hnt := hr1 (by omega)
          rw [hnt]
          subst hxz
          have o0 := h5.pull3.cell 0 rfl
          have of0 := h5.pull3.free 0
          have h6 : Sat w0 (b3n (b + 1) (vi k) * _) _ := h5.pull3.store 0 (vi k)
          have p0 := h6.pull4.cell 0 rfl
          have pf := h6.pull4.free 0
          have h7 : Sat w0 (b5n (b + 2) (.bool true) * _) _ := h6.pull4.store 0 (.bool true)
          have H7 := Lib.hid (show ∀ cc : Code, cc = .ret → Sat w0 (pt ll Bo * (given (cc = .ret) (b3n (b + 1) (vi k) * (b5n (b + 2) (.bool true) * F)) * (pt DD dmark * F2))) _ from fun cc hcc => (Sat.givenI (p := cc = .ret) hcc (A := b3n (b + 1) (vi k) * (b5n (b + 2) (.bool true) * F)) (F := pt ll Bo * (pt DD dmark * F2)) ((h7.cast (show _ = b3n b (vi 0) * (bu bx s * ((b3n (b + 1) (vi k) * (b5n (b + 2) (.bool true) * F)) * (pt ll Bo * (pt DD dmark * F2)))) by ac_rfl)).dropL.dropL)).cast (by ac_rfl))
          clear h5 h6 h7 hr1 hcy hle hx hnt
          gi_wp2
          exact H7.out .ret rfl
        · have hxz2 : (x == 0) = false := by
            rw [beq_eq_false_iff_ne]
            exact hxz
          have hwx : IntKind.i64.wrap (x - 1) = x - 1 := IntWalk.i64_in _ (by omega)
          have h6 : Sat w0 (b3n b (vi (x - 1)) * _) _ := h5.pull2.store 0 (vi (x - 1))
          have H6 := Lib.hid h6
          have HCY := Lib.hid hcy
          have HX := Lib.hid hx
          have HLE := Lib.hid (show cntP s k + 1 ≤ r by omega)
          clear h5 h6 hr1 hcy hle hx
          gi_wp2
          have hv : (r : Int) - (cntP s (k + 1) : Nat) = x - 1 := by
            have h1 := HX.out
            have h2 := HCY.out
            omega
          refine (Sat.givenI (p := cntP s (k + 1) ≤ r) (by have h1 := HCY.out; have h2 := HLE.out; omega) (A := F) (F := b3n b (vi (x - 1)) * (b3n (b + 1) (vi 0) * (b5n (b + 2) (.bool false) * (pt ll Bo * (bu bx s * (pt DD dmark * F2)))))) (H6.out.cast ?_)).cast ?_
          · ac_rfl
          · rw [hv]
            ac_rfl
      refine hY.mono ?_
      rintro e W' (⟨rfl, h9⟩ | ⟨c, rfl, h9⟩)
      · exact .inl ⟨rfl, h9.cast (by ac_rfl)⟩
      · refine .inr ⟨rfl, ?_⟩
        exact (Sat.exI (f := fun c => pt ll (Rd c) * (pt DD dmark * given (c = .ret) (b3n (b + 1) (vi (nthI s pick)) * (b5n (b + 2) (.bool true) * F)))) (F := F2) c (h9.cast (by ac_rfl)))
  case done =>
    intro DD W hS
    obtain ⟨hle, _⟩ := (hS.cast (show _ = given (cntP s 8 ≤ r) F * (pt DD dmark * (bu bx s * (b3n b (vi ((r : Int) - (cntP s 8 : Nat))) * (b3n (b + 1) (vi 0) * b5n (b + 2) (.bool false))))) by ac_rfl)).givenE
    rw [HALL.out] at hle
    omega
  case stop =>
    intro c DD W hS
    obtain ⟨hc, hS2⟩ := (hS.cast (sep_comm _ _)).givenE
    have h4 : Sat w0 (b3n (b + 1) (vi (nthI s pick)) * (b5n (b + 2) (.bool true) * (pt DD dmark * F))) W := hS2.cast (by ac_rfl)
    have hk := h4.pull3.blk.1
    have H4 := Lib.hid h4
    clear hS hS2 h4
    subst hc
    subst ha0
    gi_wp2
    refine ⟨by simp, .inl ⟨_, _, rfl, run_takeDeferred hk, ?_⟩⟩
    have h7 := H4.out.pull3.putObj (o' := .deferred none)
    have k0 := h7.pull2.cell 0 rfl
    have k1 := h7.pull3.cell 0 rfl
    exact ⟨.tuple #[vi (nthI s pick), .bool true], by simp [results, Tryz.f48, go_sem, k0, k1], rfl, h7.dropL.dropL.dropL⟩
end
end Go.Proofs.YtjgemfgneiaabaaGreat.Nu
