/-
  The reference's places: Where. No statement is proved here.
-/
import Derived.Test.YtjgemfgneiaabaaGreatMg25
import Derived.Test.YtjgemfgneiaabaaGreatPm10
namespace Go.Proofs.YtjgemfgneiaabaaGreat.Pc
open Go.RowKit Rq Gq
set_option linter.unusedVariables false
set_option linter.unusedSimpArgs false

/-- The list that is looked through, of a P, for a kind. -/
def listR (p : Nat → Pl) (j k : Nat) : List Int := if j = 0 then nsOf (p k).g (p k).runs else if j = 1 then nsOf (p k).z (p k).b else (p k).xs
def lookR (p : Nat → Pl) (g : Int) (j k : Nat) : Bool := decide (g ∈ listR p j k)
def whR (p : Nat → Pl) (n : Nat) (g : Int) (j : Nat) : Option Nat := (List.range n).find? fun k => lookR p g j k
def whereR (p : Nat → Pl) (n : Nat) (gx : List Int) (g : Int) : Int × Int := match whR p n g 0 with
  | some k => (1, (k : Int))
  | none => match whR p n g 1 with
    | some k => (2, (k : Int))
    | none => match whR p n g 2 with
      | some k => (3, (k : Int))
      | none => if g ∈ gx then (4, 0) else (0, 0)
theorem ns_mem (z g : Int) (b : Bool) : decide (g ∈ nsOf z b) = (b && z == g) := by
  cases b with
  | false => simp [nsOf]
  | true =>
    simp only [nsOf, if_true, List.mem_singleton, Bool.true_and]
    by_cases h : g = z
    · subst h
      simp
    · have : (z == g) = false := beq_eq_false_iff_ne.2 (fun e => h e.symm)
      rw [this, decide_eq_false h]
theorem look_0 (p : Nat → Pl) (g : Int) (k : Nat) : lookR p g 0 k = look p g 0 k := ns_mem _ _ _
theorem look_1 (p : Nat → Pl) (g : Int) (k : Nat) : lookR p g 1 k = look p g 1 k := ns_mem _ _ _
theorem find_ext {f f' : Nat → Bool} : ∀ {l : List Nat}, (∀ x ∈ l, f x = f' x) → l.find? f = l.find? f'
  | [], _ => rfl
  | x :: r, h => by
    rw [List.find?_cons, List.find?_cons, h x (by simp), find_ext fun y hy => h y (by simp [hy])]
theorem where_ref (p : Nat → Pl) (n : Nat) (gx : List Int) (g : Int) : whereR p n gx g = whereV p n gx g := by
  have e0 : whR p n g 0 = whJ p n g 0 := find_ext fun k _ => look_0 p g k
  have e1 : whR p n g 1 = whJ p n g 1 := find_ext fun k _ => look_1 p g k
  unfold whereR whereV
  rw [e0, e1]
  cases h0 : whJ p n g 0 with
  | some k => rfl
  | none =>
    cases h1 : whJ p n g 1 with
    | some k => rfl
    | none =>
      have e2 : whR p n g 2 = whJ p n g 2 := find_ext fun k hk => by
        have hn := List.find?_eq_none.1 h1 k hk
        have hn : look p g 1 k = false := by simpa using hn
        have hn : ((p k).b && (p k).z == g) = false := hn
        show decide (g ∈ (p k).xs) = hasY (p k) g
        unfold hasY hasQ
        rw [hn, Bool.false_or]
      rw [e2]
      rfl
section
variable {w0 w : World} {F : Hp} {D : Ar} {p : Nat → Pl} {gx : List Int} {vG : Value} {vR : Nat → Value}
theorem pr_lists {k : Nat} (h : Sat w0 (prO D vG vR p gx * F) w) (hk : k < D.n) : ∃ vL vN, w.cell? ⟨D.q k, 0, none⟩ = some vL ∧ w.cell? ⟨D.q k, 2, none⟩ = some vN ∧ RdI w vL (p k).xs ∧ RdI w vN (nsOf (p k).z (p k).b) ∧ RdI w (vR k) (nsOf (p k).g (p k).runs) := by
  obtain ⟨vL, vN, h1⟩ := refQ_open (pr_out h hk)
  exact ⟨vL, vN, h1.cell 0 rfl, h1.cell 2 rfl, rsRdI h1.pull2, rsRdI h1.pull3, pr_rd h hk⟩
theorem pr_gl (h : Sat w0 (prO D vG vR p gx * F) w) : w.cell? ⟨D.a, 0, none⟩ = some vG ∧ RdI w vG gx := ⟨(pr_glob h).cell 0 rfl, rsRdI (pr_glob h).pull2⟩
set_option maxRecDepth 100000 in
set_option maxHeartbeats 8000000 in
theorem pr_where (h : Sat w0 (prO D vG vR p gx * F) w) (ho : D.Ok) (hx : ∀ k, k < D.n → (p k).xs.length ≤ D.m) (g : Int) (hl : gx.length ≤ 1000000) :
    Calls Tryz.prog 22 #[vp D.s, vi g] w fun e w' => e = .returned (.agg #[vi (whereV p D.n gx g).1, vi (whereV p D.n gx g).2]) ∧ Sat w0 (prO D vG vR p gx * F) w' := by
  rw [← where_ref]
  have h4 : Sat w0 (pc w.heap.size 39 [vi 0, vi 0] * (prO D vG vR p gx * F)) (w.alloc (.cells #[vi 0, vi 0] 39)) := h.alloc (.cells #[vi 0, vi 0] 39)
  have H4 := Lib.hid h4
  have HX := Lib.hid hx
  have hn8 := ho.n8
  have hm32 := ho.m32
  clear h h4 hx
  go_enter Tryz.func22, Tryz.ntmps22
  go_wp2
  go_loopw [5] (fun kd wr => ∃ j : Nat, j ≤ 3 ∧ kd = vi ((j : Int) + 1) ∧ Hid (∀ j', j' < j → whR p D.n g j' = none) ∧ Sat w0 (pc w.heap.size 39 [vi 0, vi 0] * (prO D vG vR p gx * F)) wr) (fun kd _ => 4 - (intOf kd).toNat)
  case atStart => exact ⟨0, by omega, rfl, Lib.hid (fun j h => by omega), H4.out⟩
  case round =>
    clear H4
    obtain ⟨j, hj, hkd, hno, hS⟩ := hrel
    obtain hj4 | hj4 | hj4 | hj4 : j = 0 ∨ j = 1 ∨ j = 2 ∨ j = 3 := by omega
    all_goals subst hj4
    · have hkd : _ = vi 1 := hkd
      subst hkd
      go_wp2
      go_loopw [6] (fun i wy => ∃ k : Nat, k ≤ D.n ∧ i = vi k ∧ Hid (∀ k', k' < k → lookR p g 0 k' = false) ∧ Sat w0 (pc w.heap.size 39 [vi 0, vi 0] * (prO D vG vR p gx * F)) wy) (fun i _ => D.n - (intOf i).toNat)
      case atStart => exact ⟨0, Nat.zero_le _, rfl, Lib.hid (fun k h => by omega), hS⟩
      case round =>
        clear hS
        obtain ⟨k, hk, rfl, hnk, hS⟩ := hrel
        have c1 := (pr_cells hS.dropL).1
        unfold Ar.v at c1
        by_cases hlt : k < D.n
        · obtain ⟨r0, r1, r2, r3⟩ := pr_row hS.dropL hlt
          obtain ⟨vL, vN, x0, x2, rL, rN, rR⟩ := pr_lists hS.dropL hlt
          have hki : (k : Int) < (D.n : Int) := by omega
          have hk0 : (0 : Int) ≤ (k : Int) := by omega
          have hxk := HX.out k hlt
          have HF := Lib.hid (ref_find g (listR p 0 k) _ _ (show RdI _ _ (listR p 0 k) from rR) (by show (nsOf _ _).length ≤ _; cases (p k).runs <;> simp [nsOf]))
          have HL := Lib.hid hlt
          obtain ⟨aR, cR, hvR⟩ := rR.len
          obtain ⟨aL, cL, hvL⟩ := rL.len
          obtain ⟨aN, cN, hvN⟩ := rN.len
          rw [hvR] at r1
          subst hvL hvN
          rw [hvR] at HF
          clear hvR rL rN rR r2 r3 hlt hxk
          generalize (nsOf (p k).g (p k).runs).length = nR at *
          generalize (nsOf (p k).z (p k).b).length = nN at *
          generalize (p k).xs.length = nL at *
          have H3 := Lib.hid hS
          by_cases hm : g ∈ listR p 0 k
          · have hf0 : 0 ≤ findI (listR p 0 k) g := find_yes hm
            have HH := Lib.hid (find_range (f := fun k => lookR p g 0 k) HL.out (decide_eq_true hm) hnk.out)
            have hkind : whereR p D.n gx g = (1, (k : Int)) := by
              have hj : whR p D.n g 0 = some k := HH.out
              unfold whereR
              rw [hj]
            have HK := Lib.hid hkind
            clear hm hS hkind
            generalize findI (listR p 0 k) g = fi at *
            have qa := H3.out.cell 0 rfl
            have qb := H3.out.cell 1 rfl
            have qf := H3.out.free 0
            have qf1 := H3.out.free 1
            have s1 := H3.out.store 0 (vi 1)
            have qc := s1.cell 1 rfl
            have qf2 := s1.free 1
            have s2 := s1.store 1 (vi k)
            have S2 := Lib.hid s2
            clear s1 s2
            go_wp2_with (go_at_call 78; refine HF.out.mono ?_; rintro e w' ⟨rfl, rfl⟩)
            refine bodyPost_ret (v := .agg #[vi 1, vi k]) (results_row1 rfl _ _ _ rfl S2.out.rangeN Tryz.underlying39 rfl (by kernel_rfl)) rfl ?_
            rw [HK.out]
            exact ⟨rfl, S2.out.dropL⟩
          · have HN := Lib.hid (find_not hm)
            rw [HN.out] at HF
            have hfl : Hid (lookR p g 0 k = false) := Lib.hid (decide_eq_false hm)
            clear hm hS
            go_wp2_with (go_at_call 78; refine HF.out.mono ?_; rintro e w' ⟨rfl, rfl⟩)
            go_roundw
            case rel =>
              (repeat apply Exists.intro)
              refine ⟨?_, rfl⟩
              refine ⟨k + 1, by have := HL.out; omega, by go_num, Lib.hid (fun k' h => ?_), H3.out⟩
              by_cases hkk : k' = k
              · rw [hkk]
                exact hfl.out
              · exact hnk.out k' (by omega)
            case measure => (have := HL.out; simp [intOf]; omega)
        · obtain rfl : k = D.n := by omega
          have HJ := Lib.hid (show whR p D.n g 0 = none from find_none hnk.out)
          have H3 := Lib.hid hS
          clear hS
          go_wp2
          go_roundw
          case rel =>
            refine ⟨0 + 1, by omega, by go_num, Lib.hid (fun j' h => ?_), H3.out⟩
            by_cases hjj : j' = 0
            · rw [hjj]
              exact HJ.out
            · exact hno.out j' (by omega)
          case measure => simp [intOf]
    · have hkd : _ = vi 2 := hkd
      subst hkd
      go_wp2
      go_loopw [6] (fun i wy => ∃ k : Nat, k ≤ D.n ∧ i = vi k ∧ Hid (∀ k', k' < k → lookR p g 1 k' = false) ∧ Sat w0 (pc w.heap.size 39 [vi 0, vi 0] * (prO D vG vR p gx * F)) wy) (fun i _ => D.n - (intOf i).toNat)
      case atStart => exact ⟨0, Nat.zero_le _, rfl, Lib.hid (fun k h => by omega), hS⟩
      case round =>
        clear hS
        obtain ⟨k, hk, rfl, hnk, hS⟩ := hrel
        have c1 := (pr_cells hS.dropL).1
        unfold Ar.v at c1
        by_cases hlt : k < D.n
        · obtain ⟨r0, r1, r2, r3⟩ := pr_row hS.dropL hlt
          obtain ⟨vL, vN, x0, x2, rL, rN, rR⟩ := pr_lists hS.dropL hlt
          have hki : (k : Int) < (D.n : Int) := by omega
          have hk0 : (0 : Int) ≤ (k : Int) := by omega
          have hxk := HX.out k hlt
          have HF := Lib.hid (ref_find g (listR p 1 k) _ _ (show RdI _ _ (listR p 1 k) from rN) (by show (nsOf _ _).length ≤ _; cases (p k).b <;> simp [nsOf]))
          have HL := Lib.hid hlt
          obtain ⟨aR, cR, hvR⟩ := rR.len
          obtain ⟨aL, cL, hvL⟩ := rL.len
          obtain ⟨aN, cN, hvN⟩ := rN.len
          rw [hvR] at r1
          subst hvL hvN
          skip
          clear hvR rL rN rR r2 r3 hlt hxk
          generalize (nsOf (p k).g (p k).runs).length = nR at *
          generalize (nsOf (p k).z (p k).b).length = nN at *
          generalize (p k).xs.length = nL at *
          have H3 := Lib.hid hS
          by_cases hm : g ∈ listR p 1 k
          · have hf0 : 0 ≤ findI (listR p 1 k) g := find_yes hm
            have HH := Lib.hid (find_range (f := fun k => lookR p g 1 k) HL.out (decide_eq_true hm) hnk.out)
            have hkind : whereR p D.n gx g = (2, (k : Int)) := by
              have hj : whR p D.n g 1 = some k := HH.out
              unfold whereR
              rw [hno.out 0 (by omega)]; rw [hj]
            have HK := Lib.hid hkind
            clear hm hS hkind
            generalize findI (listR p 1 k) g = fi at *
            have qa := H3.out.cell 0 rfl
            have qb := H3.out.cell 1 rfl
            have qf := H3.out.free 0
            have qf1 := H3.out.free 1
            have s1 := H3.out.store 0 (vi 2)
            have qc := s1.cell 1 rfl
            have qf2 := s1.free 1
            have s2 := s1.store 1 (vi k)
            have S2 := Lib.hid s2
            clear s1 s2
            go_wp2_with (go_at_call 78; refine HF.out.mono ?_; rintro e w' ⟨rfl, rfl⟩)
            refine bodyPost_ret (v := .agg #[vi 2, vi k]) (results_row1 rfl _ _ _ rfl S2.out.rangeN Tryz.underlying39 rfl (by kernel_rfl)) rfl ?_
            rw [HK.out]
            exact ⟨rfl, S2.out.dropL⟩
          · have HN := Lib.hid (find_not hm)
            rw [HN.out] at HF
            have hfl : Hid (lookR p g 1 k = false) := Lib.hid (decide_eq_false hm)
            clear hm hS
            go_wp2_with (go_at_call 78; refine HF.out.mono ?_; rintro e w' ⟨rfl, rfl⟩)
            go_roundw
            case rel =>
              (repeat apply Exists.intro)
              refine ⟨?_, rfl⟩
              refine ⟨k + 1, by have := HL.out; omega, by go_num, Lib.hid (fun k' h => ?_), H3.out⟩
              by_cases hkk : k' = k
              · rw [hkk]
                exact hfl.out
              · exact hnk.out k' (by omega)
            case measure => (have := HL.out; simp [intOf]; omega)
        · obtain rfl : k = D.n := by omega
          have HJ := Lib.hid (show whR p D.n g 1 = none from find_none hnk.out)
          have H3 := Lib.hid hS
          clear hS
          go_wp2
          go_roundw
          case rel =>
            refine ⟨1 + 1, by omega, by go_num, Lib.hid (fun j' h => ?_), H3.out⟩
            by_cases hjj : j' = 1
            · rw [hjj]
              exact HJ.out
            · exact hno.out j' (by omega)
          case measure => simp [intOf]
    · have hkd : _ = vi 3 := hkd
      subst hkd
      go_wp2
      go_loopw [6] (fun i wy => ∃ k : Nat, k ≤ D.n ∧ i = vi k ∧ Hid (∀ k', k' < k → lookR p g 2 k' = false) ∧ Sat w0 (pc w.heap.size 39 [vi 0, vi 0] * (prO D vG vR p gx * F)) wy) (fun i _ => D.n - (intOf i).toNat)
      case atStart => exact ⟨0, Nat.zero_le _, rfl, Lib.hid (fun k h => by omega), hS⟩
      case round =>
        clear hS
        obtain ⟨k, hk, rfl, hnk, hS⟩ := hrel
        have c1 := (pr_cells hS.dropL).1
        unfold Ar.v at c1
        by_cases hlt : k < D.n
        · obtain ⟨r0, r1, r2, r3⟩ := pr_row hS.dropL hlt
          obtain ⟨vL, vN, x0, x2, rL, rN, rR⟩ := pr_lists hS.dropL hlt
          have hki : (k : Int) < (D.n : Int) := by omega
          have hk0 : (0 : Int) ≤ (k : Int) := by omega
          have hxk := HX.out k hlt
          have HF := Lib.hid (ref_find g (listR p 2 k) _ _ (show RdI _ _ (listR p 2 k) from rL) (by show (p k).xs.length ≤ _; omega))
          have HL := Lib.hid hlt
          obtain ⟨aR, cR, hvR⟩ := rR.len
          obtain ⟨aL, cL, hvL⟩ := rL.len
          obtain ⟨aN, cN, hvN⟩ := rN.len
          rw [hvR] at r1
          subst hvL hvN
          skip
          clear hvR rL rN rR r2 r3 hlt hxk
          generalize (nsOf (p k).g (p k).runs).length = nR at *
          generalize (nsOf (p k).z (p k).b).length = nN at *
          generalize (p k).xs.length = nL at *
          have H3 := Lib.hid hS
          by_cases hm : g ∈ listR p 2 k
          · have hf0 : 0 ≤ findI (listR p 2 k) g := find_yes hm
            have HH := Lib.hid (find_range (f := fun k => lookR p g 2 k) HL.out (decide_eq_true hm) hnk.out)
            have hkind : whereR p D.n gx g = (3, (k : Int)) := by
              have hj : whR p D.n g 2 = some k := HH.out
              unfold whereR
              rw [hno.out 0 (by omega)]; rw [hno.out 1 (by omega)]; rw [hj]
            have HK := Lib.hid hkind
            clear hm hS hkind
            generalize findI (listR p 2 k) g = fi at *
            have qa := H3.out.cell 0 rfl
            have qb := H3.out.cell 1 rfl
            have qf := H3.out.free 0
            have qf1 := H3.out.free 1
            have s1 := H3.out.store 0 (vi 3)
            have qc := s1.cell 1 rfl
            have qf2 := s1.free 1
            have s2 := s1.store 1 (vi k)
            have S2 := Lib.hid s2
            clear s1 s2
            go_wp2_with (go_at_call 78; refine HF.out.mono ?_; rintro e w' ⟨rfl, rfl⟩)
            refine bodyPost_ret (v := .agg #[vi 3, vi k]) (results_row1 rfl _ _ _ rfl S2.out.rangeN Tryz.underlying39 rfl (by kernel_rfl)) rfl ?_
            rw [HK.out]
            exact ⟨rfl, S2.out.dropL⟩
          · have HN := Lib.hid (find_not hm)
            rw [HN.out] at HF
            have hfl : Hid (lookR p g 2 k = false) := Lib.hid (decide_eq_false hm)
            clear hm hS
            go_wp2_with (go_at_call 78; refine HF.out.mono ?_; rintro e w' ⟨rfl, rfl⟩)
            go_roundw
            case rel =>
              (repeat apply Exists.intro)
              refine ⟨?_, rfl⟩
              refine ⟨k + 1, by have := HL.out; omega, by go_num, Lib.hid (fun k' h => ?_), H3.out⟩
              by_cases hkk : k' = k
              · rw [hkk]
                exact hfl.out
              · exact hnk.out k' (by omega)
            case measure => (have := HL.out; simp [intOf]; omega)
        · obtain rfl : k = D.n := by omega
          have HJ := Lib.hid (show whR p D.n g 2 = none from find_none hnk.out)
          have H3 := Lib.hid hS
          clear hS
          go_wp2
          go_roundw
          case rel =>
            refine ⟨2 + 1, by omega, by go_num, Lib.hid (fun j' h => ?_), H3.out⟩
            by_cases hjj : j' = 2
            · rw [hjj]
              exact HJ.out
            · exact hno.out j' (by omega)
          case measure => simp [intOf]
    · have hkd : _ = vi 4 := hkd
      subst hkd
      obtain ⟨g0, rG⟩ := pr_gl hS.dropL
      have c2 := (pr_cells hS.dropL).2
      have HF := Lib.hid (ref_find g gx _ _ rG hl)
      obtain ⟨aG, cG, rfl⟩ := rG.len
      have H3 := Lib.hid hS
      have h0 := hno.out 0 (by omega)
      have h1 := hno.out 1 (by omega)
      have h2 := hno.out 2 (by omega)
      by_cases hm : g ∈ gx
      · have hf0 : 0 ≤ findI gx g := find_yes hm
        have hkind : whereR p D.n gx g = (4, 0) := by
          unfold whereR
          rw [h0, h1, h2]
          simp [hm]
        have HK := Lib.hid hkind
        clear hm hS hkind h0 h1 h2 rG
        generalize findI gx g = fi at *
        have qa := H3.out.cell 0 rfl
        have qb := H3.out.cell 1 rfl
        have qf := H3.out.free 0
        have qf1 := H3.out.free 1
        have s1 := H3.out.store 0 (vi 4)
        have qc := s1.cell 1 rfl
        have qf2 := s1.free 1
        have s2 := s1.store 1 (vi 0)
        have S2 := Lib.hid s2
        clear s1 s2
        go_wp2_with (go_at_call 78; refine HF.out.mono ?_; rintro e w' ⟨rfl, rfl⟩)
        refine bodyPost_ret (v := .agg #[vi 4, vi 0]) (results_row1 rfl _ _ _ rfl S2.out.rangeN Tryz.underlying39 rfl (by kernel_rfl)) rfl ?_
        rw [HK.out]
        exact ⟨rfl, S2.out.dropL⟩
      · have hkind : whereR p D.n gx g = (0, 0) := by
          unfold whereR
          rw [h0, h1, h2]
          simp [hm]
        have HK := Lib.hid hkind
        have HN := Lib.hid (find_not hm)
        rw [HN.out] at HF
        clear hm hS hkind h0 h1 h2 rG
        have qa := H3.out.cell 0 rfl
        have qb := H3.out.cell 1 rfl
        have qf := H3.out.free 0
        have qf1 := H3.out.free 1
        have s1 := H3.out.store 0 (vi 0)
        have qc := s1.cell 1 rfl
        have qf2 := s1.free 1
        have s2 := s1.store 1 (vi 0)
        have S2 := Lib.hid s2
        clear s1 s2
        go_wp2_with (go_at_call 78; refine HF.out.mono ?_; rintro e w' ⟨rfl, rfl⟩)
        refine bodyPost_ret (v := .agg #[vi 0, vi 0]) (results_row1 rfl _ _ _ rfl S2.out.rangeN Tryz.underlying39 rfl (by kernel_rfl)) rfl ?_
        rw [HK.out]
        exact ⟨rfl, S2.out.dropL⟩
end
end Go.Proofs.YtjgemfgneiaabaaGreat.Pc
