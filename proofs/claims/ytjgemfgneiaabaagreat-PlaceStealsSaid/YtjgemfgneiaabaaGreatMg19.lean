/-
  Chapter 19: the statement's helper count. No statement is proved here.
-/
import Derived.Test.YtjgemfgneiaabaaGreatMg18
import Derived.Test.YtjgemfgneiaabaaGreatMg16
namespace Go.Proofs.YtjgemfgneiaabaaGreat.Pc
open Go.RowKit Rq Gq
set_option linter.unusedVariables false
set_option linter.unusedSimpArgs false

def b2n (b : Bool) : Nat := if b then 1 else 0
def cnt1 (y : Pl) (k : Int) : Nat := b2n (someV y.g y.runs == k) + b2n (someV y.z y.b == k) + y.xs.count k
def cntJ (p : Nat → Pl) (k : Int) : Nat → Nat
  | 0 => 0
  | j + 1 => cntJ p k j + cnt1 (p j) k
def cntV (p : Nat → Pl) (n : Nat) (gx : List Int) (k : Int) : Nat := cntJ p k n + gx.count k
section
variable {w0 w : World} {F : Hp} {p : Nat → Pl} {gx : List Int} {n : Nat} {v1 v2 v3 v4 v5 v6 : Value} {rv : Nat → Value}
theorem cntJ_le {k : Int} (hx : ∀ i, i < n → (p i).xs.length ≤ 32) : ∀ j, j ≤ n → cntJ p k j ≤ 34 * j
  | 0, _ => Nat.le_refl _
  | j + 1, h => by
    have h1 := cntJ_le (k := k) hx j (by omega)
    have h2 := hx j (by omega)
    have h3 : (p j).xs.count k ≤ (p j).xs.length := List.count_le_length
    have h4 : ∀ b, b2n b ≤ 1 := fun b => by cases b <;> decide
    have h5 := h4 (someV (p j).g (p j).runs == k)
    have h6 := h4 (someV (p j).z (p j).b == k)
    show cntJ p k j + (_ + _ + _) ≤ _
    omega
theorem rows_at {f : Nat → Value} {n i : Nat} (hi : i < n) : (rowsN (fun k => [f k]) n)[i]? = some (f i) := by
  have := rowsN_at (row := fun k => [f k]) (N := 1) (n := n) (k := i) (j := 0) (v := f i) (fun _ => rfl) hi rfl
  simpa using this
theorem lay_flat (h : Sat w0 (layB n p gx v1 v2 v3 v4 v5 v6 rv * F) w) : Sat w0 (sl 3 1 v1 n (rowsN (fun k => [vi (someV (p k).g (p k).runs)]) n) * (sl 3 1 v2 n (rowsN (fun k => [vi (someV (p k).z (p k).b)]) n) * (sl 41 1 v3 n (rowsN (fun k => [rv k]) n) * (star (fun i => rs 3 (rv i) ((p i).xs.map vi)) n * (sl 3 1 v4 n (rowsN (fun k => [vi (p k).left]) n) * (sl 62 1 v5 n (rowsN (fun k => [vu (p k).turns]) n) * (sl 3 1 v6 gx.length (gx.map vi) * F))))))) w := h.cast (by unfold layB ringsB; ac_rfl)
/-- What a layout reads. -/
theorem lay_rd (h : Sat w0 (layB n p gx v1 v2 v3 v4 v5 v6 rv * F) w) (hn : n ≠ 0) :
    (∃ b1 o1 c1, v1 = .slice (some ⟨b1, o1, none⟩) n c1 ∧ ∀ i, i < n → w.cell? ⟨b1, o1 + i, none⟩ = some (vi (someV (p i).g (p i).runs))) ∧
    (∃ b2 o2 c2, v2 = .slice (some ⟨b2, o2, none⟩) n c2 ∧ ∀ i, i < n → w.cell? ⟨b2, o2 + i, none⟩ = some (vi (someV (p i).z (p i).b))) ∧
    (∃ b3 o3 c3, v3 = .slice (some ⟨b3, o3, none⟩) n c3 ∧ ∀ i, i < n → w.cell? ⟨b3, o3 + i, none⟩ = some (rv i)) ∧ (∀ i, i < n → RdI w (rv i) (p i).xs) ∧ RdI w v6 gx := by
  have h1 := lay_flat h
  have h2 := h1.dropL
  have h3 := h2.dropL
  have h4 := h3.dropL
  refine ⟨?_, ?_, ?_, ?_, ?_⟩
  · obtain ⟨b, o, c, hv, hc⟩ := h1.rd.pos hn
    exact ⟨b, o, c, hv, fun i hi => hc i _ (rows_at hi)⟩
  · obtain ⟨b, o, c, hv, hc⟩ := h2.rd.pos hn
    exact ⟨b, o, c, hv, fun i hi => hc i _ (rows_at hi)⟩
  · obtain ⟨b, o, c, hv, hc⟩ := h3.rd.pos hn
    exact ⟨b, o, c, hv, fun i hi => hc i _ (rows_at hi)⟩
  · intro i hi
    have h5 := (Sat.star_out h4 hi).rsRd
    unfold RdI
    rw [List.length_map] at h5
    exact h5
  · exact h4.dropL.dropL.dropL.rd
end
end Go.Proofs.YtjgemfgneiaabaaGreat.Pc

namespace Go.Proofs.YtjgemfgneiaabaaGreat.Pc
open Go.RowKit Rq Gq
set_option linter.unusedVariables false
set_option linter.unusedSimpArgs false

section
variable {w0 w : World} {F : Hp} {D : Ad} {p : Nat → Pl} {gx : List Int}
theorem kind_ (t : Bool) (k : Int) (w : World) : Calls Tryz.prog 53 #[.bool t, vi k] w fun e w' => e = .returned (vi (if t then k else 0)) ∧ w = w' := by
  cases t
  all_goals
    go_enter Tryz.func53, Tryz.ntmps53
    go_wp2
    go_ret
    exact ⟨rfl, rfl⟩
def look (p : Nat → Pl) (g : Int) (j k : Nat) : Bool := if j = 0 then (p k).runs && (p k).g == g else if j = 1 then (p k).b && (p k).z == g else hasY (p k) g
variable {bs bg k : Nat} {g : Int}
set_option maxHeartbeats 1000000 in
theorem look0 (h : Sat w0 (plB D p gx * F) w) (hk : k < D.n) (hs : w.cell? ⟨bs, 0, none⟩ = some (vp D.s)) (hg : w.cell? ⟨bg, 0, none⟩ = some (vi g)) :
    Calls Tryz.prog 52 #[vi k, vp bs, vp bg] w fun e w' => e = .returned (vi (if look p g 0 k then 1 else 0)) ∧ Sat w0 (plB D p gx * F) w' ∧ ∃ n, w' = w.drewN n := by
  obtain ⟨c1, r0, r1, r2, r3, r4⟩ : w.cell? ⟨D.s, 0, none⟩ = some D.v ∧ _ := ⟨(pl_cells h).1, pl_row h hk⟩
  have hki : (k : Int) < (D.n : Int) := by omega
  have hki2 : k < D.n := hk
  have H := Lib.hid h
  rw [show look p g 0 k = ((p k).runs && (p k).g == g) from rfl]
  unfold Ad.v at c1
  clear h hk r0 r3 r4
  generalize (p k).runs = ru at *
  generalize (p k).g = g' at *
  cases ru with
  | false =>
    go_enter Tryz.func52, Tryz.ntmps52
    go_wp2
    go_quiet ((go_at_call 53; exact Calls.quiet_of_same ((kind_ _ _ _).mono fun _ _ h => ⟨h.1, h.2.symm⟩)))
    go_wp2
    go_ret
    exact ⟨rfl, H.out.drewN _, _, rfl⟩
  | true =>
    obtain ⟨t, ht⟩ : ∃ t, (g' == g) = t := ⟨_, rfl⟩
    rw [ht]
    cases t
    all_goals
      go_enter Tryz.func52, Tryz.ntmps52
      go_wp2
      go_quiet ((go_at_call 53; exact Calls.quiet_of_same ((kind_ _ _ _).mono fun _ _ h => ⟨h.1, h.2.symm⟩)))
      go_wp2
      go_ret
      exact ⟨rfl, H.out.drewN _, _, rfl⟩
set_option maxHeartbeats 1000000 in
theorem look1 (h : Sat w0 (plB D p gx * F) w) (hk : k < D.n) (hs : w.cell? ⟨bs, 0, none⟩ = some (vp D.s)) (hg : w.cell? ⟨bg, 0, none⟩ = some (vi g)) :
    Calls Tryz.prog 54 #[vi k, vp bs, vp bg] w fun e w' => e = .returned (vi (if look p g 1 k then 2 else 0)) ∧ Sat w0 (plB D p gx * F) w' := by
  obtain ⟨c1, r0⟩ : w.cell? ⟨D.s, 0, none⟩ = some D.v ∧ _ := ⟨(pl_cells h).1, (pl_row h hk).1⟩
  have hki : (k : Int) < (D.n : Int) := by omega
  have HN := Lib.hid (q_next (pl_out h hk))
  have H := Lib.hid h
  rw [show look p g 1 k = ((p k).b && (p k).z == g) from rfl]
  unfold Ad.v at c1
  clear h hk
  generalize (p k).b = ru at *
  generalize (p k).z = g' at *
  obtain ⟨t, ht⟩ : ∃ t, (g' == g) = t := ⟨_, rfl⟩
  rw [ht]
  cases ru <;> cases t
  all_goals
    go_enter Tryz.func54, Tryz.ntmps54
    go_wp2_with (first
      | (go_at_call 55; refine HN.out.mono ?_; rintro e w' ⟨rfl, rfl⟩)
      | (go_at_call 53; refine (kind_ _ _ _).mono ?_; rintro e w' ⟨rfl, rfl⟩))
    go_ret
    exact ⟨rfl, H.out⟩
set_option maxHeartbeats 2000000 in
theorem look2 (h : Sat w0 (pc bs 23 [vp D.s] * (pc bg 3 [vi g] * (plB D p gx * F))) w) (hk : k < D.n) :
    Calls Tryz.prog 56 #[vi k, vp bs, vp bg] w fun e w' => e = .returned (vi (if look p g 2 k then 3 else 0)) ∧ Sat w0 (pc bs 23 [vp D.s] * (pc bg 3 [vi g] * (plB D p gx * F))) w' := by
  have hs := h.cell 0 rfl
  have hg := h.pull2.cell 0 rfl
  have hp : Sat w0 (plB D p gx * (pc bs 23 [vp D.s] * (pc bg 3 [vi g] * F))) w := h.cast (by ac_rfl)
  obtain ⟨c1, r0⟩ : w.cell? ⟨D.s, 0, none⟩ = some D.v ∧ _ := ⟨(pl_cells hp).1, (pl_row hp hk).1⟩
  have hki : (k : Int) < (D.n : Int) := by omega
  have HH := Lib.hid ((q_has (pl_out hp.drew hk) g).mono fun e w' hh => (⟨hh.1, pl_in (y := p k) hh.2 hk rfl rfl rfl rfl⟩ : e = .returned (.bool (look p g 2 k)) ∧ Sat w0 (plB D (up p k (p k)) gx * (pc bs 23 [vp D.s] * (pc bg 3 [vi g] * F))) w'))
  rw [up_self] at HH
  have HK := Lib.hid hk
  unfold Ad.v at c1
  clear h hk hp
  generalize look p g 2 k = t at *
  cases t
  all_goals
    go_enter Tryz.func56, Tryz.ntmps56
    go_wp2
    go_region_held3 (fun w' => w'.cell? ⟨bs, 0, none⟩ = some (vp D.s) ∧ w'.cell? ⟨bg, 0, none⟩ = some (vi g) ∧ w'.cell? ⟨D.s, 0, none⟩ = some (.slice (some ⟨D.sb, 0, none⟩) D.n D.cap) ∧ w'.cell? ⟨D.sb, k * 5, none⟩ = some (vp (D.q k))) (first | exact ⟨hs, hg, c1, r0⟩ | exact ⟨g1, g2, g3, g4⟩)
      (first
        | (go_at_call 57; refine HH.out.mono ?_; rintro e w1 ⟨rfl, hS⟩; have g1 := hS.pull2.cell 0 rfl; have g2 := hS.pull3.cell 0 rfl; have g3 := (pl_cells hS).1; have g4 := (pl_row hS HK.out).1; have H1 := Lib.hid hS; clear hS)
        | (go_at_call 53; refine (kind_ _ _ _).mono ?_; rintro e w' ⟨rfl, rfl⟩))
    all_goals go_wp2
    all_goals go_ret
    all_goals exact ⟨rfl, H1.out.cast (by ac_rfl)⟩
end
end Go.Proofs.YtjgemfgneiaabaaGreat.Pc

namespace Go.Proofs.YtjgemfgneiaabaaGreat.Pc
open Go.RowKit Rq Gq
set_option linter.unusedVariables false
set_option linter.unusedSimpArgs false

section
variable {w0 w : World} {F : Hp} {D : Ad} {p : Nat → Pl} {gx : List Int}
theorem find_none {f : Nat → Bool} {n : Nat} (hno : ∀ j, j < n → f j = false) : (List.range n).find? f = none :=
  List.find?_eq_none.2 fun x hx => by rw [hno x (List.mem_range.1 hx)]; simp
theorem find_range {f : Nat → Bool} : ∀ {n k : Nat}, k < n → f k = true → (∀ j, j < k → f j = false) → (List.range n).find? f = some k
  | 0, k, hk, _, _ => by omega
  | n + 1, k, hk, h, hno => by
    rw [List.range_succ, List.find?_append]
    by_cases hn : k < n
    · rw [find_range hn h hno]
      rfl
    · obtain rfl : k = n := by omega
      rw [find_none hno, List.find?_cons_of_pos h]
      rfl
/-- Remove, in plain words. -/
def rmK (p : Nat → Pl) (n : Nat) (g : Int) : Option Nat := (List.range n).find? fun i => hasY (p i) g
def rmP (p : Nat → Pl) (n : Nat) (g : Int) : Nat → Pl := match rmK p n g with
  | some k => up p k (rmY (p k) g)
  | none => p
def rmG (p : Nat → Pl) (n : Nat) (gx : List Int) (g : Int) : List Int := match rmK p n g with
  | some _ => gx
  | none => gx.erase g
def rmH (p : Nat → Pl) (n : Nat) (gx : List Int) (g : Int) : Bool := match rmK p n g with
  | some _ => true
  | none => decide (g ∈ gx)
theorem rmY_no {y : Pl} {g : Int} (h : hasY y g = false) : rmY y g = y := by
  unfold hasY hasQ at h
  simp only [Bool.or_eq_false_iff] at h
  obtain ⟨h1, h2⟩ := h
  have h2 : g ∉ y.xs := by simpa using h2
  unfold rmY rmL rmB
  rw [if_neg (by simp [h1]), List.erase_of_not_mem h2]
  cases hb : y.b with
  | false => cases y; simp at hb; simp [hb]
  | true =>
    rw [hb, Bool.true_and] at h1
    cases y
    simp at hb
    simp [hb] at h1 ⊢
    exact h1
set_option maxRecDepth 100000 in
set_option maxHeartbeats 4000000 in
theorem pl_remove (h : Sat w0 (plB D p gx * F) w) (ho : D.Ok) (g : Int) (hl : gx.length ≤ 1000000) :
    Calls Tryz.prog 26 #[vp D.s, vi g] w fun e w' => e = .returned (.bool (rmH p D.n gx g)) ∧ Sat w0 (plB D (rmP p D.n g) (rmG p D.n gx g) * F) w' := by
  have HP := Lib.hid (pl_ps h)
  have H := Lib.hid h
  have hn1 := ho.n1
  have hn8 := ho.n8
  have hnp : (0 : Int) < (D.n : Int) := by omega
  clear h
  go_enter Tryz.func26, Tryz.ntmps26
  go_wp2_with (go_at_call 50; refine HP.out.mono ?_; rintro e w' ⟨rfl, rfl⟩)
  go_loopw [8] (fun i wr => ∃ j : Nat, j ≤ D.n ∧ i = vi j ∧ Hid (∀ j', j' < j → hasY (p j') g = false) ∧ Sat w0 (plB D p gx * F) wr) (fun i _ => D.n - (intOf i).toNat)
  case atStart => exact ⟨0, Nat.zero_le _, rfl, Lib.hid (fun j' h => absurd h (by omega)), H.out⟩
  case round =>
    clear H HP
    obtain ⟨j, hj, rfl, hno, hS⟩ := hrel
    by_cases hlt : j < D.n
    · have c1 := (pl_cells hS).1
      have r0 := (pl_row hS hlt).1
      have hji : (j : Int) < (D.n : Int) := by omega
      unfold Ad.v at c1
      have hq := q_remove' (pl_out hS hlt) g
      obtain ⟨t, ht⟩ : ∃ t, hasY (p j) g = t := ⟨_, rfl⟩
      rw [show hasQ (p j).xs (p j).z (p j).b g = t from ht] at hq
      have HQ := Lib.hid (hq.mono fun e w' hh => (⟨hh.1, pl_in (y := rmY (p j) g) hh.2 hlt rfl rfl rfl rfl⟩ : e = .returned (.bool t) ∧ Sat w0 (plB D (up p j (rmY (p j) g)) gx * F) w'))
      have HT := Lib.hid ht
      have HL := Lib.hid hlt
      clear hS hq ht hlt
      cases t with
      | true =>
        go_wp2_with (go_at_call 81; refine HQ.out.mono ?_; rintro e w1 ⟨rfl, hS1⟩; have H1 := Lib.hid hS1; clear hS1)
        go_ret
        have hk : rmK p D.n g = some j := find_range HL.out HT.out hno.out
        refine ⟨by simp only [rmH, hk]; rfl, ?_⟩
        simp only [rmP, rmG, hk]
        exact H1.out
      | false =>
        go_wp2_with (go_at_call 81; refine HQ.out.mono ?_; rintro e w1 ⟨rfl, hS1⟩; have H1 := Lib.hid hS1; clear hS1)
        go_roundw
        case rel =>
          refine ⟨j + 1, by omega, by go_num, Lib.hid (fun j' h => ?_), ?_⟩
          · by_cases hjj : j' = j
            · rw [hjj]
              exact HT.out
            · exact hno.out j' (by omega)
          · have h9 := H1.out
            rw [rmY_no HT.out, up_self] at h9
            exact h9
        case measure => simp [intOf]; omega
    · obtain rfl : j = D.n := by omega
      have hk : rmK p D.n g = none := find_none hno.out
      have e1 : rmH p D.n gx g = decide (g ∈ gx) := by unfold rmH; rw [hk]
      have e2 : rmP p D.n g = p := by unfold rmP; rw [hk]
      have e3 : rmG p D.n gx g = gx.erase g := by unfold rmG; rw [hk]
      obtain ⟨t, ht⟩ : ∃ t, decide (g ∈ gx) = t := ⟨_, rfl⟩
      rw [ht] at e1
      have E1 := Lib.hid e1
      have E2 := Lib.hid e2
      have E3 := Lib.hid e3
      have c2 := (pl_cells hS).2.2
      have HP := Lib.hid (pl_ps hS)
      have hg := g_remove (pl_glob hS) hl g
      rw [ht] at hg
      have HG := Lib.hid hg
      clear hS hno hk e1 e2 e3 ht hg
      go_wp2_with (first
        | (go_at_call 50; refine HP.out.mono ?_; rintro e w' ⟨rfl, rfl⟩)
        | (go_at_call 82; refine HG.out.mono ?_; rintro e w1 ⟨rfl, hS1⟩; have H1 := Lib.hid (pl_globI hS1); clear hS1))
      go_ret
      rw [E1.out, E2.out, E3.out]
      exact ⟨by first | rfl | simp, H1.out⟩
end
end Go.Proofs.YtjgemfgneiaabaaGreat.Pc
