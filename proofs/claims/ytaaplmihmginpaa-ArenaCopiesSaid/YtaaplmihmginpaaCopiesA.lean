/-
  The walk of ArenaCopies. No statement is proved here.
-/
import Derived.Test.YtaaplmihmginpaaPlaysA
namespace Go.Proofs.Ytaaplmihmginpaa.Ar
open Go.RowKit
set_option linter.unusedVariables false

def plP (p q n k : Nat) : Hp := ex fun s : List Pl × List Nat × List RP × Int => given (Rel s.1 s.2.1 s.2.2.1 s.2.2.2 ∧ s.1.length = n ∧ s.2.2.2 ≤ (k : Int)) (tblP p s.1 s.2.1 * refP q s.2.2.1 s.2.2.2)
section
variable {w0 w wr : World} {p q n k : Nat} {F : Hp}
theorem PlS.hp (h : PlS w0 p q n k F wr) : Sat w0 (plP p q n k * F) wr := by
  obtain ⟨ps, free, rs, times, hR, hn, ht, hS⟩ := h
  exact Sat.exI (ps, free, rs, times) (Sat.givenI ⟨hR, hn, ht⟩ (hS.cast (sep_assoc _ _ _).symm))
theorem PlS.of (h : Sat w0 (plP p q n k * F) wr) : PlS w0 p q n k F wr := by
  obtain ⟨⟨ps, free, rs, times⟩, h⟩ := h.exE
  obtain ⟨⟨hR, hn, ht⟩, h⟩ := h.givenE
  exact ⟨ps, free, rs, times, hR, hn, ht, h.cast (sep_assoc _ _ _)⟩
theorem pl_do (h : Sat w0 (plP p q n k * F) wr) (hk : k ≤ 1000000) (c x i g m : Int) :
    Calls Try.prog 26 #[vp p, vp q, .agg #[vi c, vi x, vi i, vu g, vi m]] wr fun e w' => e = .returned (.bool true) ∧ Sat w0 (plP p q n (k + 1) * F) w' :=
  ((PlS.of h).do_ hk c x i g m).mono fun e w' ⟨h1, h2⟩ => ⟨h1, h2.hp⟩
theorem pl_same (h : Sat w0 (plP p q n k * F) wr) :
    Calls Try.prog 43 #[vp p, vp q] wr fun e w' => e = .returned (.bool true) ∧ Sat w0 (plP p q n k * F) w' :=
  ((PlS.of h).same_).mono fun e w' ⟨h1, h2⟩ => ⟨h1, h2.hp⟩

/-- Both copies, one behind the other. -/
def BothP (w0 : World) (p q p2 q2 n k k2 : Nat) (F : Hp) (wr : World) : Prop := Sat w0 (plP p q n k * (plP p2 q2 n k2 * F)) wr
def CpS (w0 : World) (p : Nat) (n k : Nat) (F : Hp) (q : Nat) (p2 : Nat) (wr : World) : Prop :=
  ∃ ps free rs times, Rel ps free rs times ∧ ps.length = n ∧ times ≤ (k : Int) ∧ rs.length ≤ 4096 ∧ Sat w0 (tblP p2 ps free * (tblP p ps free * (refP q rs times * F))) wr
theorem pl_copy (h : Sat w0 (plP p q n k * F) wr) :
    Calls Try.prog 44 #[vp p] wr fun e w' => ∃ p2, e = .returned (vp p2) ∧ CpS w0 p n k F q p2 w' := by
  obtain ⟨ps, free, rs, times, hR, hn, ht, hS⟩ := PlS.of h
  have hs := (tblOk_of hS).small
  exact (copy_ hS).mono fun e w' ⟨p2, h1, h2⟩ => ⟨p2, h1, ps, free, rs, times, hR, hn, ht, hR.len ▸ hs, h2⟩
theorem pl_rcopy {p2 : Nat} (h : CpS w0 p n k F q p2 wr) :
    Calls Try.prog 45 #[vp q] wr fun e w' => ∃ q2, e = .returned (vp q2) ∧ BothP w0 p q p2 q2 n k k F w' := by
  obtain ⟨ps, free, rs, times, hR, hn, ht, hs, hS⟩ := h
  refine (rcopy hS.pull3 hs).mono fun e w' ⟨q2, h1, h2⟩ => ⟨q2, h1, ?_⟩
  have h3 : Sat w0 (tblP p2 ps free * (refP q2 rs times * (tblP p ps free * (refP q rs times * F)))) w' := h2.cast (by ac_rfl)
  have h4 := PlS.hp ⟨ps, free, rs, times, hR, hn, ht, h3⟩
  have h5 : Sat w0 (tblP p ps free * (refP q rs times * (plP p2 q2 n k * F))) w' := h4.cast (by
    generalize plP p2 q2 n k = X
    ac_rfl)
  exact PlS.hp ⟨ps, free, rs, times, hR, hn, ht, h5⟩

def cpBad (size first : Int) (l1 l2 l3 : Nat) : Prop := muchB size l1 40 = true ∨ 30 < l2 ∨ 30 < l3 ∨ ¬ MayP size first
set_option maxRecDepth 100000 in
theorem copies_early (w0 : World) (size first : Int) (a1 a2 a3 : Option Addr) (l1 l2 l3 c1 c2 c3 : Nat) (hbad : cpBad size first l1 l2 l3) :
    Calls Try.prog 12 #[vi size, vu first, .slice a1 l1 c1, .slice a2 l2 c2, .slice a3 l3 c3] w0 (TrueBelow w0) := by
  have HM := Lib.hid (much_ size 40 l1 a1 c1 w0)
  by_cases hm : muchB size l1 40 = true
  · rw [hm] at HM
    clear hbad
    go_enter Try.func12, Try.ntmps12
    go_wp2_with (first | (go_at_call 21; refine HM.out.mono ?_; rintro e w1 ⟨rfl, rfl⟩) | (go_at_call 23; refine (As.knownA (Sat.start w0)).mono ?_; rintro e w2 ⟨rfl, hS⟩))
    go_ret
    exact ⟨rfl, hS.below⟩
  have hm' : muchB size l1 40 = false := by simpa using hm
  rw [hm'] at HM
  by_cases h2 : 30 < l2
  · clear hbad
    have h2' : (30 : Int) < (l2 : Int) := by omega
    go_enter Try.func12, Try.ntmps12
    go_wp2_with (first | (go_at_call 21; refine HM.out.mono ?_; rintro e w1 ⟨rfl, rfl⟩) | (go_at_call 23; refine (As.knownA (Sat.start w0)).mono ?_; rintro e w2 ⟨rfl, hS⟩))
    go_ret
    exact ⟨rfl, hS.below⟩
  have h2' : ¬ (30 : Int) < (l2 : Int) := by omega
  by_cases h3 : 30 < l3
  · clear hbad
    have h3' : (30 : Int) < (l3 : Int) := by omega
    go_enter Try.func12, Try.ntmps12
    go_wp2_with (first | (go_at_call 21; refine HM.out.mono ?_; rintro e w1 ⟨rfl, rfl⟩) | (go_at_call 23; refine (As.knownA (Sat.start w0)).mono ?_; rintro e w2 ⟨rfl, hS⟩))
    go_ret
    exact ⟨rfl, hS.below⟩
  have h3' : ¬ (30 : Int) < (l3 : Int) := by omega
  have hy : ¬ MayP size first := ((hbad.resolve_left hm).resolve_left h2).resolve_left h3
  have HY := Lib.hid (may_no size first hy w0)
  clear hy hbad
  go_enter Try.func12, Try.ntmps12
  go_wp2_with (first | (go_at_call 21; refine HM.out.mono ?_; rintro e w1 ⟨rfl, rfl⟩) | (go_at_call 22; refine HY.out.mono ?_; rintro e w1 ⟨rfl, rfl⟩) | (go_at_call 23; refine (As.knownA (Sat.start w0)).mono ?_; rintro e w2 ⟨rfl, hS⟩))
  go_ret
  exact ⟨rfl, hS.below⟩

theorem argForm {w0 : World} {size : Nat} {K : Nat → IntKind} {v : Value} {len : Nat} {A : Nat → Int} (h : ArgK w0 size K v len A) : ∃ ao cap, v = .slice ao len cap := by
  rcases h.form with ⟨rfl, ao, cap, rfl⟩ | ⟨b, off, cap, rfl, _⟩
  · exact ⟨_, _, rfl⟩
  · exact ⟨_, _, rfl⟩

set_option maxRecDepth 100000 in
set_option maxHeartbeats 4000000 in
theorem copies_walk (w0 : World) (size first : Int) (v1 : Value) (l1 : Nat) (A1 : Nat → Int) (g1 : ArgK w0 5 actK v1 l1 A1) (v2 : Value) (l2 : Nat) (A2 : Nat → Int) (g2 : ArgK w0 5 actK v2 l2 A2) (v3 : Value) (l3 : Nat) (A3 : Nat → Int) (g3 : ArgK w0 5 actK v3 l3 A3) :
    Calls Try.prog 12 #[vi size, vu first, v1, v2, v3] w0 (TrueBelow w0) := by
  obtain ⟨a1, c1, rfl⟩ := argForm g1
  obtain ⟨a2, c2, rfl⟩ := argForm g2
  obtain ⟨a3, c3, rfl⟩ := argForm g3
  by_cases hbad : cpBad size first l1 l2 l3
  · exact copies_early w0 size first a1 a2 a3 l1 l2 l3 c1 c2 c3 hbad
  have hm : muchB size l1 40 = false := by simpa using fun e => hbad (.inl e)
  have h2 : ¬ 30 < l2 := fun e => hbad (.inr (.inl e))
  have h3 : ¬ 30 < l3 := fun e => hbad (.inr (.inr (.inl e)))
  have hmay : MayP size first := Classical.byContradiction fun e => hbad (.inr (.inr (.inr e)))
  have hlen : l1 ≤ 40 := by
    unfold muchB at hm
    simp at hm
    omega
  have h2' : ¬ (30 : Int) < (l2 : Int) := by omega
  have h3' : ¬ (30 : Int) < (l3 : Int) := by omega
  have HM := Lib.hid (much_ size 40 l1 a1 c1 w0)
  rw [hm] at HM
  obtain ⟨hs1, hs2, hf1, hf2⟩ := hmay
  obtain ⟨sz, rfl⟩ := Int.eq_ofNat_of_zero_le (show 0 ≤ size by omega)
  have HY : Hid (∀ w, Calls Try.prog 22 #[vi sz, vu first] w fun e w' => e = .returned (.bool true) ∧ w = w') := Lib.hid fun w => may_yes sz first ⟨hs1, hs2, hf1, hf2⟩ w
  have HN := Lib.hid (new_ (F := emp) sz first (by omega) (by omega) hf1 hf2 (Sat.start w0))
  have HRN : Hid (∀ F w, Sat w0 F w → Calls Try.prog 27 #[vi sz, vu first] w fun e w' => ∃ q, e = .returned (vp q) ∧ Sat w0 (refP q (rnewL first sz) 0 * F) w') := Lib.hid fun F w h => rnew h sz (by omega) first
  have G1 := Lib.hid g1
  have G2 := Lib.hid g2
  have G3 := Lib.hid g3
  clear g1 g2 g3 hm hbad hf1 hf2 hs1 hs2
  go_enter Try.func12, Try.ntmps12
  go_wp2_with (first
    | (go_at_call 21; refine HM.out.mono ?_; rintro e w1 ⟨rfl, rfl⟩)
    | (go_at_call 22; refine (HY.out _).mono ?_; rintro e w1 ⟨rfl, rfl⟩)
    | (go_at_call 24; refine HN.out.mono ?_; rintro e w2 ⟨p, rfl, hS⟩; have H := Lib.hid hS; clear hS)
    | (go_at_call 27; refine (HRN.out _ _ H.out).mono ?_; rintro e w3 ⟨q, rfl, hS⟩; have H2 := Lib.hid (PlS.fresh hS).hp; clear hS))
  go_loopw [14] (fun i wr => ∃ k : Nat, k ≤ l1 ∧ i = vi k ∧ Sat w0 (plP p q sz k * emp) wr) (fun i _ => l1 - (intOf i).toNat)
  case atStart => exact ⟨0, Nat.zero_le _, rfl, H2.out⟩
  case round =>
    obtain ⟨k, hk, rfl, hS⟩ := hrel
    by_cases hlt : k < l1
    · obtain ⟨b, off, rfl, x0, x1, x2, x3, x4, e0, e1, e2, e3, e4, hbl⟩ := act_at G1.out hS hlt
      have hki : (k : Int) < (l1 : Int) := by omega
      have HS := Lib.hid hS
      clear hS
      go_wp2_with (go_at_call 26; refine (pl_do HS.out (by omega) x0 x1 x2 x3 x4).mono ?_; rintro e w5 ⟨rfl, hS5⟩; have H5 := Lib.hid hS5; clear hS5)
      go_roundw
      case rel => exact ⟨k + 1, by omega, by go_num, H5.out⟩
      case measure => (simp [intOf]; try omega)
    · obtain rfl : k = l1 := by omega
      have HS := Lib.hid hS
      clear hS
      go_wp2_with (first
        | (go_at_call 44; refine (pl_copy HS.out).mono ?_; rintro e w6 ⟨p2, rfl, hC⟩; have HC := Lib.hid hC; clear hC)
        | (go_at_call 45; refine (pl_rcopy HC.out).mono ?_; rintro e w7 ⟨q2, rfl, hC⟩; have HB := Lib.hid hC; clear hC))
      go_loopw [17] (fun i wr => ∃ j : Nat, j ≤ l2 ∧ i = vi j ∧ BothP w0 p q p2 q2 sz (k + j) k emp wr) (fun i _ => l2 - (intOf i).toNat)
      case atStart => exact ⟨0, Nat.zero_le _, rfl, HB.out⟩
      case round =>
        obtain ⟨j, hj, rfl, hS⟩ := hrel
        by_cases hlt2 : j < l2
        · obtain ⟨b, off, rfl, x0, x1, x2, x3, x4, e0, e1, e2, e3, e4, hbl⟩ := act_at G2.out hS hlt2
          have hki : (j : Int) < (l2 : Int) := by omega
          have HS := Lib.hid hS
          clear hS
          go_wp2_with (go_at_call 26; refine (pl_do HS.out (by omega) x0 x1 x2 x3 x4).mono ?_; rintro e w5 ⟨rfl, hS5⟩; have H5 := Lib.hid hS5; clear hS5)
          go_roundw
          case rel => exact ⟨j + 1, by omega, by go_num, H5.out⟩
          case measure => (simp [intOf]; try omega)
        · obtain rfl : j = l2 := by omega
          have HS := Lib.hid hS
          clear hS
          go_wp2
          go_loopw [18] (fun i wr => ∃ m : Nat, m ≤ l3 ∧ i = vi m ∧ BothP w0 p q p2 q2 sz (k + j) (k + m) emp wr) (fun i _ => l3 - (intOf i).toNat)
          case atStart => exact ⟨0, Nat.zero_le _, rfl, HS.out⟩
          case round =>
            obtain ⟨m, hm, rfl, hS⟩ := hrel
            by_cases hlt3 : m < l3
            · obtain ⟨b, off, rfl, x0, x1, x2, x3, x4, e0, e1, e2, e3, e4, hbl⟩ := act_at G3.out hS hlt3
              have hki : (m : Int) < (l3 : Int) := by omega
              have HS := Lib.hid (Sat.pull2 hS)
              clear hS
              go_wp2_with (go_at_call 26; refine (pl_do HS.out (by omega) x0 x1 x2 x3 x4).mono ?_; rintro e w5 ⟨rfl, hS5⟩; have H5 := Lib.hid hS5; clear hS5)
              go_roundw
              case rel => exact ⟨m + 1, by omega, by go_num, H5.out.pull2⟩
              case measure => (simp [intOf]; try omega)
            · obtain rfl : m = l3 := by omega
              have HS := Lib.hid hS
              clear hS
              go_wp2_with (first
                | (go_at_call 43; refine (pl_same H1.out.pull2).mono ?_; rintro e w8 ⟨rfl, hS1⟩; have H2 := Lib.hid hS1; clear hS1)
                | (go_at_call 43; refine (pl_same HS.out).mono ?_; rintro e w8 ⟨rfl, hS1⟩; have H1 := Lib.hid hS1; clear hS1)
                | (go_at_call 23; refine (As.knownA H2.out).mono ?_; rintro e w9 ⟨rfl, hS9⟩))
              go_ret
              exact ⟨rfl, hS9.below⟩
end
theorem copies_row (w0 : World) (size : Int) (ws : (Lit.int .i64 size).wf = true) (first : Int) (wf : (Lit.int .u64 first).wf = true) (v : Value) (n : Nat) (A : Nat → Int) (h : ArgK w0 5 actK v n A) (v2 : Value) (n2 : Nat) (A2 : Nat → Int) (h2 : ArgK w0 5 actK v2 n2 A2) (v3 : Value) (n3 : Nat) (A3 : Nat → Int) (h3 : ArgK w0 5 actK v3 n3 A3) :
    Calls Try.prog 12 #[vi size, vu first, v, v2, v3] w0 (TrueBelow w0) := copies_walk w0 size first v n A h v2 n2 A2 h2 v3 n3 A3 h3
end Go.Proofs.Ytaaplmihmginpaa.Ar
