/-
  The walk of ArenaPlays. No statement is proved here.
-/
import Derived.Test.YtaaplmihmginpaaSameA
import Derived.Test.YtaaplmihmginpaaStale
namespace Go.Proofs.Ytaaplmihmginpaa.Ar
open Go.RowKit
set_option linter.unusedVariables false

/-- What the laws keep between acts: a table and the reference's, alike. -/
def PlS (w0 : World) (p q n : Nat) (k : Nat) (F : Hp) (wr : World) : Prop :=
  ∃ ps free rs times, Rel ps free rs times ∧ ps.length = n ∧ times ≤ (k : Int) ∧ Sat w0 (tblP p ps free * (refP q rs times * F)) wr
theorem PlS.do_ {w0 wr : World} {p q n k : Nat} {F : Hp} (h : PlS w0 p q n k F wr) (hk : k ≤ 1000000) (c x i g m : Int) :
    Calls Try.prog 26 #[vp p, vp q, .agg #[vi c, vi x, vi i, vu g, vi m]] wr fun e w' => e = .returned (.bool true) ∧ PlS w0 p q n (k + 1) F w' := by
  obtain ⟨ps, free, rs, times, hR, hn, ht, hS⟩ := h
  exact (doA hS hR (by omega) c x i g m).mono fun e w' ⟨he, ps', free', rs', times', h1, h2, h3, h4⟩ => ⟨he, ps', free', rs', times', h1, by omega, by omega, h4⟩
theorem PlS.same_ {w0 wr : World} {p q n k : Nat} {F : Hp} (h : PlS w0 p q n k F wr) :
    Calls Try.prog 43 #[vp p, vp q] wr fun e w' => e = .returned (.bool true) ∧ PlS w0 p q n k F w' := by
  obtain ⟨ps, free, rs, times, hR, hn, ht, hS⟩ := h
  exact (sameA hS hR).mono fun e w' ⟨he, h4⟩ => ⟨he, ps, free, rs, times, hR, hn, ht, h4⟩
theorem PlS.sat {w0 wr : World} {p q n k : Nat} {F : Hp} (h : PlS w0 p q n k F wr) : Sat w0 F wr := by
  obtain ⟨ps, free, rs, times, hR, hn, ht, hS⟩ := h
  exact hS.dropL.dropL
theorem PlS.fresh {w0 wr : World} {p q n : Nat} {first : Int} {F : Hp} (h : Sat w0 (refP q (rnewL first n) 0 * (tblP p (List.replicate n ⟨first, false, false, ez⟩) (newF n n) * F)) wr) : PlS w0 p q n 0 F wr :=
  ⟨_, _, _, _, Rel.fresh n first, by simp, by omega, h.pull2⟩

theorem plays_early (w0 : World) (size first : Int) (ao : Option Addr) (len cap : Nat) (hbad : muchB size len 100 = true ∨ ¬ MayP size first) :
    Calls Try.prog 11 #[vi size, vu first, .slice ao len cap] w0 (TrueBelow w0) := by
  have HM := Lib.hid (much_ size 100 len ao cap w0)
  by_cases hm : muchB size len 100 = true
  · rw [hm] at HM
    go_enter Try.func11, Try.ntmps11
    go_wp2_with (first | (go_at_call 21; refine HM.out.mono ?_; rintro e w1 ⟨rfl, rfl⟩) | (go_at_call 23; refine (As.knownA (Sat.start w0)).mono ?_; rintro e w2 ⟨rfl, hS⟩))
    go_ret
    exact ⟨rfl, hS.below⟩
  · have hy : ¬ MayP size first := hbad.resolve_left hm
    have hm' : muchB size len 100 = false := by simpa using hm
    rw [hm'] at HM
    have HY := Lib.hid (may_no size first hy w0)
    have HN := Lib.hid (new_no size first (by unfold MayP at hy; omega) w0)
    clear hy hbad
    go_enter Try.func11, Try.ntmps11
    go_wp2_with (first | (go_at_call 21; refine HM.out.mono ?_; rintro e w1 ⟨rfl, rfl⟩) | (go_at_call 24; refine HN.out.mono ?_; rintro e w1 ⟨rfl, rfl⟩) | (go_at_call 22; refine HY.out.mono ?_; rintro e w1 ⟨rfl, rfl⟩) | (go_at_call 23; refine (As.knownA (Sat.start w0)).mono ?_; rintro e w2 ⟨rfl, hS⟩))
    go_ret
    exact ⟨rfl, hS.below⟩

set_option maxRecDepth 100000 in
set_option maxHeartbeats 4000000 in
theorem plays_walk (w0 : World) (size first : Int) (v : Value) (len : Nat) (A : Nat → Int) (h : ArgK w0 5 actK v len A) :
    Calls Try.prog 11 #[vi size, vu first, v] w0 (TrueBelow w0) := by
  have hv : ∃ ao cap, v = .slice ao len cap := by
    rcases h.form with ⟨rfl, ao, cap, rfl⟩ | ⟨b, off, cap, rfl, _⟩
    · exact ⟨_, _, rfl⟩
    · exact ⟨_, _, rfl⟩
  obtain ⟨ao, cap, rfl⟩ := hv
  by_cases hbad : muchB size len 100 = true ∨ ¬ MayP size first
  · exact plays_early w0 size first ao len cap hbad
  have hm : muchB size len 100 = false := by simpa using fun e => hbad (.inl e)
  have hmay : MayP size first := Classical.byContradiction fun e => hbad (.inr e)
  have hlen : len ≤ 100 := by
    unfold muchB at hm
    simp at hm
    omega
  have HM := Lib.hid (much_ size 100 len ao cap w0)
  rw [hm] at HM
  obtain ⟨hs1, hs2, hf1, hf2⟩ := hmay
  obtain ⟨sz, rfl⟩ := Int.eq_ofNat_of_zero_le (show 0 ≤ size by omega)
  have HY : Hid (∀ w, Calls Try.prog 22 #[vi sz, vu first] w fun e w' => e = .returned (.bool true) ∧ w = w') := Lib.hid fun w => may_yes sz first ⟨hs1, hs2, hf1, hf2⟩ w
  have HN := Lib.hid (new_ (F := emp) sz first (by omega) (by omega) hf1 hf2 (Sat.start w0))
  have HRN : Hid (∀ F w, Sat w0 F w → Calls Try.prog 27 #[vi sz, vu first] w fun e w' => ∃ q, e = .returned (vp q) ∧ Sat w0 (refP q (rnewL first sz) 0 * F) w') := Lib.hid fun F w h => rnew h sz (by omega) first
  have HA := Lib.hid h
  clear h hm hbad hf1 hf2 hs1 hs2
  go_enter Try.func11, Try.ntmps11
  go_wp2_with (first
    | (go_at_call 21; refine HM.out.mono ?_; rintro e w1 ⟨rfl, rfl⟩)
    | (go_at_call 22; refine (HY.out _).mono ?_; rintro e w1 ⟨rfl, rfl⟩)
    | (go_at_call 24; refine HN.out.mono ?_; rintro e w2 ⟨p, rfl, hS⟩; have H := Lib.hid hS; clear hS)
    | (go_at_call 27; refine (HRN.out _ _ H.out).mono ?_; rintro e w3 ⟨q, rfl, hS⟩; have H2 := Lib.hid (PlS.fresh hS); clear hS)
    | (go_at_call 43; refine H2.out.same_.mono ?_; rintro e w4 ⟨rfl, hS⟩; have H3 := Lib.hid hS; clear hS))
  go_loopw [10] (fun i wr => ∃ k : Nat, k ≤ len ∧ i = vi k ∧ PlS w0 p q sz k emp wr) (fun i _ => len - (intOf i).toNat)
  case atStart => exact ⟨0, Nat.zero_le _, rfl, H3.out⟩
  case round =>
    obtain ⟨k, hk, rfl, hS⟩ := hrel
    by_cases hlt : k < len
    · obtain ⟨b, off, rfl, x0, x1, x2, x3, x4, c0, c1, c2, c3, c4, hbl⟩ := act_at HA.out hS.sat hlt
      have hki : (k : Int) < (len : Int) := by omega
      have HS := Lib.hid hS
      clear hS
      go_wp2_with (first
        | (go_at_call 26; refine (HS.out.do_ (by omega) x0 x1 x2 x3 x4).mono ?_; rintro e w5 ⟨rfl, hS5⟩; have H5 := Lib.hid hS5; clear hS5)
        | (go_at_call 43; refine H5.out.same_.mono ?_; rintro e w6 ⟨rfl, hS6⟩; have H6 := Lib.hid hS6; clear hS6))
      go_roundw
      case rel => exact ⟨k + 1, by omega, by go_num, H6.out⟩
      case measure => (simp [intOf]; try omega)
    · obtain rfl : k = len := by omega
      have HS := Lib.hid hS
      clear hS
      go_wp2_with (go_at_call 23; refine (As.knownA HS.out.sat).mono ?_; rintro e w2 ⟨rfl, hS⟩)
      go_ret
      exact ⟨rfl, hS.below⟩
theorem plays_row (w0 : World) (size : Int) (ws : (Lit.int .i64 size).wf = true) (first : Int) (wf : (Lit.int .u64 first).wf = true) (v : Value) (n : Nat) (A : Nat → Int) (h : ArgK w0 5 actK v n A) :
    Calls Try.prog 11 #[vi size, vu first, v] w0 (TrueBelow w0) := plays_walk w0 size first v n A h
end Go.Proofs.Ytaaplmihmginpaa.Ar
