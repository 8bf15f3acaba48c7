/-
  Package domain: the iterator up. No statement is proved here.
-/
import Derived.Test.YtfioghpnehfjhaaDn3
import Derived.Test.YtfioghpnehfjhaaRg
import Derived.Sort.LoopGhostIn
import Derived.Shelf.Abstract
import Derived.Shelf.RegionOpen
import Derived.OwnWalkIn
import Derived.TacticsInMore
import Derived.LoopNIn
import Derived.LoopIn
namespace Go.Proofs.Ytfioghpnehfjhaa.Dm
open Go.RowKit Go.Shelf Ad
attribute [local go_sem] Oper.semAt_some
set_option linter.unusedVariables false

abbrev upS (d p bd br : Nat) (i g : Int) (ps : List Pl) (free : List Nat) (H : Hp) : Hp := pc br 32 [vi i, vu g] * (pc bd 25 [vp d] * (domB d p * (tblP p ps free * H)))
section
variable {w0 w : World} {free : List Nat}
set_option maxRecDepth 100000 in
set_option maxHeartbeats 2000000 in
theorem up1_ (n : Nat) (hn : 1 ≤ n) (m : Nat) (ri rg : Nat → Int) (pss : Nat → List Pl) (H : Nat → Hp) (d p bd br l : Nat)
    (hY : ∀ k W (F : Hp), k < m → Sat w0 (upS d p bd br (ri k) (rg k) (pss k) free (H k * F)) W → YieldAt Fence.wide (n - 1) Try.prog l #[vr (ri k) (rg k), ev (getX (pss k) (ri k) (rg k))] W fun e W' => e = .returned (.bool true) ∧ Sat w0 (upS d p bd br (ri k) (rg k) (pss (k + 1)) free (H (k + 1) * F)) W')
    (hU : ∀ k, k < m → getE (pss k) (ri k) (rg k) = 0 ∧ (getX (pss k) (ri k) (rg k)).v0 = ri (k + 1) ∧ (getX (pss k) (ri k) (rg k)).v1 = rg (k + 1))
    (hE : getE (pss m) (ri m) (rg m) = 11)
    (h0 : Sat w0 (upS d p bd br (ri 0) (rg 0) (pss 0) free (H 0)) w) :
    CallsIn Fence.wide n Try.prog 70 #[.func (.yield l) #[] #[], vp bd, vp br] w fun e W' => (∃ v, e = .returned v) ∧ Sat w0 (upS d p bd br (ri m) (rg m) (pss m) free (H m)) W' := by
  have HY := Lib.hid hY
  have HU := Lib.hid hU
  have HE := Lib.hid hE
  have HS0 := Lib.hid h0
  clear hY hU hE h0
  refine callsIn_of_wp Try.func70 rfl trivial ?_ rfl
  simp only [Try.ntmps70, List.size_toArray, List.length_cons, List.length_nil, Nat.reduceAdd, Nat.reduceSub, Array.replicate_succ, Array.replicate_zero, List.push_toArray, List.append_toArray, List.nil_append, List.cons_append]
  gi_wp2
  gi_loopg [6] m (fun gk _ wr => ∃ k, k + gk = m ∧ Sat w0 (upS d p bd br (ri k) (rg k) (pss k) free (H k)) wr)
  case atStart => exact ⟨0, by omega, HS0.out⟩
  case round =>
    obtain ⟨k, hk, hS⟩ := hrel
    have b0 := hS.cell 0 rfl
    have b1 := hS.cell 1 rfl
    have d0 := hS.pull2.cell 0 rfl
    have HG := Lib.hid (dm_get (hS.pull3.cast (show _ = domB d p * (tblP p (pss k) free * (pc br 32 [vi (ri k), vu (rg k)] * (pc bd 25 [vp d] * H k))) by ac_rfl)) (ri k) (rg k))
    have HSk := Lib.hid hS
    clear hS
    by_cases hlt : k < m
    · obtain ⟨he, hv0, hv1⟩ := HU.out k hlt
      rw [he] at HG
      have HYk := Lib.hid (fun W F h => HY.out k W F hlt h)
      have HV0 := Lib.hid hv0
      have HV1 := Lib.hid hv1
      clear he hv0 hv1
      generalize getX (pss k) (ri k) (rg k) = x at *
      obtain ⟨v0, v1, v2, v3, v4, v5, v6, v7, v8, v9, v10⟩ := x
      gi_wp2_with fail
      refine ⟨trivial, ?_⟩
      refine (callsIn_wide.2 HG.out).mono ?_
      rintro e w1 ⟨rfl, hS1⟩
      have hT : Sat w0 (pc w1.heap.size 45 (elC ⟨v0, v1, v2, v3, v4, v5, v6, v7, v8, v9, v10⟩) * (domB d p * (tblP p (pss k) free * (pc br 32 [vi (ri k), vu (rg k)] * (pc bd 25 [vp d] * H k))))) (w1.alloc (elO ⟨v0, v1, v2, v3, v4, v5, v6, v7, v8, v9, v10⟩)) := hS1.alloc (elO ⟨v0, v1, v2, v3, v4, v5, v6, v7, v8, v9, v10⟩)
      have hT2 : Sat w0 (upS d p bd br (ri k) (rg k) (pss k) free (H k * elB w1.heap.size ⟨v0, v1, v2, v3, v4, v5, v6, v7, v8, v9, v10⟩)) (w1.alloc (elO ⟨v0, v1, v2, v3, v4, v5, v6, v7, v8, v9, v10⟩)) := hT.cast (by unfold elB upS; ac_rfl)
      clear b0 b1 d0
      have b0 := hT2.cell 0 rfl
      have b1 := hT2.cell 1 rfl
      have q0 := hT.cell 0 rfl
      have q1 := hT.cell 1 rfl
      have q2 := hT.cell 2 rfl
      have q3 := hT.cell 3 rfl
      have q4 := hT.cell 4 rfl
      have q5 := hT.cell 5 rfl
      have q6 := hT.cell 6 rfl
      have q7 := hT.cell 7 rfl
      have q8 := hT.cell 8 rfl
      have q9 := hT.cell 9 rfl
      have q10 := hT.cell 10 rfl
      obtain ⟨fn, tmps, assign, body, hy, hR⟩ := HYk.out _ _ hT2
      have H1 := Lib.hid hT2
      clear hS1 hT hT2
      gi_wp2
      clear b0 b1 q0 q1 q2 q3 q4 q5 q6 q7 q8 q9 q10
      refine hR.mono ?_
      rintro e W3 ⟨rfl, hS3⟩
      have hx : Sat w0 (pc w1.heap.size 45 (elC ⟨v0, v1, v2, v3, v4, v5, v6, v7, v8, v9, v10⟩) * (upS d p bd br (ri k) (rg k) (pss (k + 1)) free (H (k + 1)))) W3 := hS3.cast (by unfold elB upS; ac_rfl)
      have q0 := hx.cell 0 rfl
      have q1 := hx.cell 1 rfl
      have f0 := hS3.free 0
      have f1 := hS3.free 1
      have b0 := hS3.cell 0 rfl
      have b1 := hS3.cell 1 rfl
      have hst := (hx.dropL.store 0 (vi v0)).store 1 (vu v1)
      have HST := Lib.hid hst
      clear hy hR hS3 hx hst
      gi_wp2
      gi_roundg (gk - 1)
      case measure => omega
      case rel =>
        refine ⟨k + 1, by omega, ?_⟩
        rw [← HV0.out, ← HV1.out]
        exact HST.out
    · obtain rfl : k = m := by omega
      rw [HE.out] at HG
      generalize getX (pss k) (ri k) (rg k) = x at *
      obtain ⟨v0, v1, v2, v3, v4, v5, v6, v7, v8, v9, v10⟩ := x
      gi_wp2_with fail
      refine ⟨trivial, ?_⟩
      refine (callsIn_wide.2 HG.out).mono ?_
      rintro e w1 ⟨rfl, hS1⟩
      have hT2 : Sat w0 (upS d p bd br (ri k) (rg k) (pss k) free (H k)) (w1.alloc (elO ⟨v0, v1, v2, v3, v4, v5, v6, v7, v8, v9, v10⟩)) := (hS1.alloc' _).cast (by unfold upS; ac_rfl)
      have H1 := Lib.hid hT2
      clear hS1 hT2
      gi_wp2
      all_goals
        refine ⟨fun _ h => (by cases h), ?_⟩
        gi_wp2
        refine bodyPost_ret (results_none rfl _ _ _) rfl ?_
        exact ⟨⟨_, rfl⟩, H1.out⟩
end
end Go.Proofs.Ytfioghpnehfjhaa.Dm
