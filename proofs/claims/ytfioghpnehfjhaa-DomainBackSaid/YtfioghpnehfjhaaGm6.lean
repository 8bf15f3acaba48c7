/-
  Law 09: the game; what it does, but for carving. No statement is proved here.
-/
import Derived.Test.YtfioghpnehfjhaaGm5
namespace Go.Proofs.Ytfioghpnehfjhaa.Dm
open Go.RowKit Ad
set_option linter.unusedVariables false
set_option linter.unusedSimpArgs false

/-- A game: domains, the reference's, the refs that came. -/
abbrev gameC (g d p q b cap : Nat) (vF vR : Value) (ps : List Pl) (free : List Nat) (rl : List (Int × Int)) (F : Hp) : Hp :=
  pc g 66 [vp d, vp q, vR] * (sl 32 2 vR rl.length (frefs rl) * (domB d p * (tblP p ps free * refD q b cap vF ps free F)))
/-- What is there behind an act. -/
def DoPost (w0 : World) (n T g d p q b cap : Nat) (rl : List (Int × Int)) (F : Hp) (e : Ending) (w' : World) : Prop :=
  ∃ (ps' : List Pl) (free' : List Nat) (rl' : List (Int × Int)) (vG vS : Value), e = .returned (.bool true) ∧ Rel n (T + 1) ps' free' ∧ 0 < rl'.length ∧ rl'.length ≤ rl.length + 1 ∧ Sat w0 (gameC g d p q b cap vG vS ps' free' rl' F) w'
theorem at_fact (x : Int) (L : Nat) (hL : 0 < L) (hx : 1 ≤ x) : ∃ idx j : Nat, idx < L ∧ j < L ∧ (x - 1).tmod (L : Int) = (j : Int) ∧ (x - 1) % (L : Int) = (j : Int) ∧ (L : Int) - 1 - (j : Int) = (idx : Int) := by
  have h0 := Int.emod_nonneg (x - 1) (show (L : Int) ≠ 0 by omega)
  have h1 := Int.emod_lt_of_pos (x - 1) (show (0 : Int) < L by omega)
  refine ⟨L - 1 - ((x - 1) % (L : Int)).toNat, ((x - 1) % (L : Int)).toNat, by omega, by omega, ?_, by omega, by omega⟩
  rw [Int.tmod_eq_emod_of_nonneg (by omega)]
  omega
section
variable {w0 w : World} {F : Hp} {n T g d p q b cap : Nat} {vF vR : Value} {ps : List Pl} {free : List Nat} {rl : List (Int × Int)}
set_option maxRecDepth 100000 in
set_option maxHeartbeats 4000000 in
theorem do_mergeA (h : Rel n T ps free) (hT : T ≤ 1000) (hS : Sat w0 (gameC g d p q b cap vF vR ps free rl F) w) (hrl : 0 < rl.length) (hrl2 : rl.length ≤ 1000) (ri rg at_ gs m per : Int) (hat : at_ < 1) : Calls Try.prog 24 #[vp g, .agg #[vi 2, vi ri, vu rg, vi at_, vi gs, vu m, vu per]] w (DoPost w0 n T g d p q b cap rl F) := by
  have HSt := Lib.hid (fun (i gg : Int) => merge_step h hT i gg)
  have HRl := Lib.hid hrl
  obtain ⟨vo, rcap, rfl⟩ := hS.dropL.rd.len
  obtain ⟨gr, rfl⟩ : ∃ gr, vo = some ⟨gr, 0, none⟩ := by
    rcases hS.dropL.slE.2 with ⟨_, h0, _⟩ | ⟨g', c', cur, hv, _⟩
    · omega
    · injection hv with h1 h2 h3
      exact ⟨g', h1⟩
  have hB0 := (hS.alloc (.cells #[vi 2, vi ri, vu rg, vi at_, vi gs, vu m, vu per] 63)).alloc (.cells #[vi ri, vu rg] 32)
  rw [size1] at hB0
  have hB : Sat w0 (pc (w.heap.size + 1) 32 [vi ri, vu rg] * (pc w.heap.size 63 [vi 2, vi ri, vu rg, vi at_, vi gs, vu m, vu per] * (gameC g d p q b cap vF (.slice (some ⟨gr, 0, none⟩) rl.length rcap) ps free rl F))) ((w.alloc (.cells #[vi 2, vi ri, vu rg, vi at_, vi gs, vu m, vu per] 63)).alloc (.cells #[vi ri, vu rg] 32)) := hB0
  have r0 := hB.cell 0 rfl
  have r1 := hB.cell 1 rfl
  have a0 := hB.pull2.cell 0 rfl
  have a1 := hB.pull2.cell 1 rfl
  have a2 := hB.pull2.cell 2 rfl
  have a3 := hB.pull2.cell 3 rfl
  have a4 := hB.pull2.cell 4 rfl
  have a5 := hB.pull2.cell 5 rfl
  have a6 := hB.pull2.cell 6 rfl
  have g0 := hB.pull3.cell 0 rfl
  have g1 := hB.pull3.cell 1 rfl
  have g2 := hB.pull3.cell 2 rfl
  -- the act's cells, as they are read ahead of it
  have x0 := (hS.alloc (.cells #[vi 2, vi ri, vu rg, vi at_, vi gs, vu m, vu per] 63)).cell (cs := [vi 2, vi ri, vu rg, vi at_, vi gs, vu m, vu per]) (T := 63) 0 rfl
  have x1 := (hS.alloc (.cells #[vi 2, vi ri, vu rg, vi at_, vi gs, vu m, vu per] 63)).cell (cs := [vi 2, vi ri, vu rg, vi at_, vi gs, vu m, vu per]) (T := 63) 1 rfl
  have x2 := (hS.alloc (.cells #[vi 2, vi ri, vu rg, vi at_, vi gs, vu m, vu per] 63)).cell (cs := [vi 2, vi ri, vu rg, vi at_, vi gs, vu m, vu per]) (T := 63) 2 rfl
  have hat2 : ¬ 1 ≤ at_ := by omega
  have HB := Lib.hid hB
  clear hS hB0 hB
  clear h hT
  go_enter Try.func24, Try.ntmps24
  go_wp2_with fail
  clear r0 r1 a0 a1 a2 a3 a4 a5 a6 g0 g1 g2 x0 x1 x2
  generalize ((w.alloc (.cells #[vi 2, vi ri, vu rg, vi at_, vi gs, vu m, vu per] 63)).alloc (.cells #[vi ri, vu rg] 32)) = W1 at *
  generalize w.heap.size + 1 = bR at *
  generalize w.heap.size = bA at *
  obtain ⟨code, ps', free', hRel, hP, hR⟩ := HSt.out ri rg
  have HRel := Lib.hid hRel
  have HP := Lib.hid (hP w0 W1.drew (pc bR 32 [vi ri, vu rg] * (pc bA 63 [vi 2, vi ri, vu rg, vi at_, vi gs, vu m, vu per] * (pc g 66 [vp d, vp q, (.slice (some ⟨gr, 0, none⟩) rl.length rcap)] * (sl 32 2 (.slice (some ⟨gr, 0, none⟩) rl.length rcap) rl.length (frefs rl) * refD q b cap vF ps free F)))) d p (HB.out.drew.cast (by unfold gameC; ac_rfl)))
  have HR := Lib.hid (fun (w5 : World) (h5 : Sat w0 (refD q b cap vF ps free (pc bR 32 [vi ri, vu rg] * (pc bA 63 [vi 2, vi ri, vu rg, vi at_, vi gs, vu m, vu per] * (pc g 66 [vp d, vp q, (.slice (some ⟨gr, 0, none⟩) rl.length rcap)] * (sl 32 2 (.slice (some ⟨gr, 0, none⟩) rl.length rcap) rl.length (frefs rl) * (domB d p * (tblP p ps' free' * F))))))) w5) => hR w0 w5 _ q b cap vF h5)
  have e0 := HB.out.pull3.cell 0 rfl
  have e1 := HB.out.pull3.cell 1 rfl
  have e2 := HB.out.cell 0 rfl
  have e3 := HB.out.cell 1 rfl
  have e4 := HB.out.pull2.cell 5 rfl
  clear hRel hP hR
  go_region_held3 (fun w' => w'.cell? ⟨g, 0, none⟩ = some (vp d) ∧ w'.cell? ⟨g, 1, none⟩ = some (vp q) ∧ w'.cell? ⟨bR, 0, none⟩ = some (vi ri) ∧ w'.cell? ⟨bR, 1, none⟩ = some (vu rg) ∧ w'.cell? ⟨bA, 5, none⟩ = some (vu m))
    (first | exact ⟨e0, e1, e2, e3, e4⟩ | exact ⟨f0, f1, f2, f3, f4⟩ | exact ⟨k0, k1, k2, k3, k4⟩ | go_keep)
    (first
      | (go_at_call 26; (with_reducible refine HP.out.mono ?_); rintro e w5 ⟨rfl, hS5⟩; have h5 := hS5.cast (show _ = pc bR 32 [vi ri, vu rg] * (pc bA 63 [vi 2, vi ri, vu rg, vi at_, vi gs, vu m, vu per] * (pc g 66 [vp d, vp q, (.slice (some ⟨gr, 0, none⟩) rl.length rcap)] * (sl 32 2 (.slice (some ⟨gr, 0, none⟩) rl.length rcap) rl.length (frefs rl) * (domB d p * (tblP p ps' free' * refD q b cap vF ps free F))))) by ac_rfl); have f0 := h5.pull3.cell 0 rfl; have f1 := h5.pull3.cell 1 rfl; have f2 := h5.cell 0 rfl; have f3 := h5.cell 1 rfl; have f4 := h5.pull2.cell 5 rfl; have H5 := Lib.hid h5; clear hS5 h5)
      | (go_at_call 51; (with_reducible refine (HR.out _ (H5.out.cast (by unfold refD; ac_rfl))).mono ?_); rintro e w6 ⟨vG, rfl, hS6⟩; have h6 := hS6.cast (show _ = pc bR 32 [vi ri, vu rg] * (pc bA 63 [vi 2, vi ri, vu rg, vi at_, vi gs, vu m, vu per] * (pc g 66 [vp d, vp q, (.slice (some ⟨gr, 0, none⟩) rl.length rcap)] * (sl 32 2 (.slice (some ⟨gr, 0, none⟩) rl.length rcap) rl.length (frefs rl) * (domB d p * (tblP p ps' free' * refD q b cap vG ps' free' F))))) by unfold refD; ac_rfl); have k0 := h6.pull3.cell 0 rfl; have k1 := h6.pull3.cell 1 rfl; have k2 := h6.cell 0 rfl; have k3 := h6.cell 1 rfl; have k4 := h6.pull2.cell 5 rfl; have H6 := Lib.hid h6; clear hS6 h6))
  go_wp2
  go_ret
  exact ⟨ps', free', rl, vG, _, by simp, HRel.out, HRl.out, by omega, H6.out.dropL.dropL⟩
set_option maxRecDepth 100000 in
set_option maxHeartbeats 4000000 in
theorem do_joinA (h : Rel n T ps free) (hT : T ≤ 1000) (hS : Sat w0 (gameC g d p q b cap vF vR ps free rl F) w) (hrl : 0 < rl.length) (hrl2 : rl.length ≤ 1000) (ri rg at_ gs m per : Int) (hat : at_ < 1) : Calls Try.prog 24 #[vp g, .agg #[vi 3, vi ri, vu rg, vi at_, vi gs, vu m, vu per]] w (DoPost w0 n T g d p q b cap rl F) := by
  have HSt := Lib.hid (fun (i gg : Int) => join_step h i gg)
  have HRl := Lib.hid hrl
  obtain ⟨vo, rcap, rfl⟩ := hS.dropL.rd.len
  obtain ⟨gr, rfl⟩ : ∃ gr, vo = some ⟨gr, 0, none⟩ := by
    rcases hS.dropL.slE.2 with ⟨_, h0, _⟩ | ⟨g', c', cur, hv, _⟩
    · omega
    · injection hv with h1 h2 h3
      exact ⟨g', h1⟩
  have hB0 := (hS.alloc (.cells #[vi 3, vi ri, vu rg, vi at_, vi gs, vu m, vu per] 63)).alloc (.cells #[vi ri, vu rg] 32)
  rw [size1] at hB0
  have hB : Sat w0 (pc (w.heap.size + 1) 32 [vi ri, vu rg] * (pc w.heap.size 63 [vi 3, vi ri, vu rg, vi at_, vi gs, vu m, vu per] * (gameC g d p q b cap vF (.slice (some ⟨gr, 0, none⟩) rl.length rcap) ps free rl F))) ((w.alloc (.cells #[vi 3, vi ri, vu rg, vi at_, vi gs, vu m, vu per] 63)).alloc (.cells #[vi ri, vu rg] 32)) := hB0
  have r0 := hB.cell 0 rfl
  have r1 := hB.cell 1 rfl
  have a0 := hB.pull2.cell 0 rfl
  have a1 := hB.pull2.cell 1 rfl
  have a2 := hB.pull2.cell 2 rfl
  have a3 := hB.pull2.cell 3 rfl
  have a4 := hB.pull2.cell 4 rfl
  have a5 := hB.pull2.cell 5 rfl
  have a6 := hB.pull2.cell 6 rfl
  have g0 := hB.pull3.cell 0 rfl
  have g1 := hB.pull3.cell 1 rfl
  have g2 := hB.pull3.cell 2 rfl
  -- the act's cells, as they are read ahead of it
  have x0 := (hS.alloc (.cells #[vi 3, vi ri, vu rg, vi at_, vi gs, vu m, vu per] 63)).cell (cs := [vi 3, vi ri, vu rg, vi at_, vi gs, vu m, vu per]) (T := 63) 0 rfl
  have x1 := (hS.alloc (.cells #[vi 3, vi ri, vu rg, vi at_, vi gs, vu m, vu per] 63)).cell (cs := [vi 3, vi ri, vu rg, vi at_, vi gs, vu m, vu per]) (T := 63) 1 rfl
  have x2 := (hS.alloc (.cells #[vi 3, vi ri, vu rg, vi at_, vi gs, vu m, vu per] 63)).cell (cs := [vi 3, vi ri, vu rg, vi at_, vi gs, vu m, vu per]) (T := 63) 2 rfl
  have hat2 : ¬ 1 ≤ at_ := by omega
  have HB := Lib.hid hB
  clear hS hB0 hB
  clear h hT
  go_enter Try.func24, Try.ntmps24
  go_wp2_with fail
  clear r0 r1 a0 a1 a2 a3 a4 a5 a6 g0 g1 g2 x0 x1 x2
  generalize ((w.alloc (.cells #[vi 3, vi ri, vu rg, vi at_, vi gs, vu m, vu per] 63)).alloc (.cells #[vi ri, vu rg] 32)) = W1 at *
  generalize w.heap.size + 1 = bR at *
  generalize w.heap.size = bA at *
  obtain ⟨code, ps', free', hRel, hP, hR⟩ := HSt.out ri rg
  have HRel := Lib.hid hRel
  have HP := Lib.hid (hP w0 W1.drew (pc bR 32 [vi ri, vu rg] * (pc bA 63 [vi 3, vi ri, vu rg, vi at_, vi gs, vu m, vu per] * (pc g 66 [vp d, vp q, (.slice (some ⟨gr, 0, none⟩) rl.length rcap)] * (sl 32 2 (.slice (some ⟨gr, 0, none⟩) rl.length rcap) rl.length (frefs rl) * refD q b cap vF ps free F)))) d p (HB.out.drew.cast (by unfold gameC; ac_rfl)))
  have HR := Lib.hid (fun (w5 : World) (h5 : Sat w0 (refD q b cap vF ps free (pc bR 32 [vi ri, vu rg] * (pc bA 63 [vi 3, vi ri, vu rg, vi at_, vi gs, vu m, vu per] * (pc g 66 [vp d, vp q, (.slice (some ⟨gr, 0, none⟩) rl.length rcap)] * (sl 32 2 (.slice (some ⟨gr, 0, none⟩) rl.length rcap) rl.length (frefs rl) * (domB d p * (tblP p ps' free' * F))))))) w5) => hR w0 w5 _ q b cap vF h5)
  have e0 := HB.out.pull3.cell 0 rfl
  have e1 := HB.out.pull3.cell 1 rfl
  have e2 := HB.out.cell 0 rfl
  have e3 := HB.out.cell 1 rfl
  have e4 := HB.out.pull2.cell 5 rfl
  clear hRel hP hR
  go_region_held3 (fun w' => w'.cell? ⟨g, 0, none⟩ = some (vp d) ∧ w'.cell? ⟨g, 1, none⟩ = some (vp q) ∧ w'.cell? ⟨bR, 0, none⟩ = some (vi ri) ∧ w'.cell? ⟨bR, 1, none⟩ = some (vu rg) ∧ w'.cell? ⟨bA, 5, none⟩ = some (vu m))
    (first | exact ⟨e0, e1, e2, e3, e4⟩ | exact ⟨f0, f1, f2, f3, f4⟩ | exact ⟨k0, k1, k2, k3, k4⟩ | go_keep)
    (first
      | (go_at_call 50; (with_reducible refine HP.out.mono ?_); rintro e w5 ⟨rfl, hS5⟩; have h5 := hS5.cast (show _ = pc bR 32 [vi ri, vu rg] * (pc bA 63 [vi 3, vi ri, vu rg, vi at_, vi gs, vu m, vu per] * (pc g 66 [vp d, vp q, (.slice (some ⟨gr, 0, none⟩) rl.length rcap)] * (sl 32 2 (.slice (some ⟨gr, 0, none⟩) rl.length rcap) rl.length (frefs rl) * (domB d p * (tblP p ps' free' * refD q b cap vF ps free F))))) by ac_rfl); have f0 := h5.pull3.cell 0 rfl; have f1 := h5.pull3.cell 1 rfl; have f2 := h5.cell 0 rfl; have f3 := h5.cell 1 rfl; have f4 := h5.pull2.cell 5 rfl; have H5 := Lib.hid h5; clear hS5 h5)
      | (go_at_call 52; (with_reducible refine (HR.out _ (H5.out.cast (by unfold refD; ac_rfl))).mono ?_); rintro e w6 ⟨vG, rfl, hS6⟩; have h6 := hS6.cast (show _ = pc bR 32 [vi ri, vu rg] * (pc bA 63 [vi 3, vi ri, vu rg, vi at_, vi gs, vu m, vu per] * (pc g 66 [vp d, vp q, (.slice (some ⟨gr, 0, none⟩) rl.length rcap)] * (sl 32 2 (.slice (some ⟨gr, 0, none⟩) rl.length rcap) rl.length (frefs rl) * (domB d p * (tblP p ps' free' * refD q b cap vG ps' free' F))))) by unfold refD; ac_rfl); have k0 := h6.pull3.cell 0 rfl; have k1 := h6.pull3.cell 1 rfl; have k2 := h6.cell 0 rfl; have k3 := h6.cell 1 rfl; have k4 := h6.pull2.cell 5 rfl; have H6 := Lib.hid h6; clear hS6 h6))
  go_wp2
  go_ret
  exact ⟨ps', free', rl, vG, _, by simp, HRel.out, HRl.out, by omega, H6.out.dropL.dropL⟩
set_option maxRecDepth 100000 in
set_option maxHeartbeats 4000000 in
theorem do_leaveA (h : Rel n T ps free) (hT : T ≤ 1000) (hS : Sat w0 (gameC g d p q b cap vF vR ps free rl F) w) (hrl : 0 < rl.length) (hrl2 : rl.length ≤ 1000) (ri rg at_ gs m per : Int) (hat : at_ < 1) : Calls Try.prog 24 #[vp g, .agg #[vi 4, vi ri, vu rg, vi at_, vi gs, vu m, vu per]] w (DoPost w0 n T g d p q b cap rl F) := by
  have HSt := Lib.hid (fun (i gg : Int) => leave_step h i gg)
  have HRl := Lib.hid hrl
  obtain ⟨vo, rcap, rfl⟩ := hS.dropL.rd.len
  obtain ⟨gr, rfl⟩ : ∃ gr, vo = some ⟨gr, 0, none⟩ := by
    rcases hS.dropL.slE.2 with ⟨_, h0, _⟩ | ⟨g', c', cur, hv, _⟩
    · omega
    · injection hv with h1 h2 h3
      exact ⟨g', h1⟩
  have hB0 := (hS.alloc (.cells #[vi 4, vi ri, vu rg, vi at_, vi gs, vu m, vu per] 63)).alloc (.cells #[vi ri, vu rg] 32)
  rw [size1] at hB0
  have hB : Sat w0 (pc (w.heap.size + 1) 32 [vi ri, vu rg] * (pc w.heap.size 63 [vi 4, vi ri, vu rg, vi at_, vi gs, vu m, vu per] * (gameC g d p q b cap vF (.slice (some ⟨gr, 0, none⟩) rl.length rcap) ps free rl F))) ((w.alloc (.cells #[vi 4, vi ri, vu rg, vi at_, vi gs, vu m, vu per] 63)).alloc (.cells #[vi ri, vu rg] 32)) := hB0
  have r0 := hB.cell 0 rfl
  have r1 := hB.cell 1 rfl
  have a0 := hB.pull2.cell 0 rfl
  have a1 := hB.pull2.cell 1 rfl
  have a2 := hB.pull2.cell 2 rfl
  have a3 := hB.pull2.cell 3 rfl
  have a4 := hB.pull2.cell 4 rfl
  have a5 := hB.pull2.cell 5 rfl
  have a6 := hB.pull2.cell 6 rfl
  have g0 := hB.pull3.cell 0 rfl
  have g1 := hB.pull3.cell 1 rfl
  have g2 := hB.pull3.cell 2 rfl
  -- the act's cells, as they are read ahead of it
  have x0 := (hS.alloc (.cells #[vi 4, vi ri, vu rg, vi at_, vi gs, vu m, vu per] 63)).cell (cs := [vi 4, vi ri, vu rg, vi at_, vi gs, vu m, vu per]) (T := 63) 0 rfl
  have x1 := (hS.alloc (.cells #[vi 4, vi ri, vu rg, vi at_, vi gs, vu m, vu per] 63)).cell (cs := [vi 4, vi ri, vu rg, vi at_, vi gs, vu m, vu per]) (T := 63) 1 rfl
  have x2 := (hS.alloc (.cells #[vi 4, vi ri, vu rg, vi at_, vi gs, vu m, vu per] 63)).cell (cs := [vi 4, vi ri, vu rg, vi at_, vi gs, vu m, vu per]) (T := 63) 2 rfl
  have hat2 : ¬ 1 ≤ at_ := by omega
  have HB := Lib.hid hB
  clear hS hB0 hB
  clear h hT
  go_enter Try.func24, Try.ntmps24
  go_wp2_with fail
  clear r0 r1 a0 a1 a2 a3 a4 a5 a6 g0 g1 g2 x0 x1 x2
  generalize ((w.alloc (.cells #[vi 4, vi ri, vu rg, vi at_, vi gs, vu m, vu per] 63)).alloc (.cells #[vi ri, vu rg] 32)) = W1 at *
  generalize w.heap.size + 1 = bR at *
  generalize w.heap.size = bA at *
  obtain ⟨code, ps', free', hRel, hP, hR⟩ := HSt.out ri rg
  have HRel := Lib.hid hRel
  have HP := Lib.hid (hP w0 W1.drew (pc bR 32 [vi ri, vu rg] * (pc bA 63 [vi 4, vi ri, vu rg, vi at_, vi gs, vu m, vu per] * (pc g 66 [vp d, vp q, (.slice (some ⟨gr, 0, none⟩) rl.length rcap)] * (sl 32 2 (.slice (some ⟨gr, 0, none⟩) rl.length rcap) rl.length (frefs rl) * refD q b cap vF ps free F)))) d p (HB.out.drew.cast (by unfold gameC; ac_rfl)))
  have HR := Lib.hid (fun (w5 : World) (h5 : Sat w0 (refD q b cap vF ps free (pc bR 32 [vi ri, vu rg] * (pc bA 63 [vi 4, vi ri, vu rg, vi at_, vi gs, vu m, vu per] * (pc g 66 [vp d, vp q, (.slice (some ⟨gr, 0, none⟩) rl.length rcap)] * (sl 32 2 (.slice (some ⟨gr, 0, none⟩) rl.length rcap) rl.length (frefs rl) * (domB d p * (tblP p ps' free' * F))))))) w5) => hR w0 w5 _ q b cap vF h5)
  have e0 := HB.out.pull3.cell 0 rfl
  have e1 := HB.out.pull3.cell 1 rfl
  have e2 := HB.out.cell 0 rfl
  have e3 := HB.out.cell 1 rfl
  have e4 := HB.out.pull2.cell 5 rfl
  clear hRel hP hR
  go_region_held3 (fun w' => w'.cell? ⟨g, 0, none⟩ = some (vp d) ∧ w'.cell? ⟨g, 1, none⟩ = some (vp q) ∧ w'.cell? ⟨bR, 0, none⟩ = some (vi ri) ∧ w'.cell? ⟨bR, 1, none⟩ = some (vu rg) ∧ w'.cell? ⟨bA, 5, none⟩ = some (vu m))
    (first | exact ⟨e0, e1, e2, e3, e4⟩ | exact ⟨f0, f1, f2, f3, f4⟩ | exact ⟨k0, k1, k2, k3, k4⟩ | go_keep)
    (first
      | (go_at_call 53; (with_reducible refine HP.out.mono ?_); rintro e w5 ⟨rfl, hS5⟩; have h5 := hS5.cast (show _ = pc bR 32 [vi ri, vu rg] * (pc bA 63 [vi 4, vi ri, vu rg, vi at_, vi gs, vu m, vu per] * (pc g 66 [vp d, vp q, (.slice (some ⟨gr, 0, none⟩) rl.length rcap)] * (sl 32 2 (.slice (some ⟨gr, 0, none⟩) rl.length rcap) rl.length (frefs rl) * (domB d p * (tblP p ps' free' * refD q b cap vF ps free F))))) by ac_rfl); have f0 := h5.pull3.cell 0 rfl; have f1 := h5.pull3.cell 1 rfl; have f2 := h5.cell 0 rfl; have f3 := h5.cell 1 rfl; have f4 := h5.pull2.cell 5 rfl; have H5 := Lib.hid h5; clear hS5 h5)
      | (go_at_call 54; (with_reducible refine (HR.out _ (H5.out.cast (by unfold refD; ac_rfl))).mono ?_); rintro e w6 ⟨vG, rfl, hS6⟩; have h6 := hS6.cast (show _ = pc bR 32 [vi ri, vu rg] * (pc bA 63 [vi 4, vi ri, vu rg, vi at_, vi gs, vu m, vu per] * (pc g 66 [vp d, vp q, (.slice (some ⟨gr, 0, none⟩) rl.length rcap)] * (sl 32 2 (.slice (some ⟨gr, 0, none⟩) rl.length rcap) rl.length (frefs rl) * (domB d p * (tblP p ps' free' * refD q b cap vG ps' free' F))))) by unfold refD; ac_rfl); have k0 := h6.pull3.cell 0 rfl; have k1 := h6.pull3.cell 1 rfl; have k2 := h6.cell 0 rfl; have k3 := h6.cell 1 rfl; have k4 := h6.pull2.cell 5 rfl; have H6 := Lib.hid h6; clear hS6 h6))
  go_wp2
  go_ret
  exact ⟨ps', free', rl, vG, _, by simp, HRel.out, HRl.out, by omega, H6.out.dropL.dropL⟩
set_option maxRecDepth 100000 in
set_option maxHeartbeats 4000000 in
theorem do_useA (h : Rel n T ps free) (hT : T ≤ 1000) (hS : Sat w0 (gameC g d p q b cap vF vR ps free rl F) w) (hrl : 0 < rl.length) (hrl2 : rl.length ≤ 1000) (ri rg at_ gs m per : Int) (hat : at_ < 1) (hm : U64 m) : Calls Try.prog 24 #[vp g, .agg #[vi 5, vi ri, vu rg, vi at_, vi gs, vu m, vu per]] w (DoPost w0 n T g d p q b cap rl F) := by
  have HSt := Lib.hid (fun (i gg : Int) => use_step h i gg hm)
  have HRl := Lib.hid hrl
  obtain ⟨vo, rcap, rfl⟩ := hS.dropL.rd.len
  obtain ⟨gr, rfl⟩ : ∃ gr, vo = some ⟨gr, 0, none⟩ := by
    rcases hS.dropL.slE.2 with ⟨_, h0, _⟩ | ⟨g', c', cur, hv, _⟩
    · omega
    · injection hv with h1 h2 h3
      exact ⟨g', h1⟩
  have hB0 := (hS.alloc (.cells #[vi 5, vi ri, vu rg, vi at_, vi gs, vu m, vu per] 63)).alloc (.cells #[vi ri, vu rg] 32)
  rw [size1] at hB0
  have hB : Sat w0 (pc (w.heap.size + 1) 32 [vi ri, vu rg] * (pc w.heap.size 63 [vi 5, vi ri, vu rg, vi at_, vi gs, vu m, vu per] * (gameC g d p q b cap vF (.slice (some ⟨gr, 0, none⟩) rl.length rcap) ps free rl F))) ((w.alloc (.cells #[vi 5, vi ri, vu rg, vi at_, vi gs, vu m, vu per] 63)).alloc (.cells #[vi ri, vu rg] 32)) := hB0
  have r0 := hB.cell 0 rfl
  have r1 := hB.cell 1 rfl
  have a0 := hB.pull2.cell 0 rfl
  have a1 := hB.pull2.cell 1 rfl
  have a2 := hB.pull2.cell 2 rfl
  have a3 := hB.pull2.cell 3 rfl
  have a4 := hB.pull2.cell 4 rfl
  have a5 := hB.pull2.cell 5 rfl
  have a6 := hB.pull2.cell 6 rfl
  have g0 := hB.pull3.cell 0 rfl
  have g1 := hB.pull3.cell 1 rfl
  have g2 := hB.pull3.cell 2 rfl
  -- the act's cells, as they are read ahead of it
  have x0 := (hS.alloc (.cells #[vi 5, vi ri, vu rg, vi at_, vi gs, vu m, vu per] 63)).cell (cs := [vi 5, vi ri, vu rg, vi at_, vi gs, vu m, vu per]) (T := 63) 0 rfl
  have x1 := (hS.alloc (.cells #[vi 5, vi ri, vu rg, vi at_, vi gs, vu m, vu per] 63)).cell (cs := [vi 5, vi ri, vu rg, vi at_, vi gs, vu m, vu per]) (T := 63) 1 rfl
  have x2 := (hS.alloc (.cells #[vi 5, vi ri, vu rg, vi at_, vi gs, vu m, vu per] 63)).cell (cs := [vi 5, vi ri, vu rg, vi at_, vi gs, vu m, vu per]) (T := 63) 2 rfl
  have hat2 : ¬ 1 ≤ at_ := by omega
  have HB := Lib.hid hB
  clear hS hB0 hB
  clear h hT
  go_enter Try.func24, Try.ntmps24
  go_wp2_with fail
  clear r0 r1 a0 a1 a2 a3 a4 a5 a6 g0 g1 g2 x0 x1 x2
  generalize ((w.alloc (.cells #[vi 5, vi ri, vu rg, vi at_, vi gs, vu m, vu per] 63)).alloc (.cells #[vi ri, vu rg] 32)) = W1 at *
  generalize w.heap.size + 1 = bR at *
  generalize w.heap.size = bA at *
  obtain ⟨code, ps', free', hRel, hP, hR⟩ := HSt.out ri rg
  have HRel := Lib.hid hRel
  have HP := Lib.hid (hP w0 W1.drew (pc bR 32 [vi ri, vu rg] * (pc bA 63 [vi 5, vi ri, vu rg, vi at_, vi gs, vu m, vu per] * (pc g 66 [vp d, vp q, (.slice (some ⟨gr, 0, none⟩) rl.length rcap)] * (sl 32 2 (.slice (some ⟨gr, 0, none⟩) rl.length rcap) rl.length (frefs rl) * refD q b cap vF ps free F)))) d p (HB.out.drew.cast (by unfold gameC; ac_rfl)))
  have HR := Lib.hid (fun (w5 : World) (h5 : Sat w0 (refD q b cap vF ps free (pc bR 32 [vi ri, vu rg] * (pc bA 63 [vi 5, vi ri, vu rg, vi at_, vi gs, vu m, vu per] * (pc g 66 [vp d, vp q, (.slice (some ⟨gr, 0, none⟩) rl.length rcap)] * (sl 32 2 (.slice (some ⟨gr, 0, none⟩) rl.length rcap) rl.length (frefs rl) * (domB d p * (tblP p ps' free' * F))))))) w5) => hR w0 w5 _ q b cap vF h5)
  have e0 := HB.out.pull3.cell 0 rfl
  have e1 := HB.out.pull3.cell 1 rfl
  have e2 := HB.out.cell 0 rfl
  have e3 := HB.out.cell 1 rfl
  have e4 := HB.out.pull2.cell 5 rfl
  clear hRel hP hR
  go_region_held3 (fun w' => w'.cell? ⟨g, 0, none⟩ = some (vp d) ∧ w'.cell? ⟨g, 1, none⟩ = some (vp q) ∧ w'.cell? ⟨bR, 0, none⟩ = some (vi ri) ∧ w'.cell? ⟨bR, 1, none⟩ = some (vu rg) ∧ w'.cell? ⟨bA, 5, none⟩ = some (vu m))
    (first | exact ⟨e0, e1, e2, e3, e4⟩ | exact ⟨f0, f1, f2, f3, f4⟩ | exact ⟨k0, k1, k2, k3, k4⟩ | go_keep)
    (first
      | (go_at_call 12; (with_reducible refine HP.out.mono ?_); rintro e w5 ⟨rfl, hS5⟩; have h5 := hS5.cast (show _ = pc bR 32 [vi ri, vu rg] * (pc bA 63 [vi 5, vi ri, vu rg, vi at_, vi gs, vu m, vu per] * (pc g 66 [vp d, vp q, (.slice (some ⟨gr, 0, none⟩) rl.length rcap)] * (sl 32 2 (.slice (some ⟨gr, 0, none⟩) rl.length rcap) rl.length (frefs rl) * (domB d p * (tblP p ps' free' * refD q b cap vF ps free F))))) by ac_rfl); have f0 := h5.pull3.cell 0 rfl; have f1 := h5.pull3.cell 1 rfl; have f2 := h5.cell 0 rfl; have f3 := h5.cell 1 rfl; have f4 := h5.pull2.cell 5 rfl; have H5 := Lib.hid h5; clear hS5 h5)
      | (go_at_call 55; (with_reducible refine (HR.out _ (H5.out.cast (by unfold refD; ac_rfl))).mono ?_); rintro e w6 ⟨vG, rfl, hS6⟩; have h6 := hS6.cast (show _ = pc bR 32 [vi ri, vu rg] * (pc bA 63 [vi 5, vi ri, vu rg, vi at_, vi gs, vu m, vu per] * (pc g 66 [vp d, vp q, (.slice (some ⟨gr, 0, none⟩) rl.length rcap)] * (sl 32 2 (.slice (some ⟨gr, 0, none⟩) rl.length rcap) rl.length (frefs rl) * (domB d p * (tblP p ps' free' * refD q b cap vG ps' free' F))))) by unfold refD; ac_rfl); have k0 := h6.pull3.cell 0 rfl; have k1 := h6.pull3.cell 1 rfl; have k2 := h6.cell 0 rfl; have k3 := h6.cell 1 rfl; have k4 := h6.pull2.cell 5 rfl; have H6 := Lib.hid h6; clear hS6 h6))
  go_wp2
  go_ret
  exact ⟨ps', free', rl, vG, _, by simp, HRel.out, HRl.out, by omega, H6.out.dropL.dropL⟩
set_option maxRecDepth 100000 in
set_option maxHeartbeats 4000000 in
theorem do_clearA (h : Rel n T ps free) (hT : T ≤ 1000) (hS : Sat w0 (gameC g d p q b cap vF vR ps free rl F) w) (hrl : 0 < rl.length) (hrl2 : rl.length ≤ 1000) (ri rg at_ gs m per : Int) (hat : at_ < 1) : Calls Try.prog 24 #[vp g, .agg #[vi 6, vi ri, vu rg, vi at_, vi gs, vu m, vu per]] w (DoPost w0 n T g d p q b cap rl F) := by
  have HSt := Lib.hid (fun (i gg : Int) => clear_step h i gg)
  have HRl := Lib.hid hrl
  obtain ⟨vo, rcap, rfl⟩ := hS.dropL.rd.len
  obtain ⟨gr, rfl⟩ : ∃ gr, vo = some ⟨gr, 0, none⟩ := by
    rcases hS.dropL.slE.2 with ⟨_, h0, _⟩ | ⟨g', c', cur, hv, _⟩
    · omega
    · injection hv with h1 h2 h3
      exact ⟨g', h1⟩
  have hB0 := (hS.alloc (.cells #[vi 6, vi ri, vu rg, vi at_, vi gs, vu m, vu per] 63)).alloc (.cells #[vi ri, vu rg] 32)
  rw [size1] at hB0
  have hB : Sat w0 (pc (w.heap.size + 1) 32 [vi ri, vu rg] * (pc w.heap.size 63 [vi 6, vi ri, vu rg, vi at_, vi gs, vu m, vu per] * (gameC g d p q b cap vF (.slice (some ⟨gr, 0, none⟩) rl.length rcap) ps free rl F))) ((w.alloc (.cells #[vi 6, vi ri, vu rg, vi at_, vi gs, vu m, vu per] 63)).alloc (.cells #[vi ri, vu rg] 32)) := hB0
  have r0 := hB.cell 0 rfl
  have r1 := hB.cell 1 rfl
  have a0 := hB.pull2.cell 0 rfl
  have a1 := hB.pull2.cell 1 rfl
  have a2 := hB.pull2.cell 2 rfl
  have a3 := hB.pull2.cell 3 rfl
  have a4 := hB.pull2.cell 4 rfl
  have a5 := hB.pull2.cell 5 rfl
  have a6 := hB.pull2.cell 6 rfl
  have g0 := hB.pull3.cell 0 rfl
  have g1 := hB.pull3.cell 1 rfl
  have g2 := hB.pull3.cell 2 rfl
  -- the act's cells, as they are read ahead of it
  have x0 := (hS.alloc (.cells #[vi 6, vi ri, vu rg, vi at_, vi gs, vu m, vu per] 63)).cell (cs := [vi 6, vi ri, vu rg, vi at_, vi gs, vu m, vu per]) (T := 63) 0 rfl
  have x1 := (hS.alloc (.cells #[vi 6, vi ri, vu rg, vi at_, vi gs, vu m, vu per] 63)).cell (cs := [vi 6, vi ri, vu rg, vi at_, vi gs, vu m, vu per]) (T := 63) 1 rfl
  have x2 := (hS.alloc (.cells #[vi 6, vi ri, vu rg, vi at_, vi gs, vu m, vu per] 63)).cell (cs := [vi 6, vi ri, vu rg, vi at_, vi gs, vu m, vu per]) (T := 63) 2 rfl
  have hat2 : ¬ 1 ≤ at_ := by omega
  have HB := Lib.hid hB
  clear hS hB0 hB
  clear h hT
  go_enter Try.func24, Try.ntmps24
  go_wp2_with fail
  clear r0 r1 a0 a1 a2 a3 a4 a5 a6 g0 g1 g2 x0 x1 x2
  generalize ((w.alloc (.cells #[vi 6, vi ri, vu rg, vi at_, vi gs, vu m, vu per] 63)).alloc (.cells #[vi ri, vu rg] 32)) = W1 at *
  generalize w.heap.size + 1 = bR at *
  generalize w.heap.size = bA at *
  obtain ⟨code, ps', free', hRel, hP, hR⟩ := HSt.out ri rg
  have HRel := Lib.hid hRel
  have HP := Lib.hid (hP w0 W1.drew (pc bR 32 [vi ri, vu rg] * (pc bA 63 [vi 6, vi ri, vu rg, vi at_, vi gs, vu m, vu per] * (pc g 66 [vp d, vp q, (.slice (some ⟨gr, 0, none⟩) rl.length rcap)] * (sl 32 2 (.slice (some ⟨gr, 0, none⟩) rl.length rcap) rl.length (frefs rl) * refD q b cap vF ps free F)))) d p (HB.out.drew.cast (by unfold gameC; ac_rfl)))
  have HR := Lib.hid (fun (w5 : World) (h5 : Sat w0 (refD q b cap vF ps free (pc bR 32 [vi ri, vu rg] * (pc bA 63 [vi 6, vi ri, vu rg, vi at_, vi gs, vu m, vu per] * (pc g 66 [vp d, vp q, (.slice (some ⟨gr, 0, none⟩) rl.length rcap)] * (sl 32 2 (.slice (some ⟨gr, 0, none⟩) rl.length rcap) rl.length (frefs rl) * (domB d p * (tblP p ps' free' * F))))))) w5) => hR w0 w5 _ q b cap vF h5)
  have e0 := HB.out.pull3.cell 0 rfl
  have e1 := HB.out.pull3.cell 1 rfl
  have e2 := HB.out.cell 0 rfl
  have e3 := HB.out.cell 1 rfl
  have e4 := HB.out.pull2.cell 5 rfl
  clear hRel hP hR
  go_region_held3 (fun w' => w'.cell? ⟨g, 0, none⟩ = some (vp d) ∧ w'.cell? ⟨g, 1, none⟩ = some (vp q) ∧ w'.cell? ⟨bR, 0, none⟩ = some (vi ri) ∧ w'.cell? ⟨bR, 1, none⟩ = some (vu rg) ∧ w'.cell? ⟨bA, 5, none⟩ = some (vu m))
    (first | exact ⟨e0, e1, e2, e3, e4⟩ | exact ⟨f0, f1, f2, f3, f4⟩ | exact ⟨k0, k1, k2, k3, k4⟩ | go_keep)
    (first
      | (go_at_call 40; (with_reducible refine HP.out.mono ?_); rintro e w5 ⟨rfl, hS5⟩; have h5 := hS5.cast (show _ = pc bR 32 [vi ri, vu rg] * (pc bA 63 [vi 6, vi ri, vu rg, vi at_, vi gs, vu m, vu per] * (pc g 66 [vp d, vp q, (.slice (some ⟨gr, 0, none⟩) rl.length rcap)] * (sl 32 2 (.slice (some ⟨gr, 0, none⟩) rl.length rcap) rl.length (frefs rl) * (domB d p * (tblP p ps' free' * refD q b cap vF ps free F))))) by ac_rfl); have f0 := h5.pull3.cell 0 rfl; have f1 := h5.pull3.cell 1 rfl; have f2 := h5.cell 0 rfl; have f3 := h5.cell 1 rfl; have f4 := h5.pull2.cell 5 rfl; have H5 := Lib.hid h5; clear hS5 h5)
      | (go_at_call 56; (with_reducible refine (HR.out _ (H5.out.cast (by unfold refD; ac_rfl))).mono ?_); rintro e w6 ⟨vG, rfl, hS6⟩; have h6 := hS6.cast (show _ = pc bR 32 [vi ri, vu rg] * (pc bA 63 [vi 6, vi ri, vu rg, vi at_, vi gs, vu m, vu per] * (pc g 66 [vp d, vp q, (.slice (some ⟨gr, 0, none⟩) rl.length rcap)] * (sl 32 2 (.slice (some ⟨gr, 0, none⟩) rl.length rcap) rl.length (frefs rl) * (domB d p * (tblP p ps' free' * refD q b cap vG ps' free' F))))) by unfold refD; ac_rfl); have k0 := h6.pull3.cell 0 rfl; have k1 := h6.pull3.cell 1 rfl; have k2 := h6.cell 0 rfl; have k3 := h6.cell 1 rfl; have k4 := h6.pull2.cell 5 rfl; have H6 := Lib.hid h6; clear hS6 h6))
  go_wp2
  go_ret
  exact ⟨ps', free', rl, vG, _, by simp, HRel.out, HRl.out, by omega, H6.out.dropL.dropL⟩
set_option maxRecDepth 100000 in
set_option maxHeartbeats 4000000 in
theorem do_otherA (h : Rel n T ps free) (hT : T ≤ 1000) (hS : Sat w0 (gameC g d p q b cap vF vR ps free rl F) w) (hrl : 0 < rl.length) (hrl2 : rl.length ≤ 1000) (ri rg at_ gs m per : Int) (hat : at_ < 1) (kind : Int) (hk : kind ≠ 1 ∧ kind ≠ 2 ∧ kind ≠ 3 ∧ kind ≠ 4 ∧ kind ≠ 5 ∧ kind ≠ 6) : Calls Try.prog 24 #[vp g, .agg #[vi kind, vi ri, vu rg, vi at_, vi gs, vu m, vu per]] w (DoPost w0 n T g d p q b cap rl F) := by
  have HRl := Lib.hid hrl
  have HRel := Lib.hid (h.mono (Nat.le_succ T))
  have k1 : (kind == 1) = false := beq_eq_false_iff_ne.2 hk.1
  have k2 : (kind == 2) = false := beq_eq_false_iff_ne.2 hk.2.1
  have k3 : (kind == 3) = false := beq_eq_false_iff_ne.2 hk.2.2.1
  have k4 : (kind == 4) = false := beq_eq_false_iff_ne.2 hk.2.2.2.1
  have k5 : (kind == 5) = false := beq_eq_false_iff_ne.2 hk.2.2.2.2.1
  have k6 : (kind == 6) = false := beq_eq_false_iff_ne.2 hk.2.2.2.2.2
  obtain ⟨vo, rcap, rfl⟩ := hS.dropL.rd.len
  obtain ⟨gr, rfl⟩ : ∃ gr, vo = some ⟨gr, 0, none⟩ := by
    rcases hS.dropL.slE.2 with ⟨_, h0, _⟩ | ⟨g', c', cur, hv, _⟩
    · omega
    · injection hv with h1 h2 h3
      exact ⟨g', h1⟩
  have hB0 := (hS.alloc (.cells #[vi kind, vi ri, vu rg, vi at_, vi gs, vu m, vu per] 63)).alloc (.cells #[vi ri, vu rg] 32)
  rw [size1] at hB0
  have hB : Sat w0 (pc (w.heap.size + 1) 32 [vi ri, vu rg] * (pc w.heap.size 63 [vi kind, vi ri, vu rg, vi at_, vi gs, vu m, vu per] * (gameC g d p q b cap vF (.slice (some ⟨gr, 0, none⟩) rl.length rcap) ps free rl F))) ((w.alloc (.cells #[vi kind, vi ri, vu rg, vi at_, vi gs, vu m, vu per] 63)).alloc (.cells #[vi ri, vu rg] 32)) := hB0
  have r0 := hB.cell 0 rfl
  have r1 := hB.cell 1 rfl
  have a0 := hB.pull2.cell 0 rfl
  have a1 := hB.pull2.cell 1 rfl
  have a2 := hB.pull2.cell 2 rfl
  have a3 := hB.pull2.cell 3 rfl
  have a4 := hB.pull2.cell 4 rfl
  have a5 := hB.pull2.cell 5 rfl
  have a6 := hB.pull2.cell 6 rfl
  have g0 := hB.pull3.cell 0 rfl
  have g1 := hB.pull3.cell 1 rfl
  have g2 := hB.pull3.cell 2 rfl
  -- the act's cells, as they are read ahead of it
  have x0 := (hS.alloc (.cells #[vi kind, vi ri, vu rg, vi at_, vi gs, vu m, vu per] 63)).cell (cs := [vi kind, vi ri, vu rg, vi at_, vi gs, vu m, vu per]) (T := 63) 0 rfl
  have x1 := (hS.alloc (.cells #[vi kind, vi ri, vu rg, vi at_, vi gs, vu m, vu per] 63)).cell (cs := [vi kind, vi ri, vu rg, vi at_, vi gs, vu m, vu per]) (T := 63) 1 rfl
  have x2 := (hS.alloc (.cells #[vi kind, vi ri, vu rg, vi at_, vi gs, vu m, vu per] 63)).cell (cs := [vi kind, vi ri, vu rg, vi at_, vi gs, vu m, vu per]) (T := 63) 2 rfl
  have hat2 : ¬ 1 ≤ at_ := by omega
  have HB := Lib.hid hB
  clear hS hB0 hB
  clear h hT hk
  go_enter Try.func24, Try.ntmps24
  go_wp2_with fail
  clear r0 r1 a0 a1 a2 a3 a4 a5 a6 g0 g1 g2 x0 x1 x2
  generalize ((w.alloc (.cells #[vi kind, vi ri, vu rg, vi at_, vi gs, vu m, vu per] 63)).alloc (.cells #[vi ri, vu rg] 32)) = W1 at *
  generalize w.heap.size + 1 = bR at *
  generalize w.heap.size = bA at *
  go_ret
  exact ⟨ps, free, rl, vF, _, rfl, HRel.out, HRl.out, by omega, HB.out.dropL.dropL⟩
set_option maxRecDepth 100000 in
set_option maxHeartbeats 4000000 in
theorem do_mergeB (h : Rel n T ps free) (hT : T ≤ 1000) (hS : Sat w0 (gameC g d p q b cap vF vR ps free rl F) w) (hrl : 0 < rl.length) (hrl2 : rl.length ≤ 1000) (ri rg at_ gs m per : Int) (hat : 1 ≤ at_ ∧ at_ ≤ 9223372036854775807) : Calls Try.prog 24 #[vp g, .agg #[vi 2, vi ri, vu rg, vi at_, vi gs, vu m, vu per]] w (DoPost w0 n T g d p q b cap rl F) := by
  have HSt := Lib.hid (fun (i gg : Int) => merge_step h hT i gg)
  have HRl := Lib.hid hrl
  obtain ⟨vo, rcap, rfl⟩ := hS.dropL.rd.len
  obtain ⟨gr, rfl⟩ : ∃ gr, vo = some ⟨gr, 0, none⟩ := by
    rcases hS.dropL.slE.2 with ⟨_, h0, _⟩ | ⟨g', c', cur, hv, _⟩
    · omega
    · injection hv with h1 h2 h3
      exact ⟨g', h1⟩
  have hB0 := (hS.alloc (.cells #[vi 2, vi ri, vu rg, vi at_, vi gs, vu m, vu per] 63)).alloc (.cells #[vi ri, vu rg] 32)
  rw [size1] at hB0
  have hB : Sat w0 (pc (w.heap.size + 1) 32 [vi ri, vu rg] * (pc w.heap.size 63 [vi 2, vi ri, vu rg, vi at_, vi gs, vu m, vu per] * (gameC g d p q b cap vF (.slice (some ⟨gr, 0, none⟩) rl.length rcap) ps free rl F))) ((w.alloc (.cells #[vi 2, vi ri, vu rg, vi at_, vi gs, vu m, vu per] 63)).alloc (.cells #[vi ri, vu rg] 32)) := hB0
  have r0 := hB.cell 0 rfl
  have r1 := hB.cell 1 rfl
  have a0 := hB.pull2.cell 0 rfl
  have a1 := hB.pull2.cell 1 rfl
  have a2 := hB.pull2.cell 2 rfl
  have a3 := hB.pull2.cell 3 rfl
  have a4 := hB.pull2.cell 4 rfl
  have a5 := hB.pull2.cell 5 rfl
  have a6 := hB.pull2.cell 6 rfl
  have g0 := hB.pull3.cell 0 rfl
  have g1 := hB.pull3.cell 1 rfl
  have g2 := hB.pull3.cell 2 rfl
  -- the act's cells, as they are read ahead of it
  have x0 := (hS.alloc (.cells #[vi 2, vi ri, vu rg, vi at_, vi gs, vu m, vu per] 63)).cell (cs := [vi 2, vi ri, vu rg, vi at_, vi gs, vu m, vu per]) (T := 63) 0 rfl
  have x1 := (hS.alloc (.cells #[vi 2, vi ri, vu rg, vi at_, vi gs, vu m, vu per] 63)).cell (cs := [vi 2, vi ri, vu rg, vi at_, vi gs, vu m, vu per]) (T := 63) 1 rfl
  have x2 := (hS.alloc (.cells #[vi 2, vi ri, vu rg, vi at_, vi gs, vu m, vu per] 63)).cell (cs := [vi 2, vi ri, vu rg, vi at_, vi gs, vu m, vu per]) (T := 63) 2 rfl
  obtain ⟨idx, j, hidx, hj, ht1, ht2, ht3⟩ := at_fact at_ rl.length hrl hat.1
  have hidxi : (idx : Int) < (rl.length : Int) := by omega
  have hw1 : IntKind.i64.wrap (at_ - 1) = at_ - 1 := IntWalk.i64_in _ (by omega)
  have hw2 : IntKind.i64.wrap ((rl.length : Int) - 1) = (rl.length : Int) - 1 := IntWalk.i64_in _ (by omega)
  have hw3 : IntKind.i64.wrap ((rl.length : Int) - 1 - (j : Int)) = (idx : Int) := by rw [ht3]; exact IntWalk.i64_in _ (by omega)
  have hn0 : ¬ (rl.length : Int) = 0 := by omega
  obtain ⟨⟨i, gg⟩, hrr⟩ : ∃ r, rl[idx]? = some r := ⟨rl[idx], List.getElem?_eq_getElem hidx⟩
  have l0 := hB.dropL.dropL.dropL.slCell _ (frefs_at hrr).1
  have l1 := hB.dropL.dropL.dropL.slCell _ (frefs_at hrr).2
  dsimp only at l0 l1
  have rf0 := hB.free 0
  have rf1 := hB.free 1
  have hst := ((hS.alloc (.cells #[vi 2, vi ri, vu rg, vi at_, vi gs, vu m, vu per] 63)).alloc (.cells #[vi i, vu gg] 32)).drew
  rw [size1] at hst
  have HST : Hid (Sat w0 (pc (w.heap.size + 1) 32 [vi i, vu gg] * (pc w.heap.size 63 [vi 2, vi ri, vu rg, vi at_, vi gs, vu m, vu per] * _)) _) := Lib.hid hst
  have hat2 : 1 ≤ at_ := hat.1
  clear hst hS hB0 hB hrr ht3
  clear h hT
  go_enter Try.func24, Try.ntmps24
  go_wp2_with fail
  refine wp_quiet_tail 22 (by kernel_rfl) (by kernel_rfl) ?_
  simp only [List.take_succ_cons, List.take_zero, List.drop_succ_cons, List.drop_zero]
  repeat (go_big_quiet_step (fail))
  refine wpQuiet_nil ?_
  have a0 := HST.out.pull2.cell 0 rfl
  have a4 := HST.out.pull2.cell 4 rfl
  have a5 := HST.out.pull2.cell 5 rfl
  have a6 := HST.out.pull2.cell 6 rfl
  go_wp2_with fail
  have HB := HST
  clear r0 r1 a0 a1 a2 a3 a4 a5 a6 g0 g1 g2 x0 x1 x2 l0 l1 rf0 rf1 hw1 hw2 hw3 HST
  generalize ((w.alloc (.cells #[vi 2, vi ri, vu rg, vi at_, vi gs, vu m, vu per] 63)).alloc (.cells #[vi i, vu gg] 32)).drew = W1 at *
  generalize w.heap.size + 1 = bR at *
  generalize w.heap.size = bA at *
  obtain ⟨code, ps', free', hRel, hP, hR⟩ := HSt.out i gg
  have HRel := Lib.hid hRel
  have HP := Lib.hid (hP w0 W1.drew (pc bR 32 [vi i, vu gg] * (pc bA 63 [vi 2, vi ri, vu rg, vi at_, vi gs, vu m, vu per] * (pc g 66 [vp d, vp q, (.slice (some ⟨gr, 0, none⟩) rl.length rcap)] * (sl 32 2 (.slice (some ⟨gr, 0, none⟩) rl.length rcap) rl.length (frefs rl) * refD q b cap vF ps free F)))) d p (HB.out.drew.cast (by unfold gameC; ac_rfl)))
  have HR := Lib.hid (fun (w5 : World) (h5 : Sat w0 (refD q b cap vF ps free (pc bR 32 [vi i, vu gg] * (pc bA 63 [vi 2, vi ri, vu rg, vi at_, vi gs, vu m, vu per] * (pc g 66 [vp d, vp q, (.slice (some ⟨gr, 0, none⟩) rl.length rcap)] * (sl 32 2 (.slice (some ⟨gr, 0, none⟩) rl.length rcap) rl.length (frefs rl) * (domB d p * (tblP p ps' free' * F))))))) w5) => hR w0 w5 _ q b cap vF h5)
  have e0 := HB.out.pull3.cell 0 rfl
  have e1 := HB.out.pull3.cell 1 rfl
  have e2 := HB.out.cell 0 rfl
  have e3 := HB.out.cell 1 rfl
  have e4 := HB.out.pull2.cell 5 rfl
  clear hRel hP hR
  go_region_held3 (fun w' => w'.cell? ⟨g, 0, none⟩ = some (vp d) ∧ w'.cell? ⟨g, 1, none⟩ = some (vp q) ∧ w'.cell? ⟨bR, 0, none⟩ = some (vi i) ∧ w'.cell? ⟨bR, 1, none⟩ = some (vu gg) ∧ w'.cell? ⟨bA, 5, none⟩ = some (vu m))
    (first | exact ⟨e0, e1, e2, e3, e4⟩ | exact ⟨f0, f1, f2, f3, f4⟩ | exact ⟨k0, k1, k2, k3, k4⟩ | go_keep)
    (first
      | (go_at_call 26; (with_reducible refine HP.out.mono ?_); rintro e w5 ⟨rfl, hS5⟩; have h5 := hS5.cast (show _ = pc bR 32 [vi i, vu gg] * (pc bA 63 [vi 2, vi ri, vu rg, vi at_, vi gs, vu m, vu per] * (pc g 66 [vp d, vp q, (.slice (some ⟨gr, 0, none⟩) rl.length rcap)] * (sl 32 2 (.slice (some ⟨gr, 0, none⟩) rl.length rcap) rl.length (frefs rl) * (domB d p * (tblP p ps' free' * refD q b cap vF ps free F))))) by ac_rfl); have f0 := h5.pull3.cell 0 rfl; have f1 := h5.pull3.cell 1 rfl; have f2 := h5.cell 0 rfl; have f3 := h5.cell 1 rfl; have f4 := h5.pull2.cell 5 rfl; have H5 := Lib.hid h5; clear hS5 h5)
      | (go_at_call 51; (with_reducible refine (HR.out _ (H5.out.cast (by unfold refD; ac_rfl))).mono ?_); rintro e w6 ⟨vG, rfl, hS6⟩; have h6 := hS6.cast (show _ = pc bR 32 [vi i, vu gg] * (pc bA 63 [vi 2, vi ri, vu rg, vi at_, vi gs, vu m, vu per] * (pc g 66 [vp d, vp q, (.slice (some ⟨gr, 0, none⟩) rl.length rcap)] * (sl 32 2 (.slice (some ⟨gr, 0, none⟩) rl.length rcap) rl.length (frefs rl) * (domB d p * (tblP p ps' free' * refD q b cap vG ps' free' F))))) by unfold refD; ac_rfl); have k0 := h6.pull3.cell 0 rfl; have k1 := h6.pull3.cell 1 rfl; have k2 := h6.cell 0 rfl; have k3 := h6.cell 1 rfl; have k4 := h6.pull2.cell 5 rfl; have H6 := Lib.hid h6; clear hS6 h6))
  go_wp2
  go_ret
  exact ⟨ps', free', rl, vG, _, by simp, HRel.out, HRl.out, by omega, H6.out.dropL.dropL⟩
set_option maxRecDepth 100000 in
set_option maxHeartbeats 4000000 in
theorem do_joinB (h : Rel n T ps free) (hT : T ≤ 1000) (hS : Sat w0 (gameC g d p q b cap vF vR ps free rl F) w) (hrl : 0 < rl.length) (hrl2 : rl.length ≤ 1000) (ri rg at_ gs m per : Int) (hat : 1 ≤ at_ ∧ at_ ≤ 9223372036854775807) : Calls Try.prog 24 #[vp g, .agg #[vi 3, vi ri, vu rg, vi at_, vi gs, vu m, vu per]] w (DoPost w0 n T g d p q b cap rl F) := by
  have HSt := Lib.hid (fun (i gg : Int) => join_step h i gg)
  have HRl := Lib.hid hrl
  obtain ⟨vo, rcap, rfl⟩ := hS.dropL.rd.len
  obtain ⟨gr, rfl⟩ : ∃ gr, vo = some ⟨gr, 0, none⟩ := by
    rcases hS.dropL.slE.2 with ⟨_, h0, _⟩ | ⟨g', c', cur, hv, _⟩
    · omega
    · injection hv with h1 h2 h3
      exact ⟨g', h1⟩
  have hB0 := (hS.alloc (.cells #[vi 3, vi ri, vu rg, vi at_, vi gs, vu m, vu per] 63)).alloc (.cells #[vi ri, vu rg] 32)
  rw [size1] at hB0
  have hB : Sat w0 (pc (w.heap.size + 1) 32 [vi ri, vu rg] * (pc w.heap.size 63 [vi 3, vi ri, vu rg, vi at_, vi gs, vu m, vu per] * (gameC g d p q b cap vF (.slice (some ⟨gr, 0, none⟩) rl.length rcap) ps free rl F))) ((w.alloc (.cells #[vi 3, vi ri, vu rg, vi at_, vi gs, vu m, vu per] 63)).alloc (.cells #[vi ri, vu rg] 32)) := hB0
  have r0 := hB.cell 0 rfl
  have r1 := hB.cell 1 rfl
  have a0 := hB.pull2.cell 0 rfl
  have a1 := hB.pull2.cell 1 rfl
  have a2 := hB.pull2.cell 2 rfl
  have a3 := hB.pull2.cell 3 rfl
  have a4 := hB.pull2.cell 4 rfl
  have a5 := hB.pull2.cell 5 rfl
  have a6 := hB.pull2.cell 6 rfl
  have g0 := hB.pull3.cell 0 rfl
  have g1 := hB.pull3.cell 1 rfl
  have g2 := hB.pull3.cell 2 rfl
  -- the act's cells, as they are read ahead of it
  have x0 := (hS.alloc (.cells #[vi 3, vi ri, vu rg, vi at_, vi gs, vu m, vu per] 63)).cell (cs := [vi 3, vi ri, vu rg, vi at_, vi gs, vu m, vu per]) (T := 63) 0 rfl
  have x1 := (hS.alloc (.cells #[vi 3, vi ri, vu rg, vi at_, vi gs, vu m, vu per] 63)).cell (cs := [vi 3, vi ri, vu rg, vi at_, vi gs, vu m, vu per]) (T := 63) 1 rfl
  have x2 := (hS.alloc (.cells #[vi 3, vi ri, vu rg, vi at_, vi gs, vu m, vu per] 63)).cell (cs := [vi 3, vi ri, vu rg, vi at_, vi gs, vu m, vu per]) (T := 63) 2 rfl
  obtain ⟨idx, j, hidx, hj, ht1, ht2, ht3⟩ := at_fact at_ rl.length hrl hat.1
  have hidxi : (idx : Int) < (rl.length : Int) := by omega
  have hw1 : IntKind.i64.wrap (at_ - 1) = at_ - 1 := IntWalk.i64_in _ (by omega)
  have hw2 : IntKind.i64.wrap ((rl.length : Int) - 1) = (rl.length : Int) - 1 := IntWalk.i64_in _ (by omega)
  have hw3 : IntKind.i64.wrap ((rl.length : Int) - 1 - (j : Int)) = (idx : Int) := by rw [ht3]; exact IntWalk.i64_in _ (by omega)
  have hn0 : ¬ (rl.length : Int) = 0 := by omega
  obtain ⟨⟨i, gg⟩, hrr⟩ : ∃ r, rl[idx]? = some r := ⟨rl[idx], List.getElem?_eq_getElem hidx⟩
  have l0 := hB.dropL.dropL.dropL.slCell _ (frefs_at hrr).1
  have l1 := hB.dropL.dropL.dropL.slCell _ (frefs_at hrr).2
  dsimp only at l0 l1
  have rf0 := hB.free 0
  have rf1 := hB.free 1
  have hst := ((hS.alloc (.cells #[vi 3, vi ri, vu rg, vi at_, vi gs, vu m, vu per] 63)).alloc (.cells #[vi i, vu gg] 32)).drew
  rw [size1] at hst
  have HST : Hid (Sat w0 (pc (w.heap.size + 1) 32 [vi i, vu gg] * (pc w.heap.size 63 [vi 3, vi ri, vu rg, vi at_, vi gs, vu m, vu per] * _)) _) := Lib.hid hst
  have hat2 : 1 ≤ at_ := hat.1
  clear hst hS hB0 hB hrr ht3
  clear h hT
  go_enter Try.func24, Try.ntmps24
  go_wp2_with fail
  refine wp_quiet_tail 22 (by kernel_rfl) (by kernel_rfl) ?_
  simp only [List.take_succ_cons, List.take_zero, List.drop_succ_cons, List.drop_zero]
  repeat (go_big_quiet_step (fail))
  refine wpQuiet_nil ?_
  have a0 := HST.out.pull2.cell 0 rfl
  have a4 := HST.out.pull2.cell 4 rfl
  have a5 := HST.out.pull2.cell 5 rfl
  have a6 := HST.out.pull2.cell 6 rfl
  go_wp2_with fail
  have HB := HST
  clear r0 r1 a0 a1 a2 a3 a4 a5 a6 g0 g1 g2 x0 x1 x2 l0 l1 rf0 rf1 hw1 hw2 hw3 HST
  generalize ((w.alloc (.cells #[vi 3, vi ri, vu rg, vi at_, vi gs, vu m, vu per] 63)).alloc (.cells #[vi i, vu gg] 32)).drew = W1 at *
  generalize w.heap.size + 1 = bR at *
  generalize w.heap.size = bA at *
  obtain ⟨code, ps', free', hRel, hP, hR⟩ := HSt.out i gg
  have HRel := Lib.hid hRel
  have HP := Lib.hid (hP w0 W1.drew (pc bR 32 [vi i, vu gg] * (pc bA 63 [vi 3, vi ri, vu rg, vi at_, vi gs, vu m, vu per] * (pc g 66 [vp d, vp q, (.slice (some ⟨gr, 0, none⟩) rl.length rcap)] * (sl 32 2 (.slice (some ⟨gr, 0, none⟩) rl.length rcap) rl.length (frefs rl) * refD q b cap vF ps free F)))) d p (HB.out.drew.cast (by unfold gameC; ac_rfl)))
  have HR := Lib.hid (fun (w5 : World) (h5 : Sat w0 (refD q b cap vF ps free (pc bR 32 [vi i, vu gg] * (pc bA 63 [vi 3, vi ri, vu rg, vi at_, vi gs, vu m, vu per] * (pc g 66 [vp d, vp q, (.slice (some ⟨gr, 0, none⟩) rl.length rcap)] * (sl 32 2 (.slice (some ⟨gr, 0, none⟩) rl.length rcap) rl.length (frefs rl) * (domB d p * (tblP p ps' free' * F))))))) w5) => hR w0 w5 _ q b cap vF h5)
  have e0 := HB.out.pull3.cell 0 rfl
  have e1 := HB.out.pull3.cell 1 rfl
  have e2 := HB.out.cell 0 rfl
  have e3 := HB.out.cell 1 rfl
  have e4 := HB.out.pull2.cell 5 rfl
  clear hRel hP hR
  go_region_held3 (fun w' => w'.cell? ⟨g, 0, none⟩ = some (vp d) ∧ w'.cell? ⟨g, 1, none⟩ = some (vp q) ∧ w'.cell? ⟨bR, 0, none⟩ = some (vi i) ∧ w'.cell? ⟨bR, 1, none⟩ = some (vu gg) ∧ w'.cell? ⟨bA, 5, none⟩ = some (vu m))
    (first | exact ⟨e0, e1, e2, e3, e4⟩ | exact ⟨f0, f1, f2, f3, f4⟩ | exact ⟨k0, k1, k2, k3, k4⟩ | go_keep)
    (first
      | (go_at_call 50; (with_reducible refine HP.out.mono ?_); rintro e w5 ⟨rfl, hS5⟩; have h5 := hS5.cast (show _ = pc bR 32 [vi i, vu gg] * (pc bA 63 [vi 3, vi ri, vu rg, vi at_, vi gs, vu m, vu per] * (pc g 66 [vp d, vp q, (.slice (some ⟨gr, 0, none⟩) rl.length rcap)] * (sl 32 2 (.slice (some ⟨gr, 0, none⟩) rl.length rcap) rl.length (frefs rl) * (domB d p * (tblP p ps' free' * refD q b cap vF ps free F))))) by ac_rfl); have f0 := h5.pull3.cell 0 rfl; have f1 := h5.pull3.cell 1 rfl; have f2 := h5.cell 0 rfl; have f3 := h5.cell 1 rfl; have f4 := h5.pull2.cell 5 rfl; have H5 := Lib.hid h5; clear hS5 h5)
      | (go_at_call 52; (with_reducible refine (HR.out _ (H5.out.cast (by unfold refD; ac_rfl))).mono ?_); rintro e w6 ⟨vG, rfl, hS6⟩; have h6 := hS6.cast (show _ = pc bR 32 [vi i, vu gg] * (pc bA 63 [vi 3, vi ri, vu rg, vi at_, vi gs, vu m, vu per] * (pc g 66 [vp d, vp q, (.slice (some ⟨gr, 0, none⟩) rl.length rcap)] * (sl 32 2 (.slice (some ⟨gr, 0, none⟩) rl.length rcap) rl.length (frefs rl) * (domB d p * (tblP p ps' free' * refD q b cap vG ps' free' F))))) by unfold refD; ac_rfl); have k0 := h6.pull3.cell 0 rfl; have k1 := h6.pull3.cell 1 rfl; have k2 := h6.cell 0 rfl; have k3 := h6.cell 1 rfl; have k4 := h6.pull2.cell 5 rfl; have H6 := Lib.hid h6; clear hS6 h6))
  go_wp2
  go_ret
  exact ⟨ps', free', rl, vG, _, by simp, HRel.out, HRl.out, by omega, H6.out.dropL.dropL⟩
set_option maxRecDepth 100000 in
set_option maxHeartbeats 4000000 in
theorem do_leaveB (h : Rel n T ps free) (hT : T ≤ 1000) (hS : Sat w0 (gameC g d p q b cap vF vR ps free rl F) w) (hrl : 0 < rl.length) (hrl2 : rl.length ≤ 1000) (ri rg at_ gs m per : Int) (hat : 1 ≤ at_ ∧ at_ ≤ 9223372036854775807) : Calls Try.prog 24 #[vp g, .agg #[vi 4, vi ri, vu rg, vi at_, vi gs, vu m, vu per]] w (DoPost w0 n T g d p q b cap rl F) := by
  have HSt := Lib.hid (fun (i gg : Int) => leave_step h i gg)
  have HRl := Lib.hid hrl
  obtain ⟨vo, rcap, rfl⟩ := hS.dropL.rd.len
  obtain ⟨gr, rfl⟩ : ∃ gr, vo = some ⟨gr, 0, none⟩ := by
    rcases hS.dropL.slE.2 with ⟨_, h0, _⟩ | ⟨g', c', cur, hv, _⟩
    · omega
    · injection hv with h1 h2 h3
      exact ⟨g', h1⟩
  have hB0 := (hS.alloc (.cells #[vi 4, vi ri, vu rg, vi at_, vi gs, vu m, vu per] 63)).alloc (.cells #[vi ri, vu rg] 32)
  rw [size1] at hB0
  have hB : Sat w0 (pc (w.heap.size + 1) 32 [vi ri, vu rg] * (pc w.heap.size 63 [vi 4, vi ri, vu rg, vi at_, vi gs, vu m, vu per] * (gameC g d p q b cap vF (.slice (some ⟨gr, 0, none⟩) rl.length rcap) ps free rl F))) ((w.alloc (.cells #[vi 4, vi ri, vu rg, vi at_, vi gs, vu m, vu per] 63)).alloc (.cells #[vi ri, vu rg] 32)) := hB0
  have r0 := hB.cell 0 rfl
  have r1 := hB.cell 1 rfl
  have a0 := hB.pull2.cell 0 rfl
  have a1 := hB.pull2.cell 1 rfl
  have a2 := hB.pull2.cell 2 rfl
  have a3 := hB.pull2.cell 3 rfl
  have a4 := hB.pull2.cell 4 rfl
  have a5 := hB.pull2.cell 5 rfl
  have a6 := hB.pull2.cell 6 rfl
  have g0 := hB.pull3.cell 0 rfl
  have g1 := hB.pull3.cell 1 rfl
  have g2 := hB.pull3.cell 2 rfl
  -- the act's cells, as they are read ahead of it
  have x0 := (hS.alloc (.cells #[vi 4, vi ri, vu rg, vi at_, vi gs, vu m, vu per] 63)).cell (cs := [vi 4, vi ri, vu rg, vi at_, vi gs, vu m, vu per]) (T := 63) 0 rfl
  have x1 := (hS.alloc (.cells #[vi 4, vi ri, vu rg, vi at_, vi gs, vu m, vu per] 63)).cell (cs := [vi 4, vi ri, vu rg, vi at_, vi gs, vu m, vu per]) (T := 63) 1 rfl
  have x2 := (hS.alloc (.cells #[vi 4, vi ri, vu rg, vi at_, vi gs, vu m, vu per] 63)).cell (cs := [vi 4, vi ri, vu rg, vi at_, vi gs, vu m, vu per]) (T := 63) 2 rfl
  obtain ⟨idx, j, hidx, hj, ht1, ht2, ht3⟩ := at_fact at_ rl.length hrl hat.1
  have hidxi : (idx : Int) < (rl.length : Int) := by omega
  have hw1 : IntKind.i64.wrap (at_ - 1) = at_ - 1 := IntWalk.i64_in _ (by omega)
  have hw2 : IntKind.i64.wrap ((rl.length : Int) - 1) = (rl.length : Int) - 1 := IntWalk.i64_in _ (by omega)
  have hw3 : IntKind.i64.wrap ((rl.length : Int) - 1 - (j : Int)) = (idx : Int) := by rw [ht3]; exact IntWalk.i64_in _ (by omega)
  have hn0 : ¬ (rl.length : Int) = 0 := by omega
  obtain ⟨⟨i, gg⟩, hrr⟩ : ∃ r, rl[idx]? = some r := ⟨rl[idx], List.getElem?_eq_getElem hidx⟩
  have l0 := hB.dropL.dropL.dropL.slCell _ (frefs_at hrr).1
  have l1 := hB.dropL.dropL.dropL.slCell _ (frefs_at hrr).2
  dsimp only at l0 l1
  have rf0 := hB.free 0
  have rf1 := hB.free 1
  have hst := ((hS.alloc (.cells #[vi 4, vi ri, vu rg, vi at_, vi gs, vu m, vu per] 63)).alloc (.cells #[vi i, vu gg] 32)).drew
  rw [size1] at hst
  have HST : Hid (Sat w0 (pc (w.heap.size + 1) 32 [vi i, vu gg] * (pc w.heap.size 63 [vi 4, vi ri, vu rg, vi at_, vi gs, vu m, vu per] * _)) _) := Lib.hid hst
  have hat2 : 1 ≤ at_ := hat.1
  clear hst hS hB0 hB hrr ht3
  clear h hT
  go_enter Try.func24, Try.ntmps24
  go_wp2_with fail
  refine wp_quiet_tail 22 (by kernel_rfl) (by kernel_rfl) ?_
  simp only [List.take_succ_cons, List.take_zero, List.drop_succ_cons, List.drop_zero]
  repeat (go_big_quiet_step (fail))
  refine wpQuiet_nil ?_
  have a0 := HST.out.pull2.cell 0 rfl
  have a4 := HST.out.pull2.cell 4 rfl
  have a5 := HST.out.pull2.cell 5 rfl
  have a6 := HST.out.pull2.cell 6 rfl
  go_wp2_with fail
  have HB := HST
  clear r0 r1 a0 a1 a2 a3 a4 a5 a6 g0 g1 g2 x0 x1 x2 l0 l1 rf0 rf1 hw1 hw2 hw3 HST
  generalize ((w.alloc (.cells #[vi 4, vi ri, vu rg, vi at_, vi gs, vu m, vu per] 63)).alloc (.cells #[vi i, vu gg] 32)).drew = W1 at *
  generalize w.heap.size + 1 = bR at *
  generalize w.heap.size = bA at *
  obtain ⟨code, ps', free', hRel, hP, hR⟩ := HSt.out i gg
  have HRel := Lib.hid hRel
  have HP := Lib.hid (hP w0 W1.drew (pc bR 32 [vi i, vu gg] * (pc bA 63 [vi 4, vi ri, vu rg, vi at_, vi gs, vu m, vu per] * (pc g 66 [vp d, vp q, (.slice (some ⟨gr, 0, none⟩) rl.length rcap)] * (sl 32 2 (.slice (some ⟨gr, 0, none⟩) rl.length rcap) rl.length (frefs rl) * refD q b cap vF ps free F)))) d p (HB.out.drew.cast (by unfold gameC; ac_rfl)))
  have HR := Lib.hid (fun (w5 : World) (h5 : Sat w0 (refD q b cap vF ps free (pc bR 32 [vi i, vu gg] * (pc bA 63 [vi 4, vi ri, vu rg, vi at_, vi gs, vu m, vu per] * (pc g 66 [vp d, vp q, (.slice (some ⟨gr, 0, none⟩) rl.length rcap)] * (sl 32 2 (.slice (some ⟨gr, 0, none⟩) rl.length rcap) rl.length (frefs rl) * (domB d p * (tblP p ps' free' * F))))))) w5) => hR w0 w5 _ q b cap vF h5)
  have e0 := HB.out.pull3.cell 0 rfl
  have e1 := HB.out.pull3.cell 1 rfl
  have e2 := HB.out.cell 0 rfl
  have e3 := HB.out.cell 1 rfl
  have e4 := HB.out.pull2.cell 5 rfl
  clear hRel hP hR
  go_region_held3 (fun w' => w'.cell? ⟨g, 0, none⟩ = some (vp d) ∧ w'.cell? ⟨g, 1, none⟩ = some (vp q) ∧ w'.cell? ⟨bR, 0, none⟩ = some (vi i) ∧ w'.cell? ⟨bR, 1, none⟩ = some (vu gg) ∧ w'.cell? ⟨bA, 5, none⟩ = some (vu m))
    (first | exact ⟨e0, e1, e2, e3, e4⟩ | exact ⟨f0, f1, f2, f3, f4⟩ | exact ⟨k0, k1, k2, k3, k4⟩ | go_keep)
    (first
      | (go_at_call 53; (with_reducible refine HP.out.mono ?_); rintro e w5 ⟨rfl, hS5⟩; have h5 := hS5.cast (show _ = pc bR 32 [vi i, vu gg] * (pc bA 63 [vi 4, vi ri, vu rg, vi at_, vi gs, vu m, vu per] * (pc g 66 [vp d, vp q, (.slice (some ⟨gr, 0, none⟩) rl.length rcap)] * (sl 32 2 (.slice (some ⟨gr, 0, none⟩) rl.length rcap) rl.length (frefs rl) * (domB d p * (tblP p ps' free' * refD q b cap vF ps free F))))) by ac_rfl); have f0 := h5.pull3.cell 0 rfl; have f1 := h5.pull3.cell 1 rfl; have f2 := h5.cell 0 rfl; have f3 := h5.cell 1 rfl; have f4 := h5.pull2.cell 5 rfl; have H5 := Lib.hid h5; clear hS5 h5)
      | (go_at_call 54; (with_reducible refine (HR.out _ (H5.out.cast (by unfold refD; ac_rfl))).mono ?_); rintro e w6 ⟨vG, rfl, hS6⟩; have h6 := hS6.cast (show _ = pc bR 32 [vi i, vu gg] * (pc bA 63 [vi 4, vi ri, vu rg, vi at_, vi gs, vu m, vu per] * (pc g 66 [vp d, vp q, (.slice (some ⟨gr, 0, none⟩) rl.length rcap)] * (sl 32 2 (.slice (some ⟨gr, 0, none⟩) rl.length rcap) rl.length (frefs rl) * (domB d p * (tblP p ps' free' * refD q b cap vG ps' free' F))))) by unfold refD; ac_rfl); have k0 := h6.pull3.cell 0 rfl; have k1 := h6.pull3.cell 1 rfl; have k2 := h6.cell 0 rfl; have k3 := h6.cell 1 rfl; have k4 := h6.pull2.cell 5 rfl; have H6 := Lib.hid h6; clear hS6 h6))
  go_wp2
  go_ret
  exact ⟨ps', free', rl, vG, _, by simp, HRel.out, HRl.out, by omega, H6.out.dropL.dropL⟩
set_option maxRecDepth 100000 in
set_option maxHeartbeats 4000000 in
theorem do_useB (h : Rel n T ps free) (hT : T ≤ 1000) (hS : Sat w0 (gameC g d p q b cap vF vR ps free rl F) w) (hrl : 0 < rl.length) (hrl2 : rl.length ≤ 1000) (ri rg at_ gs m per : Int) (hat : 1 ≤ at_ ∧ at_ ≤ 9223372036854775807) (hm : U64 m) : Calls Try.prog 24 #[vp g, .agg #[vi 5, vi ri, vu rg, vi at_, vi gs, vu m, vu per]] w (DoPost w0 n T g d p q b cap rl F) := by
  have HSt := Lib.hid (fun (i gg : Int) => use_step h i gg hm)
  have HRl := Lib.hid hrl
  obtain ⟨vo, rcap, rfl⟩ := hS.dropL.rd.len
  obtain ⟨gr, rfl⟩ : ∃ gr, vo = some ⟨gr, 0, none⟩ := by
    rcases hS.dropL.slE.2 with ⟨_, h0, _⟩ | ⟨g', c', cur, hv, _⟩
    · omega
    · injection hv with h1 h2 h3
      exact ⟨g', h1⟩
  have hB0 := (hS.alloc (.cells #[vi 5, vi ri, vu rg, vi at_, vi gs, vu m, vu per] 63)).alloc (.cells #[vi ri, vu rg] 32)
  rw [size1] at hB0
  have hB : Sat w0 (pc (w.heap.size + 1) 32 [vi ri, vu rg] * (pc w.heap.size 63 [vi 5, vi ri, vu rg, vi at_, vi gs, vu m, vu per] * (gameC g d p q b cap vF (.slice (some ⟨gr, 0, none⟩) rl.length rcap) ps free rl F))) ((w.alloc (.cells #[vi 5, vi ri, vu rg, vi at_, vi gs, vu m, vu per] 63)).alloc (.cells #[vi ri, vu rg] 32)) := hB0
  have r0 := hB.cell 0 rfl
  have r1 := hB.cell 1 rfl
  have a0 := hB.pull2.cell 0 rfl
  have a1 := hB.pull2.cell 1 rfl
  have a2 := hB.pull2.cell 2 rfl
  have a3 := hB.pull2.cell 3 rfl
  have a4 := hB.pull2.cell 4 rfl
  have a5 := hB.pull2.cell 5 rfl
  have a6 := hB.pull2.cell 6 rfl
  have g0 := hB.pull3.cell 0 rfl
  have g1 := hB.pull3.cell 1 rfl
  have g2 := hB.pull3.cell 2 rfl
  -- the act's cells, as they are read ahead of it
  have x0 := (hS.alloc (.cells #[vi 5, vi ri, vu rg, vi at_, vi gs, vu m, vu per] 63)).cell (cs := [vi 5, vi ri, vu rg, vi at_, vi gs, vu m, vu per]) (T := 63) 0 rfl
  have x1 := (hS.alloc (.cells #[vi 5, vi ri, vu rg, vi at_, vi gs, vu m, vu per] 63)).cell (cs := [vi 5, vi ri, vu rg, vi at_, vi gs, vu m, vu per]) (T := 63) 1 rfl
  have x2 := (hS.alloc (.cells #[vi 5, vi ri, vu rg, vi at_, vi gs, vu m, vu per] 63)).cell (cs := [vi 5, vi ri, vu rg, vi at_, vi gs, vu m, vu per]) (T := 63) 2 rfl
  obtain ⟨idx, j, hidx, hj, ht1, ht2, ht3⟩ := at_fact at_ rl.length hrl hat.1
  have hidxi : (idx : Int) < (rl.length : Int) := by omega
  have hw1 : IntKind.i64.wrap (at_ - 1) = at_ - 1 := IntWalk.i64_in _ (by omega)
  have hw2 : IntKind.i64.wrap ((rl.length : Int) - 1) = (rl.length : Int) - 1 := IntWalk.i64_in _ (by omega)
  have hw3 : IntKind.i64.wrap ((rl.length : Int) - 1 - (j : Int)) = (idx : Int) := by rw [ht3]; exact IntWalk.i64_in _ (by omega)
  have hn0 : ¬ (rl.length : Int) = 0 := by omega
  obtain ⟨⟨i, gg⟩, hrr⟩ : ∃ r, rl[idx]? = some r := ⟨rl[idx], List.getElem?_eq_getElem hidx⟩
  have l0 := hB.dropL.dropL.dropL.slCell _ (frefs_at hrr).1
  have l1 := hB.dropL.dropL.dropL.slCell _ (frefs_at hrr).2
  dsimp only at l0 l1
  have rf0 := hB.free 0
  have rf1 := hB.free 1
  have hst := ((hS.alloc (.cells #[vi 5, vi ri, vu rg, vi at_, vi gs, vu m, vu per] 63)).alloc (.cells #[vi i, vu gg] 32)).drew
  rw [size1] at hst
  have HST : Hid (Sat w0 (pc (w.heap.size + 1) 32 [vi i, vu gg] * (pc w.heap.size 63 [vi 5, vi ri, vu rg, vi at_, vi gs, vu m, vu per] * _)) _) := Lib.hid hst
  have hat2 : 1 ≤ at_ := hat.1
  clear hst hS hB0 hB hrr ht3
  clear h hT
  go_enter Try.func24, Try.ntmps24
  go_wp2_with fail
  refine wp_quiet_tail 22 (by kernel_rfl) (by kernel_rfl) ?_
  simp only [List.take_succ_cons, List.take_zero, List.drop_succ_cons, List.drop_zero]
  repeat (go_big_quiet_step (fail))
  refine wpQuiet_nil ?_
  have a0 := HST.out.pull2.cell 0 rfl
  have a4 := HST.out.pull2.cell 4 rfl
  have a5 := HST.out.pull2.cell 5 rfl
  have a6 := HST.out.pull2.cell 6 rfl
  go_wp2_with fail
  have HB := HST
  clear r0 r1 a0 a1 a2 a3 a4 a5 a6 g0 g1 g2 x0 x1 x2 l0 l1 rf0 rf1 hw1 hw2 hw3 HST
  generalize ((w.alloc (.cells #[vi 5, vi ri, vu rg, vi at_, vi gs, vu m, vu per] 63)).alloc (.cells #[vi i, vu gg] 32)).drew = W1 at *
  generalize w.heap.size + 1 = bR at *
  generalize w.heap.size = bA at *
  obtain ⟨code, ps', free', hRel, hP, hR⟩ := HSt.out i gg
  have HRel := Lib.hid hRel
  have HP := Lib.hid (hP w0 W1.drew (pc bR 32 [vi i, vu gg] * (pc bA 63 [vi 5, vi ri, vu rg, vi at_, vi gs, vu m, vu per] * (pc g 66 [vp d, vp q, (.slice (some ⟨gr, 0, none⟩) rl.length rcap)] * (sl 32 2 (.slice (some ⟨gr, 0, none⟩) rl.length rcap) rl.length (frefs rl) * refD q b cap vF ps free F)))) d p (HB.out.drew.cast (by unfold gameC; ac_rfl)))
  have HR := Lib.hid (fun (w5 : World) (h5 : Sat w0 (refD q b cap vF ps free (pc bR 32 [vi i, vu gg] * (pc bA 63 [vi 5, vi ri, vu rg, vi at_, vi gs, vu m, vu per] * (pc g 66 [vp d, vp q, (.slice (some ⟨gr, 0, none⟩) rl.length rcap)] * (sl 32 2 (.slice (some ⟨gr, 0, none⟩) rl.length rcap) rl.length (frefs rl) * (domB d p * (tblP p ps' free' * F))))))) w5) => hR w0 w5 _ q b cap vF h5)
  have e0 := HB.out.pull3.cell 0 rfl
  have e1 := HB.out.pull3.cell 1 rfl
  have e2 := HB.out.cell 0 rfl
  have e3 := HB.out.cell 1 rfl
  have e4 := HB.out.pull2.cell 5 rfl
  clear hRel hP hR
  go_region_held3 (fun w' => w'.cell? ⟨g, 0, none⟩ = some (vp d) ∧ w'.cell? ⟨g, 1, none⟩ = some (vp q) ∧ w'.cell? ⟨bR, 0, none⟩ = some (vi i) ∧ w'.cell? ⟨bR, 1, none⟩ = some (vu gg) ∧ w'.cell? ⟨bA, 5, none⟩ = some (vu m))
    (first | exact ⟨e0, e1, e2, e3, e4⟩ | exact ⟨f0, f1, f2, f3, f4⟩ | exact ⟨k0, k1, k2, k3, k4⟩ | go_keep)
    (first
      | (go_at_call 12; (with_reducible refine HP.out.mono ?_); rintro e w5 ⟨rfl, hS5⟩; have h5 := hS5.cast (show _ = pc bR 32 [vi i, vu gg] * (pc bA 63 [vi 5, vi ri, vu rg, vi at_, vi gs, vu m, vu per] * (pc g 66 [vp d, vp q, (.slice (some ⟨gr, 0, none⟩) rl.length rcap)] * (sl 32 2 (.slice (some ⟨gr, 0, none⟩) rl.length rcap) rl.length (frefs rl) * (domB d p * (tblP p ps' free' * refD q b cap vF ps free F))))) by ac_rfl); have f0 := h5.pull3.cell 0 rfl; have f1 := h5.pull3.cell 1 rfl; have f2 := h5.cell 0 rfl; have f3 := h5.cell 1 rfl; have f4 := h5.pull2.cell 5 rfl; have H5 := Lib.hid h5; clear hS5 h5)
      | (go_at_call 55; (with_reducible refine (HR.out _ (H5.out.cast (by unfold refD; ac_rfl))).mono ?_); rintro e w6 ⟨vG, rfl, hS6⟩; have h6 := hS6.cast (show _ = pc bR 32 [vi i, vu gg] * (pc bA 63 [vi 5, vi ri, vu rg, vi at_, vi gs, vu m, vu per] * (pc g 66 [vp d, vp q, (.slice (some ⟨gr, 0, none⟩) rl.length rcap)] * (sl 32 2 (.slice (some ⟨gr, 0, none⟩) rl.length rcap) rl.length (frefs rl) * (domB d p * (tblP p ps' free' * refD q b cap vG ps' free' F))))) by unfold refD; ac_rfl); have k0 := h6.pull3.cell 0 rfl; have k1 := h6.pull3.cell 1 rfl; have k2 := h6.cell 0 rfl; have k3 := h6.cell 1 rfl; have k4 := h6.pull2.cell 5 rfl; have H6 := Lib.hid h6; clear hS6 h6))
  go_wp2
  go_ret
  exact ⟨ps', free', rl, vG, _, by simp, HRel.out, HRl.out, by omega, H6.out.dropL.dropL⟩
set_option maxRecDepth 100000 in
set_option maxHeartbeats 4000000 in
theorem do_clearB (h : Rel n T ps free) (hT : T ≤ 1000) (hS : Sat w0 (gameC g d p q b cap vF vR ps free rl F) w) (hrl : 0 < rl.length) (hrl2 : rl.length ≤ 1000) (ri rg at_ gs m per : Int) (hat : 1 ≤ at_ ∧ at_ ≤ 9223372036854775807) : Calls Try.prog 24 #[vp g, .agg #[vi 6, vi ri, vu rg, vi at_, vi gs, vu m, vu per]] w (DoPost w0 n T g d p q b cap rl F) := by
  have HSt := Lib.hid (fun (i gg : Int) => clear_step h i gg)
  have HRl := Lib.hid hrl
  obtain ⟨vo, rcap, rfl⟩ := hS.dropL.rd.len
  obtain ⟨gr, rfl⟩ : ∃ gr, vo = some ⟨gr, 0, none⟩ := by
    rcases hS.dropL.slE.2 with ⟨_, h0, _⟩ | ⟨g', c', cur, hv, _⟩
    · omega
    · injection hv with h1 h2 h3
      exact ⟨g', h1⟩
  have hB0 := (hS.alloc (.cells #[vi 6, vi ri, vu rg, vi at_, vi gs, vu m, vu per] 63)).alloc (.cells #[vi ri, vu rg] 32)
  rw [size1] at hB0
  have hB : Sat w0 (pc (w.heap.size + 1) 32 [vi ri, vu rg] * (pc w.heap.size 63 [vi 6, vi ri, vu rg, vi at_, vi gs, vu m, vu per] * (gameC g d p q b cap vF (.slice (some ⟨gr, 0, none⟩) rl.length rcap) ps free rl F))) ((w.alloc (.cells #[vi 6, vi ri, vu rg, vi at_, vi gs, vu m, vu per] 63)).alloc (.cells #[vi ri, vu rg] 32)) := hB0
  have r0 := hB.cell 0 rfl
  have r1 := hB.cell 1 rfl
  have a0 := hB.pull2.cell 0 rfl
  have a1 := hB.pull2.cell 1 rfl
  have a2 := hB.pull2.cell 2 rfl
  have a3 := hB.pull2.cell 3 rfl
  have a4 := hB.pull2.cell 4 rfl
  have a5 := hB.pull2.cell 5 rfl
  have a6 := hB.pull2.cell 6 rfl
  have g0 := hB.pull3.cell 0 rfl
  have g1 := hB.pull3.cell 1 rfl
  have g2 := hB.pull3.cell 2 rfl
  -- the act's cells, as they are read ahead of it
  have x0 := (hS.alloc (.cells #[vi 6, vi ri, vu rg, vi at_, vi gs, vu m, vu per] 63)).cell (cs := [vi 6, vi ri, vu rg, vi at_, vi gs, vu m, vu per]) (T := 63) 0 rfl
  have x1 := (hS.alloc (.cells #[vi 6, vi ri, vu rg, vi at_, vi gs, vu m, vu per] 63)).cell (cs := [vi 6, vi ri, vu rg, vi at_, vi gs, vu m, vu per]) (T := 63) 1 rfl
  have x2 := (hS.alloc (.cells #[vi 6, vi ri, vu rg, vi at_, vi gs, vu m, vu per] 63)).cell (cs := [vi 6, vi ri, vu rg, vi at_, vi gs, vu m, vu per]) (T := 63) 2 rfl
  obtain ⟨idx, j, hidx, hj, ht1, ht2, ht3⟩ := at_fact at_ rl.length hrl hat.1
  have hidxi : (idx : Int) < (rl.length : Int) := by omega
  have hw1 : IntKind.i64.wrap (at_ - 1) = at_ - 1 := IntWalk.i64_in _ (by omega)
  have hw2 : IntKind.i64.wrap ((rl.length : Int) - 1) = (rl.length : Int) - 1 := IntWalk.i64_in _ (by omega)
  have hw3 : IntKind.i64.wrap ((rl.length : Int) - 1 - (j : Int)) = (idx : Int) := by rw [ht3]; exact IntWalk.i64_in _ (by omega)
  have hn0 : ¬ (rl.length : Int) = 0 := by omega
  obtain ⟨⟨i, gg⟩, hrr⟩ : ∃ r, rl[idx]? = some r := ⟨rl[idx], List.getElem?_eq_getElem hidx⟩
  have l0 := hB.dropL.dropL.dropL.slCell _ (frefs_at hrr).1
  have l1 := hB.dropL.dropL.dropL.slCell _ (frefs_at hrr).2
  dsimp only at l0 l1
  have rf0 := hB.free 0
  have rf1 := hB.free 1
  have hst := ((hS.alloc (.cells #[vi 6, vi ri, vu rg, vi at_, vi gs, vu m, vu per] 63)).alloc (.cells #[vi i, vu gg] 32)).drew
  rw [size1] at hst
  have HST : Hid (Sat w0 (pc (w.heap.size + 1) 32 [vi i, vu gg] * (pc w.heap.size 63 [vi 6, vi ri, vu rg, vi at_, vi gs, vu m, vu per] * _)) _) := Lib.hid hst
  have hat2 : 1 ≤ at_ := hat.1
  clear hst hS hB0 hB hrr ht3
  clear h hT
  go_enter Try.func24, Try.ntmps24
  go_wp2_with fail
  refine wp_quiet_tail 22 (by kernel_rfl) (by kernel_rfl) ?_
  simp only [List.take_succ_cons, List.take_zero, List.drop_succ_cons, List.drop_zero]
  repeat (go_big_quiet_step (fail))
  refine wpQuiet_nil ?_
  have a0 := HST.out.pull2.cell 0 rfl
  have a4 := HST.out.pull2.cell 4 rfl
  have a5 := HST.out.pull2.cell 5 rfl
  have a6 := HST.out.pull2.cell 6 rfl
  go_wp2_with fail
  have HB := HST
  clear r0 r1 a0 a1 a2 a3 a4 a5 a6 g0 g1 g2 x0 x1 x2 l0 l1 rf0 rf1 hw1 hw2 hw3 HST
  generalize ((w.alloc (.cells #[vi 6, vi ri, vu rg, vi at_, vi gs, vu m, vu per] 63)).alloc (.cells #[vi i, vu gg] 32)).drew = W1 at *
  generalize w.heap.size + 1 = bR at *
  generalize w.heap.size = bA at *
  obtain ⟨code, ps', free', hRel, hP, hR⟩ := HSt.out i gg
  have HRel := Lib.hid hRel
  have HP := Lib.hid (hP w0 W1.drew (pc bR 32 [vi i, vu gg] * (pc bA 63 [vi 6, vi ri, vu rg, vi at_, vi gs, vu m, vu per] * (pc g 66 [vp d, vp q, (.slice (some ⟨gr, 0, none⟩) rl.length rcap)] * (sl 32 2 (.slice (some ⟨gr, 0, none⟩) rl.length rcap) rl.length (frefs rl) * refD q b cap vF ps free F)))) d p (HB.out.drew.cast (by unfold gameC; ac_rfl)))
  have HR := Lib.hid (fun (w5 : World) (h5 : Sat w0 (refD q b cap vF ps free (pc bR 32 [vi i, vu gg] * (pc bA 63 [vi 6, vi ri, vu rg, vi at_, vi gs, vu m, vu per] * (pc g 66 [vp d, vp q, (.slice (some ⟨gr, 0, none⟩) rl.length rcap)] * (sl 32 2 (.slice (some ⟨gr, 0, none⟩) rl.length rcap) rl.length (frefs rl) * (domB d p * (tblP p ps' free' * F))))))) w5) => hR w0 w5 _ q b cap vF h5)
  have e0 := HB.out.pull3.cell 0 rfl
  have e1 := HB.out.pull3.cell 1 rfl
  have e2 := HB.out.cell 0 rfl
  have e3 := HB.out.cell 1 rfl
  have e4 := HB.out.pull2.cell 5 rfl
  clear hRel hP hR
  go_region_held3 (fun w' => w'.cell? ⟨g, 0, none⟩ = some (vp d) ∧ w'.cell? ⟨g, 1, none⟩ = some (vp q) ∧ w'.cell? ⟨bR, 0, none⟩ = some (vi i) ∧ w'.cell? ⟨bR, 1, none⟩ = some (vu gg) ∧ w'.cell? ⟨bA, 5, none⟩ = some (vu m))
    (first | exact ⟨e0, e1, e2, e3, e4⟩ | exact ⟨f0, f1, f2, f3, f4⟩ | exact ⟨k0, k1, k2, k3, k4⟩ | go_keep)
    (first
      | (go_at_call 40; (with_reducible refine HP.out.mono ?_); rintro e w5 ⟨rfl, hS5⟩; have h5 := hS5.cast (show _ = pc bR 32 [vi i, vu gg] * (pc bA 63 [vi 6, vi ri, vu rg, vi at_, vi gs, vu m, vu per] * (pc g 66 [vp d, vp q, (.slice (some ⟨gr, 0, none⟩) rl.length rcap)] * (sl 32 2 (.slice (some ⟨gr, 0, none⟩) rl.length rcap) rl.length (frefs rl) * (domB d p * (tblP p ps' free' * refD q b cap vF ps free F))))) by ac_rfl); have f0 := h5.pull3.cell 0 rfl; have f1 := h5.pull3.cell 1 rfl; have f2 := h5.cell 0 rfl; have f3 := h5.cell 1 rfl; have f4 := h5.pull2.cell 5 rfl; have H5 := Lib.hid h5; clear hS5 h5)
      | (go_at_call 56; (with_reducible refine (HR.out _ (H5.out.cast (by unfold refD; ac_rfl))).mono ?_); rintro e w6 ⟨vG, rfl, hS6⟩; have h6 := hS6.cast (show _ = pc bR 32 [vi i, vu gg] * (pc bA 63 [vi 6, vi ri, vu rg, vi at_, vi gs, vu m, vu per] * (pc g 66 [vp d, vp q, (.slice (some ⟨gr, 0, none⟩) rl.length rcap)] * (sl 32 2 (.slice (some ⟨gr, 0, none⟩) rl.length rcap) rl.length (frefs rl) * (domB d p * (tblP p ps' free' * refD q b cap vG ps' free' F))))) by unfold refD; ac_rfl); have k0 := h6.pull3.cell 0 rfl; have k1 := h6.pull3.cell 1 rfl; have k2 := h6.cell 0 rfl; have k3 := h6.cell 1 rfl; have k4 := h6.pull2.cell 5 rfl; have H6 := Lib.hid h6; clear hS6 h6))
  go_wp2
  go_ret
  exact ⟨ps', free', rl, vG, _, by simp, HRel.out, HRl.out, by omega, H6.out.dropL.dropL⟩
set_option maxRecDepth 100000 in
set_option maxHeartbeats 4000000 in
theorem do_otherB (h : Rel n T ps free) (hT : T ≤ 1000) (hS : Sat w0 (gameC g d p q b cap vF vR ps free rl F) w) (hrl : 0 < rl.length) (hrl2 : rl.length ≤ 1000) (ri rg at_ gs m per : Int) (hat : 1 ≤ at_ ∧ at_ ≤ 9223372036854775807) (kind : Int) (hk : kind ≠ 1 ∧ kind ≠ 2 ∧ kind ≠ 3 ∧ kind ≠ 4 ∧ kind ≠ 5 ∧ kind ≠ 6) : Calls Try.prog 24 #[vp g, .agg #[vi kind, vi ri, vu rg, vi at_, vi gs, vu m, vu per]] w (DoPost w0 n T g d p q b cap rl F) := by
  have HRl := Lib.hid hrl
  have HRel := Lib.hid (h.mono (Nat.le_succ T))
  have k1 : (kind == 1) = false := beq_eq_false_iff_ne.2 hk.1
  have k2 : (kind == 2) = false := beq_eq_false_iff_ne.2 hk.2.1
  have k3 : (kind == 3) = false := beq_eq_false_iff_ne.2 hk.2.2.1
  have k4 : (kind == 4) = false := beq_eq_false_iff_ne.2 hk.2.2.2.1
  have k5 : (kind == 5) = false := beq_eq_false_iff_ne.2 hk.2.2.2.2.1
  have k6 : (kind == 6) = false := beq_eq_false_iff_ne.2 hk.2.2.2.2.2
  obtain ⟨vo, rcap, rfl⟩ := hS.dropL.rd.len
  obtain ⟨gr, rfl⟩ : ∃ gr, vo = some ⟨gr, 0, none⟩ := by
    rcases hS.dropL.slE.2 with ⟨_, h0, _⟩ | ⟨g', c', cur, hv, _⟩
    · omega
    · injection hv with h1 h2 h3
      exact ⟨g', h1⟩
  have hB0 := (hS.alloc (.cells #[vi kind, vi ri, vu rg, vi at_, vi gs, vu m, vu per] 63)).alloc (.cells #[vi ri, vu rg] 32)
  rw [size1] at hB0
  have hB : Sat w0 (pc (w.heap.size + 1) 32 [vi ri, vu rg] * (pc w.heap.size 63 [vi kind, vi ri, vu rg, vi at_, vi gs, vu m, vu per] * (gameC g d p q b cap vF (.slice (some ⟨gr, 0, none⟩) rl.length rcap) ps free rl F))) ((w.alloc (.cells #[vi kind, vi ri, vu rg, vi at_, vi gs, vu m, vu per] 63)).alloc (.cells #[vi ri, vu rg] 32)) := hB0
  have r0 := hB.cell 0 rfl
  have r1 := hB.cell 1 rfl
  have a0 := hB.pull2.cell 0 rfl
  have a1 := hB.pull2.cell 1 rfl
  have a2 := hB.pull2.cell 2 rfl
  have a3 := hB.pull2.cell 3 rfl
  have a4 := hB.pull2.cell 4 rfl
  have a5 := hB.pull2.cell 5 rfl
  have a6 := hB.pull2.cell 6 rfl
  have g0 := hB.pull3.cell 0 rfl
  have g1 := hB.pull3.cell 1 rfl
  have g2 := hB.pull3.cell 2 rfl
  -- the act's cells, as they are read ahead of it
  have x0 := (hS.alloc (.cells #[vi kind, vi ri, vu rg, vi at_, vi gs, vu m, vu per] 63)).cell (cs := [vi kind, vi ri, vu rg, vi at_, vi gs, vu m, vu per]) (T := 63) 0 rfl
  have x1 := (hS.alloc (.cells #[vi kind, vi ri, vu rg, vi at_, vi gs, vu m, vu per] 63)).cell (cs := [vi kind, vi ri, vu rg, vi at_, vi gs, vu m, vu per]) (T := 63) 1 rfl
  have x2 := (hS.alloc (.cells #[vi kind, vi ri, vu rg, vi at_, vi gs, vu m, vu per] 63)).cell (cs := [vi kind, vi ri, vu rg, vi at_, vi gs, vu m, vu per]) (T := 63) 2 rfl
  obtain ⟨idx, j, hidx, hj, ht1, ht2, ht3⟩ := at_fact at_ rl.length hrl hat.1
  have hidxi : (idx : Int) < (rl.length : Int) := by omega
  have hw1 : IntKind.i64.wrap (at_ - 1) = at_ - 1 := IntWalk.i64_in _ (by omega)
  have hw2 : IntKind.i64.wrap ((rl.length : Int) - 1) = (rl.length : Int) - 1 := IntWalk.i64_in _ (by omega)
  have hw3 : IntKind.i64.wrap ((rl.length : Int) - 1 - (j : Int)) = (idx : Int) := by rw [ht3]; exact IntWalk.i64_in _ (by omega)
  have hn0 : ¬ (rl.length : Int) = 0 := by omega
  obtain ⟨⟨i, gg⟩, hrr⟩ : ∃ r, rl[idx]? = some r := ⟨rl[idx], List.getElem?_eq_getElem hidx⟩
  have l0 := hB.dropL.dropL.dropL.slCell _ (frefs_at hrr).1
  have l1 := hB.dropL.dropL.dropL.slCell _ (frefs_at hrr).2
  dsimp only at l0 l1
  have rf0 := hB.free 0
  have rf1 := hB.free 1
  have hst := ((hS.alloc (.cells #[vi kind, vi ri, vu rg, vi at_, vi gs, vu m, vu per] 63)).alloc (.cells #[vi i, vu gg] 32)).drew
  rw [size1] at hst
  have HST : Hid (Sat w0 (pc (w.heap.size + 1) 32 [vi i, vu gg] * (pc w.heap.size 63 [vi kind, vi ri, vu rg, vi at_, vi gs, vu m, vu per] * _)) _) := Lib.hid hst
  have hat2 : 1 ≤ at_ := hat.1
  clear hst hS hB0 hB hrr ht3
  clear h hT hk
  go_enter Try.func24, Try.ntmps24
  go_wp2_with fail
  refine wp_quiet_tail 22 (by kernel_rfl) (by kernel_rfl) ?_
  simp only [List.take_succ_cons, List.take_zero, List.drop_succ_cons, List.drop_zero]
  repeat (go_big_quiet_step (fail))
  refine wpQuiet_nil ?_
  have a0 := HST.out.pull2.cell 0 rfl
  have a4 := HST.out.pull2.cell 4 rfl
  have a5 := HST.out.pull2.cell 5 rfl
  have a6 := HST.out.pull2.cell 6 rfl
  go_wp2_with fail
  have HB := HST
  clear r0 r1 a0 a1 a2 a3 a4 a5 a6 g0 g1 g2 x0 x1 x2 l0 l1 rf0 rf1 hw1 hw2 hw3 HST
  generalize ((w.alloc (.cells #[vi kind, vi ri, vu rg, vi at_, vi gs, vu m, vu per] 63)).alloc (.cells #[vi i, vu gg] 32)).drew = W1 at *
  generalize w.heap.size + 1 = bR at *
  generalize w.heap.size = bA at *
  go_ret
  exact ⟨ps, free, rl, vF, _, rfl, HRel.out, HRl.out, by omega, HB.out.dropL.dropL⟩
end
end Go.Proofs.Ytfioghpnehfjhaa.Dm
