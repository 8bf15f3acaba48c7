/-
  Law 09: the game: carving. No statement is proved here.
-/
import Derived.Test.YtfioghpnehfjhaaGm6
import Derived.Deep.RegionLaw
namespace Go.Proofs.Ytfioghpnehfjhaa.Dm
open Go.RowKit Ad
set_option linter.unusedVariables false
set_option linter.unusedSimpArgs false

/-- What is there behind carving. -/
def DoPost1 (w0 : World) (n T g d p q b cap : Nat) (ps : List Pl) (free : List Nat) (rl : List (Int × Int)) (F : Hp) (e : Ending) (w' : World) : Prop :=
  ∃ (ps' : List Pl) (free' : List Nat) (rl' : List (Int × Int)) (vG vS : Value), e = .returned (.bool true) ∧ Rel n (T + 1) ps' free' ∧ Sat w0 (gameC g d p q b cap vG vS ps' free' rl' F) w' ∧
    ((rl' = rl ∧ ps' = ps ∧ free' = free) ∨ ∃ (k m : Nat) (a am : Pl) (gs cpu per : Int), ps[k]? = some a ∧ a.there = true ∧ ps[m]? = some am ∧ am.there = false ∧ rl' = rl ++ [((m : Int), am.gen)] ∧ free = free' ++ [m] ∧ ps' = carP ps k m a am gs cpu per)
section
variable {w0 w : World} {F : Hp} {n T g d p q b cap : Nat} {vF vR : Value} {ps : List Pl} {free : List Nat} {rl : List (Int × Int)}
set_option maxRecDepth 100000 in
set_option maxHeartbeats 8000000 in
theorem do_carveA (h : Rel n T ps free) (hT : T ≤ 1000) (hS : Sat w0 (gameC g d p q b cap vF vR ps free rl F) w) (hrl : 0 < rl.length) (hrl2 : rl.length ≤ 1000) (ri rg at_ gs m per : Int) (hat : at_ < 1) (hm : 0 ≤ m) : Calls Try.prog 24 #[vp g, .agg #[vi 1, vi ri, vu rg, vi at_, vi gs, vu m, vu per]] w (DoPost1 w0 n T g d p q b cap ps free rl F) := by
  have HSt := Lib.hid (fun (i gg : Int) => carve_step h i gg gs m per hm)
  have HRl := Lib.hid hrl
  obtain ⟨vo, rcap, rfl⟩ := hS.dropL.rd.len
  obtain ⟨gr, rfl⟩ : ∃ gr, vo = some ⟨gr, 0, none⟩ := by
    rcases hS.dropL.slE.2 with ⟨_, h0, _⟩ | ⟨g', c', cur, hv, _⟩
    · omega
    · injection hv with h1 h2 h3
      exact ⟨g', h1⟩
  have hB0 := (hS.alloc (.cells #[vi 1, vi ri, vu rg, vi at_, vi gs, vu m, vu per] 63)).alloc (.cells #[vi ri, vu rg] 32)
  rw [size1] at hB0
  have hB : Sat w0 (pc (w.heap.size + 1) 32 [vi ri, vu rg] * (pc w.heap.size 63 [vi 1, vi ri, vu rg, vi at_, vi gs, vu m, vu per] * (gameC g d p q b cap vF (.slice (some ⟨gr, 0, none⟩) rl.length rcap) ps free rl F))) ((w.alloc (.cells #[vi 1, vi ri, vu rg, vi at_, vi gs, vu m, vu per] 63)).alloc (.cells #[vi ri, vu rg] 32)) := hB0
  have r0 := hB.cell 0 rfl
  have r1 := hB.cell 1 rfl
  have a0 := hB.pull2.cell 0 rfl
  have a1 := hB.pull2.cell 1 rfl
  have a2 := hB.pull2.cell 2 rfl
  have a3 := hB.pull2.cell 3 rfl
  have a4 := hB.pull2.cell 4 rfl
  have a5 := hB.pull2.cell 5 rfl
  have a6 := hB.pull2.cell 6 rfl
  have g0 := hB.pull3.cell 0 rfl
  have g1 := hB.pull3.cell 1 rfl
  have g2 := hB.pull3.cell 2 rfl
  -- the act's cells, as they are read ahead of it
  have x0 := (hS.alloc (.cells #[vi 1, vi ri, vu rg, vi at_, vi gs, vu m, vu per] 63)).cell (cs := [vi 1, vi ri, vu rg, vi at_, vi gs, vu m, vu per]) (T := 63) 0 rfl
  have x1 := (hS.alloc (.cells #[vi 1, vi ri, vu rg, vi at_, vi gs, vu m, vu per] 63)).cell (cs := [vi 1, vi ri, vu rg, vi at_, vi gs, vu m, vu per]) (T := 63) 1 rfl
  have x2 := (hS.alloc (.cells #[vi 1, vi ri, vu rg, vi at_, vi gs, vu m, vu per] 63)).cell (cs := [vi 1, vi ri, vu rg, vi at_, vi gs, vu m, vu per]) (T := 63) 2 rfl
  have hat2 : ¬ 1 ≤ at_ := by omega
  have HB := Lib.hid hB
  clear hS hB0 hB
  clear h hT
  go_enter Try.func24, Try.ntmps24
  go_wp2_with fail
  clear r0 r1 a0 a1 a2 a3 a4 a5 a6 g0 g1 g2 x0 x1 x2
  generalize ((w.alloc (.cells #[vi 1, vi ri, vu rg, vi at_, vi gs, vu m, vu per] 63)).alloc (.cells #[vi ri, vu rg] 32)) = W1 at *
  generalize w.heap.size + 1 = bR at *
  generalize w.heap.size = bA at *
  obtain ⟨xi, xg, code, ps', free', hRel, hP, hR, hinfo⟩ := HSt.out ri rg
  have HRel := Lib.hid hRel
  have HInfo := Lib.hid hinfo
  have hA1 := (HB.out.alloc (.cells #[vi 0, vu 0] 32)).drew
  have hA1 : Sat w0 (pc W1.heap.size 32 [vi 0, vu 0] * (pc bR 32 [vi ri, vu rg] * (pc bA 63 [vi 1, vi ri, vu rg, vi at_, vi gs, vu m, vu per] * (gameC g d p q b cap vF (.slice (some ⟨gr, 0, none⟩) rl.length rcap) ps free rl F)))) _ := hA1
  have HC1 := Lib.hid (hP w0 _ (pc W1.heap.size 32 [vi 0, vu 0] * (pc bR 32 [vi ri, vu rg] * (pc bA 63 [vi 1, vi ri, vu rg, vi at_, vi gs, vu m, vu per] * (pc g 66 [vp d, vp q, (.slice (some ⟨gr, 0, none⟩) rl.length rcap)] * (sl 32 2 (.slice (some ⟨gr, 0, none⟩) rl.length rcap) rl.length (frefs rl) * refD q b cap vF ps free F))))) d p (hA1.cast (by unfold gameC; ac_rfl)))
  have HC2 := Lib.hid (hP w0 W1.drew (pc bR 32 [vi ri, vu rg] * (pc bA 63 [vi 1, vi ri, vu rg, vi at_, vi gs, vu m, vu per] * (pc g 66 [vp d, vp q, (.slice (some ⟨gr, 0, none⟩) rl.length rcap)] * (sl 32 2 (.slice (some ⟨gr, 0, none⟩) rl.length rcap) rl.length (frefs rl) * refD q b cap vF ps free F)))) d p (HB.out.drew.cast (by unfold gameC; ac_rfl)))
  have HR := Lib.hid (fun (w5 : World) (G : Hp) (h5 : Sat w0 (refD q b cap vF ps free G) w5) => hR w0 w5 G q b cap vF h5)
  have e0 := HB.out.pull3.cell 0 rfl
  have e1 := HB.out.pull3.cell 1 rfl
  have e2 := HB.out.cell 0 rfl
  have e3 := HB.out.cell 1 rfl
  have e4 := HB.out.pull2.cell 4 rfl
  have e5 := HB.out.pull2.cell 5 rfl
  have e6 := HB.out.pull2.cell 6 rfl
  clear hRel hP hR hA1 hinfo
  go_region_held3 (fun w' => w'.cell? ⟨g, 0, none⟩ = some (vp d) ∧ w'.cell? ⟨g, 1, none⟩ = some (vp q) ∧ w'.cell? ⟨bR, 0, none⟩ = some (vi ri) ∧ w'.cell? ⟨bR, 1, none⟩ = some (vu rg) ∧ w'.cell? ⟨bA, 4, none⟩ = some (vi gs) ∧ w'.cell? ⟨bA, 5, none⟩ = some (vu m) ∧ w'.cell? ⟨bA, 6, none⟩ = some (vu per))
    (first | exact ⟨e0, e1, e2, e3, e4, e5, e6⟩ | exact ⟨f0, f1, f2, f3, f4, f5, f6⟩ | exact ⟨k0, k1, k2, k3, k4, k5, k6⟩ | go_keep)
    (first
      | (go_at_call 32; (with_reducible refine HC1.out.mono ?_); rintro e w5 ⟨rfl, hS5⟩; have hV : Sat w0 (pc W1.heap.size 32 [vi 0, vu 0] * (pc bR 32 [vi ri, vu rg] * (pc bA 63 [vi 1, vi ri, vu rg, vi at_, vi gs, vu m, vu per] * (pc g 66 [vp d, vp q, (.slice (some ⟨gr, 0, none⟩) rl.length rcap)] * (sl 32 2 (.slice (some ⟨gr, 0, none⟩) rl.length rcap) rl.length (frefs rl) * (domB d p * (tblP p ps' free' * refD q b cap vF ps free F))))))) w5 := hS5.cast (by ac_rfl); have f0 := hV.dropL.pull3.cell 0 rfl; have f1 := hV.dropL.pull3.cell 1 rfl; have f2 := hV.dropL.cell 0 rfl; have f3 := hV.dropL.cell 1 rfl; have f4 := hV.dropL.pull2.cell 4 rfl; have f5 := hV.dropL.pull2.cell 5 rfl; have f6 := hV.dropL.pull2.cell 6 rfl; have p0 := hV.cell 0 rfl; have p1 := hV.cell 1 rfl; have pf0 := hV.free 0; have pf1 := hV.free 1; have hW := (hV.store 0 (vi xi)).store 1 (vu xg); have k0 := hW.dropL.pull3.cell 0 rfl; have k1 := hW.dropL.pull3.cell 1 rfl; have k2 := hW.dropL.cell 0 rfl; have k3 := hW.dropL.cell 1 rfl; have k4 := hW.dropL.pull2.cell 4 rfl; have k5 := hW.dropL.pull2.cell 5 rfl; have k6 := hW.dropL.pull2.cell 6 rfl; have t0 := hW.cell 0 rfl; have t1 := hW.cell 1 rfl; have HW : Hid (Sat w0 (pc W1.heap.size 32 [vi xi, vu xg] * (pc bR 32 [vi ri, vu rg] * (pc bA 63 [vi 1, vi ri, vu rg, vi at_, vi gs, vu m, vu per] * (pc g 66 [vp d, vp q, (.slice (some ⟨gr, 0, none⟩) rl.length rcap)] * (sl 32 2 (.slice (some ⟨gr, 0, none⟩) rl.length rcap) rl.length (frefs rl) * (domB d p * (tblP p ps' free' * refD q b cap vF ps free F))))))) (World.setCell (World.setCell w5 ⟨W1.heap.size, 0, none⟩ (vi xi)) ⟨W1.heap.size, 1, none⟩ (vu xg))) := Lib.hid hW; clear hS5 hV hW)
      | (go_at_call 32; (with_reducible refine HC2.out.mono ?_); rintro e w5 ⟨rfl, hS5⟩; have hV : Sat w0 (pc bR 32 [vi ri, vu rg] * (pc bA 63 [vi 1, vi ri, vu rg, vi at_, vi gs, vu m, vu per] * (pc g 66 [vp d, vp q, (.slice (some ⟨gr, 0, none⟩) rl.length rcap)] * (sl 32 2 (.slice (some ⟨gr, 0, none⟩) rl.length rcap) rl.length (frefs rl) * (domB d p * (tblP p ps' free' * refD q b cap vF ps free F)))))) w5 := hS5.cast (by ac_rfl); have f0 := hV.pull3.cell 0 rfl; have f1 := hV.pull3.cell 1 rfl; have f2 := hV.cell 0 rfl; have f3 := hV.cell 1 rfl; have f4 := hV.pull2.cell 4 rfl; have f5 := hV.pull2.cell 5 rfl; have f6 := hV.pull2.cell 6 rfl; have hW := hV.alloc (.cells #[vi xi, vu xg] 32); have hW : Sat w0 (pc w5.heap.size 32 [vi xi, vu xg] * (pc bR 32 [vi ri, vu rg] * (pc bA 63 [vi 1, vi ri, vu rg, vi at_, vi gs, vu m, vu per] * (pc g 66 [vp d, vp q, (.slice (some ⟨gr, 0, none⟩) rl.length rcap)] * (sl 32 2 (.slice (some ⟨gr, 0, none⟩) rl.length rcap) rl.length (frefs rl) * (domB d p * (tblP p ps' free' * refD q b cap vF ps free F))))))) _ := hW; have k0 := hW.dropL.pull3.cell 0 rfl; have k1 := hW.dropL.pull3.cell 1 rfl; have k2 := hW.dropL.cell 0 rfl; have k3 := hW.dropL.cell 1 rfl; have k4 := hW.dropL.pull2.cell 4 rfl; have k5 := hW.dropL.pull2.cell 5 rfl; have k6 := hW.dropL.pull2.cell 6 rfl; have t0 := hW.cell 0 rfl; have t1 := hW.cell 1 rfl; have HW := Lib.hid hW; clear hS5 hV hW))
  · go_wp2_with fail
    clear e0 e1 e2 e3 e4 e5 e6
    generalize (World.alloc w5 (.cells #[vi xi, vu xg] 32)) = V6 at *
    generalize w5.heap.size = b6 at *
    have c0 := HW.out.dropL.pull3.cell 0 rfl
    have c1 := HW.out.dropL.pull3.cell 1 rfl
    have c2 := HW.out.pull2.cell 0 rfl
    have c3 := HW.out.pull2.cell 1 rfl
    have c4 := HW.out.pull3.cell 4 rfl
    have c5 := HW.out.pull3.cell 5 rfl
    have c6 := HW.out.pull3.cell 6 rfl
    have t0 := HW.out.cell 0 rfl
    have t1 := HW.out.cell 1 rfl
    have hA2 := (HW.out.alloc (.cells #[vi 0, vu 0] 32)).drew
    have hA2 : Sat w0 (pc V6.heap.size 32 [vi 0, vu 0] * (pc b6 32 [vi xi, vu xg] * (pc bR 32 [vi ri, vu rg] * (pc bA 63 [vi 1, vi ri, vu rg, vi at_, vi gs, vu m, vu per] * (pc g 66 [vp d, vp q, (.slice (some ⟨gr, 0, none⟩) rl.length rcap)] * (sl 32 2 (.slice (some ⟨gr, 0, none⟩) rl.length rcap) rl.length (frefs rl) * (domB d p * (tblP p ps' free' * refD q b cap vF ps free F)))))))) _ := hA2
    have HD1 := Lib.hid (HR.out _ _ (hA2.cast (show _ = refD q b cap vF ps free (pc V6.heap.size 32 [vi 0, vu 0] * (pc b6 32 [vi xi, vu xg] * (pc bR 32 [vi ri, vu rg] * (pc bA 63 [vi 1, vi ri, vu rg, vi at_, vi gs, vu m, vu per] * (pc g 66 [vp d, vp q, (.slice (some ⟨gr, 0, none⟩) rl.length rcap)] * (sl 32 2 (.slice (some ⟨gr, 0, none⟩) rl.length rcap) rl.length (frefs rl) * (domB d p * (tblP p ps' free' * F)))))))) by unfold refD; ac_rfl)))
    have HD2 := Lib.hid (HR.out _ _ (HW.out.drew.cast (show _ = refD q b cap vF ps free (pc b6 32 [vi xi, vu xg] * (pc bR 32 [vi ri, vu rg] * (pc bA 63 [vi 1, vi ri, vu rg, vi at_, vi gs, vu m, vu per] * (pc g 66 [vp d, vp q, (.slice (some ⟨gr, 0, none⟩) rl.length rcap)] * (sl 32 2 (.slice (some ⟨gr, 0, none⟩) rl.length rcap) rl.length (frefs rl) * (domB d p * (tblP p ps' free' * F))))))) by unfold refD; ac_rfl)))
    clear hA2
    go_region_held3 (fun w' => w'.cell? ⟨g, 0, none⟩ = some (vp d) ∧ w'.cell? ⟨g, 1, none⟩ = some (vp q) ∧ w'.cell? ⟨bR, 0, none⟩ = some (vi ri) ∧ w'.cell? ⟨bR, 1, none⟩ = some (vu rg) ∧ w'.cell? ⟨bA, 4, none⟩ = some (vi gs) ∧ w'.cell? ⟨bA, 5, none⟩ = some (vu m) ∧ w'.cell? ⟨bA, 6, none⟩ = some (vu per) ∧ w'.cell? ⟨b6, 0, none⟩ = some (vi xi) ∧ w'.cell? ⟨b6, 1, none⟩ = some (vu xg))
      (first | exact ⟨c0, c1, c2, c3, c4, c5, c6, t0, t1⟩ | exact ⟨f0, f1, f2, f3, f4, f5, f6, u0, u1⟩ | exact ⟨k0, k1, k2, k3, k4, k5, k6, s0, s1⟩ | go_keep)
      (first
        | (go_at_call 33; (with_reducible refine HD1.out.mono ?_); rintro e w7 ⟨vG, rfl, hS7⟩; have hV : Sat w0 (pc V6.heap.size 32 [vi 0, vu 0] * (pc b6 32 [vi xi, vu xg] * (pc bR 32 [vi ri, vu rg] * (pc bA 63 [vi 1, vi ri, vu rg, vi at_, vi gs, vu m, vu per] * (pc g 66 [vp d, vp q, (.slice (some ⟨gr, 0, none⟩) rl.length rcap)] * (sl 32 2 (.slice (some ⟨gr, 0, none⟩) rl.length rcap) rl.length (frefs rl) * (domB d p * (tblP p ps' free' * refD q b cap vG ps' free' F)))))))) w7 := hS7.cast (by unfold refD; ac_rfl); have f0 := hV.dropL.dropL.pull3.cell 0 rfl; have f1 := hV.dropL.dropL.pull3.cell 1 rfl; have f2 := hV.dropL.dropL.cell 0 rfl; have f3 := hV.dropL.dropL.cell 1 rfl; have f4 := hV.dropL.dropL.pull2.cell 4 rfl; have f5 := hV.dropL.dropL.pull2.cell 5 rfl; have f6 := hV.dropL.dropL.pull2.cell 6 rfl; have u0 := hV.pull2.cell 0 rfl; have u1 := hV.pull2.cell 1 rfl; have p0 := hV.cell 0 rfl; have p1 := hV.cell 1 rfl; have pf0 := hV.free 0; have pf1 := hV.free 1; have hW2 := (hV.store 0 (vi xi)).store 1 (vu xg); have k0 := hW2.dropL.dropL.pull3.cell 0 rfl; have k1 := hW2.dropL.dropL.pull3.cell 1 rfl; have k2 := hW2.dropL.dropL.cell 0 rfl; have k3 := hW2.dropL.dropL.cell 1 rfl; have k4 := hW2.dropL.dropL.pull2.cell 4 rfl; have k5 := hW2.dropL.dropL.pull2.cell 5 rfl; have k6 := hW2.dropL.dropL.pull2.cell 6 rfl; have s0 := hW2.pull2.cell 0 rfl; have s1 := hW2.pull2.cell 1 rfl; have q0 := hW2.cell 0 rfl; have q1 := hW2.cell 1 rfl; have HZ : Hid (Sat w0 (pc V6.heap.size 32 [vi xi, vu xg] * (pc b6 32 [vi xi, vu xg] * (pc bR 32 [vi ri, vu rg] * (pc bA 63 [vi 1, vi ri, vu rg, vi at_, vi gs, vu m, vu per] * (pc g 66 [vp d, vp q, (.slice (some ⟨gr, 0, none⟩) rl.length rcap)] * (sl 32 2 (.slice (some ⟨gr, 0, none⟩) rl.length rcap) rl.length (frefs rl) * (domB d p * (tblP p ps' free' * refD q b cap vG ps' free' F)))))))) (World.setCell (World.setCell w7 ⟨V6.heap.size, 0, none⟩ (vi xi)) ⟨V6.heap.size, 1, none⟩ (vu xg))) := Lib.hid hW2; clear hS7 hV hW2)
        | (go_at_call 33; (with_reducible refine HD2.out.mono ?_); rintro e w7 ⟨vG, rfl, hS7⟩; have hV : Sat w0 (pc b6 32 [vi xi, vu xg] * (pc bR 32 [vi ri, vu rg] * (pc bA 63 [vi 1, vi ri, vu rg, vi at_, vi gs, vu m, vu per] * (pc g 66 [vp d, vp q, (.slice (some ⟨gr, 0, none⟩) rl.length rcap)] * (sl 32 2 (.slice (some ⟨gr, 0, none⟩) rl.length rcap) rl.length (frefs rl) * (domB d p * (tblP p ps' free' * refD q b cap vG ps' free' F))))))) w7 := hS7.cast (by unfold refD; ac_rfl); have f0 := hV.dropL.pull3.cell 0 rfl; have f1 := hV.dropL.pull3.cell 1 rfl; have f2 := hV.dropL.cell 0 rfl; have f3 := hV.dropL.cell 1 rfl; have f4 := hV.dropL.pull2.cell 4 rfl; have f5 := hV.dropL.pull2.cell 5 rfl; have f6 := hV.dropL.pull2.cell 6 rfl; have u0 := hV.cell 0 rfl; have u1 := hV.cell 1 rfl; have hW2 := hV.alloc (.cells #[vi xi, vu xg] 32); have hW2 : Sat w0 (pc w7.heap.size 32 [vi xi, vu xg] * (pc b6 32 [vi xi, vu xg] * (pc bR 32 [vi ri, vu rg] * (pc bA 63 [vi 1, vi ri, vu rg, vi at_, vi gs, vu m, vu per] * (pc g 66 [vp d, vp q, (.slice (some ⟨gr, 0, none⟩) rl.length rcap)] * (sl 32 2 (.slice (some ⟨gr, 0, none⟩) rl.length rcap) rl.length (frefs rl) * (domB d p * (tblP p ps' free' * refD q b cap vG ps' free' F)))))))) _ := hW2; have k0 := hW2.dropL.dropL.pull3.cell 0 rfl; have k1 := hW2.dropL.dropL.pull3.cell 1 rfl; have k2 := hW2.dropL.dropL.cell 0 rfl; have k3 := hW2.dropL.dropL.cell 1 rfl; have k4 := hW2.dropL.dropL.pull2.cell 4 rfl; have k5 := hW2.dropL.dropL.pull2.cell 5 rfl; have k6 := hW2.dropL.dropL.pull2.cell 6 rfl; have s0 := hW2.pull2.cell 0 rfl; have s1 := hW2.pull2.cell 1 rfl; have q0 := hW2.cell 0 rfl; have q1 := hW2.cell 1 rfl; have HZ := Lib.hid hW2; clear hS7 hV hW2))
    · rcases HInfo.out with ⟨hcode, hps, hfr⟩ | ⟨hcode, kk, mm, a, am, i1, i2, i3, i4, i5, i6, i7, i8⟩
      · have hcb : (code == 0) = false := beq_eq_false_iff_ne.2 hcode
        clear hcode
        go_wp2
        go_ret
        exact ⟨ps', free', rl, vG, _, rfl, HRel.out, (HZ.out.dropL.dropL.dropL.dropL.cast (by unfold gameC; ac_rfl)), .inl ⟨rfl, hps, hfr⟩⟩
      · subst hcode
        have HI := Lib.hid (show ∃ (k m : Nat) (a am : Pl) (gs cpu per : Int), ps[k]? = some a ∧ a.there = true ∧ ps[m]? = some am ∧ am.there = false ∧ rl ++ [(xi, xg)] = rl ++ [((m : Int), am.gen)] ∧ free = free' ++ [m] ∧ ps' = carP ps k m a am gs cpu per from ⟨kk, mm, a, am, gs, m, per, i1, i2, i3, i4, by rw [i5, i6], i7, i8⟩)
        clear i1 i2 i3 i4 i5 i6 i7 i8
        go_wp2_with fail
        generalize (World.alloc w7 (.cells #[vi xi, vu xg] 32)) = V8 at *
        generalize w7.heap.size = b8 at *
        have hz := HZ.out.dropL.cast (show _ = pc g 66 [vp d, vp q, (.slice (some ⟨gr, 0, none⟩) rl.length rcap)] * (sl 32 2 (.slice (some ⟨gr, 0, none⟩) rl.length rcap) rl.length (frefs rl) * (pc b6 32 [vi xi, vu xg] * (pc bR 32 [vi ri, vu rg] * (pc bA 63 [vi 1, vi ri, vu rg, vi at_, vi gs, vu m, vu per] * (domB d p * (tblP p ps' free' * refD q b cap vG ps' free' F)))))) by ac_rfl)
        have z0 := hz.cell 2 rfl
        have z1 := hz.pull3.cell 0 rfl
        have z2 := hz.pull3.cell 1 rfl
        have n0 := World.new_ne V8 _ z0
        have n1 := World.new_ne V8 _ z1
        have l0 := hz.lt
        have l1 := hz.pull3.lt
        have HZ2 := Lib.hid hz
        clear hz
        go_region_law
          ((refine step_append_sl Eref (by rfl) _ _ (by rfl) (by rfl) ((HZ2.out.pull2.alloc' _).drew) (by rfl) (rdTwo _ _ (vi xi) (vu xg) rfl) (by simp [Value.oneCell']) (by unfold maxLen; omega) (by omega) ?_; intro ao' cap' w9 hS9; have hP9 := hS9.pull2; have hF9 := hP9.free 2; have hC9 := hP9.cell 2 rfl))
        all_goals go_wp2
        all_goals go_ret
        all_goals
          have h9 := hP9.store 2 (.slice ao' (rl.length + 1) cap')
          refine ⟨ps', free', rl ++ [(xi, xg)], vG, .slice ao' (rl.length + 1) cap', rfl, HRel.out, ?_, .inr HI.out⟩
          unfold gameC
          rw [frefs_snoc, List.length_append, List.length_singleton]
          exact (h9.cast (show _ = pc b6 32 [vi xi, vu xg] * (pc bR 32 [vi ri, vu rg] * (pc bA 63 [vi 1, vi ri, vu rg, vi at_, vi gs, vu m, vu per] * (pc g 66 [vp d, vp q, .slice ao' (rl.length + 1) cap'] * (sl 32 2 (.slice ao' (rl.length + 1) cap') (rl.length + 1) (frefs rl ++ [vi xi, vu xg]) * (domB d p * (tblP p ps' free' * refD q b cap vG ps' free' F)))))) by simp only [List.set_cons_succ, List.set_cons_zero]; ac_rfl)).dropL.dropL.dropL
    · rcases HInfo.out with ⟨hcode, hps, hfr⟩ | ⟨hcode, kk, mm, a, am, i1, i2, i3, i4, i5, i6, i7, i8⟩
      · have hcb : (code == 0) = false := beq_eq_false_iff_ne.2 hcode
        clear hcode
        go_wp2
        go_ret
        exact ⟨ps', free', rl, vG, _, rfl, HRel.out, (HZ.out.dropL.dropL.dropL.dropL.cast (by unfold gameC; ac_rfl)), .inl ⟨rfl, hps, hfr⟩⟩
      · subst hcode
        have HI := Lib.hid (show ∃ (k m : Nat) (a am : Pl) (gs cpu per : Int), ps[k]? = some a ∧ a.there = true ∧ ps[m]? = some am ∧ am.there = false ∧ rl ++ [(xi, xg)] = rl ++ [((m : Int), am.gen)] ∧ free = free' ++ [m] ∧ ps' = carP ps k m a am gs cpu per from ⟨kk, mm, a, am, gs, m, per, i1, i2, i3, i4, by rw [i5, i6], i7, i8⟩)
        clear i1 i2 i3 i4 i5 i6 i7 i8
        go_wp2_with fail
        generalize (World.setCell (World.setCell w7 ⟨V6.heap.size, 0, none⟩ (vi xi)) ⟨V6.heap.size, 1, none⟩ (vu xg)) = V8 at *
        generalize V6.heap.size = b8 at *
        have hz := HZ.out.dropL.cast (show _ = pc g 66 [vp d, vp q, (.slice (some ⟨gr, 0, none⟩) rl.length rcap)] * (sl 32 2 (.slice (some ⟨gr, 0, none⟩) rl.length rcap) rl.length (frefs rl) * (pc b6 32 [vi xi, vu xg] * (pc bR 32 [vi ri, vu rg] * (pc bA 63 [vi 1, vi ri, vu rg, vi at_, vi gs, vu m, vu per] * (domB d p * (tblP p ps' free' * refD q b cap vG ps' free' F)))))) by ac_rfl)
        have z0 := hz.cell 2 rfl
        have z1 := hz.pull3.cell 0 rfl
        have z2 := hz.pull3.cell 1 rfl
        have n0 := World.new_ne V8 _ z0
        have n1 := World.new_ne V8 _ z1
        have l0 := hz.lt
        have l1 := hz.pull3.lt
        have HZ2 := Lib.hid hz
        clear hz
        go_region_law
          ((refine step_append_sl Eref (by rfl) _ _ (by rfl) (by rfl) ((HZ2.out.pull2.alloc' _).drew) (by rfl) (rdTwo _ _ (vi xi) (vu xg) rfl) (by simp [Value.oneCell']) (by unfold maxLen; omega) (by omega) ?_; intro ao' cap' w9 hS9; have hP9 := hS9.pull2; have hF9 := hP9.free 2; have hC9 := hP9.cell 2 rfl))
        all_goals go_wp2
        all_goals go_ret
        all_goals
          have h9 := hP9.store 2 (.slice ao' (rl.length + 1) cap')
          refine ⟨ps', free', rl ++ [(xi, xg)], vG, .slice ao' (rl.length + 1) cap', rfl, HRel.out, ?_, .inr HI.out⟩
          unfold gameC
          rw [frefs_snoc, List.length_append, List.length_singleton]
          exact (h9.cast (show _ = pc b6 32 [vi xi, vu xg] * (pc bR 32 [vi ri, vu rg] * (pc bA 63 [vi 1, vi ri, vu rg, vi at_, vi gs, vu m, vu per] * (pc g 66 [vp d, vp q, .slice ao' (rl.length + 1) cap'] * (sl 32 2 (.slice ao' (rl.length + 1) cap') (rl.length + 1) (frefs rl ++ [vi xi, vu xg]) * (domB d p * (tblP p ps' free' * refD q b cap vG ps' free' F)))))) by simp only [List.set_cons_succ, List.set_cons_zero]; ac_rfl)).dropL.dropL.dropL
  · go_wp2_with fail
    clear e0 e1 e2 e3 e4 e5 e6
    generalize (World.setCell (World.setCell w5 ⟨W1.heap.size, 0, none⟩ (vi xi)) ⟨W1.heap.size, 1, none⟩ (vu xg)) = V6 at *
    generalize W1.heap.size = b6 at *
    have c0 := HW.out.dropL.pull3.cell 0 rfl
    have c1 := HW.out.dropL.pull3.cell 1 rfl
    have c2 := HW.out.pull2.cell 0 rfl
    have c3 := HW.out.pull2.cell 1 rfl
    have c4 := HW.out.pull3.cell 4 rfl
    have c5 := HW.out.pull3.cell 5 rfl
    have c6 := HW.out.pull3.cell 6 rfl
    have t0 := HW.out.cell 0 rfl
    have t1 := HW.out.cell 1 rfl
    have hA2 := (HW.out.alloc (.cells #[vi 0, vu 0] 32)).drew
    have hA2 : Sat w0 (pc V6.heap.size 32 [vi 0, vu 0] * (pc b6 32 [vi xi, vu xg] * (pc bR 32 [vi ri, vu rg] * (pc bA 63 [vi 1, vi ri, vu rg, vi at_, vi gs, vu m, vu per] * (pc g 66 [vp d, vp q, (.slice (some ⟨gr, 0, none⟩) rl.length rcap)] * (sl 32 2 (.slice (some ⟨gr, 0, none⟩) rl.length rcap) rl.length (frefs rl) * (domB d p * (tblP p ps' free' * refD q b cap vF ps free F)))))))) _ := hA2
    have HD1 := Lib.hid (HR.out _ _ (hA2.cast (show _ = refD q b cap vF ps free (pc V6.heap.size 32 [vi 0, vu 0] * (pc b6 32 [vi xi, vu xg] * (pc bR 32 [vi ri, vu rg] * (pc bA 63 [vi 1, vi ri, vu rg, vi at_, vi gs, vu m, vu per] * (pc g 66 [vp d, vp q, (.slice (some ⟨gr, 0, none⟩) rl.length rcap)] * (sl 32 2 (.slice (some ⟨gr, 0, none⟩) rl.length rcap) rl.length (frefs rl) * (domB d p * (tblP p ps' free' * F)))))))) by unfold refD; ac_rfl)))
    have HD2 := Lib.hid (HR.out _ _ (HW.out.drew.cast (show _ = refD q b cap vF ps free (pc b6 32 [vi xi, vu xg] * (pc bR 32 [vi ri, vu rg] * (pc bA 63 [vi 1, vi ri, vu rg, vi at_, vi gs, vu m, vu per] * (pc g 66 [vp d, vp q, (.slice (some ⟨gr, 0, none⟩) rl.length rcap)] * (sl 32 2 (.slice (some ⟨gr, 0, none⟩) rl.length rcap) rl.length (frefs rl) * (domB d p * (tblP p ps' free' * F))))))) by unfold refD; ac_rfl)))
    clear hA2
    go_region_held3 (fun w' => w'.cell? ⟨g, 0, none⟩ = some (vp d) ∧ w'.cell? ⟨g, 1, none⟩ = some (vp q) ∧ w'.cell? ⟨bR, 0, none⟩ = some (vi ri) ∧ w'.cell? ⟨bR, 1, none⟩ = some (vu rg) ∧ w'.cell? ⟨bA, 4, none⟩ = some (vi gs) ∧ w'.cell? ⟨bA, 5, none⟩ = some (vu m) ∧ w'.cell? ⟨bA, 6, none⟩ = some (vu per) ∧ w'.cell? ⟨b6, 0, none⟩ = some (vi xi) ∧ w'.cell? ⟨b6, 1, none⟩ = some (vu xg))
      (first | exact ⟨c0, c1, c2, c3, c4, c5, c6, t0, t1⟩ | exact ⟨f0, f1, f2, f3, f4, f5, f6, u0, u1⟩ | exact ⟨k0, k1, k2, k3, k4, k5, k6, s0, s1⟩ | go_keep)
      (first
        | (go_at_call 33; (with_reducible refine HD1.out.mono ?_); rintro e w7 ⟨vG, rfl, hS7⟩; have hV : Sat w0 (pc V6.heap.size 32 [vi 0, vu 0] * (pc b6 32 [vi xi, vu xg] * (pc bR 32 [vi ri, vu rg] * (pc bA 63 [vi 1, vi ri, vu rg, vi at_, vi gs, vu m, vu per] * (pc g 66 [vp d, vp q, (.slice (some ⟨gr, 0, none⟩) rl.length rcap)] * (sl 32 2 (.slice (some ⟨gr, 0, none⟩) rl.length rcap) rl.length (frefs rl) * (domB d p * (tblP p ps' free' * refD q b cap vG ps' free' F)))))))) w7 := hS7.cast (by unfold refD; ac_rfl); have f0 := hV.dropL.dropL.pull3.cell 0 rfl; have f1 := hV.dropL.dropL.pull3.cell 1 rfl; have f2 := hV.dropL.dropL.cell 0 rfl; have f3 := hV.dropL.dropL.cell 1 rfl; have f4 := hV.dropL.dropL.pull2.cell 4 rfl; have f5 := hV.dropL.dropL.pull2.cell 5 rfl; have f6 := hV.dropL.dropL.pull2.cell 6 rfl; have u0 := hV.pull2.cell 0 rfl; have u1 := hV.pull2.cell 1 rfl; have p0 := hV.cell 0 rfl; have p1 := hV.cell 1 rfl; have pf0 := hV.free 0; have pf1 := hV.free 1; have hW2 := (hV.store 0 (vi xi)).store 1 (vu xg); have k0 := hW2.dropL.dropL.pull3.cell 0 rfl; have k1 := hW2.dropL.dropL.pull3.cell 1 rfl; have k2 := hW2.dropL.dropL.cell 0 rfl; have k3 := hW2.dropL.dropL.cell 1 rfl; have k4 := hW2.dropL.dropL.pull2.cell 4 rfl; have k5 := hW2.dropL.dropL.pull2.cell 5 rfl; have k6 := hW2.dropL.dropL.pull2.cell 6 rfl; have s0 := hW2.pull2.cell 0 rfl; have s1 := hW2.pull2.cell 1 rfl; have q0 := hW2.cell 0 rfl; have q1 := hW2.cell 1 rfl; have HZ : Hid (Sat w0 (pc V6.heap.size 32 [vi xi, vu xg] * (pc b6 32 [vi xi, vu xg] * (pc bR 32 [vi ri, vu rg] * (pc bA 63 [vi 1, vi ri, vu rg, vi at_, vi gs, vu m, vu per] * (pc g 66 [vp d, vp q, (.slice (some ⟨gr, 0, none⟩) rl.length rcap)] * (sl 32 2 (.slice (some ⟨gr, 0, none⟩) rl.length rcap) rl.length (frefs rl) * (domB d p * (tblP p ps' free' * refD q b cap vG ps' free' F)))))))) (World.setCell (World.setCell w7 ⟨V6.heap.size, 0, none⟩ (vi xi)) ⟨V6.heap.size, 1, none⟩ (vu xg))) := Lib.hid hW2; clear hS7 hV hW2)
        | (go_at_call 33; (with_reducible refine HD2.out.mono ?_); rintro e w7 ⟨vG, rfl, hS7⟩; have hV : Sat w0 (pc b6 32 [vi xi, vu xg] * (pc bR 32 [vi ri, vu rg] * (pc bA 63 [vi 1, vi ri, vu rg, vi at_, vi gs, vu m, vu per] * (pc g 66 [vp d, vp q, (.slice (some ⟨gr, 0, none⟩) rl.length rcap)] * (sl 32 2 (.slice (some ⟨gr, 0, none⟩) rl.length rcap) rl.length (frefs rl) * (domB d p * (tblP p ps' free' * refD q b cap vG ps' free' F))))))) w7 := hS7.cast (by unfold refD; ac_rfl); have f0 := hV.dropL.pull3.cell 0 rfl; have f1 := hV.dropL.pull3.cell 1 rfl; have f2 := hV.dropL.cell 0 rfl; have f3 := hV.dropL.cell 1 rfl; have f4 := hV.dropL.pull2.cell 4 rfl; have f5 := hV.dropL.pull2.cell 5 rfl; have f6 := hV.dropL.pull2.cell 6 rfl; have u0 := hV.cell 0 rfl; have u1 := hV.cell 1 rfl; have hW2 := hV.alloc (.cells #[vi xi, vu xg] 32); have hW2 : Sat w0 (pc w7.heap.size 32 [vi xi, vu xg] * (pc b6 32 [vi xi, vu xg] * (pc bR 32 [vi ri, vu rg] * (pc bA 63 [vi 1, vi ri, vu rg, vi at_, vi gs, vu m, vu per] * (pc g 66 [vp d, vp q, (.slice (some ⟨gr, 0, none⟩) rl.length rcap)] * (sl 32 2 (.slice (some ⟨gr, 0, none⟩) rl.length rcap) rl.length (frefs rl) * (domB d p * (tblP p ps' free' * refD q b cap vG ps' free' F)))))))) _ := hW2; have k0 := hW2.dropL.dropL.pull3.cell 0 rfl; have k1 := hW2.dropL.dropL.pull3.cell 1 rfl; have k2 := hW2.dropL.dropL.cell 0 rfl; have k3 := hW2.dropL.dropL.cell 1 rfl; have k4 := hW2.dropL.dropL.pull2.cell 4 rfl; have k5 := hW2.dropL.dropL.pull2.cell 5 rfl; have k6 := hW2.dropL.dropL.pull2.cell 6 rfl; have s0 := hW2.pull2.cell 0 rfl; have s1 := hW2.pull2.cell 1 rfl; have q0 := hW2.cell 0 rfl; have q1 := hW2.cell 1 rfl; have HZ := Lib.hid hW2; clear hS7 hV hW2))
    · rcases HInfo.out with ⟨hcode, hps, hfr⟩ | ⟨hcode, kk, mm, a, am, i1, i2, i3, i4, i5, i6, i7, i8⟩
      · have hcb : (code == 0) = false := beq_eq_false_iff_ne.2 hcode
        clear hcode
        go_wp2
        go_ret
        exact ⟨ps', free', rl, vG, _, rfl, HRel.out, (HZ.out.dropL.dropL.dropL.dropL.cast (by unfold gameC; ac_rfl)), .inl ⟨rfl, hps, hfr⟩⟩
      · subst hcode
        have HI := Lib.hid (show ∃ (k m : Nat) (a am : Pl) (gs cpu per : Int), ps[k]? = some a ∧ a.there = true ∧ ps[m]? = some am ∧ am.there = false ∧ rl ++ [(xi, xg)] = rl ++ [((m : Int), am.gen)] ∧ free = free' ++ [m] ∧ ps' = carP ps k m a am gs cpu per from ⟨kk, mm, a, am, gs, m, per, i1, i2, i3, i4, by rw [i5, i6], i7, i8⟩)
        clear i1 i2 i3 i4 i5 i6 i7 i8
        go_wp2_with fail
        generalize (World.alloc w7 (.cells #[vi xi, vu xg] 32)) = V8 at *
        generalize w7.heap.size = b8 at *
        have hz := HZ.out.dropL.cast (show _ = pc g 66 [vp d, vp q, (.slice (some ⟨gr, 0, none⟩) rl.length rcap)] * (sl 32 2 (.slice (some ⟨gr, 0, none⟩) rl.length rcap) rl.length (frefs rl) * (pc b6 32 [vi xi, vu xg] * (pc bR 32 [vi ri, vu rg] * (pc bA 63 [vi 1, vi ri, vu rg, vi at_, vi gs, vu m, vu per] * (domB d p * (tblP p ps' free' * refD q b cap vG ps' free' F)))))) by ac_rfl)
        have z0 := hz.cell 2 rfl
        have z1 := hz.pull3.cell 0 rfl
        have z2 := hz.pull3.cell 1 rfl
        have n0 := World.new_ne V8 _ z0
        have n1 := World.new_ne V8 _ z1
        have l0 := hz.lt
        have l1 := hz.pull3.lt
        have HZ2 := Lib.hid hz
        clear hz
        go_region_law
          ((refine step_append_sl Eref (by rfl) _ _ (by rfl) (by rfl) ((HZ2.out.pull2.alloc' _).drew) (by rfl) (rdTwo _ _ (vi xi) (vu xg) rfl) (by simp [Value.oneCell']) (by unfold maxLen; omega) (by omega) ?_; intro ao' cap' w9 hS9; have hP9 := hS9.pull2; have hF9 := hP9.free 2; have hC9 := hP9.cell 2 rfl))
        all_goals go_wp2
        all_goals go_ret
        all_goals
          have h9 := hP9.store 2 (.slice ao' (rl.length + 1) cap')
          refine ⟨ps', free', rl ++ [(xi, xg)], vG, .slice ao' (rl.length + 1) cap', rfl, HRel.out, ?_, .inr HI.out⟩
          unfold gameC
          rw [frefs_snoc, List.length_append, List.length_singleton]
          exact (h9.cast (show _ = pc b6 32 [vi xi, vu xg] * (pc bR 32 [vi ri, vu rg] * (pc bA 63 [vi 1, vi ri, vu rg, vi at_, vi gs, vu m, vu per] * (pc g 66 [vp d, vp q, .slice ao' (rl.length + 1) cap'] * (sl 32 2 (.slice ao' (rl.length + 1) cap') (rl.length + 1) (frefs rl ++ [vi xi, vu xg]) * (domB d p * (tblP p ps' free' * refD q b cap vG ps' free' F)))))) by simp only [List.set_cons_succ, List.set_cons_zero]; ac_rfl)).dropL.dropL.dropL
    · rcases HInfo.out with ⟨hcode, hps, hfr⟩ | ⟨hcode, kk, mm, a, am, i1, i2, i3, i4, i5, i6, i7, i8⟩
      · have hcb : (code == 0) = false := beq_eq_false_iff_ne.2 hcode
        clear hcode
        go_wp2
        go_ret
        exact ⟨ps', free', rl, vG, _, rfl, HRel.out, (HZ.out.dropL.dropL.dropL.dropL.cast (by unfold gameC; ac_rfl)), .inl ⟨rfl, hps, hfr⟩⟩
      · subst hcode
        have HI := Lib.hid (show ∃ (k m : Nat) (a am : Pl) (gs cpu per : Int), ps[k]? = some a ∧ a.there = true ∧ ps[m]? = some am ∧ am.there = false ∧ rl ++ [(xi, xg)] = rl ++ [((m : Int), am.gen)] ∧ free = free' ++ [m] ∧ ps' = carP ps k m a am gs cpu per from ⟨kk, mm, a, am, gs, m, per, i1, i2, i3, i4, by rw [i5, i6], i7, i8⟩)
        clear i1 i2 i3 i4 i5 i6 i7 i8
        go_wp2_with fail
        generalize (World.setCell (World.setCell w7 ⟨V6.heap.size, 0, none⟩ (vi xi)) ⟨V6.heap.size, 1, none⟩ (vu xg)) = V8 at *
        generalize V6.heap.size = b8 at *
        have hz := HZ.out.dropL.cast (show _ = pc g 66 [vp d, vp q, (.slice (some ⟨gr, 0, none⟩) rl.length rcap)] * (sl 32 2 (.slice (some ⟨gr, 0, none⟩) rl.length rcap) rl.length (frefs rl) * (pc b6 32 [vi xi, vu xg] * (pc bR 32 [vi ri, vu rg] * (pc bA 63 [vi 1, vi ri, vu rg, vi at_, vi gs, vu m, vu per] * (domB d p * (tblP p ps' free' * refD q b cap vG ps' free' F)))))) by ac_rfl)
        have z0 := hz.cell 2 rfl
        have z1 := hz.pull3.cell 0 rfl
        have z2 := hz.pull3.cell 1 rfl
        have n0 := World.new_ne V8 _ z0
        have n1 := World.new_ne V8 _ z1
        have l0 := hz.lt
        have l1 := hz.pull3.lt
        have HZ2 := Lib.hid hz
        clear hz
        go_region_law
          ((refine step_append_sl Eref (by rfl) _ _ (by rfl) (by rfl) ((HZ2.out.pull2.alloc' _).drew) (by rfl) (rdTwo _ _ (vi xi) (vu xg) rfl) (by simp [Value.oneCell']) (by unfold maxLen; omega) (by omega) ?_; intro ao' cap' w9 hS9; have hP9 := hS9.pull2; have hF9 := hP9.free 2; have hC9 := hP9.cell 2 rfl))
        all_goals go_wp2
        all_goals go_ret
        all_goals
          have h9 := hP9.store 2 (.slice ao' (rl.length + 1) cap')
          refine ⟨ps', free', rl ++ [(xi, xg)], vG, .slice ao' (rl.length + 1) cap', rfl, HRel.out, ?_, .inr HI.out⟩
          unfold gameC
          rw [frefs_snoc, List.length_append, List.length_singleton]
          exact (h9.cast (show _ = pc b6 32 [vi xi, vu xg] * (pc bR 32 [vi ri, vu rg] * (pc bA 63 [vi 1, vi ri, vu rg, vi at_, vi gs, vu m, vu per] * (pc g 66 [vp d, vp q, .slice ao' (rl.length + 1) cap'] * (sl 32 2 (.slice ao' (rl.length + 1) cap') (rl.length + 1) (frefs rl ++ [vi xi, vu xg]) * (domB d p * (tblP p ps' free' * refD q b cap vG ps' free' F)))))) by simp only [List.set_cons_succ, List.set_cons_zero]; ac_rfl)).dropL.dropL.dropL
set_option maxRecDepth 100000 in
set_option maxHeartbeats 8000000 in
theorem do_carveB (h : Rel n T ps free) (hT : T ≤ 1000) (hS : Sat w0 (gameC g d p q b cap vF vR ps free rl F) w) (hrl : 0 < rl.length) (hrl2 : rl.length ≤ 1000) (ri rg at_ gs m per : Int) (hat : 1 ≤ at_ ∧ at_ ≤ 9223372036854775807) (hm : 0 ≤ m) : Calls Try.prog 24 #[vp g, .agg #[vi 1, vi ri, vu rg, vi at_, vi gs, vu m, vu per]] w (DoPost1 w0 n T g d p q b cap ps free rl F) := by
  have HSt := Lib.hid (fun (i gg : Int) => carve_step h i gg gs m per hm)
  have HRl := Lib.hid hrl
  obtain ⟨vo, rcap, rfl⟩ := hS.dropL.rd.len
  obtain ⟨gr, rfl⟩ : ∃ gr, vo = some ⟨gr, 0, none⟩ := by
    rcases hS.dropL.slE.2 with ⟨_, h0, _⟩ | ⟨g', c', cur, hv, _⟩
    · omega
    · injection hv with h1 h2 h3
      exact ⟨g', h1⟩
  have hB0 := (hS.alloc (.cells #[vi 1, vi ri, vu rg, vi at_, vi gs, vu m, vu per] 63)).alloc (.cells #[vi ri, vu rg] 32)
  rw [size1] at hB0
  have hB : Sat w0 (pc (w.heap.size + 1) 32 [vi ri, vu rg] * (pc w.heap.size 63 [vi 1, vi ri, vu rg, vi at_, vi gs, vu m, vu per] * (gameC g d p q b cap vF (.slice (some ⟨gr, 0, none⟩) rl.length rcap) ps free rl F))) ((w.alloc (.cells #[vi 1, vi ri, vu rg, vi at_, vi gs, vu m, vu per] 63)).alloc (.cells #[vi ri, vu rg] 32)) := hB0
  have r0 := hB.cell 0 rfl
  have r1 := hB.cell 1 rfl
  have a0 := hB.pull2.cell 0 rfl
  have a1 := hB.pull2.cell 1 rfl
  have a2 := hB.pull2.cell 2 rfl
  have a3 := hB.pull2.cell 3 rfl
  have a4 := hB.pull2.cell 4 rfl
  have a5 := hB.pull2.cell 5 rfl
  have a6 := hB.pull2.cell 6 rfl
  have g0 := hB.pull3.cell 0 rfl
  have g1 := hB.pull3.cell 1 rfl
  have g2 := hB.pull3.cell 2 rfl
  -- the act's cells, as they are read ahead of it
  have x0 := (hS.alloc (.cells #[vi 1, vi ri, vu rg, vi at_, vi gs, vu m, vu per] 63)).cell (cs := [vi 1, vi ri, vu rg, vi at_, vi gs, vu m, vu per]) (T := 63) 0 rfl
  have x1 := (hS.alloc (.cells #[vi 1, vi ri, vu rg, vi at_, vi gs, vu m, vu per] 63)).cell (cs := [vi 1, vi ri, vu rg, vi at_, vi gs, vu m, vu per]) (T := 63) 1 rfl
  have x2 := (hS.alloc (.cells #[vi 1, vi ri, vu rg, vi at_, vi gs, vu m, vu per] 63)).cell (cs := [vi 1, vi ri, vu rg, vi at_, vi gs, vu m, vu per]) (T := 63) 2 rfl
  obtain ⟨idx, j, hidx, hj, ht1, ht2, ht3⟩ := at_fact at_ rl.length hrl hat.1
  have hidxi : (idx : Int) < (rl.length : Int) := by omega
  have hw1 : IntKind.i64.wrap (at_ - 1) = at_ - 1 := IntWalk.i64_in _ (by omega)
  have hw2 : IntKind.i64.wrap ((rl.length : Int) - 1) = (rl.length : Int) - 1 := IntWalk.i64_in _ (by omega)
  have hw3 : IntKind.i64.wrap ((rl.length : Int) - 1 - (j : Int)) = (idx : Int) := by rw [ht3]; exact IntWalk.i64_in _ (by omega)
  have hn0 : ¬ (rl.length : Int) = 0 := by omega
  obtain ⟨⟨i, gg⟩, hrr⟩ : ∃ r, rl[idx]? = some r := ⟨rl[idx], List.getElem?_eq_getElem hidx⟩
  have l0 := hB.dropL.dropL.dropL.slCell _ (frefs_at hrr).1
  have l1 := hB.dropL.dropL.dropL.slCell _ (frefs_at hrr).2
  dsimp only at l0 l1
  have rf0 := hB.free 0
  have rf1 := hB.free 1
  have hst := ((hS.alloc (.cells #[vi 1, vi ri, vu rg, vi at_, vi gs, vu m, vu per] 63)).alloc (.cells #[vi i, vu gg] 32)).drew
  rw [size1] at hst
  have HST : Hid (Sat w0 (pc (w.heap.size + 1) 32 [vi i, vu gg] * (pc w.heap.size 63 [vi 1, vi ri, vu rg, vi at_, vi gs, vu m, vu per] * _)) _) := Lib.hid hst
  have hat2 : 1 ≤ at_ := hat.1
  clear hst hS hB0 hB hrr ht3
  clear h hT
  go_enter Try.func24, Try.ntmps24
  go_wp2_with fail
  refine wp_quiet_tail 22 (by kernel_rfl) (by kernel_rfl) ?_
  simp only [List.take_succ_cons, List.take_zero, List.drop_succ_cons, List.drop_zero]
  repeat (go_big_quiet_step (fail))
  refine wpQuiet_nil ?_
  have a0 := HST.out.pull2.cell 0 rfl
  have a4 := HST.out.pull2.cell 4 rfl
  have a5 := HST.out.pull2.cell 5 rfl
  have a6 := HST.out.pull2.cell 6 rfl
  go_wp2_with fail
  have HB := HST
  clear r0 r1 a0 a1 a2 a3 a4 a5 a6 g0 g1 g2 x0 x1 x2 l0 l1 rf0 rf1 hw1 hw2 hw3 HST
  generalize ((w.alloc (.cells #[vi 1, vi ri, vu rg, vi at_, vi gs, vu m, vu per] 63)).alloc (.cells #[vi i, vu gg] 32)).drew = W1 at *
  generalize w.heap.size + 1 = bR at *
  generalize w.heap.size = bA at *
  obtain ⟨xi, xg, code, ps', free', hRel, hP, hR, hinfo⟩ := HSt.out i gg
  have HRel := Lib.hid hRel
  have HInfo := Lib.hid hinfo
  have hA1 := (HB.out.alloc (.cells #[vi 0, vu 0] 32)).drew
  have hA1 : Sat w0 (pc W1.heap.size 32 [vi 0, vu 0] * (pc bR 32 [vi i, vu gg] * (pc bA 63 [vi 1, vi ri, vu rg, vi at_, vi gs, vu m, vu per] * (gameC g d p q b cap vF (.slice (some ⟨gr, 0, none⟩) rl.length rcap) ps free rl F)))) _ := hA1
  have HC1 := Lib.hid (hP w0 _ (pc W1.heap.size 32 [vi 0, vu 0] * (pc bR 32 [vi i, vu gg] * (pc bA 63 [vi 1, vi ri, vu rg, vi at_, vi gs, vu m, vu per] * (pc g 66 [vp d, vp q, (.slice (some ⟨gr, 0, none⟩) rl.length rcap)] * (sl 32 2 (.slice (some ⟨gr, 0, none⟩) rl.length rcap) rl.length (frefs rl) * refD q b cap vF ps free F))))) d p (hA1.cast (by unfold gameC; ac_rfl)))
  have HC2 := Lib.hid (hP w0 W1.drew (pc bR 32 [vi i, vu gg] * (pc bA 63 [vi 1, vi ri, vu rg, vi at_, vi gs, vu m, vu per] * (pc g 66 [vp d, vp q, (.slice (some ⟨gr, 0, none⟩) rl.length rcap)] * (sl 32 2 (.slice (some ⟨gr, 0, none⟩) rl.length rcap) rl.length (frefs rl) * refD q b cap vF ps free F)))) d p (HB.out.drew.cast (by unfold gameC; ac_rfl)))
  have HR := Lib.hid (fun (w5 : World) (G : Hp) (h5 : Sat w0 (refD q b cap vF ps free G) w5) => hR w0 w5 G q b cap vF h5)
  have e0 := HB.out.pull3.cell 0 rfl
  have e1 := HB.out.pull3.cell 1 rfl
  have e2 := HB.out.cell 0 rfl
  have e3 := HB.out.cell 1 rfl
  have e4 := HB.out.pull2.cell 4 rfl
  have e5 := HB.out.pull2.cell 5 rfl
  have e6 := HB.out.pull2.cell 6 rfl
  clear hRel hP hR hA1 hinfo
  go_region_held3 (fun w' => w'.cell? ⟨g, 0, none⟩ = some (vp d) ∧ w'.cell? ⟨g, 1, none⟩ = some (vp q) ∧ w'.cell? ⟨bR, 0, none⟩ = some (vi i) ∧ w'.cell? ⟨bR, 1, none⟩ = some (vu gg) ∧ w'.cell? ⟨bA, 4, none⟩ = some (vi gs) ∧ w'.cell? ⟨bA, 5, none⟩ = some (vu m) ∧ w'.cell? ⟨bA, 6, none⟩ = some (vu per))
    (first | exact ⟨e0, e1, e2, e3, e4, e5, e6⟩ | exact ⟨f0, f1, f2, f3, f4, f5, f6⟩ | exact ⟨k0, k1, k2, k3, k4, k5, k6⟩ | go_keep)
    (first
      | (go_at_call 32; (with_reducible refine HC1.out.mono ?_); rintro e w5 ⟨rfl, hS5⟩; have hV : Sat w0 (pc W1.heap.size 32 [vi 0, vu 0] * (pc bR 32 [vi i, vu gg] * (pc bA 63 [vi 1, vi ri, vu rg, vi at_, vi gs, vu m, vu per] * (pc g 66 [vp d, vp q, (.slice (some ⟨gr, 0, none⟩) rl.length rcap)] * (sl 32 2 (.slice (some ⟨gr, 0, none⟩) rl.length rcap) rl.length (frefs rl) * (domB d p * (tblP p ps' free' * refD q b cap vF ps free F))))))) w5 := hS5.cast (by ac_rfl); have f0 := hV.dropL.pull3.cell 0 rfl; have f1 := hV.dropL.pull3.cell 1 rfl; have f2 := hV.dropL.cell 0 rfl; have f3 := hV.dropL.cell 1 rfl; have f4 := hV.dropL.pull2.cell 4 rfl; have f5 := hV.dropL.pull2.cell 5 rfl; have f6 := hV.dropL.pull2.cell 6 rfl; have p0 := hV.cell 0 rfl; have p1 := hV.cell 1 rfl; have pf0 := hV.free 0; have pf1 := hV.free 1; have hW := (hV.store 0 (vi xi)).store 1 (vu xg); have k0 := hW.dropL.pull3.cell 0 rfl; have k1 := hW.dropL.pull3.cell 1 rfl; have k2 := hW.dropL.cell 0 rfl; have k3 := hW.dropL.cell 1 rfl; have k4 := hW.dropL.pull2.cell 4 rfl; have k5 := hW.dropL.pull2.cell 5 rfl; have k6 := hW.dropL.pull2.cell 6 rfl; have t0 := hW.cell 0 rfl; have t1 := hW.cell 1 rfl; have HW : Hid (Sat w0 (pc W1.heap.size 32 [vi xi, vu xg] * (pc bR 32 [vi i, vu gg] * (pc bA 63 [vi 1, vi ri, vu rg, vi at_, vi gs, vu m, vu per] * (pc g 66 [vp d, vp q, (.slice (some ⟨gr, 0, none⟩) rl.length rcap)] * (sl 32 2 (.slice (some ⟨gr, 0, none⟩) rl.length rcap) rl.length (frefs rl) * (domB d p * (tblP p ps' free' * refD q b cap vF ps free F))))))) (World.setCell (World.setCell w5 ⟨W1.heap.size, 0, none⟩ (vi xi)) ⟨W1.heap.size, 1, none⟩ (vu xg))) := Lib.hid hW; clear hS5 hV hW)
      | (go_at_call 32; (with_reducible refine HC2.out.mono ?_); rintro e w5 ⟨rfl, hS5⟩; have hV : Sat w0 (pc bR 32 [vi i, vu gg] * (pc bA 63 [vi 1, vi ri, vu rg, vi at_, vi gs, vu m, vu per] * (pc g 66 [vp d, vp q, (.slice (some ⟨gr, 0, none⟩) rl.length rcap)] * (sl 32 2 (.slice (some ⟨gr, 0, none⟩) rl.length rcap) rl.length (frefs rl) * (domB d p * (tblP p ps' free' * refD q b cap vF ps free F)))))) w5 := hS5.cast (by ac_rfl); have f0 := hV.pull3.cell 0 rfl; have f1 := hV.pull3.cell 1 rfl; have f2 := hV.cell 0 rfl; have f3 := hV.cell 1 rfl; have f4 := hV.pull2.cell 4 rfl; have f5 := hV.pull2.cell 5 rfl; have f6 := hV.pull2.cell 6 rfl; have hW := hV.alloc (.cells #[vi xi, vu xg] 32); have hW : Sat w0 (pc w5.heap.size 32 [vi xi, vu xg] * (pc bR 32 [vi i, vu gg] * (pc bA 63 [vi 1, vi ri, vu rg, vi at_, vi gs, vu m, vu per] * (pc g 66 [vp d, vp q, (.slice (some ⟨gr, 0, none⟩) rl.length rcap)] * (sl 32 2 (.slice (some ⟨gr, 0, none⟩) rl.length rcap) rl.length (frefs rl) * (domB d p * (tblP p ps' free' * refD q b cap vF ps free F))))))) _ := hW; have k0 := hW.dropL.pull3.cell 0 rfl; have k1 := hW.dropL.pull3.cell 1 rfl; have k2 := hW.dropL.cell 0 rfl; have k3 := hW.dropL.cell 1 rfl; have k4 := hW.dropL.pull2.cell 4 rfl; have k5 := hW.dropL.pull2.cell 5 rfl; have k6 := hW.dropL.pull2.cell 6 rfl; have t0 := hW.cell 0 rfl; have t1 := hW.cell 1 rfl; have HW := Lib.hid hW; clear hS5 hV hW))
  · go_wp2_with fail
    clear e0 e1 e2 e3 e4 e5 e6
    generalize (World.alloc w5 (.cells #[vi xi, vu xg] 32)) = V6 at *
    generalize w5.heap.size = b6 at *
    have c0 := HW.out.dropL.pull3.cell 0 rfl
    have c1 := HW.out.dropL.pull3.cell 1 rfl
    have c2 := HW.out.pull2.cell 0 rfl
    have c3 := HW.out.pull2.cell 1 rfl
    have c4 := HW.out.pull3.cell 4 rfl
    have c5 := HW.out.pull3.cell 5 rfl
    have c6 := HW.out.pull3.cell 6 rfl
    have t0 := HW.out.cell 0 rfl
    have t1 := HW.out.cell 1 rfl
    have hA2 := (HW.out.alloc (.cells #[vi 0, vu 0] 32)).drew
    have hA2 : Sat w0 (pc V6.heap.size 32 [vi 0, vu 0] * (pc b6 32 [vi xi, vu xg] * (pc bR 32 [vi i, vu gg] * (pc bA 63 [vi 1, vi ri, vu rg, vi at_, vi gs, vu m, vu per] * (pc g 66 [vp d, vp q, (.slice (some ⟨gr, 0, none⟩) rl.length rcap)] * (sl 32 2 (.slice (some ⟨gr, 0, none⟩) rl.length rcap) rl.length (frefs rl) * (domB d p * (tblP p ps' free' * refD q b cap vF ps free F)))))))) _ := hA2
    have HD1 := Lib.hid (HR.out _ _ (hA2.cast (show _ = refD q b cap vF ps free (pc V6.heap.size 32 [vi 0, vu 0] * (pc b6 32 [vi xi, vu xg] * (pc bR 32 [vi i, vu gg] * (pc bA 63 [vi 1, vi ri, vu rg, vi at_, vi gs, vu m, vu per] * (pc g 66 [vp d, vp q, (.slice (some ⟨gr, 0, none⟩) rl.length rcap)] * (sl 32 2 (.slice (some ⟨gr, 0, none⟩) rl.length rcap) rl.length (frefs rl) * (domB d p * (tblP p ps' free' * F)))))))) by unfold refD; ac_rfl)))
    have HD2 := Lib.hid (HR.out _ _ (HW.out.drew.cast (show _ = refD q b cap vF ps free (pc b6 32 [vi xi, vu xg] * (pc bR 32 [vi i, vu gg] * (pc bA 63 [vi 1, vi ri, vu rg, vi at_, vi gs, vu m, vu per] * (pc g 66 [vp d, vp q, (.slice (some ⟨gr, 0, none⟩) rl.length rcap)] * (sl 32 2 (.slice (some ⟨gr, 0, none⟩) rl.length rcap) rl.length (frefs rl) * (domB d p * (tblP p ps' free' * F))))))) by unfold refD; ac_rfl)))
    clear hA2
    go_region_held3 (fun w' => w'.cell? ⟨g, 0, none⟩ = some (vp d) ∧ w'.cell? ⟨g, 1, none⟩ = some (vp q) ∧ w'.cell? ⟨bR, 0, none⟩ = some (vi i) ∧ w'.cell? ⟨bR, 1, none⟩ = some (vu gg) ∧ w'.cell? ⟨bA, 4, none⟩ = some (vi gs) ∧ w'.cell? ⟨bA, 5, none⟩ = some (vu m) ∧ w'.cell? ⟨bA, 6, none⟩ = some (vu per) ∧ w'.cell? ⟨b6, 0, none⟩ = some (vi xi) ∧ w'.cell? ⟨b6, 1, none⟩ = some (vu xg))
      (first | exact ⟨c0, c1, c2, c3, c4, c5, c6, t0, t1⟩ | exact ⟨f0, f1, f2, f3, f4, f5, f6, u0, u1⟩ | exact ⟨k0, k1, k2, k3, k4, k5, k6, s0, s1⟩ | go_keep)
      (first
        | (go_at_call 33; (with_reducible refine HD1.out.mono ?_); rintro e w7 ⟨vG, rfl, hS7⟩; have hV : Sat w0 (pc V6.heap.size 32 [vi 0, vu 0] * (pc b6 32 [vi xi, vu xg] * (pc bR 32 [vi i, vu gg] * (pc bA 63 [vi 1, vi ri, vu rg, vi at_, vi gs, vu m, vu per] * (pc g 66 [vp d, vp q, (.slice (some ⟨gr, 0, none⟩) rl.length rcap)] * (sl 32 2 (.slice (some ⟨gr, 0, none⟩) rl.length rcap) rl.length (frefs rl) * (domB d p * (tblP p ps' free' * refD q b cap vG ps' free' F)))))))) w7 := hS7.cast (by unfold refD; ac_rfl); have f0 := hV.dropL.dropL.pull3.cell 0 rfl; have f1 := hV.dropL.dropL.pull3.cell 1 rfl; have f2 := hV.dropL.dropL.cell 0 rfl; have f3 := hV.dropL.dropL.cell 1 rfl; have f4 := hV.dropL.dropL.pull2.cell 4 rfl; have f5 := hV.dropL.dropL.pull2.cell 5 rfl; have f6 := hV.dropL.dropL.pull2.cell 6 rfl; have u0 := hV.pull2.cell 0 rfl; have u1 := hV.pull2.cell 1 rfl; have p0 := hV.cell 0 rfl; have p1 := hV.cell 1 rfl; have pf0 := hV.free 0; have pf1 := hV.free 1; have hW2 := (hV.store 0 (vi xi)).store 1 (vu xg); have k0 := hW2.dropL.dropL.pull3.cell 0 rfl; have k1 := hW2.dropL.dropL.pull3.cell 1 rfl; have k2 := hW2.dropL.dropL.cell 0 rfl; have k3 := hW2.dropL.dropL.cell 1 rfl; have k4 := hW2.dropL.dropL.pull2.cell 4 rfl; have k5 := hW2.dropL.dropL.pull2.cell 5 rfl; have k6 := hW2.dropL.dropL.pull2.cell 6 rfl; have s0 := hW2.pull2.cell 0 rfl; have s1 := hW2.pull2.cell 1 rfl; have q0 := hW2.cell 0 rfl; have q1 := hW2.cell 1 rfl; have HZ : Hid (Sat w0 (pc V6.heap.size 32 [vi xi, vu xg] * (pc b6 32 [vi xi, vu xg] * (pc bR 32 [vi i, vu gg] * (pc bA 63 [vi 1, vi ri, vu rg, vi at_, vi gs, vu m, vu per] * (pc g 66 [vp d, vp q, (.slice (some ⟨gr, 0, none⟩) rl.length rcap)] * (sl 32 2 (.slice (some ⟨gr, 0, none⟩) rl.length rcap) rl.length (frefs rl) * (domB d p * (tblP p ps' free' * refD q b cap vG ps' free' F)))))))) (World.setCell (World.setCell w7 ⟨V6.heap.size, 0, none⟩ (vi xi)) ⟨V6.heap.size, 1, none⟩ (vu xg))) := Lib.hid hW2; clear hS7 hV hW2)
        | (go_at_call 33; (with_reducible refine HD2.out.mono ?_); rintro e w7 ⟨vG, rfl, hS7⟩; have hV : Sat w0 (pc b6 32 [vi xi, vu xg] * (pc bR 32 [vi i, vu gg] * (pc bA 63 [vi 1, vi ri, vu rg, vi at_, vi gs, vu m, vu per] * (pc g 66 [vp d, vp q, (.slice (some ⟨gr, 0, none⟩) rl.length rcap)] * (sl 32 2 (.slice (some ⟨gr, 0, none⟩) rl.length rcap) rl.length (frefs rl) * (domB d p * (tblP p ps' free' * refD q b cap vG ps' free' F))))))) w7 := hS7.cast (by unfold refD; ac_rfl); have f0 := hV.dropL.pull3.cell 0 rfl; have f1 := hV.dropL.pull3.cell 1 rfl; have f2 := hV.dropL.cell 0 rfl; have f3 := hV.dropL.cell 1 rfl; have f4 := hV.dropL.pull2.cell 4 rfl; have f5 := hV.dropL.pull2.cell 5 rfl; have f6 := hV.dropL.pull2.cell 6 rfl; have u0 := hV.cell 0 rfl; have u1 := hV.cell 1 rfl; have hW2 := hV.alloc (.cells #[vi xi, vu xg] 32); have hW2 : Sat w0 (pc w7.heap.size 32 [vi xi, vu xg] * (pc b6 32 [vi xi, vu xg] * (pc bR 32 [vi i, vu gg] * (pc bA 63 [vi 1, vi ri, vu rg, vi at_, vi gs, vu m, vu per] * (pc g 66 [vp d, vp q, (.slice (some ⟨gr, 0, none⟩) rl.length rcap)] * (sl 32 2 (.slice (some ⟨gr, 0, none⟩) rl.length rcap) rl.length (frefs rl) * (domB d p * (tblP p ps' free' * refD q b cap vG ps' free' F)))))))) _ := hW2; have k0 := hW2.dropL.dropL.pull3.cell 0 rfl; have k1 := hW2.dropL.dropL.pull3.cell 1 rfl; have k2 := hW2.dropL.dropL.cell 0 rfl; have k3 := hW2.dropL.dropL.cell 1 rfl; have k4 := hW2.dropL.dropL.pull2.cell 4 rfl; have k5 := hW2.dropL.dropL.pull2.cell 5 rfl; have k6 := hW2.dropL.dropL.pull2.cell 6 rfl; have s0 := hW2.pull2.cell 0 rfl; have s1 := hW2.pull2.cell 1 rfl; have q0 := hW2.cell 0 rfl; have q1 := hW2.cell 1 rfl; have HZ := Lib.hid hW2; clear hS7 hV hW2))
    · rcases HInfo.out with ⟨hcode, hps, hfr⟩ | ⟨hcode, kk, mm, a, am, i1, i2, i3, i4, i5, i6, i7, i8⟩
      · have hcb : (code == 0) = false := beq_eq_false_iff_ne.2 hcode
        clear hcode
        go_wp2
        go_ret
        exact ⟨ps', free', rl, vG, _, rfl, HRel.out, (HZ.out.dropL.dropL.dropL.dropL.cast (by unfold gameC; ac_rfl)), .inl ⟨rfl, hps, hfr⟩⟩
      · subst hcode
        have HI := Lib.hid (show ∃ (k m : Nat) (a am : Pl) (gs cpu per : Int), ps[k]? = some a ∧ a.there = true ∧ ps[m]? = some am ∧ am.there = false ∧ rl ++ [(xi, xg)] = rl ++ [((m : Int), am.gen)] ∧ free = free' ++ [m] ∧ ps' = carP ps k m a am gs cpu per from ⟨kk, mm, a, am, gs, m, per, i1, i2, i3, i4, by rw [i5, i6], i7, i8⟩)
        clear i1 i2 i3 i4 i5 i6 i7 i8
        go_wp2_with fail
        generalize (World.alloc w7 (.cells #[vi xi, vu xg] 32)) = V8 at *
        generalize w7.heap.size = b8 at *
        have hz := HZ.out.dropL.cast (show _ = pc g 66 [vp d, vp q, (.slice (some ⟨gr, 0, none⟩) rl.length rcap)] * (sl 32 2 (.slice (some ⟨gr, 0, none⟩) rl.length rcap) rl.length (frefs rl) * (pc b6 32 [vi xi, vu xg] * (pc bR 32 [vi i, vu gg] * (pc bA 63 [vi 1, vi ri, vu rg, vi at_, vi gs, vu m, vu per] * (domB d p * (tblP p ps' free' * refD q b cap vG ps' free' F)))))) by ac_rfl)
        have z0 := hz.cell 2 rfl
        have z1 := hz.pull3.cell 0 rfl
        have z2 := hz.pull3.cell 1 rfl
        have n0 := World.new_ne V8 _ z0
        have n1 := World.new_ne V8 _ z1
        have l0 := hz.lt
        have l1 := hz.pull3.lt
        have HZ2 := Lib.hid hz
        clear hz
        go_region_law
          ((refine step_append_sl Eref (by rfl) _ _ (by rfl) (by rfl) ((HZ2.out.pull2.alloc' _).drew) (by rfl) (rdTwo _ _ (vi xi) (vu xg) rfl) (by simp [Value.oneCell']) (by unfold maxLen; omega) (by omega) ?_; intro ao' cap' w9 hS9; have hP9 := hS9.pull2; have hF9 := hP9.free 2; have hC9 := hP9.cell 2 rfl))
        all_goals go_wp2
        all_goals go_ret
        all_goals
          have h9 := hP9.store 2 (.slice ao' (rl.length + 1) cap')
          refine ⟨ps', free', rl ++ [(xi, xg)], vG, .slice ao' (rl.length + 1) cap', rfl, HRel.out, ?_, .inr HI.out⟩
          unfold gameC
          rw [frefs_snoc, List.length_append, List.length_singleton]
          exact (h9.cast (show _ = pc b6 32 [vi xi, vu xg] * (pc bR 32 [vi i, vu gg] * (pc bA 63 [vi 1, vi ri, vu rg, vi at_, vi gs, vu m, vu per] * (pc g 66 [vp d, vp q, .slice ao' (rl.length + 1) cap'] * (sl 32 2 (.slice ao' (rl.length + 1) cap') (rl.length + 1) (frefs rl ++ [vi xi, vu xg]) * (domB d p * (tblP p ps' free' * refD q b cap vG ps' free' F)))))) by simp only [List.set_cons_succ, List.set_cons_zero]; ac_rfl)).dropL.dropL.dropL
    · rcases HInfo.out with ⟨hcode, hps, hfr⟩ | ⟨hcode, kk, mm, a, am, i1, i2, i3, i4, i5, i6, i7, i8⟩
      · have hcb : (code == 0) = false := beq_eq_false_iff_ne.2 hcode
        clear hcode
        go_wp2
        go_ret
        exact ⟨ps', free', rl, vG, _, rfl, HRel.out, (HZ.out.dropL.dropL.dropL.dropL.cast (by unfold gameC; ac_rfl)), .inl ⟨rfl, hps, hfr⟩⟩
      · subst hcode
        have HI := Lib.hid (show ∃ (k m : Nat) (a am : Pl) (gs cpu per : Int), ps[k]? = some a ∧ a.there = true ∧ ps[m]? = some am ∧ am.there = false ∧ rl ++ [(xi, xg)] = rl ++ [((m : Int), am.gen)] ∧ free = free' ++ [m] ∧ ps' = carP ps k m a am gs cpu per from ⟨kk, mm, a, am, gs, m, per, i1, i2, i3, i4, by rw [i5, i6], i7, i8⟩)
        clear i1 i2 i3 i4 i5 i6 i7 i8
        go_wp2_with fail
        generalize (World.setCell (World.setCell w7 ⟨V6.heap.size, 0, none⟩ (vi xi)) ⟨V6.heap.size, 1, none⟩ (vu xg)) = V8 at *
        generalize V6.heap.size = b8 at *
        have hz := HZ.out.dropL.cast (show _ = pc g 66 [vp d, vp q, (.slice (some ⟨gr, 0, none⟩) rl.length rcap)] * (sl 32 2 (.slice (some ⟨gr, 0, none⟩) rl.length rcap) rl.length (frefs rl) * (pc b6 32 [vi xi, vu xg] * (pc bR 32 [vi i, vu gg] * (pc bA 63 [vi 1, vi ri, vu rg, vi at_, vi gs, vu m, vu per] * (domB d p * (tblP p ps' free' * refD q b cap vG ps' free' F)))))) by ac_rfl)
        have z0 := hz.cell 2 rfl
        have z1 := hz.pull3.cell 0 rfl
        have z2 := hz.pull3.cell 1 rfl
        have n0 := World.new_ne V8 _ z0
        have n1 := World.new_ne V8 _ z1
        have l0 := hz.lt
        have l1 := hz.pull3.lt
        have HZ2 := Lib.hid hz
        clear hz
        go_region_law
          ((refine step_append_sl Eref (by rfl) _ _ (by rfl) (by rfl) ((HZ2.out.pull2.alloc' _).drew) (by rfl) (rdTwo _ _ (vi xi) (vu xg) rfl) (by simp [Value.oneCell']) (by unfold maxLen; omega) (by omega) ?_; intro ao' cap' w9 hS9; have hP9 := hS9.pull2; have hF9 := hP9.free 2; have hC9 := hP9.cell 2 rfl))
        all_goals go_wp2
        all_goals go_ret
        all_goals
          have h9 := hP9.store 2 (.slice ao' (rl.length + 1) cap')
          refine ⟨ps', free', rl ++ [(xi, xg)], vG, .slice ao' (rl.length + 1) cap', rfl, HRel.out, ?_, .inr HI.out⟩
          unfold gameC
          rw [frefs_snoc, List.length_append, List.length_singleton]
          exact (h9.cast (show _ = pc b6 32 [vi xi, vu xg] * (pc bR 32 [vi i, vu gg] * (pc bA 63 [vi 1, vi ri, vu rg, vi at_, vi gs, vu m, vu per] * (pc g 66 [vp d, vp q, .slice ao' (rl.length + 1) cap'] * (sl 32 2 (.slice ao' (rl.length + 1) cap') (rl.length + 1) (frefs rl ++ [vi xi, vu xg]) * (domB d p * (tblP p ps' free' * refD q b cap vG ps' free' F)))))) by simp only [List.set_cons_succ, List.set_cons_zero]; ac_rfl)).dropL.dropL.dropL
  · go_wp2_with fail
    clear e0 e1 e2 e3 e4 e5 e6
    generalize (World.setCell (World.setCell w5 ⟨W1.heap.size, 0, none⟩ (vi xi)) ⟨W1.heap.size, 1, none⟩ (vu xg)) = V6 at *
    generalize W1.heap.size = b6 at *
    have c0 := HW.out.dropL.pull3.cell 0 rfl
    have c1 := HW.out.dropL.pull3.cell 1 rfl
    have c2 := HW.out.pull2.cell 0 rfl
    have c3 := HW.out.pull2.cell 1 rfl
    have c4 := HW.out.pull3.cell 4 rfl
    have c5 := HW.out.pull3.cell 5 rfl
    have c6 := HW.out.pull3.cell 6 rfl
    have t0 := HW.out.cell 0 rfl
    have t1 := HW.out.cell 1 rfl
    have hA2 := (HW.out.alloc (.cells #[vi 0, vu 0] 32)).drew
    have hA2 : Sat w0 (pc V6.heap.size 32 [vi 0, vu 0] * (pc b6 32 [vi xi, vu xg] * (pc bR 32 [vi i, vu gg] * (pc bA 63 [vi 1, vi ri, vu rg, vi at_, vi gs, vu m, vu per] * (pc g 66 [vp d, vp q, (.slice (some ⟨gr, 0, none⟩) rl.length rcap)] * (sl 32 2 (.slice (some ⟨gr, 0, none⟩) rl.length rcap) rl.length (frefs rl) * (domB d p * (tblP p ps' free' * refD q b cap vF ps free F)))))))) _ := hA2
    have HD1 := Lib.hid (HR.out _ _ (hA2.cast (show _ = refD q b cap vF ps free (pc V6.heap.size 32 [vi 0, vu 0] * (pc b6 32 [vi xi, vu xg] * (pc bR 32 [vi i, vu gg] * (pc bA 63 [vi 1, vi ri, vu rg, vi at_, vi gs, vu m, vu per] * (pc g 66 [vp d, vp q, (.slice (some ⟨gr, 0, none⟩) rl.length rcap)] * (sl 32 2 (.slice (some ⟨gr, 0, none⟩) rl.length rcap) rl.length (frefs rl) * (domB d p * (tblP p ps' free' * F)))))))) by unfold refD; ac_rfl)))
    have HD2 := Lib.hid (HR.out _ _ (HW.out.drew.cast (show _ = refD q b cap vF ps free (pc b6 32 [vi xi, vu xg] * (pc bR 32 [vi i, vu gg] * (pc bA 63 [vi 1, vi ri, vu rg, vi at_, vi gs, vu m, vu per] * (pc g 66 [vp d, vp q, (.slice (some ⟨gr, 0, none⟩) rl.length rcap)] * (sl 32 2 (.slice (some ⟨gr, 0, none⟩) rl.length rcap) rl.length (frefs rl) * (domB d p * (tblP p ps' free' * F))))))) by unfold refD; ac_rfl)))
    clear hA2
    go_region_held3 (fun w' => w'.cell? ⟨g, 0, none⟩ = some (vp d) ∧ w'.cell? ⟨g, 1, none⟩ = some (vp q) ∧ w'.cell? ⟨bR, 0, none⟩ = some (vi i) ∧ w'.cell? ⟨bR, 1, none⟩ = some (vu gg) ∧ w'.cell? ⟨bA, 4, none⟩ = some (vi gs) ∧ w'.cell? ⟨bA, 5, none⟩ = some (vu m) ∧ w'.cell? ⟨bA, 6, none⟩ = some (vu per) ∧ w'.cell? ⟨b6, 0, none⟩ = some (vi xi) ∧ w'.cell? ⟨b6, 1, none⟩ = some (vu xg))
      (first | exact ⟨c0, c1, c2, c3, c4, c5, c6, t0, t1⟩ | exact ⟨f0, f1, f2, f3, f4, f5, f6, u0, u1⟩ | exact ⟨k0, k1, k2, k3, k4, k5, k6, s0, s1⟩ | go_keep)
      (first
        | (go_at_call 33; (with_reducible refine HD1.out.mono ?_); rintro e w7 ⟨vG, rfl, hS7⟩; have hV : Sat w0 (pc V6.heap.size 32 [vi 0, vu 0] * (pc b6 32 [vi xi, vu xg] * (pc bR 32 [vi i, vu gg] * (pc bA 63 [vi 1, vi ri, vu rg, vi at_, vi gs, vu m, vu per] * (pc g 66 [vp d, vp q, (.slice (some ⟨gr, 0, none⟩) rl.length rcap)] * (sl 32 2 (.slice (some ⟨gr, 0, none⟩) rl.length rcap) rl.length (frefs rl) * (domB d p * (tblP p ps' free' * refD q b cap vG ps' free' F)))))))) w7 := hS7.cast (by unfold refD; ac_rfl); have f0 := hV.dropL.dropL.pull3.cell 0 rfl; have f1 := hV.dropL.dropL.pull3.cell 1 rfl; have f2 := hV.dropL.dropL.cell 0 rfl; have f3 := hV.dropL.dropL.cell 1 rfl; have f4 := hV.dropL.dropL.pull2.cell 4 rfl; have f5 := hV.dropL.dropL.pull2.cell 5 rfl; have f6 := hV.dropL.dropL.pull2.cell 6 rfl; have u0 := hV.pull2.cell 0 rfl; have u1 := hV.pull2.cell 1 rfl; have p0 := hV.cell 0 rfl; have p1 := hV.cell 1 rfl; have pf0 := hV.free 0; have pf1 := hV.free 1; have hW2 := (hV.store 0 (vi xi)).store 1 (vu xg); have k0 := hW2.dropL.dropL.pull3.cell 0 rfl; have k1 := hW2.dropL.dropL.pull3.cell 1 rfl; have k2 := hW2.dropL.dropL.cell 0 rfl; have k3 := hW2.dropL.dropL.cell 1 rfl; have k4 := hW2.dropL.dropL.pull2.cell 4 rfl; have k5 := hW2.dropL.dropL.pull2.cell 5 rfl; have k6 := hW2.dropL.dropL.pull2.cell 6 rfl; have s0 := hW2.pull2.cell 0 rfl; have s1 := hW2.pull2.cell 1 rfl; have q0 := hW2.cell 0 rfl; have q1 := hW2.cell 1 rfl; have HZ : Hid (Sat w0 (pc V6.heap.size 32 [vi xi, vu xg] * (pc b6 32 [vi xi, vu xg] * (pc bR 32 [vi i, vu gg] * (pc bA 63 [vi 1, vi ri, vu rg, vi at_, vi gs, vu m, vu per] * (pc g 66 [vp d, vp q, (.slice (some ⟨gr, 0, none⟩) rl.length rcap)] * (sl 32 2 (.slice (some ⟨gr, 0, none⟩) rl.length rcap) rl.length (frefs rl) * (domB d p * (tblP p ps' free' * refD q b cap vG ps' free' F)))))))) (World.setCell (World.setCell w7 ⟨V6.heap.size, 0, none⟩ (vi xi)) ⟨V6.heap.size, 1, none⟩ (vu xg))) := Lib.hid hW2; clear hS7 hV hW2)
        | (go_at_call 33; (with_reducible refine HD2.out.mono ?_); rintro e w7 ⟨vG, rfl, hS7⟩; have hV : Sat w0 (pc b6 32 [vi xi, vu xg] * (pc bR 32 [vi i, vu gg] * (pc bA 63 [vi 1, vi ri, vu rg, vi at_, vi gs, vu m, vu per] * (pc g 66 [vp d, vp q, (.slice (some ⟨gr, 0, none⟩) rl.length rcap)] * (sl 32 2 (.slice (some ⟨gr, 0, none⟩) rl.length rcap) rl.length (frefs rl) * (domB d p * (tblP p ps' free' * refD q b cap vG ps' free' F))))))) w7 := hS7.cast (by unfold refD; ac_rfl); have f0 := hV.dropL.pull3.cell 0 rfl; have f1 := hV.dropL.pull3.cell 1 rfl; have f2 := hV.dropL.cell 0 rfl; have f3 := hV.dropL.cell 1 rfl; have f4 := hV.dropL.pull2.cell 4 rfl; have f5 := hV.dropL.pull2.cell 5 rfl; have f6 := hV.dropL.pull2.cell 6 rfl; have u0 := hV.cell 0 rfl; have u1 := hV.cell 1 rfl; have hW2 := hV.alloc (.cells #[vi xi, vu xg] 32); have hW2 : Sat w0 (pc w7.heap.size 32 [vi xi, vu xg] * (pc b6 32 [vi xi, vu xg] * (pc bR 32 [vi i, vu gg] * (pc bA 63 [vi 1, vi ri, vu rg, vi at_, vi gs, vu m, vu per] * (pc g 66 [vp d, vp q, (.slice (some ⟨gr, 0, none⟩) rl.length rcap)] * (sl 32 2 (.slice (some ⟨gr, 0, none⟩) rl.length rcap) rl.length (frefs rl) * (domB d p * (tblP p ps' free' * refD q b cap vG ps' free' F)))))))) _ := hW2; have k0 := hW2.dropL.dropL.pull3.cell 0 rfl; have k1 := hW2.dropL.dropL.pull3.cell 1 rfl; have k2 := hW2.dropL.dropL.cell 0 rfl; have k3 := hW2.dropL.dropL.cell 1 rfl; have k4 := hW2.dropL.dropL.pull2.cell 4 rfl; have k5 := hW2.dropL.dropL.pull2.cell 5 rfl; have k6 := hW2.dropL.dropL.pull2.cell 6 rfl; have s0 := hW2.pull2.cell 0 rfl; have s1 := hW2.pull2.cell 1 rfl; have q0 := hW2.cell 0 rfl; have q1 := hW2.cell 1 rfl; have HZ := Lib.hid hW2; clear hS7 hV hW2))
    · rcases HInfo.out with ⟨hcode, hps, hfr⟩ | ⟨hcode, kk, mm, a, am, i1, i2, i3, i4, i5, i6, i7, i8⟩
      · have hcb : (code == 0) = false := beq_eq_false_iff_ne.2 hcode
        clear hcode
        go_wp2
        go_ret
        exact ⟨ps', free', rl, vG, _, rfl, HRel.out, (HZ.out.dropL.dropL.dropL.dropL.cast (by unfold gameC; ac_rfl)), .inl ⟨rfl, hps, hfr⟩⟩
      · subst hcode
        have HI := Lib.hid (show ∃ (k m : Nat) (a am : Pl) (gs cpu per : Int), ps[k]? = some a ∧ a.there = true ∧ ps[m]? = some am ∧ am.there = false ∧ rl ++ [(xi, xg)] = rl ++ [((m : Int), am.gen)] ∧ free = free' ++ [m] ∧ ps' = carP ps k m a am gs cpu per from ⟨kk, mm, a, am, gs, m, per, i1, i2, i3, i4, by rw [i5, i6], i7, i8⟩)
        clear i1 i2 i3 i4 i5 i6 i7 i8
        go_wp2_with fail
        generalize (World.alloc w7 (.cells #[vi xi, vu xg] 32)) = V8 at *
        generalize w7.heap.size = b8 at *
        have hz := HZ.out.dropL.cast (show _ = pc g 66 [vp d, vp q, (.slice (some ⟨gr, 0, none⟩) rl.length rcap)] * (sl 32 2 (.slice (some ⟨gr, 0, none⟩) rl.length rcap) rl.length (frefs rl) * (pc b6 32 [vi xi, vu xg] * (pc bR 32 [vi i, vu gg] * (pc bA 63 [vi 1, vi ri, vu rg, vi at_, vi gs, vu m, vu per] * (domB d p * (tblP p ps' free' * refD q b cap vG ps' free' F)))))) by ac_rfl)
        have z0 := hz.cell 2 rfl
        have z1 := hz.pull3.cell 0 rfl
        have z2 := hz.pull3.cell 1 rfl
        have n0 := World.new_ne V8 _ z0
        have n1 := World.new_ne V8 _ z1
        have l0 := hz.lt
        have l1 := hz.pull3.lt
        have HZ2 := Lib.hid hz
        clear hz
        go_region_law
          ((refine step_append_sl Eref (by rfl) _ _ (by rfl) (by rfl) ((HZ2.out.pull2.alloc' _).drew) (by rfl) (rdTwo _ _ (vi xi) (vu xg) rfl) (by simp [Value.oneCell']) (by unfold maxLen; omega) (by omega) ?_; intro ao' cap' w9 hS9; have hP9 := hS9.pull2; have hF9 := hP9.free 2; have hC9 := hP9.cell 2 rfl))
        all_goals go_wp2
        all_goals go_ret
        all_goals
          have h9 := hP9.store 2 (.slice ao' (rl.length + 1) cap')
          refine ⟨ps', free', rl ++ [(xi, xg)], vG, .slice ao' (rl.length + 1) cap', rfl, HRel.out, ?_, .inr HI.out⟩
          unfold gameC
          rw [frefs_snoc, List.length_append, List.length_singleton]
          exact (h9.cast (show _ = pc b6 32 [vi xi, vu xg] * (pc bR 32 [vi i, vu gg] * (pc bA 63 [vi 1, vi ri, vu rg, vi at_, vi gs, vu m, vu per] * (pc g 66 [vp d, vp q, .slice ao' (rl.length + 1) cap'] * (sl 32 2 (.slice ao' (rl.length + 1) cap') (rl.length + 1) (frefs rl ++ [vi xi, vu xg]) * (domB d p * (tblP p ps' free' * refD q b cap vG ps' free' F)))))) by simp only [List.set_cons_succ, List.set_cons_zero]; ac_rfl)).dropL.dropL.dropL
    · rcases HInfo.out with ⟨hcode, hps, hfr⟩ | ⟨hcode, kk, mm, a, am, i1, i2, i3, i4, i5, i6, i7, i8⟩
      · have hcb : (code == 0) = false := beq_eq_false_iff_ne.2 hcode
        clear hcode
        go_wp2
        go_ret
        exact ⟨ps', free', rl, vG, _, rfl, HRel.out, (HZ.out.dropL.dropL.dropL.dropL.cast (by unfold gameC; ac_rfl)), .inl ⟨rfl, hps, hfr⟩⟩
      · subst hcode
        have HI := Lib.hid (show ∃ (k m : Nat) (a am : Pl) (gs cpu per : Int), ps[k]? = some a ∧ a.there = true ∧ ps[m]? = some am ∧ am.there = false ∧ rl ++ [(xi, xg)] = rl ++ [((m : Int), am.gen)] ∧ free = free' ++ [m] ∧ ps' = carP ps k m a am gs cpu per from ⟨kk, mm, a, am, gs, m, per, i1, i2, i3, i4, by rw [i5, i6], i7, i8⟩)
        clear i1 i2 i3 i4 i5 i6 i7 i8
        go_wp2_with fail
        generalize (World.setCell (World.setCell w7 ⟨V6.heap.size, 0, none⟩ (vi xi)) ⟨V6.heap.size, 1, none⟩ (vu xg)) = V8 at *
        generalize V6.heap.size = b8 at *
        have hz := HZ.out.dropL.cast (show _ = pc g 66 [vp d, vp q, (.slice (some ⟨gr, 0, none⟩) rl.length rcap)] * (sl 32 2 (.slice (some ⟨gr, 0, none⟩) rl.length rcap) rl.length (frefs rl) * (pc b6 32 [vi xi, vu xg] * (pc bR 32 [vi i, vu gg] * (pc bA 63 [vi 1, vi ri, vu rg, vi at_, vi gs, vu m, vu per] * (domB d p * (tblP p ps' free' * refD q b cap vG ps' free' F)))))) by ac_rfl)
        have z0 := hz.cell 2 rfl
        have z1 := hz.pull3.cell 0 rfl
        have z2 := hz.pull3.cell 1 rfl
        have n0 := World.new_ne V8 _ z0
        have n1 := World.new_ne V8 _ z1
        have l0 := hz.lt
        have l1 := hz.pull3.lt
        have HZ2 := Lib.hid hz
        clear hz
        go_region_law
          ((refine step_append_sl Eref (by rfl) _ _ (by rfl) (by rfl) ((HZ2.out.pull2.alloc' _).drew) (by rfl) (rdTwo _ _ (vi xi) (vu xg) rfl) (by simp [Value.oneCell']) (by unfold maxLen; omega) (by omega) ?_; intro ao' cap' w9 hS9; have hP9 := hS9.pull2; have hF9 := hP9.free 2; have hC9 := hP9.cell 2 rfl))
        all_goals go_wp2
        all_goals go_ret
        all_goals
          have h9 := hP9.store 2 (.slice ao' (rl.length + 1) cap')
          refine ⟨ps', free', rl ++ [(xi, xg)], vG, .slice ao' (rl.length + 1) cap', rfl, HRel.out, ?_, .inr HI.out⟩
          unfold gameC
          rw [frefs_snoc, List.length_append, List.length_singleton]
          exact (h9.cast (show _ = pc b6 32 [vi xi, vu xg] * (pc bR 32 [vi i, vu gg] * (pc bA 63 [vi 1, vi ri, vu rg, vi at_, vi gs, vu m, vu per] * (pc g 66 [vp d, vp q, .slice ao' (rl.length + 1) cap'] * (sl 32 2 (.slice ao' (rl.length + 1) cap') (rl.length + 1) (frefs rl ++ [vi xi, vu xg]) * (domB d p * (tblP p ps' free' * refD q b cap vG ps' free' F)))))) by simp only [List.set_cons_succ, List.set_cons_zero]; ac_rfl)).dropL.dropL.dropL
end
end Go.Proofs.Ytfioghpnehfjhaa.Dm
