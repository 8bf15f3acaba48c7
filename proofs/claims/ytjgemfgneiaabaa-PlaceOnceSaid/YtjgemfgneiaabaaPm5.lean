/-
  Package place: Shared, Own, Kick. No statement is proved here.
-/
import Derived.Test.YtjgemfgneiaabaaMg12
namespace Go.Proofs.Ytjgemfgneiaabaa.Pc
open Go.RowKit Rq Gq
set_option linter.unusedVariables false
set_option linter.unusedSimpArgs false

section
variable {w0 w : World} {F : Hp} {D : Ad} {p : Nat → Pl} {gx : List Int}
theorem pl_shared_no (h : Sat w0 (plB D p gx * F) w) (k : Int) (hk : inP D.n k = false) {v : Value} (ao : Option Addr) (ln cap : Nat): Calls Try.prog 14 #[vp D.s, vi k, .slice ao ln cap] w fun e w' => e = .returned (.tuple #[vi 0, .bool false]) ∧ w = w' := by
  have HI := Lib.hid (pl_is h k)
  rw [hk] at HI
  clear h hk
  go_enter Try.func14, Try.ntmps14
  go_wp2_with (go_at_call 22; refine HI.out.mono ?_; rintro e w' ⟨rfl, rfl⟩)
  go_ret2
  exact ⟨rfl, rfl⟩
theorem pl_shared_at (h : Sat w0 (plB D p gx * F) w) (k : Nat) (hk : k < D.n) (hl : gx.length ≤ 1000000) {v : Value} {af : List Nat} (hA : ∀ w', Sat w0 F w' → RdA w' v af) :
    Calls Try.prog 14 #[vp D.s, vi k, v] w fun e w' => e = .returned (.tuple #[vi ((gx.find? (mayG af k)).getD 0), .bool (gx.find? (mayG af k)).isSome]) ∧ Sat w0 (plB D p (gx.eraseP (mayG af k)) * F) w' := by
  have c2 := (pl_cells h).2.2
  have HI := Lib.hid (pl_is h (k : Int))
  rw [inP_nat hk] at HI
  have HG := Lib.hid (g_take (pl_glob h) hl (k : Int) (fun w' h' => hA w' h'.dropL.dropL.dropL))
  obtain ⟨ao, cap, rfl⟩ := (hA w h.dropL).1.len
  clear h hk hA
  generalize (gx.find? (mayG af k)).getD 0 = r at *
  generalize (gx.find? (mayG af k)).isSome = rs at *
  generalize gx.eraseP (mayG af k) = gy at *
  go_enter Try.func14, Try.ntmps14
  go_wp2_with (first
    | (go_at_call 22; refine HI.out.mono ?_; rintro e w' ⟨rfl, rfl⟩)
    | (go_at_call 34; refine HG.out.mono ?_; rintro e w1 ⟨rfl, hS⟩; have H1 := Lib.hid (pl_globI hS); clear hS))
  go_ret2
  exact ⟨rfl, H1.out⟩
theorem pl_own_no (h : Sat w0 (plB D p gx * F) w) (k : Int) (hk : inP D.n k = false) : Calls Try.prog 13 #[vp D.s, vi k] w fun e w' => e = .returned (.tuple #[vi 0, .bool false, .bool false]) ∧ w = w' := by
  have HI := Lib.hid (pl_is h k)
  rw [hk] at HI
  clear h hk
  go_enter Try.func13, Try.ntmps13
  go_wp2_with (go_at_call 22; refine HI.out.mono ?_; rintro e w' ⟨rfl, rfl⟩)
  go_ret3
  exact ⟨rfl, rfl⟩
set_option maxRecDepth 100000 in
set_option maxHeartbeats 4000000 in
theorem pl_own_at (h : Sat w0 (plB D p gx * F) w) (ho : D.Ok) (k : Nat) (hk : k < D.n) (hl : gx.length ≤ 999000) :
    Calls Try.prog 13 #[vp D.s, vi k] w fun e w' => e = .returned (.tuple #[vi ((takeG D.m (p k)).headD 0), .bool ((p k).b && decide (0 < (p k).left)), .bool !(takeG D.m (p k)).isEmpty]) ∧ Sat w0 (plB D (up p k (takeY D.m (p k))) (gx ++ takeS D.m (p k)) * F) w' := by
  obtain ⟨c1, r0, r1, r2, r3, r4⟩ : w.cell? ⟨D.s, 0, none⟩ = some D.v ∧ _ := ⟨(pl_cells h).1, pl_row h hk⟩
  have hki : (k : Int) < (D.n : Int) := by omega
  have HI := Lib.hid (pl_is h (k : Int))
  rw [inP_nat hk] at HI
  obtain ⟨t, ht⟩ : ∃ t, decide (0 < (p k).left) = t := ⟨_, rfl⟩
  have hsl : (takeS D.m (p k)).length ≤ 100 := by
    unfold takeS
    have := tkS_len (m := D.m) (xs := (p k).xs) (z := (p k).z) (b := (p k).b) (decide (0 < (p k).left))
    have h1 := (pl_ring h hk).1
    have h2 := ho.m32
    omega
  have HT := Lib.hid (q_take' (pl_out h hk).drew (decide (0 < (p k).left)))
  have HB : Hid (∀ (w1 : World) (v : Value), Sat w0 (sl 3 1 v (takeS D.m (p k)).length ((takeS D.m (p k)).map vi) * (quB (D.q k) (D.r k) (p k).z false * (ringP (D.r k) D.m (takeY D.m (p k)).xs * (plX D p gx k * F)))) w1 → Calls Try.prog 9 #[vp D.s, v] w1 fun e w' => e = .returned (.tuple #[]) ∧ Sat w0 (plB D (up p k (takeY D.m (p k))) (gx ++ takeS D.m (p k)) * F) w') := Lib.hid fun w1 v hS => by
    have h1 := pl_in (y := takeY D.m (p k)) (F := sl 3 1 v (takeS D.m (p k)).length ((takeS D.m (p k)).map vi) * F) (hS.cast (show _ = quB (D.q k) (D.r k) (takeY D.m (p k)).z (takeY D.m (p k)).b * (ringP (D.r k) D.m (takeY D.m (p k)).xs * (plX D p gx k * (sl 3 1 v (takeS D.m (p k)).length ((takeS D.m (p k)).map vi) * F))) by show _ = quB (D.q k) (D.r k) (p k).z false * _; ac_rfl)) hk rfl rfl rfl rfl
    exact (pl_back h1 ho (ys := takeS D.m (p k)) (fun w' h' => h'.rd) (by omega)).mono fun e w' hh => ⟨hh.1, hh.2.drop2⟩
  have HT : Hid (Calls Try.prog 33 #[vp (D.q k), .bool (decide (0 < (p k).left))] w.drew fun e w' => ∃ v, e = .returned (.tuple #[vi ((takeG D.m (p k)).headD 0), .bool ((p k).b && decide (0 < (p k).left)), v, .bool !(takeG D.m (p k)).isEmpty]) ∧
      Sat w0 (sl 3 1 v (takeS D.m (p k)).length ((takeS D.m (p k)).map vi) * (quB (D.q k) (D.r k) (p k).z false * (ringP (D.r k) D.m (takeY D.m (p k)).xs * (plX D p gx k * F)))) w') := HT
  rw [ht] at HT ⊢
  generalize (takeG D.m (p k)).headD 0 = r at *
  generalize (takeG D.m (p k)).isEmpty = rs at *
  generalize ((p k).b && t) = rb at *
  unfold Ad.v at c1
  have HK := Lib.hid hk
  obtain ⟨lf, hlf⟩ : ∃ lf, (p k).left = lf := ⟨_, rfl⟩
  rw [hlf] at r3 ht
  have HLF := Lib.hid hlf
  clear h hk hsl hl r1 r2 r4 hlf
  go_enter Try.func13, Try.ntmps13
  go_wp2_with (go_at_call 22; refine HI.out.mono ?_; rintro e w' ⟨rfl, rfl⟩)
  go_region_held3 (fun w' => w'.cell? ⟨D.s, 0, none⟩ = some (.slice (some ⟨D.sb, 0, none⟩) D.n D.cap) ∧ w'.cell? ⟨D.sb, k * 5, none⟩ = some (vp (D.q k)) ∧ w'.cell? ⟨D.sb, k * 5 + 3, none⟩ = some (vi lf)) (first | exact ⟨c1, r0, r3⟩ | exact ⟨g0, g1, g2⟩)
    ((go_at_call 33; refine HT.out.mono ?_; rintro e w1 ⟨v, rfl, hS⟩; have hx := plX_cells hS.dropL.dropL.dropL HK.out; have g0 := hx.1; have g1 := hx.2.2.1; have g2 := HLF.out ▸ hx.2.2.2; have H1 := Lib.hid hS; clear hS hx))
  all_goals go_wp2_with (go_at_call 9; refine (HB.out _ _ H1.out).mono ?_; rintro e w2 ⟨rfl, hS2⟩; have H2 := Lib.hid hS2; clear hS2)
  all_goals go_ret3
  all_goals exact ⟨rfl, H2.out⟩
theorem pl_kick_no (h : Sat w0 (plB D p gx * F) w) (k : Int) (hk : inP D.n k = false) : Calls Try.prog 16 #[vp D.s, vi k] w fun e w' => e = .returned (.tuple #[]) ∧ w = w' := by
  have HI := Lib.hid (pl_is h k)
  rw [hk] at HI
  clear h hk
  go_enter Try.func16, Try.ntmps16
  go_wp2_with (go_at_call 22; refine HI.out.mono ?_; rintro e w' ⟨rfl, rfl⟩)
  refine bodyPost_ret (results_none rfl _ _ _) rfl ?_
  exact ⟨rfl, rfl⟩
theorem pl_kick_nil (h : Sat w0 (plB D p gx * F) w) (k : Nat) (hk : k < D.n) (hb : (p k).b = false) : Calls Try.prog 16 #[vp D.s, vi k] w fun e w' => e = .returned (.tuple #[]) ∧ w = w' := by
  obtain ⟨c1, r0, r1, r2, r3, r4⟩ : w.cell? ⟨D.s, 0, none⟩ = some D.v ∧ _ := ⟨(pl_cells h).1, pl_row h hk⟩
  have hki : (k : Int) < (D.n : Int) := by omega
  have HI := Lib.hid (pl_is h (k : Int))
  rw [inP_nat hk] at HI
  have ho1 := pl_out h hk
  rw [hb] at ho1
  have HN := Lib.hid (q_next ho1)
  unfold Ad.v at c1
  clear h hk hb ho1
  go_enter Try.func16, Try.ntmps16
  go_wp2_with (first | (go_at_call 22; refine HI.out.mono ?_; rintro e w' ⟨rfl, rfl⟩) | (go_at_call 36; refine HN.out.mono ?_; rintro e w' ⟨rfl, rfl⟩))
  go_end0
  exact ⟨rfl, rfl⟩
set_option maxRecDepth 100000 in
set_option maxHeartbeats 4000000 in
theorem pl_kick_at (h : Sat w0 (plB D p gx * F) w) (ho : D.Ok) (k : Nat) (hk : k < D.n) (hb : (p k).b = true) (hl : gx.length ≤ 999000) :
    Calls Try.prog 16 #[vp D.s, vi k] w fun e w' => e = .returned (.tuple #[]) ∧ Sat w0 (plB D (up p k (putY D.m (dropY (p k)) (p k).z)) (gx ++ spillL D.m (p k).xs (p k).z) * F) w' := by
  obtain ⟨c1, r0, r1, r2, r3, r4⟩ : w.cell? ⟨D.s, 0, none⟩ = some D.v ∧ _ := ⟨(pl_cells h).1, pl_row h hk⟩
  have hki : (k : Int) < (D.n : Int) := by omega
  have HI := Lib.hid (pl_is h (k : Int))
  rw [inP_nat hk] at HI
  have ho1 := pl_out h hk
  rw [hb] at ho1
  have HN := Lib.hid (q_next ho1)
  have HR := Lib.hid (q_remove_next ho1)
  have HPU : Hid (∀ w1, Sat w0 (quB (D.q k) (D.r k) (p k).z false * (ringP (D.r k) D.m (p k).xs * (plX D p gx k * F))) w1 → Calls Try.prog 28 #[vp (D.q k), vi (p k).z] w1 fun e w' => ∃ v, e = .returned v ∧ Sat w0 (sl 3 1 v (spillL D.m (p k).xs (p k).z).length ((spillL D.m (p k).xs (p k).z).map vi) * (quB (D.q k) (D.r k) (p k).z false * (ringP (D.r k) D.m (putL D.m (p k).xs (p k).z) * (plX D p gx k * F)))) w') := Lib.hid fun w1 h1 => q_put h1 (p k).z
  have hsl : (spillL D.m (p k).xs (p k).z).length ≤ 100 := by
    have := spill_len (m := D.m) (xs := (p k).xs) (p k).z
    have h2 := ho.m32
    omega
  have HB : Hid (∀ (w1 : World) (v : Value), Sat w0 (sl 3 1 v (spillL D.m (p k).xs (p k).z).length ((spillL D.m (p k).xs (p k).z).map vi) * (quB (D.q k) (D.r k) (p k).z false * (ringP (D.r k) D.m (putL D.m (p k).xs (p k).z) * (plX D p gx k * F)))) w1 → Calls Try.prog 9 #[vp D.s, v] w1 fun e w' => e = .returned (.tuple #[]) ∧ Sat w0 (plB D (up p k (putY D.m (dropY (p k)) (p k).z)) (gx ++ spillL D.m (p k).xs (p k).z) * F) w') := Lib.hid fun w1 v hS => by
    have h1 := pl_in (y := putY D.m (dropY (p k)) (p k).z) (F := sl 3 1 v (spillL D.m (p k).xs (p k).z).length ((spillL D.m (p k).xs (p k).z).map vi) * F) (hS.cast (show _ = quB (D.q k) (D.r k) (p k).z false * (ringP (D.r k) D.m (putL D.m (p k).xs (p k).z) * (plX D p gx k * (sl 3 1 v (spillL D.m (p k).xs (p k).z).length ((spillL D.m (p k).xs (p k).z).map vi) * F))) by ac_rfl)) hk rfl rfl rfl rfl
    exact (pl_back h1 ho (ys := spillL D.m (p k).xs (p k).z) (fun w' h' => h'.rd) (by omega)).mono fun e w' hh => ⟨hh.1, hh.2.drop2⟩
  have HK := Lib.hid hk
  unfold Ad.v at c1
  clear h hk hb ho1 hsl hl r1 r2 r3 r4
  generalize (p k).z = z at *
  generalize (p k).xs = xs at *
  go_enter Try.func16, Try.ntmps16
  go_wp2_with (first
    | (go_at_call 22; refine HI.out.mono ?_; rintro e w' ⟨rfl, rfl⟩)
    | (go_at_call 36; refine HN.out.mono ?_; rintro e w' ⟨rfl, rfl⟩)
    | (go_at_call 30; refine HR.out.mono ?_; rintro e w1 ⟨rfl, hS⟩; have hx := plX_cells hS.dropL.dropL HK.out; have g0 := hx.1; have g1 := hx.2.2.1; have H1 := Lib.hid hS; clear hS hx)
    | (go_at_call 28; refine (HPU.out _ H1.out).mono ?_; rintro e w2 ⟨v, rfl, hS2⟩; have H2 := Lib.hid hS2; clear hS2)
    | (go_at_call 9; refine (HB.out _ _ H2.out).mono ?_; rintro e w3 ⟨rfl, hS3⟩; have H3 := Lib.hid hS3; clear hS3))
  go_end0
  exact ⟨rfl, H3.out⟩
end
end Go.Proofs.Ytjgemfgneiaabaa.Pc
