/-
  Package global: Take, Remove. No statement is proved here.
-/
import Derived.Test.YtjgemfgneiaabaaGreatGq6
import Derived.Test.YtjgemfgneiaabaaGreatMg12
namespace Go.Proofs.YtjgemfgneiaabaaGreat.Gq
open Go.RowKit Rq Gq
set_option linter.unusedVariables false

section
variable {w0 w : World} {F : Hp} {q : Nat} {xs : List Int}
theorem rm_clo {ba : Nat} {x g : Int} {w : World} (ha : w.cell? ⟨ba, 0, none⟩ = some (vi x)) :
    Calls Tryz.prog 105 #[vi g, vp ba] w fun e w' => e = .returned (.bool (g == x)) ∧ ∃ n, w' = w.drewN n := by
  go_enter Tryz.func105, Tryz.ntmps105
  go_wp2
  go_ret
  exact ⟨rfl, 0, rfl⟩
set_option maxRecDepth 100000 in
set_option maxHeartbeats 2000000 in
theorem g_take (h : Sat w0 (gQ q xs * F) w) (hl : xs.length ≤ 1000000) (p : Int) {v : Value} {af : List Nat} (hA : ∀ w', Sat w0 F w' → RdA w' v af) :
    Calls Tryz.prog 87 #[vp q, vi p, v] w fun e w' => e = .returned (.tuple #[vi ((xs.find? (mayG af p)).getD 0), .bool (xs.find? (mayG af p)).isSome]) ∧ Sat w0 (gQ q (xs.eraseP (mayG af p)) * F) w' := by
  obtain ⟨ao, cap, rfl⟩ := (hA w h.dropL).1.len
  have HM := Lib.hid (g_may h p (v := .slice ao af.length cap) rfl)
  have HA := Lib.hid hA
  clear h hA
  have HT : Hid (∀ (ba bp : Nat) (w1 : World), Sat w0 (pc ba 32 [.slice ao af.length cap] * (pc bp 3 [vi p] * (gQ q xs * F))) w1 → Calls Tryz.prog 104 #[vp q, .func (.func 115) #[] #[vp ba, vp bp]] w1 fun e w' => e = .returned (.tuple #[vi ((xs.find? (mayG af p)).getD 0), .bool (xs.find? (mayG af p)).isSome]) ∧ Sat w0 (gQ q (xs.eraseP (mayG af p)) * F) w') := Lib.hid fun ba bp w1 hS => by
    refine (g_cut_may (f := mayG af p) (B := (pc ba 32 [.slice ao af.length cap] * pc bp 3 [vi p]) * F) (F := emp) (hS.cast (by rw [sep_emp]; ac_rfl)) hl (fun g W G hG => ?_)).mono fun e w' hh => ⟨hh.1, (hh.2.cast (show _ = (pc ba 32 [.slice ao af.length cap] * (pc bp 3 [vi p] * (gQ q (xs.eraseP (mayG af p)) * F))) by rw [sep_emp]; ac_rfl)).dropL.dropL⟩
    have hG2 : Sat w0 (pc ba 32 [.slice ao af.length cap] * (pc bp 3 [vi p] * (F * G))) W := hG.cast (by ac_rfl)
    exact gclo_ (hG2.cell 0 rfl) (hG2.pull2.cell 0 rfl) (HA.out W (hG2.dropL.dropL.dropR))
  go_enter Tryz.func87, Tryz.ntmps87
  go_wp2_with (first
    | (go_at_call 108; refine HM.out.mono ?_; rintro e w1 ⟨ba, bp, rfl, hS⟩; have H1 := Lib.hid hS; clear hS)
    | (go_at_call 104; refine (HT.out _ _ _ H1.out).mono ?_; rintro e w2 ⟨rfl, hS2⟩; have H2 := Lib.hid hS2; clear hS2))
  go_ret2
  exact ⟨rfl, H2.out⟩
set_option maxRecDepth 100000 in
set_option maxHeartbeats 2000000 in
theorem g_remove (h : Sat w0 (gQ q xs * F) w) (hl : xs.length ≤ 1000000) (x : Int) :
    Calls Tryz.prog 82 #[vp q, vi x] w fun e w' => e = .returned (.bool (decide (x ∈ xs))) ∧ Sat w0 (gQ q (xs.erase x) * F) w' := by
  have hB : Sat w0 (pc w.heap.size 3 [vi x] * (gQ q xs * F)) (w.alloc (.cells #[vi x] 3)) := h.alloc _
  have HT := Lib.hid ((g_cut_rm (f := fun g => g == x) (B := pc w.heap.size 3 [vi x]) (F := F) (hB.cast (by ac_rfl)) hl (fun g W G hG => rm_clo (hG.cell 0 rfl))).mono fun e w' hh => (⟨hh.1, (hh.2.cast (show _ = pc w.heap.size 3 [vi x] * (gQ q (xs.eraseP (fun g => g == x)) * F) by ac_rfl)).dropL⟩ : e = .returned (.tuple #[vi ((xs.find? (fun g => g == x)).getD 0), .bool (xs.find? (fun g => g == x)).isSome]) ∧ Sat w0 (gQ q (xs.eraseP (fun g => g == x)) * F) w'))
  have he : xs.eraseP (fun g => g == x) = xs.erase x := by
    rw [List.erase_eq_eraseP']
  have hs : (xs.find? (fun g => g == x)).isSome = decide (x ∈ xs) := by
    rw [Bool.eq_iff_iff]
    simp [List.find?_isSome]
  rw [he] at HT
  rw [← hs]
  clear h hB he hs
  go_enter Tryz.func82, Tryz.ntmps82
  go_wp2_with (go_at_call 104; refine HT.out.mono ?_; rintro e w2 ⟨rfl, hS2⟩; have H2 := Lib.hid hS2; clear hS2)
  go_ret
  exact ⟨rfl, H2.out⟩
end
end Go.Proofs.YtjgemfgneiaabaaGreat.Gq

namespace Go.Proofs.YtjgemfgneiaabaaGreat.Pc
open Go.RowKit Rq Gq
set_option linter.unusedVariables false
set_option linter.unusedSimpArgs false

section
variable {w0 w : World} {F : Hp} {D : Ad} {p : Nat → Pl} {gx : List Int}
theorem max_dec (x : Int) (h : 0 ≤ x) : (if 0 < x then x - 1 else x) = max (x - 1) 0 := by
  rw [Int.max_def]
  split <;> split <;> omega
def spendV (x : Int) : Int := if 0 < x then x - 1 else x
theorem pl_spend_at (h : Sat w0 (plB D p gx * F) w) (k : Nat) (hk : k < D.n) (h0 : 0 ≤ (p k).left) (h9 : (p k).left ≤ 9223372036854775807) : Calls Tryz.prog 35 #[vp D.s, vi k] w fun e w' => e = .returned (vi (spendV (p k).left)) ∧ Sat w0 (plB D (up p k (leftY (p k) (spendV (p k).left))) gx * F) w' := by
  obtain ⟨c1, r0, r1, r2, r3, r4⟩ : w.cell? ⟨D.s, 0, none⟩ = some D.v ∧ _ := ⟨(pl_cells h).1, pl_row h hk⟩
  have hki : (k : Int) < (D.n : Int) := by omega
  have HI := Lib.hid (pl_is h (k : Int))
  rw [inP_nat hk] at HI
  have f3 := pl_free h (k * 5 + 3)
  have hst := pl_store (y := leftY (p k) (spendV (p k).left)) (j := 3) (u := vi (spendV (p k).left)) h hk (by omega) rfl rfl rfl rfl
  have c1' := (pl_cells hst).1
  have r3' := (pl_row hst hk).2.2.2.1
  rw [up_at] at r3'
  have r3' : World.cell? _ ⟨D.sb, k * 5 + 3, none⟩ = some (vi (spendV (p k).left)) := r3'
  have hw : IntKind.i64.wrap ((p k).left - 1) = (p k).left - 1 := IntWalk.i64_in _ (by omega)
  have hsv : spendV (p k).left = max ((p k).left - 1) 0 := max_dec _ h0
  have hmx : (if (p k).left - 1 < 0 then 0 else (p k).left - 1) = spendV (p k).left := by
    unfold spendV
    split <;> split <;> omega
  have hmx2 : (if (p k).left - 1 ≤ 0 then 0 else (p k).left - 1) = spendV (p k).left := by
    unfold spendV
    split <;> split <;> omega
  have HST := Lib.hid hst
  clear h hst hk r0 r1 r2 r4 h0 h9 hsv
  unfold Ad.v at c1 c1'
  generalize (p k).left = lf at *
  generalize spendV lf = sv at *
  go_enter Tryz.func35, Tryz.ntmps35
  go_wp2_with (go_at_call 45; refine HI.out.mono ?_; rintro e w' ⟨rfl, rfl⟩)
  refine wp_quiet_tail 17 (by kernel_rfl) (by kernel_rfl) ?_
  simp only [List.take_succ_cons, List.take_zero, List.drop_succ_cons, List.drop_zero]
  repeat (go_big_quiet_step (fail))
  refine wpQuiet_nil ?_
  go_wp2
  trace_state
  go_ret
  exact ⟨rfl, HST.out.drew⟩
end
end Go.Proofs.YtjgemfgneiaabaaGreat.Pc

namespace Go.Proofs.YtjgemfgneiaabaaGreat.Pc
open Go.RowKit Rq Gq
set_option linter.unusedVariables false
set_option linter.unusedSimpArgs false

section
variable {w0 w : World} {F : Hp} {D : Ad} {p : Nat → Pl} {gx : List Int}
theorem pl_shared_no (h : Sat w0 (plB D p gx * F) w) (k : Int) (hk : inP D.n k = false) {v : Value} (ao : Option Addr) (ln cap : Nat): Calls Tryz.prog 39 #[vp D.s, vi k, .slice ao ln cap] w fun e w' => e = .returned (.tuple #[vi 0, .bool false]) ∧ w = w' := by
  have HI := Lib.hid (pl_is h k)
  rw [hk] at HI
  clear h hk
  go_enter Tryz.func39, Tryz.ntmps39
  go_wp2_with (go_at_call 45; refine HI.out.mono ?_; rintro e w' ⟨rfl, rfl⟩)
  go_ret2
  exact ⟨rfl, rfl⟩
theorem pl_shared_at (h : Sat w0 (plB D p gx * F) w) (k : Nat) (hk : k < D.n) (hl : gx.length ≤ 1000000) {v : Value} {af : List Nat} (hA : ∀ w', Sat w0 F w' → RdA w' v af) :
    Calls Tryz.prog 39 #[vp D.s, vi k, v] w fun e w' => e = .returned (.tuple #[vi ((gx.find? (mayG af k)).getD 0), .bool (gx.find? (mayG af k)).isSome]) ∧ Sat w0 (plB D p (gx.eraseP (mayG af k)) * F) w' := by
  have c2 := (pl_cells h).2.2
  have HI := Lib.hid (pl_is h (k : Int))
  rw [inP_nat hk] at HI
  have HG := Lib.hid (g_take (pl_glob h) hl (k : Int) (fun w' h' => hA w' h'.dropL.dropL.dropL))
  obtain ⟨ao, cap, rfl⟩ := (hA w h.dropL).1.len
  clear h hk hA
  generalize (gx.find? (mayG af k)).getD 0 = r at *
  generalize (gx.find? (mayG af k)).isSome = rs at *
  generalize gx.eraseP (mayG af k) = gy at *
  go_enter Tryz.func39, Tryz.ntmps39
  go_wp2_with (first
    | (go_at_call 45; refine HI.out.mono ?_; rintro e w' ⟨rfl, rfl⟩)
    | (go_at_call 87; refine HG.out.mono ?_; rintro e w1 ⟨rfl, hS⟩; have H1 := Lib.hid (pl_globI hS); clear hS))
  go_ret2
  exact ⟨rfl, H1.out⟩
theorem pl_own_no (h : Sat w0 (plB D p gx * F) w) (k : Int) (hk : inP D.n k = false) : Calls Tryz.prog 37 #[vp D.s, vi k] w fun e w' => e = .returned (.tuple #[vi 0, .bool false, .bool false]) ∧ w = w' := by
  have HI := Lib.hid (pl_is h k)
  rw [hk] at HI
  clear h hk
  go_enter Tryz.func37, Tryz.ntmps37
  go_wp2_with (go_at_call 45; refine HI.out.mono ?_; rintro e w' ⟨rfl, rfl⟩)
  go_ret3
  exact ⟨rfl, rfl⟩
set_option maxRecDepth 100000 in
set_option maxHeartbeats 4000000 in
theorem pl_own_at (h : Sat w0 (plB D p gx * F) w) (ho : D.Ok) (k : Nat) (hk : k < D.n) (hl : gx.length ≤ 999000) :
    Calls Tryz.prog 37 #[vp D.s, vi k] w fun e w' => e = .returned (.tuple #[vi ((takeG D.m (p k)).headD 0), .bool ((p k).b && decide (0 < (p k).left)), .bool !(takeG D.m (p k)).isEmpty]) ∧ Sat w0 (plB D (up p k (takeY D.m (p k))) (gx ++ takeS D.m (p k)) * F) w' := by
  obtain ⟨c1, r0, r1, r2, r3, r4⟩ : w.cell? ⟨D.s, 0, none⟩ = some D.v ∧ _ := ⟨(pl_cells h).1, pl_row h hk⟩
  have hki : (k : Int) < (D.n : Int) := by omega
  have HI := Lib.hid (pl_is h (k : Int))
  rw [inP_nat hk] at HI
  obtain ⟨t, ht⟩ : ∃ t, decide (0 < (p k).left) = t := ⟨_, rfl⟩
  have hsl : (takeS D.m (p k)).length ≤ 100 := by
    unfold takeS
    have := tkS_len (m := D.m) (xs := (p k).xs) (z := (p k).z) (b := (p k).b) (decide (0 < (p k).left))
    have h1 := (pl_ring h hk).1
    have h2 := ho.m32
    omega
  have HT := Lib.hid (q_take' (pl_out h hk).drew (decide (0 < (p k).left)))
  have HB : Hid (∀ (w1 : World) (v : Value), Sat w0 (sl 3 1 v (takeS D.m (p k)).length ((takeS D.m (p k)).map vi) * (quB (D.q k) (D.r k) (p k).z false * (ringP (D.r k) D.m (takeY D.m (p k)).xs * (plX D p gx k * F)))) w1 → Calls Tryz.prog 24 #[vp D.s, v] w1 fun e w' => e = .returned (.tuple #[]) ∧ Sat w0 (plB D (up p k (takeY D.m (p k))) (gx ++ takeS D.m (p k)) * F) w') := Lib.hid fun w1 v hS => by
    have h1 := pl_in (y := takeY D.m (p k)) (F := sl 3 1 v (takeS D.m (p k)).length ((takeS D.m (p k)).map vi) * F) (hS.cast (show _ = quB (D.q k) (D.r k) (takeY D.m (p k)).z (takeY D.m (p k)).b * (ringP (D.r k) D.m (takeY D.m (p k)).xs * (plX D p gx k * (sl 3 1 v (takeS D.m (p k)).length ((takeS D.m (p k)).map vi) * F))) by show _ = quB (D.q k) (D.r k) (p k).z false * _; ac_rfl)) hk rfl rfl rfl rfl
    exact (pl_back h1 ho (ys := takeS D.m (p k)) (fun w' h' => h'.rd) (by omega)).mono fun e w' hh => ⟨hh.1, hh.2.drop2⟩
  have HT : Hid (Calls Tryz.prog 85 #[vp (D.q k), .bool (decide (0 < (p k).left))] w.drew fun e w' => ∃ v, e = .returned (.tuple #[vi ((takeG D.m (p k)).headD 0), .bool ((p k).b && decide (0 < (p k).left)), v, .bool !(takeG D.m (p k)).isEmpty]) ∧
      Sat w0 (sl 3 1 v (takeS D.m (p k)).length ((takeS D.m (p k)).map vi) * (quB (D.q k) (D.r k) (p k).z false * (ringP (D.r k) D.m (takeY D.m (p k)).xs * (plX D p gx k * F)))) w') := HT
  rw [ht] at HT ⊢
  generalize (takeG D.m (p k)).headD 0 = r at *
  generalize (takeG D.m (p k)).isEmpty = rs at *
  generalize ((p k).b && t) = rb at *
  unfold Ad.v at c1
  have HK := Lib.hid hk
  obtain ⟨lf, hlf⟩ : ∃ lf, (p k).left = lf := ⟨_, rfl⟩
  rw [hlf] at r3 ht
  have HLF := Lib.hid hlf
  clear h hk hsl hl r1 r2 r4 hlf
  go_enter Tryz.func37, Tryz.ntmps37
  go_wp2_with (go_at_call 45; refine HI.out.mono ?_; rintro e w' ⟨rfl, rfl⟩)
  go_region_held3 (fun w' => w'.cell? ⟨D.s, 0, none⟩ = some (.slice (some ⟨D.sb, 0, none⟩) D.n D.cap) ∧ w'.cell? ⟨D.sb, k * 5, none⟩ = some (vp (D.q k)) ∧ w'.cell? ⟨D.sb, k * 5 + 3, none⟩ = some (vi lf)) (first | exact ⟨c1, r0, r3⟩ | exact ⟨g0, g1, g2⟩)
    ((go_at_call 85; refine HT.out.mono ?_; rintro e w1 ⟨v, rfl, hS⟩; have hx := plX_cells hS.dropL.dropL.dropL HK.out; have g0 := hx.1; have g1 := hx.2.2.1; have g2 := HLF.out ▸ hx.2.2.2; have H1 := Lib.hid hS; clear hS hx))
  all_goals go_wp2_with (go_at_call 24; refine (HB.out _ _ H1.out).mono ?_; rintro e w2 ⟨rfl, hS2⟩; have H2 := Lib.hid hS2; clear hS2)
  all_goals go_ret3
  all_goals exact ⟨rfl, H2.out⟩
theorem pl_kick_no (h : Sat w0 (plB D p gx * F) w) (k : Int) (hk : inP D.n k = false) : Calls Tryz.prog 41 #[vp D.s, vi k] w fun e w' => e = .returned (.tuple #[]) ∧ w = w' := by
  have HI := Lib.hid (pl_is h k)
  rw [hk] at HI
  clear h hk
  go_enter Tryz.func41, Tryz.ntmps41
  go_wp2_with (go_at_call 45; refine HI.out.mono ?_; rintro e w' ⟨rfl, rfl⟩)
  refine bodyPost_ret (results_none rfl _ _ _) rfl ?_
  exact ⟨rfl, rfl⟩
theorem pl_kick_nil (h : Sat w0 (plB D p gx * F) w) (k : Nat) (hk : k < D.n) (hb : (p k).b = false) : Calls Tryz.prog 41 #[vp D.s, vi k] w fun e w' => e = .returned (.tuple #[]) ∧ w = w' := by
  obtain ⟨c1, r0, r1, r2, r3, r4⟩ : w.cell? ⟨D.s, 0, none⟩ = some D.v ∧ _ := ⟨(pl_cells h).1, pl_row h hk⟩
  have hki : (k : Int) < (D.n : Int) := by omega
  have HI := Lib.hid (pl_is h (k : Int))
  rw [inP_nat hk] at HI
  have ho1 := pl_out h hk
  rw [hb] at ho1
  have HN := Lib.hid (q_next ho1)
  unfold Ad.v at c1
  clear h hk hb ho1
  go_enter Tryz.func41, Tryz.ntmps41
  go_wp2_with (first | (go_at_call 45; refine HI.out.mono ?_; rintro e w' ⟨rfl, rfl⟩) | (go_at_call 55; refine HN.out.mono ?_; rintro e w' ⟨rfl, rfl⟩))
  go_end0
  exact ⟨rfl, rfl⟩
set_option maxRecDepth 100000 in
set_option maxHeartbeats 4000000 in
theorem pl_kick_at (h : Sat w0 (plB D p gx * F) w) (ho : D.Ok) (k : Nat) (hk : k < D.n) (hb : (p k).b = true) (hl : gx.length ≤ 999000) :
    Calls Tryz.prog 41 #[vp D.s, vi k] w fun e w' => e = .returned (.tuple #[]) ∧ Sat w0 (plB D (up p k (putY D.m (dropY (p k)) (p k).z)) (gx ++ spillL D.m (p k).xs (p k).z) * F) w' := by
  obtain ⟨c1, r0, r1, r2, r3, r4⟩ : w.cell? ⟨D.s, 0, none⟩ = some D.v ∧ _ := ⟨(pl_cells h).1, pl_row h hk⟩
  have hki : (k : Int) < (D.n : Int) := by omega
  have HI := Lib.hid (pl_is h (k : Int))
  rw [inP_nat hk] at HI
  have ho1 := pl_out h hk
  rw [hb] at ho1
  have HN := Lib.hid (q_next ho1)
  have HR := Lib.hid (q_remove_next ho1)
  have HPU : Hid (∀ w1, Sat w0 (quB (D.q k) (D.r k) (p k).z false * (ringP (D.r k) D.m (p k).xs * (plX D p gx k * F))) w1 → Calls Tryz.prog 51 #[vp (D.q k), vi (p k).z] w1 fun e w' => ∃ v, e = .returned v ∧ Sat w0 (sl 3 1 v (spillL D.m (p k).xs (p k).z).length ((spillL D.m (p k).xs (p k).z).map vi) * (quB (D.q k) (D.r k) (p k).z false * (ringP (D.r k) D.m (putL D.m (p k).xs (p k).z) * (plX D p gx k * F)))) w') := Lib.hid fun w1 h1 => q_put h1 (p k).z
  have hsl : (spillL D.m (p k).xs (p k).z).length ≤ 100 := by
    have := spill_len (m := D.m) (xs := (p k).xs) (p k).z
    have h2 := ho.m32
    omega
  have HB : Hid (∀ (w1 : World) (v : Value), Sat w0 (sl 3 1 v (spillL D.m (p k).xs (p k).z).length ((spillL D.m (p k).xs (p k).z).map vi) * (quB (D.q k) (D.r k) (p k).z false * (ringP (D.r k) D.m (putL D.m (p k).xs (p k).z) * (plX D p gx k * F)))) w1 → Calls Tryz.prog 24 #[vp D.s, v] w1 fun e w' => e = .returned (.tuple #[]) ∧ Sat w0 (plB D (up p k (putY D.m (dropY (p k)) (p k).z)) (gx ++ spillL D.m (p k).xs (p k).z) * F) w') := Lib.hid fun w1 v hS => by
    have h1 := pl_in (y := putY D.m (dropY (p k)) (p k).z) (F := sl 3 1 v (spillL D.m (p k).xs (p k).z).length ((spillL D.m (p k).xs (p k).z).map vi) * F) (hS.cast (show _ = quB (D.q k) (D.r k) (p k).z false * (ringP (D.r k) D.m (putL D.m (p k).xs (p k).z) * (plX D p gx k * (sl 3 1 v (spillL D.m (p k).xs (p k).z).length ((spillL D.m (p k).xs (p k).z).map vi) * F))) by ac_rfl)) hk rfl rfl rfl rfl
    exact (pl_back h1 ho (ys := spillL D.m (p k).xs (p k).z) (fun w' h' => h'.rd) (by omega)).mono fun e w' hh => ⟨hh.1, hh.2.drop2⟩
  have HK := Lib.hid hk
  unfold Ad.v at c1
  clear h hk hb ho1 hsl hl r1 r2 r3 r4
  generalize (p k).z = z at *
  generalize (p k).xs = xs at *
  go_enter Tryz.func41, Tryz.ntmps41
  go_wp2_with (first
    | (go_at_call 45; refine HI.out.mono ?_; rintro e w' ⟨rfl, rfl⟩)
    | (go_at_call 55; refine HN.out.mono ?_; rintro e w' ⟨rfl, rfl⟩)
    | (go_at_call 81; refine HR.out.mono ?_; rintro e w1 ⟨rfl, hS⟩; have hx := plX_cells hS.dropL.dropL HK.out; have g0 := hx.1; have g1 := hx.2.2.1; have H1 := Lib.hid hS; clear hS hx)
    | (go_at_call 51; refine (HPU.out _ H1.out).mono ?_; rintro e w2 ⟨v, rfl, hS2⟩; have H2 := Lib.hid hS2; clear hS2)
    | (go_at_call 24; refine (HB.out _ _ H2.out).mono ?_; rintro e w3 ⟨rfl, hS3⟩; have H3 := Lib.hid hS3; clear hS3))
  go_end0
  exact ⟨rfl, H3.out⟩
end
end Go.Proofs.YtjgemfgneiaabaaGreat.Pc
