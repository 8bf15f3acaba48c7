/-
  Package place: Put. No statement is proved here.
-/
import Derived.Test.YtjgemfgneiaabaaGreatPm8
import Derived.Test.YtjgemfgneiaabaaGreatNu3
import Derived.Test.YtjgemfgneiaabaaGreatMg16
namespace Go.Proofs.YtjgemfgneiaabaaGreat.Pc
open Go.RowKit Rq Gq Nu
set_option linter.unusedVariables false
set_option linter.unusedSimpArgs false

section
variable {w0 w : World} {F : Hp} {D : Ad} {p : Nat → Pl} {gx : List Int}
/-- The Ps of a set that are there. -/
def thereM (s n : Nat) : List Nat := thereP (s &&& maskN n)
theorem pl_putnext_at (h : Sat w0 (plB D p gx * F) w) (ho : D.Ok) (k : Nat) (hk : k < D.n) (g : Int) (hl : gx.length ≤ 999000) :
    Calls Tryz.prog 47 #[vp (D.q k), vi g] w fun e w' => ∃ v, e = .returned v ∧ (∃ ao n cap, v = .slice ao n cap) ∧ Calls Tryz.prog 24 #[vp D.s, v] w' fun e w' => e = .returned (.tuple #[]) ∧ Sat w0 (plB D (up p k (nextY D.m (p k) g)) (gx ++ nextS D.m (p k).xs (p k).z (p k).b) * F) w' :=
  (q_putnext (pl_out h hk) g).mono fun e w1 ⟨v, he, hS⟩ => by
    refine ⟨v, he, ?_, ?_⟩
    · obtain ⟨ao, cap, hv⟩ := hS.rd.len
      exact ⟨_, _, _, hv⟩
    · have h1 := pl_in (y := nextY D.m (p k) g) (F := sl 3 1 v (nextS D.m (p k).xs (p k).z (p k).b).length ((nextS D.m (p k).xs (p k).z (p k).b).map vi) * F) (hS.cast (show _ = quB (D.q k) (D.r k) g true * (ringP (D.r k) D.m (nextL D.m (p k).xs (p k).z (p k).b) * (plX D p gx k * (sl 3 1 v (nextS D.m (p k).xs (p k).z (p k).b).length ((nextS D.m (p k).xs (p k).z (p k).b).map vi) * F))) by ac_rfl)) hk rfl rfl rfl rfl
      have hsl := nextS_len (m := D.m) (xs := (p k).xs) (z := (p k).z) (b := (p k).b)
      have h2 := ho.m32
      exact (pl_back h1 ho (ys := nextS D.m (p k).xs (p k).z (p k).b) (fun w' h' => h'.rd) (by omega)).mono fun e w' hh => ⟨hh.1, hh.2.drop2⟩
/-- One at a P that has the number: put next. -/
theorem pl_put_next (h : Sat w0 (plB D p gx * F) w) (ho : D.Ok) (g : Int) {s : Nat} (hs : s < 256) (k : Nat) (hk : k < D.n) (hb : hasB s k = true) (pick : Int) (hl : gx.length ≤ 999000) :
    Calls Tryz.prog 11 #[vp D.s, vi g, .int .u8 s, vi k, vi pick] w fun e w' => e = .returned (.tuple #[]) ∧ Sat w0 (plB D (up p k (nextY D.m (p k) g)) (gx ++ nextS D.m (p k).xs (p k).z (p k).b) * F) w' := by
  obtain ⟨c1, r0, r1, r2, r3, r4⟩ : w.cell? ⟨D.s, 0, none⟩ = some D.v ∧ _ := ⟨(pl_cells h).1, pl_row h hk⟩
  have hki : (k : Int) < (D.n : Int) := by omega
  have HI := Lib.hid (pl_is h (k : Int))
  rw [inP_nat hk] at HI
  have hh := num_has s hs (k : Int)
  rw [hb] at hh
  have HH := Lib.hid (fun w => hh w)
  have HQ := Lib.hid (pl_putnext_at h ho k hk g hl)
  unfold Ad.v at c1
  clear h hk hb hh r1 r2 r3 r4
  go_enter Tryz.func11, Tryz.ntmps11
  go_wp2_with (first
    | (go_at_call 45; refine HI.out.mono ?_; rintro e w' ⟨rfl, rfl⟩)
    | (go_at_call 46; refine (HH.out _).mono ?_; rintro e w' ⟨rfl, rfl⟩)
    | (go_at_call 47; refine HQ.out.mono ?_; rintro e w2 ⟨v2, rfl, ⟨a2, n2, cp2, rfl⟩, hB⟩; have HB2 := Lib.hid hB; clear hB)
    | (go_at_call 24; refine HB2.out.mono ?_; rintro e w3 ⟨rfl, hS3⟩; have H3 := Lib.hid hS3; clear hS3))
  refine bodyPost_ret (results_none rfl _ _ _) rfl ?_
  exact ⟨rfl, H3.out⟩
set_option maxRecDepth 100000 in
set_option maxHeartbeats 2000000 in
theorem pl_put_ring_out (h : Sat w0 (plB D p gx * F) w) (ho : D.Ok) (g : Int) {s : Nat} (hs : s < 256) (by_ pick : Int) (hby : inP D.n by_ = false) (k : Nat) (hk : k < D.n) (hne : thereM s D.n ≠ []) (hki : nthI (s &&& maskN D.n) pick = k) (hl : gx.length ≤ 999000) :
    Calls Tryz.prog 11 #[vp D.s, vi g, .int .u8 s, vi by_, vi pick] w fun e w' => e = .returned (.tuple #[]) ∧ Sat w0 (plB D (up p k (putY D.m (p k) g)) (gx ++ spillL D.m (p k).xs g) * F) w' := by
  have HI := Lib.hid (pl_is h by_)
  rw [hby] at HI
  have HP := Lib.hid (pl_ps h)
  have HM := Lib.hid (num_mask D.n ho.n8)
  have hand := mask_and ⟨s, hs⟩ ⟨D.n, by have := ho.n8; omega⟩
  dsimp only at hand
  have hsm : s &&& maskN D.n < 256 := Nat.lt_of_le_of_lt Nat.and_le_left hs
  have hki2 : (k : Int) < (D.n : Int) := by omega
  have hn := num_nth_at hsm h hne pick
  rw [hki] at hn
  have HN := Lib.hid hn
  have HK := Lib.hid hk
  clear hn hki hne hk
  obtain ⟨mi, hmi⟩ : ∃ mi : Int, (maskN D.n : Int) = mi := ⟨_, rfl⟩
  rw [hmi] at hand HM
  obtain ⟨si, hsi⟩ : ∃ si : Int, ((s &&& maskN D.n : Nat) : Int) = si := ⟨_, rfl⟩
  rw [hsi] at hand HN
  clear h hby hmi hsi hsm
  go_enter Tryz.func11, Tryz.ntmps11
  go_wp2_with (first
    | (go_at_call 45; refine HI.out.mono ?_; rintro e w' ⟨rfl, rfl⟩)
    | (go_at_call 50; refine HP.out.mono ?_; rintro e w' ⟨rfl, rfl⟩)
    | (go_at_call 49; refine (HM.out _).mono ?_; rintro e w' ⟨rfl, rfl⟩)
    | (go_at_call 48; refine HN.out.mono ?_; rintro e w1 ⟨rfl, hS1⟩; have c1 := (pl_cells hS1).1; have r0 := (pl_row hS1 HK.out).1; unfold Ad.v at c1; have HQ := Lib.hid (pl_put_at hS1 ho k HK.out g hl); clear hS1)
    | (go_at_call 51; refine HQ.out.mono ?_; rintro e w2 ⟨v2, rfl, ⟨a2, n2, cp2, rfl⟩, _, hB⟩; have HB2 := Lib.hid hB; clear hB)
    | (go_at_call 24; refine HB2.out.mono ?_; rintro e w3 ⟨rfl, hS3⟩; have H3 := Lib.hid hS3; clear hS3))
  refine bodyPost_ret (results_none rfl _ _ _) rfl ?_
  exact ⟨rfl, H3.out⟩
set_option maxRecDepth 100000 in
set_option maxHeartbeats 2000000 in
theorem pl_put_ring_in (h : Sat w0 (plB D p gx * F) w) (ho : D.Ok) (g : Int) {s : Nat} (hs : s < 256) (by_ pick : Int) (hby : inP D.n by_ = true) (hb : hasB s by_ = false) (k : Nat) (hk : k < D.n) (hne : thereM s D.n ≠ []) (hki : nthI (s &&& maskN D.n) pick = k) (hl : gx.length ≤ 999000) :
    Calls Tryz.prog 11 #[vp D.s, vi g, .int .u8 s, vi by_, vi pick] w fun e w' => e = .returned (.tuple #[]) ∧ Sat w0 (plB D (up p k (putY D.m (p k) g)) (gx ++ spillL D.m (p k).xs g) * F) w' := by
  have HI := Lib.hid (pl_is h by_)
  rw [hby] at HI
  have HP := Lib.hid (pl_ps h)
  have HM := Lib.hid (num_mask D.n ho.n8)
  have hh := num_has s hs by_
  rw [hb] at hh
  have HH := Lib.hid (fun w => hh w)
  clear hh hb
  have hand := mask_and ⟨s, hs⟩ ⟨D.n, by have := ho.n8; omega⟩
  dsimp only at hand
  have hsm : s &&& maskN D.n < 256 := Nat.lt_of_le_of_lt Nat.and_le_left hs
  have hki2 : (k : Int) < (D.n : Int) := by omega
  have hn := num_nth_at hsm h hne pick
  rw [hki] at hn
  have HN := Lib.hid hn
  have HK := Lib.hid hk
  clear hn hki hne hk
  obtain ⟨mi, hmi⟩ : ∃ mi : Int, (maskN D.n : Int) = mi := ⟨_, rfl⟩
  rw [hmi] at hand HM
  obtain ⟨si, hsi⟩ : ∃ si : Int, ((s &&& maskN D.n : Nat) : Int) = si := ⟨_, rfl⟩
  rw [hsi] at hand HN
  clear h hby hmi hsi hsm
  go_enter Tryz.func11, Tryz.ntmps11
  go_wp2_with (first
    | (go_at_call 45; refine HI.out.mono ?_; rintro e w' ⟨rfl, rfl⟩)
    | (go_at_call 46; refine (HH.out _).mono ?_; rintro e w' ⟨rfl, rfl⟩)
    | (go_at_call 50; refine HP.out.mono ?_; rintro e w' ⟨rfl, rfl⟩)
    | (go_at_call 49; refine (HM.out _).mono ?_; rintro e w' ⟨rfl, rfl⟩)
    | (go_at_call 48; refine HN.out.mono ?_; rintro e w1 ⟨rfl, hS1⟩; have c1 := (pl_cells hS1).1; have r0 := (pl_row hS1 HK.out).1; unfold Ad.v at c1; have HQ := Lib.hid (pl_put_at hS1 ho k HK.out g hl); clear hS1)
    | (go_at_call 51; refine HQ.out.mono ?_; rintro e w2 ⟨v2, rfl, ⟨a2, n2, cp2, rfl⟩, _, hB⟩; have HB2 := Lib.hid hB; clear hB)
    | (go_at_call 24; refine HB2.out.mono ?_; rintro e w3 ⟨rfl, hS3⟩; have H3 := Lib.hid hS3; clear hS3))
  refine bodyPost_ret (results_none rfl _ _ _) rfl ?_
  exact ⟨rfl, H3.out⟩
set_option maxRecDepth 100000 in
set_option maxHeartbeats 2000000 in
theorem pl_put_all_out (h : Sat w0 (plB D p gx * F) w) (ho : D.Ok) (g : Int) {s : Nat} (hs : s < 256) (by_ pick : Int) (hby : inP D.n by_ = false) (hne : thereM s D.n = []) (hl : gx.length ≤ 999000) :
    Calls Tryz.prog 11 #[vp D.s, vi g, .int .u8 s, vi by_, vi pick] w fun e w' => e = .returned (.tuple #[]) ∧ Sat w0 (plB D p (gx ++ [g]) * F) w' := by
  have HI := Lib.hid (pl_is h by_)
  rw [hby] at HI
  have HP := Lib.hid (pl_ps h)
  have HM := Lib.hid (num_mask D.n ho.n8)
  have hand := mask_and ⟨s, hs⟩ ⟨D.n, by have := ho.n8; omega⟩
  dsimp only at hand
  have hsm : s &&& maskN D.n < 256 := Nat.lt_of_le_of_lt Nat.and_le_left hs
  have HN := Lib.hid (num_nth_no hsm h hne pick)
  clear hne
  obtain ⟨mi, hmi⟩ : ∃ mi : Int, (maskN D.n : Int) = mi := ⟨_, rfl⟩
  rw [hmi] at hand HM
  obtain ⟨si, hsi⟩ : ∃ si : Int, ((s &&& maskN D.n : Nat) : Int) = si := ⟨_, rfl⟩
  rw [hsi] at hand HN
  clear h hby hmi hsi hsm
  go_enter Tryz.func11, Tryz.ntmps11
  go_wp2_with (first
    | (go_at_call 45; refine HI.out.mono ?_; rintro e w' ⟨rfl, rfl⟩)
    | (go_at_call 50; refine HP.out.mono ?_; rintro e w' ⟨rfl, rfl⟩)
    | (go_at_call 49; refine (HM.out _).mono ?_; rintro e w' ⟨rfl, rfl⟩)
    | (go_at_call 48; refine HN.out.mono ?_; rintro e w1 ⟨rfl, hS1⟩; have h2 : Sat w0 (pc w1.heap.size 3 [vi g] * (plB D p gx * F)) (w1.alloc (.cells #[vi g] 3)) := hS1.alloc _; have HB2 := Lib.hid (pl_back (ys := [g]) (F := pc w1.heap.size 3 [vi g] * F) h2.pull2 ho (fun w' h' => rdI_pc h') (by simp; omega)); clear hS1 h2)
    | (go_at_call 24; refine HB2.out.mono ?_; rintro e w3 ⟨rfl, hS3⟩; have H3 := Lib.hid hS3.drop2; clear hS3))
  go_end0
  exact ⟨rfl, H3.out⟩
set_option maxRecDepth 100000 in
set_option maxHeartbeats 2000000 in
theorem pl_put_all_in (h : Sat w0 (plB D p gx * F) w) (ho : D.Ok) (g : Int) {s : Nat} (hs : s < 256) (by_ pick : Int) (hby : inP D.n by_ = true) (hb : hasB s by_ = false) (hne : thereM s D.n = []) (hl : gx.length ≤ 999000) :
    Calls Tryz.prog 11 #[vp D.s, vi g, .int .u8 s, vi by_, vi pick] w fun e w' => e = .returned (.tuple #[]) ∧ Sat w0 (plB D p (gx ++ [g]) * F) w' := by
  have HI := Lib.hid (pl_is h by_)
  rw [hby] at HI
  have HP := Lib.hid (pl_ps h)
  have HM := Lib.hid (num_mask D.n ho.n8)
  have hh := num_has s hs by_
  rw [hb] at hh
  have HH := Lib.hid (fun w => hh w)
  clear hh hb
  have hand := mask_and ⟨s, hs⟩ ⟨D.n, by have := ho.n8; omega⟩
  dsimp only at hand
  have hsm : s &&& maskN D.n < 256 := Nat.lt_of_le_of_lt Nat.and_le_left hs
  have HN := Lib.hid (num_nth_no hsm h hne pick)
  clear hne
  obtain ⟨mi, hmi⟩ : ∃ mi : Int, (maskN D.n : Int) = mi := ⟨_, rfl⟩
  rw [hmi] at hand HM
  obtain ⟨si, hsi⟩ : ∃ si : Int, ((s &&& maskN D.n : Nat) : Int) = si := ⟨_, rfl⟩
  rw [hsi] at hand HN
  clear h hby hmi hsi hsm
  go_enter Tryz.func11, Tryz.ntmps11
  go_wp2_with (first
    | (go_at_call 45; refine HI.out.mono ?_; rintro e w' ⟨rfl, rfl⟩)
    | (go_at_call 46; refine (HH.out _).mono ?_; rintro e w' ⟨rfl, rfl⟩)
    | (go_at_call 50; refine HP.out.mono ?_; rintro e w' ⟨rfl, rfl⟩)
    | (go_at_call 49; refine (HM.out _).mono ?_; rintro e w' ⟨rfl, rfl⟩)
    | (go_at_call 48; refine HN.out.mono ?_; rintro e w1 ⟨rfl, hS1⟩; have h2 : Sat w0 (pc w1.heap.size 3 [vi g] * (plB D p gx * F)) (w1.alloc (.cells #[vi g] 3)) := hS1.alloc _; have HB2 := Lib.hid (pl_back (ys := [g]) (F := pc w1.heap.size 3 [vi g] * F) h2.pull2 ho (fun w' h' => rdI_pc h') (by simp; omega)); clear hS1 h2)
    | (go_at_call 24; refine HB2.out.mono ?_; rintro e w3 ⟨rfl, hS3⟩; have H3 := Lib.hid hS3.drop2; clear hS3))
  go_end0
  exact ⟨rfl, H3.out⟩
end
end Go.Proofs.YtjgemfgneiaabaaGreat.Pc

namespace Go.Proofs.YtjgemfgneiaabaaGreat.Pc
open Go.RowKit Rq Gq
set_option linter.unusedVariables false
set_option linter.unusedSimpArgs false

section
variable {w0 w : World} {F : Hp} {D : Ad} {p : Nat → Pl} {gx : List Int}
theorem pl_start_no (h : Sat w0 (plB D p gx * F) w) (ho : D.Ok) (k : Int) (hk : inP D.n k = false) (g left : Int): Calls Tryz.prog 28 #[vp D.s, vi k, vi g, vi left] w fun e w' => e = .returned (vi 2) ∧ w = w' := by
  have HI := Lib.hid (pl_is h k)
  have HP := Lib.hid (pl_ps h)
  have hn1 := ho.n1
  have hnz : ((D.n : Int) == 0) = false := by
    rw [beq_eq_false_iff_ne]
    omega
  rw [hk] at HI
  clear h hk
  go_enter Tryz.func28, Tryz.ntmps28
  go_wp2_with (first | (go_at_call 50; refine HP.out.mono ?_; rintro e w' ⟨rfl, rfl⟩) | (go_at_call 45; refine HI.out.mono ?_; rintro e w' ⟨rfl, rfl⟩))
  go_ret
  exact ⟨rfl, rfl⟩
theorem pl_start_neg (h : Sat w0 (plB D p gx * F) w) (ho : D.Ok) (k : Nat) (hk : k < D.n) (g left : Int) (hl : left < 0) : Calls Tryz.prog 28 #[vp D.s, vi k, vi g, vi left] w fun e w' => e = .returned (vi 2) ∧ w = w' := by
  obtain ⟨c1, r0, r1, r2, r3, r4⟩ : w.cell? ⟨D.s, 0, none⟩ = some D.v ∧ _ := ⟨(pl_cells h).1, pl_row h hk⟩
  have hki : (k : Int) < (D.n : Int) := by omega
  have HI := Lib.hid (pl_is h (k : Int))
  rw [inP_nat hk] at HI
  have HP := Lib.hid (pl_ps h)
  have hn1 := ho.n1
  have hnz : ((D.n : Int) == 0) = false := by
    rw [beq_eq_false_iff_ne]
    omega
  clear h hk hn1
  go_enter Tryz.func28, Tryz.ntmps28
  go_wp2_with (first | (go_at_call 50; refine HP.out.mono ?_; rintro e w' ⟨rfl, rfl⟩) | (go_at_call 45; refine HI.out.mono ?_; rintro e w' ⟨rfl, rfl⟩))
  go_ret
  exact ⟨rfl, rfl⟩
theorem pl_start_busy (h : Sat w0 (plB D p gx * F) w) (ho : D.Ok) (k : Nat) (hk : k < D.n) (g left : Int) (hl : ¬ left < 0) (hr : (p k).runs = true) : Calls Tryz.prog 28 #[vp D.s, vi k, vi g, vi left] w fun e w' => e = .returned (vi 14) ∧ w = w' := by
  obtain ⟨c1, r0, r1, r2, r3, r4⟩ : w.cell? ⟨D.s, 0, none⟩ = some D.v ∧ _ := ⟨(pl_cells h).1, pl_row h hk⟩
  have hki : (k : Int) < (D.n : Int) := by omega
  have HI := Lib.hid (pl_is h (k : Int))
  rw [inP_nat hk] at HI
  have HP := Lib.hid (pl_ps h)
  have hn1 := ho.n1
  have hnz : ((D.n : Int) == 0) = false := by
    rw [beq_eq_false_iff_ne]
    omega
  rw [hr] at r2
  unfold Ad.v at c1
  clear h hk hn1 hr
  go_enter Tryz.func28, Tryz.ntmps28
  go_wp2_with (first | (go_at_call 50; refine HP.out.mono ?_; rintro e w' ⟨rfl, rfl⟩) | (go_at_call 45; refine HI.out.mono ?_; rintro e w' ⟨rfl, rfl⟩))
  go_ret
  exact ⟨rfl, rfl⟩
set_option maxRecDepth 100000 in
set_option maxHeartbeats 4000000 in
theorem pl_start_at (h : Sat w0 (plB D p gx * F) w) (ho : D.Ok) (k : Nat) (hk : k < D.n) (g left : Int) (hl : ¬ left < 0) (hr : (p k).runs = false) : Calls Tryz.prog 28 #[vp D.s, vi k, vi g, vi left] w fun e w' => e = .returned (vi 0) ∧ Sat w0 (plB D (up p k (startY (p k) g left)) gx * F) w' := by
  obtain ⟨c1, r0, r1, r2, r3, r4⟩ : w.cell? ⟨D.s, 0, none⟩ = some D.v ∧ _ := ⟨(pl_cells h).1, pl_row h hk⟩
  have hki : (k : Int) < (D.n : Int) := by omega
  have HI := Lib.hid (pl_is h (k : Int))
  rw [inP_nat hk] at HI
  have HP := Lib.hid (pl_ps h)
  have hn1 := ho.n1
  have hnz : ((D.n : Int) == 0) = false := by
    rw [beq_eq_false_iff_ne]
    omega
  rw [hr] at r2
  have f1 := pl_free h (k * 5 + 1)
  have f2 := pl_free h (k * 5 + 2)
  have f3 := pl_free h (k * 5 + 3)
  have hA := pl_store (y := { p k with g := g }) (j := 1) (u := vi g) h hk (by omega) rfl rfl rfl rfl
  have hB := pl_store (y := { p k with g := g, runs := true }) (j := 2) (u := .bool true) hA hk (by omega) (by unfold rowP; rw [up_at]; rfl) (by rw [up_at]) (by rw [up_at]) (by rw [up_at])
  have hC := pl_store (y := startY (p k) g left) (j := 3) (u := vi left) hB hk (by omega) (by unfold rowP; rw [up_at]; rfl) (by rw [up_at]; rfl) (by rw [up_at]; rfl) (by rw [up_at]; rfl)
  rw [up_up, up_up] at hC
  have a0 := (pl_cells hA).1
  have b0 := (pl_cells hB).1
  have d0 := (pl_cells hC).1
  have a2 := (pl_row hA hk).2.2.1
  have a3 := (pl_row hA hk).2.2.2.1
  have b3 := (pl_row hB hk).2.2.2.1
  rw [up_at] at a2 a3
  rw [up_at] at b3
  have ga2 := pl_free hA (k * 5 + 2)
  have ga3 := pl_free hA (k * 5 + 3)
  have gb3 := pl_free hB (k * 5 + 3)
  have HC := Lib.hid hC
  unfold Ad.v at c1 a0 b0 d0
  generalize (p k).g = pg at *
  generalize (p k).left = pl at *
  rw [hr] at a2
  clear h hk hn1 hr hA hB hC r0 r4
  go_enter Tryz.func28, Tryz.ntmps28
  go_wp2_with (first | (go_at_call 50; refine HP.out.mono ?_; rintro e w' ⟨rfl, rfl⟩) | (go_at_call 45; refine HI.out.mono ?_; rintro e w' ⟨rfl, rfl⟩))
  go_region_held3 (fun w' => w'.cell? ⟨D.s, 0, none⟩ = some (.slice (some ⟨D.sb, 0, none⟩) D.n D.cap)) (first | exact c1 | exact a0 | exact b0 | exact d0) (fail)
  all_goals go_wp2
  all_goals go_ret
  all_goals exact ⟨rfl, HC.out.drew⟩
end
end Go.Proofs.YtjgemfgneiaabaaGreat.Pc
