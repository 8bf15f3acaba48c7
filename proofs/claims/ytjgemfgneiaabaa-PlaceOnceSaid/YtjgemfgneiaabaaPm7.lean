/-
  Package place: Put. No statement is proved here.
-/
import Derived.Test.YtjgemfgneiaabaaPm8
import Derived.Test.YtjgemfgneiaabaaNu3
namespace Go.Proofs.Ytjgemfgneiaabaa.Pc
open Go.RowKit Rq Gq Nu
set_option linter.unusedVariables false
set_option linter.unusedSimpArgs false

section
variable {w0 w : World} {F : Hp} {D : Ad} {p : Nat → Pl} {gx : List Int}
/-- The Ps of a set that are there. -/
def thereM (s n : Nat) : List Nat := thereP (s &&& maskN n)
theorem pl_putnext_at (h : Sat w0 (plB D p gx * F) w) (ho : D.Ok) (k : Nat) (hk : k < D.n) (g : Int) (hl : gx.length ≤ 999000) :
    Calls Try.prog 24 #[vp (D.q k), vi g] w fun e w' => ∃ v, e = .returned v ∧ (∃ ao n cap, v = .slice ao n cap) ∧ Calls Try.prog 9 #[vp D.s, v] w' fun e w' => e = .returned (.tuple #[]) ∧ Sat w0 (plB D (up p k (nextY D.m (p k) g)) (gx ++ nextS D.m (p k).xs (p k).z (p k).b) * F) w' :=
  (q_putnext (pl_out h hk) g).mono fun e w1 ⟨v, he, hS⟩ => by
    refine ⟨v, he, ?_, ?_⟩
    · obtain ⟨ao, cap, hv⟩ := hS.rd.len
      exact ⟨_, _, _, hv⟩
    · have h1 := pl_in (y := nextY D.m (p k) g) (F := sl 3 1 v (nextS D.m (p k).xs (p k).z (p k).b).length ((nextS D.m (p k).xs (p k).z (p k).b).map vi) * F) (hS.cast (show _ = quB (D.q k) (D.r k) g true * (ringP (D.r k) D.m (nextL D.m (p k).xs (p k).z (p k).b) * (plX D p gx k * (sl 3 1 v (nextS D.m (p k).xs (p k).z (p k).b).length ((nextS D.m (p k).xs (p k).z (p k).b).map vi) * F))) by ac_rfl)) hk rfl rfl rfl rfl
      have hsl := nextS_len (m := D.m) (xs := (p k).xs) (z := (p k).z) (b := (p k).b)
      have h2 := ho.m32
      exact (pl_back h1 ho (ys := nextS D.m (p k).xs (p k).z (p k).b) (fun w' h' => h'.rd) (by omega)).mono fun e w' hh => ⟨hh.1, hh.2.drop2⟩
/-- One at a P that has the number: put next. -/
theorem pl_put_next (h : Sat w0 (plB D p gx * F) w) (ho : D.Ok) (g : Int) {s : Nat} (hs : s < 256) (k : Nat) (hk : k < D.n) (hb : hasB s k = true) (pick : Int) (hl : gx.length ≤ 999000) :
    Calls Try.prog 8 #[vp D.s, vi g, .int .u8 s, vi k, vi pick] w fun e w' => e = .returned (.tuple #[]) ∧ Sat w0 (plB D (up p k (nextY D.m (p k) g)) (gx ++ nextS D.m (p k).xs (p k).z (p k).b) * F) w' := by
  obtain ⟨c1, r0, r1, r2, r3, r4⟩ : w.cell? ⟨D.s, 0, none⟩ = some D.v ∧ _ := ⟨(pl_cells h).1, pl_row h hk⟩
  have hki : (k : Int) < (D.n : Int) := by omega
  have HI := Lib.hid (pl_is h (k : Int))
  rw [inP_nat hk] at HI
  have hh := num_has s hs (k : Int)
  rw [hb] at hh
  have HH := Lib.hid (fun w => hh w)
  have HQ := Lib.hid (pl_putnext_at h ho k hk g hl)
  unfold Ad.v at c1
  clear h hk hb hh r1 r2 r3 r4
  go_enter Try.func8, Try.ntmps8
  go_wp2_with (first
    | (go_at_call 22; refine HI.out.mono ?_; rintro e w' ⟨rfl, rfl⟩)
    | (go_at_call 23; refine (HH.out _).mono ?_; rintro e w' ⟨rfl, rfl⟩)
    | (go_at_call 24; refine HQ.out.mono ?_; rintro e w2 ⟨v2, rfl, ⟨a2, n2, cp2, rfl⟩, hB⟩; have HB2 := Lib.hid hB; clear hB)
    | (go_at_call 9; refine HB2.out.mono ?_; rintro e w3 ⟨rfl, hS3⟩; have H3 := Lib.hid hS3; clear hS3))
  refine bodyPost_ret (results_none rfl _ _ _) rfl ?_
  exact ⟨rfl, H3.out⟩
set_option maxRecDepth 100000 in
set_option maxHeartbeats 2000000 in
theorem pl_put_ring_out (h : Sat w0 (plB D p gx * F) w) (ho : D.Ok) (g : Int) {s : Nat} (hs : s < 256) (by_ pick : Int) (hby : inP D.n by_ = false) (k : Nat) (hk : k < D.n) (hne : thereM s D.n ≠ []) (hki : nthI (s &&& maskN D.n) pick = k) (hl : gx.length ≤ 999000) :
    Calls Try.prog 8 #[vp D.s, vi g, .int .u8 s, vi by_, vi pick] w fun e w' => e = .returned (.tuple #[]) ∧ Sat w0 (plB D (up p k (putY D.m (p k) g)) (gx ++ spillL D.m (p k).xs g) * F) w' := by
  have HI := Lib.hid (pl_is h by_)
  rw [hby] at HI
  have HP := Lib.hid (pl_ps h)
  have HM := Lib.hid (num_mask D.n ho.n8)
  have hand := mask_and ⟨s, hs⟩ ⟨D.n, by have := ho.n8; omega⟩
  dsimp only at hand
  have hsm : s &&& maskN D.n < 256 := Nat.lt_of_le_of_lt Nat.and_le_left hs
  have hki2 : (k : Int) < (D.n : Int) := by omega
  have hn := num_nth_at hsm h hne pick
  rw [hki] at hn
  have HN := Lib.hid hn
  have HK := Lib.hid hk
  clear hn hki hne hk
  obtain ⟨mi, hmi⟩ : ∃ mi : Int, (maskN D.n : Int) = mi := ⟨_, rfl⟩
  rw [hmi] at hand HM
  obtain ⟨si, hsi⟩ : ∃ si : Int, ((s &&& maskN D.n : Nat) : Int) = si := ⟨_, rfl⟩
  rw [hsi] at hand HN
  clear h hby hmi hsi hsm
  go_enter Try.func8, Try.ntmps8
  go_wp2_with (first
    | (go_at_call 22; refine HI.out.mono ?_; rintro e w' ⟨rfl, rfl⟩)
    | (go_at_call 27; refine HP.out.mono ?_; rintro e w' ⟨rfl, rfl⟩)
    | (go_at_call 26; refine (HM.out _).mono ?_; rintro e w' ⟨rfl, rfl⟩)
    | (go_at_call 25; refine HN.out.mono ?_; rintro e w1 ⟨rfl, hS1⟩; have c1 := (pl_cells hS1).1; have r0 := (pl_row hS1 HK.out).1; unfold Ad.v at c1; have HQ := Lib.hid (pl_put_at hS1 ho k HK.out g hl); clear hS1)
    | (go_at_call 28; refine HQ.out.mono ?_; rintro e w2 ⟨v2, rfl, ⟨a2, n2, cp2, rfl⟩, _, hB⟩; have HB2 := Lib.hid hB; clear hB)
    | (go_at_call 9; refine HB2.out.mono ?_; rintro e w3 ⟨rfl, hS3⟩; have H3 := Lib.hid hS3; clear hS3))
  refine bodyPost_ret (results_none rfl _ _ _) rfl ?_
  exact ⟨rfl, H3.out⟩
set_option maxRecDepth 100000 in
set_option maxHeartbeats 2000000 in
theorem pl_put_ring_in (h : Sat w0 (plB D p gx * F) w) (ho : D.Ok) (g : Int) {s : Nat} (hs : s < 256) (by_ pick : Int) (hby : inP D.n by_ = true) (hb : hasB s by_ = false) (k : Nat) (hk : k < D.n) (hne : thereM s D.n ≠ []) (hki : nthI (s &&& maskN D.n) pick = k) (hl : gx.length ≤ 999000) :
    Calls Try.prog 8 #[vp D.s, vi g, .int .u8 s, vi by_, vi pick] w fun e w' => e = .returned (.tuple #[]) ∧ Sat w0 (plB D (up p k (putY D.m (p k) g)) (gx ++ spillL D.m (p k).xs g) * F) w' := by
  have HI := Lib.hid (pl_is h by_)
  rw [hby] at HI
  have HP := Lib.hid (pl_ps h)
  have HM := Lib.hid (num_mask D.n ho.n8)
  have hh := num_has s hs by_
  rw [hb] at hh
  have HH := Lib.hid (fun w => hh w)
  clear hh hb
  have hand := mask_and ⟨s, hs⟩ ⟨D.n, by have := ho.n8; omega⟩
  dsimp only at hand
  have hsm : s &&& maskN D.n < 256 := Nat.lt_of_le_of_lt Nat.and_le_left hs
  have hki2 : (k : Int) < (D.n : Int) := by omega
  have hn := num_nth_at hsm h hne pick
  rw [hki] at hn
  have HN := Lib.hid hn
  have HK := Lib.hid hk
  clear hn hki hne hk
  obtain ⟨mi, hmi⟩ : ∃ mi : Int, (maskN D.n : Int) = mi := ⟨_, rfl⟩
  rw [hmi] at hand HM
  obtain ⟨si, hsi⟩ : ∃ si : Int, ((s &&& maskN D.n : Nat) : Int) = si := ⟨_, rfl⟩
  rw [hsi] at hand HN
  clear h hby hmi hsi hsm
  go_enter Try.func8, Try.ntmps8
  go_wp2_with (first
    | (go_at_call 22; refine HI.out.mono ?_; rintro e w' ⟨rfl, rfl⟩)
    | (go_at_call 23; refine (HH.out _).mono ?_; rintro e w' ⟨rfl, rfl⟩)
    | (go_at_call 27; refine HP.out.mono ?_; rintro e w' ⟨rfl, rfl⟩)
    | (go_at_call 26; refine (HM.out _).mono ?_; rintro e w' ⟨rfl, rfl⟩)
    | (go_at_call 25; refine HN.out.mono ?_; rintro e w1 ⟨rfl, hS1⟩; have c1 := (pl_cells hS1).1; have r0 := (pl_row hS1 HK.out).1; unfold Ad.v at c1; have HQ := Lib.hid (pl_put_at hS1 ho k HK.out g hl); clear hS1)
    | (go_at_call 28; refine HQ.out.mono ?_; rintro e w2 ⟨v2, rfl, ⟨a2, n2, cp2, rfl⟩, _, hB⟩; have HB2 := Lib.hid hB; clear hB)
    | (go_at_call 9; refine HB2.out.mono ?_; rintro e w3 ⟨rfl, hS3⟩; have H3 := Lib.hid hS3; clear hS3))
  refine bodyPost_ret (results_none rfl _ _ _) rfl ?_
  exact ⟨rfl, H3.out⟩
set_option maxRecDepth 100000 in
set_option maxHeartbeats 2000000 in
theorem pl_put_all_out (h : Sat w0 (plB D p gx * F) w) (ho : D.Ok) (g : Int) {s : Nat} (hs : s < 256) (by_ pick : Int) (hby : inP D.n by_ = false) (hne : thereM s D.n = []) (hl : gx.length ≤ 999000) :
    Calls Try.prog 8 #[vp D.s, vi g, .int .u8 s, vi by_, vi pick] w fun e w' => e = .returned (.tuple #[]) ∧ Sat w0 (plB D p (gx ++ [g]) * F) w' := by
  have HI := Lib.hid (pl_is h by_)
  rw [hby] at HI
  have HP := Lib.hid (pl_ps h)
  have HM := Lib.hid (num_mask D.n ho.n8)
  have hand := mask_and ⟨s, hs⟩ ⟨D.n, by have := ho.n8; omega⟩
  dsimp only at hand
  have hsm : s &&& maskN D.n < 256 := Nat.lt_of_le_of_lt Nat.and_le_left hs
  have HN := Lib.hid (num_nth_no hsm h hne pick)
  clear hne
  obtain ⟨mi, hmi⟩ : ∃ mi : Int, (maskN D.n : Int) = mi := ⟨_, rfl⟩
  rw [hmi] at hand HM
  obtain ⟨si, hsi⟩ : ∃ si : Int, ((s &&& maskN D.n : Nat) : Int) = si := ⟨_, rfl⟩
  rw [hsi] at hand HN
  clear h hby hmi hsi hsm
  go_enter Try.func8, Try.ntmps8
  go_wp2_with (first
    | (go_at_call 22; refine HI.out.mono ?_; rintro e w' ⟨rfl, rfl⟩)
    | (go_at_call 27; refine HP.out.mono ?_; rintro e w' ⟨rfl, rfl⟩)
    | (go_at_call 26; refine (HM.out _).mono ?_; rintro e w' ⟨rfl, rfl⟩)
    | (go_at_call 25; refine HN.out.mono ?_; rintro e w1 ⟨rfl, hS1⟩; have h2 : Sat w0 (pc w1.heap.size 3 [vi g] * (plB D p gx * F)) (w1.alloc (.cells #[vi g] 3)) := hS1.alloc _; have HB2 := Lib.hid (pl_back (ys := [g]) (F := pc w1.heap.size 3 [vi g] * F) h2.pull2 ho (fun w' h' => rdI_pc h') (by simp; omega)); clear hS1 h2)
    | (go_at_call 9; refine HB2.out.mono ?_; rintro e w3 ⟨rfl, hS3⟩; have H3 := Lib.hid hS3.drop2; clear hS3))
  go_end0
  exact ⟨rfl, H3.out⟩
set_option maxRecDepth 100000 in
set_option maxHeartbeats 2000000 in
theorem pl_put_all_in (h : Sat w0 (plB D p gx * F) w) (ho : D.Ok) (g : Int) {s : Nat} (hs : s < 256) (by_ pick : Int) (hby : inP D.n by_ = true) (hb : hasB s by_ = false) (hne : thereM s D.n = []) (hl : gx.length ≤ 999000) :
    Calls Try.prog 8 #[vp D.s, vi g, .int .u8 s, vi by_, vi pick] w fun e w' => e = .returned (.tuple #[]) ∧ Sat w0 (plB D p (gx ++ [g]) * F) w' := by
  have HI := Lib.hid (pl_is h by_)
  rw [hby] at HI
  have HP := Lib.hid (pl_ps h)
  have HM := Lib.hid (num_mask D.n ho.n8)
  have hh := num_has s hs by_
  rw [hb] at hh
  have HH := Lib.hid (fun w => hh w)
  clear hh hb
  have hand := mask_and ⟨s, hs⟩ ⟨D.n, by have := ho.n8; omega⟩
  dsimp only at hand
  have hsm : s &&& maskN D.n < 256 := Nat.lt_of_le_of_lt Nat.and_le_left hs
  have HN := Lib.hid (num_nth_no hsm h hne pick)
  clear hne
  obtain ⟨mi, hmi⟩ : ∃ mi : Int, (maskN D.n : Int) = mi := ⟨_, rfl⟩
  rw [hmi] at hand HM
  obtain ⟨si, hsi⟩ : ∃ si : Int, ((s &&& maskN D.n : Nat) : Int) = si := ⟨_, rfl⟩
  rw [hsi] at hand HN
  clear h hby hmi hsi hsm
  go_enter Try.func8, Try.ntmps8
  go_wp2_with (first
    | (go_at_call 22; refine HI.out.mono ?_; rintro e w' ⟨rfl, rfl⟩)
    | (go_at_call 23; refine (HH.out _).mono ?_; rintro e w' ⟨rfl, rfl⟩)
    | (go_at_call 27; refine HP.out.mono ?_; rintro e w' ⟨rfl, rfl⟩)
    | (go_at_call 26; refine (HM.out _).mono ?_; rintro e w' ⟨rfl, rfl⟩)
    | (go_at_call 25; refine HN.out.mono ?_; rintro e w1 ⟨rfl, hS1⟩; have h2 : Sat w0 (pc w1.heap.size 3 [vi g] * (plB D p gx * F)) (w1.alloc (.cells #[vi g] 3)) := hS1.alloc _; have HB2 := Lib.hid (pl_back (ys := [g]) (F := pc w1.heap.size 3 [vi g] * F) h2.pull2 ho (fun w' h' => rdI_pc h') (by simp; omega)); clear hS1 h2)
    | (go_at_call 9; refine HB2.out.mono ?_; rintro e w3 ⟨rfl, hS3⟩; have H3 := Lib.hid hS3.drop2; clear hS3))
  go_end0
  exact ⟨rfl, H3.out⟩
end
end Go.Proofs.Ytjgemfgneiaabaa.Pc
