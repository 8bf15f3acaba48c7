/-
  Chapter 16: Make. No statement is proved here.
-/
import Derived.Test.YtdbppfcilaajaaaGreatMg18
import Derived.Test.YtdbppfcilaajaaaGreatMg6
import Derived.Lib.BitFns
import Derived.Test.YtdbppfcilaajaaaGreatMg19
import Derived.Test.YtdbppfcilaajaaaGreatMg23
import Derived.Test.YtdbppfcilaajaaaGreatMg27
import Derived.Deep.RegionHeld3
set_option linter.unusedVariables false
set_option linter.unusedSimpArgs false
namespace Go.Proofs.YtdbppfcilaajaaaGreat.Gt
open Go.RowKit Ag
set_option linter.unusedVariables false

section
variable {w0 w : World} {F : Hp} {h p : Nat} {ps : List Pl} {free : List Nat}
set_option maxRecDepth 100000 in
set_option maxHeartbeats 2000000 in
theorem gt_make_ {ri ra rb : Int} {Q : Hp} (hS : Sat w0 (gtB h p * (tblP p ps free * F)) w) (x : El) (hm : mayB x = true)
    (hP : ∀ (w1 : World) (G : Hp), Sat w0 (tblP p ps free * G) w1 → Calls Tryz.prog 169 #[vp p, ev x] w1 fun e w' => e = .returned (.tuple #[vr ra rb, vi ri]) ∧ Sat w0 (Q * G) w') :
    Calls Tryz.prog 109 #[vp h, ev x] w fun e w' => e = .returned (.tuple #[vr ra rb, vi ri]) ∧ Sat w0 (gtB h p * (Q * F)) w' := by
  have HP := Lib.hid hP
  clear hP
  have hB0 := ((hS.alloc (elO x)).alloc (.cells #[vi 0, vu 0] 30))
  rw [size1] at hB0
  have hB : Sat w0 (pc (w.heap.size + 1) 30 [vi 0, vu 0] * (elB w.heap.size x * (gtB h p * (tblP p ps free * F)))) ((w.alloc (elO x)).alloc (.cells #[vi 0, vu 0] 30)) := hB0
  have HN := Lib.hid (gt_none hB.pull3)
  have HM := g_may hB x
  rw [hm] at HM
  have HM := Lib.hid HM
  have HLd := Lib.hid (range_ hB.pull2)
  clear hB hB0 hS hm
  generalize hwb : (w.alloc (elO x)).alloc (.cells #[vi 0, vu 0] 30) = wb at *
  generalize hb1 : w.heap.size + 1 = bx at *
  generalize hb2 : w.heap.size = b2 at *
  have HW := Lib.hid hwb
  have HB1 := Lib.hid hb1
  have HB2 := Lib.hid hb2
  clear hwb hb1 hb2
  go_enter Tryz.func109, Tryz.ntmps109
  go_wp2_with fail
  rw [HW.out, HB2.out, HB1.out]
  refine HN.out.mono ?_
  rintro e w' ⟨rfl, rfl⟩
  go_wp2_with (first
    | (go_at_call 168; refine HM.out.mono ?_; rintro e w1 ⟨rfl, hS1⟩; have HP2 := Lib.hid (HP.out _ _ (hS1.drew.pull4)); have H1 := Lib.hid hS1; clear hS1)
    | (refine wpList_load_mid rfl 134 _ rfl b2 0 (by rfl) (elC x) _ HLd.out Tryz.underlying134 rfl einfo ?_))
  have hS0 : (fun w' => w'.cell? ⟨h, 0, none⟩ = some (vp p) ∧ w'.rangeAt b2 0 (elC x)) w1.drew := ⟨H1.out.drew.pull3.cell 0 rfl, range_ H1.out.drew.pull2⟩
  refine wp_region_held (S := fun w' => w'.cell? ⟨h, 0, none⟩ = some (vp p) ∧ w'.rangeAt b2 0 (elC x)) (by kernel_rfl) ?_
  change wpAnyH _ _ _ _ _ _ _ _ (World.drew _)
  refine wpAnyH_take (i := 0) (v := vp h) rfl (by kernel_rfl) (by kernel_rfl) (by kernel_rfl) (fun _ _ _ h => h) (Or.inl ⟨by rfl, fun w' hw' => by go_simp⟩) hS0 ?_
  simp only [Act.put, List.setIfInBounds_toArray, List.set_cons_zero, List.set_cons_succ]
  refine wpAnyH_take (i := 1) (v := vp h) rfl (by kernel_rfl) (by kernel_rfl) (by kernel_rfl) (fun _ _ _ h => h) (Or.inl ⟨by rfl, fun w' hw' => by go_simp⟩) hS0 ?_
  simp only [Act.put, List.setIfInBounds_toArray, List.set_cons_zero, List.set_cons_succ]
  refine wpAnyH_take (i := 2) (v := (.pointer (some ⟨h, 0, none⟩))) rfl (by kernel_rfl) (by kernel_rfl) (by kernel_rfl) (fun _ _ _ h => h) (Or.inl ⟨by rfl, fun w' hw' => by go_simp⟩) hS0 ?_
  simp only [Act.put, List.setIfInBounds_toArray, List.set_cons_zero, List.set_cons_succ]
  refine wpAnyH_take (i := 3) (v := vp p) rfl (by kernel_rfl) (by kernel_rfl) (by kernel_rfl) (fun _ _ _ h => h) (Or.inl ⟨by rfl, fun w' hw' => by (have h1 := hw'.1; go_simp)⟩) hS0 ?_
  simp only [Act.put, List.setIfInBounds_toArray, List.set_cons_zero, List.set_cons_succ]
  refine wpAnyH_take (i := 4) rfl (by kernel_rfl) (by kernel_rfl) (by kernel_rfl) (fun _ _ _ h => h) (yieldsIf_load_mid (by rfl) 134 _ rfl b2 0 (by rfl) (elC x) _ (fun w' hw' => hw'.2) Tryz.underlying134 rfl einfo) hS0 ?_
  simp only [Act.put, List.setIfInBounds_toArray, List.set_cons_zero, List.set_cons_succ]
  refine wpAnyH_ready (rs := [5]) (by kernel_rfl) (by simp) ?_
  refine AllReadyH.cons rfl (fun K hK => ?_) AllReadyH.nil
  go_simp
  refine HP2.out.mono ?_
  rintro e w2 ⟨rfl, hS2⟩
  have H2 := Lib.hid hS2
  have hS2' : (fun w' => w'.cell? ⟨h, 0, none⟩ = some (vp p) ∧ w'.rangeAt b2 0 (elC x)) w2 := ⟨hS2.pull4.cell 0 rfl, range_ hS2.pull3⟩
  have s0 := hS2.pull2.cell 0 rfl
  have s1 := hS2.pull2.cell 1 rfl
  have t0 := hS2.pull2.free 0
  have t1 := hS2.pull2.free 1
  clear hS2
  refine hK.out _ _ hS2' (fun _ => ?_)
  try simp only [Act.put, List.setIfInBounds_toArray, List.set_cons_zero, List.set_cons_succ]
  refine wpAnyH_take (i := 6) (v := vr ra rb) rfl (by kernel_rfl) (by kernel_rfl) (by kernel_rfl) (fun _ _ _ h => h) (Or.inl ⟨by rfl, fun w' hw' => by go_simp⟩) hS2' ?_
  simp only [Act.put, List.setIfInBounds_toArray, List.set_cons_zero, List.set_cons_succ]
  refine wpAnyH_take (i := 7) (v := vi ri) rfl (by kernel_rfl) (by kernel_rfl) (by kernel_rfl) (fun _ _ _ h => h) (Or.inl ⟨by rfl, fun w' hw' => by go_simp⟩) hS2' ?_
  simp only [Act.put, List.setIfInBounds_toArray, List.set_cons_zero, List.set_cons_succ]
  refine wpAnyH_ready (rs := [8]) (by kernel_rfl) (by simp) ?_
  refine AllReadyH.cons rfl (fun K' hK' => ?_) AllReadyH.nil
  go_simp
  have hst : Sat w0 (pc bx 30 [vi ra, vu rb] * (Q * (elB b2 x * (gtB h p * F)))) ((w2.setCell ⟨bx, 0, none⟩ (vi ra)).setCell ⟨bx, 1, none⟩ (vu rb)) := (H2.out.pull2.store 0 (vi ra)).store 1 (vu rb)
  generalize (w2.setCell ⟨bx, 0, none⟩ (vi ra)).setCell ⟨bx, 1, none⟩ (vu rb) = w3 at *
  have H3 := Lib.hid hst
  have hS3 : (fun w' => w'.cell? ⟨h, 0, none⟩ = some (vp p) ∧ w'.rangeAt b2 0 (elC x)) w3 := ⟨hst.pull4.cell 0 rfl, range_ hst.pull3⟩
  have u0 := hst.cell 0 rfl
  have u1 := hst.cell 1 rfl
  clear hst
  refine hK'.out _ _ hS3 (fun _ => ?_)
  try simp only [Act.put, List.setIfInBounds_toArray, List.set_cons_zero, List.set_cons_succ]
  refine wpAnyH_ready (rs := [9]) (by kernel_rfl) (by simp) ?_
  refine AllReadyH.cons rfl (fun K'' hK'' => ?_) AllReadyH.nil
  go_simp
  refine hK''.out _ _ hS3 (fun _ => ?_)
  try simp only [Act.put, List.setIfInBounds_toArray, List.set_cons_zero, List.set_cons_succ]
  refine wpAnyH_done (by kernel_rfl) ?_ _
  clear hS0 hS2' hS3 hK hK' hK'' s0 s1 t0 t1
  go_wp2
  (try simp only [Exit.inBlock, Exit.then])
  refine bodyPost_ret (v := .tuple #[vr ra rb, vi ri]) (by rw [results_cell_tmp rfl]; go_simp) rfl ?_
  exact ⟨rfl, (H3.out.dropL.drop2).pull2⟩
theorem gt_make {k : Nat} {a : Pl} (hS : Sat w0 (gtB h p * (tblP p ps (free ++ [k]) * F)) w) (hk : ps[k]? = some a) (x : El) (hm : mayB x = true) : Calls Tryz.prog 109 #[vp h, ev x] w fun e w' => e = .returned (.tuple #[vr k a.gen, vi 0]) ∧ Sat w0 (gtB h p * (tblP p (ps.set k { a with there := true, x := x }) free * F)) w' :=
  gt_make_ hS x hm (fun w1 G h1 => put_yes h1 hk x)
end
end Go.Proofs.YtdbppfcilaajaaaGreat.Gt

namespace Go.Proofs.YtdbppfcilaajaaaGreat.Nu
open Go.RowKit Rq
set_option linter.unusedVariables false
set_option linter.unusedSimpArgs false

set_option maxRecDepth 100000 in
theorem ones8 (s : Nat) (hs : s < 256) (w : World) : Calls Tryz.prog 233 #[.int .u8 s] w fun e w' => e = .returned (vi (Lib.onesCount s)) ∧ w = w' := by
  have e := Lib.pop8_eq ⟨s, hs⟩
  have l := Lib.onesCount_le8 ⟨s, hs⟩
  dsimp only at e l
  have h : wrap64 (Lib.pop8 (s : Int)) = (Lib.onesCount s : Int) := by rw [IntWalk.wrap64_in _ (by omega), e]
  have h0 : (0 : Int) ≤ s := by omega
  have h1 : (s : Int) ≤ 255 := by omega
  have H := Lib.hid h
  clear h e l
  go_enter Tryz.func233, Tryz.ntmps233
  go_wp2
  go_ret
  exact ⟨congrArg (fun x => Ending.returned (.int .i64 x)) H.out, rfl⟩
theorem num_count (s : Nat) (hs : s < 256) (w : World) : Calls Tryz.prog 203 #[.int .u8 s] w fun e w' => e = .returned (vi (Lib.onesCount s)) ∧ w = w' := by
  have H := Lib.hid (ones8 s hs w)
  go_enter Tryz.func203, Tryz.ntmps203
  go_wp2_with (go_at_call 233; refine H.out.mono ?_; rintro e w' ⟨rfl, rfl⟩)
  go_ret
  exact ⟨rfl, rfl⟩
def maskN (k : Nat) : Nat := 2 ^ k - 1
theorem mask_or : ∀ k : Fin 8, bits BinOp.or IntKind.u8 (maskN k.val : Int) ((2 ^ k.val : Nat) : Int) = (maskN (k.val + 1) : Int) := by decide +kernel
theorem mask_and : ∀ (s : Fin 256) (k : Fin 9), bits BinOp.and IntKind.u8 (s.val : Int) (maskN k.val : Int) = ((s.val &&& maskN k.val : Nat) : Int) := by decide +kernel
theorem num_with (k : Nat) (hk : k < 8) (w : World) : Calls Tryz.prog 154 #[.int .u8 (maskN k), vi k] w fun e w' => e = .returned (.int .u8 (maskN (k + 1))) ∧ w = w' := by
  have H := Lib.hid (bit_in k (by omega) w)
  have hor := mask_or ⟨k, hk⟩
  dsimp only at hor
  generalize ((2 ^ k : Nat) : Int) = b at *
  generalize (maskN k : Int) = m at *
  generalize (maskN (k + 1) : Int) = m' at *
  go_enter Tryz.func154, Tryz.ntmps154
  go_wp2_with (go_at_call 202; refine H.out.mono ?_; rintro e w' ⟨rfl, rfl⟩)
  go_ret
  exact ⟨by rw [← hor]; rfl, rfl⟩
theorem num_mask (n : Nat) (hn : n ≤ 8) (w : World) : Calls Tryz.prog 85 #[vi n] w fun e w' => e = .returned (.int .u8 (maskN n)) ∧ w = w' := by
  have h1 : ¬ (n : Int) < 0 := by omega
  have h2 : ¬ (8 : Int) < (n : Int) := by omega
  have h3 : max (n : Int) 0 = n := by omega
  have h4 : min (n : Int) 8 = n := by omega
  go_enter Tryz.func85, Tryz.ntmps85
  go_wp2
  go_loopw [8, 3] (fun i m wr => ∃ k : Nat, k ≤ n ∧ i = vi k ∧ m = .int .u8 (maskN k) ∧ w = wr) (fun i _ _ => n - (intOf i).toNat)
  case atStart => exact ⟨0, Nat.zero_le _, rfl, rfl, rfl⟩
  case round =>
    obtain ⟨k, hk, rfl, rfl, rfl⟩ := hrel
    by_cases hlt : k < n
    · have hki : (k : Int) < (n : Int) := by omega
      have HW := Lib.hid (num_with k (by omega) w)
      obtain ⟨m', hm⟩ : ∃ m' : Int, (maskN (k + 1) : Int) = m' := ⟨_, rfl⟩
      rw [hm] at HW
      have HM := Lib.hid (show Value.int .u8 m' = .int .u8 (maskN (k + 1)) by rw [hm])
      clear hm
      go_wp2_with (go_at_call 154; refine HW.out.mono ?_; rintro e w' ⟨rfl, rfl⟩)
      go_roundw
      case rel => exact ⟨k + 1, by omega, by go_num, HM.out, by trivial⟩
      case measure => simp [intOf]; omega
    · obtain rfl : k = n := by omega
      go_wp2
      go_ret
      exact ⟨rfl, rfl⟩

end Go.Proofs.YtdbppfcilaajaaaGreat.Nu

namespace Go.Proofs.YtdbppfcilaajaaaGreat.Kn
open Go.RowKit Pc
set_option linter.unusedVariables false
set_option linter.unusedSimpArgs false

section
variable {w0 w : World} {F : Hp} {b kk n0 gs g c d q1 q2 m k0 T : Nat} {pr s pl t a v : Value} {now most times : Int}
set_option maxRecDepth 100000 in
theorem spawn1 {pg : Int} {b7 b4 : Nat} {gv cv dv : Value} (h : Sat w0 (pc b7 3 [vi pg] * (pc b4 35 [vp kk] * (knB kk n0 gs pr now gv cv dv s pl t a * (prB pr * F)))) w) (h1 : 0 ≤ pg) (h2 : pg < 2) : Calls Tryz.prog 102 #[vp b7, vp b4] w fun e w' => e = .returned (vi 0) ∧ Sat w0 (pc b7 3 [vi pg] * (pc b4 35 [vp kk] * (knB kk n0 gs pr now gv cv dv s pl t a * (prB pr * F)))) w' := by
  have c7 := h.cell 0 rfl
  have c4 := h.pull2.cell 0 rfl
  have ck := h.pull3.cell 14 rfl
  obtain ⟨rv, hO⟩ := prB_open (h.cast (show _ = prB pr * (pc b7 3 [vi pg] * (pc b4 35 [vp kk] * (knB kk n0 gs pr now gv cv dv s pl t a * F))) by ac_rfl))
  obtain ⟨av, cv2, rfl⟩ := hO.rd.len
  have H := Lib.hid h
  clear h hO
  have hp : pg = 0 ∨ pg = 1 := by omega
  clear h1 h2
  rcases hp with rfl | rfl
  all_goals go_enter Tryz.func102, Tryz.ntmps102
  all_goals go_wp2
  all_goals go_quiet (fail)
  all_goals go_wp2
  all_goals go_ret
  all_goals exact ⟨rfl, H.out.drewN _⟩
end
end Go.Proofs.YtdbppfcilaajaaaGreat.Kn

namespace Go.Proofs.YtdbppfcilaajaaaGreat.Kn
open Go.RowKit Pc
set_option linter.unusedVariables false
set_option linter.unusedSimpArgs false

section
variable {w0 w : World} {F : Hp} {b kk n0 gs g c d q1 q2 m k0 T : Nat} {pr s pl t a v : Value} {now most times : Int} {gps : List Ag.Pl} {gfr dfree cfree : List Nat} {dps dps' : List Ad.Pl} {cs : List Cn.CP} {L0 : Blks} {a0 : Ag.Pl}
/-- A goroutine that is made: it can run; its domain, its context, its affinity, its program. -/
abbrev newG (di dn ci cn : Int) (af : Int) (pg : Int) : Ag.El := ⟨1, false, di, dn, ci, cn, af, pg, 0, 0, 0, 0, 0, 0, 0, 0, 0, 0, 0⟩
abbrev domD (d q2 : Nat) (dps : List Ad.Pl) (dfree : List Nat) : Hp := Dm.domB d q2 * Ad.tblP q2 dps dfree
abbrev spBX (b kk : Nat) (di dn ci cn pg : Int) : Hp := pc b 35 [vp kk] * (pc (b + 1) 30 [.int .i64 di, .int .u64 dn] * (pc (b + 1 + 1) 30 [.int .i64 ci, .int .u64 cn] * (pc (b + 1 + 1 + 1) 3 [.int .i64 pg] * pc (b + 1 + 1 + 1 + 1) 30 [.int .i64 0, .int .u64 0])))
def spawnFn (k : Nat) : Nat := if k = 0 then 102 else if k = 1 then 103 else if k = 2 then 105 else 107
def spawnCp (b : Nat) (k : Nat) : Array Value := if k = 0 then #[vp (b + 1 + 1 + 1), vp b] else if k = 1 then #[vp b, vp (b + 1)] else if k = 2 then #[vp b, vp (b + 1 + 1)] else #[vp b, vp (b + 1)]
abbrev spCB (b : Nat) : Hp := sl 89 1 (.slice (some ⟨b + 1 + 1 + 1 + 1 + 1, 0, none⟩) 4 4) 4 (cloL spawnFn (spawnCp b) 4)
theorem spawn_enter (k : Nat) (hk : k < 4) (xs : Array Value) (w : World) : (callFunc (spawnFn k) xs).run Tryz.prog w = .ok (.enter (spawnFn k) xs) w := by
  have hs : k = 0 ∨ k = 1 ∨ k = 2 ∨ k = 3 := by omega
  rcases hs with rfl | rfl | rfl | rfl
  · exact run_enter Tryz.func102 (by kernel_rfl) (by kernel_rfl) (by kernel_rfl) xs w
  · exact run_enter Tryz.func103 (by kernel_rfl) (by kernel_rfl) (by kernel_rfl) xs w
  · exact run_enter Tryz.func105 (by kernel_rfl) (by kernel_rfl) (by kernel_rfl) xs w
  · exact run_enter Tryz.func107 (by kernel_rfl) (by kernel_rfl) (by kernel_rfl) xs w
/-- The closures one behind the other. -/
theorem spawn_first {di dn ci cn pg : Int} {G : Hp} (hI : Cn.Inv m most T cs cfree times)
    (h : Sat w0 (spCB b * (spBX b kk di dn ci cn pg * (knB kk n0 gs pr now (vp g) (vp c) (vp d) s pl t a * (G * (Cn.cxQ L0 c most cs cfree * (domD d q2 dps dfree * (prB pr * F))))))) w)
    (h1 : 0 ≤ pg) (h2 : pg < 2) (hd : Ad.getE dps di dn = 0) (hc : Cn.eC cs ci cn = 0)
    (hj : ∀ (H : Hp) (w : World), Sat w0 (Dm.domB d q2 * (Ad.tblP q2 dps dfree * H)) w → Calls Tryz.prog 108 #[vp d, Ad.vr di dn] w fun e w' => e = .returned (vi 0) ∧ Sat w0 (Dm.domB d q2 * (Ad.tblP q2 dps' dfree * H)) w') :
    Calls Tryz.prog 33 #[.slice (some ⟨b + 1 + 1 + 1 + 1 + 1, 0, none⟩) 4 4] w fun e w' => e = .returned (vi 0) ∧ Sat w0 (spCB b * (spBX b kk di dn ci cn pg * (knB kk n0 gs pr now (vp g) (vp c) (vp d) s pl t a * (G * (Cn.cxQ L0 c most cs cfree * (domD d q2 dps' dfree * (prB pr * F))))))) w' := by
  refine (jfirst (n := 4) (fn := spawnFn) (cp := spawnCp b) (J := fun k w' => Sat w0 (spCB b * (spBX b kk di dn ci cn pg * (knB kk n0 gs pr now (vp g) (vp c) (vp d) s pl t a * (G * (Cn.cxQ L0 c most cs cfree * (domD d q2 (if k = 4 then dps' else dps) dfree * (prB pr * F))))))) w') (by omega) h (fun k hk w hw => ?_) spawn_enter (fun k hk w hw => ?_)).mono ?_
  · exact Sat.slCell hw k (by
      have := rowsN_at (row := fun k => [.func (.func (spawnFn k)) #[] (spawnCp b k)]) (N := 1) (n := 4) (k := k) (j := 0) (v := .func (.func (spawnFn k)) #[] (spawnCp b k)) (fun _ => rfl) hk rfl
      simpa using this)
  · have hs : k = 0 ∨ k = 1 ∨ k = 2 ∨ k = 3 := by omega
    rcases hs with rfl | rfl | rfl | rfl
    · have hw : Sat w0 (spCB b * (spBX b kk di dn ci cn pg * (knB kk n0 gs pr now (vp g) (vp c) (vp d) s pl t a * (G * (Cn.cxQ L0 c most cs cfree * (domD d q2 dps dfree * (prB pr * F))))))) w := hw
      refine (spawn1 (hw.cast (show _ = pc (b + 1 + 1 + 1) 3 [vi pg] * (pc b 35 [vp kk] * (knB kk n0 gs pr now (vp g) (vp c) (vp d) s pl t a * (prB pr * (spCB b * (pc (b + 1) 30 [.int .i64 di, .int .u64 dn] * (pc (b + 1 + 1) 30 [.int .i64 ci, .int .u64 cn] * (pc (b + 1 + 1 + 1 + 1) 30 [.int .i64 0, .int .u64 0] * (G * (Cn.cxQ L0 c most cs cfree * (domD d q2 dps dfree * F)))))))))) from (by simp only [spBX]; ac_rfl))) h1 h2).mono ?_
      rintro e w' ⟨rfl, h'⟩
      exact ⟨rfl, h'.cast (show _ = spCB b * (spBX b kk di dn ci cn pg * (knB kk n0 gs pr now (vp g) (vp c) (vp d) s pl t a * (G * (Cn.cxQ L0 c most cs cfree * (domD d q2 dps dfree * (prB pr * F)))))) by simp only [spBX]; ac_rfl)⟩
    · have hw : Sat w0 (spCB b * (spBX b kk di dn ci cn pg * (knB kk n0 gs pr now (vp g) (vp c) (vp d) s pl t a * (G * (Cn.cxQ L0 c most cs cfree * (domD d q2 dps dfree * (prB pr * F))))))) w := hw
      refine (Dm.spawn2 (F := prB pr * (spCB b * (pc (b + 1 + 1 + 1) 3 [vi pg] * (pc (b + 1 + 1) 30 [.int .i64 ci, .int .u64 cn] * (pc (b + 1 + 1 + 1 + 1) 30 [.int .i64 0, .int .u64 0] * (G * (Cn.cxQ L0 c most cs cfree * F))))))) (hw.cast (show _ = Dm.spC b (b + 1) kk n0 gs d di dn now pr (vp g) (vp c) s pl t a (Dm.domB d q2 * (Ad.tblP q2 dps dfree * (prB pr * (spCB b * (pc (b + 1 + 1 + 1) 3 [vi pg] * (pc (b + 1 + 1) 30 [.int .i64 ci, .int .u64 cn] * (pc (b + 1 + 1 + 1 + 1) 30 [.int .i64 0, .int .u64 0] * (G * (Cn.cxQ L0 c most cs cfree * F))))))))) from (by simp only [spBX, Dm.spC, domD]; ac_rfl))) hd).mono ?_
      rintro e w' ⟨rfl, h'⟩
      exact ⟨rfl, h'.cast (show _ = spCB b * (spBX b kk di dn ci cn pg * (knB kk n0 gs pr now (vp g) (vp c) (vp d) s pl t a * (G * (Cn.cxQ L0 c most cs cfree * (domD d q2 dps dfree * (prB pr * F)))))) by simp only [spBX, Dm.spC, domD]; ac_rfl)⟩
    · have hw : Sat w0 (spCB b * (spBX b kk di dn ci cn pg * (knB kk n0 gs pr now (vp g) (vp c) (vp d) s pl t a * (G * (Cn.cxQ L0 c most cs cfree * (domD d q2 dps dfree * (prB pr * F))))))) w := hw
      refine (Cn.spawn3 (F := prB pr * (spCB b * (pc (b + 1 + 1 + 1) 3 [vi pg] * (pc (b + 1) 30 [.int .i64 di, .int .u64 dn] * (pc (b + 1 + 1 + 1 + 1) 30 [.int .i64 0, .int .u64 0] * (G * (domD d q2 dps dfree * F))))))) hI (hw.cast (show _ = Cn.spC b (b + 1 + 1) kk n0 gs c ci cn now pr (vp g) (vp d) s pl t a (Cn.cxQ L0 c most cs cfree * (prB pr * (spCB b * (pc (b + 1 + 1 + 1) 3 [vi pg] * (pc (b + 1) 30 [.int .i64 di, .int .u64 dn] * (pc (b + 1 + 1 + 1 + 1) 30 [.int .i64 0, .int .u64 0] * (G * (domD d q2 dps dfree * F)))))))) from (by simp only [spBX, Cn.spC, domD]; ac_rfl))) hc).mono ?_
      rintro e w' ⟨rfl, h'⟩
      exact ⟨rfl, h'.cast (show _ = spCB b * (spBX b kk di dn ci cn pg * (knB kk n0 gs pr now (vp g) (vp c) (vp d) s pl t a * (G * (Cn.cxQ L0 c most cs cfree * (domD d q2 dps dfree * (prB pr * F)))))) by simp only [spBX, Cn.spC, domD]; ac_rfl)⟩
    · have hw : Sat w0 (spCB b * (spBX b kk di dn ci cn pg * (knB kk n0 gs pr now (vp g) (vp c) (vp d) s pl t a * (G * (Cn.cxQ L0 c most cs cfree * (domD d q2 dps dfree * (prB pr * F))))))) w := hw
      refine (Dm.spawn4 (F := prB pr * (spCB b * (pc (b + 1 + 1 + 1) 3 [vi pg] * (pc (b + 1 + 1) 30 [.int .i64 ci, .int .u64 cn] * (pc (b + 1 + 1 + 1 + 1) 30 [.int .i64 0, .int .u64 0] * (G * (Cn.cxQ L0 c most cs cfree * F))))))) (hw.cast (show _ = Dm.spC b (b + 1) kk n0 gs d di dn now pr (vp g) (vp c) s pl t a (Dm.domB d q2 * (Ad.tblP q2 dps dfree * (prB pr * (spCB b * (pc (b + 1 + 1 + 1) 3 [vi pg] * (pc (b + 1 + 1) 30 [.int .i64 ci, .int .u64 cn] * (pc (b + 1 + 1 + 1 + 1) 30 [.int .i64 0, .int .u64 0] * (G * (Cn.cxQ L0 c most cs cfree * F))))))))) from (by simp only [spBX, Dm.spC, domD]; ac_rfl))) hj).mono ?_
      rintro e w' ⟨rfl, h'⟩
      exact ⟨rfl, h'.cast (show _ = spCB b * (spBX b kk di dn ci cn pg * (knB kk n0 gs pr now (vp g) (vp c) (vp d) s pl t a * (G * (Cn.cxQ L0 c most cs cfree * (domD d q2 dps' dfree * (prB pr * F)))))) by simp only [spBX, Dm.spC, domD]; ac_rfl)⟩
  · rintro e w' ⟨rfl, h'⟩
    exact ⟨rfl, h'⟩
end
end Go.Proofs.YtdbppfcilaajaaaGreat.Kn

namespace Go.Proofs.YtdbppfcilaajaaaGreat.Kn
open Go.RowKit Pc
set_option linter.unusedVariables false
set_option linter.unusedSimpArgs false

section
variable {w0 w : World} {F : Hp} {b kk n0 gs g c d q1 q2 m k0 T : Nat} {pr s pl t a v : Value} {now most times : Int} {gps : List Ag.Pl} {gfr dfree cfree : List Nat} {dps dps' : List Ad.Pl} {cs : List Cn.CP} {L0 : Blks} {a0 : Ag.Pl}
abbrev spLay (b kk n0 gs : Nat) (pr : Value) (now : Int) (gv cv dv s pl t a : Value) (di dn ci cn pg x y : Int) (X : Hp) : Hp := pc (b + 1 + 1 + 1 + 1) 30 [.int .i64 x, .int .u64 y] * (knB kk n0 gs pr now gv cv dv s pl t a * (pc b 35 [vp kk] * (pc (b + 1) 30 [.int .i64 di, .int .u64 dn] * (pc (b + 1 + 1) 30 [.int .i64 ci, .int .u64 cn] * (pc (b + 1 + 1 + 1) 3 [.int .i64 pg] * X)))))
abbrev spS4 (b kk n0 : Nat) (gv : Value) (di dn ci cn pg : Int) (w' : World) : Prop := w'.cell? ⟨b, 0, none⟩ = some (vp kk) ∧ w'.cell? ⟨kk, 16, none⟩ = some gv ∧ w'.cell? ⟨kk, 0, none⟩ = some (.int .i64 (n0 : Int)) ∧ w'.cell? ⟨b + 1, 0, none⟩ = some (.int .i64 di) ∧ w'.cell? ⟨b + 1, 1, none⟩ = some (.int .u64 dn) ∧ w'.cell? ⟨b + 1 + 1, 0, none⟩ = some (.int .i64 ci) ∧ w'.cell? ⟨b + 1 + 1, 1, none⟩ = some (.int .u64 cn) ∧ w'.cell? ⟨b + 1 + 1 + 1, 0, none⟩ = some (.int .i64 pg)
abbrev spS8 (b kk : Nat) (cv : Value) (ci cn x y : Int) (w' : World) : Prop := w'.cell? ⟨b, 0, none⟩ = some (vp kk) ∧ w'.cell? ⟨kk, 17, none⟩ = some cv ∧ w'.cell? ⟨b + 1 + 1, 0, none⟩ = some (.int .i64 ci) ∧ w'.cell? ⟨b + 1 + 1, 1, none⟩ = some (.int .u64 cn) ∧ w'.cell? ⟨b + 1 + 1 + 1 + 1, 0, none⟩ = some (.int .i64 x) ∧ w'.cell? ⟨b + 1 + 1 + 1 + 1, 1, none⟩ = some (.int .u64 y)
theorem lay_S4 {gv cv dv : Value} {di dn ci cn pg x y : Int} {X : Hp} (h : Sat w0 (spLay b kk n0 gs pr now gv cv dv s pl t a di dn ci cn pg x y X) w) : spS4 b kk n0 gv di dn ci cn pg w :=
  have h3 := h.dropL.dropL.dropL
  ⟨h.pull3.cell 0 rfl, h.pull2.cell 16 rfl, h.pull2.cell 0 rfl, h3.cell 0 rfl, h3.cell 1 rfl, h3.pull2.cell 0 rfl, h3.pull2.cell 1 rfl, h3.pull3.cell 0 rfl⟩
theorem lay_S8 {gv cv dv : Value} {di dn ci cn pg x y : Int} {X : Hp} (h : Sat w0 (spLay b kk n0 gs pr now gv cv dv s pl t a di dn ci cn pg x y X) w) : spS8 b kk cv ci cn x y w :=
  have h3 := h.dropL.dropL.dropL
  ⟨h.pull3.cell 0 rfl, h.pull2.cell 17 rfl, h3.pull2.cell 0 rfl, h3.pull2.cell 1 rfl, h.cell 0 rfl, h.cell 1 rfl⟩
set_option maxRecDepth 100000 in
set_option maxHeartbeats 8000000 in
theorem spawn_ {di dn ci cn pg : Int} (hI : Cn.Inv m most T cs cfree times) (hT : T ≤ 100000) (hn0 : n0 ≤ 8)
    (h : Sat w0 (knB kk n0 gs pr now (vp g) (vp c) (vp d) s pl t a * (Gt.gtB g q1 * (Ag.tblP q1 gps (gfr ++ [k0]) * (Cn.cxQ L0 c most cs cfree * (domD d q2 dps dfree * (prB pr * F)))))) w)
    (h1 : 0 ≤ pg) (h2 : pg < 2) (hd : Ad.getE dps di dn = 0) (hc : Cn.eC cs ci cn = 0) (hb : Cn.bindE cs ci cn 1 = 0)
    (hj : ∀ (H : Hp) (w : World), Sat w0 (Dm.domB d q2 * (Ad.tblP q2 dps dfree * H)) w → Calls Tryz.prog 108 #[vp d, Ad.vr di dn] w fun e w' => e = .returned (vi 0) ∧ Sat w0 (Dm.domB d q2 * (Ad.tblP q2 dps' dfree * H)) w')
    (hk : gps[k0]? = some a0) :
    Calls Tryz.prog 49 #[vp kk, .agg #[.int .i64 di, .int .u64 dn], .agg #[.int .i64 ci, .int .u64 cn], .int .i64 pg] w fun e w' => e = .returned (.tuple #[.agg #[.int .i64 (k0 : Int), .int .u64 a0.gen], vi 0]) ∧ Sat w0 (knB kk n0 gs pr now (vp g) (vp c) (vp d) s pl t a * (Gt.gtB g q1 * (Ag.tblP q1 (gps.set k0 { a0 with there := true, x := newG di dn ci cn (Nu.maskN n0) pg }) gfr * (Cn.cxQ L0 c most (Cn.bindL cs ci cn 1) cfree * (domD d q2 dps' dfree * (prB pr * F)))))) w' := by
  have HMk := Lib.hid (Nu.num_mask n0 hn0)
  have hmB : Gt.mayB (newG di dn ci cn (Nu.maskN n0) pg) = true := by
    refine decide_eq_true ⟨show (1 : Int) ≤ 1 by decide, show (1 : Int) ≤ 6 by decide, show (0 : Int) ≤ 1152921504606846976 by decide, .inl rfl, h1, show (0 : Int) ≤ 0 by decide, fun h => absurd (show (1 : Int) = 5 from h) (by decide), fun _ => rfl⟩
  have HMB := Lib.hid hmB
  have HK := Lib.hid hk
  have HBd := Lib.hid (Cn.Inv.bind (i := ci) (g := cn) hI 1 (by omega))
  have HI := Lib.hid hI
  have HT := Lib.hid hT
  have HB0 := Lib.hid hb
  obtain ⟨b, hb⟩ : ∃ b, b = w.heap.size := ⟨_, rfl⟩
  have a1 := h.alloc (.cells #[vp kk] 35)
  have a2 := a1.alloc (.cells #[.int .i64 di, .int .u64 dn] 30)
  rw [sizeK] at a2
  have a3 := a2.alloc (.cells #[.int .i64 ci, .int .u64 cn] 30)
  rw [sizeK, sizeK] at a3
  have a4 := a3.alloc (.cells #[.int .i64 pg] 3)
  rw [sizeK, sizeK, sizeK] at a4
  have a5 := a4.alloc (.cells #[.int .i64 0, .int .u64 0] 30)
  rw [sizeK, sizeK, sizeK, sizeK] at a5
  have a6 := a5.alloc (.cells (cloL spawnFn (spawnCp w.heap.size) 4).toArray 89)
  rw [sizeK, sizeK, sizeK, sizeK, sizeK] at a6
  have a7 := Sat.slI (g := w.heap.size + 1 + 1 + 1 + 1 + 1) (cur := cloL spawnFn (spawnCp w.heap.size) 4) (n := 4) (cap := 4) (size := 1) a6 (by omega) (by unfold maxLen; omega) (Nat.le_of_eq (rowsN_len (N := 1) (fun _ => rfl) 4).symm) (List.take_of_length_le (Nat.le_of_eq (rowsN_len (N := 1) (fun _ => rfl) 4)))
  have HF := Lib.hid (spawn_first (G := Gt.gtB g q1 * Ag.tblP q1 gps (gfr ++ [k0])) (F := F) hI (a7.cast (show _ = spCB w.heap.size * (spBX w.heap.size kk di dn ci cn pg * (knB kk n0 gs pr now (vp g) (vp c) (vp d) s pl t a * ((Gt.gtB g q1 * Ag.tblP q1 gps (gfr ++ [k0])) * (Cn.cxQ L0 c most cs cfree * (domD d q2 dps dfree * (prB pr * F)))))) by simp only [spBX, spCB, pc]; ac_rfl)) h1 h2 hd hc hj)
  clear h a1 a2 a3 a4 a5 a6 a7 h1 h2 hd hc hj hI hT hk hmB hb
  go_enter Tryz.func49, Tryz.ntmps49
  go_wp2_with (go_at_call 33; refine HF.out.mono ?_; rintro e w1 ⟨rfl, hS1⟩; have HS1 := Lib.hid hS1; clear hS1)
  generalize w.heap.size = b at *
  have hE := HS1.out.drew.cast (show _ = spLay b kk n0 gs pr now (vp g) (vp c) (vp d) s pl t a di dn ci cn pg 0 0 (Gt.gtB g q1 * (Ag.tblP q1 gps (gfr ++ [k0]) * (Cn.cxQ L0 c most cs cfree * (domD d q2 dps' dfree * (prB pr * (spCB b * F)))))) by simp only [spBX, spLay]; ac_rfl)
  have T0 := Lib.hid (lay_S4 hE)
  have HM := Lib.hid (Gt.gt_make (hE.cast (show _ = Gt.gtB g q1 * (Ag.tblP q1 gps (gfr ++ [k0]) * spLay b kk n0 gs pr now (vp g) (vp c) (vp d) s pl t a di dn ci cn pg 0 0 (Cn.cxQ L0 c most cs cfree * (domD d q2 dps' dfree * (prB pr * (spCB b * F))))) by simp only [spLay]; ac_rfl)) HK.out (newG di dn ci cn (Nu.maskN n0) pg) HMB.out)
  clear hE
  go_region_held3 (spS4 b kk n0 (vp g) di dn ci cn pg)
    (first | (with_reducible exact T2.out) | (with_reducible exact T1.out) | (with_reducible exact T0.out))
    (first
      | (go_at_call 85; refine (HMk.out _).mono ?_; rintro e w' ⟨rfl, rfl⟩)
      | (go_at_call 109; refine HM.out.mono ?_; rintro e w2 ⟨rfl, hS2⟩; have hE := hS2.cast (show _ = spLay b kk n0 gs pr now (vp g) (vp c) (vp d) s pl t a di dn ci cn pg 0 0 (Gt.gtB g q1 * (Ag.tblP q1 (gps.set k0 { a0 with there := true, x := newG di dn ci cn (Nu.maskN n0) pg }) gfr * (Cn.cxQ L0 c most cs cfree * (domD d q2 dps' dfree * (prB pr * (spCB b * F)))))) from (by simp only [spLay]; ac_rfl)); have T1 := Lib.hid (lay_S4 hE); have x0 := hE.cell 0 rfl; have x1 := hE.cell 1 rfl; have y0 := hE.free 0; have y1 := hE.free 1; have hst := (hE.store 0 (.int .i64 (k0 : Int))).store 1 (.int .u64 a0.gen); have T2 := Lib.hid (lay_S4 hst); have E2 := Lib.hid hst; clear hS2 hE hst))
  go_wp2_with fail
  have hE := E2.out.drew
  generalize (w2.setCell ⟨b + 1 + 1 + 1 + 1, 0, none⟩ (.int .i64 (k0 : Int))).setCell ⟨b + 1 + 1 + 1 + 1, 1, none⟩ (.int .u64 a0.gen) = w3 at *
  have U0 := Lib.hid (lay_S8 hE)
  have HB := Lib.hid (Cn.p_bind HI.out HT.out (hE.cast (show _ = Cn.cxQ L0 c most cs cfree * spLay b kk n0 gs pr now (vp g) (vp c) (vp d) s pl t a di dn ci cn pg k0 a0.gen (Gt.gtB g q1 * (Ag.tblP q1 (gps.set k0 { a0 with there := true, x := newG di dn ci cn (Nu.maskN n0) pg }) gfr * (domD d q2 dps' dfree * (prB pr * (spCB b * F))))) by simp only [spLay, List.set_cons_zero, List.set_cons_succ]; ac_rfl)) ci cn)
  rw [HB0.out] at HB
  clear hE
  go_region_held3 (spS8 b kk (vp c) ci cn k0 a0.gen)
    (first | (with_reducible exact U2.out) | (with_reducible exact U1.out) | (with_reducible exact U0.out))
    (first
      | (go_at_call 111; refine HB.out.mono ?_; rintro e w4 ⟨rfl, hS4⟩; have hE := hS4.cast (show _ = spLay b kk n0 gs pr now (vp g) (vp c) (vp d) s pl t a di dn ci cn pg k0 a0.gen (Gt.gtB g q1 * (Ag.tblP q1 (gps.set k0 { a0 with there := true, x := newG di dn ci cn (Nu.maskN n0) pg }) gfr * (Cn.cxQ L0 c most (Cn.bindL cs ci cn 1) cfree * (domD d q2 dps' dfree * (prB pr * (spCB b * F)))))) from (by simp only [spLay]; ac_rfl)); have U1 := Lib.hid (lay_S8 hE); have x2 := hE.cell 0 rfl; have x3 := hE.cell 1 rfl; have y2 := hE.free 0; have y3 := hE.free 1; have hst := (hE.store 0 (.int .i64 (k0 : Int))).store 1 (.int .u64 a0.gen); have z0 := hst.cell 0 rfl; have z1 := hst.cell 1 rfl; have U2 := Lib.hid (lay_S8 hst); have E4 := Lib.hid hst; clear hS4 hE hst))
  go_wp2_with fail
  (try simp only [Exit.inBlock, Exit.then])
  refine bodyPost_ret (v := .tuple #[.agg #[.int .i64 (k0 : Int), .int .u64 a0.gen], vi 0]) (by rw [results_cell_tmp rfl]; go_simp) rfl ?_
  refine ⟨rfl, ?_⟩
  have hF := E4.out.dropL.cast (show _ = pc b 35 [vp kk] * (pc (b + 1) 30 [.int .i64 di, .int .u64 dn] * (pc (b + 1 + 1) 30 [.int .i64 ci, .int .u64 cn] * (pc (b + 1 + 1 + 1) 3 [.int .i64 pg] * (spCB b * (knB kk n0 gs pr now (vp g) (vp c) (vp d) s pl t a * (Gt.gtB g q1 * (Ag.tblP q1 (gps.set k0 { a0 with there := true, x := newG di dn ci cn (Nu.maskN n0) pg }) gfr * (Cn.cxQ L0 c most (Cn.bindL cs ci cn 1) cfree * (domD d q2 dps' dfree * (prB pr * F)))))))))) by ac_rfl)
  exact hF.dropL.dropL.dropL.dropL.dropL
end
end Go.Proofs.YtdbppfcilaajaaaGreat.Kn
