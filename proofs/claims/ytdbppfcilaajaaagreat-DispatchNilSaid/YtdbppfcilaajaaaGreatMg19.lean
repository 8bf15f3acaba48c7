/-
  Package kernel: g, Config. No statement is proved here.
-/
import Derived.Test.YtdbppfcilaajaaaGreatMg16
import Derived.Test.YtdbppfcilaajaaaGreatMg18
import Derived.Test.YtdbppfcilaajaaaGreatMg8
import Derived.Test.YtdbppfcilaajaaaGreatMg9
import Derived.Deep.RegionLaw
set_option linter.unusedVariables false
set_option linter.unusedSimpArgs false
namespace Go.Proofs.YtdbppfcilaajaaaGreat.Gt
open Go.RowKit Ag
open Kn (knB knL cfgL k_none prB)
set_option linter.unusedVariables false
set_option linter.unusedSimpArgs false

section
variable {w0 w : World} {F : Hp} {h p kk n0 gs : Nat} {ps : List Pl} {free : List Nat} {pr c d s pl t a : Value} {now : Int}
set_option maxRecDepth 100000 in
set_option maxHeartbeats 2000000 in
theorem k_g (hS : Sat w0 (knB kk n0 gs pr now (vp h) c d s pl t a * (gtB h p * (tblP p ps free * F))) w) (i g : Int) : Calls Tryz.prog 78 #[vp kk, vr i g] w fun e w' => e = .returned (.tuple #[ev (getX ps i g), vi (getE ps i g)]) ∧ Sat w0 (knB kk n0 gs pr now (vp h) c d s pl t a * (gtB h p * (tblP p ps free * F))) w' := by
  have hB0 := ((hS.alloc (.cells #[vi i, vu g] 30)).alloc (elO ez))
  rw [size1] at hB0
  have hB : Sat w0 (elB (w.heap.size + 1) ez * (pc w.heap.size 30 [vi i, vu g] * (knB kk n0 gs pr now (vp h) c d s pl t a * (gtB h p * (tblP p ps free * F))))) ((w.alloc (.cells #[vi i, vu g] 30)).alloc (elO ez)) := hB0
  have HN := Lib.hid (k_none hB.pull3)
  have HG := Lib.hid (gt_get (hB.drew.cast (show _ = gtB h p * (tblP p ps free * (elB (w.heap.size + 1) ez * (pc w.heap.size 30 [vi i, vu g] * (knB kk n0 gs pr now (vp h) c d s pl t a * F)))) by ac_rfl)) i g)
  have HB := Lib.hid hB
  clear hB hB0 hS
  generalize hwb : (w.alloc (.cells #[vi i, vu g] 30)).alloc (elO ez) = wb at *
  generalize hb1 : w.heap.size + 1 = bx at *
  generalize hb2 : w.heap.size = b2 at *
  have HW := Lib.hid hwb
  have HB1 := Lib.hid hb1
  have HB2 := Lib.hid hb2
  clear hwb hb1 hb2
  generalize getX ps i g = x at *
  generalize getE ps i g = er at *
  go_enter Tryz.func78, Tryz.ntmps78
  go_wp2_with fail
  rw [HW.out, HB2.out, HB1.out]
  refine HN.out.mono ?_
  rintro e w' ⟨rfl, rfl⟩
  go_wp2
  have hS0 : (fun w' => w'.cell? ⟨kk, 16, none⟩ = some (vp h) ∧ w'.cell? ⟨b2, 0, none⟩ = some (vi i) ∧ w'.cell? ⟨b2, 1, none⟩ = some (vu g)) wb.drew := ⟨HB.out.drew.pull3.cell 16 rfl, HB.out.drew.pull2.cell 0 rfl, HB.out.drew.pull2.cell 1 rfl⟩
  refine wp_region_held (S := fun w' => w'.cell? ⟨kk, 16, none⟩ = some (vp h) ∧ w'.cell? ⟨b2, 0, none⟩ = some (vi i) ∧ w'.cell? ⟨b2, 1, none⟩ = some (vu g)) (by kernel_rfl) ?_
  change wpAnyH _ _ _ _ _ _ _ _ (World.drew _)
  refine wpAnyH_take (i := 0) (v := vp kk) rfl (by kernel_rfl) (by kernel_rfl) (by kernel_rfl) (fun _ _ _ h => h) (Or.inl ⟨by rfl, fun w' hw' => by go_simp⟩) hS0 ?_
  simp only [Act.put, List.setIfInBounds_toArray, List.set_cons_zero, List.set_cons_succ]
  refine wpAnyH_take (i := 1) (v := vp kk) rfl (by kernel_rfl) (by kernel_rfl) (by kernel_rfl) (fun _ _ _ h => h) (Or.inl ⟨by rfl, fun w' hw' => by go_simp⟩) hS0 ?_
  simp only [Act.put, List.setIfInBounds_toArray, List.set_cons_zero, List.set_cons_succ]
  refine wpAnyH_take (i := 2) (v := (.pointer (some ⟨kk, 16, none⟩))) rfl (by kernel_rfl) (by kernel_rfl) (by kernel_rfl) (fun _ _ _ h => h) (Or.inl ⟨by rfl, fun w' hw' => by go_simp⟩) hS0 ?_
  simp only [Act.put, List.setIfInBounds_toArray, List.set_cons_zero, List.set_cons_succ]
  refine wpAnyH_take (i := 3) (v := vp h) rfl (by kernel_rfl) (by kernel_rfl) (by kernel_rfl) (fun _ _ _ h => h) (Or.inl ⟨by rfl, fun w' hw' => by (have h1 := hw'.1; go_simp)⟩) hS0 ?_
  simp only [Act.put, List.setIfInBounds_toArray, List.set_cons_zero, List.set_cons_succ]
  refine wpAnyH_take (i := 4) (v := vr i g) rfl (by kernel_rfl) (by kernel_rfl) (by kernel_rfl) (fun _ _ _ h => h) (Or.inl ⟨by rfl, fun w' hw' => by (have h1 := hw'.2.1; have h2 := hw'.2.2; go_simp)⟩) hS0 ?_
  simp only [Act.put, List.setIfInBounds_toArray, List.set_cons_zero, List.set_cons_succ]
  refine wpAnyH_ready (rs := [5]) (by kernel_rfl) (by simp) ?_
  refine AllReadyH.cons rfl (fun K hK => ?_) AllReadyH.nil
  go_simp
  refine HG.out.mono ?_
  rintro e w1 ⟨rfl, hS1⟩
  have HX := Lib.hid (hS1.cast (show _ = elB bx ez * (pc b2 30 [vi i, vu g] * (knB kk n0 gs pr now (vp h) c d s pl t a * (gtB h p * (tblP p ps free * F)))) by ac_rfl))
  have hS1' : (fun w' => w'.cell? ⟨kk, 16, none⟩ = some (vp h) ∧ w'.cell? ⟨b2, 0, none⟩ = some (vi i) ∧ w'.cell? ⟨b2, 1, none⟩ = some (vu g)) w1 := ⟨HX.out.pull3.cell 16 rfl, HX.out.pull2.cell 0 rfl, HX.out.pull2.cell 1 rfl⟩
  clear hS1
  refine hK.out _ _ hS1' (fun _ => ?_)
  try simp only [Act.put, List.setIfInBounds_toArray, List.set_cons_zero, List.set_cons_succ]
  refine wpAnyH_take (i := 6) (v := ev x) rfl (by kernel_rfl) (by kernel_rfl) (by kernel_rfl) (fun _ _ _ h => h) (Or.inl ⟨by rfl, fun w' hw' => by go_simp⟩) hS1' ?_
  simp only [Act.put, List.setIfInBounds_toArray, List.set_cons_zero, List.set_cons_succ]
  refine wpAnyH_take (i := 7) (v := vi er) rfl (by kernel_rfl) (by kernel_rfl) (by kernel_rfl) (fun _ _ _ h => h) (Or.inl ⟨by rfl, fun w' hw' => by go_simp⟩) hS1' ?_
  simp only [Act.put, List.setIfInBounds_toArray, List.set_cons_zero, List.set_cons_succ]
  refine wpAnyH_ready (rs := [8]) (by kernel_rfl) (by simp) ?_
  refine AllReadyH.cons rfl (fun K' hK' => ?_) AllReadyH.nil
  rw [if_pos (by rfl)]
  have hth := there_ (n := 19) HX.out rfl
  have hrg := World.rangeAt_setCells_same w1 bx 0 (elC x) hth
  have hst : Sat w0 _ (w1.setCells bx 0 (elC x)) := HX.out.stores (elC x) 0
  refine wp_store_mid 134 _ _ rfl bx 0 (elC x).toArray (by rfl) (by rfl) hth einfo (all_oneCell_toArray (elOne x)) ?_
  have hst2 : Sat w0 _ (w1.setCells bx 0 (elC x).toArray.toList) := hst
  have hrg : (w1.setCells bx 0 (elC x).toArray.toList).rangeAt bx 0 (elC x) := hrg
  generalize w1.setCells bx 0 (elC x).toArray.toList = w2 at *
  have HX2 := Lib.hid hst2
  have hS2 : (fun w' => w'.cell? ⟨kk, 16, none⟩ = some (vp h) ∧ w'.cell? ⟨b2, 0, none⟩ = some (vi i) ∧ w'.cell? ⟨b2, 1, none⟩ = some (vu g)) w2 := ⟨HX2.out.pull3.cell 16 rfl, HX2.out.pull2.cell 0 rfl, HX2.out.pull2.cell 1 rfl⟩
  clear hst hst2 hth
  refine hK'.out _ _ hS2 (fun _ => ?_)
  try simp only [Act.put, List.setIfInBounds_toArray, List.set_cons_zero, List.set_cons_succ]
  refine wpAnyH_ready (rs := [9]) (by kernel_rfl) (by simp) ?_
  refine AllReadyH.cons rfl (fun K'' hK'' => ?_) AllReadyH.nil
  go_simp
  refine hK''.out _ _ hS2 (fun _ => ?_)
  try simp only [Act.put, List.setIfInBounds_toArray, List.set_cons_zero, List.set_cons_succ]
  refine wpAnyH_done (by kernel_rfl) ?_ _
  clear hS0 hS1' hS2 hK hK' hK''
  go_wp2
  (try simp only [Exit.inBlock, Exit.then])
  refine bodyPost_ret (v := .tuple #[ev x, vi er]) (results_row rfl _ _ _ rfl rfl hrg Tryz.underlying134 rfl einfo) rfl ?_
  exact ⟨rfl, HX2.out.dropL.dropL⟩
end
end Go.Proofs.YtdbppfcilaajaaaGreat.Gt
namespace Go.Proofs.YtdbppfcilaajaaaGreat.Kn
open Go.RowKit Pc
section
variable {w0 w : World} {F : Hp} {k ps gs g : Nat} {pr c d s p t a : Value} {now : Int}
theorem cfgRange (h : Sat w0 (knB k ps gs pr now (vp g) c d s p t a * F) w) : w.rangeAt k 0 (cfgL ps gs pr) := fun j v hv => by
  rw [Nat.zero_add]
  exact h.cell j (by rw [knL, List.getElem?_append_left (List.getElem?_eq_some_iff.1 hv).1]; exact hv)
set_option maxRecDepth 100000 in
set_option maxHeartbeats 4000000 in
theorem k_config (h : Sat w0 (knB k ps gs pr now (vp g) c d s p t a * (prB pr * F)) w) : Calls Tryz.prog 24 #[vp k] w fun e w' => ∃ pr', e = .returned (.agg (cfgL ps gs pr').toArray) ∧ Sat w0 (knB k ps gs pr now (vp g) c d s p t a * (prB pr * F)) w' := by
  have hA : Sat w0 (pc w.heap.size 27 zC * (knB k ps gs pr now (vp g) c d s p t a * (prB pr * F))) (w.alloc (.cells #[.int .i64 0, .int .i64 0, .int .i64 0, .int .i64 0, .int .i64 0, .int .i64 0, .int .i64 0, .int .i64 0, .int .i64 0, .int .i64 0, .int .u64 0, .int .u64 0, .int .u64 0, .int .u64 0, .slice none 0 0] 27)) := h.alloc _
  have HN := Lib.hid (k_none hA.pull2)
  have HR := Lib.hid (cfgRange hA.pull2)
  have HC := Lib.hid (Copy_ (ps := ps) (gs := gs) hA.pull3)
  have hi : (Tryz.prog.info? 27).map (·.size) = some 15 := by kernel_rfl
  clear h hA
  go_enter Tryz.func24, Tryz.ntmps24
  go_wp2_with (first
    | (go_at_call 65; refine HN.out.mono ?_; rintro e w' ⟨rfl, rfl⟩)
    | (refine wpList_load_mid rfl 27 _ rfl k 0 (by rfl) (cfgL ps gs pr) _ HR.out Tryz.underlying27 rfl hi ?_)
    | (go_at_call 31; refine HC.out.mono ?_; rintro e w1 ⟨pr', rfl, hS1⟩; have HO : Hid (∀ u ∈ cfgL ps gs pr', u.oneCell' = true) := Lib.hid (by obtain ⟨rv, hq⟩ := prB_open hS1; obtain ⟨av, cv, rfl⟩ := hq.rd.len; simp [cfgL, Value.oneCell']); have HT := Lib.hid (hS1.pull3.thereN (n := 15) rfl); have HE := Lib.hid (hS1.pull3.rowAll (cfgL ps gs pr') rfl); clear hS1)
    | (refine wpList_store_mid rfl 27 _ _ rfl w.heap.size 0 (cfgL ps gs pr').toArray (by rfl) (by rfl) HT.out hi (all_oneCell_toArray HO.out) ?_))
  refine bodyPost_ret (results_row1 rfl _ _ _ rfl (cs := cfgL ps gs pr') HE.out.rangeN Tryz.underlying27 rfl (by kernel_rfl)) rfl ?_
  refine ⟨pr', rfl, ?_⟩
  have h2 := HE.out.dropL.dropL
  exact h2.pull2
end
end Go.Proofs.YtdbppfcilaajaaaGreat.Kn

namespace Go.Proofs.YtdbppfcilaajaaaGreat.Ad
open Go.RowKit
set_option linter.unusedVariables false

section
variable {w0 w : World} {p : Nat} {s : TblS} {ps : List Pl} {free : List Nat} {F : Hp}
def setP (ps : List Pl) (i g : Int) (x : El) : List Pl := match isAt ps i g with | none => ps | some (k, a) => ps.set k { a with x := x }

set_option maxRecDepth 100000 in
set_option maxHeartbeats 8000000 in
theorem set_ (h : Sat w0 (tblP p ps free * F) w) (i g : Int) (x : El) :
    Calls Tryz.prog 232 #[vp p, vr i g, ev x] w fun e w' => e = .returned (vi (getE ps i g)) ∧ Sat w0 (tblP p (setP ps i g x) free * F) w' := by
  obtain ⟨s, hs⟩ := open_ h
  have hI : TblIs w0 p s ps free (elB (w.heap.size + 1) x * F) ((w.alloc (.cells #[vi i, vu g] 30)).alloc (elO x)) := ⟨hs.ok, by
    have hh := (hs.sat.alloc' (.cells #[vi i, vu g] 30)).alloc (elO x)
    rw [size1] at hh
    exact (show Sat w0 (elB (w.heap.size + 1) x * (tblB p s ps.length free.length * (tblL s ps * (tblF s free * F)))) _ from hh).cast (by ac_rfl)⟩
  unfold getE setP
  cases hA : isAt ps i g with
  | none =>
    have H := Lib.hid (find_no hI hA)
    have hA' := Lib.hid hA
    clear h hI hA hs
    go_enter Tryz.func232, Tryz.ntmps232
    go_wp2_with (go_at_call 209; refine H.out.mono ?_; rintro e w' ⟨rfl, hT⟩)
    go_ret
    exact ⟨rfl, hT.shut.drop2⟩
  | some ka =>
    obtain ⟨k, a⟩ := ka
    have H := Lib.hid (find_yes hI hA)
    have ha := isAt_some hA
    have hlt : k < ps.length := (List.getElem?_eq_some_iff.1 ha.1).1
    have HA := Lib.hid ha
    have hA' := Lib.hid hA
    have hok : TblOk (ps.set k { a with x := x }) free := hs.ok.setX ha.1 x
    have HOK := Lib.hid hok
    clear h hI hA ha hs hok
    go_enter Tryz.func232, Tryz.ntmps232
    go_wp2_with (first
      | (go_at_call 209; refine H.out.mono ?_; rintro e w1 ⟨rfl, hT⟩; have HLd := Lib.hid (range_ hT.sat.pull4); have HTh := Lib.hid (hT.thr HA.out.1); have HT := Lib.hid hT; clear hT)
      | (refine wpList_load_mid rfl 188 _ rfl (w.heap.size + 1) 0 (by rfl) (elC x) _ HLd.out Tryz.underlying188 rfl einfo ?_)
      | (refine wpList_store_mid rfl 188 _ _ rfl s.a (k * 14 + 3) (elC x).toArray (by rfl) (by rfl) HTh.out einfo (all_oneCell_toArray (elOne x)) ?_; have HS := Lib.hid (storeX HT.out.sat.pull2 HA.out.1 rfl x); have HS : Hid (Sat w0 _ (w1.setCells s.a (k * 14 + 3) (elC x).toArray.toList)) := HS; generalize World.setCells _ _ _ _ = w2 at *))
    go_ret
    have hl : (ps.set k { a with x := x }).length = ps.length := List.length_set
    refine ⟨rfl, (TblIs.shut (s := s) (F := elB (w.heap.size + 1) x * F) ⟨HOK.out, ?_⟩).drop2⟩
    exact HS.out.pull2.cast (by simp only [tblB, tblL, hl])
end
end Go.Proofs.YtdbppfcilaajaaaGreat.Ad

namespace Go.Proofs.YtdbppfcilaajaaaGreat.Ad
open Go.RowKit
set_option linter.unusedVariables false

section
variable {w0 w : World} {p : Nat} {s : TblS} {ps : List Pl} {free : List Nat} {F : Hp}
set_option maxRecDepth 100000 in
set_option maxHeartbeats 8000000 in
theorem put_full (h : TblIs w0 p s ps [] F w) (x : El) :
    Calls Tryz.prog 95 #[vp p, ev x] w fun e w' => e = .returned (.tuple #[vr 0 0, vi 3]) ∧ Sat w0 (tblP p ps [] * F) w' := by
  have hI := (h.alloc (elO x)).alloc (.cells #[vi 0, vu 0] 30)
  have c1 := hI.c1
  have H := Lib.hid (none_ hI)
  have HB := Lib.hid (((h.sat.alloc' (elO x)).alloc' (.cells #[vi 0, vu 0] 30)))
  have hok := Lib.hid h.ok
  clear h hI
  go_enter Tryz.func95, Tryz.ntmps95
  go_wp2_with (go_at_call 162; refine H.out.mono ?_; rintro e w' ⟨rfl, rfl⟩)
  (try simp only [Exit.inBlock, Exit.then])
  refine bodyPost_ret (v := .tuple #[vr 0 0, vi 3]) (by rw [results_cell_tmp rfl]; go_simp) rfl ?_
  exact ⟨rfl, TblIs.shut (s := s) ⟨hok.out, HB.out⟩⟩
set_option maxRecDepth 100000 in
set_option maxHeartbeats 8000000 in
theorem put_come {k : Nat} {a : Pl} (h : TblIs w0 p s ps (free ++ [k]) F w) (hk : ps[k]? = some a) (x : El) :
    Calls Tryz.prog 95 #[vp p, ev x] w fun e w' => e = .returned (.tuple #[vr k a.gen, vi 0]) ∧ Sat w0 (tblP p (ps.set k { a with there := true, x := x }) free * F) w' := by
  have hok := Lib.hid (h.ok.come hk x)
  have hsm := h.ok.fsmall
  obtain ⟨n, hn⟩ : ∃ n, n = free.length := ⟨_, rfl⟩
  obtain ⟨m, hm⟩ : ∃ m, m = (free ++ [k]).length := ⟨_, rfl⟩
  have hmn : m = n + 1 := by rw [hm, hn]; simp
  have hsm' : m ≤ 4096 := hm ▸ hsm
  obtain ⟨fa, hfa⟩ : ∃ fa, s.fo = some ⟨fa, 0, none⟩ := by
    rcases h.sat.pull3.slE.2 with ⟨_, h0, _⟩ | ⟨g, c, cur, hv, _⟩
    · simp at h0
    · injection hv with h1 h2 h3
      exact ⟨g, h1⟩
  have hB0 := (h.sat.alloc (elO x)).alloc (.cells #[vi 0, vu 0] 30)
  rw [size1] at hB0
  have hB : Sat w0 (pc (w.heap.size + 1) 30 [vi 0, vu 0] * (elB w.heap.size x * (tblB p s ps.length (free ++ [k]).length * (tblL s ps * (tblF s (free ++ [k]) * F))))) ((w.alloc (elO x)).alloc (.cells #[vi 0, vu 0] 30)) := hB0
  clear hB0
  simp only [tblB, tblF, TblS.fv, hfa, ← hm] at hB
  have hgs := h.ok.gens _ _ hk
  have hkl : k < ps.length := (List.getElem?_eq_some_iff.1 hk).1
  have hsml := h.ok.small
  have hI := (h.alloc (elO x)).alloc (.cells #[vi 0, vu 0] 30)
  have H := Lib.hid (none_ hI)
  have c0 := hI.c0
  have c1 : ((w.alloc (elO x)).alloc (.cells #[vi 0, vu 0] 30)).cell? ⟨p, 1, none⟩ = some (.slice (some ⟨fa, 0, none⟩) m s.fcap) := by
    have := hI.c1
    rw [hfa, ← hm] at this
    exact this
  have e0 := hI.at_ (j := 0) hk rfl
  rw [Nat.add_zero] at e0
  have e1 := hI.at_ (j := 1) hk rfl
  have e3_0 : ((w.alloc (elO x)).alloc (.cells #[vi 0, vu 0] 30)).cell? ⟨s.a, k * 14 + 3, none⟩ = some (.int .i64 a.x.v0) := hI.at_ (j := 3) hk rfl
  have e3_1 : ((w.alloc (elO x)).alloc (.cells #[vi 0, vu 0] 30)).cell? ⟨s.a, k * 14 + 3 + 1, none⟩ = some (.int .u64 a.x.v1) := hI.at_ (j := 4) hk rfl
  have e3_2 : ((w.alloc (elO x)).alloc (.cells #[vi 0, vu 0] 30)).cell? ⟨s.a, k * 14 + 3 + 2, none⟩ = some (.int .i64 a.x.v2) := hI.at_ (j := 5) hk rfl
  have e3_3 : ((w.alloc (elO x)).alloc (.cells #[vi 0, vu 0] 30)).cell? ⟨s.a, k * 14 + 3 + 3, none⟩ = some (.int .u64 a.x.v3) := hI.at_ (j := 6) hk rfl
  have e3_4 : ((w.alloc (elO x)).alloc (.cells #[vi 0, vu 0] 30)).cell? ⟨s.a, k * 14 + 3 + 4, none⟩ = some (.int .u64 a.x.v4) := hI.at_ (j := 7) hk rfl
  have e3_5 : ((w.alloc (elO x)).alloc (.cells #[vi 0, vu 0] 30)).cell? ⟨s.a, k * 14 + 3 + 5, none⟩ = some (.int .i64 a.x.v5) := hI.at_ (j := 8) hk rfl
  have e3_6 : ((w.alloc (elO x)).alloc (.cells #[vi 0, vu 0] 30)).cell? ⟨s.a, k * 14 + 3 + 6, none⟩ = some (.int .u64 a.x.v6) := hI.at_ (j := 9) hk rfl
  have e3_7 : ((w.alloc (elO x)).alloc (.cells #[vi 0, vu 0] 30)).cell? ⟨s.a, k * 14 + 3 + 7, none⟩ = some (.int .i64 a.x.v7) := hI.at_ (j := 10) hk rfl
  have e3_8 : ((w.alloc (elO x)).alloc (.cells #[vi 0, vu 0] 30)).cell? ⟨s.a, k * 14 + 3 + 8, none⟩ = some (.int .i64 a.x.v8) := hI.at_ (j := 11) hk rfl
  have e3_9 : ((w.alloc (elO x)).alloc (.cells #[vi 0, vu 0] 30)).cell? ⟨s.a, k * 14 + 3 + 9, none⟩ = some (.int .u64 a.x.v9) := hI.at_ (j := 12) hk rfl
  have e3_10 : ((w.alloc (elO x)).alloc (.cells #[vi 0, vu 0] 30)).cell? ⟨s.a, k * 14 + 3 + 10, none⟩ = some (.int .i64 a.x.v10) := hI.at_ (j := 13) hk rfl
  have b0 := hB.cell 0 rfl
  have b1 := hB.cell 1 rfl
  have bf0 := hB.free 0
  have bf1 := hB.free 1
  have q0 := hB.pull2.cell 0 rfl
  have q1 := hB.pull2.cell 1 rfl
  have q2 := hB.pull2.cell 2 rfl
  have q3 := hB.pull2.cell 3 rfl
  have q4 := hB.pull2.cell 4 rfl
  have q5 := hB.pull2.cell 5 rfl
  have q6 := hB.pull2.cell 6 rfl
  have q7 := hB.pull2.cell 7 rfl
  have q8 := hB.pull2.cell 8 rfl
  have q9 := hB.pull2.cell 9 rfl
  have q10 := hB.pull2.cell 10 rfl
  have fr0 := hI.free_ 0
  have fr1 := hI.free_ 1
  have lf0 := hI.lfree (k * 14 + 0)
  have lf1 := hI.lfree (k * 14 + 1)
  have lf3_0 : ((w.alloc (elO x)).alloc (.cells #[vi 0, vu 0] 30)).frozen? ⟨s.a, k * 14 + 3, none⟩ = false := hI.lfree (k * 14 + 3)
  have lf3_1 : ((w.alloc (elO x)).alloc (.cells #[vi 0, vu 0] 30)).frozen? ⟨s.a, k * 14 + 3 + 1, none⟩ = false := hI.lfree (k * 14 + 4)
  have lf3_2 : ((w.alloc (elO x)).alloc (.cells #[vi 0, vu 0] 30)).frozen? ⟨s.a, k * 14 + 3 + 2, none⟩ = false := hI.lfree (k * 14 + 5)
  have lf3_3 : ((w.alloc (elO x)).alloc (.cells #[vi 0, vu 0] 30)).frozen? ⟨s.a, k * 14 + 3 + 3, none⟩ = false := hI.lfree (k * 14 + 6)
  have lf3_4 : ((w.alloc (elO x)).alloc (.cells #[vi 0, vu 0] 30)).frozen? ⟨s.a, k * 14 + 3 + 4, none⟩ = false := hI.lfree (k * 14 + 7)
  have lf3_5 : ((w.alloc (elO x)).alloc (.cells #[vi 0, vu 0] 30)).frozen? ⟨s.a, k * 14 + 3 + 5, none⟩ = false := hI.lfree (k * 14 + 8)
  have lf3_6 : ((w.alloc (elO x)).alloc (.cells #[vi 0, vu 0] 30)).frozen? ⟨s.a, k * 14 + 3 + 6, none⟩ = false := hI.lfree (k * 14 + 9)
  have lf3_7 : ((w.alloc (elO x)).alloc (.cells #[vi 0, vu 0] 30)).frozen? ⟨s.a, k * 14 + 3 + 7, none⟩ = false := hI.lfree (k * 14 + 10)
  have lf3_8 : ((w.alloc (elO x)).alloc (.cells #[vi 0, vu 0] 30)).frozen? ⟨s.a, k * 14 + 3 + 8, none⟩ = false := hI.lfree (k * 14 + 11)
  have lf3_9 : ((w.alloc (elO x)).alloc (.cells #[vi 0, vu 0] 30)).frozen? ⟨s.a, k * 14 + 3 + 9, none⟩ = false := hI.lfree (k * 14 + 12)
  have lf3_10 : ((w.alloc (elO x)).alloc (.cells #[vi 0, vu 0] 30)).frozen? ⟨s.a, k * 14 + 3 + 10, none⟩ = false := hI.lfree (k * 14 + 13)
  have hX := hB.dropL
  have hP4 := hX.pull4
  have hfree : ((w.alloc (elO x)).alloc (.cells #[vi 0, vu 0] 30)).cell? ⟨fa, n, none⟩ = some (vi k) := hP4.slCell n (by rw [List.getElem?_map, hn]; simp)
  have hcap := hP4.slCap
  have hpa : p ≠ s.a := hI.sat.slNe
  have hbp : w.heap.size + 1 ≠ p := hB.drop2.ne
  have hba : w.heap.size + 1 ≠ s.a := hB.drop2.drop2.slNe
  have hpf : p ≠ fa := hX.dropL.drop2.slNe
  have hbf : w.heap.size + 1 ≠ fa := hB.drop2.drop3.drop2.slNe
  have haf : s.a ≠ fa := hX.dropL.dropL.slNe2
  have hxp : w.heap.size ≠ p := hX.ne
  have hxa : w.heap.size ≠ s.a := hX.drop2.slNe
  have hxf : w.heap.size ≠ fa := hX.drop3.drop2.slNe
  have hxb : w.heap.size + 1 ≠ w.heap.size := by omega
  have HB := Lib.hid hB
  have Hn := Lib.hid hn
  have Hm := Lib.hid hm
  have Hfa := Lib.hid hfa
  have HGS := Lib.hid hgs
  obtain ⟨gen, there, retired, y⟩ := a
  simp only at e0 e1 e3_0 e3_1 e3_2 e3_3 e3_4 e3_5 e3_6 e3_7 e3_8 e3_9 e3_10 ⊢
  have Hk := Lib.hid hk
  have hm0 : ((m : Int) == 0) = false := beq_eq_false_iff_ne.2 (by omega)
  have hw : IntKind.i64.wrap ((m : Int) - 1) = (n : Int) := by rw [IntWalk.i64_in _ (by omega)]; omega
  have hnm : (n : Int) < (m : Int) := by omega
  have hnc : (n : Int) ≤ (s.fcap : Int) := by omega
  have hnc' : n ≤ s.fcap := by omega
  have hkl' : (k : Int) < (ps.length : Int) := by omega
  generalize hwb : (w.alloc (elO x)).alloc (.cells #[vi 0, vu 0] 30) = wb at *
  have HW := Lib.hid hwb
  generalize hb1 : w.heap.size + 1 = bx at *
  generalize hb2 : w.heap.size = b2 at *
  have HB1 := Lib.hid hb1
  have HB2 := Lib.hid hb2
  clear hwb hb1 hb2 h hB hI hn hm hfa hgs hk hP4 hcap hsm hX
  go_enter Tryz.func95, Tryz.ntmps95
  go_wp2_with fail
  rw [HW.out, HB2.out, HB1.out]
  refine H.out.mono ?_
  rintro e w' ⟨rfl, rfl⟩
  go_wp2
  have hW1 := HB.out.pull3.store 1 (.slice (some ⟨fa, 0, none⟩) n n)
  generalize wb.setCell ⟨p, 1, none⟩ (.slice (some ⟨fa, 0, none⟩) n n) = W1 at *
  have HW1 := Lib.hid hW1.drew
  clear hW1
  have hS0 : (fun w' : World => w'.rangeAt b2 0 (elC x)) W1.drew := range_ HW1.out.pull3
  have HT1 := Lib.hid HW1.out.pull4
  have hcell : (W1.drew).cell? ⟨s.a, k * 14 + 1, none⟩ = some _ := HT1.out.slCell (k * 14 + 1) (flat_get Pl.len Hk.out rfl)
  have hfree1 : (W1.drew).frozen? ⟨s.a, k * 14 + 1, none⟩ = false := HT1.out.slFree (k * 14 + 1)
  have hT2 := HT1.out.slStore (k * 14 + 1) (by omega) (.bool true)
  rw [flat_set Pl.len ps k 1 _ (⟨gen, true, retired, y⟩ : Pl) (.bool true) Hk.out (by omega) rfl] at hT2
  refine wp_region_held (S := fun w' => w'.rangeAt b2 0 (elC x)) (by kernel_rfl) ?_
  change wpAnyH _ _ _ _ _ _ _ _ (World.drew _)
  refine wpAnyH_take (i := 0) (v := (.pointer (some ⟨s.a, k * 14, none⟩))) rfl (by kernel_rfl) (by kernel_rfl) (by kernel_rfl) (fun _ _ _ h => h) (Or.inl ⟨by rfl, fun w' hw' => by go_simp⟩) hS0 ?_
  simp only [Act.put, List.setIfInBounds_toArray, List.set_cons_zero, List.set_cons_succ]
  refine wpAnyH_take (i := 1) (v := (.pointer (some ⟨s.a, k * 14, none⟩))) rfl (by kernel_rfl) (by kernel_rfl) (by kernel_rfl) (fun _ _ _ h => h) (Or.inl ⟨by rfl, fun w' hw' => by go_simp⟩) hS0 ?_
  simp only [Act.put, List.setIfInBounds_toArray, List.set_cons_zero, List.set_cons_succ]
  refine wpAnyH_take (i := 2) rfl (by kernel_rfl) (by kernel_rfl) (by kernel_rfl) (fun _ _ _ h => h) (yieldsIf_load_mid (by rfl) 188 _ rfl b2 0 (by rfl) (elC x) _ (fun w' h => h) Tryz.underlying188 rfl einfo) hS0 ?_
  simp only [Act.put, List.setIfInBounds_toArray, List.set_cons_zero, List.set_cons_succ]
  refine wpAnyH_take (i := 3) (v := (.pointer (some ⟨s.a, k * 14, none⟩))) rfl (by kernel_rfl) (by kernel_rfl) (by kernel_rfl) (fun _ _ _ h => h) (Or.inl ⟨by rfl, fun w' hw' => by go_simp⟩) hS0 ?_
  simp only [Act.put, List.setIfInBounds_toArray, List.set_cons_zero, List.set_cons_succ]
  refine wpAnyH_take (i := 4) (v := (.pointer (some ⟨s.a, k * 14 + 1, none⟩))) rfl (by kernel_rfl) (by kernel_rfl) (by kernel_rfl) (fun _ _ _ h => h) (Or.inl ⟨by rfl, fun w' hw' => by go_simp⟩) hS0 ?_
  simp only [Act.put, List.setIfInBounds_toArray, List.set_cons_zero, List.set_cons_succ]
  refine wpAnyH_ready (rs := [5]) (by kernel_rfl) (by simp) ?_
  refine AllReadyH.cons rfl (fun K hK => ?_) AllReadyH.nil
  go_simp
  have hT2 : Sat w0 _ (W1.setCell ⟨s.a, k * 14 + 1, none⟩ (.bool true)).drew := hT2
  generalize (W1.setCell ⟨s.a, k * 14 + 1, none⟩ (.bool true)).drew = W2 at *
  have HW2 := Lib.hid hT2
  have hS2 : (fun w' : World => w'.rangeAt b2 0 (elC x)) W2 := range_ HW2.out.pull4
  refine hK.out _ _ hS2 (fun hS3 => ?_)
  refine wpAnyH_take (i := 6) (v := (.pointer (some ⟨s.a, k * 14, none⟩))) rfl (by kernel_rfl) (by kernel_rfl) (by kernel_rfl) (fun _ _ _ h => h) (Or.inl ⟨by rfl, fun w' hw' => by go_simp⟩) hS2 ?_
  simp only [Act.put, List.setIfInBounds_toArray, List.set_cons_zero, List.set_cons_succ]
  refine wpAnyH_take (i := 7) (v := (.pointer (some ⟨s.a, k * 14 + 3, none⟩))) rfl (by kernel_rfl) (by kernel_rfl) (by kernel_rfl) (fun _ _ _ h => h) (Or.inl ⟨by rfl, fun w' hw' => by go_simp⟩) hS2 ?_
  simp only [Act.put, List.setIfInBounds_toArray, List.set_cons_zero, List.set_cons_succ]
  have hth := slThere HW2.out (get_set_self Hk.out _) (by simp)
  have hT3 := storeX HW2.out (get_set_self Hk.out _) (by simp) x
  rw [List.set_set] at hT3
  have hT3 : Sat w0 _ (W2.setCells s.a (k * 14 + 3) (elC x).toArray.toList) := hT3
  refine wpAnyH_ready (rs := [8]) (by kernel_rfl) (by simp) ?_
  refine AllReadyH.cons rfl (fun K' hK' => ?_) AllReadyH.nil
  rw [if_pos (by rfl)]
  refine wp_store_mid 188 _ _ rfl s.a (k * 14 + 3) (elC x).toArray (by rfl) (by rfl) hth einfo (all_oneCell_toArray (elOne x)) ?_
  generalize W2.setCells s.a (k * 14 + 3) (elC x).toArray.toList = W3 at *
  have HW3 := Lib.hid hT3
  have hS4 : (fun w' : World => w'.rangeAt b2 0 (elC x)) W3 := range_ HW3.out.pull4
  refine hK'.out _ _ hS4 (fun hS5 => ?_)
  refine wpAnyH_done (by kernel_rfl) ?_ _
  clear hS0 hS2 hS3 hS4 hS5 hth hT2 hT3 hcell hfree1 hK hK'
  have hr0 := HW3.out.pull3.cell 0 rfl
  have hr1 := HW3.out.pull3.cell 1 rfl
  have hrf0 := HW3.out.pull3.free 0
  have hrf1 := HW3.out.pull3.free 1
  have hg0 := HW3.out.slCell (k * 14 + 0) (flat_get Pl.len (get_set_self Hk.out _) rfl)
  rw [Nat.add_zero] at hg0
  go_wp2
  (try simp only [Exit.inBlock, Exit.then])
  refine bodyPost_ret (v := .tuple #[vr k gen, vi 0]) (by rw [results_cell_tmp rfl]; go_simp) rfl ?_
  refine ⟨rfl, ?_⟩
  have a7 := (((HW3.out.pull3.store 0 (vi k)).store 1 (vu gen)).dropL.pull3.dropL.pull3).slCut n (by omega)
  refine TblIs.shut (s := ⟨s.a, s.cap, some ⟨fa, 0, none⟩, n⟩) ⟨hok.out, ?_⟩
  refine a7.cast ?_
  have hl : (ps.set k (⟨gen, true, retired, x⟩ : Pl)).length = ps.length := List.length_set
  have hx : ((free ++ [k]).map fun k : Nat => vi k).take (n * 1) = free.map fun k : Nat => vi k := by
    rw [Nat.mul_one, List.map_append, Hn.out, List.take_left' (by simp)]
  rw [hx]
  simp only [tblB, tblL, tblF, TblS.lv, TblS.fv, hl, ← Hn.out, List.set_cons_succ, List.set_cons_zero]
  ac_rfl
theorem put_no (h : Sat w0 (tblP p ps [] * F) w) (x : El) :
    Calls Tryz.prog 95 #[vp p, ev x] w fun e w' => e = .returned (.tuple #[vr 0 0, vi 3]) ∧ Sat w0 (tblP p ps [] * F) w' := by
  obtain ⟨s, hs⟩ := open_ h
  exact put_full hs x
theorem put_yes {k : Nat} {a : Pl} (h : Sat w0 (tblP p ps (free ++ [k]) * F) w) (hk : ps[k]? = some a) (x : El) :
    Calls Tryz.prog 95 #[vp p, ev x] w fun e w' => e = .returned (.tuple #[vr k a.gen, vi 0]) ∧ Sat w0 (tblP p (ps.set k { a with there := true, x := x }) free * F) w' := by
  obtain ⟨s, hs⟩ := open_ h
  exact put_come hs hk x

end
end Go.Proofs.YtdbppfcilaajaaaGreat.Ad
