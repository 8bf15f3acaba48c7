/-
  The arena's All at helmsman/api.G, and its iterator. No statement is proved here.
-/
import Derived.Test.YtdbppfcilaajaaaGreatMg18
import Derived.Test.YtdbppfcilaajaaaGreatMg27
import Derived.Test.YtdbppfcilaajaaaGreatMg21
import Derived.Sort.LoopGhostIn
import Derived.Shelf.Abstract
import Derived.Shelf.RegionOpen
import Derived.OwnWalkIn
import Derived.TacticsInMore
import Derived.LoopNIn
import Derived.LoopIn
import Derived.Laws.ResultCell
import Derived.Test.YtdbppfcilaajaaaGreatMg39
namespace Go.Proofs.YtdbppfcilaajaaaGreat.Ag
open Go.RowKit Go.Shelf
attribute [local go_sem] Oper.semAt_some
set_option linter.unusedVariables false
set_option linter.unusedSimpArgs false

/-- What the iterator has of its own: its list. -/
def itP (bx : Nat) (v : Value) (ps : List Pl) : Hp := pc bx 261 [v] * sl 265 22 v ps.length (flat ps)

/-- The frame, by a name. -/
theorem wpIn_act {Fe : Fence} {n : Nat} {P : Program} {c : Code} {Q : Exit → Act → World → Prop} {a : Act} {w : World} (h : ∀ a', a' = a → c.wpIn Fe n P Q a' w) : c.wpIn Fe n P Q a w := h a rfl
theorem pinfo98 : (Tryz.prog.info? 265).map (·.size) = some 22 := by kernel_rfl
theorem rangeX {b : Nat} {T : TypeId} {a : Pl} {F : Hp} {w0 w : World} (h : Sat w0 (pc b T (Pl.cells a) * F) w) : w.rangeAt b 3 (elC a.x) := fun j v hv => by
  rw [show 3 + j = j + 1 + 1 + 1 by omega]
  exact h.cell (j + 1 + 1 + 1) hv
theorem slRangeP {T : TypeId} {g n cap k : Nat} {ps : List Pl} {a : Pl} {F : Hp} {w0 w : World} (h : Sat w0 (sl T 22 (.slice (some ⟨g, 0, none⟩) n cap) n (flat ps) * F) w) (hk : ps[k]? = some a) : w.rangeAt g (k * 22) (Pl.cells a) := fun j v hv =>
  h.slCell (k * 22 + j) (flat_get Pl.len hk hv)
theorem setL_all (cs vs : List Value) (h : vs.length = cs.length) : setL cs 0 vs = vs := List.ext_getElem? fun i => by
  by_cases hi : i < vs.length
  · have := setL_in vs cs 0 i hi (by omega)
    rwa [Nat.zero_add] at this
  · rw [List.getElem?_eq_none (by rw [setL_len]; omega), List.getElem?_eq_none (by omega)]
section
variable {w0 w : World} {p : Nat} {ps : List Pl} {free : List Nat} {F : Hp}
theorem clone_places {v : Value} {ps : List Pl} (h : Sat w0 F w) (hR : ∀ w', Sat w0 F w' → Rd w' 22 v ps.length (flat ps)) (hl : ps.length ≤ 4096) (hp : 0 < ps.length) :
    Calls Tryz.prog 184 #[v] w fun e w' => ∃ g cap, e = .returned (.slice (some ⟨g, 0, none⟩) ps.length cap) ∧ Sat w0 (sl 265 22 (.slice (some ⟨g, 0, none⟩) ps.length cap) ps.length (flat ps) * F) w' := by
  obtain ⟨b, off, cap, rfl, _⟩ := (hR w h).pos (by omega)
  have hone := Lib.hid (flat_one Pl.one ps)
  have HR := Lib.hid hR
  have H := Lib.hid h
  clear hR h
  have hn := @Lib.run_eql_slice_nil Tryz.prog
  go_enter Tryz.func184, Tryz.ntmps184
  go_wp2_with (at_builtin; refine wpList_append_sl Epl rfl (.tmp 5) (.tmp 6) rfl (by rfl) (H.out.sl0 265 22) (by rfl) (HR.out _ (H.out.alloc' _)) hone.out (by unfold maxLen; omega) (by omega) ?_; intro ao1 cap1 w1 hS1; simp only [Nat.zero_add, List.nil_append] at hS1)
  go_ret
  rcases hS1.slE.2 with ⟨_, h0, _⟩ | ⟨g, c, cur, hv, _⟩
  · omega
  · cases hv
    exact ⟨g, cap1, by simp, hS1⟩
set_option maxRecDepth 100000 in
set_option maxHeartbeats 1000000 in
theorem da_all (h : Sat w0 (tblP p ps free * F) w) :
    Calls Tryz.prog 137 #[vp p] w fun e w' => ∃ bx g cap, e = .returned (.func (.func 185) #[] #[vp bx]) ∧ Sat w0 (itP bx (.slice (some ⟨g, 0, none⟩) ps.length cap) ps * (tblP p ps free * F)) w' := by
  obtain ⟨s, hs⟩ := open_ h
  have hok := hs.ok
  have hpos := hok.pos
  have hsm := hok.small
  have hB : Sat w0 (pc w.heap.size 261 [.slice none 0 0] * (tblB p s ps.length free.length * (tblL s ps * (tblF s free * F)))) (w.alloc (.cells #[.slice none 0 0] 261)) := hs.sat.alloc _
  have hI : TblIs w0 p s ps free (pc w.heap.size 261 [.slice none 0 0] * F) (w.alloc (.cells #[.slice none 0 0] 261)) := ⟨hok, hB.cast (by ac_rfl)⟩
  have c0 := hI.c0
  have b0 := hB.cell 0 rfl
  have f0 := hB.free 0
  have HN := Lib.hid (none_ hI)
  have HOK := Lib.hid hok
  have HB := Lib.hid hB
  have HC := Lib.hid (clone_places hB (fun w2 h2 => h2.pull3.rd) hsm hpos)
  clear h hs hok hI hB
  generalize hwb : w.alloc (.cells #[.slice none 0 0] 261) = wb at *
  have HW := Lib.hid hwb
  generalize hbx : w.heap.size = bx at *
  have HBX := Lib.hid hbx
  clear hwb hbx
  go_enter Tryz.func137, Tryz.ntmps137
  go_wp2_with fail
  rw [HW.out, HBX.out]
  refine HN.out.mono ?_
  rintro e w' ⟨rfl, rfl⟩
  go_wp2_with (go_at_call 184; refine HC.out.mono ?_; rintro e w1 ⟨g, cap, rfl, hS⟩; have b1 := hS.pull2.cell 0 rfl; have f1 := hS.pull2.free 0; have HS := Lib.hid hS; clear hS)
  go_ret
  refine ⟨bx, g, cap, rfl, ?_⟩
  have h1 := HS.out.pull2.store 0 (.slice (some ⟨g, 0, none⟩) ps.length cap)
  have h2 : Sat w0 (tblB p s ps.length free.length * (tblL s ps * (tblF s free * (itP bx (.slice (some ⟨g, 0, none⟩) ps.length cap) ps * F)))) _ := h1.cast (by
    unfold itP
    simp only [List.set_cons_zero]
    ac_rfl)
  exact (TblIs.shut (s := s) ⟨HOK.out, h2⟩).pull2

/-- What has come when k places are over. -/
def seenO (ps : List Pl) (i : Nat) : Option (Nat × Int × El) := match ps[i]? with
  | none => none
  | some a => if a.there then some (i, a.gen, a.x) else none
def seen (ps : List Pl) (k : Nat) : List (Nat × Int × El) := (List.range k).filterMap (seenO ps)
theorem seen_succ (ps : List Pl) (k : Nat) : seen ps (k + 1) = seen ps k ++ (seenO ps k).toList := by
  unfold seen
  rw [List.range_succ, List.filterMap_append]
  cases h : seenO ps k <;> simp [h]
theorem seen_yes {k : Nat} {a : Pl} (h : ps[k]? = some a) (ht : a.there = true) : seen ps (k + 1) = seen ps k ++ [(k, a.gen, a.x)] := by
  rw [seen_succ, seenO, h]
  simp [ht]
theorem seen_no {k : Nat} {a : Pl} (h : ps[k]? = some a) (ht : a.there = false) : seen ps (k + 1) = seen ps k := by
  rw [seen_succ, seenO, h]
  simp [ht]
set_option maxRecDepth 100000 in
set_option maxHeartbeats 2000000 in
theorem da_all1 (n : Nat) (hn : 1 ≤ n) (hsm : ps.length ≤ 4096) (H : List (Nat × Int × El) → Hp) (bx g cap l : Nat)
    (hY : ∀ k a W (F : Hp), ps[k]? = some a → a.there = true → Sat w0 (itP bx (.slice (some ⟨g, 0, none⟩) ps.length cap) ps * (H (seen ps k) * F)) W → YieldAt Fence.wide (n - 1) Tryz.prog l #[vr k a.gen, ev a.x] W fun e W' => e = .returned (.bool true) ∧ Sat w0 (itP bx (.slice (some ⟨g, 0, none⟩) ps.length cap) ps * (H (seen ps k ++ [(k, a.gen, a.x)]) * F)) W')
    (h0 : Sat w0 (itP bx (.slice (some ⟨g, 0, none⟩) ps.length cap) ps * H []) w) :
    CallsIn Fence.wide n Tryz.prog 185 #[.func (.yield l) #[] #[], vp bx] w fun e W' => (∃ v, e = .returned v) ∧ Sat w0 (itP bx (.slice (some ⟨g, 0, none⟩) ps.length cap) ps * H (seen ps ps.length)) W' := by
  have c0 := (h0.cast (show _ = pc bx 261 [(.slice (some ⟨g, 0, none⟩) ps.length cap)] * (sl 265 22 (.slice (some ⟨g, 0, none⟩) ps.length cap) ps.length (flat ps) * H []) by unfold itP; ac_rfl)).cell 0 rfl
  have HY := Lib.hid hY
  have HS0 := Lib.hid h0
  clear hY h0
  refine callsIn_of_wp Tryz.func185 rfl trivial ?_ rfl
  simp only [Tryz.ntmps185, List.size_toArray, List.length_cons, List.length_nil, Nat.reduceAdd, Nat.reduceSub, Array.replicate_succ, Array.replicate_zero, List.push_toArray, List.append_toArray, List.nil_append, List.cons_append]
  gi_wp2
  clear c0
  gi_loopw [7] (fun i wr => ∃ k : Nat, k ≤ ps.length ∧ i = .int .i64 k ∧ Sat w0 (itP bx (.slice (some ⟨g, 0, none⟩) ps.length cap) ps * H (seen ps k)) wr) (fun i _ => ps.length - (intOf i).toNat)
  case atStart => exact ⟨0, Nat.zero_le _, rfl, HS0.out⟩
  case round =>
    obtain ⟨k, hk, rfl, hS⟩ := hrel
    by_cases hlt : k < ps.length
    · obtain ⟨a, ha⟩ : ∃ a, ps[k]? = some a := ⟨ps[k], List.getElem?_eq_getElem hlt⟩
      have hkl : (k : Int) < (ps.length : Int) := by omega
      have HLd := Lib.hid (slRangeP (hS.cast (show _ = sl 265 22 (.slice (some ⟨g, 0, none⟩) ps.length cap) ps.length (flat ps) * (pc bx 261 [(.slice (some ⟨g, 0, none⟩) ps.length cap)] * H (seen ps k)) by unfold itP; ac_rfl)) ha)
      have hA : Sat w0 (pc wr.heap.size 265 (Pl.cells pl0) * (itP bx (.slice (some ⟨g, 0, none⟩) ps.length cap) ps * H (seen ps k))) (wr.alloc (.cells (Pl.cells pl0).toArray 265)) := hS.alloc _
      have HTh := Lib.hid (there_ (n := 22) hA rfl)
      have HX := Lib.hid hA
      have HA := Lib.hid ha
      clear hA hS
      cases hth : a.there with
      | false =>
        have HSE := Lib.hid (seen_no ha hth)
        have HT2 := Lib.hid hth
        clear ha hth
        gi_wp2_with (first
          | (refine wpListIn_load_mid rfl 265 _ rfl g (k * 22) (by rfl) (Pl.cells a) _ HLd.out Tryz.underlying265 rfl pinfo98 ?_)
          | (refine wpListIn_store_mid rfl 265 _ _ rfl wr.heap.size 0 (Pl.cells a).toArray (by rfl) (by rfl) HTh.out pinfo98 (all_oneCell_toArray (Pl.one a)) ?_; have hs := HX.out.stores (Pl.cells a) 0; rw [setL_all (Pl.cells pl0) (Pl.cells a) rfl] at hs; generalize hw2 : World.setCells _ _ _ _ = w2; have hs : Sat w0 _ w2 := hw2 ▸ hs; have q1 : w2.cell? ⟨wr.heap.size, 1, none⟩ = some (.bool false) := by (rw [← HT2.out]; exact hs.cell 1 rfl)))
        have HT := Lib.hid hs
        clear hs hw2
        refine ⟨fun _ h => (by cases h), ?_⟩
        gi_wp2
        go_roundw
        case rel => exact ⟨k + 1, by omega, by go_num, by rw [HSE.out]; exact HT.out.dropL⟩
        case measure => simp [intOf]; omega
      | true =>
        have HSE := Lib.hid (seen_yes ha hth)
        have HT2 := Lib.hid hth
        clear ha hth
        gi_wp2_with (first
          | (refine wpListIn_load_mid rfl 265 _ rfl g (k * 22) (by rfl) (Pl.cells a) _ HLd.out Tryz.underlying265 rfl pinfo98 ?_)
          | (refine wpListIn_store_mid rfl 265 _ _ rfl wr.heap.size 0 (Pl.cells a).toArray (by rfl) (by rfl) HTh.out pinfo98 (all_oneCell_toArray (Pl.one a)) ?_; have hs := HX.out.stores (Pl.cells a) 0; rw [setL_all (Pl.cells pl0) (Pl.cells a) rfl] at hs; generalize hw2 : World.setCells _ _ _ _ = w2; have hs : Sat w0 _ w2 := hw2 ▸ hs; have q0 : w2.cell? ⟨wr.heap.size, 0, none⟩ = some (vu a.gen) := hs.cell 0 rfl; have q1 : w2.cell? ⟨wr.heap.size, 1, none⟩ = some (.bool true) := (hs.cell 1 rfl).trans (congrArg (fun b => some (Value.bool b)) HT2.out); have HL2 := Lib.hid (rangeX hs); obtain ⟨fn, tmps, assign, body, hy, hR⟩ := HY.out k _ _ (pc wr.heap.size 265 (Pl.cells a)) HA.out HT2.out (hs.cast (by ac_rfl)))
          | (refine wpListIn_load_mid rfl 134 _ rfl wr.heap.size 3 (by rfl) (elC a.x) _ HL2.out Tryz.underlying134 rfl einfo ?_))
        refine hR.mono ?_
        rintro e W3 ⟨rfl, hS3⟩
        have HT := Lib.hid ((hS3.cast (show _ = pc wr.heap.size 265 (Pl.cells a) * (itP bx (.slice (some ⟨g, 0, none⟩) ps.length cap) ps * H (seen ps k ++ [(k, a.gen, a.x)])) by ac_rfl)).dropL)
        clear hR hS3 hy
        gi_wp2
        go_roundw
        case rel => exact ⟨k + 1, by omega, by go_num, by rw [HSE.out]; exact HT.out⟩
        case measure => simp [intOf]; omega
    · obtain rfl : k = ps.length := by omega
      have HT := Lib.hid hS
      clear hS
      gi_wp2
      go_end0
      exact ⟨⟨_, rfl⟩, HT.out⟩
end
end Go.Proofs.YtdbppfcilaajaaaGreat.Ag

namespace Go.Proofs.YtdbppfcilaajaaaGreat.Gt
open Go.RowKit Go.Shelf Ag
attribute [local go_sem] Oper.semAt_some
set_option linter.unusedVariables false

section
variable {w0 w : World} {F : Hp} {d p : Nat} {ps : List Pl} {free : List Nat}
end
end Go.Proofs.YtdbppfcilaajaaaGreat.Gt

namespace Go.Proofs.YtdbppfcilaajaaaGreat.Ag
open Go.RowKit Go.Shelf
attribute [local go_sem] Oper.semAt_some
set_option linter.unusedVariables false
set_option linter.unusedSimpArgs false

section
variable {w0 w : World} {p : Nat} {ps : List Pl} {free : List Nat} {F : Hp}
theorem da_size (h : Sat w0 (tblP p ps free * F) w) : Calls Tryz.prog 136 #[vp p] w fun e w' => e = .returned (vi ps.length) ∧ Sat w0 (tblP p ps free * F) w' := by
  obtain ⟨s, hs⟩ := open_ h
  have c0 := hs.c0
  have HN := Lib.hid (none_ hs)
  have H := Lib.hid h
  clear h hs
  go_enter Tryz.func136, Tryz.ntmps136
  go_wp2_with (go_at_call 139; (with_reducible refine HN.out.mono ?_); rintro e w1 ⟨rfl, rfl⟩)
  go_ret
  exact ⟨rfl, H.out⟩
end
end Go.Proofs.YtdbppfcilaajaaaGreat.Ag

namespace Go.Proofs.YtdbppfcilaajaaaGreat.Ag
open Go.RowKit
set_option linter.unusedVariables false
set_option linter.unusedSimpArgs false

/-- Who is at a place. -/
def atR (ps : List Pl) (i : Int) : Int × Int × Bool := if i < 0 then (0, 0, false) else match ps[i.toNat]? with
  | none => (0, 0, false)
  | some a => if a.there then (i, a.gen, true) else (0, 0, false)
section
variable {w0 w : World} {p : Nat} {ps : List Pl} {free : List Nat} {F : Hp}
set_option maxRecDepth 100000 in
set_option maxHeartbeats 4000000 in
theorem da_at (h : Sat w0 (tblP p ps free * F) w) (i : Int) : Calls Tryz.prog 76 #[vp p, vi i] w fun e w' => e = .returned (.tuple #[vr (atR ps i).1 (atR ps i).2.1, .bool (atR ps i).2.2]) ∧ Sat w0 (tblP p ps free * F) w' := by
  obtain ⟨s, hs⟩ := open_ h
  have hok := hs.ok
  have hpos := hok.pos
  have hsm := hok.small
  have hB : Sat w0 (pc w.heap.size 30 [vi 0, vu 0] * (tblB p s ps.length free.length * (tblL s ps * (tblF s free * F)))) (w.alloc (.cells #[vi 0, vu 0] 30)) := hs.sat.alloc _
  have hI : TblIs w0 p s ps free (pc w.heap.size 30 [vi 0, vu 0] * F) (w.alloc (.cells #[vi 0, vu 0] 30)) := ⟨hok, hB.cast (by ac_rfl)⟩
  have c0 := hI.c0
  have b0 := hB.cell 0 rfl
  have b1 := hB.cell 1 rfl
  have f0 := hB.free 0
  have f1 := hB.free 1
  have HN := Lib.hid (none_ hI)
  have HK := Lib.hid hok
  have HS := Lib.hid hs.sat
  have HB := Lib.hid hB
  have HI := Lib.hid hI
  have hlp : (0 : Int) ≤ (ps.length : Int) := by omega
  clear h hs hok hI hB
  by_cases hi : i < 0
  · rw [show atR ps i = (0, 0, false) by unfold atR; rw [if_pos hi]]
    have hst : Sat w0 (pc w.heap.size 30 [vi 0, vu 0] * (tblB p s ps.length free.length * (tblL s ps * (tblF s free * F)))) (w.alloc (.cells #[vi 0, vu 0] 30)) := HS.out.alloc _
    have HST := Lib.hid hst
    go_enter Tryz.func76, Tryz.ntmps76
    go_wp2_with (go_at_call 139; (with_reducible refine HN.out.mono ?_); rintro e w1 ⟨rfl, rfl⟩)
    have o0 := HST.out.cell 0 rfl
    have o1 := HST.out.cell 1 rfl
    (try simp only [Exit.inBlock, Exit.then])
    refine bodyPost_ret (v := .tuple #[vr 0 0, .bool false]) (by rw [results_cell_tmp rfl]; go_simp) rfl ?_
    exact ⟨rfl, TblIs.shut (s := s) ⟨HK.out, HST.out.dropL⟩⟩
  · obtain ⟨k, rfl⟩ := Int.eq_ofNat_of_zero_le (show 0 ≤ i by omega)
    by_cases hk : k < ps.length
    · obtain ⟨a, ha⟩ : ∃ a, ps[k]? = some a := ⟨ps[k], List.getElem?_eq_getElem hk⟩
      have hki : (k : Int) < (ps.length : Int) := by omega
      have e0 := HI.out.at_ ha (j := 0) rfl
      have e1 := HI.out.at_ ha (j := 1) rfl
      rw [Nat.add_zero] at e0
      cases ht : a.there with
      | false =>
        rw [ht] at e1
        rw [show atR ps k = (0, 0, false) by unfold atR; rw [if_neg (by omega), Int.toNat_natCast, ha]; simp [ht]]
        have hst : Sat w0 (pc w.heap.size 30 [vi 0, vu 0] * (tblB p s ps.length free.length * (tblL s ps * (tblF s free * F)))) (w.alloc (.cells #[vi 0, vu 0] 30)) := HS.out.alloc _
        have HST := Lib.hid hst
        go_enter Tryz.func76, Tryz.ntmps76
        go_wp2_with (go_at_call 139; (with_reducible refine HN.out.mono ?_); rintro e w1 ⟨rfl, rfl⟩)
        have o0 := HST.out.cell 0 rfl
        have o1 := HST.out.cell 1 rfl
        (try simp only [Exit.inBlock, Exit.then])
        refine bodyPost_ret (v := .tuple #[vr 0 0, .bool false]) (by rw [results_cell_tmp rfl]; go_simp) rfl ?_
        exact ⟨rfl, TblIs.shut (s := s) ⟨HK.out, HST.out.dropL⟩⟩
      | true =>
        rw [ht] at e1
        rw [show atR ps k = ((k : Int), a.gen, true) by unfold atR; rw [if_neg (by omega), Int.toNat_natCast, ha]; simp [ht]]
        have hst : Sat w0 (pc w.heap.size 30 [vi k, vu a.gen] * (tblB p s ps.length free.length * (tblL s ps * (tblF s free * F)))) (w.alloc (.cells #[vi k, vu a.gen] 30)) := HS.out.alloc _
        have HST := Lib.hid hst
        generalize a.gen = gn at *
        go_enter Tryz.func76, Tryz.ntmps76
        go_wp2_with (go_at_call 139; (with_reducible refine HN.out.mono ?_); rintro e w1 ⟨rfl, rfl⟩)
        have o0 := HST.out.cell 0 rfl
        have o1 := HST.out.cell 1 rfl
        (try simp only [Exit.inBlock, Exit.then])
        refine bodyPost_ret (v := .tuple #[vr k gn, .bool true]) (by rw [results_cell_tmp rfl]; go_simp) rfl ?_
        exact ⟨rfl, TblIs.shut (s := s) ⟨HK.out, HST.out.dropL⟩⟩
    · have hki : ¬ (k : Int) < (ps.length : Int) := by omega
      rw [show atR ps k = (0, 0, false) by unfold atR; rw [if_neg (by omega), Int.toNat_natCast, List.getElem?_eq_none (by omega)]]
      have hst : Sat w0 (pc w.heap.size 30 [vi 0, vu 0] * (tblB p s ps.length free.length * (tblL s ps * (tblF s free * F)))) (w.alloc (.cells #[vi 0, vu 0] 30)) := HS.out.alloc _
      have HST := Lib.hid hst
      go_enter Tryz.func76, Tryz.ntmps76
      go_wp2_with (go_at_call 139; (with_reducible refine HN.out.mono ?_); rintro e w1 ⟨rfl, rfl⟩)
      have o0 := HST.out.cell 0 rfl
      have o1 := HST.out.cell 1 rfl
      (try simp only [Exit.inBlock, Exit.then])
      refine bodyPost_ret (v := .tuple #[vr 0 0, .bool false]) (by rw [results_cell_tmp rfl]; go_simp) rfl ?_
      exact ⟨rfl, TblIs.shut (s := s) ⟨HK.out, HST.out.dropL⟩⟩
end
end Go.Proofs.YtdbppfcilaajaaaGreat.Ag

namespace Go.Proofs.YtdbppfcilaajaaaGreat.Gt
open Go.RowKit Ag
set_option linter.unusedVariables false
set_option linter.unusedSimpArgs false

section
variable {w0 w : World} {F : Hp} {h p : Nat} {ps : List Pl} {free : List Nat}
set_option maxRecDepth 100000 in
set_option maxHeartbeats 4000000 in
theorem gt_at (hS : Sat w0 (gtB h p * (tblP p ps free * F)) w) (i : Int) : Calls Tryz.prog 21 #[vp h, vi i] w fun e w' => e = .returned (.tuple #[vr (atR ps i).1 (atR ps i).2.1, .bool (atR ps i).2.2]) ∧ Sat w0 (gtB h p * (tblP p ps free * F)) w' := by
  have hB : Sat w0 (pc w.heap.size 30 [vi 0, vu 0] * (gtB h p * (tblP p ps free * F))) (w.alloc (.cells #[vi 0, vu 0] 30)) := hS.alloc _
  have c0 := hB.pull2.cell 0 rfl
  have HN := Lib.hid (gt_none hB.pull2)
  have HL := Lib.hid (da_at hB.pull3 i)
  clear hS hB
  generalize (atR ps i).1 = xi at *
  generalize (atR ps i).2.1 = xg at *
  generalize (atR ps i).2.2 = xb at *
  go_enter Tryz.func21, Tryz.ntmps21
  go_wp2_with (first
    | (go_at_call 75; (with_reducible refine HN.out.mono ?_); rintro e w1 ⟨rfl, rfl⟩)
    | (go_at_call 76; (with_reducible refine HL.out.mono ?_); rintro e w1 ⟨rfl, hS1⟩; have b0 := hS1.pull2.cell 0 rfl; have b1 := hS1.pull2.cell 1 rfl; have f0 := hS1.pull2.free 0; have f1 := hS1.pull2.free 1; have hst := (hS1.pull2.store 0 (vi xi)).store 1 (vu xg); have o0 := hst.cell 0 rfl; have o1 := hst.cell 1 rfl; have HST := Lib.hid hst; clear hS1 hst))
  (try simp only [Exit.inBlock, Exit.then])
  refine bodyPost_ret (v := .tuple #[vr xi xg, .bool xb]) (by rw [results_cell_tmp rfl]; go_simp) rfl ?_
  exact ⟨rfl, HST.out.dropL.pull2⟩
end
end Go.Proofs.YtdbppfcilaajaaaGreat.Gt

namespace Go.Proofs.YtdbppfcilaajaaaGreat.Gt
open Go.RowKit Go.Shelf Ag
set_option linter.unusedVariables false
set_option linter.unusedSimpArgs false

attribute [local go_sem] Oper.semAt_some
theorem wpListIn_make_sl {G : Fence} {nf : Nat} {P : Program} {w0 w : World} {F : Hp} {ops : Array Oper} {rest : List Oper} {o : Oper} {a : Act} {Q : Exit → Act → World → Prop} {t e : TypeId} {size bytes : Nat} {z : Value} (E : SlT P t e size bytes z) (hgd : o.guard = none) (l c : Operand)
    (ho : o.op = Op.makeSlice t l c) (kl kc : IntKind) (L C : Int) (n m : Nat) (hl : a.eval l = .int kl L) (hc : a.eval c = .int kc C) (eL : L = n) (eC : C = m) (c1 : n ≤ m) (hC : bytes * m ≤ 281474976710656) (h63 : m ≤ 9223372036854775807)
    (hS : Sat w0 F w)
    (h : ∀ g w', Sat w0 (pc g e (madeCells z.cells (m * size)).toList * F) w' → wpListIn G nf P ops Q rest (a.put o.dst (.slice (some ⟨g, 0, none⟩) n m)) w') : wpListIn G nf P ops Q (o :: rest) a w := by
  refine wpListIn_plain hgd fun K hK => ?_
  obtain ⟨i, hi, hz, rfl, rfl⟩ := E.info
  subst eL
  subst eC
  have hb : (i.bytes : Int) * (m : Int) ≤ 281474976710656 := by
    have h : ((i.bytes * m : Nat) : Int) ≤ 281474976710656 := by omega
    rwa [Int.natCast_mul] at h
  have hr := run_make (P := P) w t e i z E.und hi hz kl kc n m (by omega) (by omega) hb (by omega)
  unfold Oper.wpIn
  refine ⟨?_, ?_⟩
  · simp [Oper.about, ho]
  · rw [Oper.semAt_plain G _ _ (by rw [ho]; intro c hc'; cases hc')]
    simp [execOp, ho, hl, hc, hr, Result.andThen]
    exact hK _ _ (h _ _ ((hS.alloc _).cast (by simp [pc])))
theorem made_u8 (n : Nat) : (madeCells (Value.int .u8 0).cells (n * 1)).toList = List.replicate n (.int .u8 0) := by
  refine List.ext_getElem? fun i => ?_
  simp only [madeCells, Value.cells, Array.toList_map, Array.toList_range, List.getElem?_map, List.getElem?_replicate]
  by_cases h : i < n
  · simp [h, Nat.mod_one]
  · simp [h]
theorem Eu8 : SlT Tryz.prog 46 5 1 1 (.int .u8 0) := SlT.mk' Tryz.underlying46 (by kernel_rfl) rfl (by decide)
/-- Affinities, as they have been written so far. -/
def affL (n : Nat) (l : List (Nat × Int × El)) : List Value := l.foldl (fun a y => a.set y.1 (.int .u8 y.2.2.v6)) (List.replicate n (.int .u8 0))
theorem affL_snoc (n : Nat) (l : List (Nat × Int × El)) (y : Nat × Int × El) : affL n (l ++ [y]) = (affL n l).set y.1 (.int .u8 y.2.2.v6) := by
  unfold affL
  rw [List.foldl_append]
  rfl
theorem affL_len (n : Nat) : ∀ l : List (Nat × Int × El), (affL n l).length = n := by
  intro l
  unfold affL
  generalize hb : List.replicate n (Value.int .u8 0) = b
  have hl : b.length = n := by rw [← hb]; simp
  clear hb
  induction l generalizing b with
  | nil => exact hl
  | cons y l ih =>
    rw [List.foldl_cons]
    exact ih _ (by rw [List.length_set]; exact hl)
abbrev afH (bo go : Nat) (ps : List Pl) (F : Hp) (l : List (Nat × Int × El)) : Hp := pc bo 46 [.slice (some ⟨go, 0, none⟩) ps.length ps.length] * (sl 5 1 (.slice (some ⟨go, 0, none⟩) ps.length ps.length) ps.length (affL ps.length l) * F)
section
variable {w0 w : World} {F : Hp} {d p : Nat} {ps : List Pl} {free : List Nat}
set_option maxRecDepth 100000 in
set_option maxHeartbeats 4000000 in
theorem gt_aff (hS : Sat w0 (gtB d p * (tblP p ps free * F)) w) (hsm : ps.length ≤ 64) (hpos : 1 ≤ ps.length) :
    Calls Tryz.prog 72 #[vp d] w fun e w' => ∃ go, e = .returned (.slice (some ⟨go, 0, none⟩) ps.length ps.length) ∧ Sat w0 (sl 5 1 (.slice (some ⟨go, 0, none⟩) ps.length ps.length) ps.length (affL ps.length (Ag.seen ps ps.length)) * (gtB d p * (tblP p ps free * F))) w' := by
  have c0 := hS.cell 0 rfl
  have HN := Lib.hid (gt_none hS)
  have HSz := Lib.hid (da_size hS.pull2)
  clear hS
  refine (callsIn_wide (n := 9)).1 ?_
  refine callsIn_of_wp_marks Tryz.func72 rfl trivial ?_ rfl
  simp only [Tryz.ntmps72, List.size_toArray, List.length_cons, List.length_nil, Nat.reduceAdd, Nat.reduceSub, Array.replicate_succ, Array.replicate_zero, List.push_toArray, List.append_toArray, List.nil_append, List.cons_append]
  gi_wp2_with fail
  refine ⟨trivial, ?_⟩
  refine (callsIn_wide.2 HN.out).mono ?_
  rintro e w' ⟨rfl, rfl⟩
  gi_wp2_with fail
  refine ⟨trivial, ?_⟩
  refine (callsIn_wide.2 HSz.out).mono ?_
  rintro e w1 ⟨rfl, hS1⟩
  have H1 := Lib.hid hS1.pull2
  clear hS1 c0
  gi_wp2_with (gi_at_make; refine wpListIn_make_sl Eu8 rfl _ _ rfl .i64 .i64 ps.length ps.length ps.length ps.length rfl rfl rfl rfl (by omega) (by omega) (by omega) H1.out ?_; intro go w2 hM; have hM2 : Sat w0 (sl 5 1 (.slice (some ⟨go, 0, none⟩) ps.length ps.length) ps.length (affL ps.length []) * (gtB d p * (tblP p ps free * F))) w2 := (hM.cast (show _ = pc go 5 (List.replicate ps.length (.int .u8 0)) * (gtB d p * (tblP p ps free * F)) by rw [made_u8])).slI (Nat.le_refl _) (by unfold maxLen; omega) (by simp) (List.take_of_length_le (by simp)); have hM3 : Sat w0 (pc w2.heap.size 46 [.slice (some ⟨go, 0, none⟩) ps.length ps.length] * (sl 5 1 (.slice (some ⟨go, 0, none⟩) ps.length ps.length) ps.length (affL ps.length []) * (gtB d p * (tblP p ps free * F)))) (w2.alloc (.cells #[.slice (some ⟨go, 0, none⟩) ps.length ps.length] 46)) := hM2.alloc _; have c0 := hM3.pull3.cell 0 rfl; have HM := Lib.hid hM3; clear hM hM2 hM3)
  have HAl := Lib.hid (da_all HM.out.pull4)
  generalize hbo : w2.heap.size = bo at *
  refine ⟨trivial, ?_⟩
  refine (callsIn_wide.2 HAl.out).mono ?_
  rintro e w3 ⟨bx, g, cap, rfl, hS⟩
  have h1 : Sat w0 (Ag.itP bx (.slice (some ⟨g, 0, none⟩) ps.length cap) ps * afH bo go ps (gtB d p * (tblP p ps free * F)) []) w3 := hS.cast (by
    show _ = _ * (pc bo 46 [.slice (some ⟨go, 0, none⟩) ps.length ps.length] * _)
    ac_rfl)
  have H3 := Lib.hid h1
  clear hS h1 c0 HM HAl HN HSz H1 hbo
  gi_wp2
  refine Ag.wpIn_act ?_
  intro a0 ha0
  refine wpIn_range_sat (H' := Ag.itP bx (.slice (some ⟨g, 0, none⟩) ps.length cap) ps * afH bo go ps (gtB d p * (tblP p ps free * F)) (Ag.seen ps ps.length)) rfl (by omega) (gf := 185) (lb := #[vp bx]) (by rw [ha0]; rfl) trivial (enters_of Tryz.func185 (by kernel_rfl) rfl) H3.out ?call ?done
  case call =>
    intro fn ll DD R W hfn hR hS
    have hS : Sat w0 (Ag.itP bx (.slice (some ⟨g, 0, none⟩) ps.length cap) ps * (afH bo go ps (gtB d p * (tblP p ps free * F)) [] * (pt ll R * pt DD dmark))) W := hS.cast (by ac_rfl)
    refine (Ag.da_all1 8 (by omega) (by omega) (fun l => afH bo go ps (gtB d p * (tblP p ps free * F)) l * (pt ll R * pt DD dmark)) bx g cap ll ?_ hS).mono ?_
    · intro k a W2 F2 hk hth hS2
      have hkn : k < ps.length := (List.getElem?_eq_some_iff.1 hk).1
      have hki : (k : Int) < (ps.length : Int) := by omega
      clear hS hk
      obtain ⟨gen, there, retired, x⟩ := a
      dsimp only at hS2 ⊢
      generalize hl : Ag.seen ps k = l at *
      have h3 : Sat w0 (pt ll R * (pc bo 46 [.slice (some ⟨go, 0, none⟩) ps.length ps.length] * (sl 5 1 (.slice (some ⟨go, 0, none⟩) ps.length ps.length) ps.length (affL ps.length l) * (Ag.itP bx (.slice (some ⟨g, 0, none⟩) ps.length cap) ps * ((gtB d p * (tblP p ps free * F)) * (pt DD dmark * F2)))))) W2 := hS2.cast (by unfold afH; ac_rfl)
      have H3 := Lib.hid h3
      have h40 := (h3.alloc (.cells #[vi k, vu gen] 30)).alloc (elO ez)
      rw [Ag.size1] at h40
      have h40 : Sat w0 (pc (W2.heap.size + 1) 134 (elC ez) * _) _ := h40
      have HTh := Lib.hid (there_ (n := 19) h40 rfl)
      have h4' := h40.stores (elC x) 0
      rw [setL_all (elC ez) (elC x) rfl] at h4'
      have h4 : Sat w0 (elB (W2.heap.size + 1) x * (pc W2.heap.size 30 [vi k, vu gen] * (pt ll R * (pc bo 46 [.slice (some ⟨go, 0, none⟩) ps.length ps.length] * (sl 5 1 (.slice (some ⟨go, 0, none⟩) ps.length ps.length) ps.length (affL ps.length l) * (Ag.itP bx (.slice (some ⟨g, 0, none⟩) ps.length cap) ps * ((gtB d p * (tblP p ps free * F)) * (pt DD dmark * F2)))))))) (World.setCells ((W2.alloc (.cells #[vi k, vu gen] 30)).alloc (elO ez)) (W2.heap.size + 1) 0 (elC x)) := h4'
      have h4 : Sat w0 (pt ll R * (pc W2.heap.size 30 [vi k, vu gen] * (elB (W2.heap.size + 1) x * (pc bo 46 [.slice (some ⟨go, 0, none⟩) ps.length ps.length] * (sl 5 1 (.slice (some ⟨go, 0, none⟩) ps.length ps.length) ps.length (affL ps.length l) * (Ag.itP bx (.slice (some ⟨g, 0, none⟩) ps.length cap) ps * ((gtB d p * (tblP p ps free * F)) * (pt DD dmark * F2)))))))) (World.setCells ((W2.alloc (.cells #[vi k, vu gen] 30)).alloc (elO ez)) (W2.heap.size + 1) 0 (elC x)) := h4.cast (by ac_rfl)
      have H4 := Lib.hid h4
      clear hS2 h3 h40 h4' h4
      have hY := yield_sat (P := Tryz.prog) (G := Fence.wide) (n := 8 - 1) (args := #[vr k gen, ev x]) (X' := Ag.itP bx (.slice (some ⟨g, 0, none⟩) ps.length cap) ps * (afH bo go ps (gtB d p * (tblP p ps free * F)) (l ++ [(k, gen, x)]) * (pt DD dmark * F2)))
        (A := fun a' W' => a' = { tmps := (((a0.tmps.setIfInBounds 19 (vr k gen)).setIfInBounds 20 (ev x)).setIfInBounds 4 (.pointer (some ⟨W2.heap.size, 0, none⟩))).setIfInBounds 5 (.pointer (some ⟨W2.heap.size + 1, 0, none⟩)), defers := [] } ∧ W' = World.setCells ((W2.alloc (.cells #[vi k, vu gen] 30)).alloc (elO ez)) (W2.heap.size + 1) 0 (elC x)) hfn rfl hR H3.out ?ha ?assign ?body
      case ha =>
        rintro a' W' ⟨_, rfl⟩
        exact H4.out.blk.1
      case assign =>
        intro K hK
        have HK := Lib.hid hK
        clear hK hR
        subst ha0
        gi_wp2_with (refine wpListIn_store_mid rfl 134 _ _ rfl (W2.heap.size + 1) 0 (elC x).toArray (by rfl) (by rfl) HTh.out einfo (all_oneCell_toArray (elOne x)) ?_)
        exact HK.out _ _ ⟨by simp, rfl⟩
      case body =>
        rintro B a' W' ⟨rfl, rfl⟩
        have h5 : Sat w0 (pt ll B * _) _ := H4.out.putObj (o' := B)
        have p0 := h5.pull2.cell 0 rfl
        have q6 := h5.pull3.cell 6 rfl
        have o0 := h5.pull4.cell 0 rfl
        have h6 := h5.cast (show _ = sl 5 1 (.slice (some ⟨go, 0, none⟩) ps.length ps.length) ps.length (affL ps.length l) * (pt ll B * (pc W2.heap.size 30 [vi k, vu gen] * (elB (W2.heap.size + 1) x * (pc bo 46 [.slice (some ⟨go, 0, none⟩) ps.length ps.length] * (Ag.itP bx (.slice (some ⟨g, 0, none⟩) ps.length cap) ps * ((gtB d p * (tblP p ps free * F)) * (pt DD dmark * F2))))))) by ac_rfl)
        have s0 := h6.slCell k (List.getElem?_eq_getElem (by rw [affL_len]; exact hkn))
        have s1 := h6.slFree k
        have h7 := h6.slStore k (by omega) (.int .u8 x.v6)
        rw [← affL_snoc ps.length l (k, gen, x)] at h7
        have H7 := Lib.hid h7
        clear h5 hR h6 h7
        subst ha0
        simp only [List.setIfInBounds_toArray, List.set_cons_succ, List.set_cons_zero]
        generalize (World.putObj (World.setCells ((W2.alloc (.cells #[vi k, vu gen] 30)).alloc (elO ez)) (W2.heap.size + 1) 0 (elC x)) ll B) = W3 at *
        generalize W2.heap.size = ba at *
        gi_wp2
        exact (H7.out.cast (show _ = elB (ba + 1) x * (pc ba 30 [vi k, vu gen] * (pt ll B * (Ag.itP bx (.slice (some ⟨g, 0, none⟩) ps.length cap) ps * (afH bo go ps (gtB d p * (tblP p ps free * F)) (l ++ [(k, gen, x)]) * (pt DD dmark * F2))))) by unfold afH; ac_rfl)).dropL.dropL
      exact hY.mono fun e W' h => ⟨h.1, h.2.cast (by ac_rfl)⟩
    · rintro e W' ⟨he, h⟩
      exact ⟨he, h.cast (by ac_rfl)⟩
  case done =>
    intro DD W hS
    have h3 : Sat w0 (pc bo 46 [.slice (some ⟨go, 0, none⟩) ps.length ps.length] * (pt DD dmark * (Ag.itP bx (.slice (some ⟨g, 0, none⟩) ps.length cap) ps * (sl 5 1 (.slice (some ⟨go, 0, none⟩) ps.length ps.length) ps.length (affL ps.length (Ag.seen ps ps.length)) * (gtB d p * (tblP p ps free * F)))))) W := hS.cast (by unfold afH; ac_rfl)
    have o0 := h3.cell 0 rfl
    have hk := h3.pull2.blk.1
    have H4 := Lib.hid h3
    clear hS h3
    subst ha0
    gi_wp2
    refine ⟨by simp, .inl ⟨_, _, rfl, run_takeDeferred hk, ?_⟩⟩
    exact ⟨_, by simp [results, Tryz.f72, go_sem], go, rfl, H4.out.pull2.putObj.dropL.dropL.dropL⟩
end
end Go.Proofs.YtdbppfcilaajaaaGreat.Gt

namespace Go.Proofs.YtdbppfcilaajaaaGreat.Kn
open Go.RowKit Pc Rq
set_option linter.unusedVariables false
set_option linter.unusedSimpArgs false
section
variable {w0 w : World} {F : Hp} {A : KA} {ps gs : Nat} {prv : Value} {gps : List Ag.Pl} {gfr dfr cfr : List Nat} {cs cs' : List Cn.CP} {dps dps' : List Ad.Pl} {j : Nat} {p : Nat → Pl} {gx : List Int} {bs bp bk bv bl k : Nat} {vic : Int}
abbrev kP (A : KA) (ps gs : Nat) (prv : Value) (gps : List Ag.Pl) (gfr : List Nat) (cs : List Cn.CP) (cfr : List Nat) (dps : List Ad.Pl) (dfr : List Nat) (j : Nat) (F : Hp) : Hp := knB A.kk ps gs prv 0 (vp A.g) (vp A.c) (vp A.d) (vp A.s) (vp A.D.s) (vp A.t) (vp A.a) * (cG A gps gfr * (Cn.cxQ [] A.c 4 cs cfr * (domD A.d A.q2 dps dfr * (spQ A.s gs j * (Hm.heapP A.t [] 0 * (prB prv * F))))))
theorem kF_p : kF A ps gs prv gps gfr cs cfr dps dfr j p gx F = plB A.D p gx * kP A ps gs prv gps gfr cs cfr dps dfr j F := by simp only [kF, kP]; ac_rfl
set_option maxRecDepth 100000 in
theorem came_ (g h : Int) (b : Bool) (w : World) : Calls Tryz.prog 16 #[vi g, .bool b, vi h] w fun e w' => e = .returned (.tuple #[vi (if b then g else 0), vi (if b then h else 0)]) ∧ w = w' := by
  cases b
  all_goals go_enter Tryz.func16, Tryz.ntmps16
  all_goals go_wp2
  all_goals go_ret2
  all_goals exact ⟨rfl, rfl⟩
/-- What the closures see. -/
abbrev lkB (bk bp bv bs kk s : Nat) (k vic : Int) (X : Hp) : Hp := pc bs 47 [vp s] * (pc bp 3 [vi k] * (pc bk 35 [vp kk] * (pc bv 3 [vi vic] * X)))
set_option maxRecDepth 100000 in
theorem look_own (h : Sat w0 (lkB bk bp bv bs A.kk A.D.s k vic (kF A ps gs prv gps gfr cs cfr dps dfr j p gx F)) w) (ho : A.D.Ok) (hk : k < A.D.n) (hl : gx.length ≤ 999000) (ht : takeG A.D.m (p k) = []) (hp : up p k (takeY A.D.m (p k)) = p) (hs : takeS A.D.m (p k) = []) :
    Calls Tryz.prog 69 #[vp bs, vp bp] w fun e w' => e = .returned (.tuple #[vi 0, vi 0]) ∧ Sat w0 (lkB bk bp bv bs A.kk A.D.s k vic (kF A ps gs prv gps gfr cs cfr dps dfr j p gx F)) w' := by
  have c0 := h.cell 0 rfl
  have c1 := h.pull2.cell 0 rfl
  have hO := pl_own_at (h.cast (show _ = plB A.D p gx * lkB bk bp bv bs A.kk A.D.s k vic (kP A ps gs prv gps gfr cs cfr dps dfr j F) by rw [kF_p]; simp only [lkB]; ac_rfl)) ho k hk hl
  rw [ht, hp, hs, List.append_nil] at hO
  have HO := Lib.hid hO
  have HC : Hid (∀ w : World, Calls Tryz.prog 16 #[vi 0, .bool false, vi 2] w fun e w' => e = .returned (.tuple #[vi 0, vi 0]) ∧ w = w') := Lib.hid fun w => came_ 0 2 false w
  clear h hO ht hp hs
  go_enter Tryz.func69, Tryz.ntmps69
  go_wp2_with (first
    | (go_at_call 15; refine HO.out.mono ?_; rintro e w1 ⟨rfl, hS1⟩; have HS1 := Lib.hid hS1; clear hS1)
    | (go_at_call 16; refine (HC.out _).mono ?_; rintro e w' ⟨rfl, rfl⟩))
  go_ret2
  exact ⟨rfl, HS1.out.cast (by rw [kF_p]; simp only [lkB]; ac_rfl)⟩
abbrev lkS (bk bp bs kk s : Nat) (k : Int) (w' : World) : Prop := w'.cell? ⟨bs, 0, none⟩ = some (vp s) ∧ w'.cell? ⟨bp, 0, none⟩ = some (vi k) ∧ w'.cell? ⟨bk, 0, none⟩ = some (vp kk)
theorem lk_S {X : Hp} {kk s : Nat} {k : Int} (h : Sat w0 (lkB bk bp bv bs kk s k vic X) w) : lkS bk bp bs kk s k w := ⟨h.cell 0 rfl, h.pull2.cell 0 rfl, h.pull3.cell 0 rfl⟩
theorem afR {v : Value} {af : List Nat} {n : Nat} {xs : List Value} (h : Sat w0 (sl 5 1 v n xs * F) w) (hx : xs = af.map fun a : Nat => Value.int .u8 a) (hn : n = af.length) (h2 : ∀ a ∈ af, a < 256) : RdA w v af := by
  subst hx hn
  exact ⟨h.rd, h2⟩
set_option maxRecDepth 100000 in
set_option maxHeartbeats 4000000 in
theorem look_shared {af : List Nat} {gg : Int} (h : Sat w0 (lkB bk bp bv bs A.kk A.D.s k vic (kF A ps gs prv gps gfr cs cfr dps dfr j p gx F)) w) (hk : k < A.D.n) (hl : gx.length ≤ 999000) (hg1 : gps.length ≤ 64) (hg2 : 1 ≤ gps.length)
    (haf : Gt.affL gps.length (Ag.seen gps gps.length) = af.map fun a : Nat => Value.int .u8 a) (hal : gps.length = af.length) (ha : ∀ a ∈ af, a < 256) (hf : gx.find? (mayG af k) = some gg) :
    Calls Tryz.prog 70 #[vp bs, vp bp, vp bk] w fun e w' => e = .returned (.tuple #[vi gg, vi 3]) ∧ Sat w0 (lkB bk bp bv bs A.kk A.D.s k vic (kF A ps gs prv gps gfr cs cfr dps dfr j p (gx.eraseP (mayG af k)) F)) w' := by
  have hD := h.drew
  have T0 := Lib.hid (lk_S hD)
  have HG := Lib.hid (k_gs (hD.cast (show _ = knB A.kk ps gs prv 0 (vp A.g) (vp A.c) (vp A.d) (vp A.s) (vp A.D.s) (vp A.t) (vp A.a) * lkB bk bp bv bs A.kk A.D.s k vic (plB A.D p gx * (cG A gps gfr * (Cn.cxQ [] A.c 4 cs cfr * (domD A.d A.q2 dps dfr * (spQ A.s gs j * (Hm.heapP A.t [] 0 * (prB prv * F))))))) by simp only [lkB, kF]; ac_rfl)))
  have hA := Gt.gt_aff (hD.cast (show _ = Gt.gtB A.g A.q1 * (Ag.tblP A.q1 gps gfr * lkB bk bp bv bs A.kk A.D.s k vic (plB A.D p gx * (knB A.kk ps gs prv 0 (vp A.g) (vp A.c) (vp A.d) (vp A.s) (vp A.D.s) (vp A.t) (vp A.a) * (Cn.cxQ [] A.c 4 cs cfr * (domD A.d A.q2 dps dfr * (spQ A.s gs j * (Hm.heapP A.t [] 0 * (prB prv * F)))))))) by simp only [lkB, kF, cG]; ac_rfl)) hg1 hg2
  have HA := Lib.hid hA
  have HF := Lib.hid hf
  have HK := Lib.hid (And.intro hk hl)
  have HAF := Lib.hid (And.intro haf (And.intro hal ha))
  have HC : Hid (∀ w : World, Calls Tryz.prog 16 #[vi gg, .bool true, vi 3] w fun e w' => e = .returned (.tuple #[vi gg, vi 3]) ∧ w = w') := Lib.hid fun w => came_ gg 3 true w
  clear h hD hA hf hk hl haf hal ha
  go_enter Tryz.func70, Tryz.ntmps70
  go_wp2
  go_region_held3 (lkS bk bp bs A.kk A.D.s k)
    (first | (with_reducible exact T2.out) | (with_reducible exact T1.out) | (with_reducible exact T0.out))
    (first
      | (go_at_call 20; refine HG.out.mono ?_; rintro e w' ⟨rfl, rfl⟩)
      | (go_at_call 72; refine HA.out.mono ?_; rintro e w1 ⟨go, rfl, hS1⟩; have hE1 : Sat w0 (sl 5 1 (.slice (some ⟨go, 0, none⟩) gps.length gps.length) gps.length (Gt.affL gps.length (Ag.seen gps gps.length)) * lkB bk bp bv bs A.kk A.D.s k vic (kF A ps gs prv gps gfr cs cfr dps dfr j p gx F)) w1 := hS1.cast (by simp only [lkB, kF, cG]; ac_rfl); have T1 := Lib.hid (lk_S hE1.dropL); have hSh := pl_shared_at (hE1.cast (show _ = plB A.D p gx * (sl 5 1 (.slice (some ⟨go, 0, none⟩) gps.length gps.length) gps.length (Gt.affL gps.length (Ag.seen gps gps.length)) * lkB bk bp bv bs A.kk A.D.s k vic (kP A ps gs prv gps gfr cs cfr dps dfr j F)) by rw [kF_p]; simp only [lkB]; ac_rfl)) k HK.out.1 (by have := HK.out.2; omega) (fun w' h' => afR h' HAF.out.1 HAF.out.2.1 HAF.out.2.2); have HSh := Lib.hid (by rw [HF.out] at hSh; exact hSh); clear hS1 hE1 hSh)
      | (go_at_call 71; refine HSh.out.mono ?_; rintro e w2 ⟨rfl, hS2⟩; have hE2 : Sat w0 (lkB bk bp bv bs A.kk A.D.s k vic (kF A ps gs prv gps gfr cs cfr dps dfr j p (gx.eraseP (mayG af k)) F)) w2 := (hS2.cast (show _ = sl 5 1 (.slice (some ⟨go, 0, none⟩) gps.length gps.length) gps.length (Gt.affL gps.length (Ag.seen gps gps.length)) * lkB bk bp bv bs A.kk A.D.s k vic (kF A ps gs prv gps gfr cs cfr dps dfr j p (gx.eraseP (mayG af k)) F) by rw [kF_p]; simp only [lkB]; ac_rfl)).dropL; have T2 := Lib.hid (lk_S hE2); have H2 := Lib.hid hE2; clear hS2 hE2))
  go_wp2_with (go_at_call 16; refine (HC.out _).mono ?_; rintro e w' ⟨rfl, rfl⟩)
  go_ret2
  exact ⟨rfl, H2.out⟩
end
end Go.Proofs.YtdbppfcilaajaaaGreat.Kn
