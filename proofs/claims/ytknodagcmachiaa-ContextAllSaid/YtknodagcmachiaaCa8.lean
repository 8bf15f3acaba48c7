/-
  The arena's All at helmsman/api.Context, and its iterator. No statement is proved here.
-/
import Derived.Test.YtknodagcmachiaaMg5
import Derived.Test.YtknodagcmachiaaMg12
import Derived.Sort.LoopGhostIn
import Derived.Shelf.Abstract
import Derived.Shelf.RegionOpen
import Derived.OwnWalkIn
import Derived.TacticsInMore
import Derived.LoopNIn
import Derived.LoopIn
namespace Go.Proofs.Ytknodagcmachiaa.Ac
open Go.RowKit Go.Shelf
open Fi (vi vu)
attribute [local go_sem] Oper.semAt_some
set_option linter.unusedVariables false
set_option linter.unusedSimpArgs false

/-- What the iterator has of its own: its list. -/
def itP (bx : Nat) (v : Value) (ps : List Pl) : Hp := pc bx 105 [v] * sl 110 7 v ps.length (flat ps)

/-- The frame, by a name. -/
theorem wpIn_act {Fe : Fence} {n : Nat} {P : Program} {c : Code} {Q : Exit → Act → World → Prop} {a : Act} {w : World} (h : ∀ a', a' = a → c.wpIn Fe n P Q a' w) : c.wpIn Fe n P Q a w := h a rfl
theorem pinfo98 : (Try.prog.info? 110).map (·.size) = some 7 := by kernel_rfl
theorem rangeX {b : Nat} {T : TypeId} {a : Pl} {F : Hp} {w0 w : World} (h : Sat w0 (pc b T (Pl.cells a) * F) w) : w.rangeAt b 3 (elC a.x) := fun j v hv => by
  rw [show 3 + j = j + 1 + 1 + 1 by omega]
  exact h.cell (j + 1 + 1 + 1) hv
theorem slRangeP {T : TypeId} {g n cap k : Nat} {ps : List Pl} {a : Pl} {F : Hp} {w0 w : World} (h : Sat w0 (sl T 7 (.slice (some ⟨g, 0, none⟩) n cap) n (flat ps) * F) w) (hk : ps[k]? = some a) : w.rangeAt g (k * 7) (Pl.cells a) := fun j v hv =>
  h.slCell (k * 7 + j) (flat_get Pl.len hk hv)
theorem setL_all (cs vs : List Value) (h : vs.length = cs.length) : setL cs 0 vs = vs := List.ext_getElem? fun i => by
  by_cases hi : i < vs.length
  · have := setL_in vs cs 0 i hi (by omega)
    rwa [Nat.zero_add] at this
  · rw [List.getElem?_eq_none (by rw [setL_len]; omega), List.getElem?_eq_none (by omega)]
section
variable {w0 w : World} {p : Nat} {ps : List Pl} {free : List Nat} {F : Hp}
theorem clone_places {v : Value} {ps : List Pl} (h : Sat w0 F w) (hR : ∀ w', Sat w0 F w' → Rd w' 7 v ps.length (flat ps)) (hl : ps.length ≤ 4096) (hp : 0 < ps.length) :
    Calls Try.prog 92 #[v] w fun e w' => ∃ g cap, e = .returned (.slice (some ⟨g, 0, none⟩) ps.length cap) ∧ Sat w0 (sl 110 7 (.slice (some ⟨g, 0, none⟩) ps.length cap) ps.length (flat ps) * F) w' := by
  obtain ⟨b, off, cap, rfl, _⟩ := (hR w h).pos (by omega)
  have hone := Lib.hid (flat_one Pl.one ps)
  have HR := Lib.hid hR
  have H := Lib.hid h
  clear hR h
  have hn := @Lib.run_eql_slice_nil Try.prog
  go_enter Try.func92, Try.ntmps92
  go_wp2_with (at_builtin; refine wpList_append_sl Epl rfl (.tmp 5) (.tmp 6) rfl (by rfl) (H.out.sl0 110 7) (by rfl) (HR.out _ (H.out.alloc' _)) hone.out (by unfold maxLen; omega) (by omega) ?_; intro ao1 cap1 w1 hS1; simp only [Nat.zero_add, List.nil_append] at hS1)
  go_ret
  rcases hS1.slE.2 with ⟨_, h0, _⟩ | ⟨g, c, cur, hv, _⟩
  · omega
  · cases hv
    exact ⟨g, cap1, by simp, hS1⟩
set_option maxRecDepth 100000 in
set_option maxHeartbeats 1000000 in
theorem da_all (h : Sat w0 (tblP p ps free * F) w) :
    Calls Try.prog 52 #[vp p] w fun e w' => ∃ bx g cap, e = .returned (.func (.func 93) #[] #[vp bx]) ∧ Sat w0 (itP bx (.slice (some ⟨g, 0, none⟩) ps.length cap) ps * (tblP p ps free * F)) w' := by
  obtain ⟨s, hs⟩ := open_ h
  have hok := hs.ok
  have hpos := hok.pos
  have hsm := hok.small
  have hB : Sat w0 (pc w.heap.size 105 [.slice none 0 0] * (tblB p s ps.length free.length * (tblL s ps * (tblF s free * F)))) (w.alloc (.cells #[.slice none 0 0] 105)) := hs.sat.alloc _
  have hI : TblIs w0 p s ps free (pc w.heap.size 105 [.slice none 0 0] * F) (w.alloc (.cells #[.slice none 0 0] 105)) := ⟨hok, hB.cast (by ac_rfl)⟩
  have c0 := hI.c0
  have b0 := hB.cell 0 rfl
  have f0 := hB.free 0
  have HN := Lib.hid (none_ hI)
  have HOK := Lib.hid hok
  have HB := Lib.hid hB
  have HC := Lib.hid (clone_places hB (fun w2 h2 => h2.pull3.rd) hsm hpos)
  clear h hs hok hI hB
  generalize hwb : w.alloc (.cells #[.slice none 0 0] 105) = wb at *
  have HW := Lib.hid hwb
  generalize hbx : w.heap.size = bx at *
  have HBX := Lib.hid hbx
  clear hwb hbx
  go_enter Try.func52, Try.ntmps52
  go_wp2_with fail
  rw [HW.out, HBX.out]
  refine HN.out.mono ?_
  rintro e w' ⟨rfl, rfl⟩
  go_wp2_with (go_at_call 92; refine HC.out.mono ?_; rintro e w1 ⟨g, cap, rfl, hS⟩; have b1 := hS.pull2.cell 0 rfl; have f1 := hS.pull2.free 0; have HS := Lib.hid hS; clear hS)
  go_ret
  refine ⟨bx, g, cap, rfl, ?_⟩
  have h1 := HS.out.pull2.store 0 (.slice (some ⟨g, 0, none⟩) ps.length cap)
  have h2 : Sat w0 (tblB p s ps.length free.length * (tblL s ps * (tblF s free * (itP bx (.slice (some ⟨g, 0, none⟩) ps.length cap) ps * F)))) _ := h1.cast (by
    unfold itP
    simp only [List.set_cons_zero]
    ac_rfl)
  exact (TblIs.shut (s := s) ⟨HOK.out, h2⟩).pull2

/-- What has come when k places are over. -/
def seenO (ps : List Pl) (i : Nat) : Option (Nat × Int × El) := match ps[i]? with
  | none => none
  | some a => if a.there then some (i, a.gen, a.x) else none
def seen (ps : List Pl) (k : Nat) : List (Nat × Int × El) := (List.range k).filterMap (seenO ps)
theorem seen_succ (ps : List Pl) (k : Nat) : seen ps (k + 1) = seen ps k ++ (seenO ps k).toList := by
  unfold seen
  rw [List.range_succ, List.filterMap_append]
  cases h : seenO ps k <;> simp [h]
theorem seen_yes {k : Nat} {a : Pl} (h : ps[k]? = some a) (ht : a.there = true) : seen ps (k + 1) = seen ps k ++ [(k, a.gen, a.x)] := by
  rw [seen_succ, seenO, h]
  simp [ht]
theorem seen_no {k : Nat} {a : Pl} (h : ps[k]? = some a) (ht : a.there = false) : seen ps (k + 1) = seen ps k := by
  rw [seen_succ, seenO, h]
  simp [ht]
theorem seen_len (ps : List Pl) (k : Nat) : (seen ps k).length ≤ k := by
  unfold seen
  exact Nat.le_trans (List.length_filterMap_le _ _) (by simp)

set_option maxRecDepth 100000 in
set_option maxHeartbeats 2000000 in
theorem da_all1 (n : Nat) (hn : 1 ≤ n) (hsm : ps.length ≤ 4096) (H : List (Nat × Int × El) → Hp) (bx g cap l : Nat)
    (hY : ∀ k a W (F : Hp), ps[k]? = some a → a.there = true → Sat w0 (itP bx (.slice (some ⟨g, 0, none⟩) ps.length cap) ps * (H (seen ps k) * F)) W → YieldAt Fence.wide (n - 1) Try.prog l #[vr k a.gen, ev a.x] W fun e W' => e = .returned (.bool true) ∧ Sat w0 (itP bx (.slice (some ⟨g, 0, none⟩) ps.length cap) ps * (H (seen ps k ++ [(k, a.gen, a.x)]) * F)) W')
    (h0 : Sat w0 (itP bx (.slice (some ⟨g, 0, none⟩) ps.length cap) ps * H []) w) :
    CallsIn Fence.wide n Try.prog 93 #[.func (.yield l) #[] #[], vp bx] w fun e W' => (∃ v, e = .returned v) ∧ Sat w0 (itP bx (.slice (some ⟨g, 0, none⟩) ps.length cap) ps * H (seen ps ps.length)) W' := by
  have c0 := (h0.cast (show _ = pc bx 105 [(.slice (some ⟨g, 0, none⟩) ps.length cap)] * (sl 110 7 (.slice (some ⟨g, 0, none⟩) ps.length cap) ps.length (flat ps) * H []) by unfold itP; ac_rfl)).cell 0 rfl
  have HY := Lib.hid hY
  have HS0 := Lib.hid h0
  clear hY h0
  refine callsIn_of_wp Try.func93 rfl trivial ?_ rfl
  simp only [Try.ntmps93, List.size_toArray, List.length_cons, List.length_nil, Nat.reduceAdd, Nat.reduceSub, Array.replicate_succ, Array.replicate_zero, List.push_toArray, List.append_toArray, List.nil_append, List.cons_append]
  gi_wp2
  clear c0
  gi_loopw [7] (fun i wr => ∃ k : Nat, k ≤ ps.length ∧ i = .int .i64 k ∧ Sat w0 (itP bx (.slice (some ⟨g, 0, none⟩) ps.length cap) ps * H (seen ps k)) wr) (fun i _ => ps.length - (intOf i).toNat)
  case atStart => exact ⟨0, Nat.zero_le _, rfl, HS0.out⟩
  case round =>
    obtain ⟨k, hk, rfl, hS⟩ := hrel
    by_cases hlt : k < ps.length
    · obtain ⟨a, ha⟩ : ∃ a, ps[k]? = some a := ⟨ps[k], List.getElem?_eq_getElem hlt⟩
      have hkl : (k : Int) < (ps.length : Int) := by omega
      have HLd := Lib.hid (slRangeP (hS.cast (show _ = sl 110 7 (.slice (some ⟨g, 0, none⟩) ps.length cap) ps.length (flat ps) * (pc bx 105 [(.slice (some ⟨g, 0, none⟩) ps.length cap)] * H (seen ps k)) by unfold itP; ac_rfl)) ha)
      have hA : Sat w0 (pc wr.heap.size 110 (Pl.cells pl0) * (itP bx (.slice (some ⟨g, 0, none⟩) ps.length cap) ps * H (seen ps k))) (wr.alloc (.cells (Pl.cells pl0).toArray 110)) := hS.alloc _
      have HTh := Lib.hid (there_ (n := 7) hA rfl)
      have HX := Lib.hid hA
      have HA := Lib.hid ha
      clear hA hS
      cases hth : a.there with
      | false =>
        have HSE := Lib.hid (seen_no ha hth)
        have HT2 := Lib.hid hth
        clear ha hth
        gi_wp2_with (first
          | (refine wpListIn_load_mid rfl 110 _ rfl g (k * 7) (by rfl) (Pl.cells a) _ HLd.out Try.underlying110 rfl pinfo98 ?_)
          | (refine wpListIn_store_mid rfl 110 _ _ rfl wr.heap.size 0 (Pl.cells a).toArray (by rfl) (by rfl) HTh.out pinfo98 (all_oneCell_toArray (Pl.one a)) ?_; have hs := HX.out.stores (Pl.cells a) 0; rw [setL_all (Pl.cells pl0) (Pl.cells a) rfl] at hs; generalize hw2 : World.setCells _ _ _ _ = w2; have hs : Sat w0 _ w2 := hw2 ▸ hs; have q1 : w2.cell? ⟨wr.heap.size, 1, none⟩ = some (.bool false) := by (rw [← HT2.out]; exact hs.cell 1 rfl)))
        have HT := Lib.hid hs
        clear hs hw2
        refine ⟨fun _ h => (by cases h), ?_⟩
        gi_wp2
        go_roundw
        case rel => exact ⟨k + 1, by omega, by go_num, by rw [HSE.out]; exact HT.out.dropL⟩
        case measure => simp [intOf]; omega
      | true =>
        have HSE := Lib.hid (seen_yes ha hth)
        have HT2 := Lib.hid hth
        clear ha hth
        gi_wp2_with (first
          | (refine wpListIn_load_mid rfl 110 _ rfl g (k * 7) (by rfl) (Pl.cells a) _ HLd.out Try.underlying110 rfl pinfo98 ?_)
          | (refine wpListIn_store_mid rfl 110 _ _ rfl wr.heap.size 0 (Pl.cells a).toArray (by rfl) (by rfl) HTh.out pinfo98 (all_oneCell_toArray (Pl.one a)) ?_; have hs := HX.out.stores (Pl.cells a) 0; rw [setL_all (Pl.cells pl0) (Pl.cells a) rfl] at hs; generalize hw2 : World.setCells _ _ _ _ = w2; have hs : Sat w0 _ w2 := hw2 ▸ hs; have q0 : w2.cell? ⟨wr.heap.size, 0, none⟩ = some (vu a.gen) := hs.cell 0 rfl; have q1 : w2.cell? ⟨wr.heap.size, 1, none⟩ = some (.bool true) := (hs.cell 1 rfl).trans (congrArg (fun b => some (Value.bool b)) HT2.out); have HL2 := Lib.hid (rangeX hs); obtain ⟨fn, tmps, assign, body, hy, hR⟩ := HY.out k _ _ (pc wr.heap.size 110 (Pl.cells a)) HA.out HT2.out (hs.cast (by ac_rfl)))
          | (refine wpListIn_load_mid rfl 49 _ rfl wr.heap.size 3 (by rfl) (elC a.x) _ HL2.out Try.underlying49 rfl einfo ?_))
        refine hR.mono ?_
        rintro e W3 ⟨rfl, hS3⟩
        have HT := Lib.hid ((hS3.cast (show _ = pc wr.heap.size 110 (Pl.cells a) * (itP bx (.slice (some ⟨g, 0, none⟩) ps.length cap) ps * H (seen ps k ++ [(k, a.gen, a.x)])) by ac_rfl)).dropL)
        clear hR hS3 hy
        gi_wp2
        go_roundw
        case rel => exact ⟨k + 1, by omega, by go_num, by rw [HSE.out]; exact HT.out⟩
        case measure => simp [intOf]; omega
    · obtain rfl : k = ps.length := by omega
      have HT := Lib.hid hS
      clear hS
      gi_wp2
      go_end0
      exact ⟨⟨_, rfl⟩, HT.out⟩
end
end Go.Proofs.Ytknodagcmachiaa.Ac
