/-
  Package context: Donate. No statement is proved here.
-/
import Derived.Test.YtdbppfcilaajaaaGreatMg26
import Derived.Test.YtdbppfcilaajaaaGreatMg25
import Derived.Test.YtdbppfcilaajaaaGreatMg21
import Derived.Deep.MidRow
import Derived.TacticsIn
import Derived.Test.YtdbppfcilaajaaaGreatMg24
import Derived.Sort.LoopGhostIn
import Derived.Shelf.Abstract
import Derived.Shelf.RegionOpen
import Derived.OwnWalkIn
import Derived.TacticsInMore
import Derived.LoopNIn
import Derived.LoopIn
import Derived.Test.YtdbppfcilaajaaaGreatMg12
import Derived.Deep.RegionHeld3
namespace Go.Proofs.YtdbppfcilaajaaaGreat.Cn
open Go.RowKit Ac Fi
set_option linter.unusedVariables false
set_option linter.unusedSimpArgs false

section
variable {w0 w : World} {F : Hp} {h p : Nat} {most : Int} {ps : List Pl} {free : List Nat} {L : Blks} {l : List Rf}
section
variable {i g j t amount now v0 v1 v3 y0 y1 y3 e1 e2 : Int} {a2 b2 : Option Addr} {n2 c2 m2 d2 : Nat} {w1 w2 w' : World}
end
end
end Go.Proofs.YtdbppfcilaajaaaGreat.Cn

namespace Go.Proofs.YtdbppfcilaajaaaGreat.Cn
open Go.RowKit Ac Fi
set_option linter.unusedVariables false
set_option linter.unusedSimpArgs false

section
variable {w0 w : World} {F : Hp} {h p : Nat} {most : Int} {ps : List Pl} {free : List Nat} {L : Blks} {l : List Rf}
end
end Go.Proofs.YtdbppfcilaajaaaGreat.Cn

namespace Go.Proofs.YtdbppfcilaajaaaGreat.Cn
open Go.RowKit Ac Fi
set_option linter.unusedVariables false
set_option linter.unusedSimpArgs false

section
variable {w0 w : World} {F : Hp} {h p : Nat} {most : Int} {ps : List Pl} {free : List Nat} {L : Blks} {l : List Rf}
end
end Go.Proofs.YtdbppfcilaajaaaGreat.Cn

namespace Go.Proofs.YtdbppfcilaajaaaGreat.Cn
open Go.RowKit Ac Fi
set_option linter.unusedVariables false

section
variable {w0 w : World} {F : Hp} {h : Nat} {most times : Int} {cs : List CP} {free : List Nat} {n T : Nat} {L0 : Blks}
theorem p_bind (hI : Inv n most T cs free times) (hT : T ≤ 100000) (hS : Sat w0 (cxQ L0 h most cs free * F) w) (i g : Int) :
    Calls Tryz.prog 111 #[vp h, vr i g] w fun e w' => e = .returned (vi (bindE cs i g 1)) ∧ Sat w0 (cxQ L0 h most (bindL cs i g 1) free * F) w' := by
  obtain ⟨p, ps, L, hL, hp, hs⟩ := cx_open hS
  have hE := hp.eE i g
  have hX := hp.eX i g
  have hA := hI.anyC i g
  rcases eC_01 cs i g with he | he
  · have hz : bindE cs i g 1 = 0 := by unfold bindE; rw [if_neg (by omega), if_neg (by omega)]
    unfold bindL
    rw [hz, if_pos rfl]
    refine (bind_yes hs i g (by rw [hE, he]) (by rw [hX.2.2.2]; omega)).mono fun e w' ⟨h1, h2⟩ => ⟨h1, cx_shut hL (hp.setp ?_) h2⟩
    exact ⟨hX.1, hX.2.1, hX.2.2.1, congrArg (· + 1) hX.2.2.2⟩
  · have hz : bindE cs i g 1 = 11 := by unfold bindE; rw [if_pos he]
    unfold bindL
    rw [hz, if_neg (by omega)]
    exact (bind_no hs i g (by rw [hE, he])).mono fun e w' ⟨h1, h2⟩ => ⟨h1, cx_shut hL hp h2⟩
theorem p_can (hI : Inv n most T cs free times) (hS : Sat w0 (cxQ L0 h most cs free * F) w) (i g now : Int) :
    Calls Tryz.prog 140 #[vp h, vr i g, vu now] w fun e w' => e = .returned (.bool (canB cs i g now)) ∧ Sat w0 (cxQ L0 h most cs free * F) w' := by
  obtain ⟨p, ps, L, hL, hp, hs⟩ := cx_open hS
  have hE := hp.eE i g
  have hX := hp.eX i g
  have hA := hI.anyC i g
  rcases eC_01 cs i g with he | he
  · refine (can_yes hs i g now (by rw [hE, he]) hX.2.2.1 (by omega)).mono fun e w' ⟨h1, h2⟩ => ⟨?_, cx_shut hL hp h2⟩
    rw [h1]
    unfold canB
    simp [he]
  · refine (can_no hs i g now (by rw [hE, he])).mono fun e w' ⟨h1, h2⟩ => ⟨?_, cx_shut hL hp h2⟩
    rw [h1]
    unfold canB
    simp [he]
theorem p_charge (hI : Inv n most T cs free times) (hS : Sat w0 (cxQ L0 h most cs free * F) w) (i g now : Int) (hn : U64 now) :
    Calls Tryz.prog 79 #[vp h, vr i g, vu now] w fun e w' => e = .returned (.bool (chgB most cs i g now)) ∧ Sat w0 (cxQ L0 h most (chgL most cs i g now) free * F) w' := by
  obtain ⟨p, ps, L, hL, hp, hs⟩ := cx_open hS
  have hE := hp.eE i g
  have hX := hp.eX i g
  have hA := hI.anyC i g
  have hpu : U64 (getX ps i g).v1 := by rw [hX.2.1]; exact ⟨by omega, by omega⟩
  by_cases hb : chgB most cs i g now = true
  · obtain ⟨he, hc⟩ := chgB_iff.1 hb
    obtain ⟨b1, b2, b3, b4⟩ := charge_law hc hA.1 hn.1 (by omega)
    unfold chgL
    rw [if_pos hb, hb]
    have hc' : ChOk (gC cs i g).l now (getX ps i g).v1 most := by rw [hX.2.1]; exact hc
    refine (charge_ok hs i g now (by rw [hE, he]) hX.2.2.1 (by omega) hn hpu hc' (by rw [hX.2.1]; exact b2)).mono fun e w' hh => ?_
    obtain ⟨ao, lc, L2, h1, h2, h3, h4⟩ := hh
    rw [hX.2.1] at h3 h4
    refine ⟨h1, cx_shut (fun x hx => h2 x (hL x hx)) ((hp.mono h2).setp ?_) h4⟩
    exact ⟨hX.1, hX.2.1, h3, hX.2.2.2⟩
  · have hf : chgB most cs i g now = false := by simpa using hb
    unfold chgL
    rw [if_neg hb, hf]
    rcases eC_01 cs i g with he | he
    · have hc : ¬ ChOk (gC cs i g).l now (getX ps i g).v1 most := fun hc => hb (chgB_iff.2 ⟨he, by rw [hX.2.1] at hc; exact hc⟩)
      exact (charge_not hs i g now (by rw [hE, he]) hX.2.2.1 (by omega) hn hpu hc).mono fun e w' ⟨h1, h2⟩ => ⟨h1, cx_shut hL hp h2⟩
    · exact (charge_stale hs i g now (by rw [hE, he])).mono fun e w' ⟨h1, h2⟩ => ⟨h1, cx_shut hL hp h2⟩
theorem p_get (hI : Inv n most T cs free times) (hS : Sat w0 (cxQ L0 h most cs free * F) w) (i g : Int) :
    Calls Tryz.prog 106 #[vp h, vr i g] w fun e w' => ∃ ao lc, e = .returned (.tuple #[ev ⟨(gC cs i g).b, (gC cs i g).p, ao, (gC cs i g).l.length, lc, (gC cs i g).n⟩, vi (eC cs i g)]) ∧ Sat w0 (fiS (.slice ao (gC cs i g).l.length lc) (gC cs i g).l * (cxQ L0 h most cs free * F)) w' := by
  obtain ⟨p, ps, L, hL, hp, hs⟩ := cx_open hS
  have hE := hp.eE i g
  have hX := hp.eX i g
  have hA := hI.anyC i g
  refine (cx_get hs i g hX.2.2.1 (by omega)).mono fun e w' hh => ?_
  obtain ⟨ao, lc, h1, h2⟩ := hh
  refine ⟨ao, lc, ?_, ?_⟩
  · rw [h1, hE, hX.1, hX.2.1, hX.2.2.2]
  · have h3 : Sat w0 (cxQ L0 h most cs free * (fiS (.slice ao (gC cs i g).l.length lc) (gC cs i g).l * F)) w' := cx_shut hL hp (h2.cast (by ac_rfl))
    exact h3.pull2
theorem p_make (hI : Inv n most T cs free times) (hS : Sat w0 (cxQ L0 h most cs free * F) w) (b per now : Int) (hn : 0 ≤ now) :
    Calls Tryz.prog 47 #[vp h, vu b, vu per, vu now] w fun e w' => e = .returned (.tuple #[vr (mkI free b per now) (mkG cs free b per now), vi (mkE free b per now)]) ∧ Sat w0 (cxQ L0 h most (mkL cs free b per now) (mkF free b per now) * F) w' := by
  obtain ⟨p, ps, L, hL, hp, hs⟩ := cx_open hS
  unfold mkI mkG mkL mkF
  by_cases hm : MkOk b per now
  · by_cases hf : free = []
    · have he : mkE free b per now = 3 := by unfold mkE; rw [if_pos hm, if_pos hf]
      rw [he, if_neg (by omega), if_neg (by omega), if_neg (by omega), if_neg (by omega)]
      subst hf
      refine (make_full hs b per now hm hn).mono fun e w' hh => ?_
      obtain ⟨L2, h1, h2, h3⟩ := hh
      exact ⟨h1, cx_shut (fun x hx => h2 x (hL x hx)) (hp.mono h2) h3⟩
    · have he : mkE free b per now = 0 := by unfold mkE; rw [if_pos hm, if_neg hf]
      rw [he, if_pos rfl, if_pos rfl, if_pos rfl, if_pos rfl]
      obtain ⟨c, hc, ht, hg⟩ := hI.mkAt he
      obtain ⟨_, hfe⟩ := mk_last he
      have hk : mkK free < ps.length := by rw [hp.len]; exact (List.getElem?_eq_some_iff.1 hc).1
      obtain ⟨a, ha⟩ : ∃ a, ps[mkK free]? = some a := ⟨ps[mkK free], List.getElem?_eq_getElem hk⟩
      have hgen := (hp.at_ _ a c ha hc).1
      rw [hc, hg]
      dsimp only
      rw [hfe] at hs
      have hcut := hfe
      generalize hkk : mkK free = k at *
      generalize free.dropLast = fr at *
      refine (make_ok hs b per now hm hn ha).mono fun e w' hh => ?_
      obtain ⟨ao, lc, L2, h1, h2, h3, h4⟩ := hh
      refine ⟨by rw [h1, hgen], cx_shut (fun x hx => h2 x (hL x hx)) ((hp.mono h2).come ha hc ?_) h4⟩
      exact ⟨rfl, rfl, h3, rfl⟩
  · have he : mkE free b per now = 2 := by unfold mkE; rw [if_neg hm]
    rw [he, if_neg (by omega), if_neg (by omega), if_neg (by omega), if_neg (by omega)]
    exact (make_arg hs b per now hm).mono fun e w' ⟨h1, h2⟩ => ⟨h1, cx_shut hL hp h2⟩
end
end Go.Proofs.YtdbppfcilaajaaaGreat.Cn

namespace Go.Proofs.YtdbppfcilaajaaaGreat
open Go.RowKit
set_option linter.unusedVariables false

section
variable {G : Fence} {n : Nat} {P : Program} {ops : Array Oper} {rest : List Oper} {o : Oper} {a : Act} {w : World} {Q : Exit → Act → World → Prop}
theorem wpListIn_load_mid (hw : Region.wanted o (yielded ops a.tmps) = true) (ty : TypeId) (x : Operand) (ho : o.op = .load ty x)
    (b ofs : Nat) (hx : a.eval x = .pointer (some ⟨b, ofs, none⟩)) (cs : List Value) (d : TypeDesc) (hc : w.rangeAt b ofs cs)
    (hu : P.underlying ty = some d) (hd : d.isRow = true) (hi : (P.info? ty).map (·.size) = some cs.length)
    (h : wpListIn G n P ops Q rest (a.put o.dst (.agg cs.toArray)) w) : wpListIn G n P ops Q (o :: rest) a w := by
  refine wpListIn_step fun K hK => ?_
  rw [if_pos hw]
  unfold Oper.wpIn
  refine ⟨?_, ?_⟩
  · simp [Oper.about, ho]
  · rw [Oper.semAt_plain G _ _ (by rw [ho]; intro c hc'; cases hc')]
    unfold execOp
    simp only [ho, hx, Instr.loadAt, Instr.sureAddr, Sem.run_bind, Sem.run_pure, Result.andThen_ok, run_loadVar_mid w b ofs ty cs d hc hu hd hi]
    exact hK _ _ h
theorem wpListIn_store_mid (hw : Region.wanted o (yielded ops a.tmps) = true) (ty : TypeId) (x y : Operand) (ho : o.op = .store ty x y)
    (b ofs : Nat) (cells : Array Value) (hx : a.eval x = .pointer (some ⟨b, ofs, none⟩)) (hy : a.eval y = .agg cells)
    (ht : w.there b ofs cells.size) (hi : (P.info? ty).map (·.size) = some cells.size) (h1 : cells.all (·.oneCell') = true)
    (h : wpListIn G n P ops Q rest (a.put o.dst undef) (w.setCells b ofs cells.toList)) : wpListIn G n P ops Q (o :: rest) a w := by
  refine wpListIn_step fun K hK => ?_
  rw [if_pos hw]
  unfold Oper.wpIn
  refine ⟨?_, ?_⟩
  · simp [Oper.about, ho]
  · rw [Oper.semAt_plain G _ _ (by rw [ho]; intro c hc'; cases hc')]
    unfold execOp
    simp only [ho, hx, hy, Instr.storeAt, Instr.sureAddr, Sem.run_bind, Sem.run_pure, Result.andThen_ok, run_storeVar_mid w b ofs ty cells ht hi h1]
    exact hK _ _ h
end
end Go.Proofs.YtdbppfcilaajaaaGreat

namespace Go.Proofs.YtdbppfcilaajaaaGreat.Ac
open Go.RowKit Go.Shelf
open Fi (vi vu)
attribute [local go_sem] Oper.semAt_some
set_option linter.unusedVariables false
set_option linter.unusedSimpArgs false

/-- What the iterator has of its own: its list. -/
def itP (bx : Nat) (v : Value) (ps : List Pl) : Hp := pc bx 294 [v] * sl 298 7 v ps.length (flat ps)

/-- The frame, by a name. -/
theorem wpIn_act {Fe : Fence} {n : Nat} {P : Program} {c : Code} {Q : Exit → Act → World → Prop} {a : Act} {w : World} (h : ∀ a', a' = a → c.wpIn Fe n P Q a' w) : c.wpIn Fe n P Q a w := h a rfl
theorem pinfo98 : (Tryz.prog.info? 298).map (·.size) = some 7 := by kernel_rfl
theorem rangeX {b : Nat} {T : TypeId} {a : Pl} {F : Hp} {w0 w : World} (h : Sat w0 (pc b T (Pl.cells a) * F) w) : w.rangeAt b 3 (elC a.x) := fun j v hv => by
  rw [show 3 + j = j + 1 + 1 + 1 by omega]
  exact h.cell (j + 1 + 1 + 1) hv
theorem slRangeP {T : TypeId} {g n cap k : Nat} {ps : List Pl} {a : Pl} {F : Hp} {w0 w : World} (h : Sat w0 (sl T 7 (.slice (some ⟨g, 0, none⟩) n cap) n (flat ps) * F) w) (hk : ps[k]? = some a) : w.rangeAt g (k * 7) (Pl.cells a) := fun j v hv =>
  h.slCell (k * 7 + j) (flat_get Pl.len hk hv)
theorem setL_all (cs vs : List Value) (h : vs.length = cs.length) : setL cs 0 vs = vs := List.ext_getElem? fun i => by
  by_cases hi : i < vs.length
  · have := setL_in vs cs 0 i hi (by omega)
    rwa [Nat.zero_add] at this
  · rw [List.getElem?_eq_none (by rw [setL_len]; omega), List.getElem?_eq_none (by omega)]
section
variable {w0 w : World} {p : Nat} {ps : List Pl} {free : List Nat} {F : Hp}
/-- What has come when k places are over. -/
def seenO (ps : List Pl) (i : Nat) : Option (Nat × Int × El) := match ps[i]? with
  | none => none
  | some a => if a.there then some (i, a.gen, a.x) else none
def seen (ps : List Pl) (k : Nat) : List (Nat × Int × El) := (List.range k).filterMap (seenO ps)
theorem seen_succ (ps : List Pl) (k : Nat) : seen ps (k + 1) = seen ps k ++ (seenO ps k).toList := by
  unfold seen
  rw [List.range_succ, List.filterMap_append]
  cases h : seenO ps k <;> simp [h]
theorem seen_yes {k : Nat} {a : Pl} (h : ps[k]? = some a) (ht : a.there = true) : seen ps (k + 1) = seen ps k ++ [(k, a.gen, a.x)] := by
  rw [seen_succ, seenO, h]
  simp [ht]
theorem seen_no {k : Nat} {a : Pl} (h : ps[k]? = some a) (ht : a.there = false) : seen ps (k + 1) = seen ps k := by
  rw [seen_succ, seenO, h]
  simp [ht]
end
end Go.Proofs.YtdbppfcilaajaaaGreat.Ac

namespace Go.Proofs.YtdbppfcilaajaaaGreat.Ac
open Go.RowKit Go.Shelf
open Fi (vi vu)
attribute [local go_sem] Oper.semAt_some
set_option linter.unusedVariables false
set_option linter.unusedSimpArgs false

section
variable {w0 w : World} {p : Nat} {ps : List Pl} {free : List Nat} {F : Hp}
end
end Go.Proofs.YtdbppfcilaajaaaGreat.Ac

namespace Go.Proofs.YtdbppfcilaajaaaGreat.Ac
open Go.RowKit
open Fi (vi vu)
set_option linter.unusedVariables false

section
variable {w0 w : World} {F : Hp}
end
end Go.Proofs.YtdbppfcilaajaaaGreat.Ac

namespace Go.Proofs.YtdbppfcilaajaaaGreat.Cn
open Go.RowKit Ac Fi
set_option linter.unusedVariables false
set_option linter.unusedSimpArgs false

section
variable {w0 w : World} {F : Hp} {h p : Nat} {most : Int} {ps : List Pl} {free : List Nat} {L : Blks} {l : List Rf}
end
end Go.Proofs.YtdbppfcilaajaaaGreat.Cn

namespace Go.Proofs.YtdbppfcilaajaaaGreat.Cn
open Go.RowKit Ac Fi
set_option linter.unusedVariables false

section
variable {w0 w : World} {F : Hp} {h : Nat} {most times : Int} {cs : List CP} {free : List Nat} {n T : Nat} {L0 : Blks}
theorem p_new (n : Nat) (hn : 1 ≤ n ∧ n ≤ 32) (hm : 2 ≤ most ∧ most ≤ 16) (hS : Sat w0 F w) : Calls Tryz.prog 37 #[vi n, vi most] w fun e w' => ∃ h, e = .returned (.tuple #[vp h, vi 0]) ∧ Sat w0 (cxQ [] h most (newC n) (newF n n) * F) w' :=
  (cx_new n hn.1 hn.2 hm.1 hm.2 hS.plStart.dropL).mono fun e w' ⟨h, p, h1, h2⟩ => ⟨h, h1, cx_shut (fun y hy => by simp at hy) (PM.new [] n) ((Sat.plStart h2).cast (by ac_rfl))⟩
end
end Go.Proofs.YtdbppfcilaajaaaGreat.Cn

namespace Go.Proofs.YtdbppfcilaajaaaGreat.Cn
open Go.RowKit Ac Fi
open Kn (knB knL cfgL)
set_option linter.unusedVariables false
set_option linter.unusedSimpArgs false

section
variable {w0 w : World} {F : Hp} {b4 b5 kk n0 gs h m T : Nat} {most times : Int} {cs : List CP} {free : List Nat} {L0 : Blks} {pr g d s pl t a : Value} {now : Int}
abbrev spC (b4 b5 kk n0 gs h : Nat) (i n now : Int) (pr g d s pl t a : Value) (X : Hp) : Hp := pc b4 35 [vp kk] * (pc b5 30 [vi i, vu n] * (knB kk n0 gs pr now g (vp h) d s pl t a * X))
abbrev spS (b4 b5 kk h : Nat) (i n : Int) (w' : World) : Prop := w'.cell? ⟨b4, 0, none⟩ = some (vp kk) ∧ w'.cell? ⟨kk, 17, none⟩ = some (vp h) ∧ w'.cell? ⟨b5, 0, none⟩ = some (vi i) ∧ w'.cell? ⟨b5, 1, none⟩ = some (vu n)
theorem sp_S {i n : Int} {X : Hp} (hS : Sat w0 (spC b4 b5 kk n0 gs h i n now pr g d s pl t a X) w) : spS b4 b5 kk h i n w := ⟨hS.cell 0 rfl, hS.pull3.cell 17 rfl, hS.pull2.cell 0 rfl, hS.pull2.cell 1 rfl⟩
set_option maxRecDepth 100000 in
set_option maxHeartbeats 4000000 in
theorem spawn3 {i n : Int} (hI : Inv m most T cs free times) (hS : Sat w0 (spC b4 b5 kk n0 gs h i n now pr g d s pl t a (cxQ L0 h most cs free * F)) w) (he : eC cs i n = 0) : Calls Tryz.prog 105 #[vp b4, vp b5] w fun e w' => e = .returned (vi 0) ∧ Sat w0 (spC b4 b5 kk n0 gs h i n now pr g d s pl t a (cxQ L0 h most cs free * F)) w' := by
  have HC : Hid (∀ (H : Hp) (w : World), Sat w0 (spC b4 b5 kk n0 gs h i n now pr g d s pl t a (cxQ L0 h most cs free * H)) w → Calls Tryz.prog 106 #[vp h, vr i n] w fun e w' => ∃ x, e = .returned (.tuple #[ev x, vi 0]) ∧ Sat w0 (spC b4 b5 kk n0 gs h i n now pr g d s pl t a (cxQ L0 h most cs free * H)) w') := Lib.hid fun H w hw => by
    have h1 : Sat w0 (cxQ L0 h most cs free * (pc b4 35 [vp kk] * (pc b5 30 [vi i, vu n] * (knB kk n0 gs pr now g (vp h) d s pl t a * H)))) w := hw.cast (by simp only [spC]; ac_rfl)
    refine (p_get hI h1 i n).mono ?_
    rw [he]
    rintro e w' ⟨ao, lc, rfl, h2⟩
    exact ⟨_, rfl, h2.dropL.cast (by simp only [spC]; ac_rfl)⟩
  have hD := hS.drew
  have T0 := Lib.hid (sp_S hD)
  have hA := ((hS.alloc (elO ez)).drew).cast (show _ = spC b4 b5 kk n0 gs h i n now pr g d s pl t a (cxQ L0 h most cs free * (elB w.heap.size ez * F)) by simp only [elB, pc, spC]; ac_rfl)
  have U0 := Lib.hid (sp_S hA)
  have HD := Lib.hid hD
  have HA := Lib.hid hA
  clear hS he hD hA hI
  go_enter Tryz.func105, Tryz.ntmps105
  go_wp2
  go_region_held3 (spS b4 b5 kk h i n)
    (first | (with_reducible exact T3.out) | (with_reducible exact U2.out) | (with_reducible exact T2.out) | (with_reducible exact T1.out) | (with_reducible exact U1.out) | (with_reducible exact U0.out) | (with_reducible exact T0.out))
    (first
      | (go_at_call 106; with_reducible refine (HC.out _ _ HA.out).mono ?_; rintro e w2 ⟨x, rfl, hS2⟩; have U1 := Lib.hid (sp_S hS2); have hE := hS2.cast (show _ = elB w.heap.size ez * spC b4 b5 kk n0 gs h i n now pr g d s pl t a (cxQ L0 h most cs free * F) from (by simp only [spC]; ac_rfl)); have c0 := hE.cell 0 rfl; have f0 := hE.free 0; have c1 := hE.cell 1 rfl; have f1 := hE.free 1; have c2 := hE.cell 2 rfl; have f2 := hE.free 2; have c3 := hE.cell 3 rfl; have f3 := hE.free 3; have hst := ((((hE.store 0 (.int .u64 x.v0)).store 1 (.int .u64 x.v1)).store 2 (.slice x.a2 x.n2 x.c2)).store 3 (.int .i64 x.v3)); have U2 := Lib.hid (sp_S hst.dropL); have E := Lib.hid hst.dropL; clear hS2 hE hst)
      | (go_at_call 106; with_reducible refine (HC.out _ _ HD.out).mono ?_; rintro e w1 ⟨x, rfl, hS1⟩; have T1 := Lib.hid (sp_S hS1); have T2 := Lib.hid (sp_S (hS1.alloc' (elO ez))); have hE := hS1.alloc' (elO x); have T3 := Lib.hid (sp_S hE); have E := Lib.hid hE; clear hS1 hE))
  all_goals go_wp2
  all_goals go_ret
  all_goals exact ⟨rfl, E.out⟩
end
end Go.Proofs.YtdbppfcilaajaaaGreat.Cn
