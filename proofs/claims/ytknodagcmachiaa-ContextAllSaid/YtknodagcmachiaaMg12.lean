/-
  Package context, as contexts plainly. No statement is proved here.
-/
import Derived.Test.YtknodagcmachiaaMg11
import Derived.Test.YtknodagcmachiaaCn3
import Derived.Test.YtknodagcmachiaaCn4
import Derived.Test.YtknodagcmachiaaCn6
import Derived.Test.YtknodagcmachiaaCn11
import Derived.Test.YtknodagcmachiaaCn12
import Derived.RangeFuncNested
import Derived.RangeFuncBound
import Derived.RangeFuncCalls
import Derived.RangeFuncLeaves
import Derived.RangeFuncWrites
import Derived.Test.YtknodagcmachiaaMg2
import Derived.OwnWalkIn
import Derived.Deep.MidRow
import Derived.TacticsIn
namespace Go.Proofs.Ytknodagcmachiaa.Cn
open Go.RowKit Ac Fi
set_option linter.unusedVariables false

section
variable {w0 w : World} {F : Hp} {h : Nat} {most times : Int} {cs : List CP} {free : List Nat} {n T : Nat} {L0 : Blks}
theorem sC_same (cs : List CP) (i g : Int) (h : eC cs i g = 11) (x : Cx) : sC cs i g x = cs := by
  unfold sC
  rw [eC_no (by omega)]
theorem p_bind (hI : Inv n most T cs free times) (hT : T ≤ 100000) (hS : Sat w0 (cxQ L0 h most cs free * F) w) (i g : Int) :
    Calls Try.prog 15 #[vp h, vr i g] w fun e w' => e = .returned (vi (bindE cs i g 1)) ∧ Sat w0 (cxQ L0 h most (bindL cs i g 1) free * F) w' := by
  obtain ⟨p, ps, L, hL, hp, hs⟩ := cx_open hS
  have hE := hp.eE i g
  have hX := hp.eX i g
  have hA := hI.anyC i g
  rcases eC_01 cs i g with he | he
  · have hz : bindE cs i g 1 = 0 := by unfold bindE; rw [if_neg (by omega), if_neg (by omega)]
    unfold bindL
    rw [hz, if_pos rfl]
    refine (bind_yes hs i g (by rw [hE, he]) (by rw [hX.2.2.2]; omega)).mono fun e w' ⟨h1, h2⟩ => ⟨h1, cx_shut hL (hp.setp ?_) h2⟩
    exact ⟨hX.1, hX.2.1, hX.2.2.1, congrArg (· + 1) hX.2.2.2⟩
  · have hz : bindE cs i g 1 = 11 := by unfold bindE; rw [if_pos he]
    unfold bindL
    rw [hz, if_neg (by omega)]
    exact (bind_no hs i g (by rw [hE, he])).mono fun e w' ⟨h1, h2⟩ => ⟨h1, cx_shut hL hp h2⟩
theorem p_unbind (hI : Inv n most T cs free times) (hT : T ≤ 100000) (hS : Sat w0 (cxQ L0 h most cs free * F) w) (i g : Int) :
    Calls Try.prog 31 #[vp h, vr i g] w fun e w' => e = .returned (vi (bindE cs i g (-1))) ∧ Sat w0 (cxQ L0 h most (bindL cs i g (-1)) free * F) w' := by
  obtain ⟨p, ps, L, hL, hp, hs⟩ := cx_open hS
  have hE := hp.eE i g
  have hX := hp.eX i g
  have hA := hI.anyC i g
  rcases eC_01 cs i g with he | he
  · by_cases h0 : (gC cs i g).n = 0
    · have hz : bindE cs i g (-1) = 5 := by unfold bindE; rw [if_neg (by omega), if_pos (by omega)]
      unfold bindL
      rw [hz, if_neg (by omega)]
      exact (unbind_zero hs i g (by rw [hE, he]) (by rw [hX.2.2.2]; exact h0)).mono fun e w' ⟨h1, h2⟩ => ⟨h1, cx_shut hL hp h2⟩
    · have hz : bindE cs i g (-1) = 0 := by unfold bindE; rw [if_neg (by omega), if_neg (by omega)]
      unfold bindL
      rw [hz, if_pos rfl]
      refine (unbind_yes hs i g (by rw [hE, he]) (by rw [hX.2.2.2]; omega)).mono fun e w' ⟨h1, h2⟩ => ⟨h1, cx_shut hL (hp.setp ?_) h2⟩
      exact ⟨hX.1, hX.2.1, hX.2.2.1, congrArg (· + -1) hX.2.2.2⟩
  · have hz : bindE cs i g (-1) = 11 := by unfold bindE; rw [if_pos he]
    unfold bindL
    rw [hz, if_neg (by omega)]
    exact (unbind_no hs i g (by rw [hE, he])).mono fun e w' ⟨h1, h2⟩ => ⟨h1, cx_shut hL hp h2⟩
theorem p_can (hI : Inv n most T cs free times) (hS : Sat w0 (cxQ L0 h most cs free * F) w) (i g now : Int) :
    Calls Try.prog 12 #[vp h, vr i g, vu now] w fun e w' => e = .returned (.bool (canB cs i g now)) ∧ Sat w0 (cxQ L0 h most cs free * F) w' := by
  obtain ⟨p, ps, L, hL, hp, hs⟩ := cx_open hS
  have hE := hp.eE i g
  have hX := hp.eX i g
  have hA := hI.anyC i g
  rcases eC_01 cs i g with he | he
  · refine (can_yes hs i g now (by rw [hE, he]) hX.2.2.1 (by omega)).mono fun e w' ⟨h1, h2⟩ => ⟨?_, cx_shut hL hp h2⟩
    rw [h1]
    unfold canB
    simp [he]
  · refine (can_no hs i g now (by rw [hE, he])).mono fun e w' ⟨h1, h2⟩ => ⟨?_, cx_shut hL hp h2⟩
    rw [h1]
    unfold canB
    simp [he]
theorem p_next (hI : Inv n most T cs free times) (hS : Sat w0 (cxQ L0 h most cs free * F) w) (i g now : Int) :
    Calls Try.prog 30 #[vp h, vr i g, vu now] w fun e w' => e = .returned (addV (nxtO cs i g now)) ∧ Sat w0 (cxQ L0 h most cs free * F) w' := by
  obtain ⟨p, ps, L, hL, hp, hs⟩ := cx_open hS
  have hE := hp.eE i g
  have hX := hp.eX i g
  have hA := hI.anyC i g
  rcases eC_01 cs i g with he | he
  · refine (next_yes hs i g now (by rw [hE, he]) hX.2.2.1 (by omega)).mono fun e w' ⟨h1, h2⟩ => ⟨?_, cx_shut hL hp h2⟩
    rw [h1]
    unfold nxtO
    rw [if_pos he]
  · refine (next_no hs i g now (by rw [hE, he])).mono fun e w' ⟨h1, h2⟩ => ⟨?_, cx_shut hL hp h2⟩
    rw [h1]
    unfold nxtO
    rw [if_neg (by omega)]
theorem p_charge (hI : Inv n most T cs free times) (hS : Sat w0 (cxQ L0 h most cs free * F) w) (i g now : Int) (hn : U64 now) :
    Calls Try.prog 13 #[vp h, vr i g, vu now] w fun e w' => e = .returned (.bool (chgB most cs i g now)) ∧ Sat w0 (cxQ L0 h most (chgL most cs i g now) free * F) w' := by
  obtain ⟨p, ps, L, hL, hp, hs⟩ := cx_open hS
  have hE := hp.eE i g
  have hX := hp.eX i g
  have hA := hI.anyC i g
  have hpu : U64 (getX ps i g).v1 := by rw [hX.2.1]; exact ⟨by omega, by omega⟩
  by_cases hb : chgB most cs i g now = true
  · obtain ⟨he, hc⟩ := chgB_iff.1 hb
    obtain ⟨b1, b2, b3, b4⟩ := charge_law hc hA.1 hn.1 (by omega)
    unfold chgL
    rw [if_pos hb, hb]
    have hc' : ChOk (gC cs i g).l now (getX ps i g).v1 most := by rw [hX.2.1]; exact hc
    refine (charge_ok hs i g now (by rw [hE, he]) hX.2.2.1 (by omega) hn hpu hc' (by rw [hX.2.1]; exact b2)).mono fun e w' hh => ?_
    obtain ⟨ao, lc, L2, h1, h2, h3, h4⟩ := hh
    rw [hX.2.1] at h3 h4
    refine ⟨h1, cx_shut (fun x hx => h2 x (hL x hx)) ((hp.mono h2).setp ?_) h4⟩
    exact ⟨hX.1, hX.2.1, h3, hX.2.2.2⟩
  · have hf : chgB most cs i g now = false := by simpa using hb
    unfold chgL
    rw [if_neg hb, hf]
    rcases eC_01 cs i g with he | he
    · have hc : ¬ ChOk (gC cs i g).l now (getX ps i g).v1 most := fun hc => hb (chgB_iff.2 ⟨he, by rw [hX.2.1] at hc; exact hc⟩)
      exact (charge_not hs i g now (by rw [hE, he]) hX.2.2.1 (by omega) hn hpu hc).mono fun e w' ⟨h1, h2⟩ => ⟨h1, cx_shut hL hp h2⟩
    · exact (charge_stale hs i g now (by rw [hE, he])).mono fun e w' ⟨h1, h2⟩ => ⟨h1, cx_shut hL hp h2⟩
theorem p_get (hI : Inv n most T cs free times) (hS : Sat w0 (cxQ L0 h most cs free * F) w) (i g : Int) :
    Calls Try.prog 29 #[vp h, vr i g] w fun e w' => ∃ ao lc, e = .returned (.tuple #[ev ⟨(gC cs i g).b, (gC cs i g).p, ao, (gC cs i g).l.length, lc, (gC cs i g).n⟩, vi (eC cs i g)]) ∧ Sat w0 (fiS (.slice ao (gC cs i g).l.length lc) (gC cs i g).l * (cxQ L0 h most cs free * F)) w' := by
  obtain ⟨p, ps, L, hL, hp, hs⟩ := cx_open hS
  have hE := hp.eE i g
  have hX := hp.eX i g
  have hA := hI.anyC i g
  refine (cx_get hs i g hX.2.2.1 (by omega)).mono fun e w' hh => ?_
  obtain ⟨ao, lc, h1, h2⟩ := hh
  refine ⟨ao, lc, ?_, ?_⟩
  · rw [h1, hE, hX.1, hX.2.1, hX.2.2.2]
  · have h3 : Sat w0 (cxQ L0 h most cs free * (fiS (.slice ao (gC cs i g).l.length lc) (gC cs i g).l * F)) w' := cx_shut hL hp (h2.cast (by ac_rfl))
    exact h3.pull2
theorem p_make (hI : Inv n most T cs free times) (hS : Sat w0 (cxQ L0 h most cs free * F) w) (b per now : Int) (hn : 0 ≤ now) :
    Calls Try.prog 11 #[vp h, vu b, vu per, vu now] w fun e w' => e = .returned (.tuple #[vr (mkI free b per now) (mkG cs free b per now), vi (mkE free b per now)]) ∧ Sat w0 (cxQ L0 h most (mkL cs free b per now) (mkF free b per now) * F) w' := by
  obtain ⟨p, ps, L, hL, hp, hs⟩ := cx_open hS
  unfold mkI mkG mkL mkF
  by_cases hm : MkOk b per now
  · by_cases hf : free = []
    · have he : mkE free b per now = 3 := by unfold mkE; rw [if_pos hm, if_pos hf]
      rw [he, if_neg (by omega), if_neg (by omega), if_neg (by omega), if_neg (by omega)]
      subst hf
      refine (make_full hs b per now hm hn).mono fun e w' hh => ?_
      obtain ⟨L2, h1, h2, h3⟩ := hh
      exact ⟨h1, cx_shut (fun x hx => h2 x (hL x hx)) (hp.mono h2) h3⟩
    · have he : mkE free b per now = 0 := by unfold mkE; rw [if_pos hm, if_neg hf]
      rw [he, if_pos rfl, if_pos rfl, if_pos rfl, if_pos rfl]
      obtain ⟨c, hc, ht, hg⟩ := hI.mkAt he
      obtain ⟨_, hfe⟩ := mk_last he
      have hk : mkK free < ps.length := by rw [hp.len]; exact (List.getElem?_eq_some_iff.1 hc).1
      obtain ⟨a, ha⟩ : ∃ a, ps[mkK free]? = some a := ⟨ps[mkK free], List.getElem?_eq_getElem hk⟩
      have hgen := (hp.at_ _ a c ha hc).1
      rw [hc, hg]
      dsimp only
      rw [hfe] at hs
      have hcut := hfe
      generalize hkk : mkK free = k at *
      generalize free.dropLast = fr at *
      refine (make_ok hs b per now hm hn ha).mono fun e w' hh => ?_
      obtain ⟨ao, lc, L2, h1, h2, h3, h4⟩ := hh
      refine ⟨by rw [h1, hgen], cx_shut (fun x hx => h2 x (hL x hx)) ((hp.mono h2).come ha hc ?_) h4⟩
      exact ⟨rfl, rfl, h3, rfl⟩
  · have he : mkE free b per now = 2 := by unfold mkE; rw [if_neg hm]
    rw [he, if_neg (by omega), if_neg (by omega), if_neg (by omega), if_neg (by omega)]
    exact (make_arg hs b per now hm).mono fun e w' ⟨h1, h2⟩ => ⟨h1, cx_shut hL hp h2⟩
end
end Go.Proofs.Ytknodagcmachiaa.Cn

namespace Go.Proofs.Ytknodagcmachiaa
open Go.RowKit
set_option linter.unusedVariables false

/-- All blocks are cells. -/
def CO (H : Hp) : Prop := ∀ L, H.holds L → ∀ x ∈ L, x.2.isCells = true
theorem CO.pc (b : Nat) (T : TypeId) (cs : List Value) : CO (pc b T cs) := by
  intro L h x hx
  have h : L = [(b, .cells cs.toArray T (0, 0))] := h
  subst h
  simp at hx
  subst hx
  rfl
theorem CO.emp : CO emp := by
  intro L h x hx
  have h : L = [] := h
  subst h
  cases hx
theorem CO.mul {A B : Hp} (h : CO A) (k : CO B) : CO (A * B) := by
  rintro L ⟨L1, L2, p, a, b⟩ x hx
  rcases List.mem_append.1 (p.mem_iff.1 hx) with hx | hx
  · exact h _ a x hx
  · exact k _ b x hx
theorem CO.ex {α : Sort _} {f : α → Hp} (h : ∀ a, CO (f a)) : CO (ex f) := fun L ⟨a, ha⟩ => h a L ha
theorem CO.given {p : Prop} {A : Hp} (h : CO A) : CO (given p A) := fun L ⟨_, ha⟩ => h L ha
theorem CO.sl (e : TypeId) (size : Nat) (v : Value) (n : Nat) (xs : List Value) : CO (sl e size v n xs) := by
  rintro L ⟨hl, ⟨_, _, rfl⟩ | ⟨g, cap, cur, _, rfl, _⟩⟩ x hx
  · cases hx
  · simp at hx
    subst hx
    rfl

section
variable {w0 w : World} {F H : Hp}
/-- What a call has left alone (its own memory lies behind w) is as it was. -/
theorem Sat.rebase (h : Sat w0 F w) {W : World} (hb : Below w.heap.size w W) : Sat w0 F W := by
  have hbel := h.below
  obtain ⟨_, L, hL, hn, hx⟩ := h
  refine ⟨hbel.trans (hb.mono hbel.size), L, hL, hn, fun x hm => ?_⟩
  have h1 := hx x hm
  exact ⟨h1.1, (hb.block _ (lt_of_block h1.2)).trans h1.2⟩
theorem Sat.grown (h : Sat w0 H w) (hc : CO H) {B : Nat} (hB : w0.heap.size ≤ B) {W : World} {row : Option Nat} (hg : w.grownBy W row) (hr : ∀ r, row = some r → B ≤ r ∧ ∃ o : Obj, w.heap[r]? = some o ∧ o.isCells = false) : Sat w0 H W := by
  obtain ⟨hbel, L, hL, hn, hx⟩ := h
  refine ⟨hbel.grown hg hbel.size (fun k e => Nat.le_trans hB (hr k e).1), L, hL, hn, fun x hm => ?_⟩
  have h1 := hx x hm
  refine ⟨h1.1, (hg.block _ (lt_of_block h1.2) ?_).trans h1.2⟩
  intro e
  obtain ⟨_, o, ho, hoc⟩ := hr _ e.symm
  rw [h1.2] at ho
  cases ho
  rw [hc L hL x hm] at hoc
  cases hoc
theorem Sat.own {β : Type} {f : β → Hp} (hc : ∀ s, CO (f s)) {B : Nat} (hB : w0.heap.size ≤ B) : OwnFrom B (fun (s : β) W => Sat w0 (f s) W) :=
  fun s W W' row hs hg hr => hs.grown (hc s) hB hg hr

/-- As Sat; and each block lies below B, or is cells: so it abides what a loop over an iterator does behind B. -/
def SatC (w0 : World) (B : Nat) (H : Hp) (w : World) : Prop :=
  Below w0.heap.size w0 w ∧ ∃ L, H.holds L ∧ (L.map (·.1)).Nodup ∧ ∀ x ∈ L, (w0.heap.size ≤ x.1 ∧ w.heap[x.1]? = some x.2) ∧ (x.1 < B ∨ x.2.isCells = true)
theorem SatC.sat {B : Nat} (h : SatC w0 B H w) : Sat w0 H w := by
  obtain ⟨hb, L, hL, hn, hx⟩ := h
  exact ⟨hb, L, hL, hn, fun x hm => (hx x hm).1⟩
theorem Sat.satC (h : Sat w0 H w) {B : Nat} (hB : w.heap.size ≤ B) : SatC w0 B H w := by
  obtain ⟨hb, L, hL, hn, hx⟩ := h
  exact ⟨hb, L, hL, hn, fun x hm => ⟨hx x hm, .inl (Nat.lt_of_lt_of_le (lt_of_block (hx x hm).2) hB)⟩⟩
theorem SatC.cast {B : Nat} (h : SatC w0 B H w) {H' : Hp} (e : H = H') : SatC w0 B H' w := e ▸ h
theorem SatC.own {β : Type} {f : β → Hp} {B : Nat} (hB : w0.heap.size ≤ B) : OwnFrom B (fun (s : β) W => SatC w0 B (f s) W) := by
  intro s W W' row hs hg hr
  obtain ⟨hbel, L, hL, hn, hx⟩ := hs
  refine ⟨hbel.grown hg hbel.size (fun k e => Nat.le_trans hB (hr k e).1), L, hL, hn, fun x hm => ?_⟩
  have h1 := hx x hm
  refine ⟨⟨h1.1.1, (hg.block _ (lt_of_block h1.1.2) ?_).trans h1.1.2⟩, h1.2⟩
  intro e
  obtain ⟨h2, o, ho, hoc⟩ := hr _ e.symm
  rcases h1.2 with h3 | h3
  · omega
  · rw [h1.1.2] at ho
    cases ho
    rw [h3] at hoc
    cases hoc
theorem SatC.store {B b : Nat} {T : TypeId} {cs : List Value} (h : SatC w0 B (pc b T cs * F) w) (i : Nat) (v : Value) : SatC w0 B (pc b T (cs.set i v) * F) (w.setCell ⟨b, i, none⟩ v) := by
  have hs := h.sat.store i v
  obtain ⟨hbel, L, ⟨L1, L2, p, a, c⟩, hn, hx⟩ := h
  have a : L1 = [(b, .cells cs.toArray T (0, 0))] := a
  subst a
  have hn' := (p.map (·.1)).nodup_iff.1 hn
  have hb1 := (hx (b, .cells cs.toArray T (0, 0)) (p.mem_iff.2 (by simp))).1
  refine ⟨hs.1, (b, .cells (cs.set i v).toArray T (0, 0)) :: L2, ⟨[(b, .cells (cs.set i v).toArray T (0, 0))], L2, List.Perm.refl _, rfl, c⟩, by simpa using hn', ?_⟩
  intro x hm
  rcases List.mem_cons.1 hm with rfl | hm
  · refine ⟨⟨hb1.1, ?_⟩, .inr rfl⟩
    rw [setCell_block _ _ _ _ _ _ _ hb1.2]
    simp
  · have h1 := hx x (p.mem_iff.2 (List.mem_append_right _ hm))
    refine ⟨⟨h1.1.1, (Below.heap_setCell _ _ _ _ ?_).trans h1.1.2⟩, h1.2⟩
    intro e
    have e : x.1 = b := e
    have : (b :: L2.map (·.1)).Nodup := by simpa using hn'
    exact (List.nodup_cons.1 this).1 (e ▸ List.mem_map_of_mem hm)
end
end Go.Proofs.Ytknodagcmachiaa

namespace Go.Proofs.Ytknodagcmachiaa
open Go.RowKit
set_option linter.unusedVariables false

section
variable {w0 w : World} {F : Hp} {G : Fence} {n : Nat} {P : Program}
theorem Sat.putObj {b : Nat} {o o' : Obj} (h : Sat w0 (pt b o * F) w) : Sat w0 (pt b o' * F) (w.putObj b o') :=
  h.upd rfl rfl rfl (by simp [World.putObj]) (World.putObj_heap_same h.lt) (fun k hk hne => World.putObj_heap_other hne)

/-- A loop's record. -/
abbrev lrec (fn : FuncId) (tmps : Array Value) (ps : Array Tmp) (assign body : Code) (D : Nat) (st : LoopState) : Obj :=
  .loop { state := st, pending := none, fn := fn, tmps := tmps, params := ps, assign := assign, body := body, defers := D }
abbrev dmark : Obj := .deferred (some [])

theorem wpIn_range_sat {gf : Nat} {lb : Array Value} {g : Operand} {ps : Array Tmp} {assign body : Code} {Q : Exit → Act → World → Prop} {a : Act} {H H' : Hp}
    (hro : G.round = none) (h1 : 1 ≤ n) (hg : a.eval g = .func (.func gf) #[] lb) (hFg : G.fn gf) (eg : ∀ args w, (callFunc gf args).run P w = .ok (.enter gf args) w)
    (h : Sat w0 H w)
    (hcall : ∀ (fn : FuncId) (l D : Nat) (R : Obj) (W : World), G.fn fn → R = lrec fn a.tmps ps assign body D .ready → Sat w0 (pt l R * (pt D dmark * H)) W →
      CallsIn G (n - 1) P gf (#[.func (.yield l) #[] #[]] ++ lb) W fun e W' => (∃ v, e = .returned v) ∧ Sat w0 (pt l R * (pt D dmark * H')) W')
    (hdone : ∀ (D : Nat) (W : World), Sat w0 (pt D dmark * H') W → Q .normal { a with defers := { target := .collected D, args := #[] } :: a.defers } W) :
    (Code.rangeFunc g ps assign body).wpIn G n P Q a w := by
  refine wpIn_rangeFunc ?_
  intro fn hfn
  rw [hro]
  have hS : Sat w0 (pt (w.heap.size + 1) (lrec fn a.tmps ps assign body w.heap.size .ready) * (pt w.heap.size dmark * H)) ((w.alloc dmark).alloc (lrec fn a.tmps ps assign body w.heap.size .ready)) := by
    have h2 := (h.alloc dmark).alloc (lrec fn a.tmps ps assign body w.heap.size .ready)
    rwa [World.size_alloc] at h2
  have he := run_enterLoop_outer (P := P) (w := w) fn a.tmps ps assign body
  obtain ⟨W1, hW1⟩ : ∃ W1, (w.alloc dmark).alloc (lrec fn a.tmps ps assign body w.heap.size .ready) = W1 := ⟨_, rfl⟩
  rw [hW1] at hS
  have he : (Instr.enterLoop fn a.tmps ps assign body none).run P w = .ok (w.heap.size + 1, [{ target := .collected w.heap.size, args := #[] }]) W1 := by rw [← hW1]; exact he
  clear hW1
  generalize w.heap.size = D at *
  refine ⟨D + 1, [{ target := .collected D, args := #[] }], W1, { target := .fn (.func gf) lb, args := #[.func (.yield (D + 1)) #[] #[]] }, W1, gf,
    #[.func (.yield (D + 1)) #[] #[]] ++ lb, W1, he, ?_, ?_, ?_, fun _ => h1, ?_⟩
  · simp only [resolve, hg]
    simp [go_sem]
  · intro f' hf'
    simp [Target.leads] at hf'
    subst hf'
    exact hFg
  · simp [invoke, go_sem, eg]
  · refine (hcall fn (D + 1) D _ W1 hfn rfl hS).mono ?_
    rintro e W2 ⟨⟨v, rfl⟩, h2⟩
    have hend := run_endLoop (P := P) h2.blk.1 (by simp)
    exact ⟨none, _, hend, hdone D _ h2.putObj.dropL⟩

/-- What a round of it ends with. -/
def normPost (R : World → Prop) : Exit → Act → World → Prop
  | .normal, _, W => R W
  | _, _, _ => False

theorem yield_sat {l D : Nat} {fn : FuncId} {tmps : Array Value} {ps : Array Tmp} {assign body : Code} {X X' : Hp} {args : Array Value} {R : Obj} {A : Act → World → Prop}
    (hfn : G.fn fn) (hps : args.size = ps.size) (hR : R = lrec fn tmps ps assign body D .ready) (h : Sat w0 (pt l R * X) w)
    (hA : ∀ a' W', A a' W' → W'.heap[l]? = some R)
    (hassign : ∀ K : Act → World → Prop, (∀ a' W', A a' W' → K a' W') → assign.wpIn (G.inRound l) n P (Exit.then K (fun _ _ _ => False)) { tmps := (ps.zip args).foldl (fun t (p, v) => t.setIfInBounds p v) tmps, defers := [] } w)
    (hbody : ∀ (B : Obj) (a' : Act) (W' : World), A a' W' → body.wpIn (G.inRound l) n P (normPost fun W2 => Sat w0 (pt l B * X') W2) a' (W'.putObj l B)) :
    YieldAt G n P l args w fun e W' => e = .returned (.bool true) ∧ Sat w0 (pt l R * X') W' := by
  subst hR
  refine ⟨fn, _, assign, body, run_yield h.blk.1 hps, roundIn_of_wpIn hfn (hassign _ fun a' W' ha => ?_)⟩
  refine ⟨_, run_beginRound (hA _ _ ha) rfl, wpIn_mono (hbody (lrec fn tmps ps assign body D .busy) _ _ ha) ?_⟩
  intro e a2 W2 hp
  cases e with
  | normal =>
    have hp : Sat w0 (pt l (lrec fn tmps ps assign body D .busy) * X') W2 := hp
    exact ⟨_, _, run_endRound none hp.blk.1, rfl, hp.putObj⟩
  | ret => exact hp.elim
  | exit id => exact hp.elim
  | goto t => exact hp.elim
  | panic ch => exact hp.elim
  | outgrown => exact hp.elim
theorem wpListIn_append_sl {ops : Array Oper} {rest : List Oper} {o : Oper} {a : Act} {Q : Exit → Act → World → Prop} {t e : TypeId} {size bytes : Nat} {z v y : Value} {k m : Nat} {xs news : List Value} (E : SlT P t e size bytes z) (hgd : o.guard = none) (s x : Operand)
    (ho : o.op = .call { callee := .builtin .append, args := #[s, x], argTypes := #[t, t] })
    (hs : a.eval s = v) (hS : Sat w0 (sl e size v k xs * F) w) (hx : a.eval x = y) (hR : Rd w size y m news) (h1 : ∀ u ∈ news, u.oneCell' = true)
    (h63 : k + m ≤ maxLen) (hby : (k + m) * bytes ≤ 140737488355328)
    (h : ∀ ao cap w', Sat w0 (sl e size (.slice ao (k + m) cap) (k + m) (xs ++ news) * F) w' → wpListIn G n P ops Q rest (a.put o.dst (.slice ao (k + m) cap)) w') : wpListIn G n P ops Q (o :: rest) a w := by
  refine wpListIn_plain hgd fun K hK => ?_
  obtain ⟨ao', cap', w', hr, h2⟩ := run_append_sl (P := P) E o.type hS hR h1 h63 hby
  unfold Oper.wpIn
  refine ⟨?_, ?_⟩
  · simp [Oper.about, ho, resolve, Target.leads, Sem.run_pure]
  · rw [Oper.semAt_plain G _ _ (by rw [ho]; intro c hc'; cases hc')]
    unfold execOp
    simp only [ho, resolve, invoke, builtin, Sem.run_bind, Sem.run_pure, Result.andThen_ok, List.map_toArray, List.map_cons, List.map_nil, hs, hx, hr]
    exact hK _ _ (h ao' cap' w' h2)
end
end Go.Proofs.Ytknodagcmachiaa

namespace Go.Proofs.Ytknodagcmachiaa
open Go.RowKit
set_option linter.unusedVariables false

section
variable {G : Fence} {n : Nat} {P : Program} {ops : Array Oper} {rest : List Oper} {o : Oper} {a : Act} {w : World} {Q : Exit → Act → World → Prop}
theorem wpListIn_load_mid (hw : Region.wanted o (yielded ops a.tmps) = true) (ty : TypeId) (x : Operand) (ho : o.op = .load ty x)
    (b ofs : Nat) (hx : a.eval x = .pointer (some ⟨b, ofs, none⟩)) (cs : List Value) (d : TypeDesc) (hc : w.rangeAt b ofs cs)
    (hu : P.underlying ty = some d) (hd : d.isRow = true) (hi : (P.info? ty).map (·.size) = some cs.length)
    (h : wpListIn G n P ops Q rest (a.put o.dst (.agg cs.toArray)) w) : wpListIn G n P ops Q (o :: rest) a w := by
  refine wpListIn_step fun K hK => ?_
  rw [if_pos hw]
  unfold Oper.wpIn
  refine ⟨?_, ?_⟩
  · simp [Oper.about, ho]
  · rw [Oper.semAt_plain G _ _ (by rw [ho]; intro c hc'; cases hc')]
    unfold execOp
    simp only [ho, hx, Instr.loadAt, Instr.sureAddr, Sem.run_bind, Sem.run_pure, Result.andThen_ok, run_loadVar_mid w b ofs ty cs d hc hu hd hi]
    exact hK _ _ h
theorem wpListIn_store_mid (hw : Region.wanted o (yielded ops a.tmps) = true) (ty : TypeId) (x y : Operand) (ho : o.op = .store ty x y)
    (b ofs : Nat) (cells : Array Value) (hx : a.eval x = .pointer (some ⟨b, ofs, none⟩)) (hy : a.eval y = .agg cells)
    (ht : w.there b ofs cells.size) (hi : (P.info? ty).map (·.size) = some cells.size) (h1 : cells.all (·.oneCell') = true)
    (h : wpListIn G n P ops Q rest (a.put o.dst undef) (w.setCells b ofs cells.toList)) : wpListIn G n P ops Q (o :: rest) a w := by
  refine wpListIn_step fun K hK => ?_
  rw [if_pos hw]
  unfold Oper.wpIn
  refine ⟨?_, ?_⟩
  · simp [Oper.about, ho]
  · rw [Oper.semAt_plain G _ _ (by rw [ho]; intro c hc'; cases hc')]
    unfold execOp
    simp only [ho, hx, hy, Instr.storeAt, Instr.sureAddr, Sem.run_bind, Sem.run_pure, Result.andThen_ok, run_storeVar_mid w b ofs ty cells ht hi h1]
    exact hK _ _ h
end
end Go.Proofs.Ytknodagcmachiaa
