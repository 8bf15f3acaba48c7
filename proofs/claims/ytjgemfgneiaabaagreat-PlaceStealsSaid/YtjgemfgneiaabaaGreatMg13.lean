/-
  Owned heaps beside a loop over an iterator: what the loop's own blocks leave alone. No statement is proved here.
-/
import Derived.RangeFuncNested
import Derived.RangeFuncBound
import Derived.RangeFuncCalls
import Derived.RangeFuncLeaves
import Derived.RangeFuncWrites
import Derived.Test.YtjgemfgneiaabaaGreatOps
import Derived.OwnWalkIn
namespace Go.Proofs.YtjgemfgneiaabaaGreat
open Go.RowKit
set_option linter.unusedVariables false

/-- All blocks are cells. -/
def CO (H : Hp) : Prop := ∀ L, H.holds L → ∀ x ∈ L, x.2.isCells = true
theorem CO.pc (b : Nat) (T : TypeId) (cs : List Value) : CO (pc b T cs) := by
  intro L h x hx
  have h : L = [(b, .cells cs.toArray T (0, 0))] := h
  subst h
  simp at hx
  subst hx
  rfl
theorem CO.emp : CO emp := by
  intro L h x hx
  have h : L = [] := h
  subst h
  cases hx
theorem CO.mul {A B : Hp} (h : CO A) (k : CO B) : CO (A * B) := by
  rintro L ⟨L1, L2, p, a, b⟩ x hx
  rcases List.mem_append.1 (p.mem_iff.1 hx) with hx | hx
  · exact h _ a x hx
  · exact k _ b x hx
theorem CO.ex {α : Sort _} {f : α → Hp} (h : ∀ a, CO (f a)) : CO (ex f) := fun L ⟨a, ha⟩ => h a L ha
theorem CO.given {p : Prop} {A : Hp} (h : CO A) : CO (given p A) := fun L ⟨_, ha⟩ => h L ha
theorem CO.sl (e : TypeId) (size : Nat) (v : Value) (n : Nat) (xs : List Value) : CO (sl e size v n xs) := by
  rintro L ⟨hl, ⟨_, _, rfl⟩ | ⟨g, cap, cur, _, rfl, _⟩⟩ x hx
  · cases hx
  · simp at hx
    subst hx
    rfl

section
variable {w0 w : World} {F H : Hp}
/-- What a call has left alone (its own memory lies behind w) is as it was. -/
theorem Sat.rebase (h : Sat w0 F w) {W : World} (hb : Below w.heap.size w W) : Sat w0 F W := by
  have hbel := h.below
  obtain ⟨_, L, hL, hn, hx⟩ := h
  refine ⟨hbel.trans (hb.mono hbel.size), L, hL, hn, fun x hm => ?_⟩
  have h1 := hx x hm
  exact ⟨h1.1, (hb.block _ (lt_of_block h1.2)).trans h1.2⟩
theorem Sat.grown (h : Sat w0 H w) (hc : CO H) {B : Nat} (hB : w0.heap.size ≤ B) {W : World} {row : Option Nat} (hg : w.grownBy W row) (hr : ∀ r, row = some r → B ≤ r ∧ ∃ o : Obj, w.heap[r]? = some o ∧ o.isCells = false) : Sat w0 H W := by
  obtain ⟨hbel, L, hL, hn, hx⟩ := h
  refine ⟨hbel.grown hg hbel.size (fun k e => Nat.le_trans hB (hr k e).1), L, hL, hn, fun x hm => ?_⟩
  have h1 := hx x hm
  refine ⟨h1.1, (hg.block _ (lt_of_block h1.2) ?_).trans h1.2⟩
  intro e
  obtain ⟨_, o, ho, hoc⟩ := hr _ e.symm
  rw [h1.2] at ho
  cases ho
  rw [hc L hL x hm] at hoc
  cases hoc
theorem Sat.own {β : Type} {f : β → Hp} (hc : ∀ s, CO (f s)) {B : Nat} (hB : w0.heap.size ≤ B) : OwnFrom B (fun (s : β) W => Sat w0 (f s) W) :=
  fun s W W' row hs hg hr => hs.grown (hc s) hB hg hr

/-- As Sat; and each block lies below B, or is cells: so it abides what a loop over an iterator does behind B. -/
def SatC (w0 : World) (B : Nat) (H : Hp) (w : World) : Prop :=
  Below w0.heap.size w0 w ∧ ∃ L, H.holds L ∧ (L.map (·.1)).Nodup ∧ ∀ x ∈ L, (w0.heap.size ≤ x.1 ∧ w.heap[x.1]? = some x.2) ∧ (x.1 < B ∨ x.2.isCells = true)
theorem SatC.sat {B : Nat} (h : SatC w0 B H w) : Sat w0 H w := by
  obtain ⟨hb, L, hL, hn, hx⟩ := h
  exact ⟨hb, L, hL, hn, fun x hm => (hx x hm).1⟩
theorem Sat.satC (h : Sat w0 H w) {B : Nat} (hB : w.heap.size ≤ B) : SatC w0 B H w := by
  obtain ⟨hb, L, hL, hn, hx⟩ := h
  exact ⟨hb, L, hL, hn, fun x hm => ⟨hx x hm, .inl (Nat.lt_of_lt_of_le (lt_of_block (hx x hm).2) hB)⟩⟩
theorem SatC.cast {B : Nat} (h : SatC w0 B H w) {H' : Hp} (e : H = H') : SatC w0 B H' w := e ▸ h
theorem SatC.own {β : Type} {f : β → Hp} {B : Nat} (hB : w0.heap.size ≤ B) : OwnFrom B (fun (s : β) W => SatC w0 B (f s) W) := by
  intro s W W' row hs hg hr
  obtain ⟨hbel, L, hL, hn, hx⟩ := hs
  refine ⟨hbel.grown hg hbel.size (fun k e => Nat.le_trans hB (hr k e).1), L, hL, hn, fun x hm => ?_⟩
  have h1 := hx x hm
  refine ⟨⟨h1.1.1, (hg.block _ (lt_of_block h1.1.2) ?_).trans h1.1.2⟩, h1.2⟩
  intro e
  obtain ⟨h2, o, ho, hoc⟩ := hr _ e.symm
  rcases h1.2 with h3 | h3
  · omega
  · rw [h1.1.2] at ho
    cases ho
    rw [h3] at hoc
    cases hoc
theorem SatC.store {B b : Nat} {T : TypeId} {cs : List Value} (h : SatC w0 B (pc b T cs * F) w) (i : Nat) (v : Value) : SatC w0 B (pc b T (cs.set i v) * F) (w.setCell ⟨b, i, none⟩ v) := by
  have hs := h.sat.store i v
  obtain ⟨hbel, L, ⟨L1, L2, p, a, c⟩, hn, hx⟩ := h
  have a : L1 = [(b, .cells cs.toArray T (0, 0))] := a
  subst a
  have hn' := (p.map (·.1)).nodup_iff.1 hn
  have hb1 := (hx (b, .cells cs.toArray T (0, 0)) (p.mem_iff.2 (by simp))).1
  refine ⟨hs.1, (b, .cells (cs.set i v).toArray T (0, 0)) :: L2, ⟨[(b, .cells (cs.set i v).toArray T (0, 0))], L2, List.Perm.refl _, rfl, c⟩, by simpa using hn', ?_⟩
  intro x hm
  rcases List.mem_cons.1 hm with rfl | hm
  · refine ⟨⟨hb1.1, ?_⟩, .inr rfl⟩
    rw [setCell_block _ _ _ _ _ _ _ hb1.2]
    simp
  · have h1 := hx x (p.mem_iff.2 (List.mem_append_right _ hm))
    refine ⟨⟨h1.1.1, (Below.heap_setCell _ _ _ _ ?_).trans h1.1.2⟩, h1.2⟩
    intro e
    have e : x.1 = b := e
    have : (b :: L2.map (·.1)).Nodup := by simpa using hn'
    exact (List.nodup_cons.1 this).1 (e ▸ List.mem_map_of_mem hm)
end
end Go.Proofs.YtjgemfgneiaabaaGreat

namespace Go.Proofs.YtjgemfgneiaabaaGreat
open Go.RowKit
set_option linter.unusedVariables false

section
variable {w0 w : World} {F : Hp} {G : Fence} {n : Nat} {P : Program}
theorem Sat.putObj {b : Nat} {o o' : Obj} (h : Sat w0 (pt b o * F) w) : Sat w0 (pt b o' * F) (w.putObj b o') :=
  h.upd rfl rfl rfl (by simp [World.putObj]) (World.putObj_heap_same h.lt) (fun k hk hne => World.putObj_heap_other hne)

/-- A loop's record. -/
abbrev lrec (fn : FuncId) (tmps : Array Value) (ps : Array Tmp) (assign body : Code) (D : Nat) (st : LoopState) : Obj :=
  .loop { state := st, pending := none, fn := fn, tmps := tmps, params := ps, assign := assign, body := body, defers := D }
abbrev dmark : Obj := .deferred (some [])

theorem wpIn_range_sat {gf : Nat} {lb : Array Value} {g : Operand} {ps : Array Tmp} {assign body : Code} {Q : Exit → Act → World → Prop} {a : Act} {H H' : Hp}
    (hro : G.round = none) (h1 : 1 ≤ n) (hg : a.eval g = .func (.func gf) #[] lb) (hFg : G.fn gf) (eg : ∀ args w, (callFunc gf args).run P w = .ok (.enter gf args) w)
    (h : Sat w0 H w)
    (hcall : ∀ (fn : FuncId) (l D : Nat) (R : Obj) (W : World), G.fn fn → R = lrec fn a.tmps ps assign body D .ready → Sat w0 (pt l R * (pt D dmark * H)) W →
      CallsIn G (n - 1) P gf (#[.func (.yield l) #[] #[]] ++ lb) W fun e W' => (∃ v, e = .returned v) ∧ Sat w0 (pt l R * (pt D dmark * H')) W')
    (hdone : ∀ (D : Nat) (W : World), Sat w0 (pt D dmark * H') W → Q .normal { a with defers := { target := .collected D, args := #[] } :: a.defers } W) :
    (Code.rangeFunc g ps assign body).wpIn G n P Q a w := by
  refine wpIn_rangeFunc ?_
  intro fn hfn
  rw [hro]
  have hS : Sat w0 (pt (w.heap.size + 1) (lrec fn a.tmps ps assign body w.heap.size .ready) * (pt w.heap.size dmark * H)) ((w.alloc dmark).alloc (lrec fn a.tmps ps assign body w.heap.size .ready)) := by
    have h2 := (h.alloc dmark).alloc (lrec fn a.tmps ps assign body w.heap.size .ready)
    rwa [World.size_alloc] at h2
  have he := run_enterLoop_outer (P := P) (w := w) fn a.tmps ps assign body
  obtain ⟨W1, hW1⟩ : ∃ W1, (w.alloc dmark).alloc (lrec fn a.tmps ps assign body w.heap.size .ready) = W1 := ⟨_, rfl⟩
  rw [hW1] at hS
  have he : (Instr.enterLoop fn a.tmps ps assign body none).run P w = .ok (w.heap.size + 1, [{ target := .collected w.heap.size, args := #[] }]) W1 := by rw [← hW1]; exact he
  clear hW1
  generalize w.heap.size = D at *
  refine ⟨D + 1, [{ target := .collected D, args := #[] }], W1, { target := .fn (.func gf) lb, args := #[.func (.yield (D + 1)) #[] #[]] }, W1, gf,
    #[.func (.yield (D + 1)) #[] #[]] ++ lb, W1, he, ?_, ?_, ?_, fun _ => h1, ?_⟩
  · simp only [resolve, hg]
    simp [go_sem]
  · intro f' hf'
    simp [Target.leads] at hf'
    subst hf'
    exact hFg
  · simp [invoke, go_sem, eg]
  · refine (hcall fn (D + 1) D _ W1 hfn rfl hS).mono ?_
    rintro e W2 ⟨⟨v, rfl⟩, h2⟩
    have hend := run_endLoop (P := P) h2.blk.1 (by simp)
    exact ⟨none, _, hend, hdone D _ h2.putObj.dropL⟩

/-- What a round of it ends with. -/
def normPost (R : World → Prop) : Exit → Act → World → Prop
  | .normal, _, W => R W
  | _, _, _ => False

theorem yield_sat {l D : Nat} {fn : FuncId} {tmps : Array Value} {ps : Array Tmp} {assign body : Code} {X X' : Hp} {args : Array Value} {R : Obj} {A : Act → World → Prop}
    (hfn : G.fn fn) (hps : args.size = ps.size) (hR : R = lrec fn tmps ps assign body D .ready) (h : Sat w0 (pt l R * X) w)
    (hA : ∀ a' W', A a' W' → W'.heap[l]? = some R)
    (hassign : ∀ K : Act → World → Prop, (∀ a' W', A a' W' → K a' W') → assign.wpIn (G.inRound l) n P (Exit.then K (fun _ _ _ => False)) { tmps := (ps.zip args).foldl (fun t (p, v) => t.setIfInBounds p v) tmps, defers := [] } w)
    (hbody : ∀ (B : Obj) (a' : Act) (W' : World), A a' W' → body.wpIn (G.inRound l) n P (normPost fun W2 => Sat w0 (pt l B * X') W2) a' (W'.putObj l B)) :
    YieldAt G n P l args w fun e W' => e = .returned (.bool true) ∧ Sat w0 (pt l R * X') W' := by
  subst hR
  refine ⟨fn, _, assign, body, run_yield h.blk.1 hps, roundIn_of_wpIn hfn (hassign _ fun a' W' ha => ?_)⟩
  refine ⟨_, run_beginRound (hA _ _ ha) rfl, wpIn_mono (hbody (lrec fn tmps ps assign body D .busy) _ _ ha) ?_⟩
  intro e a2 W2 hp
  cases e with
  | normal =>
    have hp : Sat w0 (pt l (lrec fn tmps ps assign body D .busy) * X') W2 := hp
    exact ⟨_, _, run_endRound none hp.blk.1, rfl, hp.putObj⟩
  | ret => exact hp.elim
  | exit id => exact hp.elim
  | goto t => exact hp.elim
  | panic ch => exact hp.elim
  | outgrown => exact hp.elim
theorem wpListIn_append_sl {ops : Array Oper} {rest : List Oper} {o : Oper} {a : Act} {Q : Exit → Act → World → Prop} {t e : TypeId} {size bytes : Nat} {z v y : Value} {k m : Nat} {xs news : List Value} (E : SlT P t e size bytes z) (hgd : o.guard = none) (s x : Operand)
    (ho : o.op = .call { callee := .builtin .append, args := #[s, x], argTypes := #[t, t] })
    (hs : a.eval s = v) (hS : Sat w0 (sl e size v k xs * F) w) (hx : a.eval x = y) (hR : Rd w size y m news) (h1 : ∀ u ∈ news, u.oneCell' = true)
    (h63 : k + m ≤ maxLen) (hby : (k + m) * bytes ≤ 140737488355328)
    (h : ∀ ao cap w', Sat w0 (sl e size (.slice ao (k + m) cap) (k + m) (xs ++ news) * F) w' → wpListIn G n P ops Q rest (a.put o.dst (.slice ao (k + m) cap)) w') : wpListIn G n P ops Q (o :: rest) a w := by
  refine wpListIn_plain hgd fun K hK => ?_
  obtain ⟨ao', cap', w', hr, h2⟩ := run_append_sl (P := P) E o.type hS hR h1 h63 hby
  unfold Oper.wpIn
  refine ⟨?_, ?_⟩
  · simp [Oper.about, ho, resolve, Target.leads, Sem.run_pure]
  · rw [Oper.semAt_plain G _ _ (by rw [ho]; intro c hc'; cases hc')]
    unfold execOp
    simp only [ho, resolve, invoke, builtin, Sem.run_bind, Sem.run_pure, Result.andThen_ok, List.map_toArray, List.map_cons, List.map_nil, hs, hx, hr]
    exact hK _ _ (h ao' cap' w' h2)
end
end Go.Proofs.YtjgemfgneiaabaaGreat
