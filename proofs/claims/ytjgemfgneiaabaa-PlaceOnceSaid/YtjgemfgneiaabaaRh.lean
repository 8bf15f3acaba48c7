/-
  A range over a function, said by owned heaps, whose rounds may leave the loop (break, return). No statement is proved here.
-/
import Derived.Test.YtjgemfgneiaabaaMg10
namespace Go.Proofs.Ytjgemfgneiaabaa
open Go.RowKit
set_option linter.unusedVariables false

section
variable {w0 w : World} {F : Hp} {G : Fence} {n : Nat} {P : Program}
/-- A loop's record once it is left by c. -/
abbrev lrecD (fn : FuncId) (tmps : Array Value) (ps : Array Tmp) (assign body : Code) (D : Nat) (c : Code) : Obj :=
  .loop { state := .done, pending := some c, fn := fn, tmps := tmps, params := ps, assign := assign, body := body, defers := D }
/-- What a round may end with: on, or out. -/
def stopPost (R : World → Prop) (S : Code → World → Prop) : Exit → Act → World → Prop
  | .normal, _, W => R W
  | .ret, _, W => S .ret W
  | .exit id, _, W => S (.exit id) W
  | .goto t, _, W => S (.goto t) W
  | .panic _, _, _ => False
  | .outgrown, _, _ => False
theorem wpIn_range_stop {gf : Nat} {lb : Array Value} {g : Operand} {ps : Array Tmp} {assign body : Code} {Q : Exit → Act → World → Prop} {a : Act} {H H' : Hp} {S : Code → Hp}
    (hro : G.round = none) (h1 : 1 ≤ n) (hg : a.eval g = .func (.func gf) #[] lb) (hFg : G.fn gf) (eg : ∀ args w, (callFunc gf args).run P w = .ok (.enter gf args) w)
    (h : Sat w0 H w)
    (hcall : ∀ (fn : FuncId) (l D : Nat) (R : Obj) (Rd : Code → Obj) (W : World), G.fn fn → R = lrec fn a.tmps ps assign body D .ready → (∀ c, Rd c = lrecD fn a.tmps ps assign body D c) → Sat w0 (pt l R * (pt D dmark * H)) W →
      CallsIn G (n - 1) P gf (#[.func (.yield l) #[] #[]] ++ lb) W fun e W' => (∃ v, e = .returned v) ∧ (Sat w0 (pt l R * (pt D dmark * H')) W' ∨ ∃ c, Sat w0 (pt l (Rd c) * (pt D dmark * S c)) W'))
    (hdone : ∀ (D : Nat) (W : World), Sat w0 (pt D dmark * H') W → Q .normal { a with defers := { target := .collected D, args := #[] } :: a.defers } W)
    (hstop : ∀ (c : Code) (D : Nat) (W : World), Sat w0 (pt D dmark * S c) W → c.wpIn G n P Q { a with defers := { target := .collected D, args := #[] } :: a.defers } W) :
    (Code.rangeFunc g ps assign body).wpIn G n P Q a w := by
  refine wpIn_rangeFunc ?_
  intro fn hfn
  rw [hro]
  have hS : Sat w0 (pt (w.heap.size + 1) (lrec fn a.tmps ps assign body w.heap.size .ready) * (pt w.heap.size dmark * H)) ((w.alloc dmark).alloc (lrec fn a.tmps ps assign body w.heap.size .ready)) := by
    have h2 := (h.alloc dmark).alloc (lrec fn a.tmps ps assign body w.heap.size .ready)
    rwa [World.size_alloc] at h2
  have he := run_enterLoop_outer (P := P) (w := w) fn a.tmps ps assign body
  obtain ⟨W1, hW1⟩ : ∃ W1, (w.alloc dmark).alloc (lrec fn a.tmps ps assign body w.heap.size .ready) = W1 := ⟨_, rfl⟩
  rw [hW1] at hS
  have he : (Instr.enterLoop fn a.tmps ps assign body none).run P w = .ok (w.heap.size + 1, [{ target := .collected w.heap.size, args := #[] }]) W1 := by rw [← hW1]; exact he
  clear hW1
  generalize w.heap.size = D at *
  refine ⟨D + 1, [{ target := .collected D, args := #[] }], W1, { target := .fn (.func gf) lb, args := #[.func (.yield (D + 1)) #[] #[]] }, W1, gf,
    #[.func (.yield (D + 1)) #[] #[]] ++ lb, W1, he, ?_, ?_, ?_, fun _ => h1, ?_⟩
  · simp only [resolve, hg]
    simp [go_sem]
  · intro f' hf'
    simp [Target.leads] at hf'
    subst hf'
    exact hFg
  · simp [invoke, go_sem, eg]
  · refine (hcall fn (D + 1) D _ (lrecD fn a.tmps ps assign body D) W1 hfn rfl (fun _ => rfl) hS).mono ?_
    rintro e W2 ⟨⟨v, rfl⟩, h2 | ⟨c, h2⟩⟩
    · have hend := run_endLoop (P := P) h2.blk.1 (by simp)
      exact ⟨none, _, hend, hdone D _ h2.putObj.dropL⟩
    · have hend := run_endLoop (P := P) h2.blk.1 (by simp)
      exact ⟨some c, _, hend, hstop c D _ h2.putObj.dropL⟩

theorem yield_stop {l D : Nat} {fn : FuncId} {tmps : Array Value} {ps : Array Tmp} {assign body : Code} {X X' : Hp} {S : Code → Hp} {args : Array Value} {R : Obj} {Rd : Code → Obj} {A : Act → World → Prop}
    (hfn : G.fn fn) (hps : args.size = ps.size) (hR : R = lrec fn tmps ps assign body D .ready) (hRd : ∀ c, Rd c = lrecD fn tmps ps assign body D c) (h : Sat w0 (pt l R * X) w)
    (hA : ∀ a' W', A a' W' → W'.heap[l]? = some R)
    (hassign : ∀ K : Act → World → Prop, (∀ a' W', A a' W' → K a' W') → assign.wpIn (G.inRound l) n P (Exit.then K (fun _ _ _ => False)) { tmps := (ps.zip args).foldl (fun t (p, v) => t.setIfInBounds p v) tmps, defers := [] } w)
    (hbody : ∀ (B : Obj) (a' : Act) (W' : World), A a' W' → body.wpIn (G.inRound l) n P (stopPost (fun W2 => Sat w0 (pt l B * X') W2) (fun c W2 => Sat w0 (pt l B * S c) W2)) a' (W'.putObj l B)) :
    YieldAt G n P l args w fun e W' => (e = .returned (.bool true) ∧ Sat w0 (pt l R * X') W') ∨ ∃ c, e = .returned (.bool false) ∧ Sat w0 (pt l (Rd c) * S c) W' := by
  subst hR
  refine ⟨fn, _, assign, body, run_yield h.blk.1 hps, roundIn_of_wpIn hfn (hassign _ fun a' W' ha => ?_)⟩
  refine ⟨_, run_beginRound (hA _ _ ha) rfl, wpIn_mono (hbody (lrec fn tmps ps assign body D .busy) _ _ ha) ?_⟩
  intro e a2 W2 hp
  have out : ∀ c, Sat w0 (pt l (lrec fn tmps ps assign body D .busy) * S c) W2 → ∃ v w', (Instr.endRound l (some c)).run P W2 = .ok v w' ∧ (((Ending.returned v) = .returned (.bool true) ∧ Sat w0 (pt l (lrec fn tmps ps assign body D .ready) * X') w') ∨ ∃ c, (Ending.returned v) = .returned (.bool false) ∧ Sat w0 (pt l (Rd c) * S c) w') := fun c hp =>
    ⟨_, _, run_endRound (some c) hp.blk.1, .inr ⟨c, rfl, by rw [hRd]; exact hp.putObj⟩⟩
  cases e with
  | normal =>
    have hp : Sat w0 (pt l (lrec fn tmps ps assign body D .busy) * X') W2 := hp
    exact ⟨_, _, run_endRound none hp.blk.1, .inl ⟨rfl, hp.putObj⟩⟩
  | ret => exact out .ret hp
  | exit id => exact out (.exit id) hp
  | goto t => exact out (.goto t) hp
  | panic ch => exact hp.elim
  | outgrown => exact hp.elim
end
end Go.Proofs.Ytjgemfgneiaabaa
