/-
  A range over a function, said by owned heaps, whose rounds may leave the loop (break, return). No statement is proved here.
-/
import Derived.Test.YtknodagcmachiaaMg12
import Derived.Test.YtknodagcmachiaaCa8
namespace Go.Proofs.Ytknodagcmachiaa
open Go.RowKit
set_option linter.unusedVariables false

section
variable {w0 w : World} {F : Hp} {G : Fence} {n : Nat} {P : Program}
/-- A loop's record once it is left by c. -/
abbrev lrecD (fn : FuncId) (tmps : Array Value) (ps : Array Tmp) (assign body : Code) (D : Nat) (c : Code) : Obj :=
  .loop { state := .done, pending := some c, fn := fn, tmps := tmps, params := ps, assign := assign, body := body, defers := D }
/-- What a round may end with: on, or out. -/
def stopPost (R : World → Prop) (S : Code → World → Prop) : Exit → Act → World → Prop
  | .normal, _, W => R W
  | .ret, _, W => S .ret W
  | .exit id, _, W => S (.exit id) W
  | .goto t, _, W => S (.goto t) W
  | .panic _, _, _ => False
  | .outgrown, _, _ => False
theorem wpIn_range_stop {gf : Nat} {lb : Array Value} {g : Operand} {ps : Array Tmp} {assign body : Code} {Q : Exit → Act → World → Prop} {a : Act} {H H' : Hp} {S : Code → Hp}
    (hro : G.round = none) (h1 : 1 ≤ n) (hg : a.eval g = .func (.func gf) #[] lb) (hFg : G.fn gf) (eg : ∀ args w, (callFunc gf args).run P w = .ok (.enter gf args) w)
    (h : Sat w0 H w)
    (hcall : ∀ (fn : FuncId) (l D : Nat) (R : Obj) (Rd : Code → Obj) (W : World), G.fn fn → R = lrec fn a.tmps ps assign body D .ready → (∀ c, Rd c = lrecD fn a.tmps ps assign body D c) → Sat w0 (pt l R * (pt D dmark * H)) W →
      CallsIn G (n - 1) P gf (#[.func (.yield l) #[] #[]] ++ lb) W fun e W' => (∃ v, e = .returned v) ∧ (Sat w0 (pt l R * (pt D dmark * H')) W' ∨ ∃ c, Sat w0 (pt l (Rd c) * (pt D dmark * S c)) W'))
    (hdone : ∀ (D : Nat) (W : World), Sat w0 (pt D dmark * H') W → Q .normal { a with defers := { target := .collected D, args := #[] } :: a.defers } W)
    (hstop : ∀ (c : Code) (D : Nat) (W : World), Sat w0 (pt D dmark * S c) W → c.wpIn G n P Q { a with defers := { target := .collected D, args := #[] } :: a.defers } W) :
    (Code.rangeFunc g ps assign body).wpIn G n P Q a w := by
  refine wpIn_rangeFunc ?_
  intro fn hfn
  rw [hro]
  have hS : Sat w0 (pt (w.heap.size + 1) (lrec fn a.tmps ps assign body w.heap.size .ready) * (pt w.heap.size dmark * H)) ((w.alloc dmark).alloc (lrec fn a.tmps ps assign body w.heap.size .ready)) := by
    have h2 := (h.alloc dmark).alloc (lrec fn a.tmps ps assign body w.heap.size .ready)
    rwa [World.size_alloc] at h2
  have he := run_enterLoop_outer (P := P) (w := w) fn a.tmps ps assign body
  obtain ⟨W1, hW1⟩ : ∃ W1, (w.alloc dmark).alloc (lrec fn a.tmps ps assign body w.heap.size .ready) = W1 := ⟨_, rfl⟩
  rw [hW1] at hS
  have he : (Instr.enterLoop fn a.tmps ps assign body none).run P w = .ok (w.heap.size + 1, [{ target := .collected w.heap.size, args := #[] }]) W1 := by rw [← hW1]; exact he
  clear hW1
  generalize w.heap.size = D at *
  refine ⟨D + 1, [{ target := .collected D, args := #[] }], W1, { target := .fn (.func gf) lb, args := #[.func (.yield (D + 1)) #[] #[]] }, W1, gf,
    #[.func (.yield (D + 1)) #[] #[]] ++ lb, W1, he, ?_, ?_, ?_, fun _ => h1, ?_⟩
  · simp only [resolve, hg]
    simp [go_sem]
  · intro f' hf'
    simp [Target.leads] at hf'
    subst hf'
    exact hFg
  · simp [invoke, go_sem, eg]
  · refine (hcall fn (D + 1) D _ (lrecD fn a.tmps ps assign body D) W1 hfn rfl (fun _ => rfl) hS).mono ?_
    rintro e W2 ⟨⟨v, rfl⟩, h2 | ⟨c, h2⟩⟩
    · have hend := run_endLoop (P := P) h2.blk.1 (by simp)
      exact ⟨none, _, hend, hdone D _ h2.putObj.dropL⟩
    · have hend := run_endLoop (P := P) h2.blk.1 (by simp)
      exact ⟨some c, _, hend, hstop c D _ h2.putObj.dropL⟩

theorem yield_stop {l D : Nat} {fn : FuncId} {tmps : Array Value} {ps : Array Tmp} {assign body : Code} {X X' : Hp} {S : Code → Hp} {args : Array Value} {R : Obj} {Rd : Code → Obj} {A : Act → World → Prop}
    (hfn : G.fn fn) (hps : args.size = ps.size) (hR : R = lrec fn tmps ps assign body D .ready) (hRd : ∀ c, Rd c = lrecD fn tmps ps assign body D c) (h : Sat w0 (pt l R * X) w)
    (hA : ∀ a' W', A a' W' → W'.heap[l]? = some R)
    (hassign : ∀ K : Act → World → Prop, (∀ a' W', A a' W' → K a' W') → assign.wpIn (G.inRound l) n P (Exit.then K (fun _ _ _ => False)) { tmps := (ps.zip args).foldl (fun t (p, v) => t.setIfInBounds p v) tmps, defers := [] } w)
    (hbody : ∀ (B : Obj) (a' : Act) (W' : World), A a' W' → body.wpIn (G.inRound l) n P (stopPost (fun W2 => Sat w0 (pt l B * X') W2) (fun c W2 => Sat w0 (pt l B * S c) W2)) a' (W'.putObj l B)) :
    YieldAt G n P l args w fun e W' => (e = .returned (.bool true) ∧ Sat w0 (pt l R * X') W') ∨ ∃ c, e = .returned (.bool false) ∧ Sat w0 (pt l (Rd c) * S c) W' := by
  subst hR
  refine ⟨fn, _, assign, body, run_yield h.blk.1 hps, roundIn_of_wpIn hfn (hassign _ fun a' W' ha => ?_)⟩
  refine ⟨_, run_beginRound (hA _ _ ha) rfl, wpIn_mono (hbody (lrec fn tmps ps assign body D .busy) _ _ ha) ?_⟩
  intro e a2 W2 hp
  have out : ∀ c, Sat w0 (pt l (lrec fn tmps ps assign body D .busy) * S c) W2 → ∃ v w', (Instr.endRound l (some c)).run P W2 = .ok v w' ∧ (((Ending.returned v) = .returned (.bool true) ∧ Sat w0 (pt l (lrec fn tmps ps assign body D .ready) * X') w') ∨ ∃ c, (Ending.returned v) = .returned (.bool false) ∧ Sat w0 (pt l (Rd c) * S c) w') := fun c hp =>
    ⟨_, _, run_endRound (some c) hp.blk.1, .inr ⟨c, rfl, by rw [hRd]; exact hp.putObj⟩⟩
  cases e with
  | normal =>
    have hp : Sat w0 (pt l (lrec fn tmps ps assign body D .busy) * X') W2 := hp
    exact ⟨_, _, run_endRound none hp.blk.1, .inl ⟨rfl, hp.putObj⟩⟩
  | ret => exact out .ret hp
  | exit id => exact out (.exit id) hp
  | goto t => exact out (.goto t) hp
  | panic ch => exact hp.elim
  | outgrown => exact hp.elim
end
end Go.Proofs.Ytknodagcmachiaa

namespace Go.Proofs.Ytknodagcmachiaa.Ac
open Go.RowKit Go.Shelf
open Fi (vi vu)
attribute [local go_sem] Oper.semAt_some
set_option linter.unusedVariables false
set_option linter.unusedSimpArgs false

section
variable {w0 w : World} {p : Nat} {ps : List Pl} {free : List Nat} {F : Hp}
set_option maxRecDepth 100000 in
set_option maxHeartbeats 2000000 in
theorem da_all2 (n : Nat) (hn : 1 ≤ n) (hsm : ps.length ≤ 4096) (H : Nat → Hp) (S : Hp) (bx g cap l : Nat)
    (hK : ∀ k a W (F : Hp), ps[k]? = some a → a.there = false → Sat w0 (H k * F) W → Sat w0 (H (k + 1) * F) W)
    (hY : ∀ k a W (F : Hp), ps[k]? = some a → a.there = true → Sat w0 (itP bx (.slice (some ⟨g, 0, none⟩) ps.length cap) ps * (H k * F)) W → YieldAt Fence.wide (n - 1) Try.prog l #[vr k a.gen, ev a.x] W fun e W' => (e = .returned (.bool true) ∧ Sat w0 (itP bx (.slice (some ⟨g, 0, none⟩) ps.length cap) ps * (H (k + 1) * F)) W') ∨ (e = .returned (.bool false) ∧ Sat w0 (itP bx (.slice (some ⟨g, 0, none⟩) ps.length cap) ps * (S * F)) W'))
    (h0 : Sat w0 (itP bx (.slice (some ⟨g, 0, none⟩) ps.length cap) ps * H 0) w) :
    CallsIn Fence.wide n Try.prog 93 #[.func (.yield l) #[] #[], vp bx] w fun e W' => (∃ v, e = .returned v) ∧ (Sat w0 (itP bx (.slice (some ⟨g, 0, none⟩) ps.length cap) ps * H ps.length) W' ∨ Sat w0 (itP bx (.slice (some ⟨g, 0, none⟩) ps.length cap) ps * S) W') := by
  have c0 := (h0.cast (show _ = pc bx 105 [(.slice (some ⟨g, 0, none⟩) ps.length cap)] * (sl 110 7 (.slice (some ⟨g, 0, none⟩) ps.length cap) ps.length (flat ps) * H 0) by unfold itP; ac_rfl)).cell 0 rfl
  have HY := Lib.hid hY
  have hK2 := Lib.hid hK
  have HS0 := Lib.hid h0
  clear hY h0 hK
  refine callsIn_of_wp Try.func93 rfl trivial ?_ rfl
  simp only [Try.ntmps93, List.size_toArray, List.length_cons, List.length_nil, Nat.reduceAdd, Nat.reduceSub, Array.replicate_succ, Array.replicate_zero, List.push_toArray, List.append_toArray, List.nil_append, List.cons_append]
  gi_wp2
  clear c0
  gi_loopw [7] (fun i wr => ∃ k : Nat, k ≤ ps.length ∧ i = .int .i64 k ∧ Sat w0 (itP bx (.slice (some ⟨g, 0, none⟩) ps.length cap) ps * H k) wr) (fun i _ => ps.length - (intOf i).toNat)
  case atStart => exact ⟨0, Nat.zero_le _, rfl, HS0.out⟩
  case round =>
    obtain ⟨k, hk, rfl, hS⟩ := hrel
    by_cases hlt : k < ps.length
    · obtain ⟨a, ha⟩ : ∃ a, ps[k]? = some a := ⟨ps[k], List.getElem?_eq_getElem hlt⟩
      have hkl : (k : Int) < (ps.length : Int) := by omega
      have HLd := Lib.hid (slRangeP (hS.cast (show _ = sl 110 7 (.slice (some ⟨g, 0, none⟩) ps.length cap) ps.length (flat ps) * (pc bx 105 [(.slice (some ⟨g, 0, none⟩) ps.length cap)] * H k) by unfold itP; ac_rfl)) ha)
      have hA : Sat w0 (pc wr.heap.size 110 (Pl.cells pl0) * (itP bx (.slice (some ⟨g, 0, none⟩) ps.length cap) ps * H k)) (wr.alloc (.cells (Pl.cells pl0).toArray 110)) := hS.alloc _
      have HTh := Lib.hid (there_ (n := 7) hA rfl)
      have HX := Lib.hid hA
      have HA := Lib.hid ha
      clear hA hS
      cases hth : a.there with
      | false =>
        have HSE := Lib.hid (fun W F => hK2.out k a W F ha hth)
        have HT2 := Lib.hid hth
        clear ha hth
        gi_wp2_with (first
          | (refine wpListIn_load_mid rfl 110 _ rfl g (k * 7) (by rfl) (Pl.cells a) _ HLd.out Try.underlying110 rfl pinfo98 ?_)
          | (refine wpListIn_store_mid rfl 110 _ _ rfl wr.heap.size 0 (Pl.cells a).toArray (by rfl) (by rfl) HTh.out pinfo98 (all_oneCell_toArray (Pl.one a)) ?_; have hs := HX.out.stores (Pl.cells a) 0; rw [setL_all (Pl.cells pl0) (Pl.cells a) rfl] at hs; generalize hw2 : World.setCells _ _ _ _ = w2; have hs : Sat w0 _ w2 := hw2 ▸ hs; have q1 : w2.cell? ⟨wr.heap.size, 1, none⟩ = some (.bool false) := by (rw [← HT2.out]; exact hs.cell 1 rfl)))
        have HT := Lib.hid hs
        clear hs hw2
        refine ⟨fun _ h => (by cases h), ?_⟩
        gi_wp2
        go_roundw
        case rel => exact ⟨k + 1, by omega, by go_num, ((HSE.out _ _ (HT.out.dropL.cast (show _ = H k * itP bx (.slice (some ⟨g, 0, none⟩) ps.length cap) ps by ac_rfl))).cast (by ac_rfl))⟩
        case measure => simp [intOf]; omega
      | true =>
        have HT2 := Lib.hid hth
        clear ha hth
        gi_wp2_with (first
          | (refine wpListIn_load_mid rfl 110 _ rfl g (k * 7) (by rfl) (Pl.cells a) _ HLd.out Try.underlying110 rfl pinfo98 ?_)
          | (refine wpListIn_store_mid rfl 110 _ _ rfl wr.heap.size 0 (Pl.cells a).toArray (by rfl) (by rfl) HTh.out pinfo98 (all_oneCell_toArray (Pl.one a)) ?_; have hs := HX.out.stores (Pl.cells a) 0; rw [setL_all (Pl.cells pl0) (Pl.cells a) rfl] at hs; generalize hw2 : World.setCells _ _ _ _ = w2; have hs : Sat w0 _ w2 := hw2 ▸ hs; have q0 : w2.cell? ⟨wr.heap.size, 0, none⟩ = some (vu a.gen) := hs.cell 0 rfl; have q1 : w2.cell? ⟨wr.heap.size, 1, none⟩ = some (.bool true) := (hs.cell 1 rfl).trans (congrArg (fun b => some (Value.bool b)) HT2.out); have HL2 := Lib.hid (rangeX hs); obtain ⟨fn, tmps, assign, body, hy, hR⟩ := HY.out k _ _ (pc wr.heap.size 110 (Pl.cells a)) HA.out HT2.out (hs.cast (by ac_rfl)))
          | (refine wpListIn_load_mid rfl 49 _ rfl wr.heap.size 3 (by rfl) (elC a.x) _ HL2.out Try.underlying49 rfl einfo ?_))
        refine hR.mono ?_
        rintro e W3 (⟨rfl, hS3⟩ | ⟨rfl, hS3⟩)
        · have HT := Lib.hid ((hS3.cast (show _ = pc wr.heap.size 110 (Pl.cells a) * (itP bx (.slice (some ⟨g, 0, none⟩) ps.length cap) ps * H (k + 1)) by ac_rfl)).dropL)
          clear hR hS3 hy
          gi_wp2
          go_roundw
          case rel => exact ⟨k + 1, by omega, by go_num, HT.out⟩
          case measure => simp [intOf]; omega
        · have HT := Lib.hid ((hS3.cast (show _ = pc wr.heap.size 110 (Pl.cells a) * (itP bx (.slice (some ⟨g, 0, none⟩) ps.length cap) ps * S) by ac_rfl)).dropL)
          clear hR hS3 hy
          gi_wp2
          refine bodyPost_ret (results_none rfl _ _ _) rfl ?_
          exact ⟨⟨_, rfl⟩, .inr HT.out⟩
    · obtain rfl : k = ps.length := by omega
      have HT := Lib.hid hS
      clear hS
      gi_wp2
      go_end0
      exact ⟨⟨_, rfl⟩, .inl HT.out⟩
end
end Go.Proofs.Ytknodagcmachiaa.Ac
