/-
  The reference's global queue: Put. No statement is proved here.
-/
import Derived.Test.YtdbppfcilaajaaaGreatMg12
import Derived.Test.YtdbppfcilaajaaaGreatMg29
import Derived.Test.YtdbppfcilaajaaaGreatMg21
import Derived.Test.YtdbppfcilaajaaaGreatMg6
import Derived.Test.YtdbppfcilaajaaaGreatMg11
import Derived.RangeFuncCalls
import Derived.Sort.LoopGhostIn
import Derived.Shelf.Abstract
import Derived.Shelf.RegionOpen
import Derived.OwnWalkIn
import Derived.TacticsInMore
import Derived.LoopNIn
import Derived.LoopIn
import Derived.Sort.QuietIn
import Derived.RangeFuncNested
import Derived.Test.YtdbppfcilaajaaaGreatMg2
import Derived.Test.YtdbppfcilaajaaaGreatMg1
namespace Go.Proofs.YtdbppfcilaajaaaGreat.Pc
open Go.RowKit Rq Gq
set_option linter.unusedVariables false
set_option linter.unusedSimpArgs false

/-- The reference's global queue: its block. -/
abbrev rgB (q : Nat) (vL : Value) : Hp := pc q 237 [vL]
section
variable {w0 w : World} {F : Hp} {q : Nat} {vL v : Value} {gx ys : List Int}
set_option maxRecDepth 100000 in
theorem rg_put (h : Sat w0 (rgB q vL * (rs 3 vL (gx.map vi) * F)) w) (hA : ∀ w', Sat w0 F w' → RdI w' v ys) (hl : gx.length + ys.length ≤ 1000000) :
    Calls Tryz.prog 63 #[vp q, v] w fun e w' => ∃ vL', e = .returned (.tuple #[]) ∧ Sat w0 (rgB q vL' * (rs 3 vL' ((gx ++ ys).map vi) * F)) w' := by
  have hR : RdI w vL gx := by
    have := h.pull2.rsRd
    rw [List.length_map] at this
    exact this
  obtain ⟨ao, cap, rfl⟩ := hR.len
  obtain ⟨ay, cay, rfl⟩ := (hA _ h.dropL.dropL).len
  have c0 := h.cell 0 rfl
  have hR' := Lib.hid hR
  have hS' := Lib.hid h
  have hA' := Lib.hid hA
  clear h hR hA
  go_enter Tryz.func63, Tryz.ntmps63
  go_wp2_with (first | (at_builtin; refine wpList_append_sl Einti rfl (.const (.slice none 0 0)) (.tmp 8) rfl rfl (hS'.out.addNil 3 1) (by rfl) hR'.out (by simp [Value.oneCell']) (by unfold maxLen; omega) (by omega) ?_; intro ao1 cap1 w1 hS1; simp only [Nat.zero_add, List.nil_append] at hS1) | (at_builtin; refine wpList_append_sl Einti rfl (.tmp 9) (.tmp 10) rfl rfl hS1 (by rfl) (hA'.out _ hS1.dropL.dropL.dropL) (by simp [Value.oneCell']) (by unfold maxLen; omega) (by omega) ?_; intro ao2 cap2 w2 hS2; have d2 := (hS2.dropL).cell 0 rfl; have f2 := hS2.dropL.free 0))
  go_end0
  have h3 := (hS2.pull2.store 0 (.slice ao2 (gx.length + ys.length) cap2)).drop3
  have h4 := h3.in2 Sat.rsOfSl
  exact ⟨.slice ao2 (gx.length + ys.length) cap2, rfl, h4.cast (by simp)⟩
end
end Go.Proofs.YtdbppfcilaajaaaGreat.Pc

namespace Go.Proofs.YtdbppfcilaajaaaGreat.Pc
open Go.RowKit Rq Gq
set_option linter.unusedVariables false
set_option linter.unusedSimpArgs false

section
variable {w0 w : World} {F : Hp} {q : Nat} {vL v : Value} {gx ys : List Int}
end
end Go.Proofs.YtdbppfcilaajaaaGreat.Pc

namespace Go.Proofs.YtdbppfcilaajaaaGreat.Pc
open Go.RowKit Rq Gq
set_option linter.unusedVariables false
set_option linter.unusedSimpArgs false

section
variable {w0 w : World} {F : Hp} {q : Nat} {vL v : Value} {gx ys : List Int}
end
end Go.Proofs.YtdbppfcilaajaaaGreat.Pc

namespace Go.Proofs.YtdbppfcilaajaaaGreat.Pc
open Go.RowKit Rq Gq
set_option linter.unusedVariables false

/-- Where all lies in the reference: the places, the global queue, the array of Ps and its room; each P's queue; how many Ps, and a ring's room. -/
structure Ar where
  s : Nat
  a : Nat
  sb : Nat
  cap : Nat
  q : Nat → Nat
  n : Nat
  m : Nat
abbrev Ar.v (D : Ar) : Value := .slice (some ⟨D.sb, 0, none⟩) D.n D.cap
def rowR (D : Ar) (vR : Nat → Value) (p : Nat → Pl) (i : Nat) : List Value := [vp (D.q i), vR i, vi (p i).left, vu (p i).turns]
def oneR (D : Ar) (vR : Nat → Value) (p : Nat → Pl) (i : Nat) : Hp := refQ (D.q i) D.m (p i).xs (p i).z (p i).b * rs 3 (vR i) ((nsOf (p i).g (p i).runs).map vi)
def prO (D : Ar) (vG : Value) (vR : Nat → Value) (p : Nat → Pl) (gx : List Int) : Hp := pc D.s 138 [D.v, vp D.a] * (sl 241 4 D.v D.n (rowsN (rowR D vR p) D.n) * (rgB D.a vG * (rs 3 vG (gx.map vi) * star (oneR D vR p) D.n)))
/-- The reference's places, whole. -/
def prB (D : Ar) (p : Nat → Pl) (gx : List Int) : Hp := ex fun u : Value × (Nat → Value) => prO D u.1 u.2 p gx
section
variable {w0 w : World} {F : Hp} {D : Ar} {p : Nat → Pl} {gx : List Int} {k : Nat} {vG : Value} {vR : Nat → Value}
theorem pr_open (h : Sat w0 (prB D p gx * F) w) : ∃ vG vR, Sat w0 (prO D vG vR p gx * F) w := by
  obtain ⟨u, hu⟩ := h.exE
  exact ⟨u.1, u.2, hu⟩
theorem pr_shut (h : Sat w0 (prO D vG vR p gx * F) w) : Sat w0 (prB D p gx * F) w := Sat.exI (f := fun u : Value × (Nat → Value) => prO D u.1 u.2 p gx) (vG, vR) h
theorem pr_head (h : Sat w0 (prO D vG vR p gx * F) w) : Sat w0 (pc D.s 138 [D.v, vp D.a] * (sl 241 4 D.v D.n (rowsN (rowR D vR p) D.n) * (rgB D.a vG * (rs 3 vG (gx.map vi) * (star (oneR D vR p) D.n * F))))) w := h.cast (by unfold prO; ac_rfl)
/-- All but the global queue; it is taken out, and put back. -/
def prY (D : Ar) (vR : Nat → Value) (p : Nat → Pl) : Hp := pc D.s 138 [D.v, vp D.a] * (sl 241 4 D.v D.n (rowsN (rowR D vR p) D.n) * star (oneR D vR p) D.n)
theorem pr_glob (h : Sat w0 (prO D vG vR p gx * F) w) : Sat w0 (rgB D.a vG * (rs 3 vG (gx.map vi) * (prY D vR p * F))) w := h.cast (by unfold prO prY; ac_rfl)
end
end Go.Proofs.YtdbppfcilaajaaaGreat.Pc

namespace Go.Proofs.YtdbppfcilaajaaaGreat.Pc
open Go.RowKit Rq Gq
set_option linter.unusedVariables false
set_option linter.unusedSimpArgs false

section
variable {w0 w : World} {F : Hp} {D : Ar} {p : Nat → Pl} {gx : List Int} {vG : Value} {vR : Nat → Value}
end
end Go.Proofs.YtdbppfcilaajaaaGreat.Pc

namespace Go.Proofs.YtdbppfcilaajaaaGreat.Pc
open Go.RowKit Rq Gq
set_option linter.unusedVariables false
set_option linter.unusedSimpArgs false

section
variable {w0 w : World} {F : Hp} {D : Ar} {p : Nat → Pl} {gx : List Int} {vG : Value} {vR : Nat → Value}

end
end Go.Proofs.YtdbppfcilaajaaaGreat.Pc

namespace Go.Proofs.YtdbppfcilaajaaaGreat.Pc
open Go.RowKit Rq Gq
set_option linter.unusedVariables false
set_option linter.unusedSimpArgs false

section
variable {w0 w : World} {F : Hp} {D : Ad} {p : Nat → Pl} {gx : List Int}
theorem pl_runs_no (h : Sat w0 (plB D p gx * F) w) (k : Int) (hk : inP D.n k = false) : Calls Tryz.prog 12 #[vp D.s, vi k] w fun e w' => e = .returned (.tuple #[vi 0, .bool false]) ∧ w = w' := by
  have HI := Lib.hid (pl_is h k)
  rw [hk] at HI
  clear h hk
  go_enter Tryz.func12, Tryz.ntmps12
  go_wp2_with (go_at_call 66; refine HI.out.mono ?_; rintro e w' ⟨rfl, rfl⟩)
  go_ret2
  exact ⟨rfl, rfl⟩
theorem pl_runs_at (h : Sat w0 (plB D p gx * F) w) (k : Nat) (hk : k < D.n) : Calls Tryz.prog 12 #[vp D.s, vi k] w fun e w' => e = .returned (.tuple #[vi ((runsG (p k)).headD 0), .bool (p k).runs]) ∧ w = w' := by
  obtain ⟨c1, r0, r1, r2, r3, r4⟩ : w.cell? ⟨D.s, 0, none⟩ = some D.v ∧ _ := ⟨(pl_cells h).1, pl_row h hk⟩
  have hki : (k : Int) < (D.n : Int) := by omega
  have HI := Lib.hid (pl_is h (k : Int))
  rw [inP_nat hk] at HI
  unfold runsG
  generalize (p k).g = g at *
  generalize (p k).runs = ru at *
  unfold Ad.v at c1
  clear h hk
  cases ru
  · go_enter Tryz.func12, Tryz.ntmps12
    go_wp2_with (go_at_call 66; refine HI.out.mono ?_; rintro e w' ⟨rfl, rfl⟩)
    go_ret2
    exact ⟨rfl, rfl⟩
  · go_enter Tryz.func12, Tryz.ntmps12
    go_wp2_with (go_at_call 66; refine HI.out.mono ?_; rintro e w' ⟨rfl, rfl⟩)
    go_ret2
    exact ⟨rfl, rfl⟩
theorem pl_turn_at (h : Sat w0 (plB D p gx * F) w) (k : Nat) (hk : k < D.n) : Calls Tryz.prog 19 #[vp D.s, vi k] w fun e w' => e = .returned (.int .u64 (IntKind.u64.wrap ((p k).turns + 1))) ∧ Sat w0 (plB D (up p k (turnY (p k) (IntKind.u64.wrap ((p k).turns + 1)))) gx * F) w' := by
  obtain ⟨c1, r0, r1, r2, r3, r4⟩ : w.cell? ⟨D.s, 0, none⟩ = some D.v ∧ _ := ⟨(pl_cells h).1, pl_row h hk⟩
  have hki : (k : Int) < (D.n : Int) := by omega
  have HI := Lib.hid (pl_is h (k : Int))
  rw [inP_nat hk] at HI
  have f4 := pl_free h (k * 5 + 4)
  have hst := pl_store (y := turnY (p k) (IntKind.u64.wrap ((p k).turns + 1))) (j := 4) (u := vu (IntKind.u64.wrap ((p k).turns + 1))) h hk (by omega) rfl rfl rfl rfl
  have c1' := (pl_cells hst).1
  have r4' := (pl_row hst hk).2.2.2.2
  rw [up_at] at r4'
  have r4' : World.cell? _ ⟨D.sb, k * 5 + 4, none⟩ = some (vu (IntKind.u64.wrap ((p k).turns + 1))) := r4'
  have HST := Lib.hid hst
  clear h hst hk r0 r1 r2 r3
  unfold Ad.v at c1 c1'
  generalize (p k).turns = t at *
  go_enter Tryz.func19, Tryz.ntmps19
  go_wp2_with (go_at_call 66; refine HI.out.mono ?_; rintro e w' ⟨rfl, rfl⟩)
  go_ret
  exact ⟨rfl, HST.out⟩
end
end Go.Proofs.YtdbppfcilaajaaaGreat.Pc

namespace Go.Proofs.YtdbppfcilaajaaaGreat.Pc
open Go.RowKit Rq Gq
set_option linter.unusedVariables false
set_option linter.unusedSimpArgs false

section
variable {w0 w : World} {F : Hp} {D : Ar} {p : Nat → Pl} {gx : List Int} {vG : Value} {vR : Nat → Value}
end
end Go.Proofs.YtdbppfcilaajaaaGreat.Pc

namespace Go.Proofs.YtdbppfcilaajaaaGreat
open Go.RowKit
set_option linter.unusedVariables false

section
variable {w0 w : World} {F : Hp} {G : Fence} {n : Nat} {P : Program}
/-- A loop's record once it is left by c. -/
abbrev lrecD (fn : FuncId) (tmps : Array Value) (ps : Array Tmp) (assign body : Code) (D : Nat) (c : Code) : Obj :=
  .loop { state := .done, pending := some c, fn := fn, tmps := tmps, params := ps, assign := assign, body := body, defers := D }
/-- What a round may end with: on, or out. -/
def stopPost (R : World → Prop) (S : Code → World → Prop) : Exit → Act → World → Prop
  | .normal, _, W => R W
  | .ret, _, W => S .ret W
  | .exit id, _, W => S (.exit id) W
  | .goto t, _, W => S (.goto t) W
  | .panic _, _, _ => False
  | .outgrown, _, _ => False
theorem wpIn_range_stop {gf : Nat} {lb : Array Value} {g : Operand} {ps : Array Tmp} {assign body : Code} {Q : Exit → Act → World → Prop} {a : Act} {H H' : Hp} {S : Code → Hp}
    (hro : G.round = none) (h1 : 1 ≤ n) (hg : a.eval g = .func (.func gf) #[] lb) (hFg : G.fn gf) (eg : ∀ args w, (callFunc gf args).run P w = .ok (.enter gf args) w)
    (h : Sat w0 H w)
    (hcall : ∀ (fn : FuncId) (l D : Nat) (R : Obj) (Rd : Code → Obj) (W : World), G.fn fn → R = lrec fn a.tmps ps assign body D .ready → (∀ c, Rd c = lrecD fn a.tmps ps assign body D c) → Sat w0 (pt l R * (pt D dmark * H)) W →
      CallsIn G (n - 1) P gf (#[.func (.yield l) #[] #[]] ++ lb) W fun e W' => (∃ v, e = .returned v) ∧ (Sat w0 (pt l R * (pt D dmark * H')) W' ∨ ∃ c, Sat w0 (pt l (Rd c) * (pt D dmark * S c)) W'))
    (hdone : ∀ (D : Nat) (W : World), Sat w0 (pt D dmark * H') W → Q .normal { a with defers := { target := .collected D, args := #[] } :: a.defers } W)
    (hstop : ∀ (c : Code) (D : Nat) (W : World), Sat w0 (pt D dmark * S c) W → c.wpIn G n P Q { a with defers := { target := .collected D, args := #[] } :: a.defers } W) :
    (Code.rangeFunc g ps assign body).wpIn G n P Q a w := by
  refine wpIn_rangeFunc ?_
  intro fn hfn
  rw [hro]
  have hS : Sat w0 (pt (w.heap.size + 1) (lrec fn a.tmps ps assign body w.heap.size .ready) * (pt w.heap.size dmark * H)) ((w.alloc dmark).alloc (lrec fn a.tmps ps assign body w.heap.size .ready)) := by
    have h2 := (h.alloc dmark).alloc (lrec fn a.tmps ps assign body w.heap.size .ready)
    rwa [World.size_alloc] at h2
  have he := run_enterLoop_outer (P := P) (w := w) fn a.tmps ps assign body
  obtain ⟨W1, hW1⟩ : ∃ W1, (w.alloc dmark).alloc (lrec fn a.tmps ps assign body w.heap.size .ready) = W1 := ⟨_, rfl⟩
  rw [hW1] at hS
  have he : (Instr.enterLoop fn a.tmps ps assign body none).run P w = .ok (w.heap.size + 1, [{ target := .collected w.heap.size, args := #[] }]) W1 := by rw [← hW1]; exact he
  clear hW1
  generalize w.heap.size = D at *
  refine ⟨D + 1, [{ target := .collected D, args := #[] }], W1, { target := .fn (.func gf) lb, args := #[.func (.yield (D + 1)) #[] #[]] }, W1, gf,
    #[.func (.yield (D + 1)) #[] #[]] ++ lb, W1, he, ?_, ?_, ?_, fun _ => h1, ?_⟩
  · simp only [resolve, hg]
    simp [go_sem]
  · intro f' hf'
    simp [Target.leads] at hf'
    subst hf'
    exact hFg
  · simp [invoke, go_sem, eg]
  · refine (hcall fn (D + 1) D _ (lrecD fn a.tmps ps assign body D) W1 hfn rfl (fun _ => rfl) hS).mono ?_
    rintro e W2 ⟨⟨v, rfl⟩, h2 | ⟨c, h2⟩⟩
    · have hend := run_endLoop (P := P) h2.blk.1 (by simp)
      exact ⟨none, _, hend, hdone D _ h2.putObj.dropL⟩
    · have hend := run_endLoop (P := P) h2.blk.1 (by simp)
      exact ⟨some c, _, hend, hstop c D _ h2.putObj.dropL⟩

theorem yield_stop {l D : Nat} {fn : FuncId} {tmps : Array Value} {ps : Array Tmp} {assign body : Code} {X X' : Hp} {S : Code → Hp} {args : Array Value} {R : Obj} {Rd : Code → Obj} {A : Act → World → Prop}
    (hfn : G.fn fn) (hps : args.size = ps.size) (hR : R = lrec fn tmps ps assign body D .ready) (hRd : ∀ c, Rd c = lrecD fn tmps ps assign body D c) (h : Sat w0 (pt l R * X) w)
    (hA : ∀ a' W', A a' W' → W'.heap[l]? = some R)
    (hassign : ∀ K : Act → World → Prop, (∀ a' W', A a' W' → K a' W') → assign.wpIn (G.inRound l) n P (Exit.then K (fun _ _ _ => False)) { tmps := (ps.zip args).foldl (fun t (p, v) => t.setIfInBounds p v) tmps, defers := [] } w)
    (hbody : ∀ (B : Obj) (a' : Act) (W' : World), A a' W' → body.wpIn (G.inRound l) n P (stopPost (fun W2 => Sat w0 (pt l B * X') W2) (fun c W2 => Sat w0 (pt l B * S c) W2)) a' (W'.putObj l B)) :
    YieldAt G n P l args w fun e W' => (e = .returned (.bool true) ∧ Sat w0 (pt l R * X') W') ∨ ∃ c, e = .returned (.bool false) ∧ Sat w0 (pt l (Rd c) * S c) W' := by
  subst hR
  refine ⟨fn, _, assign, body, run_yield h.blk.1 hps, roundIn_of_wpIn hfn (hassign _ fun a' W' ha => ?_)⟩
  refine ⟨_, run_beginRound (hA _ _ ha) rfl, wpIn_mono (hbody (lrec fn tmps ps assign body D .busy) _ _ ha) ?_⟩
  intro e a2 W2 hp
  have out : ∀ c, Sat w0 (pt l (lrec fn tmps ps assign body D .busy) * S c) W2 → ∃ v w', (Instr.endRound l (some c)).run P W2 = .ok v w' ∧ (((Ending.returned v) = .returned (.bool true) ∧ Sat w0 (pt l (lrec fn tmps ps assign body D .ready) * X') w') ∨ ∃ c, (Ending.returned v) = .returned (.bool false) ∧ Sat w0 (pt l (Rd c) * S c) w') := fun c hp =>
    ⟨_, _, run_endRound (some c) hp.blk.1, .inr ⟨c, rfl, by rw [hRd]; exact hp.putObj⟩⟩
  cases e with
  | normal =>
    have hp : Sat w0 (pt l (lrec fn tmps ps assign body D .busy) * X') W2 := hp
    exact ⟨_, _, run_endRound none hp.blk.1, .inl ⟨rfl, hp.putObj⟩⟩
  | ret => exact out .ret hp
  | exit id => exact out (.exit id) hp
  | goto t => exact out (.goto t) hp
  | panic ch => exact hp.elim
  | outgrown => exact hp.elim
end
end Go.Proofs.YtdbppfcilaajaaaGreat

namespace Go.Proofs.YtdbppfcilaajaaaGreat.Gq
open Go.RowKit Rq
attribute [local go_sem] Oper.semAt_some
set_option linter.unusedVariables false

section
variable {w : World} {v : Value} {af : List Nat} {p g : Int} {ba bp : Nat}
theorem gclo_no (ha : w.cell? ⟨ba, 0, none⟩ = some v) (hp : w.cell? ⟨bp, 0, none⟩ = some (vi p)) (h : RdA w v af) (hg : g < 0 ∨ (af.length : Int) ≤ g) :
    Calls Tryz.prog 222 #[vi g, .pointer (some ⟨ba, 0, none⟩), .pointer (some ⟨bp, 0, none⟩)] w fun e w' => e = .returned (.bool (mayG af p g)) ∧ ∃ n, w' = w.drewN n := by
  rw [show mayG af p g = false by rw [mayG, decide_eq_false (by omega)]; rfl]
  obtain ⟨ao, cap, rfl⟩ := Rd.len h.1
  clear h
  by_cases h1 : g < 0
  · have h2 : decide (0 ≤ g) = false := decide_eq_false (by omega)
    clear hg h1
    go_enter Tryz.func222, Tryz.ntmps222
    go_wp2
    go_quiet (fail)
    go_wp2
    go_ret
    exact ⟨by simp, _, rfl⟩
  · have h2 : decide (0 ≤ g) = true := decide_eq_true (by omega)
    have h3 : decide (g < (af.length : Int)) = false := decide_eq_false (by omega)
    clear hg h1
    go_enter Tryz.func222, Tryz.ntmps222
    go_wp2
    go_quiet (fail)
    go_wp2
    go_ret
    exact ⟨by simp, _, rfl⟩
theorem gclo_at (ha : w.cell? ⟨ba, 0, none⟩ = some v) (hp : w.cell? ⟨bp, 0, none⟩ = some (vi p)) (h : RdA w v af) (k : Nat) (hk : k < af.length) :
    Calls Tryz.prog 222 #[vi k, .pointer (some ⟨ba, 0, none⟩), .pointer (some ⟨bp, 0, none⟩)] w fun e w' => e = .returned (.bool (mayG af p k)) ∧ ∃ n, w' = w.drewN n := by
  obtain ⟨a, hka⟩ : ∃ a, af[k]? = some a := ⟨af[k], List.getElem?_eq_getElem hk⟩
  rw [show mayG af p k = hasB a p by rw [mayG, decide_eq_true (by omega), Int.toNat_natCast, hka]; rfl]
  have hab := h.2 a (List.mem_of_getElem? hka)
  obtain ⟨b, off, cap, rfl, hc⟩ : ∃ b off cap, v = .slice (some ⟨b, off, none⟩) af.length cap ∧ w.cell? ⟨b, off + k, none⟩ = some (.int .u8 a) := by
    rcases h.1.2 with ⟨h0, _⟩ | ⟨b, off, cap, hv, hc⟩
    · omega
    · exact ⟨b, off, cap, hv, hc k _ (by rw [List.getElem?_map, hka]; rfl)⟩
  have hki : (k : Int) < (af.length : Int) := by omega
  have hkd : decide (k < af.length) = true := decide_eq_true hk
  clear h hka
  go_enter Tryz.func222, Tryz.ntmps222
  go_wp2
  go_quiet ((go_at_call 151; exact Calls.quiet_of_same ((num_has a hab p _).mono fun _ _ h => ⟨h.1, h.2.symm⟩)))
  go_wp2
  go_ret
  exact ⟨rfl, _, rfl⟩
theorem gclo_ (ha : w.cell? ⟨ba, 0, none⟩ = some v) (hp : w.cell? ⟨bp, 0, none⟩ = some (vi p)) (h : RdA w v af) :
    Calls Tryz.prog 222 #[vi g, .pointer (some ⟨ba, 0, none⟩), .pointer (some ⟨bp, 0, none⟩)] w fun e w' => e = .returned (.bool (mayG af p g)) ∧ ∃ n, w' = w.drewN n := by
  by_cases hg : g < 0 ∨ (af.length : Int) ≤ g
  · exact gclo_no ha hp h hg
  · obtain ⟨k, rfl⟩ := Int.eq_ofNat_of_zero_le (show 0 ≤ g by omega)
    exact gclo_at ha hp h k (by omega)
end


section
variable {w0 w : World} {F : Hp} {q : Nat} {xs : List Int}
theorem g_may (h : Sat w0 F w) (p : Int) {ao : Option Addr} {ln cap : Nat} {v : Value} (hv : v = .slice ao ln cap) :
    Calls Tryz.prog 183 #[vi p, v] w fun e w' => ∃ ba bp, e = .returned (.func (.func 222) #[] #[vp ba, vp bp]) ∧ Sat w0 (pc ba 46 [v] * (pc bp 3 [vi p] * F)) w' := by
  subst hv
  have h2 := (h.alloc (.cells #[vi p] 3)).alloc (.cells #[.slice ao ln cap] 46)
  rw [World.size_alloc] at h2
  have H := Lib.hid (show Sat w0 (pc (w.heap.size + 1) 46 [.slice ao ln cap] * (pc w.heap.size 3 [vi p] * F)) ((w.alloc (.cells #[vi p] 3)).alloc (.cells #[.slice ao ln cap] 46)) from h2)
  clear h h2
  go_enter Tryz.func183, Tryz.ntmps183
  go_wp2
  go_ret
  exact ⟨_, _, rfl, H.out⟩
theorem g_each (h : Sat w0 F w) :
    Calls Tryz.prog 206 #[vp q] w fun e w' => ∃ bx, e = .returned (.func (.func 235) #[] #[vp bx]) ∧ Sat w0 (pc bx 146 [vp q] * F) w' := by
  have H := Lib.hid (show Sat w0 (pc w.heap.size 146 [vp q] * F) (w.alloc (.cells #[vp q] 146)) from h.alloc _)
  clear h
  go_enter Tryz.func206, Tryz.ntmps206
  go_wp2
  go_ret
  exact ⟨_, rfl, H.out⟩
/-- What the iterator has. -/
abbrev itG (bx q : Nat) (ns : List (Nat × Int)) : Hp := pc bx 146 [vp q] * (pc q 286 [fst (.pointer none) ns, lst (.pointer none) ns, vi ns.length] * sg 284 (.pointer none) ns)
theorem sg_ne {T : TypeId} {n : Value} {b : Nat} {o : Obj} : ∀ {r : List (Nat × Int)} {F : Hp}, Sat w0 (pt b o * (sg T n r * F)) w → b ∉ r.map Prod.fst
  | [], _, _ => by simp
  | (c, g) :: r, F, h => by
    have h1 : Sat w0 (pt b o * (pc c T [vi g, fst n r] * (sg T n r * F))) w := h.cast (by show pt b o * ((pc c T [vi g, fst n r] * sg T n r) * F) = _; ac_rfl)
    have h2 := sg_ne (F := F) h1.drop2
    simp only [List.map_cons, List.mem_cons, not_or]
    exact ⟨Sat.ne h1, h2⟩
theorem sg_nodup {T : TypeId} {n : Value} : ∀ {r : List (Nat × Int)} {F : Hp}, Sat w0 (sg T n r * F) w → (r.map Prod.fst).Nodup
  | [], _, _ => by simp
  | (c, g) :: r, F, h => by
    have h1 : Sat w0 (pc c T [vi g, fst n r] * (sg T n r * F)) w := h.cast (by show (pc c T [vi g, fst n r] * sg T n r) * F = _; ac_rfl)
    rw [List.map_cons, List.nodup_cons]
    exact ⟨sg_ne h1, sg_nodup (F := F) h1.dropL⟩
/-- How far a node is from the row's end. -/
def blk : Value → Nat
  | .pointer (some a) => a.block + 1
  | _ => 0
def far (ns : List (Nat × Int)) (v : Value) : Nat := ns.length - (ns.map fun x => x.1 + 1).idxOf (blk v)
theorem far_at {a r : List (Nat × Int)} {x : Nat} {g : Int} (hn : ((a ++ (x, g) :: r).map Prod.fst).Nodup) : far (a ++ (x, g) :: r) (vp x) = r.length + 1 := by
  have hx : x + 1 ∉ a.map fun x => x.1 + 1 := by
    intro hm
    obtain ⟨y, hy, he⟩ := List.mem_map.1 hm
    rw [List.map_append, List.nodup_append] at hn
    exact hn.2.2 y.1 (List.mem_map_of_mem hy) x (by simp) (by omega)
  unfold far
  show _ - (List.map _ _).idxOf (x + 1) = _
  rw [List.map_append, List.idxOf_append, if_neg hx, List.map_cons]
  simp
theorem far_fst {a r : List (Nat × Int)} (hn : ((a ++ r).map Prod.fst).Nodup) : far (a ++ r) (fst (.pointer none) r) = r.length := by
  cases r with
  | nil =>
    unfold far fst
    show _ - (List.map _ _).idxOf 0 = _
    rw [List.idxOf_eq_length (by simp)]
    simp
  | cons y r => exact far_at hn
set_option maxRecDepth 100000 in
set_option maxHeartbeats 2000000 in
theorem g_each1 (n : Nat) (hn : 1 ≤ n) {ns : List (Nat × Int)} (H : Nat → Hp) (S : Hp) (bx l : Nat)
    (hY : ∀ a x g r W (F : Hp), ns = a ++ (x, g) :: r → Sat w0 (itG bx q ns * (H a.length * F)) W → YieldAt Fence.wide (n - 1) Tryz.prog l #[lst (.pointer none) a, vp x] W fun e W' => (e = .returned (.bool true) ∧ Sat w0 (itG bx q ns * (H (a.length + 1) * F)) W') ∨ (e = .returned (.bool false) ∧ Sat w0 (S * F) W'))
    (h0 : Sat w0 (itG bx q ns * H 0) w) :
    CallsIn Fence.wide n Tryz.prog 235 #[.func (.yield l) #[] #[], vp bx] w fun e W' => (∃ v, e = .returned v) ∧ (Sat w0 (itG bx q ns * H ns.length) W' ∨ Sat w0 S W') := by
  have hh : Sat w0 (pc bx 146 [vp q] * (pc q 286 [fst (.pointer none) ns, lst (.pointer none) ns, vi ns.length] * (sg 284 (.pointer none) ns * H 0))) w := h0.cast (by unfold itG; ac_rfl)
  have c0 := hh.cell 0 rfl
  have c1 := hh.pull2.cell 0 rfl
  have hnd := sg_nodup hh.dropL.dropL
  have HY := Lib.hid hY
  have HS0 := Lib.hid h0
  clear hY h0 hh
  refine callsIn_of_wp Tryz.func235 rfl trivial ?_ rfl
  simp only [Tryz.ntmps235, List.size_toArray, List.length_cons, List.length_nil, Nat.reduceAdd, Nat.reduceSub, Array.replicate_succ, Array.replicate_zero, List.push_toArray, List.append_toArray, List.nil_append, List.cons_append]
  gi_wp2
  clear c0 c1
  gi_loopw [4, 3] (fun x b wr => ∃ a r, Hid (ns = a ++ r) ∧ x = fst (.pointer none) r ∧ b = lst (.pointer none) a ∧ Sat w0 (itG bx q ns * H a.length) wr) (fun x _ _ => far ns x)
  case atStart => exact ⟨[], ns, Lib.hid rfl, rfl, rfl, HS0.out⟩
  case round =>
    obtain ⟨a, r, hns, rfl, rfl, hS⟩ := hrel
    cases r with
    | cons y r =>
      obtain ⟨x, g⟩ := y
      have hn2 := hnd
      rw [hns.out] at hn2
      have hm1 : far ns (vp x) = r.length + 1 := by rw [hns.out]; exact far_at hn2
      have hm2 : far ns (fst (.pointer none) r) = r.length := by
        have h9 : ns = (a ++ [(x, g)]) ++ r := by rw [hns.out]; simp
        rw [h9] at hnd ⊢
        exact far_fst hnd
      have hns2 : ns = (a ++ [(x, g)]) ++ r := by rw [hns.out]; simp
      have hSG : Sat w0 (sg 284 (.pointer none) (a ++ (x, g) :: r) * (pc bx 146 [vp q] * (pc q 286 [fst (.pointer none) ns, lst (.pointer none) ns, vi ns.length] * H a.length))) wr := hS.cast (by rw [← hns.out]; unfold itG; ac_rfl)
      have hR := HY.out a x g r wr emp hns.out (hS.cast (by rw [sep_emp]))
      have HM := Lib.hid (show far ns (fst (.pointer none) r) < far ns (vp x) by rw [hm1, hm2]; omega)
      have HN2 := Lib.hid hns2
      have HNX : Hid (∀ W, Sat w0 (itG bx q ns * (H (a.length + 1) * emp)) W → W.cell? ⟨x, 1, none⟩ = some (fst (.pointer none) r)) := Lib.hid fun W h => (sg_at (T := 284) (F := pc bx 146 [vp q] * (pc q 286 [fst (.pointer none) ns, lst (.pointer none) ns, vi ns.length] * H (a.length + 1))) (h.cast (show _ = sg 284 (.pointer none) (a ++ (x, g) :: r) * _ by rw [← hns.out, sep_emp]; unfold itG; ac_rfl))).2
      clear hSG hS hm1 hm2 hn2 hns2 hns HS0
      obtain ⟨fn2, tmps2, assign2, body2, hy, hR⟩ := hR
      have HR2 := Lib.hid hR
      clear hR
      rw [show fst (.pointer none) ((x, g) :: r) = vp x from rfl]
      gi_wp2
      refine HR2.out.mono ?_
      rintro e W3 (⟨rfl, hS3⟩ | ⟨rfl, hS3⟩)
      · have cx := HNX.out W3 hS3
        have HT := Lib.hid hS3
        clear hS3 HR2 hy
        gi_wp2
        go_roundw
        case rel => exact ⟨a ++ [(x, g)], r, HN2, rfl, (lst_snoc (.pointer none) a (x, g)).symm, by rw [List.length_append]; exact HT.out.cast (by rw [sep_emp]; rfl)⟩
        case measure => exact HM.out
      · have HT := Lib.hid (hS3.cast (sep_emp S))
        clear hS3 HR2 hy
        gi_wp2
        refine bodyPost_ret (results_none rfl _ _ _) rfl ?_
        exact ⟨⟨_, rfl⟩, .inr HT.out⟩
    | nil =>
      have hna : a = ns := by rw [hns.out, List.append_nil]
      rw [hna] at hS
      have HT := Lib.hid hS
      clear hS hna hns
      rw [show fst (.pointer none) ([] : List (Nat × Int)) = .pointer none from rfl]
      gi_wp2
      go_end0
      exact ⟨⟨_, rfl⟩, .inl HT.out⟩
end
end Go.Proofs.YtdbppfcilaajaaaGreat.Gq

namespace Go.Proofs.YtdbppfcilaajaaaGreat
set_option linter.unusedVariables false

def noDeferB (ops : Array Oper) : Bool := ops.toList.all fun o => match o.op with | .defer _ => false | _ => true
theorem noDeferB_spec {ops : Array Oper} (h : noDeferB ops = true) {j : Nat} {o : Oper} (ho : ops[j]? = some o) : ∀ c, o.op ≠ .defer c := by
  intro c e
  have hm : o ∈ ops.toList := by
    obtain ⟨hl, rfl⟩ := Array.getElem?_eq_some_iff.1 ho
    exact Array.getElem_mem_toList hl
  have := List.all_eq_true.1 h o hm
  rw [e] at this
  cases this
section
variable {F : Fence} {n : Nat} {P : Program} {md : Region.Mode} {ops : Array Oper} {C : World → Prop}
end
end Go.Proofs.YtdbppfcilaajaaaGreat

namespace Go.Proofs.YtdbppfcilaajaaaGreat
open Go.RowKit
set_option linter.unusedVariables false

section
variable {P : Program} {ops : Array Oper} {md : Region.Mode} {w : World} {l nn : Nat}
theorem wpIn_of_still {o : Oper} {a : Act} {K : Act → Prop} {K' : Act → World → Prop} {Q' : Exit → Act → World → Prop} (hd : ∀ c, o.op ≠ .defer c) (h : ∀ a, K a → K' a w) (hh : o.still P a w K) :
    o.wpIn (Fence.wide.inRound l) nn P a w K' Q' := by
  unfold Oper.still at hh
  unfold Oper.wpIn
  refine ⟨fun f _ => trivial, ?_⟩
  rw [Oper.semAt_eq _ _ _ hd]
  generalize (execOp a.eval o).run P w = r at *
  cases r with
  | halt x w' => simp only [Oper.stillUpon] at hh
  | ok x w' =>
    cases x <;> simp only [Oper.stillUpon] at hh <;> simp only [Oper.uponIn]
    case value u => rw [hh.1]; exact h _ hh.2
    case skip => rw [hh.1]; exact h _ hh.2
    case enter f args =>
      obtain ⟨e, v, hc, hk⟩ := hh
      rw [e]
      exact ⟨(fun hd => by cases hd), ((callsIn_wide.2 hc).inRound l).mono fun e w'' ⟨he, hw⟩ => by subst he; subst hw; exact h _ hk⟩
theorem wpOpIn_of_stOp (hd : noDeferB ops = true) {i : Nat} {a : Act} {K : Act → Prop} {K' : Act → World → Prop} {Q' : Exit → Act → World → Prop} (h : ∀ a, K a → K' a w) (hh : stOp P ops w i K a) :
    wpOpIn (Fence.wide.inRound l) nn P ops Q' i K' a w := by
  unfold stOp at hh
  unfold wpOpIn
  split
  · rename_i ho
    simp only [ho] at hh
    exact h _ hh
  · rename_i o ho
    simp only [ho] at hh
    split
    · rename_i hw
      simp only [hw, if_true] at hh
      exact wpIn_of_still (noDeferB_spec hd ho) h hh
    · rename_i hw
      simp only [hw] at hh
      exact ⟨fun f _ => trivial, h _ hh⟩
theorem wpAnyIn_of_head (hd : noDeferB ops = true) {n g : Nat} {L : Array Bool → Act → Prop} {Q' : Exit → Act → World → Prop} (hL : ∀ listed a, L listed a → wpAnyIn (Fence.wide.inRound l) nn P md ops Q' g listed a w) :
    ∀ (f : Nat) (listed : Array Bool) (a : Act), wpAnyL P md ops w n L f listed a → wpAnyIn (Fence.wide.inRound l) nn P md ops Q' (f + g) listed a w
  | 0, listed, a, h => by rw [Nat.zero_add]; exact hL _ _ h
  | f + 1, listed, a, h => by
    rw [show f + 1 + g = (f + g) + 1 by omega]
    exact ⟨fun h0 => absurd h0 h.1, fun i hi => wpOpIn_of_stOp hd (fun a' h' => wpAnyIn_of_head hd hL f _ a' h') (h.2 i hi).2⟩
theorem wpAnyIn_of_seq {F : Fence} {Q' : Exit → Act → World → Prop} : ∀ (l : List Oper) (k : Nat) (listed : Array Bool) (a : Act) (w : World), (∀ j, l[j]? = ops[k + j]?) →
    Region.seqB md ops l.length k listed = true → wpListIn F nn P ops Q' l a w → wpAnyIn F nn P md ops Q' l.length listed a w
  | [], _, _, _, _, _, hB, h => ⟨by simpa [Region.seqB] using hB, h⟩
  | o :: l, k, listed, a, w, hl, hB, h => by
    have h0 : ops[k]? = some o := by simpa using (hl 0).symm
    simp only [List.length_cons, Region.seqB, Bool.and_eq_true, decide_eq_true_eq] at hB
    refine ⟨fun h1 => (by rw [hB.1] at h1; cases h1), fun i hi => ?_⟩
    rw [hB.1] at hi
    have hik : i = k := by simpa using hi
    subst hik
    have hw : wpOpIn F nn P ops Q' i (wpListIn F nn P ops Q' l) a w := by unfold wpOpIn; simp only [h0]; exact h
    exact wpOpIn_mono (fun a' w' h' => wpAnyIn_of_seq l (i + 1) _ a' w' (fun j => by have := hl (j + 1); simpa [Nat.add_assoc, Nat.add_comm 1 j] using this) hB.2 h') hw
/-- The first n operations only read, the rest stand in one order: inside a round. -/
theorem wpIn_quiet_tailR {id : Nat} {Q : Exit → Act → World → Prop} {a : Act} {w : World} {lo : List Oper} (n : Nat) (hm : P.follows .mixedOrders = true) (hB : Region.lexTailB .any lo.toArray n = true) (hd : noDeferB lo.toArray = true)
    (h : wpQuiet P lo.toArray (fun w' => w' = w.drew) (fun a' => wpListIn (Fence.wide.inRound l) nn P lo.toArray Q (lo.drop n) a' w.drew) (lo.take n) a) : (Code.region id lo.toArray true).wpIn (Fence.wide.inRound l) nn P Q a w := by
  have h := still_of_quiet _ _ h
  simp only [Region.lexTailB, Bool.and_eq_true, decide_eq_true_eq] at hB
  obtain ⟨⟨⟨⟨hsel, hn⟩, hs⟩, hc⟩, hlex⟩ := hB
  have hn' : n < lo.length := by simpa using hn
  have htl : (lo.take n).length = n := by simp; omega
  have hdl : (lo.drop n).length = lo.toArray.size - n := by simp
  have inv0 : HeadInv .any lo.toArray n (Array.replicate lo.toArray.size false) :=
    ⟨by simp, fun j oj _ hl => (by rw [getD_replicate_false] at hl; cases hl), fun t _ ht => getD_in (by simpa using ht) (getD_replicate_false _ _)⟩
  have H := wpAnyL_lex (md := .any) (g := lo.toArray.size - n) hsel hs hc hn (lo.take n) 0 _ a (fun j hj => by
    have hj' : j < n := by rw [htl] at hj; exact hj
    simp [hj']) (by simpa using htl) inv0 (by rw [htl]; exact hlex) h
  refine wpIn_region_any hm ?_
  have := wpAnyIn_of_head (l := l) (nn := nn) hd (Q' := Q) (g := lo.toArray.size - n) (fun listed a' hL => by
    have := wpAnyIn_of_seq (nn := nn) (F := Fence.wide.inRound l) (md := .any) (Q' := Q) (lo.drop n) n listed a' w.drew (fun j => by simp [List.getElem?_drop]) (by rw [hdl]; exact hL.1) hL.2
    rwa [hdl] at this) _ _ _ H
  rw [htl, show n + (lo.toArray.size - n) = lo.toArray.size by omega] at this
  exact this
end
end Go.Proofs.YtdbppfcilaajaaaGreat

namespace Go.Proofs.YtdbppfcilaajaaaGreat.Gq
open Go.RowKit Rq
attribute [local go_sem] Oper.semAt_some
set_option linter.unusedVariables false

theorem wpIn_act {Fe : Fence} {n : Nat} {P : Program} {c : Code} {Q : Exit → Act → World → Prop} {a : Act} {w : World} (h : ∀ a', a' = a → c.wpIn Fe n P Q a' w) : c.wpIn Fe n P Q a w := h a rfl
section
variable {P : Program} {G : Fence} {n : Nat} {w0 w : World} {F : Hp}
end
section
variable {w0 w : World} {F : Hp} {q : Nat} {xs : List Int}
end
end Go.Proofs.YtdbppfcilaajaaaGreat.Gq
