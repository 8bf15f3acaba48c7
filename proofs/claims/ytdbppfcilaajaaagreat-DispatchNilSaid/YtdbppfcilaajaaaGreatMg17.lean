/-
  Chapter 16: May, by the program and by the reference; names. No statement is proved here.
-/
import Derived.Test.YtdbppfcilaajaaaGreatGa1
import Derived.Test.YtdbppfcilaajaaaGreatMg3
import Derived.Maps.OwnSet
import Derived.Laws.ResultCell
namespace Go.Proofs.YtdbppfcilaajaaaGreat.Gt
open Go.RowKit Ag
set_option linter.unusedVariables false

def mayP (x : El) : Prop := 1 ≤ x.v0 ∧ x.v0 ≤ 6 ∧ x.v18 ≤ 1152921504606846976 ∧ (x.v18 = 0 ∨ x.v0 = 4) ∧ 0 ≤ x.v7 ∧ 0 ≤ x.v8 ∧ (x.v0 = 5 → x.v1 = true) ∧ (x.v0 = 1 ∨ x.v0 = 2 → x.v1 = false)
instance (x : El) : Decidable (mayP x) := by unfold mayP; infer_instance
def mayB (x : El) : Bool := decide (mayP x)
abbrev gB (b : Nat) (x : El) : Hp := pc b 134 [(.int .i64 x.v0), (.bool x.v1), (.int .i64 x.v2), (.int .u64 x.v3), (.int .i64 x.v4), (.int .u64 x.v5), (.int .u8 x.v6), (.int .i64 x.v7), (.int .i64 x.v8), (.int .u64 x.v9), (.int .u64 x.v10), (.int .u64 x.v11), (.int .u64 x.v12), (.int .u64 x.v13), (.int .u64 x.v14), (.int .u64 x.v15), (.int .u64 x.v16), (.int .i64 x.v17), (.int .u64 x.v18)]
abbrev gO (x : El) : Obj := .cells #[(.int .i64 x.v0), (.bool x.v1), (.int .i64 x.v2), (.int .u64 x.v3), (.int .i64 x.v4), (.int .u64 x.v5), (.int .u8 x.v6), (.int .i64 x.v7), (.int .i64 x.v8), (.int .u64 x.v9), (.int .u64 x.v10), (.int .u64 x.v11), (.int .u64 x.v12), (.int .u64 x.v13), (.int .u64 x.v14), (.int .u64 x.v15), (.int .u64 x.v16), (.int .i64 x.v17), (.int .u64 x.v18)] 134

section
variable {w0 w : World} {F : Hp}
set_option maxRecDepth 100000 in
set_option maxHeartbeats 8000000 in
theorem g_may (h : Sat w0 F w) (x : El) : Calls Tryz.prog 168 #[ev x] w fun e w' => e = .returned (.bool (mayB x)) ∧ Sat w0 F w' := by
  have hB : Sat w0 (gB w.heap.size x * F) (w.alloc (gO x)) := h.alloc (gO x)
  have b0 := hB.cell 0 rfl
  have b1 := hB.cell 1 rfl
  have b7 := hB.cell 7 rfl
  have b8 := hB.cell 8 rfl
  have b18 := hB.cell 18 rfl
  have HB : Hid (∀ o, Sat w0 F (w.alloc o)) := Lib.hid fun o => h.alloc' o
  obtain ⟨v0, v1, v2, v3, v4, v5, v6, v7, v8, v9, v10, v11, v12, v13, v14, v15, v16, v17, v18⟩ := x
  have HM : Hid (∀ b, (b = true ↔ (1 ≤ v0 ∧ v0 ≤ 6 ∧ v18 ≤ 1152921504606846976 ∧ (v18 = 0 ∨ v0 = 4) ∧ 0 ≤ v7 ∧ 0 ≤ v8 ∧ (v0 = 5 → v1 = true) ∧ (v0 = 1 ∨ v0 = 2 → v1 = false))) → Ending.returned (.bool b) = .returned (.bool (mayB ⟨v0, v1, v2, v3, v4, v5, v6, v7, v8, v9, v10, v11, v12, v13, v14, v15, v16, v17, v18⟩))) := Lib.hid fun b hb => by
    congr 2
    cases b with
    | true => exact (decide_eq_true (hb.1 rfl)).symm
    | false => exact (decide_eq_false fun e => by simpa using hb.2 e).symm
  generalize mayB ⟨v0, v1, v2, v3, v4, v5, v6, v7, v8, v9, v10, v11, v12, v13, v14, v15, v16, v17, v18⟩ = m at *
  clear h hB
  cases v1
  all_goals
    go_enter Tryz.func168, Tryz.ntmps168
    go_wp2
    all_goals go_ret
    all_goals exact ⟨HM.out _ (by simp at *; try omega), HB.out _⟩
set_option maxRecDepth 100000 in
set_option maxHeartbeats 8000000 in
theorem r_may (h : Sat w0 F w) (x : El) (hx : 0 ≤ x.v18) : Calls Tryz.prog 127 #[ev x] w fun e w' => e = .returned (.bool (mayB x)) ∧ Sat w0 F w' := by
  have hB : Sat w0 (gB w.heap.size x * F) (w.alloc (gO x)) := h.alloc (gO x)
  have b0 := hB.cell 0 rfl
  have b1 := hB.cell 1 rfl
  have b7 := hB.cell 7 rfl
  have b8 := hB.cell 8 rfl
  have b18 := hB.cell 18 rfl
  have HB : Hid (∀ o, Sat w0 F (w.alloc o)) := Lib.hid fun o => h.alloc' o
  obtain ⟨v0, v1, v2, v3, v4, v5, v6, v7, v8, v9, v10, v11, v12, v13, v14, v15, v16, v17, v18⟩ := x
  have hx : 0 ≤ v18 := hx
  have HM : Hid (∀ b, (b = true ↔ (1 ≤ v0 ∧ v0 ≤ 6 ∧ v18 ≤ 1152921504606846976 ∧ (v18 = 0 ∨ v0 = 4) ∧ 0 ≤ v7 ∧ 0 ≤ v8 ∧ (v0 = 5 → v1 = true) ∧ (v0 = 1 ∨ v0 = 2 → v1 = false))) → Ending.returned (.bool b) = .returned (.bool (mayB ⟨v0, v1, v2, v3, v4, v5, v6, v7, v8, v9, v10, v11, v12, v13, v14, v15, v16, v17, v18⟩))) := Lib.hid fun b hb => by
    congr 2
    cases b with
    | true => exact (decide_eq_true (hb.1 rfl)).symm
    | false => exact (decide_eq_false fun e => by simpa using hb.2 e).symm
  generalize mayB ⟨v0, v1, v2, v3, v4, v5, v6, v7, v8, v9, v10, v11, v12, v13, v14, v15, v16, v17, v18⟩ = m at *
  clear h hB
  cases v1
  all_goals
    go_enter Tryz.func127, Tryz.ntmps127
    go_wp2
    all_goals go_ret
    all_goals exact ⟨HM.out _ (by simp at *; try omega), HB.out _⟩
end
end Go.Proofs.YtdbppfcilaajaaaGreat.Gt

namespace Go.Proofs.YtdbppfcilaajaaaGreat
open Go.RowKit
set_option linter.unusedVariables false

/-- The entries of a map, as what stands at a key. -/
def entAtV : List MapEntry → Int → Option Value
  | [], _ => none
  | e :: es, k => match e.key with
    | .int .i64 x => if x = k then some e.val else entAtV es k
    | _ => none
def EntsV (es : List MapEntry) : Prop := (∀ e ∈ es, ∃ (x : Int) (v : Value), e.key = .int .i64 x ∧ e.val = v) ∧ es.Pairwise fun a b => a.key ≠ b.key
/-- A map of the call's own (or nil): what stands at a key. -/
def mapIV (v : Value) (M : Int → Option Value) : Hp :=
  ⟨fun L => (v = .map none ∧ L = [] ∧ ∀ k, M k = none) ∨ ∃ b es clock, v = .map (some b) ∧ L = [(b, .map es clock)] ∧ EntsV es.toList ∧ ∀ k, M k = entAtV es.toList k,
   fun {L L'} h hx => by
    rcases hx with ⟨a, rfl, c⟩ | ⟨b, es, cl, a, rfl, r⟩
    · exact .inl ⟨a, List.nil_perm.1 h, c⟩
    · exact .inr ⟨b, es, cl, a, List.perm_singleton.1 h.symm, r⟩⟩
def putMV (M : Int → Option Value) (k : Int) (v : Value) : Int → Option Value := fun x => if k = x then some v else M x

theorem EntsV.tail {e : MapEntry} {es : List MapEntry} (h : EntsV (e :: es)) : EntsV es := ⟨fun x hx => h.1 x (List.mem_cons_of_mem _ hx), (List.pairwise_cons.1 h.2).2⟩
theorem entAt_consV {e : MapEntry} {es : List MapEntry} {x k : Int} {v : Value} (hk : e.key = .int .i64 x) (hv : e.val = v) : entAtV (e :: es) k = if x = k then some v else entAtV es k := by
  rw [entAtV, hk, hv]
section
variable {P : Program} {w : World} {kt : TypeId}
/-- Where a key stands. -/
theorem find_intV (hkt : P.underlying kt = some (.int .i64)) (k : Int) : ∀ (es : List MapEntry) (i : Nat), EntsV es →
    (Instr.findNow (.int .i64) (.int .i64 k) es i = some none ∧ entAtV es k = none ∧ ∀ e ∈ es, e.key ≠ .int .i64 k) ∨
    ∃ (j : Nat) (e : MapEntry) (v : Value), Instr.findNow (.int .i64) (.int .i64 k) es i = some (some (i + j, v)) ∧ es[j]? = some e ∧ e.key = .int .i64 k ∧ e.val = v ∧ entAtV es k = some v
  | [], i, _ => .inl ⟨rfl, rfl, fun e he => by cases he⟩
  | e :: es, i, h => by
    obtain ⟨x, v, hk, hv⟩ := h.1 e (by simp)
    by_cases hx : k = x
    · subst hx
      refine .inr ⟨0, e, v, ?_, rfl, hk, hv, by rw [entAt_consV hk hv, if_pos rfl]⟩
      simp [Instr.findNow, Instr.sameNow, hk, hv]
    · have hne : (k == x) = false := by simpa using hx
      have h1 : Instr.findNow (.int .i64) (.int .i64 k) (e :: es) i = Instr.findNow (.int .i64) (.int .i64 k) es (i + 1) := by
        simp [Instr.findNow, Instr.sameNow, hk, hne]
      rw [h1, entAt_consV hk hv, if_neg (fun e' => hx e'.symm)]
      rcases find_intV hkt k es (i + 1) h.tail with ⟨a, b, c⟩ | ⟨j, e', v', a, b, c, d, f⟩
      · refine .inl ⟨a, b, fun y hy => ?_⟩
        rcases List.mem_cons.1 hy with rfl | hy
        · rw [hk]
          intro e'
          cases e'
          exact hx rfl
        · exact c y hy
      · exact .inr ⟨j + 1, e', v', by rw [a]; congr 3; omega, by simpa using b, c, d, f⟩
theorem check_intV (hkt : P.underlying kt = some (.int .i64)) (em : Bool) (k : Int) : (Instr.checkKey em 10000 kt (.int .i64 k)).run P w = .ok () w := by
  exact MapKept.run_checkKey hkt (show MapKept.IsKey (.int .i64) (.int .i64 k) from rfl) em 9999
theorem findKey_intV (hkt : P.underlying kt = some (.int .i64)) (k : Int) (es : List MapEntry) {r : Option (Nat × Value)} (h : Instr.findNow (.int .i64) (.int .i64 k) es 0 = some r) : (Instr.findKey kt (.int .i64 k) es).run P w = .ok r w := by
  simp [Instr.findKey, run_underlying hkt, h]
end
section
variable {P : Program} {w0 w : World} {F : Hp} {mt kt et : TypeId} {M : Int → Option Value} {b : Nat} {vm : Value}
theorem Sat.mapEV (h : Sat w0 (mapIV (.map (some b)) M * F) w) : ∃ es clock, w.heap[b]? = some (.map es clock) ∧ EntsV es.toList ∧ (∀ k, M k = entAtV es.toList k) ∧ Sat w0 (pt b (.map es clock) * F) w := by
  obtain ⟨hb, L, ⟨L1, L2, p, a, c⟩, r⟩ := h
  rcases a with ⟨e, _⟩ | ⟨b', es, cl, e, rfl, h1, h2⟩
  · cases e
  · cases e
    have hS : Sat w0 (pt b (.map es cl) * F) w := ⟨hb, L, ⟨_, L2, p, rfl, c⟩, r⟩
    exact ⟨es, cl, hS.blk.1, h1, h2, hS⟩
theorem Sat.mapFormV (h : Sat w0 (mapIV vm M * F) w) : (vm = .map none ∧ ∀ k, M k = none) ∨ ∃ b, vm = .map (some b) := by
  obtain ⟨hb, L, ⟨L1, L2, p, a, c⟩, r⟩ := h
  rcases a with ⟨e, _, h1⟩ | ⟨b', es, cl, e, _⟩
  · exact .inl ⟨e, h1⟩
  · exact .inr ⟨b', e⟩
theorem Sat.mapI_V {es : Array MapEntry} {clock : Nat} (h : Sat w0 (pt b (.map es clock) * F) w) (he : EntsV es.toList) (hM : ∀ k, M k = entAtV es.toList k) : Sat w0 (mapIV (.map (some b)) M * F) w :=
  h.impL fun L a => by
    have a : L = [(b, .map es clock)] := a
    exact .inr ⟨b, es, clock, rfl, a, he, hM⟩
theorem Sat.mapNewV (h : Sat w0 F w) : Sat w0 (mapIV (.map (some w.heap.size)) (fun _ => none) * F) (w.alloc (.map #[] 0)) :=
  (h.alloc (.map #[] 0)).mapI_V ⟨fun e he => by simp at he, by simp⟩ fun k => rfl
theorem run_lookV (hm : P.underlying mt = some (.map kt et)) (hkt : P.underlying kt = some (.int .i64)) {z : Value} (hz : (zeroValue et).run P w = .ok z w) (h : Sat w0 (mapIV vm M * F) w) (k : Int) :
    (Instr.lookup mt vm (.int .i64 k) false).run P w = .ok ((M k).getD z) w := by
  rcases h.mapFormV with ⟨rfl, hn⟩ | ⟨b, rfl⟩
  · rw [hn k]
    have hf : (Instr.findKey kt (.int .i64 k) []).run P w = .ok none w := findKey_intV hkt k [] rfl
    simp [Instr.lookup, run_underlying hm, check_intV hkt, hf, hz, Result.andThen]
  · obtain ⟨es, cl, hb, he, hM, hS⟩ := h.mapEV
    rw [hM k]
    rcases find_intV hkt k es.toList 0 he with ⟨a, b', c⟩ | ⟨j, e', v', a, b', c, d, f⟩
    · rw [b']
      simp [Instr.lookup, run_underlying hm, MapKept.run_getObj_map hb, check_intV hkt, findKey_intV hkt k es.toList a, hz, Result.andThen]
    · rw [f]
      simp [Instr.lookup, run_underlying hm, MapKept.run_getObj_map hb, check_intV hkt, findKey_intV hkt k es.toList a, Result.andThen]
theorem entAt_pushV {x : Int} {v : Value} {e : MapEntry} (hk : e.key = .int .i64 x) (hv : e.val = v) : ∀ {es : List MapEntry}, EntsV es → (∀ e' ∈ es, e'.key ≠ .int .i64 x) → ∀ k, entAtV (es ++ [e]) k = if x = k then some v else entAtV es k
  | [], _, _, k => by rw [List.nil_append, entAt_consV hk hv]
  | e0 :: es, h, hn, k => by
    obtain ⟨y, u, hk0, hv0⟩ := h.1 e0 (by simp)
    have hne : x ≠ y := fun e' => hn e0 (by simp) (by rw [hk0, e'])
    rw [List.cons_append, entAt_consV hk0 hv0, entAt_consV hk0 hv0, entAt_pushV hk hv h.tail (fun e' he' => hn e' (by simp [he'])) k]
    by_cases h1 : y = k
    · rw [if_pos h1, if_pos h1, if_neg (fun h2 => hne (h2.trans h1.symm))]
    · rw [if_neg h1, if_neg h1]
theorem EntsV.push {x : Int} {v : Value} {e : MapEntry} (hk : e.key = .int .i64 x) (hv : e.val = v) {es : List MapEntry} (h : EntsV es) (hn : ∀ e' ∈ es, e'.key ≠ .int .i64 x) : EntsV (es ++ [e]) := by
  refine ⟨fun e' he' => ?_, List.pairwise_append.2 ⟨h.2, by simp, fun a ha c hc => ?_⟩⟩
  · rcases List.mem_append.1 he' with he' | he'
    · exact h.1 e' he'
    · rw [List.mem_singleton.1 he']
      exact ⟨x, v, hk, hv⟩
  · rw [List.mem_singleton.1 hc, hk]
    exact hn a ha
theorem entAt_setV {x : Int} {v u : Value} {e e' : MapEntry} (hk : e.key = .int .i64 x) (hv : e.val = v) (hk' : e'.key = .int .i64 x) (hv' : e'.val = u) : ∀ {es : List MapEntry} {j : Nat}, EntsV es → es[j]? = some e →
    (∀ k, entAtV (es.set j e') k = if x = k then some u else entAtV es k) ∧ EntsV (es.set j e')
  | [], j, _, hj => by simp at hj
  | e0 :: es, 0, h, hj => by
    obtain rfl : e0 = e := by simpa using hj
    refine ⟨fun k => ?_, ⟨fun y hy => ?_, ?_⟩⟩
    · rw [List.set_cons_zero, entAt_consV hk' hv', entAt_consV hk hv]
      split <;> rfl
    · rcases List.mem_cons.1 hy with rfl | hy
      · exact ⟨x, u, hk', hv'⟩
      · exact h.1 y (by simp [hy])
    · have := List.pairwise_cons.1 h.2
      exact List.pairwise_cons.2 ⟨fun a ha => by rw [hk', ← hk]; exact this.1 a ha, this.2⟩
  | e0 :: es, j + 1, h, hj => by
    have hj' : es[j]? = some e := by simpa using hj
    obtain ⟨h1, h2⟩ := entAt_setV hk hv hk' hv' h.tail hj'
    obtain ⟨y, z, hk0, hv0⟩ := h.1 e0 (by simp)
    have hp := List.pairwise_cons.1 h.2
    have hne : y ≠ x := fun e2 => hp.1 e (List.mem_of_getElem? hj') (by rw [hk0, hk, e2])
    refine ⟨fun k => ?_, ⟨fun a ha => ?_, ?_⟩⟩
    · rw [List.set_cons_succ, entAt_consV hk0 hv0, entAt_consV hk0 hv0, h1 k]
      by_cases h3 : y = k
      · rw [if_pos h3, if_pos h3, if_neg (fun h4 => hne (h3.trans h4.symm))]
      · rw [if_neg h3, if_neg h3]
    · rcases List.mem_cons.1 ha with rfl | ha
      · exact ⟨y, z, hk0, hv0⟩
      · exact h2.1 a ha
    · refine List.pairwise_cons.2 ⟨fun a ha => ?_, h2.2⟩
      rcases List.mem_or_eq_of_mem_set ha with ha | rfl
      · exact hp.1 a ha
      · rw [hk', hk0]
        intro e2
        cases e2
        exact hne rfl
theorem Sat.setMapV {es es' : Array MapEntry} {c c' : Nat} (h : Sat w0 (pt b (.map es c) * F) w) : Sat w0 (pt b (.map es' c') * F) { w with heap := w.heap.setIfInBounds b (.map es' c') } := by
  refine h.upd rfl rfl rfl (by simp) ?_ (fun k _ hne => ?_)
  · simp [h.lt]
  · simp [Ne.symm hne]
/-- m[k] = v -/
theorem run_updV (hm : P.underlying mt = some (.map kt et)) (hkt : P.underlying kt = some (.int .i64)) (h : Sat w0 (mapIV (.map (some b)) M * F) w) (k : Int) (v : Value) :
    ∃ w', (Instr.mapUpdate mt (.map (some b)) (.int .i64 k) v).run P w = .ok () w' ∧ Sat w0 (mapIV (.map (some b)) (putMV M k v) * F) w' := by
  obtain ⟨es, cl, hb, he, hM, hS⟩ := h.mapEV
  rcases find_intV hkt k es.toList 0 he with ⟨a, b', c⟩ | ⟨j, e', v', a, b', c, d, f⟩
  · refine ⟨{ w with heap := w.heap.setIfInBounds b (.map (es.push ⟨.int .i64 k, v, cl⟩) (cl + 1)) }, ?_, (hS.setMapV).mapI_V ?_ ?_⟩
    · simp [Instr.mapUpdate, run_underlying hm, MapKept.run_getObj_map hb, check_intV hkt, findKey_intV hkt k es.toList a, MapKept.run_setObj_map _ hb, Result.andThen]
    · rw [Array.toList_push]
      exact he.push rfl rfl c
    · intro x
      rw [Array.toList_push, entAt_pushV rfl rfl he c x, putMV, hM x]
  · have hj : es[j]? = some e' := by simpa using b'
    have hst := entAt_setV (e' := { e' with key := .int .i64 k, val := v }) c d rfl rfl he b'
    refine ⟨{ w with heap := w.heap.setIfInBounds b (.map (es.modify j fun e => { e with key := .int .i64 k, val := v }) cl) }, ?_, (hS.setMapV).mapI_V ?_ ?_⟩
    · simp [Instr.mapUpdate, run_underlying hm, MapKept.run_getObj_map hb, check_intV hkt, findKey_intV hkt k es.toList a, hj, c, Instr.keyThatStays, Instr.sameBits, MapKept.run_setObj_map _ hb, Result.andThen]
    · rw [Array.toList_modify, ChangeMaps.modify_eq_set _ _ _ _ b']
      exact hst.2
    · intro x
      rw [Array.toList_modify, ChangeMaps.modify_eq_set _ _ _ _ b', hst.1 x, putMV, hM x]
end
section
variable {P : Program} {ops : Array Oper} {rest : List Oper} {o : Oper} {a : Act} {Q : Exit → Act → World → Prop} {w0 w : World} {F : Hp} {mt kt et : TypeId} {M : Int → Option Value} {b : Nat}
theorem wpList_insV (hm : P.underlying mt = some (.map kt et)) (hkt : P.underlying kt = some (.int .i64)) (hg : o.guard = none) (m x v : Operand) (hop : o.op = .insert mt m x v) (hme : a.eval m = .map (some b)) (k : Int) (u : Value) (hx : a.eval x = .int .i64 k) (hv : a.eval v = u)
    (h : Sat w0 (mapIV (.map (some b)) M * F) w) (hK : ∀ w', Sat w0 (mapIV (.map (some b)) (putMV M k u) * F) w' → wpList P ops Q rest (a.put o.dst undef) w') : wpList P ops Q (o :: rest) a w := by
  refine wpList_plain hg fun K' hK' => ?_
  obtain ⟨w', hrun, r1⟩ := run_updV hm hkt h k u
  unfold Oper.wp
  simp [execOp, hop, hme, hx, hv, hrun, Result.andThen]
  exact hK' _ _ (hK w' r1)
end
end Go.Proofs.YtdbppfcilaajaaaGreat

namespace Go.Proofs.YtdbppfcilaajaaaGreat.Gt
open Go.RowKit Ag
set_option linter.unusedVariables false

def RdS (w : World) (v : Value) (xs : List Int) : Prop := Rd w 1 v xs.length (xs.map vi)
theorem RdS.len {w : World} {v : Value} {xs : List Int} (h : RdS w v xs) : ∃ ao cap, v = .slice ao xs.length cap := Rd.len h
theorem RdS.at_ {w : World} {ao : Option Addr} {cap n : Nat} {xs : List Int} (h : RdS w (.slice ao n cap) xs) (hn : xs.length ≠ 0) : ∃ b off, ao = some ⟨b, off, none⟩ ∧ ∀ k, k < xs.length → w.cell? ⟨b, off + k, none⟩ = some (vi (xs[k]?.getD 0)) := by
  obtain ⟨b, off, c, e, hc⟩ := Rd.pos h hn
  cases e
  exact ⟨b, off, rfl, fun k hk => hc k _ (by simp [hk])⟩
def findS (xs : List Int) (x : Int) : Int := if x ∈ xs then (xs.idxOf x : Int) else -1
theorem findS_hit {xs : List Int} {x : Int} {k : Nat} (hk : k < xs.length) (hno : ∀ j, j < k → xs[j]?.getD 0 ≠ x) (hx : xs[k]?.getD 0 = x) : findS xs x = k := by
  have hx' : xs[k] = x := by simpa [hk] using hx
  unfold findS
  rw [if_pos (hx' ▸ List.getElem_mem hk)]
  congr 1
  have h1 : xs.idxOf x ≤ k := by
    rcases Nat.lt_or_ge k (xs.idxOf x) with h | h
    · exact absurd hx' (by simpa using List.not_of_lt_findIdx (p := (· == x)) h)
    · exact h
  rcases Nat.lt_or_ge (xs.idxOf x) k with h | h
  · exfalso
    have hl : xs.idxOf x < xs.length := by omega
    refine hno _ h ?_
    rw [List.getElem?_eq_getElem hl]
    simp
  · omega
theorem findS_miss {xs : List Int} {x : Int} (hno : ∀ j, j < xs.length → xs[j]?.getD 0 ≠ x) : findS xs x = -1 := by
  unfold findS
  rw [if_neg]
  intro hm
  obtain ⟨j, hj, rfl⟩ := List.getElem_of_mem hm
  exact hno j hj (by simp [hj])
theorem findS_ge (xs : List Int) (x : Int) : decide (0 ≤ findS xs x) = decide (x ∈ xs) := by
  unfold findS
  by_cases h : x ∈ xs
  · simp [h]
  · simp [h]
theorem index_s (x : Int) (xs : List Int) (v : Value) (w : World) (h : RdS w v xs) (hl : xs.length ≤ 1000000) :
    Calls Tryz.prog 201 #[v, vi x] w fun e w' => e = .returned (vi (findS xs x)) ∧ w = w' := by
  obtain ⟨ao, cap, rfl⟩ := h.len
  go_enter Tryz.func201, Tryz.ntmps201
  go_wp2
  go_loop [8] (fun i => ∃ k : Nat, k ≤ xs.length ∧ i = vi k ∧ Hid (∀ j, j < k → xs[j]?.getD 0 ≠ x)) (fun i => xs.length - (intOf i).toNat)
  case atStart => exact ⟨0, Nat.zero_le _, rfl, Lib.hid (fun j hj => by omega)⟩
  case round =>
    obtain ⟨k, hk, rfl, hno⟩ := hrel
    by_cases hlt : k < xs.length
    · obtain ⟨b, off, rfl, hc⟩ := h.at_ (by omega)
      have hck := hc k hlt
      clear hc
      generalize hy : xs[k]?.getD 0 = y at *
      have hy' := Lib.hid hy
      clear hy
      by_cases hxy : x = y
      · subst hxy
        go_wp2
        go_ret
        exact ⟨by rw [findS_hit hlt hno.out hy'.out]; rfl, rfl⟩
      · have hne : (x == y) = false := by simpa using hxy
        go_wp2
        go_round
        case rel => exact ⟨k + 1, by omega, by go_num, Lib.hid (fun j hj => by
          rcases Nat.lt_or_ge j k with h1 | h1
          · exact hno.out j h1
          · obtain rfl : j = k := by omega
            rw [hy'.out]; exact fun e => hxy e.symm)⟩
        case measure => simp [intOf]; omega
    · obtain rfl : k = xs.length := by omega
      go_wp2
      go_ret
      exact ⟨by rw [findS_miss hno.out]; rfl, rfl⟩
theorem contains_s (x : Int) (xs : List Int) (v : Value) (w : World) (h : RdS w v xs) (hl : xs.length ≤ 1000000) :
    Calls Tryz.prog 148 #[v, vi x] w fun e w' => e = .returned (.bool (decide (x ∈ xs))) ∧ w = w' := by
  have hg := Lib.hid (findS_ge xs x)
  have hc := Lib.hid (index_s x xs v w h hl)
  generalize findS xs x = f at *
  go_enter Tryz.func148, Tryz.ntmps148
  go_wp2_with (go_at_call 201; refine hc.out.mono ?_; rintro e w' ⟨rfl, rfl⟩)
  go_ret
  exact ⟨by rw [← hg.out]; rfl, rfl⟩
/-- Those to which one may turn. -/
def trn (s : Int) : List Int := if s = 1 then [2, 5, 6] else if s = 2 then [1, 3, 4, 5, 6] else if s = 5 then [1] else if s = 3 ∨ s = 4 ∨ s = 6 then [1, 5] else []
section
variable {w0 w : World} {F : Hp}
theorem rdPc1 {b : Nat} {T : TypeId} {cs : List Value} {n : Nat} (h : Sat w0 (pc b T cs * F) w) (hn : cs.length = n) : Rd w 1 (.slice (some ⟨b, 0, none⟩) n n) n cs :=
  ⟨by omega, .inr ⟨_, _, _, rfl, fun j u hj => by rw [Nat.zero_add]; exact h.cell j hj⟩⟩
set_option maxRecDepth 100000 in
set_option maxHeartbeats 4000000 in
theorem turns_ (h : Sat w0 F w) : Calls Tryz.prog 149 #[] w fun e w' => ∃ b M, e = .returned (.map (some b)) ∧ (∃ G, Sat w0 (mapIV (.map (some b)) M * (G * F)) w') ∧ ∀ s, ∃ v, (M s).getD (.slice none 0 0) = v ∧ RdS w' v (trn s) := by
  have h1 := (h.mapNewV).alloc (.cells #[vi 2, vi 5, vi 6] 68)
  rw [size1] at h1
  have H1 := Lib.hid (show Sat w0 (pc (w.heap.size + 1) 68 [vi 2, vi 5, vi 6] * (mapIV (.map (some w.heap.size)) (fun _ => none) * F)) _ from h1)
  clear h1 h
  have hm : ∀ w : World, (Instr.makeMap 273 none).run Tryz.prog w = .ok (.map (some w.heap.size)) (w.alloc (.map #[] 0)) := fun w => rfl
  go_enter Tryz.func149, Tryz.ntmps149
  go_wp2_with (first
    | (refine wpList_insV Tryz.underlying273 Tryz.underlying68 rfl _ _ _ rfl (by rfl) 1 (.slice (some ⟨w.heap.size + 1, 0, none⟩) 3 3) (by rfl) (by rfl) H1.out.pull2 ?_; intro w2 hS2; have H2 := Lib.hid (hS2.alloc (.cells #[vi 1, vi 3, vi 4, vi 5, vi 6] 68)); clear hS2)
    | (refine wpList_insV Tryz.underlying273 Tryz.underlying68 rfl _ _ _ rfl (by rfl) 2 (.slice (some ⟨w2.heap.size, 0, none⟩) 5 5) (by rfl) (by rfl) H2.out.pull2 ?_; intro w3 hS3; have H3 := Lib.hid (hS3.alloc (.cells #[vi 1, vi 5] 68)); clear hS3)
    | (refine wpList_insV Tryz.underlying273 Tryz.underlying68 rfl _ _ _ rfl (by rfl) 3 (.slice (some ⟨w3.heap.size, 0, none⟩) 2 2) (by rfl) (by rfl) H3.out.pull2 ?_; intro w4 hS4; have H4 := Lib.hid (hS4.alloc (.cells #[vi 1, vi 5] 68)); clear hS4)
    | (refine wpList_insV Tryz.underlying273 Tryz.underlying68 rfl _ _ _ rfl (by rfl) 4 (.slice (some ⟨w4.heap.size, 0, none⟩) 2 2) (by rfl) (by rfl) H4.out.pull2 ?_; intro w5 hS5; have H5 := Lib.hid (hS5.alloc (.cells #[vi 1] 68)); clear hS5)
    | (refine wpList_insV Tryz.underlying273 Tryz.underlying68 rfl _ _ _ rfl (by rfl) 5 (.slice (some ⟨w5.heap.size, 0, none⟩) 1 1) (by rfl) (by rfl) H5.out.pull2 ?_; intro w6 hS6; have H6 := Lib.hid (hS6.alloc (.cells #[vi 1, vi 5] 68)); clear hS6)
    | (refine wpList_insV Tryz.underlying273 Tryz.underlying68 rfl _ _ _ rfl (by rfl) 6 (.slice (some ⟨w6.heap.size, 0, none⟩) 2 2) (by rfl) (by rfl) H6.out.pull2 ?_; intro w7 hS7; have H7 := Lib.hid hS7; clear hS7))
  go_ret
  have h7 : Sat w0 (mapIV (.map (some w.heap.size)) (putMV (putMV (putMV (putMV (putMV (putMV (fun _ => none) 1 (.slice (some ⟨w.heap.size + 1, 0, none⟩) 3 3)) 2 (.slice (some ⟨w2.heap.size, 0, none⟩) 5 5)) 3 (.slice (some ⟨w3.heap.size, 0, none⟩) 2 2)) 4 (.slice (some ⟨w4.heap.size, 0, none⟩) 2 2)) 5 (.slice (some ⟨w5.heap.size, 0, none⟩) 1 1)) 6 (.slice (some ⟨w6.heap.size, 0, none⟩) 2 2)) * (pc w6.heap.size 68 [vi 1, vi 5] * (pc w5.heap.size 68 [vi 1] * (pc w4.heap.size 68 [vi 1, vi 5] * (pc w3.heap.size 68 [vi 1, vi 5] * (pc w2.heap.size 68 [vi 1, vi 3, vi 4, vi 5, vi 6] * (pc (w.heap.size + 1) 68 [vi 2, vi 5, vi 6] * F))))))) w7 := H7.out
  have r6 := rdPc1 h7.dropL rfl
  have r5 := rdPc1 h7.dropL.dropL rfl
  have r4 := rdPc1 h7.dropL.dropL.dropL rfl
  have r3 := rdPc1 h7.dropL.dropL.dropL.dropL rfl
  have r2 := rdPc1 h7.dropL.dropL.dropL.dropL.dropL rfl
  have r1 := rdPc1 h7.dropL.dropL.dropL.dropL.dropL.dropL rfl
  refine ⟨w.heap.size, _, rfl, ⟨_, h7.cast (show _ = _ * ((pc w6.heap.size 68 [vi 1, vi 5] * (pc w5.heap.size 68 [vi 1] * (pc w4.heap.size 68 [vi 1, vi 5] * (pc w3.heap.size 68 [vi 1, vi 5] * (pc w2.heap.size 68 [vi 1, vi 3, vi 4, vi 5, vi 6] * (pc (w.heap.size + 1) 68 [vi 2, vi 5, vi 6])))))) * F) by ac_rfl)⟩, fun s => ⟨_, rfl, ?_⟩⟩
  unfold putMV trn
  by_cases e6 : s = 6
  · subst e6; exact r6
  by_cases e5 : s = 5
  · subst e5; exact r5
  by_cases e4 : s = 4
  · subst e4; exact r4
  by_cases e3 : s = 3
  · subst e3; exact r3
  by_cases e2 : s = 2
  · subst e2; exact r2
  by_cases e1 : s = 1
  · subst e1; exact r1
  rw [if_neg (fun e => e6 e.symm), if_neg (fun e => e5 e.symm), if_neg (fun e => e4 e.symm), if_neg (fun e => e3 e.symm), if_neg (fun e => e2 e.symm), if_neg (fun e => e1 e.symm), if_neg e1, if_neg e2, if_neg e5, if_neg (by omega)]
  exact Rd.nil _ _
/-- May one turn so? -/
def turnB (a b : Int) : Bool := decide (b ∈ trn a)
set_option maxRecDepth 100000 in
theorem g_turns (h : Sat w0 F w) (a b : Int) : Calls Tryz.prog 82 #[vi a, vi b] w fun e w' => e = .returned (.bool (turnB a b)) ∧ Sat w0 F w' := by
  have HT := Lib.hid (turns_ h)
  have hlen : (trn a).length ≤ 1000000 := by unfold trn; (repeat' split) <;> simp
  have HL := Lib.hid hlen
  clear h hlen
  have hq : turnB a b = decide (b ∈ trn a) := rfl
  rw [hq]
  go_enter Tryz.func82, Tryz.ntmps82
  go_wp2_with (first
    | (go_at_call 149; refine HT.out.mono ?_; rintro e w1 ⟨m, M, rfl, ⟨G, hS⟩, hM⟩; obtain ⟨v, hv, hr⟩ := hM a; have hlk := run_lookV (P := Tryz.prog) Tryz.underlying273 Tryz.underlying68 (z := .slice none 0 0) (et := 272) (by kernel_rfl) hS a; rw [hv] at hlk; have HC := Lib.hid (contains_s b _ v w1 hr HL.out); have HS := Lib.hid (hS.dropL.dropL); clear hS hM hv hr)
    | (go_at_call 148; refine HC.out.mono ?_; rintro e w' ⟨rfl, rfl⟩))
  go_ret
  exact ⟨rfl, HS.out⟩
end
end Go.Proofs.YtdbppfcilaajaaaGreat.Gt

namespace Go.Proofs.YtdbppfcilaajaaaGreat.Ag
open Go.RowKit
set_option linter.unusedVariables false

theorem isAt_some {ps : List Pl} {i g : Int} {k : Nat} {a : Pl} (h : isAt ps i g = some (k, a)) : ps[k]? = some a ∧ i = k ∧ a.there = true ∧ a.gen = g := by
  unfold isAt at h
  split at h
  · cases h
  · split at h
    · cases h
    · rename_i h0 _ b hb
      split at h
      · rename_i hc
        simp only [Option.some.injEq, Prod.mk.injEq] at h
        obtain ⟨rfl, rfl⟩ := h
        simp only [Bool.and_eq_true, beq_iff_eq] at hc
        exact ⟨hb, by omega, hc.1, hc.2⟩
      · cases h

section
variable {ps : List Pl} {free : List Nat} {k : Nat} {a : Pl}
theorem get_set (hk : ps[k]? = some a) (a' : Pl) (j : Nat) (b : Pl) (h : (ps.set k a')[j]? = some b) : (j = k ∧ b = a') ∨ (j ≠ k ∧ ps[j]? = some b) := by
  rw [List.getElem?_set] at h
  by_cases hj : k = j
  · rw [if_pos hj] at h
    split at h
    · exact .inl ⟨hj.symm, by simpa using h.symm⟩
    · cases h
  · rw [if_neg hj] at h
    exact .inr ⟨fun e => hj e.symm, h⟩
theorem get_set_self (hk : ps[k]? = some a) (a' : Pl) : (ps.set k a')[k]? = some a' := by
  simp [(List.getElem?_eq_some_iff.1 hk).1]
theorem cnt_set (q : Pl → Bool) (hk : ps[k]? = some a) (a' : Pl) : (ps.set k a').countP q + (if q a then 1 else 0) = ps.countP q + if q a' then 1 else 0 := by
  obtain ⟨hl, hg⟩ := List.getElem?_eq_some_iff.1 hk
  rw [List.countP_set hl, hg]
  have : q a = true → 0 < ps.countP q := fun h => List.countP_pos_iff.2 ⟨a, hg ▸ List.getElem_mem hl, h⟩
  split
  · have := this (by assumption)
    omega
  · omega
theorem TblOk.setX (h : TblOk ps free) (hk : ps[k]? = some a) (x : El) : TblOk (ps.set k { a with x := x }) free := by
  refine ⟨by simpa using h.pos, by simpa using h.small, ?_, ?_, ?_, h.nodup, ?_⟩
  · intro j b hb
    rcases get_set hk _ j b hb with ⟨rfl, rfl⟩ | ⟨_, hb⟩
    · have h5 := h.gens _ _ hk; exact h5
    · exact h.gens _ _ hb
  · intro j b hb
    rcases get_set hk _ j b hb with ⟨rfl, rfl⟩ | ⟨_, hb⟩
    · have h5 := h.excl _ _ hk; exact h5
    · exact h.excl _ _ hb
  · intro j
    rw [h.mem]
    constructor
    · rintro ⟨b, hb, h1, h2⟩
      by_cases hj : j = k
      · subst hj
        rw [hk] at hb
        cases hb
        exact ⟨_, get_set_self hk _, h1, h2⟩
      · exact ⟨b, by rw [List.getElem?_set, if_neg (fun e => hj e.symm)]; exact hb, h1, h2⟩
    · rintro ⟨b, hb, h1, h2⟩
      rcases get_set hk _ j b hb with ⟨rfl, rfl⟩ | ⟨_, hb⟩
      · exact ⟨_, hk, h1, h2⟩
      · exact ⟨_, hb, h1, h2⟩
  · have := cnt_set Pl.busy hk { a with x := x }
    have hc := h.cnt
    rw [show Pl.busy { a with x := x } = Pl.busy a from rfl] at this
    rw [List.length_set]
    omega
/-- Something comes. -/
theorem TblOk.come (h : TblOk ps (free ++ [k])) (hk : ps[k]? = some a) (x : El) : TblOk (ps.set k { a with there := true, x := x }) free := by
  have hnd := List.nodup_append.1 h.nodup
  obtain ⟨b, hb, hth, hre⟩ := (h.mem k).1 (by simp)
  rw [hk] at hb
  cases hb
  refine ⟨by simpa using h.pos, by simpa using h.small, ?_, ?_, ?_, hnd.1, ?_⟩
  · intro j b hb
    rcases get_set hk _ j b hb with ⟨rfl, rfl⟩ | ⟨_, hb⟩
    · have h5 := h.gens _ _ hk; exact h5
    · exact h.gens _ _ hb
  · intro j b hb
    rcases get_set hk _ j b hb with ⟨rfl, rfl⟩ | ⟨_, hb⟩
    · exact fun _ => hre
    · exact h.excl _ _ hb
  · intro j
    by_cases hj : j = k
    · subst hj
      constructor
      · intro hm
        exact absurd rfl (hnd.2.2 j hm j (by simp))
      · rintro ⟨b, hb, h1, h2⟩
        rw [get_set_self hk] at hb
        cases hb
        cases h1
    · have := h.mem j
      rw [List.getElem?_set, if_neg (fun e => hj e.symm), ← this]
      simp [hj]
  · have := cnt_set Pl.busy hk { a with there := true, x := x }
    have hc := h.cnt
    simp only [Pl.busy, hth, hre, Bool.or_self, List.length_append, List.length_cons, List.length_nil, Bool.false_eq_true, if_false, Bool.true_or, if_true] at this hc ⊢
    rw [List.length_set]
    omega
/-- Something goes, for others to come there. -/
theorem TblOk.go (h : TblOk ps free) (hk : ps[k]? = some a) (ht : a.there = true) (hg : a.gen ≠ 18446744073709551614) : TblOk (ps.set k { a with gen := a.gen + 1, there := false, x := ez }) (free ++ [k]) := by
  have hre := h.excl _ _ hk ht
  refine ⟨by simpa using h.pos, by simpa using h.small, ?_, ?_, ?_, ?_, ?_⟩
  · intro j b hb
    rcases get_set hk _ j b hb with ⟨rfl, rfl⟩ | ⟨_, hb⟩
    · have := h.gens _ _ hk
      exact ⟨by show 1 ≤ a.gen + 1; omega, by show a.gen + 1 ≤ _; omega⟩
    · exact h.gens _ _ hb
  · intro j b hb
    rcases get_set hk _ j b hb with ⟨rfl, rfl⟩ | ⟨_, hb⟩
    · exact fun _ => hre
    · exact h.excl _ _ hb
  · intro j
    by_cases hj : j = k
    · subst hj
      exact ⟨fun _ => ⟨_, get_set_self hk _, rfl, hre⟩, fun _ => by simp⟩
    · have := h.mem j
      rw [List.getElem?_set, if_neg (fun e => hj e.symm), ← this]
      simp [hj]
  · refine List.nodup_append.2 ⟨h.nodup, by simp, ?_⟩
    rintro j hj j' hj' rfl
    simp only [List.mem_singleton] at hj'
    subst hj'
    obtain ⟨b, hb, h1, _⟩ := (h.mem j).1 hj
    rw [hk] at hb
    cases hb
    rw [ht] at h1
    cases h1
  · have := cnt_set Pl.busy hk { a with gen := a.gen + 1, there := false, x := ez }
    have hc := h.cnt
    simp only [Pl.busy, ht, hre, Bool.or_self, List.length_append, List.length_cons, List.length_nil, Bool.false_eq_true, if_false, Bool.true_or, if_true] at this hc ⊢
    rw [List.length_set]
    omega
theorem TblOk.fresh (n : Nat) (h1 : 1 ≤ n) (h2 : n ≤ 4096) (g : Int) (hg : 1 ≤ g) (hg' : g ≤ 18446744073709551614) : TblOk (List.replicate n ⟨g, false, false, ez⟩) ((List.range n).map fun i => n - 1 - i) := by
  refine ⟨by simp; omega, by simpa using h2, ?_, ?_, ?_, ?_, ?_⟩
  · intro k a h
    simp only [List.getElem?_replicate] at h
    split at h
    · cases h; exact ⟨hg, hg'⟩
    · cases h
  · intro k a h
    simp only [List.getElem?_replicate] at h
    split at h
    · cases h; exact fun e => by cases e
    · cases h
  · intro k
    simp only [List.mem_map, List.mem_range, List.getElem?_replicate]
    constructor
    · rintro ⟨i, hi, rfl⟩
      exact ⟨_, by rw [if_pos (by omega)], rfl, rfl⟩
    · rintro ⟨a, ha, _⟩
      split at ha
      · exact ⟨n - 1 - k, by omega, by omega⟩
      · cases ha
  · rw [List.nodup_iff_pairwise_ne, List.pairwise_map]
    refine List.Pairwise.imp_of_mem ?_ List.pairwise_lt_range
    intro i j hi hj hij
    simp only [List.mem_range] at hi hj
    omega
  · simp [List.countP_replicate, Pl.busy]
end

section
variable {w0 w : World} {p : Nat} {s : TblS} {ps : List Pl} {free : List Nat} {F : Hp}
theorem find_no (h : TblIs w0 p s ps free F w) {i g : Int} (hA : isAt ps i g = none) :
    Calls Tryz.prog 150 #[vp p, vr i g] w fun e w' => e = .returned (.tuple #[.pointer none, vi 11]) ∧ TblIs w0 p s ps free F w' :=
  (find_ h i g).mono fun e w' ⟨h1, h2⟩ => by
    rw [hA] at h2
    exact ⟨h2, h1⟩
theorem find_yes (h : TblIs w0 p s ps free F w) {i g : Int} {k : Nat} {a : Pl} (hA : isAt ps i g = some (k, a)) :
    Calls Tryz.prog 150 #[vp p, vr i g] w fun e w' => e = .returned (.tuple #[.pointer (some ⟨s.a, k * 22, none⟩), vi 0]) ∧ TblIs w0 p s ps free F w' :=
  (find_ h i g).mono fun e w' ⟨h1, h2⟩ => by
    rw [hA] at h2
    exact ⟨h2, h1⟩

def getX (ps : List Pl) (i g : Int) : El := match isAt ps i g with | none => ez | some (_, a) => a.x
def getE (ps : List Pl) (i g : Int) : Int := match isAt ps i g with | none => 11 | some _ => 0

theorem TblIs.alloc (h : TblIs w0 p s ps free F w) (o : Obj) : TblIs w0 p s ps free F (w.alloc o) := ⟨h.ok, h.sat.alloc' o⟩

set_option maxRecDepth 100000 in
set_option maxHeartbeats 8000000 in
theorem get_at (h : TblIs w0 p s ps free F w) (i g : Int) :
    Calls Tryz.prog 147 #[vp p, vr i g] w fun e w' => e = .returned (.tuple #[ev (getX ps i g), vi (getE ps i g)]) ∧ TblIs w0 p s ps free F w' := by
  have hI : TblIs w0 p s ps free (elB (w.heap.size + 1) ez * F) ((w.alloc (.cells #[vi i, vu g] 30)).alloc (elO ez)) := ⟨h.ok, by
    have hh := (h.sat.alloc' (.cells #[vi i, vu g] 30)).alloc (elO ez)
    rw [size1] at hh
    exact (show Sat w0 (elB (w.heap.size + 1) ez * (tblB p s ps.length free.length * (tblL s ps * (tblF s free * F)))) _ from hh).cast (by ac_rfl)⟩
  unfold getX getE
  cases hA : isAt ps i g with
  | none =>
    have H := Lib.hid (find_no hI hA)
    have hA' := Lib.hid hA
    clear h hI hA
    go_enter Tryz.func147, Tryz.ntmps147
    go_wp2_with (first
      | (go_at_call 150; refine H.out.mono ?_; rintro e w1 ⟨rfl, hT0⟩; have hT := hT0.alloc (elO ez); have HX := Lib.hid hT.sat.pull4; have HTh := Lib.hid (there_ (n := 19) hT.sat.pull4 rfl); have HOK := Lib.hid hT.ok; have HLd := Lib.hid (range_ (hT0.sat.alloc (elO ez))); clear hT hT0)
      | (refine wpList_load_mid rfl 134 _ rfl w1.heap.size 0 (by rfl) (elC ez) _ HLd.out Tryz.underlying134 rfl einfo ?_)
      | (refine wpList_store_mid rfl 134 _ _ rfl (w.heap.size + 1) 0 (elC ez).toArray (by rfl) (by rfl) HTh.out einfo (all_oneCell_toArray (elOne ez)) ?_; have HS := Lib.hid (HX.out.stores (elC ez) 0); have HR := Lib.hid (World.rangeAt_setCells_same _ (w.heap.size + 1) 0 (elC ez) HTh.out); generalize hw2 : World.setCells _ _ _ _ = w2; have HS : Hid (Sat w0 _ w2) := hw2 ▸ HS; have HR : Hid (World.rangeAt w2 _ _ _) := hw2 ▸ HR; clear hw2))
    (try simp only [Exit.inBlock, Exit.then])
    refine bodyPost_ret (v := .tuple #[ev ez, vi 11]) (results_row rfl _ _ _ rfl rfl HR.out Tryz.underlying134 rfl einfo) rfl ?_
    exact ⟨rfl, HOK.out, HS.out.dropL⟩
  | some ka =>
    obtain ⟨k, a⟩ := ka
    have H := Lib.hid (find_yes hI hA)
    have ha := isAt_some hA
    have hlt : k < ps.length := (List.getElem?_eq_some_iff.1 ha.1).1
    have HA := Lib.hid ha
    have hA' := Lib.hid hA
    clear h hI hA ha
    go_enter Tryz.func147, Tryz.ntmps147
    go_wp2_with (first
      | (go_at_call 150; refine H.out.mono ?_; rintro e w1 ⟨rfl, hT⟩; have HLd := Lib.hid (hT.rng HA.out.1); have HX := Lib.hid hT.sat.pull4; have HTh := Lib.hid (there_ (n := 19) hT.sat.pull4 rfl); have HOK := Lib.hid hT.ok; clear hT)
      | (refine wpList_load_mid rfl 134 _ rfl s.a (k * 22 + 3) (by rfl) (elC a.x) _ HLd.out Tryz.underlying134 rfl einfo ?_)
      | (refine wpList_store_mid rfl 134 _ _ rfl (w.heap.size + 1) 0 (elC a.x).toArray (by rfl) (by rfl) HTh.out einfo (all_oneCell_toArray (elOne a.x)) ?_; have HS := Lib.hid (HX.out.stores (elC a.x) 0); have HR := Lib.hid (World.rangeAt_setCells_same _ (w.heap.size + 1) 0 (elC a.x) HTh.out); generalize hw2 : World.setCells _ _ _ _ = w2; have HS : Hid (Sat w0 _ w2) := hw2 ▸ HS; have HR : Hid (World.rangeAt w2 _ _ _) := hw2 ▸ HR; clear hw2))
    (try simp only [Exit.inBlock, Exit.then])
    refine bodyPost_ret (v := .tuple #[ev a.x, vi 0]) (results_row rfl _ _ _ rfl rfl HR.out Tryz.underlying134 rfl einfo) rfl ?_
    exact ⟨rfl, HOK.out, HS.out.dropL⟩

theorem get_ (h : Sat w0 (tblP p ps free * F) w) (i g : Int) :
    Calls Tryz.prog 147 #[vp p, vr i g] w fun e w' => e = .returned (.tuple #[ev (getX ps i g), vi (getE ps i g)]) ∧ Sat w0 (tblP p ps free * F) w' := by
  obtain ⟨s, hs⟩ := open_ h
  exact (get_at hs i g).mono fun e w' ⟨h1, h2⟩ => ⟨h1, h2.shut⟩

end
end Go.Proofs.YtdbppfcilaajaaaGreat.Ag

namespace Go.Proofs.YtdbppfcilaajaaaGreat.Ag
open Go.RowKit
set_option linter.unusedVariables false

section
variable {w0 w : World} {p : Nat} {s : TblS} {ps : List Pl} {free : List Nat} {F : Hp}
def setP (ps : List Pl) (i g : Int) (x : El) : List Pl := match isAt ps i g with | none => ps | some (k, a) => ps.set k { a with x := x }

set_option maxRecDepth 100000 in
set_option maxHeartbeats 8000000 in
theorem set_ (h : Sat w0 (tblP p ps free * F) w) (i g : Int) (x : El) :
    Calls Tryz.prog 83 #[vp p, vr i g, ev x] w fun e w' => e = .returned (vi (getE ps i g)) ∧ Sat w0 (tblP p (setP ps i g x) free * F) w' := by
  obtain ⟨s, hs⟩ := open_ h
  have hI : TblIs w0 p s ps free (elB (w.heap.size + 1) x * F) ((w.alloc (.cells #[vi i, vu g] 30)).alloc (elO x)) := ⟨hs.ok, by
    have hh := (hs.sat.alloc' (.cells #[vi i, vu g] 30)).alloc (elO x)
    rw [size1] at hh
    exact (show Sat w0 (elB (w.heap.size + 1) x * (tblB p s ps.length free.length * (tblL s ps * (tblF s free * F)))) _ from hh).cast (by ac_rfl)⟩
  unfold getE setP
  cases hA : isAt ps i g with
  | none =>
    have H := Lib.hid (find_no hI hA)
    have hA' := Lib.hid hA
    clear h hI hA hs
    go_enter Tryz.func83, Tryz.ntmps83
    go_wp2_with (go_at_call 150; refine H.out.mono ?_; rintro e w' ⟨rfl, hT⟩)
    go_ret
    exact ⟨rfl, hT.shut.drop2⟩
  | some ka =>
    obtain ⟨k, a⟩ := ka
    have H := Lib.hid (find_yes hI hA)
    have ha := isAt_some hA
    have hlt : k < ps.length := (List.getElem?_eq_some_iff.1 ha.1).1
    have HA := Lib.hid ha
    have hA' := Lib.hid hA
    have hok : TblOk (ps.set k { a with x := x }) free := hs.ok.setX ha.1 x
    have HOK := Lib.hid hok
    clear h hI hA ha hs hok
    go_enter Tryz.func83, Tryz.ntmps83
    go_wp2_with (first
      | (go_at_call 150; refine H.out.mono ?_; rintro e w1 ⟨rfl, hT⟩; have HLd := Lib.hid (range_ hT.sat.pull4); have HTh := Lib.hid (hT.thr HA.out.1); have HT := Lib.hid hT; clear hT)
      | (refine wpList_load_mid rfl 134 _ rfl (w.heap.size + 1) 0 (by rfl) (elC x) _ HLd.out Tryz.underlying134 rfl einfo ?_)
      | (refine wpList_store_mid rfl 134 _ _ rfl s.a (k * 22 + 3) (elC x).toArray (by rfl) (by rfl) HTh.out einfo (all_oneCell_toArray (elOne x)) ?_; have HS := Lib.hid (storeX HT.out.sat.pull2 HA.out.1 rfl x); have HS : Hid (Sat w0 _ (w1.setCells s.a (k * 22 + 3) (elC x).toArray.toList)) := HS; generalize World.setCells _ _ _ _ = w2 at *))
    go_ret
    have hl : (ps.set k { a with x := x }).length = ps.length := List.length_set
    refine ⟨rfl, (TblIs.shut (s := s) (F := elB (w.heap.size + 1) x * F) ⟨HOK.out, ?_⟩).drop2⟩
    exact HS.out.pull2.cast (by simp only [tblB, tblL, hl])
end
end Go.Proofs.YtdbppfcilaajaaaGreat.Ag
