/-
  Own maps from integers to whatever lies in one cell. No statement is proved here.
-/
import Derived.Test.YtffjckdaekamgaaOwn
import Derived.Maps.OwnSet
namespace Go.Proofs.Ytffjckdaekamgaa
open Go.RowKit
set_option linter.unusedVariables false

/-- The entries of a map, as what stands at a key. -/
def entAtV : List MapEntry → Int → Option Value
  | [], _ => none
  | e :: es, k => match e.key with
    | .int .i64 x => if x = k then some e.val else entAtV es k
    | _ => none
def EntsV (es : List MapEntry) : Prop := (∀ e ∈ es, ∃ (x : Int) (v : Value), e.key = .int .i64 x ∧ e.val = v) ∧ es.Pairwise fun a b => a.key ≠ b.key
/-- A map of the call's own (or nil): what stands at a key. -/
def mapIV (v : Value) (M : Int → Option Value) : Hp :=
  ⟨fun L => (v = .map none ∧ L = [] ∧ ∀ k, M k = none) ∨ ∃ b es clock, v = .map (some b) ∧ L = [(b, .map es clock)] ∧ EntsV es.toList ∧ ∀ k, M k = entAtV es.toList k,
   fun {L L'} h hx => by
    rcases hx with ⟨a, rfl, c⟩ | ⟨b, es, cl, a, rfl, r⟩
    · exact .inl ⟨a, List.nil_perm.1 h, c⟩
    · exact .inr ⟨b, es, cl, a, List.perm_singleton.1 h.symm, r⟩⟩
def putMV (M : Int → Option Value) (k : Int) (v : Value) : Int → Option Value := fun x => if k = x then some v else M x

theorem EntsV.tail {e : MapEntry} {es : List MapEntry} (h : EntsV (e :: es)) : EntsV es := ⟨fun x hx => h.1 x (List.mem_cons_of_mem _ hx), (List.pairwise_cons.1 h.2).2⟩
theorem entAt_consV {e : MapEntry} {es : List MapEntry} {x k : Int} {v : Value} (hk : e.key = .int .i64 x) (hv : e.val = v) : entAtV (e :: es) k = if x = k then some v else entAtV es k := by
  rw [entAtV, hk, hv]
theorem entAt_noneV {k : Int} : ∀ {es : List MapEntry}, EntsV es → (∀ e ∈ es, e.key ≠ .int .i64 k) → entAtV es k = none
  | [], _, _ => rfl
  | e :: es, h, hn => by
    obtain ⟨x, v, hk, hv⟩ := h.1 e (by simp)
    rw [entAt_consV hk hv, if_neg (fun e' => hn e (by simp) (by rw [hk, e'])), entAt_noneV h.tail fun y hy => hn y (by simp [hy])]
section
variable {P : Program} {w : World} {kt : TypeId}
/-- Where a key stands. -/
theorem find_intV (hkt : P.underlying kt = some (.int .i64)) (k : Int) : ∀ (es : List MapEntry) (i : Nat), EntsV es →
    (Instr.findNow (.int .i64) (.int .i64 k) es i = some none ∧ entAtV es k = none ∧ ∀ e ∈ es, e.key ≠ .int .i64 k) ∨
    ∃ (j : Nat) (e : MapEntry) (v : Value), Instr.findNow (.int .i64) (.int .i64 k) es i = some (some (i + j, v)) ∧ es[j]? = some e ∧ e.key = .int .i64 k ∧ e.val = v ∧ entAtV es k = some v
  | [], i, _ => .inl ⟨rfl, rfl, fun e he => by cases he⟩
  | e :: es, i, h => by
    obtain ⟨x, v, hk, hv⟩ := h.1 e (by simp)
    by_cases hx : k = x
    · subst hx
      refine .inr ⟨0, e, v, ?_, rfl, hk, hv, by rw [entAt_consV hk hv, if_pos rfl]⟩
      simp [Instr.findNow, Instr.sameNow, hk, hv]
    · have hne : (k == x) = false := by simpa using hx
      have h1 : Instr.findNow (.int .i64) (.int .i64 k) (e :: es) i = Instr.findNow (.int .i64) (.int .i64 k) es (i + 1) := by
        simp [Instr.findNow, Instr.sameNow, hk, hne]
      rw [h1, entAt_consV hk hv, if_neg (fun e' => hx e'.symm)]
      rcases find_intV hkt k es (i + 1) h.tail with ⟨a, b, c⟩ | ⟨j, e', v', a, b, c, d, f⟩
      · refine .inl ⟨a, b, fun y hy => ?_⟩
        rcases List.mem_cons.1 hy with rfl | hy
        · rw [hk]
          intro e'
          cases e'
          exact hx rfl
        · exact c y hy
      · exact .inr ⟨j + 1, e', v', by rw [a]; congr 3; omega, by simpa using b, c, d, f⟩
theorem check_intV (hkt : P.underlying kt = some (.int .i64)) (em : Bool) (k : Int) : (Instr.checkKey em 10000 kt (.int .i64 k)).run P w = .ok () w := by
  exact MapKept.run_checkKey hkt (show MapKept.IsKey (.int .i64) (.int .i64 k) from rfl) em 9999
theorem findKey_intV (hkt : P.underlying kt = some (.int .i64)) (k : Int) (es : List MapEntry) {r : Option (Nat × Value)} (h : Instr.findNow (.int .i64) (.int .i64 k) es 0 = some r) : (Instr.findKey kt (.int .i64 k) es).run P w = .ok r w := by
  simp [Instr.findKey, run_underlying hkt, h]
end
section
variable {P : Program} {w0 w : World} {F : Hp} {mt kt et : TypeId} {M : Int → Option Value} {b : Nat} {vm : Value}
theorem Sat.mapEV (h : Sat w0 (mapIV (.map (some b)) M * F) w) : ∃ es clock, w.heap[b]? = some (.map es clock) ∧ EntsV es.toList ∧ (∀ k, M k = entAtV es.toList k) ∧ Sat w0 (pt b (.map es clock) * F) w := by
  obtain ⟨hb, L, ⟨L1, L2, p, a, c⟩, r⟩ := h
  rcases a with ⟨e, _⟩ | ⟨b', es, cl, e, rfl, h1, h2⟩
  · cases e
  · cases e
    have hS : Sat w0 (pt b (.map es cl) * F) w := ⟨hb, L, ⟨_, L2, p, rfl, c⟩, r⟩
    exact ⟨es, cl, hS.blk.1, h1, h2, hS⟩
theorem Sat.mapFormV (h : Sat w0 (mapIV vm M * F) w) : (vm = .map none ∧ ∀ k, M k = none) ∨ ∃ b, vm = .map (some b) := by
  obtain ⟨hb, L, ⟨L1, L2, p, a, c⟩, r⟩ := h
  rcases a with ⟨e, _, h1⟩ | ⟨b', es, cl, e, _⟩
  · exact .inl ⟨e, h1⟩
  · exact .inr ⟨b', e⟩
theorem Sat.mapNilV (h : Sat w0 F w) : Sat w0 (mapIV (.map none) (fun _ => none) * F) w := by
  obtain ⟨hb, L, hL, r⟩ := h
  exact ⟨hb, L, ⟨[], L, List.Perm.refl _, .inl ⟨rfl, rfl, fun _ => rfl⟩, hL⟩, r⟩
theorem Sat.mapI_V {es : Array MapEntry} {clock : Nat} (h : Sat w0 (pt b (.map es clock) * F) w) (he : EntsV es.toList) (hM : ∀ k, M k = entAtV es.toList k) : Sat w0 (mapIV (.map (some b)) M * F) w :=
  h.impL fun L a => by
    have a : L = [(b, .map es clock)] := a
    exact .inr ⟨b, es, clock, rfl, a, he, hM⟩
theorem Sat.mapNewV (h : Sat w0 F w) : Sat w0 (mapIV (.map (some w.heap.size)) (fun _ => none) * F) (w.alloc (.map #[] 0)) :=
  (h.alloc (.map #[] 0)).mapI_V ⟨fun e he => by simp at he, by simp⟩ fun k => rfl
/-- m[k], with whether it is there. -/
theorem run_look_okV (hm : P.underlying mt = some (.map kt et)) (hkt : P.underlying kt = some (.int .i64)) {z : Value} (hz : (zeroValue et).run P w = .ok z w) (h : Sat w0 (mapIV vm M * F) w) (k : Int) :
    (Instr.lookup mt vm (.int .i64 k) true).run P w = .ok (.tuple #[(M k).getD z, .bool (M k).isSome]) w := by
  rcases h.mapFormV with ⟨rfl, hn⟩ | ⟨b, rfl⟩
  · rw [hn k]
    have hf : (Instr.findKey kt (.int .i64 k) []).run P w = .ok none w := findKey_intV hkt k [] rfl
    simp [Instr.lookup, run_underlying hm, check_intV hkt, hf, hz, Result.andThen]
  · obtain ⟨es, cl, hb, he, hM, hS⟩ := h.mapEV
    rw [hM k]
    rcases find_intV hkt k es.toList 0 he with ⟨a, b', c⟩ | ⟨j, e', v', a, b', c, d, f⟩
    · rw [b']
      simp [Instr.lookup, run_underlying hm, MapKept.run_getObj_map hb, check_intV hkt, findKey_intV hkt k es.toList a, hz, Result.andThen]
    · rw [f]
      simp [Instr.lookup, run_underlying hm, MapKept.run_getObj_map hb, check_intV hkt, findKey_intV hkt k es.toList a, Result.andThen]
theorem run_lookV (hm : P.underlying mt = some (.map kt et)) (hkt : P.underlying kt = some (.int .i64)) {z : Value} (hz : (zeroValue et).run P w = .ok z w) (h : Sat w0 (mapIV vm M * F) w) (k : Int) :
    (Instr.lookup mt vm (.int .i64 k) false).run P w = .ok ((M k).getD z) w := by
  rcases h.mapFormV with ⟨rfl, hn⟩ | ⟨b, rfl⟩
  · rw [hn k]
    have hf : (Instr.findKey kt (.int .i64 k) []).run P w = .ok none w := findKey_intV hkt k [] rfl
    simp [Instr.lookup, run_underlying hm, check_intV hkt, hf, hz, Result.andThen]
  · obtain ⟨es, cl, hb, he, hM, hS⟩ := h.mapEV
    rw [hM k]
    rcases find_intV hkt k es.toList 0 he with ⟨a, b', c⟩ | ⟨j, e', v', a, b', c, d, f⟩
    · rw [b']
      simp [Instr.lookup, run_underlying hm, MapKept.run_getObj_map hb, check_intV hkt, findKey_intV hkt k es.toList a, hz, Result.andThen]
    · rw [f]
      simp [Instr.lookup, run_underlying hm, MapKept.run_getObj_map hb, check_intV hkt, findKey_intV hkt k es.toList a, Result.andThen]
theorem entAt_pushV {x : Int} {v : Value} {e : MapEntry} (hk : e.key = .int .i64 x) (hv : e.val = v) : ∀ {es : List MapEntry}, EntsV es → (∀ e' ∈ es, e'.key ≠ .int .i64 x) → ∀ k, entAtV (es ++ [e]) k = if x = k then some v else entAtV es k
  | [], _, _, k => by rw [List.nil_append, entAt_consV hk hv]
  | e0 :: es, h, hn, k => by
    obtain ⟨y, u, hk0, hv0⟩ := h.1 e0 (by simp)
    have hne : x ≠ y := fun e' => hn e0 (by simp) (by rw [hk0, e'])
    rw [List.cons_append, entAt_consV hk0 hv0, entAt_consV hk0 hv0, entAt_pushV hk hv h.tail (fun e' he' => hn e' (by simp [he'])) k]
    by_cases h1 : y = k
    · rw [if_pos h1, if_pos h1, if_neg (fun h2 => hne (h2.trans h1.symm))]
    · rw [if_neg h1, if_neg h1]
theorem EntsV.push {x : Int} {v : Value} {e : MapEntry} (hk : e.key = .int .i64 x) (hv : e.val = v) {es : List MapEntry} (h : EntsV es) (hn : ∀ e' ∈ es, e'.key ≠ .int .i64 x) : EntsV (es ++ [e]) := by
  refine ⟨fun e' he' => ?_, List.pairwise_append.2 ⟨h.2, by simp, fun a ha c hc => ?_⟩⟩
  · rcases List.mem_append.1 he' with he' | he'
    · exact h.1 e' he'
    · rw [List.mem_singleton.1 he']
      exact ⟨x, v, hk, hv⟩
  · rw [List.mem_singleton.1 hc, hk]
    exact hn a ha
theorem entAt_setV {x : Int} {v u : Value} {e e' : MapEntry} (hk : e.key = .int .i64 x) (hv : e.val = v) (hk' : e'.key = .int .i64 x) (hv' : e'.val = u) : ∀ {es : List MapEntry} {j : Nat}, EntsV es → es[j]? = some e →
    (∀ k, entAtV (es.set j e') k = if x = k then some u else entAtV es k) ∧ EntsV (es.set j e')
  | [], j, _, hj => by simp at hj
  | e0 :: es, 0, h, hj => by
    obtain rfl : e0 = e := by simpa using hj
    refine ⟨fun k => ?_, ⟨fun y hy => ?_, ?_⟩⟩
    · rw [List.set_cons_zero, entAt_consV hk' hv', entAt_consV hk hv]
      split <;> rfl
    · rcases List.mem_cons.1 hy with rfl | hy
      · exact ⟨x, u, hk', hv'⟩
      · exact h.1 y (by simp [hy])
    · have := List.pairwise_cons.1 h.2
      exact List.pairwise_cons.2 ⟨fun a ha => by rw [hk', ← hk]; exact this.1 a ha, this.2⟩
  | e0 :: es, j + 1, h, hj => by
    have hj' : es[j]? = some e := by simpa using hj
    obtain ⟨h1, h2⟩ := entAt_setV hk hv hk' hv' h.tail hj'
    obtain ⟨y, z, hk0, hv0⟩ := h.1 e0 (by simp)
    have hp := List.pairwise_cons.1 h.2
    have hne : y ≠ x := fun e2 => hp.1 e (List.mem_of_getElem? hj') (by rw [hk0, hk, e2])
    refine ⟨fun k => ?_, ⟨fun a ha => ?_, ?_⟩⟩
    · rw [List.set_cons_succ, entAt_consV hk0 hv0, entAt_consV hk0 hv0, h1 k]
      by_cases h3 : y = k
      · rw [if_pos h3, if_pos h3, if_neg (fun h4 => hne (h3.trans h4.symm))]
      · rw [if_neg h3, if_neg h3]
    · rcases List.mem_cons.1 ha with rfl | ha
      · exact ⟨y, z, hk0, hv0⟩
      · exact h2.1 a ha
    · refine List.pairwise_cons.2 ⟨fun a ha => ?_, h2.2⟩
      rcases List.mem_or_eq_of_mem_set ha with ha | rfl
      · exact hp.1 a ha
      · rw [hk', hk0]
        intro e2
        cases e2
        exact hne rfl
theorem Sat.setMapV {es es' : Array MapEntry} {c c' : Nat} (h : Sat w0 (pt b (.map es c) * F) w) : Sat w0 (pt b (.map es' c') * F) { w with heap := w.heap.setIfInBounds b (.map es' c') } := by
  refine h.upd rfl rfl rfl (by simp) ?_ (fun k _ hne => ?_)
  · simp [h.lt]
  · simp [Ne.symm hne]
/-- m[k] = v -/
theorem run_updV (hm : P.underlying mt = some (.map kt et)) (hkt : P.underlying kt = some (.int .i64)) (h : Sat w0 (mapIV (.map (some b)) M * F) w) (k : Int) (v : Value) :
    ∃ w', (Instr.mapUpdate mt (.map (some b)) (.int .i64 k) v).run P w = .ok () w' ∧ Sat w0 (mapIV (.map (some b)) (putMV M k v) * F) w' := by
  obtain ⟨es, cl, hb, he, hM, hS⟩ := h.mapEV
  rcases find_intV hkt k es.toList 0 he with ⟨a, b', c⟩ | ⟨j, e', v', a, b', c, d, f⟩
  · refine ⟨{ w with heap := w.heap.setIfInBounds b (.map (es.push ⟨.int .i64 k, v, cl⟩) (cl + 1)) }, ?_, (hS.setMapV).mapI_V ?_ ?_⟩
    · simp [Instr.mapUpdate, run_underlying hm, MapKept.run_getObj_map hb, check_intV hkt, findKey_intV hkt k es.toList a, MapKept.run_setObj_map _ hb, Result.andThen]
    · rw [Array.toList_push]
      exact he.push rfl rfl c
    · intro x
      rw [Array.toList_push, entAt_pushV rfl rfl he c x, putMV, hM x]
  · have hj : es[j]? = some e' := by simpa using b'
    have hst := entAt_setV (e' := { e' with key := .int .i64 k, val := v }) c d rfl rfl he b'
    refine ⟨{ w with heap := w.heap.setIfInBounds b (.map (es.modify j fun e => { e with key := .int .i64 k, val := v }) cl) }, ?_, (hS.setMapV).mapI_V ?_ ?_⟩
    · simp [Instr.mapUpdate, run_underlying hm, MapKept.run_getObj_map hb, check_intV hkt, findKey_intV hkt k es.toList a, hj, c, Instr.keyThatStays, Instr.sameBits, MapKept.run_setObj_map _ hb, Result.andThen]
    · rw [Array.toList_modify, ChangeMaps.modify_eq_set _ _ _ _ b']
      exact hst.2
    · intro x
      rw [Array.toList_modify, ChangeMaps.modify_eq_set _ _ _ _ b', hst.1 x, putMV, hM x]
end
section
variable {P : Program} {ops : Array Oper} {rest : List Oper} {o : Oper} {a : Act} {Q : Exit → Act → World → Prop} {w0 w : World} {F : Hp} {mt kt et : TypeId} {M : Int → Option Value} {b : Nat}
theorem wpList_updV (hm : P.underlying mt = some (.map kt et)) (hkt : P.underlying kt = some (.int .i64)) (hg : o.guard = none) (m x v : Operand) (hop : o.op = .mapUpdate mt m x v) (hme : a.eval m = .map (some b)) (k : Int) (u : Value) (hx : a.eval x = .int .i64 k) (hv : a.eval v = u)
    (h : Sat w0 (mapIV (.map (some b)) M * F) w) (hK : ∀ w', Sat w0 (mapIV (.map (some b)) (putMV M k u) * F) w' → wpList P ops Q rest (a.put o.dst undef) w') : wpList P ops Q (o :: rest) a w := by
  refine wpList_plain hg fun K' hK' => ?_
  obtain ⟨w', hrun, r1⟩ := run_updV hm hkt h k u
  unfold Oper.wp
  simp [execOp, hop, hme, hx, hv, hrun, Result.andThen]
  exact hK' _ _ (hK w' r1)
theorem wpList_insV (hm : P.underlying mt = some (.map kt et)) (hkt : P.underlying kt = some (.int .i64)) (hg : o.guard = none) (m x v : Operand) (hop : o.op = .insert mt m x v) (hme : a.eval m = .map (some b)) (k : Int) (u : Value) (hx : a.eval x = .int .i64 k) (hv : a.eval v = u)
    (h : Sat w0 (mapIV (.map (some b)) M * F) w) (hK : ∀ w', Sat w0 (mapIV (.map (some b)) (putMV M k u) * F) w' → wpList P ops Q rest (a.put o.dst undef) w') : wpList P ops Q (o :: rest) a w := by
  refine wpList_plain hg fun K' hK' => ?_
  obtain ⟨w', hrun, r1⟩ := run_updV hm hkt h k u
  unfold Oper.wp
  simp [execOp, hop, hme, hx, hv, hrun, Result.andThen]
  exact hK' _ _ (hK w' r1)
end
end Go.Proofs.Ytffjckdaekamgaa
