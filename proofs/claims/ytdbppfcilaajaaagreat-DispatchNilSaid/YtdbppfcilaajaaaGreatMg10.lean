/-
  Own maps with keys and values of any kind. No statement is proved here.
-/
import Derived.Test.YtdbppfcilaajaaaGreatMg3
import Derived.Maps.OwnSet
import Derived.WideKeyEntry
import Derived.Test.YtdbppfcilaajaaaGreatMg9
import Derived.Test.YtdbppfcilaajaaaGreatMg7
import Derived.WideKeyArr
import Derived.WideKeyPair
import Derived.Test.YtdbppfcilaajaaaGreatMg4
namespace Go.Proofs.YtdbppfcilaajaaaGreat
open Go.RowKit
set_option linter.unusedVariables false
set_option linter.unusedSimpArgs false

section
variable {κ ν : Type} [DecidableEq κ]
/-- Where a key stands in a list of entries. -/
def posK (val : ν → Value) : List (κ × ν) → κ → Nat → Option (Nat × Value)
  | [], _, _ => none
  | p :: r, k, i => if p.1 = k then some (i, val p.2) else posK val r k (i + 1)
def lkK : List (κ × ν) → κ → Option ν
  | [], _ => none
  | p :: r, k => if p.1 = k then some p.2 else lkK r k
/-- The entries of a map are those of a list. -/
def EntK (enc : κ → Value) (val : ν → Value) (es : List MapEntry) (l : List (κ × ν)) : Prop := es.map (fun e => (e.key, e.val)) = l.map fun p => (enc p.1, val p.2)
def NdK (l : List (κ × ν)) : Prop := (l.map (·.1)).Nodup
/-- When entries came: each at its own time. -/
def BornK (es : List MapEntry) (clock : Nat) : Prop := (es.map (·.born)).Nodup ∧ ∀ e ∈ es, e.born < clock
theorem BornK.push {es : List MapEntry} {cl : Nat} (h : BornK es cl) {k v : Value} : BornK (es ++ [⟨k, v, cl⟩]) (cl + 1) := by
  refine ⟨?_, fun e he => ?_⟩
  · rw [List.map_append]
    refine List.nodup_append.2 ⟨h.1, by simp, ?_⟩
    intro a ha c hc
    obtain ⟨e, he, rfl⟩ := List.mem_map.1 ha
    have := h.2 e he
    have hc : c = cl := by simpa using hc
    omega
  · rcases List.mem_append.1 he with he | he
    · have := h.2 e he
      omega
    · rw [List.mem_singleton.1 he]
      exact Nat.lt_succ_self _
theorem BornK.set {es : List MapEntry} {cl : Nat} (h : BornK es cl) {j : Nat} {e e' : MapEntry} (hj : es[j]? = some e) (hb : e'.born = e.born) : BornK (es.set j e') cl := by
  have hl := (List.getElem?_eq_some_iff.1 hj)
  refine ⟨?_, fun x hx => ?_⟩
  · rw [List.map_set]
    have : (es.map (·.born)).set j e'.born = es.map (·.born) := by
      apply List.ext_getElem?
      intro i
      rw [List.getElem?_set]
      by_cases hi : j = i
      · subst hi
        rw [if_pos rfl, List.getElem?_map, hj, if_pos (by simpa using hl.1), hb]
        rfl
      · rw [if_neg hi]
    rw [this]
    exact h.1
  · rcases List.mem_or_eq_of_mem_set hx with hx | rfl
    · exact h.2 x hx
    · rw [hb]
      exact h.2 e (List.mem_of_getElem? hj)
theorem BornK.erase {es : List MapEntry} {cl : Nat} (h : BornK es cl) (j : Nat) : BornK (es.eraseIdx j) cl := ⟨h.1.sublist ((List.eraseIdx_sublist es j).map _), fun e he => h.2 e (List.mem_of_mem_eraseIdx he)⟩
theorem posK_none {val : ν → Value} {k : κ} : ∀ {l : List (κ × ν)} {i : Nat}, posK val l k i = none → (∀ p ∈ l, p.1 ≠ k) ∧ lkK l k = none
  | [], _, _ => ⟨fun p hp => (by cases hp), rfl⟩
  | p :: r, i, h => by
    unfold posK at h
    by_cases hp : p.1 = k
    · rw [if_pos hp] at h
      cases h
    · rw [if_neg hp] at h
      obtain ⟨h1, h2⟩ := posK_none h
      refine ⟨fun y hy => ?_, ?_⟩
      · rcases List.mem_cons.1 hy with rfl | hy
        · exact hp
        · exact h1 y hy
      · unfold lkK
        rw [if_neg hp, h2]
theorem posK_some {val : ν → Value} {k : κ} {j : Nat} {v : Value} : ∀ {l : List (κ × ν)} {i : Nat}, posK val l k i = some (j, v) → ∃ m u, j = i + m ∧ v = val u ∧ l[m]? = some (k, u) ∧ lkK l k = some u
  | [], _, h => by cases h
  | p :: r, i, h => by
    unfold posK at h
    by_cases hp : p.1 = k
    · rw [if_pos hp] at h
      cases h
      refine ⟨0, p.2, rfl, rfl, ?_, ?_⟩
      · rw [← hp]; rfl
      · unfold lkK; rw [if_pos hp]
    · rw [if_neg hp] at h
      obtain ⟨m, u, h1, h2, h3, h4⟩ := posK_some h
      refine ⟨m + 1, u, by omega, h2, by simpa using h3, ?_⟩
      unfold lkK
      rw [if_neg hp, h4]
theorem lkK_push {k x : κ} {u : ν} : ∀ {l : List (κ × ν)}, (∀ p ∈ l, p.1 ≠ k) → lkK (l ++ [(k, u)]) x = if k = x then some u else lkK l x
  | [], _ => rfl
  | p :: r, h => by
    have hp := h p (by simp)
    show lkK (p :: (r ++ [(k, u)])) x = _
    unfold lkK
    rw [lkK_push fun y hy => h y (by simp [hy])]
    by_cases h1 : p.1 = x
    · rw [if_pos h1, if_pos h1, if_neg (fun e => hp (h1.trans e.symm))]
    · rw [if_neg h1, if_neg h1]
end

/-- A type of keys: how a key reads; that it may be one; where it stands. -/
structure KeyT (P : Program) (kt : TypeId) {κ : Type} [DecidableEq κ] (enc : κ → Value) : Prop where
  check : ∀ (em : Bool) (k : κ) (w : World), (Instr.checkKey em 10000 kt (enc k)).run P w = .ok () w
  find : ∀ {ν : Type} (val : ν → Value) (es : List MapEntry) (l : List (κ × ν)) (k : κ) (w : World), EntK enc val es l → NdK l → (Instr.findKey kt (enc k) es).run P w = .ok (posK val l k 0) w
  stay : ∀ k : κ, Instr.sameBits 10000 (enc k) (enc k) = true

section
variable {κ ν : Type} [DecidableEq κ] {enc : κ → Value} {val : ν → Value} {P : Program} {w0 w : World} {F : Hp} {mt kt et : TypeId} {M : κ → Option ν} {b : Nat} {vm z : Value}
/-- A map of the call's own: what stands at a key. -/
def mapK (enc : κ → Value) (val : ν → Value) (v : Value) (M : κ → Option ν) : Hp :=
  ⟨fun L => ∃ b es clock l, v = .map (some b) ∧ L = [(b, .map es clock)] ∧ EntK enc val es.toList l ∧ NdK l ∧ BornK es.toList clock ∧ ∀ k, M k = lkK l k,
   fun {L L'} h hx => by
    obtain ⟨b, es, cl, l, a, rfl, r⟩ := hx
    exact ⟨b, es, cl, l, a, List.perm_singleton.1 h.symm, r⟩⟩
def putK (M : κ → Option ν) (k : κ) (u : ν) : κ → Option ν := fun x => if k = x then some u else M x
theorem Sat.mapKE (h : Sat w0 (mapK enc val vm M * F) w) : ∃ b es clock l, vm = .map (some b) ∧ w.heap[b]? = some (.map es clock) ∧ EntK enc val es.toList l ∧ NdK l ∧ BornK es.toList clock ∧ (∀ k, M k = lkK l k) ∧ Sat w0 (pt b (.map es clock) * F) w := by
  obtain ⟨hb, L, ⟨L1, L2, p, ⟨b, es, cl, l, rfl, rfl, h1, h2, h4, h3⟩, c⟩, r⟩ := h
  have hS : Sat w0 (pt b (.map es cl) * F) w := ⟨hb, L, ⟨_, L2, p, rfl, c⟩, r⟩
  exact ⟨b, es, cl, l, rfl, hS.blk.1, h1, h2, h4, h3, hS⟩
theorem Sat.mapKI {es : Array MapEntry} {clock : Nat} {l : List (κ × ν)} (h : Sat w0 (pt b (.map es clock) * F) w) (he : EntK enc val es.toList l) (hn : NdK l) (hbn : BornK es.toList clock) (hM : ∀ k, M k = lkK l k) : Sat w0 (mapK enc val (.map (some b)) M * F) w :=
  h.impL fun L a => by
    have a : L = [(b, .map es clock)] := a
    exact ⟨b, es, clock, l, rfl, a, he, hn, hbn, hM⟩
theorem Sat.mapKNew (h : Sat w0 F w) (enc : κ → Value) (val : ν → Value) : Sat w0 (mapK enc val (.map (some w.heap.size)) (fun _ => none) * F) (w.alloc (.map #[] 0)) :=
  (h.alloc (.map #[] 0)).mapKI (l := []) rfl List.nodup_nil ⟨by simp, by simp⟩ fun k => rfl
theorem Sat.mapKForm (h : Sat w0 (mapK enc val vm M * F) w) : ∃ b, vm = .map (some b) := by
  obtain ⟨b, _, _, _, e, _⟩ := h.mapKE
  exact ⟨b, e⟩
theorem Sat.setMapK {es es' : Array MapEntry} {c c' : Nat} (h : Sat w0 (pt b (.map es c) * F) w) : Sat w0 (pt b (.map es' c') * F) { w with heap := w.heap.setIfInBounds b (.map es' c') } := by
  refine h.upd rfl rfl rfl (by simp) ?_ (fun k _ hne => ?_)
  · simp [h.lt]
  · simp [Ne.symm hne]
/-- m[k], with whether it is there. -/
theorem runK_look_ok (K : KeyT P kt enc) (hm : P.underlying mt = some (.map kt et)) (hz : ∀ w, (zeroValue et).run P w = .ok z w) (h : Sat w0 (mapK enc val vm M * F) w) (k : κ) :
    (Instr.lookup mt vm (enc k) true).run P w = .ok (.tuple #[((M k).map val).getD z, .bool (M k).isSome]) w := by
  obtain ⟨b, es, cl, l, rfl, hb, he, hn, hbn, hM, hS⟩ := h.mapKE
  have hf := K.find val es.toList l k w he hn
  rw [hM k]
  cases hp : posK val l k 0 with
  | none =>
    rw [hp] at hf
    rw [(posK_none hp).2]
    simp [Instr.lookup, run_underlying hm, MapKept.run_getObj_map hb, K.check, hf, hz, Result.andThen]
  | some jv =>
    obtain ⟨j, v⟩ := jv
    obtain ⟨m, u, _, rfl, _, hu⟩ := posK_some hp
    rw [hp] at hf
    rw [hu]
    simp [Instr.lookup, run_underlying hm, MapKept.run_getObj_map hb, K.check, hf, Result.andThen]
/-- A map in which an entry was made and is not filled yet: its key, the time at which it came. -/
def mapKS (enc : κ → Value) (val : ν → Value) (z : Value) (v : Value) (M : κ → Option ν) (k : κ) (s : Nat) : Hp :=
  ⟨fun L => ∃ (b : Nat) (es : Array MapEntry) (clock : Nat) (l : List (κ × ν)), v = .map (some b) ∧ L = [(b, .map (es.push ⟨enc k, z, s⟩) clock)] ∧ EntK enc val es.toList l ∧ NdK l ∧ BornK (es.toList ++ [⟨enc k, z, s⟩]) clock ∧ (∀ p ∈ l, p.1 ≠ k) ∧ ∀ k, M k = lkK l k,
   fun {L L'} h hx => by
    obtain ⟨b, es, cl, l, a, rfl, r⟩ := hx
    exact ⟨b, es, cl, l, a, List.perm_singleton.1 h.symm, r⟩⟩
/-- The entry of a key that is not there. -/
theorem runK_entry (K : KeyT P kt enc) (hm : P.underlying mt = some (.map kt et)) (hz : ∀ w, (zeroValue et).run P w = .ok z w) (h : Sat w0 (mapK enc val vm M * F) w) (k : κ) (hk : M k = none) :
    ∃ (w' : World) (s : Nat), (Instr.mapEntry mt vm (enc k)).run P w = .ok (.tuple #[z, goInt s]) w' ∧ Sat w0 (mapKS enc val z vm M k s * F) w' := by
  obtain ⟨b, es, cl, l, rfl, hb, he, hn, hbn, hM, hS⟩ := h.mapKE
  have hf := K.find val es.toList l k w he hn
  cases hp : posK val l k 0 with
  | some jv =>
    obtain ⟨j, v⟩ := jv
    obtain ⟨m, u0, _, _, _, hu⟩ := posK_some hp
    rw [hM k, hu] at hk
    cases hk
  | none =>
    rw [hp] at hf
    refine ⟨{ w with heap := w.heap.setIfInBounds b (.map (es.push ⟨enc k, z, cl⟩) (cl + 1)) }, cl, ?_, ?_⟩
    · simp [Instr.mapEntry, run_underlying hm, MapKept.run_getObj_map hb, K.check, hf, hz, MapKept.run_setObj_map _ hb, Result.andThen]
    · refine (hS.setMapK (es' := es.push ⟨enc k, z, cl⟩) (c' := cl + 1)).impL fun L a => ?_
      have a : L = [(b, .map (es.push ⟨enc k, z, cl⟩) (cl + 1))] := a
      exact ⟨b, es, cl + 1, l, rfl, a, he, hn, hbn.push, (posK_none hp).1, hM⟩
theorem findIdx_last {es : List MapEntry} {e : MapEntry} (h : ∀ x ∈ es, x.born ≠ e.born) : (es ++ [e]).findIdx? (fun x => (x.born : Int) == (e.born : Int)) = some es.length := by
  induction es with
  | nil => simp [List.findIdx?_cons]
  | cons x r ih =>
    have hx : ((x.born : Int) == (e.born : Int)) = false := by
      rw [beq_eq_false_iff_ne]
      have := h x (by simp)
      omega
    rw [List.cons_append, List.findIdx?_cons, hx, ih fun y hy => h y (by simp [hy])]
    simp
/-- It is filled. -/
theorem runK_fill (ty : TypeId) {s : Nat} {k : κ} (h : Sat w0 (mapKS enc val z vm M k s * F) w) (u : ν) :
    ∃ w', (Instr.entryStore ty vm (goInt s) (val u)).run P w = .ok () w' ∧ Sat w0 (mapK enc val vm (putK M k u) * F) w' := by
  obtain ⟨hb', L, ⟨L1, L2, p, ⟨b, es, cl, l, rfl, rfl, he, hn, hbn, hno, hM⟩, c⟩, r⟩ := h
  have hS : Sat w0 (pt b (.map (es.push ⟨enc k, z, s⟩) cl) * F) w := ⟨hb', L, ⟨_, L2, p, rfl, c⟩, r⟩
  have hb := hS.blk.1
  have hne : ∀ x ∈ es.toList, x.born ≠ s := fun x hx e => by
    have h1 := hbn.1
    rw [List.map_append] at h1
    exact (List.nodup_append.1 h1).2.2 x.born (List.mem_map.2 ⟨x, hx, rfl⟩) s (by simp) e
  have hfi : (es.push ⟨enc k, z, s⟩).findIdx? (fun x => (x.born : Int) == (s : Int)) = some es.size := by
    rw [Go.WideElems.findIdx_arr, Array.toList_push]
    have := findIdx_last (es := es.toList) (e := ⟨enc k, z, s⟩) hne
    simpa using this
  have hmod : ((es.push ⟨enc k, z, s⟩).modify es.size fun e => { e with val := val u }) = es.push ⟨enc k, val u, s⟩ := by
    apply Array.toList_inj.1
    rw [Array.toList_modify, Array.toList_push, Array.toList_push]
    have hl : (es.toList ++ [⟨enc k, z, s⟩])[es.size]? = some (⟨enc k, z, s⟩ : MapEntry) := by simp
    rw [ChangeMaps.modify_eq_set _ _ _ _ hl]
    simp [List.set_append]
  refine ⟨{ w with heap := w.heap.setIfInBounds b (.map (es.push ⟨enc k, val u, s⟩) cl) }, ?_, (hS.setMapK).mapKI (l := l ++ [(k, u)]) ?_ ?_ ?_ ?_⟩
  · simp [Instr.entryStore, MapKept.run_getObj_map hb, goInt, asInt, asIntOf, hfi, hmod, MapKept.run_setObj_map _ hb, Result.andThen]
  · unfold EntK at he ⊢
    rw [Array.toList_push, List.map_append, List.map_append, he]
    rfl
  · unfold NdK at hn ⊢
    rw [List.map_append]
    refine List.nodup_append.2 ⟨hn, by simp, ?_⟩
    intro a ha c hc
    obtain ⟨y, hp2, rfl⟩ := List.mem_map.1 ha
    have hck : c = k := by simpa using hc
    rw [hck]
    exact hno y hp2
  · rw [Array.toList_push]
    have hl : (es.toList ++ [⟨enc k, z, s⟩])[es.toList.length]? = some (⟨enc k, z, s⟩ : MapEntry) := by simp
    have h2 := hbn.set (e' := ⟨enc k, val u, s⟩) hl rfl
    simpa [List.set_append] using h2
  · intro x
    rw [lkK_push hno]
    unfold putK
    rw [hM x]
end
section
variable {κ ν : Type} [DecidableEq κ] {enc : κ → Value} {val : ν → Value} {P : Program} {ops : Array Oper} {rest : List Oper} {o : Oper} {a : Act} {Q : Exit → Act → World → Prop} {w0 w : World} {F : Hp} {mt kt et : TypeId} {M : κ → Option ν} {vm : Value}
end
section
variable {P : Program} {kt : TypeId}
/-- Integers are keys. -/
theorem keyInt (hkt : P.underlying kt = some (.int .i64)) : KeyT P kt (fun x : Int => .int .i64 x) where
  check em k w := MapKept.run_checkKey hkt (show MapKept.IsKey (.int .i64) (.int .i64 k) from rfl) em 9999
  stay k := by simp [Instr.sameBits]
  find := by
    intro ν val es l k w he _
    have h1 : ∀ (es : List MapEntry) (l : List (Int × ν)) (i : Nat), EntK (fun x : Int => .int .i64 x) val es l → Instr.findNow (.int .i64) (.int .i64 k) es i = some (posK val l k i) := by
      intro es
      induction es with
      | nil =>
        intro l i h
        cases l with
        | nil => rfl
        | cons p r => cases h
      | cons e es ih =>
        intro l i h
        cases l with
        | nil => cases h
        | cons p r =>
          unfold EntK at h
          rw [List.map_cons, List.map_cons] at h
          have h0 := (List.cons.inj h).1
          have hk : e.key = .int .i64 p.1 := congrArg Prod.fst h0
          have hv : e.val = val p.2 := congrArg Prod.snd h0
          have ht := ih r (i + 1) (List.cons.inj h).2
          by_cases hx : p.1 = k
          · have : (k == p.1) = true := by simp [hx]
            simp [Instr.findNow, Instr.sameNow, hk, hv, this, posK, hx]
          · have : (k == p.1) = false := by simpa using fun e => hx e.symm
            simp [Instr.findNow, Instr.sameNow, hk, this, posK, hx, ht]
    simp [Instr.findKey, run_underlying hkt, h1 es l 0 he]
end
end Go.Proofs.YtdbppfcilaajaaaGreat

namespace Go.Proofs.YtdbppfcilaajaaaGreat.Kn
open Go.RowKit Pc
set_option linter.unusedVariables false
set_option linter.unusedSimpArgs false

/-- A goroutine and a slot. -/
abbrev Sp := Fin 64 × Fin 64
abbrev encS (s : Sp) : Value := .agg #[.int .i64 (s.1.val : Int), .int .i64 (s.2.val : Int)]
abbrev encI (x : Int) : Value := .int .i64 x
abbrev idV (v : Value) : Value := v
theorem arrS : WideMaps.ArrKey Tryz.prog 316 3 2 := ⟨Tryz.underlying316, by kernel_rfl, by kernel_rfl, by kernel_rfl⟩
theorem encS_inj {a b : Sp} (h : encS a = encS b) : a = b := by
  have h1 : (#[.int .i64 (a.1.val : Int), .int .i64 (a.2.val : Int)] : Array Value) = #[.int .i64 (b.1.val : Int), .int .i64 (b.2.val : Int)] := by injection h
  have h2 := congrArg Array.toList h1
  simp only [List.cons.injEq] at h2
  obtain ⟨h3, h4, _⟩ := h2
  injection h3 with _ h3
  injection h4 with _ h4
  exact Prod.ext (Fin.ext (by omega)) (Fin.ext (by omega))
set_option maxRecDepth 100000 in
theorem keyS : KeyT Tryz.prog 316 encS := by
  have K := arrS.law
  have hw : ∀ x : Fin 64, (Lit.int .i64 (x.val : Int)).wf = true := fun x => by
    have := x.isLt
    have h1 : IntKind.i64.min ≤ (x.val : Int) := Int.le_trans (show IntKind.i64.min ≤ 0 by decide) (by omega)
    have h2 : (x.val : Int) ≤ IntKind.i64.max := Int.le_trans (show (x.val : Int) ≤ 63 by omega) (by decide)
    exact Bool.and_eq_true_iff.2 ⟨decide_eq_true h1, decide_eq_true h2⟩
  have hk : ∀ s : Sp, ∃ l, keyOf Tryz.prog 316 (encS s) = some l := fun s => ⟨_, WideMaps.keyOf_pair arrS Tryz.underlying3 ⟨Tryz.prog.types.size - 1, by kernel_rfl⟩ (hw s.1) (hw s.2)⟩
  refine ⟨fun em s w => ?_, fun val es l s w he hn => ?_, fun s => ?_⟩
  · obtain ⟨l, hl⟩ := hk s
    exact K.check w em hl
  · obtain ⟨lx, hl⟩ := hk s
    have hall : ∀ e ∈ es, ∃ l, keyOf Tryz.prog 316 e.key = some l := fun e hm => by
      have h1 : (e.key, e.val) ∈ l.map fun p => (encS p.1, val p.2) := he ▸ List.mem_map.2 ⟨e, hm, rfl⟩
      obtain ⟨p, _, hp⟩ := List.mem_map.1 h1
      have : e.key = encS p.1 := (congrArg Prod.fst hp).symm
      rw [this]
      exact hk p.1
    have hat : ∀ (l : List (Sp × _)) (i : Nat), (∀ p ∈ l, p.1 ≠ s) → posK val l s i = none := fun l => by
      induction l with
      | nil => exact fun _ _ => rfl
      | cons p r ih =>
        intro i h
        rw [posK, if_neg (h p (by simp))]
        exact ih (i + 1) fun q hq => h q (by simp [hq])
    rcases K.find w hl es hall with ⟨h1, h2⟩ | ⟨j, e, h1, h2, h3⟩
    · rw [h1, hat l 0 fun p hp e => ?_]
      have h4 : (encS p.1, val p.2) ∈ es.map fun e => (e.key, e.val) := he ▸ List.mem_map.2 ⟨p, hp, rfl⟩
      obtain ⟨x, hx, hxe⟩ := List.mem_map.1 h4
      exact h2 x hx ((congrArg Prod.fst hxe).trans (by rw [e]))
    · rw [h1]
      have h5 : (l.map fun p => (encS p.1, val p.2))[j]? = some (e.key, e.val) := by
        rw [← he, List.getElem?_map, h2]
        rfl
      rw [List.getElem?_map] at h5
      cases hp : l[j]? with
      | none => rw [hp] at h5; cases h5
      | some p =>
        rw [hp] at h5
        have h6 : (encS p.1, val p.2) = (e.key, e.val) := Option.some.inj h5
        have h7 : p.1 = s := encS_inj ((congrArg Prod.fst h6).trans h3)
        have h8 : val p.2 = e.val := congrArg Prod.snd h6
        rw [← h8]
        have hgo : ∀ (l : List (Sp × _)) (i j : Nat) (p : Sp × _), NdK l → l[j]? = some p → p.1 = s → posK val l s i = some (i + j, val p.2) := fun l => by
          induction l with
          | nil => intro i j p _ h; simp at h
          | cons q r ih =>
            intro i j p hn h hs
            cases j with
            | zero =>
              obtain rfl : q = p := by simpa using h
              rw [posK, if_pos hs]
              rfl
            | succ j =>
              have hm : r[j]? = some p := by simpa using h
              have hne : q.1 ≠ s := fun e => (List.nodup_cons.1 hn).1 (show q.1 ∈ List.map (·.1) r by rw [e, ← hs]; exact List.mem_map.2 ⟨_, List.mem_of_getElem? hm, rfl⟩)
              rw [posK, if_neg hne, ih (i + 1) j p (List.nodup_cons.1 hn).2 hm hs]
              simp only [Nat.add_assoc, Nat.add_comm 1 j]
        rw [hgo l 0 j p hn hp h7, Nat.zero_add]
  · simp [Instr.sameBits]
end Go.Proofs.YtdbppfcilaajaaaGreat.Kn

namespace Go.Proofs.YtdbppfcilaajaaaGreat.Kn
open Go.RowKit Pc
set_option linter.unusedVariables false
set_option linter.unusedSimpArgs false

/-- A call of a function that has a body. -/
theorem run_enter {P : Program} {f : FuncId} {fn : Func} (hf : P.funcs[f]? = some fn) (hname : (fn.name == "runtime.NumGoroutine") = false) (hb : fn.body.isNone = false) (hb2 : fn.body.isSome = true) (args : Array Value) (w : World) :
    (callFunc f args).run P w = .ok (.enter f args) w := by
  obtain ⟨c, hc⟩ := Option.isSome_iff_exists.1 hb2
  have h1 : fn.name ≠ "runtime.NumGoroutine" := by simpa using hname
  simp [callFunc, hf, h1, hc]
section
variable {w0 w : World} {F : Hp} {g n : Nat} {fn : Nat → Nat} {cp : Nat → Array Value} {S : Nat → Hp}
abbrev cloL (fn : Nat → Nat) (cp : Nat → Array Value) (n : Nat) : List Value := rowsN (fun k => [.func (.func (fn k)) #[] (cp k)]) n
end
end Go.Proofs.YtdbppfcilaajaaaGreat.Kn

namespace Go.Proofs.YtdbppfcilaajaaaGreat.Kn
open Go.RowKit Pc
set_option linter.unusedVariables false
set_option linter.unusedSimpArgs false

section
variable {w0 w : World} {F : Hp} {g n : Nat} {fn : Nat → Nat} {cp : Nat → Array Value} {S : Nat → Hp}
set_option maxRecDepth 100000 in
theorem cfirst (hn : n ≤ 100) (h : Sat w0 (sl 89 1 (.slice (some ⟨g, 0, none⟩) n n) n (cloL fn cp n) * (S 0 * F)) w)
    (he : ∀ k, k < n → ∀ (xs : Array Value) (w : World), (callFunc (fn k) xs).run Tryz.prog w = .ok (.enter (fn k) xs) w)
    (hc : ∀ k, k < n → ∀ (F : Hp) (w0 w : World), Sat w0 (S k * F) w → Calls Tryz.prog (fn k) (cp k) w fun e w' => e = .returned (vi 0) ∧ Sat w0 (S (k + 1) * F) w') :
    Calls Tryz.prog 113 #[.slice (some ⟨g, 0, none⟩) n n] w fun e w' => e = .returned (vi 0) ∧ Sat w0 (S n * F) w' := by
  have H := Lib.hid h
  have HC := Lib.hid hc
  have HE := Lib.hid he
  clear h hc he
  go_enter Tryz.func113, Tryz.ntmps113
  go_wp2
  go_loopw [8] (fun i wr => ∃ k : Nat, k ≤ n ∧ i = vi k ∧ Sat w0 (sl 89 1 (.slice (some ⟨g, 0, none⟩) n n) n (cloL fn cp n) * (S k * F)) wr) (fun i _ => n - (intOf i).toNat)
  case atStart => exact ⟨0, by omega, rfl, H.out⟩
  case round =>
    clear H
    obtain ⟨k, hk, rfl, hS⟩ := hrel
    by_cases hlt : k < n
    · have hki : (k : Int) < (n : Int) := by omega
      have ck := hS.slCell k (u := .func (.func (fn k)) #[] (cp k)) (by
        have := rowsN_at (row := fun k => [.func (.func (fn k)) #[] (cp k)]) (N := 1) (n := n) (k := k) (j := 0) (v := .func (.func (fn k)) #[] (cp k)) (fun _ => rfl) hlt rfl
        simpa using this)
      have HC1 := Lib.hid (HC.out k hlt _ _ _ hS.pull2)
      have hE := HE.out k hlt
      clear HE HC
      generalize fn k = f at *
      generalize cp k = c at *
      have HL := Lib.hid hlt
      clear hS hlt
      go_wp2_with (refine HC1.out.mono ?_; rintro e w1 ⟨rfl, hS1⟩; have H1 := Lib.hid hS1.pull2; clear hS1)
      go_roundw
      case rel => exact ⟨k + 1, by have := HL.out; omega, by go_num, H1.out⟩
      case measure => (have := HL.out; simp [intOf]; omega)
    · obtain rfl : k = n := by omega
      have HS := Lib.hid hS.dropL
      clear hS
      go_wp2
      go_ret
      exact ⟨rfl, HS.out⟩
end
end Go.Proofs.YtdbppfcilaajaaaGreat.Kn

namespace Go.Proofs.YtdbppfcilaajaaaGreat.Kn
open Go.RowKit Pc
open Ad (size1)
set_option linter.unusedVariables false
set_option linter.unusedSimpArgs false

abbrev spL (gs t : Nat) (v1 v2 v3 : Value) : List Value := [vi gs, vi 6, vi 40, vp t, v1, v2, v3]
/-- Nothing is in the slots from j on, of whichever goroutine. -/
def SpOk (j : Nat) (M1 : Sp → Option Int) (M2 : Int → Option Sp) (M3 : Int → Option Value) : Prop := (∀ a b : Fin 64, j ≤ b.val → M1 (a, b) = none) ∧ (∀ i : Int, (j : Int) ≤ i → M2 i = none) ∧ ∀ i : Int, (j : Int) ≤ i → M3 i = none
abbrev spA (s gs t j : Nat) (v1 v2 v3 : Value) (M1 : Sp → Option Int) (M2 : Int → Option Sp) (M3 : Int → Option Value) (F : Hp) : Hp := pc s 199 (spL gs t v1 v2 v3) * (treeQ t 40 (40 - j) * (mapK encS encI v1 M1 * (mapK encI encS v2 M2 * (mapK encI idV v3 M3 * F))))
structure SpX where
  t : Nat
  v1 : Value
  v2 : Value
  v3 : Value
  M1 : Sp → Option Int
  M2 : Int → Option Sp
  M3 : Int → Option Value
def spQ (s gs j : Nat) : Hp := ex fun x : SpX => given (SpOk j x.M1 x.M2 x.M3) (spA s gs x.t j x.v1 x.v2 x.v3 x.M1 x.M2 x.M3 emp)
section
variable {w0 w : World} {F : Hp} {s gs t j : Nat} {v1 v2 v3 : Value} {M1 : Sp → Option Int} {M2 : Int → Option Sp} {M3 : Int → Option Value}
theorem sp_open (h : Sat w0 (spQ s gs j * F) w) : ∃ t v1 v2 v3 M1 M2 M3, SpOk j M1 M2 M3 ∧ Sat w0 (spA s gs t j v1 v2 v3 M1 M2 M3 F) w := by
  obtain ⟨x, h1⟩ := h.exE
  obtain ⟨h2, h3⟩ := h1.givenE
  exact ⟨x.t, x.v1, x.v2, x.v3, x.M1, x.M2, x.M3, h2, h3.cast (by simp only [spA]; rw [sep_emp]; ac_rfl)⟩
theorem sp_shut (hf : SpOk j M1 M2 M3) (h : Sat w0 (spA s gs t j v1 v2 v3 M1 M2 M3 F) w) : Sat w0 (spQ s gs j * F) w :=
  Sat.exI (f := fun x : SpX => given (SpOk j x.M1 x.M2 x.M3) (spA s gs x.t j x.v1 x.v2 x.v3 x.M1 x.M2 x.M3 emp)) ⟨t, v1, v2, v3, M1, M2, M3⟩ (Sat.givenI hf (h.cast (by simp only [spA]; rw [sep_emp]; ac_rfl)))
theorem emptyOk : SpOk 0 (fun _ => none) (fun _ => none) (fun _ => none) := ⟨fun _ _ _ => rfl, fun _ _ => rfl, fun _ _ => rfl⟩
theorem spOk_next {c : Value} (h : SpOk j M1 M2 M3) (hj : j < 64) : SpOk (j + 1) (putK M1 ((0 : Fin 64), (⟨j, hj⟩ : Fin 64)) (j : Int)) (putK M2 (j : Int) ((0 : Fin 64), (⟨j, hj⟩ : Fin 64))) (putK M3 (j : Int) c) := by
  refine ⟨fun a b hb => ?_, fun i hi => ?_, fun i hi => ?_⟩
  · rw [putK, if_neg (fun e => by
      have := congrArg (fun x : Sp => x.2.val) e
      simp only at this
      omega)]
    exact h.1 a b (by omega)
  · rw [putK, if_neg (by omega)]
    exact h.2.1 i (by omega)
  · rw [putK, if_neg (by omega)]
    exact h.2.2 i (by omega)
set_option maxRecDepth 100000 in
theorem sp_none {T : TypeId} (h : Sat w0 (pc s T (spL gs t v1 v2 v3) * F) w) : Calls Tryz.prog 236 #[vp s] w fun e w' => e = .returned (.bool false) ∧ w = w' := by
  have c3 := h.cell 3 rfl
  clear h
  go_enter Tryz.func236, Tryz.ntmps236
  go_wp2
  go_ret
  exact ⟨rfl, rfl⟩
set_option maxRecDepth 100000 in
theorem sp_there {T : TypeId} (h : Sat w0 (pc s T (spL gs t v1 v2 v3) * F) w) (hg : 1 ≤ gs) (hj : j < 6) : Calls Tryz.prog 212 #[vp s, vi 0, vi j] w fun e w' => e = .returned (vi 0) ∧ w = w' := by
  have c0 := h.cell 0 rfl
  have c1 := h.cell 1 rfl
  have HN := Lib.hid (sp_none h)
  have h1 : ¬ ((gs : Int) ≤ 0) := by omega
  have h2 : ¬ ((j : Int) < 0) := by omega
  have h3 : ¬ ((6 : Int) ≤ (j : Int)) := by omega
  clear h hg hj
  go_enter Tryz.func212, Tryz.ntmps212
  go_wp2_with (go_at_call 236; refine HN.out.mono ?_; rintro e w' ⟨rfl, rfl⟩)
  go_ret
  exact ⟨rfl, rfl⟩
set_option maxRecDepth 100000 in
theorem sp_full (h : Sat w0 (spQ s gs j * F) w) (hg : 1 ≤ gs) (hj : j < 6) : Calls Tryz.prog 170 #[vp s, vi 0, vi j] w fun e w' => e = .returned (vi 10) ∧ Sat w0 (spQ s gs j * F) w' := by
  have HS := Lib.hid h
  obtain ⟨t, v1, v2, v3, M1, M2, M3, hk, hS⟩ := sp_open h
  have c4 := hS.cell 4 rfl
  have HT := Lib.hid (sp_there hS hg hj)
  have hl0 := runK_look_ok (P := Tryz.prog) keyS Tryz.underlying195 (z := vi 0) (fun w => by kernel_rfl) hS.pull3 ((0 : Fin 64), (⟨j, by omega⟩ : Fin 64))
  rw [hk.1 0 ⟨j, by omega⟩ (Nat.le_refl j)] at hl0
  have hl : (Instr.lookup 195 v1 (.agg #[.int .i64 0, .int .i64 (j : Int)]) true).run Tryz.prog w = .ok (.tuple #[.int .i64 0, .bool false]) w := hl0
  clear hl0
  obtain ⟨b1, rfl⟩ := hS.pull3.mapKForm
  clear h hS hk hg hj
  go_enter Tryz.func170, Tryz.ntmps170
  go_wp2_with (go_at_call 212; refine HT.out.mono ?_; rintro e w' ⟨rfl, rfl⟩)
  go_ret
  exact ⟨rfl, HS.out⟩
set_option maxRecDepth 100000 in
theorem sp_free (h : Sat w0 (spQ s gs j * F) w) (hg : 1 ≤ gs) (hj : j < 6) : Calls Tryz.prog 115 #[vp s, vi 0, vi j] w fun e w' => e = .returned (vi 0) ∧ Sat w0 (spQ s gs j * F) w' := by
  have HF := Lib.hid (sp_full h hg hj)
  clear h hg hj
  go_enter Tryz.func115, Tryz.ntmps115
  go_wp2_with (go_at_call 170; refine HF.out.mono ?_; rintro e w1 ⟨rfl, hS1⟩; have H1 := Lib.hid hS1; clear hS1)
  go_ret
  exact ⟨rfl, H1.out⟩
/-- A capability: its kind, its object, its rights. -/
abbrev capL (kd oi og r : Int) : List Value := [.int .i64 kd, .int .i64 oi, .int .u64 og, .int .u8 r]
abbrev capV (kd oi og r : Int) : Value := .agg #[.int .i64 kd, .int .i64 oi, .int .u64 og, .int .u8 r]
set_option maxRecDepth 100000 in
theorem sp_May (kd oi og r : Int) (h1 : 1 ≤ kd) (h2 : kd ≤ 3) (h3 : 0 ≤ oi) (h4 : og ≠ 0) (h : Sat w0 F w) : Calls Tryz.prog 171 #[capV kd oi og r] w fun e w' => e = .returned (.bool true) ∧ Sat w0 F w' := by
  have hB := h.alloc (.cells (capL kd oi og r).toArray 106)
  have c0 := hB.cell 0 rfl
  have c1 := hB.cell 1 rfl
  have c2 := hB.cell 2 rfl
  have H := Lib.hid hB.dropL
  have hne : (og != 0) = true := by simp [bne, beq_eq_false_iff_ne.2 h4]
  clear h hB h4
  go_enter Tryz.func171, Tryz.ntmps171
  go_wp2
  go_ret
  exact ⟨rfl, H.out⟩
set_option maxRecDepth 100000 in
theorem sp_may (kd oi og r : Int) (h1 : 1 ≤ kd) (h2 : kd ≤ 3) (h3 : 0 ≤ oi) (h4 : og ≠ 0) (h : Sat w0 F w) : Calls Tryz.prog 117 #[capV kd oi og r] w fun e w' => e = .returned (vi 0) ∧ Sat w0 F w' := by
  have hB := h.alloc (.cells (capL kd oi og r).toArray 106)
  have c0 := hB.cell 0 rfl
  have c1 := hB.cell 1 rfl
  have c2 := hB.cell 2 rfl
  have c3 := hB.cell 3 rfl
  have HM := Lib.hid (sp_May kd oi og r h1 h2 h3 h4 hB.dropL)
  clear h hB h1 h2 h3 h4
  go_enter Tryz.func117, Tryz.ntmps117
  go_wp2_with (go_at_call 171; refine HM.out.mono ?_; rintro e w1 ⟨rfl, hS1⟩; have H1 := Lib.hid hS1; clear hS1)
  go_ret
  exact ⟨rfl, H1.out⟩
set_option maxRecDepth 100000 in
set_option maxHeartbeats 4000000 in
theorem sp_new (gs : Nat) (h1 : 1 ≤ gs) (h2 : gs ≤ 64) (h : Sat w0 F w) : Calls Tryz.prog 41 #[vi gs, vi 6, vi 40] w fun e w' => ∃ s, e = .returned (.tuple #[vp s, vi 0]) ∧ Sat w0 (spQ s gs 0 * F) w' := by
  have HN := Lib.hid (t_new 40 (by omega) (by omega) h)
  have hg1 : ¬ ((gs : Int) < 1) := by omega
  have hg2 : ¬ (64 < (gs : Int)) := by omega
  have hm1 : ∀ w : World, (Instr.makeMap 195 none).run Tryz.prog w = .ok (.map (some w.heap.size)) (w.alloc (.map #[] 0)) := fun w => rfl
  have hm2 : ∀ w : World, (Instr.makeMap 196 none).run Tryz.prog w = .ok (.map (some w.heap.size)) (w.alloc (.map #[] 0)) := fun w => rfl
  have hm3 : ∀ w : World, (Instr.makeMap 197 none).run Tryz.prog w = .ok (.map (some w.heap.size)) (w.alloc (.map #[] 0)) := fun w => rfl
  clear h h1 h2
  go_enter Tryz.func41, Tryz.ntmps41
  go_wp2_with (go_at_call 96; refine HN.out.mono ?_; rintro e w1 ⟨t, rfl, hS1⟩; have H1 := Lib.hid hS1; clear hS1)
  have hA := H1.out.mapKNew encS encI
  have hA2 := hA.mapKNew encI encS
  rw [size1] at hA2
  have hA3 := hA2.mapKNew encI idV
  rw [size1, size1] at hA3
  have hB := hA3.alloc (.cells (spL gs t (.map (some w1.heap.size)) (.map (some (w1.heap.size + 1))) (.map (some (w1.heap.size + 1 + 1)))).toArray 199)
  rw [size1, size1, size1] at hB
  have HB := Lib.hid hB
  clear hA hA2 hA3 hB
  go_ret2
  refine ⟨_, rfl, sp_shut (t := t) (v1 := .map (some w1.heap.size)) (v2 := .map (some (w1.heap.size + 1))) (v3 := .map (some (w1.heap.size + 1 + 1))) (M1 := fun _ => none) (M2 := fun _ => none) (M3 := fun _ => none) emptyOk (HB.out.cast ?_)⟩
  simp only [spA, pc]
  ac_rfl
end
end Go.Proofs.YtdbppfcilaajaaaGreat.Kn
