/-
  Chapter 08: contexts, plainly: what is kept. No statement is proved here.
-/
import Derived.Test.YtdbppfcilaajaaaGreatMg24
import Derived.Test.YtdbppfcilaajaaaGreatMg23
import Derived.Test.YtdbppfcilaajaaaGreatMg16
import Derived.Laws.ResultCell
import Derived.Deep.MidRow
import Derived.Test.YtdbppfcilaajaaaGreatMg18
import Derived.Test.YtdbppfcilaajaaaGreatMg4
set_option linter.unusedVariables false
set_option linter.unusedSimpArgs false
namespace Go.Proofs.YtdbppfcilaajaaaGreat.Cn
open Go.RowKit Ac Fi
set_option linter.unusedVariables false

structure Cx where
  b : Int
  p : Int
  l : List Rf
  n : Int
structure CP where
  gen : Int
  there : Bool
  cx : Cx
  freed : Int
abbrev cz : Cx := ⟨0, 0, [], 0⟩
/-- What lies in a place's cells is this context. -/
def EM (L : Blks) (x : El) (c : Cx) : Prop := x.v0 = c.b ∧ x.v1 = c.p ∧ InP L (.slice x.a2 x.n2 x.c2) c.l ∧ x.v3 = c.n
theorem EM.mono {L L' : Blks} {x : El} {c : Cx} (h : EM L x c) (hs : ∀ y ∈ L, y ∈ L') : EM L' x c := ⟨h.1, h.2.1, h.2.2.1.mono hs, h.2.2.2⟩
theorem EM.zero (L : Blks) : EM L ez cz := ⟨rfl, rfl, InP.nil L, rfl⟩
structure PM (L : Blks) (ps : List Pl) (cs : List CP) : Prop where
  len : ps.length = cs.length
  at_ : ∀ (k : Nat) (a : Pl) (c : CP), ps[k]? = some a → cs[k]? = some c → a.gen = c.gen ∧ a.there = c.there ∧ EM L a.x c.cx
theorem PM.mono {L L' : Blks} {ps : List Pl} {cs : List CP} (h : PM L ps cs) (hs : ∀ y ∈ L, y ∈ L') : PM L' ps cs :=
  ⟨h.len, fun k a c ha hc => by obtain ⟨h1, h2, h3⟩ := h.at_ k a c ha hc; exact ⟨h1, h2, h3.mono hs⟩⟩
theorem PM.set {L : Blks} {ps : List Pl} {cs : List CP} (h : PM L ps cs) (k : Nat) {a : Pl} {c : CP} (h1 : a.gen = c.gen) (h2 : a.there = c.there) (h3 : EM L a.x c.cx) : PM L (ps.set k a) (cs.set k c) := by
  refine ⟨by rw [List.length_set, List.length_set]; exact h.len, fun j b d hb hd => ?_⟩
  rw [List.getElem?_set] at hb hd
  by_cases hj : k = j
  · subst hj
    rw [if_pos rfl] at hb hd
    split at hb
    · split at hd
      · cases hb
        cases hd
        exact ⟨h1, h2, h3⟩
      · cases hd
    · cases hb
  · rw [if_neg hj] at hb hd
    exact h.at_ j b d hb hd
/-- Who a ref names. -/
def isC (cs : List CP) (i g : Int) : Option (Nat × CP) := if i < 0 then none else match cs[i.toNat]? with
  | none => none
  | some c => if c.there && c.gen == g then some (i.toNat, c) else none
theorem isC_some {cs : List CP} {i g : Int} {k : Nat} {c : CP} (h : isC cs i g = some (k, c)) : cs[k]? = some c ∧ i = k ∧ c.there = true ∧ c.gen = g := by
  unfold isC at h
  split at h
  · cases h
  · split at h
    · cases h
    · rename_i hi c' hc
      split at h
      · rename_i ht
        cases h
        simp only [Bool.and_eq_true, beq_iff_eq] at ht
        exact ⟨hc, by omega, ht.1, ht.2⟩
      · cases h
theorem isC_of {cs : List CP} {k : Nat} {c : CP} (h : cs[k]? = some c) (ht : c.there = true) : isC cs k c.gen = some (k, c) := by
  unfold isC
  rw [if_neg (by omega), Int.toNat_natCast, h]
  simp [ht]
theorem PM.no {L : Blks} {ps : List Pl} {cs : List CP} (h : PM L ps cs) {i g : Int} (hn : isC cs i g = none) : isAt ps i g = none := by
  cases hA : isAt ps i g with
  | none => rfl
  | some x =>
    obtain ⟨k, a⟩ := x
    obtain ⟨ha, rfl, ht, hg⟩ := isAt_some hA
    have hk : k < cs.length := by rw [← h.len]; exact (List.getElem?_eq_some_iff.1 ha).1
    obtain ⟨c, hc⟩ : ∃ c, cs[k]? = some c := ⟨cs[k], List.getElem?_eq_getElem hk⟩
    obtain ⟨h1, h2, _⟩ := h.at_ k a c ha hc
    have := isC_of hc (h2 ▸ ht)
    rw [← h1, hg] at this
    rw [this] at hn
    cases hn
theorem isAt_of {ps : List Pl} {k : Nat} {a : Pl} (h : ps[k]? = some a) (ht : a.there = true) : isAt ps k a.gen = some (k, a) := by
  unfold isAt
  rw [if_neg (by omega), Int.toNat_natCast, h]
  simp [ht]
theorem PM.yes {L : Blks} {ps : List Pl} {cs : List CP} (h : PM L ps cs) {i g : Int} {k : Nat} {c : CP} (hc : isC cs i g = some (k, c)) : ∃ a, isAt ps i g = some (k, a) ∧ ps[k]? = some a ∧ a.gen = c.gen ∧ a.there = true ∧ EM L a.x c.cx := by
  obtain ⟨h1, rfl, ht, hg⟩ := isC_some hc
  have hk : k < ps.length := by rw [h.len]; exact (List.getElem?_eq_some_iff.1 h1).1
  obtain ⟨a, ha⟩ : ∃ a, ps[k]? = some a := ⟨ps[k], List.getElem?_eq_getElem hk⟩
  obtain ⟨e1, e2, e3⟩ := h.at_ k a c ha h1
  have := isAt_of ha (e2.trans ht)
  rw [e1, hg] at this
  exact ⟨a, this, ha, e1, e2.trans ht, e3⟩
/-- One that is there. -/
structure Live (most : Int) (T : Nat) (c : Cx) : Prop where
  b : 1 ≤ c.b ∧ c.b ≤ 4294967296
  p : 1 ≤ c.p ∧ c.p ≤ 4294967296
  may : MayL c.l
  ok : OkL c.l
  tot : tot c.l = c.b
  len : (c.l.length : Int) ≤ most
  n : 0 ≤ c.n ∧ c.n ≤ (T : Int)
theorem Live.mono {most : Int} {T T' : Nat} {c : Cx} (h : Live most T c) (ht : T ≤ T') : Live most T' c := { h with n := ⟨h.n.1, by have := h.n.2; omega⟩ }
/-- What is kept. -/
structure Inv (n : Nat) (most : Int) (T : Nat) (cs : List CP) (free : List Nat) (times : Int) : Prop where
  len : cs.length = n
  small : 1 ≤ n ∧ n ≤ 32
  mst : 2 ≤ most ∧ most ≤ 16
  gens : ∀ (k : Nat) (c : CP), cs[k]? = some c → 1 ≤ c.gen ∧ c.gen ≤ (T : Int) + 1
  live : ∀ (k : Nat) (c : CP), cs[k]? = some c → c.there = true → Live most T c.cx
  gone : ∀ (k : Nat) (c : CP), cs[k]? = some c → c.there = false → c.cx = cz
  mem : ∀ k : Nat, k ∈ free ↔ ∃ c : CP, cs[k]? = some c ∧ c.there = false
  ord : free.Pairwise fun i j => ∀ (a b : CP), cs[i]? = some a → cs[j]? = some b → a.freed < b.freed
  tm : 0 ≤ times ∧ times ≤ (T : Int)
  fr : ∀ (k : Nat) (c : CP), cs[k]? = some c → -32 ≤ c.freed ∧ c.freed ≤ times
section
variable {n T : Nat} {most times : Int} {cs : List CP} {free : List Nat}
theorem Inv.mono (h : Inv n most T cs free times) {T' : Nat} (ht : T ≤ T') : Inv n most T' cs free times :=
  { h with gens := fun k c hk => by have := h.gens k c hk; omega
           live := fun k c hk hth => (h.live k c hk hth).mono ht
           tm := by have := h.tm; omega }
theorem get_setC {k : Nat} {a : CP} (hk : cs[k]? = some a) (a' : CP) (j : Nat) (b : CP) (h : (cs.set k a')[j]? = some b) : (j = k ∧ b = a') ∨ (j ≠ k ∧ cs[j]? = some b) := by
  rw [List.getElem?_set] at h
  by_cases hj : k = j
  · subst hj
    rw [if_pos rfl, if_pos (List.getElem?_eq_some_iff.1 hk).1] at h
    exact .inl ⟨rfl, (Option.some.inj h).symm⟩
  · rw [if_neg hj] at h
    exact .inr ⟨fun e => hj e.symm, h⟩
theorem set_selfC {k : Nat} {a : CP} (hk : cs[k]? = some a) (a' : CP) : (cs.set k a')[k]? = some a' := by
  rw [List.getElem?_set_self (List.getElem?_eq_some_iff.1 hk).1]
theorem Inv.lt (h : Inv n most T cs free times) {k : Nat} {c : CP} (hk : cs[k]? = some c) : k < n := by
  rw [← h.len]
  exact (List.getElem?_eq_some_iff.1 hk).1
/-- One that is there is turned. -/
theorem Inv.setx (h : Inv n most T cs free times) {k : Nat} {c : CP} (hk : cs[k]? = some c) (ht : c.there = true) {x : Cx} (hx : Live most (T + 1) x) : Inv n most (T + 1) (cs.set k { c with cx := x }) free times := by
  have h' := h.mono (Nat.le_succ T)
  have hkf : k ∉ free := fun hm => by
    obtain ⟨d, hd, hf⟩ := (h.mem k).1 hm
    rw [hk] at hd
    cases hd
    rw [ht] at hf
    cases hf
  refine ⟨by rw [List.length_set]; exact h.len, h.small, h.mst, ?_, ?_, ?_, ?_, ?_, h'.tm, ?_⟩
  · intro j d hj
    rcases get_setC hk _ j d hj with ⟨rfl, rfl⟩ | ⟨_, hd⟩
    · have e := h'.gens _ _ hk
      exact e
    · exact h'.gens _ _ hd
  · intro j d hj hth
    rcases get_setC hk _ j d hj with ⟨rfl, rfl⟩ | ⟨_, hd⟩
    · exact hx
    · exact h'.live _ _ hd hth
  · intro j d hj hth
    rcases get_setC hk _ j d hj with ⟨rfl, rfl⟩ | ⟨_, hd⟩
    · exact absurd (hth.symm.trans ht) (by simp)
    · exact h.gone _ _ hd hth
  · intro j
    rw [h.mem]
    by_cases hj : j = k
    · subst hj
      constructor
      · rintro ⟨d, hd, hf⟩
        rw [hk] at hd
        cases hd
        rw [ht] at hf
        cases hf
      · rintro ⟨d, hd, hf⟩
        rw [set_selfC hk] at hd
        cases hd
        exact absurd (hf.symm.trans ht) (by simp)
    · rw [List.getElem?_set_ne (by omega)]
  · refine h.ord.imp_of_mem fun {i j} hi hj hr a b ha hb => ?_
    have hik : i ≠ k := fun e => hkf (e ▸ hi)
    have hjk : j ≠ k := fun e => hkf (e ▸ hj)
    rw [List.getElem?_set_ne (by omega)] at ha hb
    exact hr a b ha hb
  · intro j d hj
    rcases get_setC hk _ j d hj with ⟨rfl, rfl⟩ | ⟨_, hd⟩
    · have e := h.fr _ _ hk
      exact e
    · exact h.fr _ _ hd
/-- One comes. -/
theorem Inv.come {k : Nat} (h : Inv n most T cs (free ++ [k]) times) {c : CP} (hk : cs[k]? = some c) {x : Cx} (hx : Live most (T + 1) x) : Inv n most (T + 1) (cs.set k { c with there := true, cx := x }) free times := by
  have h' := h.mono (Nat.le_succ T)
  have hkf : k ∉ free := fun hm => by
    have := (List.pairwise_append.1 h.ord).2.2 k hm k List.mem_cons_self c c hk hk
    omega
  have hct : c.there = false := by
    obtain ⟨d, hd, hf⟩ := (h.mem k).1 (by simp)
    rw [hk] at hd
    cases hd
    exact hf
  refine ⟨by rw [List.length_set]; exact h.len, h.small, h.mst, ?_, ?_, ?_, ?_, ?_, h'.tm, ?_⟩
  · intro j d hj
    rcases get_setC hk _ j d hj with ⟨rfl, rfl⟩ | ⟨_, hd⟩
    · have e := h'.gens _ _ hk
      exact e
    · exact h'.gens _ _ hd
  · intro j d hj hth
    rcases get_setC hk _ j d hj with ⟨rfl, rfl⟩ | ⟨_, hd⟩
    · exact hx
    · exact h'.live _ _ hd hth
  · intro j d hj hth
    rcases get_setC hk _ j d hj with ⟨rfl, rfl⟩ | ⟨_, hd⟩
    · cases hth
    · exact h.gone _ _ hd hth
  · intro j
    by_cases hj : j = k
    · subst hj
      constructor
      · intro hm
        exact absurd hm hkf
      · rintro ⟨d, hd, hf⟩
        rw [set_selfC hk] at hd
        cases hd
        cases hf
    · rw [List.getElem?_set_ne (by omega), ← h.mem]
      simp [hj]
  · refine (List.pairwise_append.1 h.ord).1.imp_of_mem fun {i j} hi hj hr a b ha hb => ?_
    have hik : i ≠ k := fun e => hkf (e ▸ hi)
    have hjk : j ≠ k := fun e => hkf (e ▸ hj)
    rw [List.getElem?_set_ne (by omega)] at ha hb
    exact hr a b ha hb
  · intro j d hj
    rcases get_setC hk _ j d hj with ⟨rfl, rfl⟩ | ⟨_, hd⟩
    · have e := h.fr _ _ hk
      exact e
    · exact h.fr _ _ hd
/-- One goes. -/
theorem Inv.go (h : Inv n most T cs free times) {k : Nat} {c : CP} (hk : cs[k]? = some c) (ht : c.there = true) : Inv n most (T + 1) (cs.set k ⟨c.gen + 1, false, cz, times + 1⟩) (free ++ [k]) (times + 1) := by
  have h' := h.mono (Nat.le_succ T)
  have hkf : k ∉ free := fun hm => by
    obtain ⟨d, hd, hf⟩ := (h.mem k).1 hm
    rw [hk] at hd
    cases hd
    rw [ht] at hf
    cases hf
  have htm := h.tm
  refine ⟨by rw [List.length_set]; exact h.len, h.small, h.mst, ?_, ?_, ?_, ?_, ?_, by omega, ?_⟩
  · intro j d hj
    rcases get_setC hk _ j d hj with ⟨rfl, rfl⟩ | ⟨_, hd⟩
    · have := h.gens _ _ hk
      dsimp only
      omega
    · exact h'.gens _ _ hd
  · intro j d hj hth
    rcases get_setC hk _ j d hj with ⟨rfl, rfl⟩ | ⟨_, hd⟩
    · cases hth
    · exact h'.live _ _ hd hth
  · intro j d hj hth
    rcases get_setC hk _ j d hj with ⟨rfl, rfl⟩ | ⟨_, hd⟩
    · rfl
    · exact h.gone _ _ hd hth
  · intro j
    by_cases hj : j = k
    · subst hj
      constructor
      · intro _
        exact ⟨_, set_selfC hk _, rfl⟩
      · intro _
        simp
    · rw [List.getElem?_set_ne (by omega), ← h.mem]
      simp [hj]
  · refine List.pairwise_append.2 ⟨h.ord.imp_of_mem fun {i j} hi hj hr a b ha hb => ?_, by simp, fun i hi j hj a b ha hb => ?_⟩
    · have hik : i ≠ k := fun e => hkf (e ▸ hi)
      have hjk : j ≠ k := fun e => hkf (e ▸ hj)
      rw [List.getElem?_set_ne (by omega)] at ha hb
      exact hr a b ha hb
    · have hjk := List.mem_singleton.1 hj
      subst hjk
      have hik : i ≠ j := fun e => hkf (e ▸ hi)
      rw [List.getElem?_set_ne (by omega)] at ha
      rw [set_selfC hk] at hb
      cases hb
      have := (h.fr _ _ ha).2
      show a.freed < times + 1
      omega
  · intro j d hj
    rcases get_setC hk _ j d hj with ⟨rfl, rfl⟩ | ⟨_, hd⟩
    · dsimp only
      omega
    · have := h.fr _ _ hd
      omega
/-- None are there. -/
def newC (n : Nat) : List CP := (List.range n).map fun i : Nat => ⟨1, false, cz, -1 - (i : Int)⟩
theorem newC_at {n k : Nat} {c : CP} (h : (newC n)[k]? = some c) : k < n ∧ c = ⟨1, false, cz, -1 - (k : Int)⟩ := by
  unfold newC at h
  rw [List.getElem?_map] at h
  by_cases hk : k < n
  · rw [List.getElem?_range hk] at h
    exact ⟨hk, (Option.some.inj h).symm⟩
  · rw [List.getElem?_eq_none (by simp; omega)] at h
    cases h
theorem newC_get {n k : Nat} (h : k < n) : (newC n)[k]? = some ⟨1, false, cz, -1 - (k : Int)⟩ := by
  unfold newC
  rw [List.getElem?_map, List.getElem?_range h]
  rfl
theorem Inv.new (n : Nat) (hn : 1 ≤ n ∧ n ≤ 32) (most : Int) (hm : 2 ≤ most ∧ most ≤ 16) : Inv n most 0 (newC n) (newF n n) 0 := by
  refine ⟨by simp [newC], hn, hm, ?_, ?_, ?_, ?_, ?_, by omega, ?_⟩
  · intro k c hk
    rw [(newC_at hk).2]
    exact ⟨by simp, by simp⟩
  · intro k c hk ht
    rw [(newC_at hk).2] at ht
    cases ht
  · intro k c hk ht
    rw [(newC_at hk).2]
  · intro k
    unfold newF
    rw [List.mem_map]
    constructor
    · rintro ⟨j, hj, rfl⟩
      rw [List.mem_range] at hj
      exact ⟨_, newC_get (by omega), rfl⟩
    · rintro ⟨c, hc, _⟩
      have := (newC_at hc).1
      exact ⟨n - 1 - k, by rw [List.mem_range]; omega, by omega⟩
  · unfold newF
    refine List.pairwise_map.2 (List.Pairwise.imp_of_mem (fun {x y} hx hy hlt a b ha hb => ?_) List.pairwise_lt_range)
    rw [List.mem_range] at hx hy
    rw [(newC_at ha).2, (newC_at hb).2]
    dsimp only
    omega
  · intro k c hk
    obtain ⟨h1, rfl⟩ := newC_at hk
    dsimp only
    omega
theorem PM.new (L : Blks) (n : Nat) : PM L (List.replicate n ⟨1, false, false, ez⟩) (newC n) := by
  refine ⟨by simp [newC], fun k a c ha hc => ?_⟩
  obtain ⟨h1, rfl⟩ := newC_at hc
  rw [List.getElem?_replicate, if_pos h1] at ha
  cases ha
  exact ⟨rfl, rfl, EM.zero L⟩
end
end Go.Proofs.YtdbppfcilaajaaaGreat.Cn

namespace Go.Proofs.YtdbppfcilaajaaaGreat.Fi
open Go.RowKit
set_option linter.unusedVariables false

section
variable {w : World} {v : Value} {l : List Rf} {now amount : Int}
end
end Go.Proofs.YtdbppfcilaajaaaGreat.Fi

namespace Go.Proofs.YtdbppfcilaajaaaGreat.Fi
open Go.RowKit
set_option linter.unusedVariables false

section
variable {w : World} {v : Value} {l : List Rf} {now amount most : Int}
end
end Go.Proofs.YtdbppfcilaajaaaGreat.Fi

namespace Go.Proofs.YtdbppfcilaajaaaGreat.Fi
open Go.RowKit
set_option linter.unusedVariables false

section
variable {w : World} {v : Value} {l : List Rf} {now amount most : Int}
end
end Go.Proofs.YtdbppfcilaajaaaGreat.Fi

namespace Go.Proofs.YtdbppfcilaajaaaGreat.Cn
open Go.RowKit Ac Fi
set_option linter.unusedVariables false
set_option linter.unusedSimpArgs false

section
variable {w0 w : World} {F : Hp} {h p : Nat} {most : Int} {ps : List Pl} {free : List Nat} {L : Blks} {l : List Rf}
/-- A closure. -/
abbrev fv (f : Nat × List Value) : Value := .func (.func f.1) #[] f.2.toArray
/-- What part says. -/
def partC (b : Int) (l : List Rf) (amount now : Int) : Int := if amount = 0 ∨ 1152921504606846976 < now then 2 else if b ≤ amount ∨ thereV l now < amount then 15 else 0
end
end Go.Proofs.YtdbppfcilaajaaaGreat.Cn

namespace Go.Proofs.YtdbppfcilaajaaaGreat.Cn
open Go.RowKit Ac Fi
set_option linter.unusedVariables false

section
variable {w0 w : World} {F : Hp} {h p : Nat} {most : Int} {ps : List Pl} {free : List Nat}
set_option maxRecDepth 100000 in
set_option maxHeartbeats 2000000 in
theorem cx_find (hS : Sat w0 (cxB h p most * (tblP p ps free * F)) w) (i g : Int) : Calls Tryz.prog 142 #[vp h, vr i g] w fun e w' => e = .returned (.tuple #[ev (getX ps i g), vi (getE ps i g)]) ∧ Sat w0 (cxB h p most * (tblP p ps free * F)) w' := by
  have hB0 := ((hS.alloc (.cells #[vi i, vu g] 30)).alloc (elO ez))
  rw [size1] at hB0
  have hB : Sat w0 (elB (w.heap.size + 1) ez * (pc w.heap.size 30 [vi i, vu g] * (cxB h p most * (tblP p ps free * F)))) ((w.alloc (.cells #[vi i, vu g] 30)).alloc (elO ez)) := hB0
  have HN := Lib.hid (cx_none hB.pull3)
  have HG := Lib.hid (get_ (hB.drew.pull4) i g)
  have HB := Lib.hid hB
  clear hB hB0 hS
  generalize hwb : (w.alloc (.cells #[vi i, vu g] 30)).alloc (elO ez) = wb at *
  generalize hb1 : w.heap.size + 1 = bx at *
  generalize hb2 : w.heap.size = b2 at *
  have HW := Lib.hid hwb
  have HB1 := Lib.hid hb1
  have HB2 := Lib.hid hb2
  clear hwb hb1 hb2
  generalize getX ps i g = x at *
  generalize getE ps i g = er at *
  go_enter Tryz.func142, Tryz.ntmps142
  go_wp2_with fail
  rw [HW.out, HB2.out, HB1.out]
  refine HN.out.mono ?_
  rintro e w' ⟨rfl, rfl⟩
  go_wp2
  have hS0 : (fun w' => w'.cell? ⟨h, 0, none⟩ = some (vp p) ∧ w'.cell? ⟨b2, 0, none⟩ = some (vi i) ∧ w'.cell? ⟨b2, 1, none⟩ = some (vu g)) wb.drew := ⟨HB.out.drew.pull3.cell 0 rfl, HB.out.drew.pull2.cell 0 rfl, HB.out.drew.pull2.cell 1 rfl⟩
  refine wp_region_held (S := fun w' => w'.cell? ⟨h, 0, none⟩ = some (vp p) ∧ w'.cell? ⟨b2, 0, none⟩ = some (vi i) ∧ w'.cell? ⟨b2, 1, none⟩ = some (vu g)) (by kernel_rfl) ?_
  change wpAnyH _ _ _ _ _ _ _ _ (World.drew _)
  refine wpAnyH_take (i := 0) (v := vp h) rfl (by kernel_rfl) (by kernel_rfl) (by kernel_rfl) (fun _ _ _ h => h) (Or.inl ⟨by rfl, fun w' hw' => by go_simp⟩) hS0 ?_
  simp only [Act.put, List.setIfInBounds_toArray, List.set_cons_zero, List.set_cons_succ]
  refine wpAnyH_take (i := 1) (v := vp h) rfl (by kernel_rfl) (by kernel_rfl) (by kernel_rfl) (fun _ _ _ h => h) (Or.inl ⟨by rfl, fun w' hw' => by go_simp⟩) hS0 ?_
  simp only [Act.put, List.setIfInBounds_toArray, List.set_cons_zero, List.set_cons_succ]
  refine wpAnyH_take (i := 2) (v := (.pointer (some ⟨h, 0, none⟩))) rfl (by kernel_rfl) (by kernel_rfl) (by kernel_rfl) (fun _ _ _ h => h) (Or.inl ⟨by rfl, fun w' hw' => by go_simp⟩) hS0 ?_
  simp only [Act.put, List.setIfInBounds_toArray, List.set_cons_zero, List.set_cons_succ]
  refine wpAnyH_take (i := 3) (v := vp p) rfl (by kernel_rfl) (by kernel_rfl) (by kernel_rfl) (fun _ _ _ h => h) (Or.inl ⟨by rfl, fun w' hw' => by (have h1 := hw'.1; go_simp)⟩) hS0 ?_
  simp only [Act.put, List.setIfInBounds_toArray, List.set_cons_zero, List.set_cons_succ]
  refine wpAnyH_take (i := 4) (v := vr i g) rfl (by kernel_rfl) (by kernel_rfl) (by kernel_rfl) (fun _ _ _ h => h) (Or.inl ⟨by rfl, fun w' hw' => by (have h1 := hw'.2.1; have h2 := hw'.2.2; go_simp)⟩) hS0 ?_
  simp only [Act.put, List.setIfInBounds_toArray, List.set_cons_zero, List.set_cons_succ]
  refine wpAnyH_ready (rs := [5]) (by kernel_rfl) (by simp) ?_
  refine AllReadyH.cons rfl (fun K hK => ?_) AllReadyH.nil
  go_simp
  refine HG.out.mono ?_
  rintro e w1 ⟨rfl, hS1⟩
  have HX := Lib.hid hS1.pull2
  have hS1' : (fun w' => w'.cell? ⟨h, 0, none⟩ = some (vp p) ∧ w'.cell? ⟨b2, 0, none⟩ = some (vi i) ∧ w'.cell? ⟨b2, 1, none⟩ = some (vu g)) w1 := ⟨HX.out.pull4.cell 0 rfl, HX.out.pull3.cell 0 rfl, HX.out.pull3.cell 1 rfl⟩
  clear hS1
  refine hK.out _ _ hS1' (fun _ => ?_)
  try simp only [Act.put, List.setIfInBounds_toArray, List.set_cons_zero, List.set_cons_succ]
  refine wpAnyH_take (i := 6) (v := ev x) rfl (by kernel_rfl) (by kernel_rfl) (by kernel_rfl) (fun _ _ _ h => h) (Or.inl ⟨by rfl, fun w' hw' => by go_simp⟩) hS1' ?_
  simp only [Act.put, List.setIfInBounds_toArray, List.set_cons_zero, List.set_cons_succ]
  refine wpAnyH_take (i := 7) (v := vi er) rfl (by kernel_rfl) (by kernel_rfl) (by kernel_rfl) (fun _ _ _ h => h) (Or.inl ⟨by rfl, fun w' hw' => by go_simp⟩) hS1' ?_
  simp only [Act.put, List.setIfInBounds_toArray, List.set_cons_zero, List.set_cons_succ]
  refine wpAnyH_ready (rs := [8]) (by kernel_rfl) (by simp) ?_
  refine AllReadyH.cons rfl (fun K' hK' => ?_) AllReadyH.nil
  rw [if_pos (by rfl)]
  have hth := there_ (n := 4) HX.out rfl
  have hrg := World.rangeAt_setCells_same w1 bx 0 (elC x) hth
  have hst : Sat w0 _ (w1.setCells bx 0 (elC x)) := HX.out.stores (elC x) 0
  refine wp_store_mid 180 _ _ rfl bx 0 (elC x).toArray (by rfl) (by rfl) hth einfo (all_oneCell_toArray (elOne x)) ?_
  have hst2 : Sat w0 _ (w1.setCells bx 0 (elC x).toArray.toList) := hst
  have hrg : (w1.setCells bx 0 (elC x).toArray.toList).rangeAt bx 0 (elC x) := hrg
  generalize w1.setCells bx 0 (elC x).toArray.toList = w2 at *
  have HX2 := Lib.hid hst2
  have hS2 : (fun w' => w'.cell? ⟨h, 0, none⟩ = some (vp p) ∧ w'.cell? ⟨b2, 0, none⟩ = some (vi i) ∧ w'.cell? ⟨b2, 1, none⟩ = some (vu g)) w2 := ⟨HX2.out.pull4.cell 0 rfl, HX2.out.pull3.cell 0 rfl, HX2.out.pull3.cell 1 rfl⟩
  clear hst hst2 hth
  refine hK'.out _ _ hS2 (fun _ => ?_)
  try simp only [Act.put, List.setIfInBounds_toArray, List.set_cons_zero, List.set_cons_succ]
  refine wpAnyH_ready (rs := [9]) (by kernel_rfl) (by simp) ?_
  refine AllReadyH.cons rfl (fun K'' hK'' => ?_) AllReadyH.nil
  go_simp
  refine hK''.out _ _ hS2 (fun _ => ?_)
  try simp only [Act.put, List.setIfInBounds_toArray, List.set_cons_zero, List.set_cons_succ]
  refine wpAnyH_done (by kernel_rfl) ?_ _
  clear hS0 hS1' hS2 hK hK' hK''
  go_wp2
  (try simp only [Exit.inBlock, Exit.then])
  refine bodyPost_ret (v := .tuple #[ev x, vi er]) (results_row rfl _ _ _ rfl rfl hrg Tryz.underlying180 rfl einfo) rfl ?_
  exact ⟨rfl, HX2.out.dropL.pull2.dropL.pull2⟩
end
end Go.Proofs.YtdbppfcilaajaaaGreat.Cn

namespace Go.Proofs.YtdbppfcilaajaaaGreat.Cn
open Go.RowKit Ac Fi
set_option linter.unusedVariables false
set_option linter.unusedSimpArgs false

section
variable {w0 w : World} {F : Hp} {h p : Nat} {most : Int} {ps : List Pl} {free : List Nat} {L : Blks} {l : List Rf}
set_option maxRecDepth 100000 in
set_option maxHeartbeats 2000000 in
theorem cx_copied {v0 v1 v3 : Int} {a2 : Option Addr} {n2 c2 : Nat} (hS : Sat w0 (F) w) (hR : ∀ w', Sat w0 F w' → RdF w' (.slice a2 n2 c2) l) (hl : l.length ≤ 1000) :
    Calls Tryz.prog 166 #[ev ⟨v0, v1, a2, n2, c2, v3⟩] w fun e w' => ∃ ao lc, e = .returned (ev ⟨v0, v1, ao, l.length, lc, v3⟩) ∧ Sat w0 (fiS (.slice ao l.length lc) l * F) w' := by
  have hA0 := (hS.alloc (elO ⟨v0, v1, a2, n2, c2, v3⟩)).alloc (elO ez)
  rw [size1] at hA0
  have hA : Sat w0 (pc (w.heap.size + 1) 180 (elC ez) * (pc w.heap.size 180 (elC ⟨v0, v1, a2, n2, c2, v3⟩) * (F))) _ := hA0
  have q2 := hA.pull2.cell 2 rfl
  have HA := Lib.hid hA
  have HR := Lib.hid hR
  clear hA hA0 hS hR
  go_enter Tryz.func166, Tryz.ntmps166
  go_wp2_with (first
    | (go_at_call 210; refine (clone_ (HR.out _ HA.out.dropL.dropL) (by omega)).mono ?_; rintro e w1 ⟨v1', rfl, hS1⟩; obtain ⟨ao, lc, rfl⟩ := hS1.sloForm; have h1 := (Sat.link HA.out hS1).cast (show _ = pc w.heap.size 180 (elC ⟨v0, v1, a2, n2, c2, v3⟩) * (pc (w.heap.size + 1) 180 (elC ez) * (fiS (.slice ao l.length lc) l * (F))) by ac_rfl); have h2 : Sat w0 (pc w.heap.size 180 (elC ⟨v0, v1, ao, l.length, lc, v3⟩) * (pc (w.heap.size + 1) 180 (elC ez) * (fiS (.slice ao l.length lc) l * (F)))) _ := h1.store 2 (.slice ao l.length lc); have fz := h1.free 2; have q0 := h2.cell 0 rfl; have q1 := h2.cell 1 rfl; have q3 := h2.cell 3 rfl; have H2 := Lib.hid h2.pull2; have fz := h1.free 2; have p0 := h1.cell 0 rfl; have p1 := h1.cell 1 rfl; have p2 := h1.cell 2 rfl; have p3 := h1.cell 3 rfl; clear hS1 h1 h2)
    | (refine wpList_store_mid rfl 180 _ _ rfl (w.heap.size + 1) 0 (elC ⟨v0, v1, ao, l.length, lc, v3⟩).toArray (by rfl) (by rfl) (Sat.thereN (n := 4) H2.out rfl) einfo (all_oneCell_toArray (elOne _)) ?_; have hs := Sat.rowAll H2.out (elC ⟨v0, v1, ao, l.length, lc, v3⟩) rfl; have HS := Lib.hid hs; clear hs; generalize World.setCells _ _ _ _ = w2 at *))
  refine bodyPost_ret (v := ev ⟨v0, v1, ao, l.length, lc, v3⟩) (results_row1 rfl _ _ _ rfl HS.out.rangeN Tryz.underlying180 rfl einfo) rfl ?_
  exact ⟨ao, lc, rfl, HS.out.dropL.dropL⟩
set_option maxRecDepth 100000 in
set_option maxHeartbeats 2000000 in
theorem cx_get (hS : Sat w0 (cxB h p most * (tblP p ps free * (plB L * (F)))) w) (i g : Int) (hi : InP L (.slice (getX ps i g).a2 (getX ps i g).n2 (getX ps i g).c2) l) (hl : l.length ≤ 1000) :
    Calls Tryz.prog 106 #[vp h, vr i g] w fun e w' => ∃ ao lc, e = .returned (.tuple #[ev ⟨(getX ps i g).v0, (getX ps i g).v1, ao, l.length, lc, (getX ps i g).v3⟩, vi (getE ps i g)]) ∧ Sat w0 (fiS (.slice ao l.length lc) l * (cxB h p most * (tblP p ps free * (plB L * (F))))) w' := by
  have hB0 := (hS.alloc (.cells #[vi i, vu g] 30)).alloc (elO ez)
  rw [size1] at hB0
  have hB1 : Sat w0 (pc (w.heap.size + 1) 180 (elC ez) * (pc w.heap.size 30 [vi i, vu g] * (cxB h p most * (tblP p ps free * (plB L * (F)))))) ((w.alloc (.cells #[vi i, vu g] 30)).alloc (elO ez)) := hB0
  have b0 := hB1.pull2.cell 0 rfl
  have b1 := hB1.pull2.cell 1 rfl
  have hB := (hB1).cast (show _ = cxB h p most * (tblP p ps free * (pc (w.heap.size + 1) 180 (elC ez) * (pc w.heap.size 30 [vi i, vu g] * (plB L * (F))))) by ac_rfl)
  have HG := Lib.hid (cx_find hB i g)
  have HI := Lib.hid hi
  clear hB hB0 hB1 hS hi
  generalize getE ps i g = er at *
  generalize getX ps i g = x at *
  obtain ⟨v0, v1, a2, n2, c2, v3⟩ := x
  go_enter Tryz.func106, Tryz.ntmps106
  go_wp2_with (first
    | (go_at_call 142; refine HG.out.mono ?_; rintro e w1 ⟨rfl, hS1⟩; have HS1 := Lib.hid hS1; have hA : Sat w0 (pc w1.heap.size 180 (elC ⟨v0, v1, a2, n2, c2, v3⟩) * _) (w1.alloc (elO ⟨v0, v1, a2, n2, c2, v3⟩)) := hS1.alloc (elO ⟨v0, v1, a2, n2, c2, v3⟩); have H1 := Lib.hid hA; have hx0 := hA.cell 0 rfl; have hx1 := hA.cell 1 rfl; have hx2 := hA.cell 2 rfl; have hx3 := hA.cell 3 rfl; clear hA hS1)
    | (go_at_call 166; refine (cx_copied (v0 := v0) (v1 := v1) (v3 := v3) (a2 := a2) (n2 := n2) (c2 := c2) H1.out (fun w' h' => Sat.plRd ((h').cast (show _ = plB L * (pc w1.heap.size 180 (elC ⟨v0, v1, a2, n2, c2, v3⟩) * (pc (w.heap.size + 1) 180 (elC ez) * (pc w.heap.size 30 [vi i, vu g] * (cxB h p most * (tblP p ps free * (F)))))) by ac_rfl)) HI.out) hl).mono ?_; rintro e w2 ⟨ao, lc, rfl, hS2⟩; have H2 := Lib.hid ((hS2).cast (show _ = pc (w.heap.size + 1) 180 (elC ez) * (pc w1.heap.size 180 (elC ⟨v0, v1, a2, n2, c2, v3⟩) * (pc w.heap.size 30 [vi i, vu g] * (fiS (.slice ao l.length lc) l * (cxB h p most * (tblP p ps free * (plB L * (F))))))) by ac_rfl)); clear hS2)
    | (refine wpList_store_mid rfl 180 _ _ rfl (w.heap.size + 1) 0 (elC ⟨v0, v1, ao, l.length, lc, v3⟩).toArray (by rfl) (by rfl) (Sat.thereN (n := 4) H2.out rfl) einfo (all_oneCell_toArray (elOne _)) ?_; have hs := Sat.rowAll H2.out (elC ⟨v0, v1, ao, l.length, lc, v3⟩) rfl; have HS := Lib.hid hs; clear hs; generalize World.setCells _ _ _ _ = w3 at *))
  refine bodyPost_ret (v := .tuple #[ev ⟨v0, v1, ao, l.length, lc, v3⟩, vi er]) (results_row rfl _ _ _ rfl rfl HS.out.rangeN Tryz.underlying180 rfl einfo) rfl ?_
  exact ⟨ao, lc, rfl, HS.out.dropL.dropL.dropL⟩
end
end Go.Proofs.YtdbppfcilaajaaaGreat.Cn

namespace Go.Proofs.YtdbppfcilaajaaaGreat.Cn
open Go.RowKit Ac Fi
set_option linter.unusedVariables false
set_option linter.unusedSimpArgs false

section
variable {w0 w : World} {F : Hp} {h p : Nat} {most : Int} {ps : List Pl} {free : List Nat} {L : Blks} {l : List Rf}
/-- Such a context may be made. -/
def MkOk (b p now : Int) : Prop := 1 ≤ b ∧ b ≤ 4294967296 ∧ 1 ≤ p ∧ p ≤ 4294967296 ∧ now ≤ 1152921504606846976
instance (b p now : Int) : Decidable (MkOk b p now) := inferInstanceAs (Decidable (_ ∧ _))
set_option maxRecDepth 100000 in
set_option maxHeartbeats 2000000 in
theorem make_arg (hS : Sat w0 (cxB h p most * (tblP p ps free * (plB L * (F)))) w) (b per now : Int) (hc : ¬ MkOk b per now) :
    Calls Tryz.prog 47 #[vp h, vu b, vu per, vu now] w fun e w' => e = .returned (.tuple #[vr 0 0, vi 2]) ∧ Sat w0 (cxB h p most * (tblP p ps free * (plB L * (F)))) w' := by
  have hB : Sat w0 (pc w.heap.size 30 [vi 0, vu 0] * (cxB h p most * (tblP p ps free * (plB L * (F))))) (w.alloc (.cells #[vi 0, vu 0] 30)) := hS.alloc (.cells #[vi 0, vu 0] 30)
  have HN := Lib.hid (cx_none hB.pull2)
  have z0 := hB.cell 0 rfl
  have z1 := hB.cell 1 rfl
  have f0 := hB.free 0
  have f1 := hB.free 1
  have HB := Lib.hid hB
  clear hS hB
  by_cases h1 : b < 1
  · clear hc
    go_enter Tryz.func47, Tryz.ntmps47
    go_wp2_with (go_at_call 99; refine HN.out.mono ?_; rintro e w' ⟨rfl, rfl⟩)
    refine bodyPost_ret (v := .tuple #[vr 0 0, vi 2]) (by rw [results_cell_tmp rfl]; go_simp) rfl ?_
    first | exact ⟨rfl, HB.out.dropL⟩ | exact ⟨rfl, ((HB.out.store 0 (vi 0)).store 1 (vu 0)).dropL⟩
  · by_cases h2 : 4294967296 < b
    · clear hc
      go_enter Tryz.func47, Tryz.ntmps47
      go_wp2_with (go_at_call 99; refine HN.out.mono ?_; rintro e w' ⟨rfl, rfl⟩)
      refine bodyPost_ret (v := .tuple #[vr 0 0, vi 2]) (by rw [results_cell_tmp rfl]; go_simp) rfl ?_
      first | exact ⟨rfl, HB.out.dropL⟩ | exact ⟨rfl, ((HB.out.store 0 (vi 0)).store 1 (vu 0)).dropL⟩
    · by_cases h3 : per < 1
      · clear hc
        go_enter Tryz.func47, Tryz.ntmps47
        go_wp2_with (go_at_call 99; refine HN.out.mono ?_; rintro e w' ⟨rfl, rfl⟩)
        refine bodyPost_ret (v := .tuple #[vr 0 0, vi 2]) (by rw [results_cell_tmp rfl]; go_simp) rfl ?_
        first | exact ⟨rfl, HB.out.dropL⟩ | exact ⟨rfl, ((HB.out.store 0 (vi 0)).store 1 (vu 0)).dropL⟩
      · by_cases h4 : 4294967296 < per
        · clear hc
          go_enter Tryz.func47, Tryz.ntmps47
          go_wp2_with (go_at_call 99; refine HN.out.mono ?_; rintro e w' ⟨rfl, rfl⟩)
          refine bodyPost_ret (v := .tuple #[vr 0 0, vi 2]) (by rw [results_cell_tmp rfl]; go_simp) rfl ?_
          first | exact ⟨rfl, HB.out.dropL⟩ | exact ⟨rfl, ((HB.out.store 0 (vi 0)).store 1 (vu 0)).dropL⟩
        · have h5 : 1152921504606846976 < now := by unfold MkOk at hc; omega
          clear hc
          go_enter Tryz.func47, Tryz.ntmps47
          go_wp2_with (go_at_call 99; refine HN.out.mono ?_; rintro e w' ⟨rfl, rfl⟩)
          refine bodyPost_ret (v := .tuple #[vr 0 0, vi 2]) (by rw [results_cell_tmp rfl]; go_simp) rfl ?_
          first | exact ⟨rfl, HB.out.dropL⟩ | exact ⟨rfl, ((HB.out.store 0 (vi 0)).store 1 (vu 0)).dropL⟩
set_option maxRecDepth 100000 in
set_option maxHeartbeats 2000000 in
theorem make_full (hS : Sat w0 (cxB h p most * (tblP p ps [] * (plB L * (F)))) w) (b per now : Int) (hc : MkOk b per now) (hn0 : 0 ≤ now) :
    Calls Tryz.prog 47 #[vp h, vu b, vu per, vu now] w fun e w' => ∃ L2, e = .returned (.tuple #[vr 0 0, vi 3]) ∧ (∀ x ∈ L, x ∈ L2) ∧ Sat w0 (cxB h p most * (tblP p ps [] * (plB L2 * (F)))) w' := by
  have hB : Sat w0 (pc w.heap.size 30 [vi 0, vu 0] * (cxB h p most * (tblP p ps [] * (plB L * (F))))) (w.alloc (.cells #[vi 0, vu 0] 30)) := hS.alloc (.cells #[vi 0, vu 0] 30)
  have HN := Lib.hid (cx_none hB.pull2)
  have z0 := hB.cell 0 rfl
  have z1 := hB.cell 1 rfl
  have f0 := hB.free 0
  have f1 := hB.free 1
  have HB := Lib.hid hB
  have HI : Hid (OkL [⟨b, now⟩]) := Lib.hid (ok1 b now ⟨by unfold MkOk at hc; omega, by unfold MkOk at hc; omega⟩ ⟨hn0, by unfold MkOk at hc; omega⟩)
  obtain ⟨h1, h2, h3, h4, h5⟩ := hc
  have hb0 : b ≠ 0 := by omega
  have HNW := Lib.hid (fun w => new_pos b now hb0 w)
  have h1' : ¬ (b < 1) := by omega
  have h2' : ¬ (4294967296 < b) := by omega
  have h3' : ¬ (per < 1) := by omega
  have h4' : ¬ (4294967296 < per) := by omega
  have h5' : ¬ (1152921504606846976 < now) := by omega
  clear h1 h2 h3 h4 h5 hb0 hn0
  have c0 := hB.pull2.cell 0 rfl
  clear hS hB
  go_enter Tryz.func47, Tryz.ntmps47
  go_wp2_with (go_at_call 99; refine HN.out.mono ?_; rintro e w' ⟨rfl, rfl⟩)
  go_region_held3 (fun w' => w'.cell? ⟨h, 0, none⟩ = some (vp p))
    (first | exact c0 | exact d0 | exact e0 | exact g0 | go_keep)
    (first
      | (go_at_call 101; refine (HNW.out _).mono ?_; rintro e w2 ⟨vn, rfl, hS2⟩; have h2 := (Sat.link HB.out.drew hS2).cast (show _ = fiS vn [⟨b, now⟩] * (plB L * (pc w.heap.size 30 [vi 0, vu 0] * (cxB h p most * (tblP p ps [] * (F))))) by ac_rfl); obtain ⟨L2, hsub, hin, h3⟩ := h2.plIn HI.out; obtain ⟨ao, lc, hvn⟩ := hin.form; have hvn : vn = .slice ao 1 lc := hvn; subst hvn; have HSUB := Lib.hid hsub; have HIN := Lib.hid hin; have H2 := Lib.hid ((h3).cast (show _ = tblP p ps [] * (cxB h p most * (pc w.heap.size 30 [vi 0, vu 0] * (plB L2 * (F)))) by ac_rfl)); have d0 := H2.out.pull2.cell 0 rfl; clear hS2 h2 h3 hsub hin)
      | (go_at_call 100; refine (put_no H2.out ⟨b, per, ao, 1, lc, 0⟩).mono ?_; rintro e w3 ⟨rfl, hS3⟩; have H3 := Lib.hid ((hS3).cast (show _ = pc w.heap.size 30 [vi 0, vu 0] * (cxB h p most * (tblP p ps [] * (plB L2 * (F)))) by ac_rfl)); have e0 := H3.out.pull2.cell 0 rfl; have y0 := H3.out.cell 0 rfl; have y1 := H3.out.cell 1 rfl; have yf := H3.out.free 0; have yg := H3.out.free 1; have h4 : Sat w0 (pc w.heap.size 30 [vi 0, vu 0] * (cxB h p most * (tblP p ps [] * (plB L2 * (F))))) _ := (H3.out.store 0 (vi 0)).store 1 (vu 0); have g0 := h4.pull2.cell 0 rfl; have H4 := Lib.hid h4; clear hS3 h4))
  go_wp2
  (try simp only [Exit.inBlock, Exit.then])
  refine bodyPost_ret (v := .tuple #[vr 0 0, vi 3]) (by rw [results_cell_tmp rfl]; go_simp) rfl ?_
  first | exact ⟨L2, rfl, HSUB.out, H4.out.dropL⟩ | exact ⟨L2, rfl, HSUB.out, H3.out.dropL⟩
set_option maxRecDepth 100000 in
set_option maxHeartbeats 2000000 in
theorem make_ok {k : Nat} {a : Pl} (hS : Sat w0 (cxB h p most * (tblP p ps (free ++ [k]) * (plB L * (F)))) w) (b per now : Int) (hc : MkOk b per now) (hn0 : 0 ≤ now) (hk : ps[k]? = some a) :
    Calls Tryz.prog 47 #[vp h, vu b, vu per, vu now] w fun e w' => ∃ ao lc L2, e = .returned (.tuple #[vr k a.gen, vi 0]) ∧ (∀ x ∈ L, x ∈ L2) ∧ InP L2 (.slice ao 1 lc) [⟨b, now⟩] ∧ Sat w0 (cxB h p most * (tblP p (ps.set k { a with there := true, x := ⟨b, per, ao, 1, lc, 0⟩ }) free * (plB L2 * (F)))) w' := by
  have hB : Sat w0 (pc w.heap.size 30 [vi 0, vu 0] * (cxB h p most * (tblP p ps (free ++ [k]) * (plB L * (F))))) (w.alloc (.cells #[vi 0, vu 0] 30)) := hS.alloc (.cells #[vi 0, vu 0] 30)
  have HN := Lib.hid (cx_none hB.pull2)
  have z0 := hB.cell 0 rfl
  have z1 := hB.cell 1 rfl
  have f0 := hB.free 0
  have f1 := hB.free 1
  have HB := Lib.hid hB
  have HI : Hid (OkL [⟨b, now⟩]) := Lib.hid (ok1 b now ⟨by unfold MkOk at hc; omega, by unfold MkOk at hc; omega⟩ ⟨hn0, by unfold MkOk at hc; omega⟩)
  obtain ⟨h1, h2, h3, h4, h5⟩ := hc
  have hb0 : b ≠ 0 := by omega
  have HNW := Lib.hid (fun w => new_pos b now hb0 w)
  have h1' : ¬ (b < 1) := by omega
  have h2' : ¬ (4294967296 < b) := by omega
  have h3' : ¬ (per < 1) := by omega
  have h4' : ¬ (4294967296 < per) := by omega
  have h5' : ¬ (1152921504606846976 < now) := by omega
  clear h1 h2 h3 h4 h5 hb0 hn0
  have c0 := hB.pull2.cell 0 rfl
  have HK := Lib.hid hk
  clear hk
  clear hS hB
  go_enter Tryz.func47, Tryz.ntmps47
  go_wp2_with (go_at_call 99; refine HN.out.mono ?_; rintro e w' ⟨rfl, rfl⟩)
  go_region_held3 (fun w' => w'.cell? ⟨h, 0, none⟩ = some (vp p))
    (first | exact c0 | exact d0 | exact e0 | exact g0 | go_keep)
    (first
      | (go_at_call 101; refine (HNW.out _).mono ?_; rintro e w2 ⟨vn, rfl, hS2⟩; have h2 := (Sat.link HB.out.drew hS2).cast (show _ = fiS vn [⟨b, now⟩] * (plB L * (pc w.heap.size 30 [vi 0, vu 0] * (cxB h p most * (tblP p ps (free ++ [k]) * (F))))) by ac_rfl); obtain ⟨L2, hsub, hin, h3⟩ := h2.plIn HI.out; obtain ⟨ao, lc, hvn⟩ := hin.form; have hvn : vn = .slice ao 1 lc := hvn; subst hvn; have HSUB := Lib.hid hsub; have HIN := Lib.hid hin; have H2 := Lib.hid ((h3).cast (show _ = tblP p ps (free ++ [k]) * (cxB h p most * (pc w.heap.size 30 [vi 0, vu 0] * (plB L2 * (F)))) by ac_rfl)); have d0 := H2.out.pull2.cell 0 rfl; clear hS2 h2 h3 hsub hin)
      | (go_at_call 100; refine (put_yes H2.out HK.out ⟨b, per, ao, 1, lc, 0⟩).mono ?_; rintro e w3 ⟨rfl, hS3⟩; have H3 := Lib.hid ((hS3).cast (show _ = pc w.heap.size 30 [vi 0, vu 0] * (cxB h p most * (tblP p (ps.set k { a with there := true, x := ⟨b, per, ao, 1, lc, 0⟩ }) free * (plB L2 * (F)))) by ac_rfl)); have e0 := H3.out.pull2.cell 0 rfl; have y0 := H3.out.cell 0 rfl; have y1 := H3.out.cell 1 rfl; have yf := H3.out.free 0; have yg := H3.out.free 1; have h4 : Sat w0 (pc w.heap.size 30 [vi k, vu a.gen] * (cxB h p most * (tblP p (ps.set k { a with there := true, x := ⟨b, per, ao, 1, lc, 0⟩ }) free * (plB L2 * (F))))) _ := (H3.out.store 0 (vi k)).store 1 (vu a.gen); have g0 := h4.pull2.cell 0 rfl; have H4 := Lib.hid h4; clear hS3 h4))
  go_wp2
  (try simp only [Exit.inBlock, Exit.then])
  refine bodyPost_ret (v := .tuple #[vr k a.gen, vi 0]) (by rw [results_cell_tmp rfl]; go_simp) rfl ?_
  exact ⟨ao, lc, L2, rfl, HSUB.out, HIN.out, H4.out.dropL⟩
end
end Go.Proofs.YtdbppfcilaajaaaGreat.Cn
