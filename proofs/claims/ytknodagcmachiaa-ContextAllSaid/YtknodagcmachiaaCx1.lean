/-
  Chapter 08: contexts, plainly: what is kept. No statement is proved here.
-/
import Derived.Test.YtknodagcmachiaaMg8
import Derived.Test.YtknodagcmachiaaCa2
import Derived.Test.YtknodagcmachiaaMg5
namespace Go.Proofs.Ytknodagcmachiaa.Cn
open Go.RowKit Ac Fi
set_option linter.unusedVariables false

structure Cx where
  b : Int
  p : Int
  l : List Rf
  n : Int
structure CP where
  gen : Int
  there : Bool
  cx : Cx
  freed : Int
abbrev cz : Cx := ⟨0, 0, [], 0⟩
/-- What lies in a place's cells is this context. -/
def EM (L : Blks) (x : El) (c : Cx) : Prop := x.v0 = c.b ∧ x.v1 = c.p ∧ InP L (.slice x.a2 x.n2 x.c2) c.l ∧ x.v3 = c.n
theorem EM.mono {L L' : Blks} {x : El} {c : Cx} (h : EM L x c) (hs : ∀ y ∈ L, y ∈ L') : EM L' x c := ⟨h.1, h.2.1, h.2.2.1.mono hs, h.2.2.2⟩
theorem EM.zero (L : Blks) : EM L ez cz := ⟨rfl, rfl, InP.nil L, rfl⟩
structure PM (L : Blks) (ps : List Pl) (cs : List CP) : Prop where
  len : ps.length = cs.length
  at_ : ∀ (k : Nat) (a : Pl) (c : CP), ps[k]? = some a → cs[k]? = some c → a.gen = c.gen ∧ a.there = c.there ∧ EM L a.x c.cx
theorem PM.mono {L L' : Blks} {ps : List Pl} {cs : List CP} (h : PM L ps cs) (hs : ∀ y ∈ L, y ∈ L') : PM L' ps cs :=
  ⟨h.len, fun k a c ha hc => by obtain ⟨h1, h2, h3⟩ := h.at_ k a c ha hc; exact ⟨h1, h2, h3.mono hs⟩⟩
theorem PM.set {L : Blks} {ps : List Pl} {cs : List CP} (h : PM L ps cs) (k : Nat) {a : Pl} {c : CP} (h1 : a.gen = c.gen) (h2 : a.there = c.there) (h3 : EM L a.x c.cx) : PM L (ps.set k a) (cs.set k c) := by
  refine ⟨by rw [List.length_set, List.length_set]; exact h.len, fun j b d hb hd => ?_⟩
  rw [List.getElem?_set] at hb hd
  by_cases hj : k = j
  · subst hj
    rw [if_pos rfl] at hb hd
    split at hb
    · split at hd
      · cases hb
        cases hd
        exact ⟨h1, h2, h3⟩
      · cases hd
    · cases hb
  · rw [if_neg hj] at hb hd
    exact h.at_ j b d hb hd
/-- Who a ref names. -/
def isC (cs : List CP) (i g : Int) : Option (Nat × CP) := if i < 0 then none else match cs[i.toNat]? with
  | none => none
  | some c => if c.there && c.gen == g then some (i.toNat, c) else none
theorem isC_some {cs : List CP} {i g : Int} {k : Nat} {c : CP} (h : isC cs i g = some (k, c)) : cs[k]? = some c ∧ i = k ∧ c.there = true ∧ c.gen = g := by
  unfold isC at h
  split at h
  · cases h
  · split at h
    · cases h
    · rename_i hi c' hc
      split at h
      · rename_i ht
        cases h
        simp only [Bool.and_eq_true, beq_iff_eq] at ht
        exact ⟨hc, by omega, ht.1, ht.2⟩
      · cases h
theorem isC_of {cs : List CP} {k : Nat} {c : CP} (h : cs[k]? = some c) (ht : c.there = true) : isC cs k c.gen = some (k, c) := by
  unfold isC
  rw [if_neg (by omega), Int.toNat_natCast, h]
  simp [ht]
theorem PM.no {L : Blks} {ps : List Pl} {cs : List CP} (h : PM L ps cs) {i g : Int} (hn : isC cs i g = none) : isAt ps i g = none := by
  cases hA : isAt ps i g with
  | none => rfl
  | some x =>
    obtain ⟨k, a⟩ := x
    obtain ⟨ha, rfl, ht, hg⟩ := isAt_some hA
    have hk : k < cs.length := by rw [← h.len]; exact (List.getElem?_eq_some_iff.1 ha).1
    obtain ⟨c, hc⟩ : ∃ c, cs[k]? = some c := ⟨cs[k], List.getElem?_eq_getElem hk⟩
    obtain ⟨h1, h2, _⟩ := h.at_ k a c ha hc
    have := isC_of hc (h2 ▸ ht)
    rw [← h1, hg] at this
    rw [this] at hn
    cases hn
theorem isAt_of {ps : List Pl} {k : Nat} {a : Pl} (h : ps[k]? = some a) (ht : a.there = true) : isAt ps k a.gen = some (k, a) := by
  unfold isAt
  rw [if_neg (by omega), Int.toNat_natCast, h]
  simp [ht]
theorem PM.yes {L : Blks} {ps : List Pl} {cs : List CP} (h : PM L ps cs) {i g : Int} {k : Nat} {c : CP} (hc : isC cs i g = some (k, c)) : ∃ a, isAt ps i g = some (k, a) ∧ ps[k]? = some a ∧ a.gen = c.gen ∧ a.there = true ∧ EM L a.x c.cx := by
  obtain ⟨h1, rfl, ht, hg⟩ := isC_some hc
  have hk : k < ps.length := by rw [h.len]; exact (List.getElem?_eq_some_iff.1 h1).1
  obtain ⟨a, ha⟩ : ∃ a, ps[k]? = some a := ⟨ps[k], List.getElem?_eq_getElem hk⟩
  obtain ⟨e1, e2, e3⟩ := h.at_ k a c ha h1
  have := isAt_of ha (e2.trans ht)
  rw [e1, hg] at this
  exact ⟨a, this, ha, e1, e2.trans ht, e3⟩
/-- One that is there. -/
structure Live (most : Int) (T : Nat) (c : Cx) : Prop where
  b : 1 ≤ c.b ∧ c.b ≤ 4294967296
  p : 1 ≤ c.p ∧ c.p ≤ 4294967296
  may : MayL c.l
  ok : OkL c.l
  tot : tot c.l = c.b
  len : (c.l.length : Int) ≤ most
  n : 0 ≤ c.n ∧ c.n ≤ (T : Int)
theorem Live.mono {most : Int} {T T' : Nat} {c : Cx} (h : Live most T c) (ht : T ≤ T') : Live most T' c := { h with n := ⟨h.n.1, by have := h.n.2; omega⟩ }
/-- What is kept. -/
structure Inv (n : Nat) (most : Int) (T : Nat) (cs : List CP) (free : List Nat) (times : Int) : Prop where
  len : cs.length = n
  small : 1 ≤ n ∧ n ≤ 32
  mst : 2 ≤ most ∧ most ≤ 16
  gens : ∀ (k : Nat) (c : CP), cs[k]? = some c → 1 ≤ c.gen ∧ c.gen ≤ (T : Int) + 1
  live : ∀ (k : Nat) (c : CP), cs[k]? = some c → c.there = true → Live most T c.cx
  gone : ∀ (k : Nat) (c : CP), cs[k]? = some c → c.there = false → c.cx = cz
  mem : ∀ k : Nat, k ∈ free ↔ ∃ c : CP, cs[k]? = some c ∧ c.there = false
  ord : free.Pairwise fun i j => ∀ (a b : CP), cs[i]? = some a → cs[j]? = some b → a.freed < b.freed
  tm : 0 ≤ times ∧ times ≤ (T : Int)
  fr : ∀ (k : Nat) (c : CP), cs[k]? = some c → -32 ≤ c.freed ∧ c.freed ≤ times
section
variable {n T : Nat} {most times : Int} {cs : List CP} {free : List Nat}
theorem Inv.mono (h : Inv n most T cs free times) {T' : Nat} (ht : T ≤ T') : Inv n most T' cs free times :=
  { h with gens := fun k c hk => by have := h.gens k c hk; omega
           live := fun k c hk hth => (h.live k c hk hth).mono ht
           tm := by have := h.tm; omega }
theorem get_setC {k : Nat} {a : CP} (hk : cs[k]? = some a) (a' : CP) (j : Nat) (b : CP) (h : (cs.set k a')[j]? = some b) : (j = k ∧ b = a') ∨ (j ≠ k ∧ cs[j]? = some b) := by
  rw [List.getElem?_set] at h
  by_cases hj : k = j
  · subst hj
    rw [if_pos rfl, if_pos (List.getElem?_eq_some_iff.1 hk).1] at h
    exact .inl ⟨rfl, (Option.some.inj h).symm⟩
  · rw [if_neg hj] at h
    exact .inr ⟨fun e => hj e.symm, h⟩
theorem set_selfC {k : Nat} {a : CP} (hk : cs[k]? = some a) (a' : CP) : (cs.set k a')[k]? = some a' := by
  rw [List.getElem?_set_self (List.getElem?_eq_some_iff.1 hk).1]
theorem Inv.lt (h : Inv n most T cs free times) {k : Nat} {c : CP} (hk : cs[k]? = some c) : k < n := by
  rw [← h.len]
  exact (List.getElem?_eq_some_iff.1 hk).1
/-- One that is there is turned. -/
theorem Inv.setx (h : Inv n most T cs free times) {k : Nat} {c : CP} (hk : cs[k]? = some c) (ht : c.there = true) {x : Cx} (hx : Live most (T + 1) x) : Inv n most (T + 1) (cs.set k { c with cx := x }) free times := by
  have h' := h.mono (Nat.le_succ T)
  have hkf : k ∉ free := fun hm => by
    obtain ⟨d, hd, hf⟩ := (h.mem k).1 hm
    rw [hk] at hd
    cases hd
    rw [ht] at hf
    cases hf
  refine ⟨by rw [List.length_set]; exact h.len, h.small, h.mst, ?_, ?_, ?_, ?_, ?_, h'.tm, ?_⟩
  · intro j d hj
    rcases get_setC hk _ j d hj with ⟨rfl, rfl⟩ | ⟨_, hd⟩
    · have e := h'.gens _ _ hk
      exact e
    · exact h'.gens _ _ hd
  · intro j d hj hth
    rcases get_setC hk _ j d hj with ⟨rfl, rfl⟩ | ⟨_, hd⟩
    · exact hx
    · exact h'.live _ _ hd hth
  · intro j d hj hth
    rcases get_setC hk _ j d hj with ⟨rfl, rfl⟩ | ⟨_, hd⟩
    · exact absurd (hth.symm.trans ht) (by simp)
    · exact h.gone _ _ hd hth
  · intro j
    rw [h.mem]
    by_cases hj : j = k
    · subst hj
      constructor
      · rintro ⟨d, hd, hf⟩
        rw [hk] at hd
        cases hd
        rw [ht] at hf
        cases hf
      · rintro ⟨d, hd, hf⟩
        rw [set_selfC hk] at hd
        cases hd
        exact absurd (hf.symm.trans ht) (by simp)
    · rw [List.getElem?_set_ne (by omega)]
  · refine h.ord.imp_of_mem fun {i j} hi hj hr a b ha hb => ?_
    have hik : i ≠ k := fun e => hkf (e ▸ hi)
    have hjk : j ≠ k := fun e => hkf (e ▸ hj)
    rw [List.getElem?_set_ne (by omega)] at ha hb
    exact hr a b ha hb
  · intro j d hj
    rcases get_setC hk _ j d hj with ⟨rfl, rfl⟩ | ⟨_, hd⟩
    · have e := h.fr _ _ hk
      exact e
    · exact h.fr _ _ hd
/-- One comes. -/
theorem Inv.come {k : Nat} (h : Inv n most T cs (free ++ [k]) times) {c : CP} (hk : cs[k]? = some c) {x : Cx} (hx : Live most (T + 1) x) : Inv n most (T + 1) (cs.set k { c with there := true, cx := x }) free times := by
  have h' := h.mono (Nat.le_succ T)
  have hkf : k ∉ free := fun hm => by
    have := (List.pairwise_append.1 h.ord).2.2 k hm k List.mem_cons_self c c hk hk
    omega
  have hct : c.there = false := by
    obtain ⟨d, hd, hf⟩ := (h.mem k).1 (by simp)
    rw [hk] at hd
    cases hd
    exact hf
  refine ⟨by rw [List.length_set]; exact h.len, h.small, h.mst, ?_, ?_, ?_, ?_, ?_, h'.tm, ?_⟩
  · intro j d hj
    rcases get_setC hk _ j d hj with ⟨rfl, rfl⟩ | ⟨_, hd⟩
    · have e := h'.gens _ _ hk
      exact e
    · exact h'.gens _ _ hd
  · intro j d hj hth
    rcases get_setC hk _ j d hj with ⟨rfl, rfl⟩ | ⟨_, hd⟩
    · exact hx
    · exact h'.live _ _ hd hth
  · intro j d hj hth
    rcases get_setC hk _ j d hj with ⟨rfl, rfl⟩ | ⟨_, hd⟩
    · cases hth
    · exact h.gone _ _ hd hth
  · intro j
    by_cases hj : j = k
    · subst hj
      constructor
      · intro hm
        exact absurd hm hkf
      · rintro ⟨d, hd, hf⟩
        rw [set_selfC hk] at hd
        cases hd
        cases hf
    · rw [List.getElem?_set_ne (by omega), ← h.mem]
      simp [hj]
  · refine (List.pairwise_append.1 h.ord).1.imp_of_mem fun {i j} hi hj hr a b ha hb => ?_
    have hik : i ≠ k := fun e => hkf (e ▸ hi)
    have hjk : j ≠ k := fun e => hkf (e ▸ hj)
    rw [List.getElem?_set_ne (by omega)] at ha hb
    exact hr a b ha hb
  · intro j d hj
    rcases get_setC hk _ j d hj with ⟨rfl, rfl⟩ | ⟨_, hd⟩
    · have e := h.fr _ _ hk
      exact e
    · exact h.fr _ _ hd
/-- One goes. -/
theorem Inv.go (h : Inv n most T cs free times) {k : Nat} {c : CP} (hk : cs[k]? = some c) (ht : c.there = true) : Inv n most (T + 1) (cs.set k ⟨c.gen + 1, false, cz, times + 1⟩) (free ++ [k]) (times + 1) := by
  have h' := h.mono (Nat.le_succ T)
  have hkf : k ∉ free := fun hm => by
    obtain ⟨d, hd, hf⟩ := (h.mem k).1 hm
    rw [hk] at hd
    cases hd
    rw [ht] at hf
    cases hf
  have htm := h.tm
  refine ⟨by rw [List.length_set]; exact h.len, h.small, h.mst, ?_, ?_, ?_, ?_, ?_, by omega, ?_⟩
  · intro j d hj
    rcases get_setC hk _ j d hj with ⟨rfl, rfl⟩ | ⟨_, hd⟩
    · have := h.gens _ _ hk
      dsimp only
      omega
    · exact h'.gens _ _ hd
  · intro j d hj hth
    rcases get_setC hk _ j d hj with ⟨rfl, rfl⟩ | ⟨_, hd⟩
    · cases hth
    · exact h'.live _ _ hd hth
  · intro j d hj hth
    rcases get_setC hk _ j d hj with ⟨rfl, rfl⟩ | ⟨_, hd⟩
    · rfl
    · exact h.gone _ _ hd hth
  · intro j
    by_cases hj : j = k
    · subst hj
      constructor
      · intro _
        exact ⟨_, set_selfC hk _, rfl⟩
      · intro _
        simp
    · rw [List.getElem?_set_ne (by omega), ← h.mem]
      simp [hj]
  · refine List.pairwise_append.2 ⟨h.ord.imp_of_mem fun {i j} hi hj hr a b ha hb => ?_, by simp, fun i hi j hj a b ha hb => ?_⟩
    · have hik : i ≠ k := fun e => hkf (e ▸ hi)
      have hjk : j ≠ k := fun e => hkf (e ▸ hj)
      rw [List.getElem?_set_ne (by omega)] at ha hb
      exact hr a b ha hb
    · have hjk := List.mem_singleton.1 hj
      subst hjk
      have hik : i ≠ j := fun e => hkf (e ▸ hi)
      rw [List.getElem?_set_ne (by omega)] at ha
      rw [set_selfC hk] at hb
      cases hb
      have := (h.fr _ _ ha).2
      show a.freed < times + 1
      omega
  · intro j d hj
    rcases get_setC hk _ j d hj with ⟨rfl, rfl⟩ | ⟨_, hd⟩
    · dsimp only
      omega
    · have := h.fr _ _ hd
      omega
/-- None are there. -/
def newC (n : Nat) : List CP := (List.range n).map fun i : Nat => ⟨1, false, cz, -1 - (i : Int)⟩
theorem newC_at {n k : Nat} {c : CP} (h : (newC n)[k]? = some c) : k < n ∧ c = ⟨1, false, cz, -1 - (k : Int)⟩ := by
  unfold newC at h
  rw [List.getElem?_map] at h
  by_cases hk : k < n
  · rw [List.getElem?_range hk] at h
    exact ⟨hk, (Option.some.inj h).symm⟩
  · rw [List.getElem?_eq_none (by simp; omega)] at h
    cases h
theorem newC_get {n k : Nat} (h : k < n) : (newC n)[k]? = some ⟨1, false, cz, -1 - (k : Int)⟩ := by
  unfold newC
  rw [List.getElem?_map, List.getElem?_range h]
  rfl
theorem Inv.new (n : Nat) (hn : 1 ≤ n ∧ n ≤ 32) (most : Int) (hm : 2 ≤ most ∧ most ≤ 16) : Inv n most 0 (newC n) (newF n n) 0 := by
  refine ⟨by simp [newC], hn, hm, ?_, ?_, ?_, ?_, ?_, by omega, ?_⟩
  · intro k c hk
    rw [(newC_at hk).2]
    exact ⟨by simp, by simp⟩
  · intro k c hk ht
    rw [(newC_at hk).2] at ht
    cases ht
  · intro k c hk ht
    rw [(newC_at hk).2]
  · intro k
    unfold newF
    rw [List.mem_map]
    constructor
    · rintro ⟨j, hj, rfl⟩
      rw [List.mem_range] at hj
      exact ⟨_, newC_get (by omega), rfl⟩
    · rintro ⟨c, hc, _⟩
      have := (newC_at hc).1
      exact ⟨n - 1 - k, by rw [List.mem_range]; omega, by omega⟩
  · unfold newF
    refine List.pairwise_map.2 (List.Pairwise.imp_of_mem (fun {x y} hx hy hlt a b ha hb => ?_) List.pairwise_lt_range)
    rw [List.mem_range] at hx hy
    rw [(newC_at ha).2, (newC_at hb).2]
    dsimp only
    omega
  · intro k c hk
    obtain ⟨h1, rfl⟩ := newC_at hk
    dsimp only
    omega
theorem PM.new (L : Blks) (n : Nat) : PM L (List.replicate n ⟨1, false, false, ez⟩) (newC n) := by
  refine ⟨by simp [newC], fun k a c ha hc => ?_⟩
  obtain ⟨h1, rfl⟩ := newC_at hc
  rw [List.getElem?_replicate, if_pos h1] at ha
  cases ha
  exact ⟨rfl, rfl, EM.zero L⟩
end
end Go.Proofs.Ytknodagcmachiaa.Cn
