/-
  Law 09: the books of domains, plainly: what is kept. No statement is proved here.
-/
import Derived.Test.YtfioghpnehfjhaaDn11
import Derived.Test.YtfioghpnehfjhaaDn10
import Derived.Test.YtfioghpnehfjhaaRd9
namespace Go.Proofs.Ytfioghpnehfjhaa.Dm
open Go.RowKit Ad
set_option linter.unusedVariables false

/-- A place, as the reference has it. -/
def oneOf (a : Pl) : One := ⟨a.gen, a.there, a.x.v2, a.x.v3, a.x.v4, a.x.v0, a.x.v1, a.x.v7, a.x.v9⟩
def kidB (b : Pl) (k : Nat) (g : Int) : Bool := b.there && (b.x.v0 == (k : Int) && b.x.v1 == g)
/-- What is summed over who was carved out of one. -/
def kidS (f : El → Int) (ps : List Pl) (k : Nat) (g : Int) : Int := (ps.map fun b => if kidB b k g then f b.x else 0).sum
inductive Bk | gs | cpu | kid | live
def Bk.of : Bk → El → Int
  | .gs, x => x.v5
  | .cpu, x => x.v6
  | .kid, x => x.v10
  | .live, x => x.v8 - x.v7
def Bk.each : Bk → El → Int
  | .gs, x => x.v2
  | .cpu, x => x.v3
  | .kid, _ => 1
  | .live, x => x.v8
theorem kidB_iff {b : Pl} {k : Nat} {g : Int} : kidB b k g = true ↔ b.there = true ∧ b.x.v0 = (k : Int) ∧ b.x.v1 = g := by
  unfold kidB
  simp
theorem sum_set (h : Pl → Int) : ∀ (l : List Pl) (i : Nat) (a a' : Pl), l[i]? = some a → ((l.set i a').map h).sum = (l.map h).sum - h a + h a'
  | [], i, a, a', hi => by simp at hi
  | b :: l, 0, a, a', hi => by
    simp at hi
    subst hi
    simp
    omega
  | b :: l, i + 1, a, a', hi => by
    have := sum_set h l i a a' (by simpa using hi)
    simp only [List.set_cons_succ, List.map_cons, List.sum_cons, this]
    omega
theorem sum_nonneg (h : Pl → Int) : ∀ (l : List Pl), (∀ (k : Nat) (a : Pl), l[k]? = some a → 0 ≤ h a) → 0 ≤ (l.map h).sum
  | [], _ => by simp
  | b :: l, hl => by
    have h1 := hl 0 b rfl
    have h2 := sum_nonneg h l fun k a hk => hl (k + 1) a (by simpa using hk)
    simp only [List.map_cons, List.sum_cons]
    omega
theorem sum_le (h h' : Pl → Int) : ∀ (l : List Pl), (∀ (k : Nat) (a : Pl), l[k]? = some a → h a ≤ h' a) → (l.map h).sum ≤ (l.map h').sum
  | [], _ => by simp
  | b :: l, hl => by
    have h1 := hl 0 b rfl
    have h2 := sum_le h h' l fun k a hk => hl (k + 1) a (by simpa using hk)
    simp only [List.map_cons, List.sum_cons]
    omega
theorem sum_zero (h : Pl → Int) : ∀ (l : List Pl), (∀ (k : Nat) (a : Pl), l[k]? = some a → 0 ≤ h a) → (l.map h).sum = 0 → ∀ (k : Nat) (a : Pl), l[k]? = some a → h a = 0
  | [], _, _, k, a, hk => by simp at hk
  | b :: l, hl, hs, k, a, hk => by
    have h1 := hl 0 b rfl
    have h2 := sum_nonneg h l fun k a hk => hl (k + 1) a (by simpa using hk)
    simp only [List.map_cons, List.sum_cons] at hs
    cases k with
    | zero =>
      simp at hk
      subst hk
      omega
    | succ k => exact sum_zero h l (fun k a hk => hl (k + 1) a (by simpa using hk)) (by omega) k a (by simpa using hk)
theorem kidS_set {ps : List Pl} {i : Nat} {a : Pl} (hi : ps[i]? = some a) (a' : Pl) (f : El → Int) (k : Nat) (g : Int) :
    kidS f (ps.set i a') k g = kidS f ps k g - (if kidB a k g then f a.x else 0) + (if kidB a' k g then f a'.x else 0) :=
  sum_set _ ps i a a' hi
theorem kidS_none {ps : List Pl} {k : Nat} {g : Int} (h : ∀ (j : Nat) (b : Pl), ps[j]? = some b → kidB b k g = false) (f : El → Int) : kidS f ps k g = 0 := by
  have h1 := sum_nonneg (fun b => if kidB b k g then f b.x else 0) ps fun j b hb => by simp [h j b hb]
  have h2 := sum_le (fun b => if kidB b k g then f b.x else 0) (fun _ => 0) ps fun j b hb => by simp [h j b hb]
  have h3 : (ps.map fun _ => (0 : Int)).sum = 0 := by
    clear h h1 h2
    induction ps with
    | nil => rfl
    | cons b l ih => simpa using ih
  unfold kidS
  omega
theorem nodup_lt : ∀ (n : Nat) (c : List Nat), c.Nodup → (∀ j ∈ c, j < n) → c.length ≤ n
  | 0, c, _, h => by
    cases c with
    | nil => simp
    | cons a l => exact absurd (h a (by simp)) (by omega)
  | n + 1, c, hn, h => by
    have h1 := nodup_lt n (c.erase n) (hn.erase n) (fun j hj => by
      have h2 := (hn.mem_erase_iff).1 hj
      have := h j h2.2
      omega)
    rw [List.length_erase] at h1
    split at h1 <;> omega
structure LimOk (x : El) : Prop where
  gs : 0 ≤ x.v2 ∧ x.v2 ≤ 64
  cpu : 0 ≤ x.v3 ∧ x.v3 ≤ 4294967296
  used : U64 x.v9
  own : 0 ≤ x.v7 ∧ x.v7 + x.v5 ≤ x.v2
  car : x.v6 ≤ x.v3
/-- Domains whose books balance. -/
structure Rel (n T : Nat) (ps : List Pl) (free : List Nat) : Prop where
  len : ps.length = n
  n1 : 1 ≤ n
  n32 : n ≤ 32
  mem : ∀ k, k ∈ free ↔ ∃ a, ps[k]? = some a ∧ a.there = false
  nodup : free.Nodup
  gens : ∀ (k : Nat) (a : Pl), ps[k]? = some a → 1 ≤ a.gen ∧ a.gen ≤ T
  gone : ∀ (k : Nat) (a : Pl), ps[k]? = some a → a.retired = false ∧ (a.there = false → a.x = ez)
  lim : ∀ (k : Nat) (a : Pl), ps[k]? = some a → a.there = true → LimOk a.x
  root : ∃ a, ps[0]? = some a ∧ a.there = true ∧ a.gen = 1 ∧ a.x.v0 = 0 ∧ a.x.v1 = 0
  tree : ∃ rank : Nat → Nat, (∀ k, rank k ≤ T) ∧ ∀ (k : Nat) (a : Pl), ps[k]? = some a → a.there = true → k ≠ 0 → ∃ j b, ps[j]? = some b ∧ b.there = true ∧ a.x.v0 = (j : Nat) ∧ a.x.v1 = b.gen ∧ rank j < rank k
  books : ∀ (t : Bk) (k : Nat) (a : Pl), ps[k]? = some a → a.there = true → t.of a.x = kidS t.each ps k a.gen

section
variable {n T : Nat} {ps : List Pl} {free : List Nat}
theorem Rel.mono (h : Rel n T ps free) {T' : Nat} (hT : T ≤ T') : Rel n T' ps free := by
  obtain ⟨rank, h1, h2⟩ := h.tree
  exact ⟨h.len, h.n1, h.n32, h.mem, h.nodup, fun k a ha => ⟨(h.gens k a ha).1, by have := (h.gens k a ha).2; omega⟩, h.gone, h.lim, h.root, ⟨rank, fun k => Nat.le_trans (h1 k) hT, h2⟩, h.books⟩
theorem Rel.flen (h : Rel n T ps free) : free.length ≤ n :=
  nodup_lt n free h.nodup fun j hj => by
    obtain ⟨a, ha, _⟩ := (h.mem j).1 hj
    rw [← h.len]
    exact (List.getElem?_eq_some_iff.1 ha).1
/-- The parent of one that is there. -/
theorem Rel.up (h : Rel n T ps free) {k : Nat} {a : Pl} (ha : ps[k]? = some a) (ht : a.there = true) : (k = 0 ∧ a.x.v0 = 0 ∧ a.x.v1 = 0 ∧ a.gen = 1) ∨ (k ≠ 0 ∧ ∃ j b, ps[j]? = some b ∧ b.there = true ∧ a.x.v0 = (j : Nat) ∧ a.x.v1 = b.gen) := by
  by_cases hk : k = 0
  · subst hk
    obtain ⟨b, hb, _, h1, h2, h3⟩ := h.root
    rw [ha] at hb
    cases hb
    exact .inl ⟨rfl, h2, h3, h1⟩
  · obtain ⟨rank, _, h2⟩ := h.tree
    obtain ⟨j, b, hj, hb, h3, h4, _⟩ := h2 k a ha ht hk
    exact .inr ⟨hk, j, b, hj, hb, h3, h4⟩
/-- Who has a child is there. -/
theorem Rel.kid_there (h : Rel n T ps free) {i : Nat} {b : Pl} (hb : ps[i]? = some b) {k : Nat} {a : Pl} (ha : ps[k]? = some a) (hk : kidB b k a.gen = true) : a.there = true ∧ i ≠ 0 := by
  obtain ⟨h1, h2, h3⟩ := kidB_iff.1 hk
  rcases h.up hb h1 with ⟨rfl, e0, e1, _⟩ | ⟨hi, j, c, hj, hc, e0, e1⟩
  · have := (h.gens k a ha).1
    omega
  · have : j = k := by omega
    subst this
    rw [ha] at hj
    cases hj
    exact ⟨hc, hi⟩
theorem Rel.v5 (h : Rel n T ps free) {k : Nat} {a : Pl} (ha : ps[k]? = some a) (ht : a.there = true) : 0 ≤ a.x.v5 ∧ 0 ≤ a.x.v6 ∧ 0 ≤ a.x.v10 ∧ a.x.v10 ≤ 32 := by
  have h1 := h.books .gs k a ha ht
  have h2 := h.books .cpu k a ha ht
  have h3 := h.books .kid k a ha ht
  have k1 : 0 ≤ kidS (Bk.each .gs) ps k a.gen := sum_nonneg _ ps fun j b hb => by
    split
    · rename_i hk
      exact (h.lim j b hb (kidB_iff.1 hk).1).gs.1
    · omega
  have k2 : 0 ≤ kidS (Bk.each .cpu) ps k a.gen := sum_nonneg _ ps fun j b hb => by
    split
    · rename_i hk
      exact (h.lim j b hb (kidB_iff.1 hk).1).cpu.1
    · omega
  have k3 : 0 ≤ kidS (Bk.each .kid) ps k a.gen := sum_nonneg _ ps fun j b hb => by
    split
    · exact (show (0 : Int) ≤ 1 by omega)
    · omega
  have k4 : kidS (Bk.each .kid) ps k a.gen ≤ (ps.map fun _ => (1 : Int)).sum := sum_le _ _ ps fun j b hb => by
    split
    · exact (show (1 : Int) ≤ 1 by omega)
    · omega
  have k5 : ∀ l : List Pl, (l.map fun _ => (1 : Int)).sum = l.length := fun l => by
    induction l with
    | nil => rfl
    | cons b l ih => simp only [List.map_cons, List.sum_cons, ih, List.length_cons]; omega
  rw [k5, h.len] at k4
  have := h.n32
  simp only [Bk.of] at h1 h2 h3
  omega
/-- Live ones are never above a limit. -/
theorem Rel.live (h : Rel n T ps free) : ∀ (k : Nat) (a : Pl), ps[k]? = some a → a.there = true → 0 ≤ a.x.v8 ∧ a.x.v8 ≤ a.x.v2 := by
  obtain ⟨rank, h1, h2⟩ := h.tree
  have key : ∀ d k a, T - rank k = d → ps[k]? = some a → a.there = true → 0 ≤ a.x.v8 ∧ a.x.v8 ≤ a.x.v2 := by
    intro d
    induction d using Nat.strongRecOn with
    | _ d ih =>
      intro k a hd ha ht
      have hb := h.books .live k a ha ht
      have hg := h.books .gs k a ha ht
      have hl := h.lim k a ha ht
      have hkid : ∀ (j : Nat) (b : Pl), ps[j]? = some b → kidB b k a.gen = true → 0 ≤ b.x.v8 ∧ b.x.v8 ≤ b.x.v2 := by
        intro j b hj hk
        obtain ⟨e1, e2, e3⟩ := kidB_iff.1 hk
        have hj0 := (h.kid_there hj ha hk).2
        obtain ⟨i, c, hi, hc, e4, e5, hr⟩ := h2 j b hj e1 hj0
        have : i = k := by omega
        subst this
        exact ih (T - rank j) (by have := h1 j; omega) j b rfl hj e1
      have k1 : 0 ≤ kidS (Bk.each .live) ps k a.gen := sum_nonneg _ ps fun j b hb => by
        split
        · rename_i hk
          exact (hkid j b hb hk).1
        · omega
      have k2 : kidS (Bk.each .live) ps k a.gen ≤ kidS (Bk.each .gs) ps k a.gen := sum_le _ _ ps fun j b hb => by
        split
        · rename_i hk
          exact (hkid j b hb hk).2
        · omega
      have h3 := hl.own
      simp only [Bk.of] at hb hg
      omega
  exact fun k a => key _ k a rfl
theorem Rel.dom (h : Rel n T ps free) {k : Nat} {a : Pl} (ha : ps[k]? = some a) (ht : a.there = true) : DomOk a.x := by
  have h1 := h.v5 ha ht
  have h2 := h.lim k a ha ht
  have := h2.gs
  have := h2.cpu
  have := h2.own
  have := h2.car
  unfold DomOk
  omega
theorem Rel.bd (h : Rel n T ps free) : ∀ (k : Nat) (a : Pl), ps[k]? = some a → -1000 ≤ a.x.v7 ∧ a.x.v7 ≤ 1000000 ∧ -1000 ≤ a.x.v8 ∧ a.x.v8 ≤ 1000000 := by
  intro k a ha
  cases ht : a.there with
  | true =>
    have h1 := h.live k a ha ht
    have h2 := h.lim k a ha ht
    have := h2.gs
    have := h2.own
    have := h.v5 ha ht
    omega
  | false =>
    rw [(h.gone k a ha).2 ht]
    simp
/-- A chain: by its places. -/
theorem Rel.chain (h : Rel n T ps free) : ∀ (k : Nat) (a : Pl), ps[k]? = some a → a.there = true → ∃ c : List Nat, Ch ps ((k : Int), a.gen) (c.map (rfp ps)) ∧ c.Nodup ∧ k ∈ c ∧ (∀ i ∈ c, i < n) := by
  obtain ⟨rank, h1, h2⟩ := h.tree
  have key : ∀ d k a, rank k = d → ps[k]? = some a → a.there = true → ∃ c : List Nat, Ch ps ((k : Int), a.gen) (c.map (rfp ps)) ∧ c.Nodup ∧ k ∈ c ∧ (∀ i ∈ c, i < n ∧ rank i ≤ d) := by
    intro d
    induction d using Nat.strongRecOn with
    | _ d ih =>
      intro k a hd ha ht
      obtain ⟨hX, hE⟩ := getX_of ha ht
      have hkn : k < n := by rw [← h.len]; exact (List.getElem?_eq_some_iff.1 ha).1
      have hrf : rfp ps k = ((k : Int), a.gen) := by unfold rfp; rw [ha]
      have hup : upR ps ((k : Int), a.gen) = (a.x.v0, a.x.v1) := by
        show ((getX ps k a.gen).v0, (getX ps k a.gen).v1) = _
        rw [hX]
      by_cases hk : k = 0
      · obtain ⟨b, hb, _, h3, h4, h5⟩ := h.root
        subst hk
        rw [ha] at hb
        cases hb
        refine ⟨[0], ⟨hrf, hE, ?_⟩, by simp, by simp, by simp; omega⟩
        rw [hup, h4, h5]
        show getE ps 0 0 = 11
        unfold getE isAt
        rw [if_neg (by omega), show (0 : Int).toNat = 0 from rfl, ha]
        simp [h3]
      · obtain ⟨j, b, hj, hb, h3, h4, hr⟩ := h2 k a ha ht hk
        obtain ⟨c, hc, hn, hm, hle⟩ := ih (rank j) (by omega) j b rfl hj hb
        refine ⟨k :: c, ⟨hrf, hE, ?_⟩, ?_, by simp, ?_⟩
        · rw [hup, h3, h4]
          exact hc
        · refine List.nodup_cons.2 ⟨fun hkc => ?_, hn⟩
          have := (hle k hkc).2
          omega
        · intro i hi
          rcases List.mem_cons.1 hi with rfl | hi
          · exact ⟨hkn, by omega⟩
          · have := hle i hi
            exact ⟨this.1, by omega⟩
  intro k a ha ht
  obtain ⟨c, h3, h4, h5, h6⟩ := key _ k a rfl ha ht
  exact ⟨c, h3, h4, h5, fun i hi => (h6 i hi).1⟩

/-- What changes of one place, books aside. -/
theorem Rel.turn (h : Rel n T ps free) {k : Nat} {a : Pl} (ha : ps[k]? = some a) (ht : a.there = true) (x : El) (h0 : x.v0 = a.x.v0) (h1 : x.v1 = a.x.v1) (h2 : x.v2 = a.x.v2) (h3 : x.v3 = a.x.v3) (h5 : x.v5 = a.x.v5) (h6 : x.v6 = a.x.v6) (h7 : x.v7 = a.x.v7) (h8 : x.v8 = a.x.v8) (h10 : x.v10 = a.x.v10) (h9 : U64 x.v9) :
    Rel n T (ps.set k { a with x := x }) free := by
  have hlt : k < ps.length := (List.getElem?_eq_some_iff.1 ha).1
  have get : ∀ (j : Nat) (b : Pl), (ps.set k { a with x := x })[j]? = some b → ∃ c, ps[j]? = some c ∧ b.gen = c.gen ∧ b.there = c.there ∧ b.retired = c.retired ∧ (b.x = c.x ∨ (j = k ∧ c = a ∧ b.x = x)) := by
    intro j b hb
    by_cases hj : j = k
    · subst hj
      rw [List.getElem?_set_self hlt] at hb
      cases hb
      exact ⟨a, ha, rfl, rfl, rfl, .inr ⟨rfl, rfl, rfl⟩⟩
    · rw [List.getElem?_set_ne (by omega)] at hb
      exact ⟨b, hb, rfl, rfl, rfl, .inl rfl⟩
  have put : ∀ (j : Nat) (c : Pl), ps[j]? = some c → ∃ b, (ps.set k { a with x := x })[j]? = some b ∧ b.gen = c.gen ∧ b.there = c.there := by
    intro j c hc
    by_cases hj : j = k
    · subst hj
      rw [ha] at hc
      cases hc
      exact ⟨_, List.getElem?_set_self hlt, rfl, rfl⟩
    · exact ⟨c, by rw [List.getElem?_set_ne (by omega)]; exact hc, rfl, rfl⟩
  have hkid : ∀ (t : Bk) (j : Nat) (g : Int), kidS t.each (ps.set k { a with x := x }) j g = kidS t.each ps j g := by
    intro t j g
    rw [kidS_set ha]
    have e1 : kidB { a with x := x } j g = kidB a j g := by unfold kidB; simp only [h0, h1]
    have e2 : t.each x = t.each a.x := by cases t <;> simp only [Bk.each, h2, h3, h8]
    rw [e1, show ({ a with x := x } : Pl).x = x from rfl, e2]
    omega
  obtain ⟨rank, r1, r2⟩ := h.tree
  refine ⟨by rw [List.length_set]; exact h.len, h.n1, h.n32, ?_, h.nodup, ?_, ?_, ?_, ?_, ⟨rank, r1, ?_⟩, ?_⟩
  · intro j
    rw [h.mem j]
    constructor
    · rintro ⟨c, hc, hct⟩
      obtain ⟨b, hb, _, e⟩ := put j c hc
      exact ⟨b, hb, by rw [e]; exact hct⟩
    · rintro ⟨b, hb, hbt⟩
      obtain ⟨c, hc, _, e, _⟩ := get j b hb
      exact ⟨c, hc, by rw [← e]; exact hbt⟩
  · intro j b hb
    obtain ⟨c, hc, e, _⟩ := get j b hb
    rw [e]
    exact h.gens j c hc
  · intro j b hb
    obtain ⟨c, hc, _, e1, e2, e3⟩ := get j b hb
    refine ⟨by rw [e2]; exact (h.gone j c hc).1, fun hbt => ?_⟩
    rcases e3 with e3 | ⟨_, rfl, _⟩
    · rw [e3]
      exact (h.gone j c hc).2 (by rw [← e1]; exact hbt)
    · rw [e1, ht] at hbt
      cases hbt
  · intro j b hb hbt
    obtain ⟨c, hc, _, e1, _, e3⟩ := get j b hb
    have hl := h.lim j c hc (by rw [← e1]; exact hbt)
    rcases e3 with e3 | ⟨_, rfl, e3⟩
    · rw [e3]
      exact hl
    · rw [e3]
      exact ⟨by rw [h2]; exact hl.gs, by rw [h3]; exact hl.cpu, h9, by rw [h7, h5, h2]; exact hl.own, by rw [h6, h3]; exact hl.car⟩
  · obtain ⟨b, hb, hbt, g1, g2, g3⟩ := h.root
    by_cases hk0 : k = 0
    · subst hk0
      rw [ha] at hb
      cases hb
      exact ⟨_, List.getElem?_set_self hlt, hbt, g1, by rw [← g2]; exact h0, by rw [← g3]; exact h1⟩
    · exact ⟨b, by rw [List.getElem?_set_ne hk0]; exact hb, hbt, g1, g2, g3⟩
  · intro j b hb hbt hj0
    obtain ⟨c, hc, _, e1, _, e3⟩ := get j b hb
    obtain ⟨i, d, hi, hd, f1, f2, hr⟩ := r2 j c hc (by rw [← e1]; exact hbt) hj0
    obtain ⟨d', hd', f3, f4⟩ := put i d hi
    have e4 : b.x.v0 = c.x.v0 ∧ b.x.v1 = c.x.v1 := by
      rcases e3 with e3 | ⟨_, rfl, e3⟩
      · rw [e3]; exact ⟨rfl, rfl⟩
      · rw [e3]; exact ⟨h0, h1⟩
    exact ⟨i, d', hd', by rw [f4]; exact hd, by rw [e4.1]; exact f1, by rw [e4.2, f3]; exact f2, hr⟩
  · intro t j b hb hbt
    obtain ⟨c, hc, e0, e1, _, e3⟩ := get j b hb
    have hbk := h.books t j c hc (by rw [← e1]; exact hbt)
    rw [hkid, e0, ← hbk]
    rcases e3 with e3 | ⟨_, rfl, e3⟩
    · rw [e3]
    · rw [e3]
      cases t <;> simp only [Bk.of, h5, h6, h7, h8, h10]
end
end Go.Proofs.Ytfioghpnehfjhaa.Dm
