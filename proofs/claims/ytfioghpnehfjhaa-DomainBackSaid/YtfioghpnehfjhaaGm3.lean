/-
  Law 09: the books behind Join and Leave, plainly. No statement is proved here.
-/
import Derived.Test.YtfioghpnehfjhaaGm2
namespace Go.Proofs.Ytfioghpnehfjhaa.Dm
open Go.RowKit Ad
set_option linter.unusedVariables false

section
variable {n T : Nat} {ps : List Pl} {free : List Nat}
/-- The live ones' books, where so many more are in a child of e. -/
def Lag (ps : List Pl) (more : Int) (e : Option Nat) : Prop := ∀ (k : Nat) (a : Pl), ps[k]? = some a → a.there = true → Bk.of .live a.x + (if e = some k then more else 0) = kidS (Bk.each .live) ps k a.gen
theorem livP_same {c : List Nat} {more : Int} {r : Nat} {k : Nat} {b : Pl} (h : (livP ps c more r)[k]? = some b) : ∃ a, ps[k]? = some a ∧ b.gen = a.gen ∧ b.there = a.there ∧ b.retired = a.retired ∧ b.x = (if k ∈ c then liveX a.x more (k == r) else a.x) := by
  rw [livP_at] at h
  cases ha : ps[k]? with
  | none => rw [ha] at h; cases h
  | some a =>
    rw [ha] at h
    simp only [Option.map_some, Option.some.injEq] at h
    refine ⟨a, rfl, ?_⟩
    subst h
    split <;> exact ⟨rfl, rfl, rfl, rfl⟩
theorem livP_put {c : List Nat} {more : Int} {r : Nat} {k : Nat} {a : Pl} (h : ps[k]? = some a) : ∃ b, (livP ps c more r)[k]? = some b ∧ b.gen = a.gen ∧ b.there = a.there := by
  rw [livP_at, h]
  refine ⟨_, rfl, ?_⟩
  split <;> exact ⟨rfl, rfl⟩
theorem livP_snoc {c : List Nat} {more : Int} {r k : Nat} {a : Pl} (h : ps[k]? = some a) (hn : k ∉ c) : livP ps (c ++ [k]) more r = (livP ps c more r).set k { a with x := liveX a.x more (k == r) } := by
  refine List.ext_getElem? fun j => ?_
  rw [livP_at]
  by_cases hj : j = k
  · subst hj
    rw [List.getElem?_set_self (by simp [livP]; exact (List.getElem?_eq_some_iff.1 h).1), h]
    simp
  · rw [List.getElem?_set_ne (by omega), livP_at]
    have : (j ∈ c ++ [k]) ↔ j ∈ c := by simp [hj]
    simp only [this]
theorem livP_kid {c : List Nat} {more : Int} {r : Nat} (t : Bk) (ht : t ≠ .live) (j : Nat) (g : Int) : kidS t.each (livP ps c more r) j g = kidS t.each ps j g := by
  have e : (livP ps c more r).map (fun b => if kidB b j g then t.each b.x else 0) = ps.map (fun b => if kidB b j g then t.each b.x else 0) := by
    refine List.ext_getElem? fun k => ?_
    rw [List.getElem?_map, livP_at, List.getElem?_map]
    cases ps[k]? with
    | none => rfl
    | some a =>
      simp only [Option.map_some]
      congr 1
      split
      · have e1 : kidB { a with x := liveX a.x more (k == r) } j g = kidB a j g := rfl
        rw [e1]
        cases t with
        | live => exact absurd rfl ht
        | _ => rfl
      · rfl
  unfold kidS
  rw [e]
/-- One step along a chain. -/
theorem lag_step (h : Rel n T ps free) {c : List Nat} {r : Nat} {g more : Int} (hC : Ch ps ((r : Int), g) (c.map (rfp ps))) (hnd : c.Nodup) (hr : c[0]? = some r) {k : Nat} (hk : k < c.length)
    (hl : Lag (livP ps (c.take k) more r) more (if k = 0 then none else c[k]?)) : Lag (livP ps (c.take (k + 1)) more r) more c[k + 1]? := by
  obtain ⟨j, a, hj, ha, ht, href⟩ := chain_at hC hk
  have hjn : j ∉ c.take k := fun hm => by
    have h1 : c = c.take k ++ c.drop k := (List.take_append_drop k c).symm
    rw [h1] at hnd
    have h2 : j ∈ c.drop k := by
      have : (c.drop k)[0]? = some j := by rw [List.getElem?_drop]; simpa using hj
      exact List.mem_of_getElem? this
    exact (List.nodup_append.1 hnd).2.2 j hm j h2 rfl
  have htk : c.take (k + 1) = c.take k ++ [j] := by rw [List.take_add_one, hj]; rfl
  rw [htk, livP_snoc ha hjn]
  have haj : (livP ps (c.take k) more r)[j]? = some a := by rw [livP_at, ha]; simp [hjn]
  have hlt : j < (livP ps (c.take k) more r).length := (List.getElem?_eq_some_iff.1 haj).1
  have hjr : (j == r) = decide (k = 0) := by
    by_cases hk0 : k = 0
    · subst hk0
      rw [hr] at hj
      cases hj
      simp
    · rw [decide_eq_false hk0]
      refine beq_eq_false_iff_ne.2 fun e => ?_
      subst e
      exact hjn (List.mem_of_getElem? (i := 0) (by rw [List.getElem?_take, if_pos (by omega)]; exact hr))
  -- the parent
  have hpar : ∀ (i : Nat) (b : Pl), ps[i]? = some b → b.there = true → (kidB a i b.gen = true ↔ c[k + 1]? = some i) := by
    intro i b hi hb
    have hup : refAt ps ((r : Int), g) (k + 1) = (a.x.v0, a.x.v1) := by
      show upR ps (refAt ps ((r : Int), g) k) = _
      rw [href]
      show ((getX ps j a.gen).v0, (getX ps j a.gen).v1) = _
      rw [(getX_of ha ht).1]
    by_cases hk1 : k + 1 < c.length
    · obtain ⟨j', a', hj', ha', ht', href'⟩ := chain_at hC hk1
      rw [hup] at href'
      injection href' with q1 q2
      rw [hj', kidB_iff]
      constructor
      · rintro ⟨_, e1, _⟩
        congr 1
        omega
      · intro e
        cases e
        rw [ha'] at hi
        cases hi
        exact ⟨ht, q1, q2⟩
    · have hend := hC.at_.2
      rw [List.length_map, show c.length = k + 1 by omega, hup] at hend
      rw [List.getElem?_eq_none (by omega)]
      constructor
      · intro hx
        obtain ⟨_, e1, e2⟩ := kidB_iff.1 hx
        have := (getX_of hi hb).2
        simp only at hend
        rw [e1, e2, this] at hend
        exact absurd hend (by omega)
      · intro e
        cases e
  have hself : kidB a j a.gen = false := by
    cases hx : kidB a j a.gen with
    | false => rfl
    | true =>
      obtain ⟨rank, _, r2⟩ := h.tree
      obtain ⟨_, e1, e2⟩ := kidB_iff.1 hx
      have hj0 := (h.kid_there ha ha hx).2
      obtain ⟨i, b, _, _, q, _, hr⟩ := r2 j a ha ht hj0
      have : i = j := by omega
      subst this
      omega
  intro i b hb hbt
  rw [kidS_set haj]
  have e1 : kidB { a with x := liveX a.x more (j == r) } i b.gen = kidB a i b.gen := rfl
  rw [e1, show ({ a with x := liveX a.x more (j == r) } : Pl).x = liveX a.x more (j == r) from rfl, show Bk.each .live (liveX a.x more (j == r)) = Bk.each .live a.x + more from rfl]
  by_cases hij : i = j
  · subst hij
    rw [List.getElem?_set_self hlt] at hb
    cases hb
    have h1 := hl i a haj ht
    have hn1 : ¬ c[k + 1]? = some i := fun e => by
      have := (hpar i a ha ht).2 e
      rw [hself] at this
      cases this
    rw [show ({ a with x := liveX a.x more (i == r) } : Pl).gen = a.gen from rfl, hself, if_neg hn1]
    rw [hjr] at *
    by_cases hk0 : k = 0
    · subst hk0
      simp only [if_true, decide_true, Bk.of, liveX] at h1 ⊢
      simp at h1 ⊢
      omega
    · rw [if_neg hk0, hj, if_pos rfl] at h1
      simp only [hk0, decide_false, Bk.of, liveX] at h1 ⊢
      simp at h1 ⊢
      omega
  · rw [List.getElem?_set_ne (by omega)] at hb
    have h1 := hl i b hb hbt
    obtain ⟨b0, hb0, g0, t0, _, _⟩ := livP_same hb
    have h2 := hpar i b0 hb0 (by rw [← t0]; exact hbt)
    rw [← g0] at h2
    have hn0 : ¬ ((if k = 0 then none else c[k]?) = some i) := by
      by_cases hk0 : k = 0
      · rw [if_pos hk0]; simp
      · rw [if_neg hk0, hj]
        intro e
        cases e
        exact hij rfl
    rw [if_neg hn0] at h1
    by_cases hx : kidB a i b.gen = true
    · rw [if_pos (h2.1 hx), hx]
      simp only [if_true]
      omega
    · have hx2 : kidB a i b.gen = false := by simpa using hx
      rw [if_neg (fun e => hx (h2.2 e)), hx2]
      simp
      omega
theorem lag_end (h : Rel n T ps free) {c : List Nat} {r : Nat} {g more : Int} (hC : Ch ps ((r : Int), g) (c.map (rfp ps))) (hnd : c.Nodup) (hr : c[0]? = some r) : Lag (livP ps c more r) more none := by
  have key : ∀ k, k ≤ c.length → Lag (livP ps (c.take k) more r) more (if k = 0 then none else c[k]?) := by
    intro k
    induction k with
    | zero =>
      intro _
      rw [List.take_zero, livP_nil, if_pos rfl]
      intro k a ha ht
      have := h.books .live k a ha ht
      simpa using this
    | succ k ih =>
      intro hk
      rw [if_neg (by omega)]
      exact lag_step h hC hnd hr (by omega) (ih (by omega))
  have h1 := key c.length (Nat.le_refl _)
  rw [List.take_length] at h1
  have h2 : (if c.length = 0 then none else c[c.length]?) = none := by
    split
    · rfl
    · exact List.getElem?_eq_none (Nat.le_refl _)
  rw [h2] at h1
  exact h1
theorem Rel.live_ (h : Rel n T ps free) {c : List Nat} {r : Nat} {a : Pl} {more : Int} (ha : ps[r]? = some a) (ht : a.there = true) (hC : Ch ps ((r : Int), a.gen) (c.map (rfp ps))) (hnd : c.Nodup) (hr : c[0]? = some r)
    (ho : 0 ≤ a.x.v7 + more ∧ a.x.v7 + more + a.x.v5 ≤ a.x.v2) : Rel n T (livP ps c more r) free := by
  have hlag := lag_end (more := more) h hC hnd hr
  have keep : ∀ (x : El) (s : Bool), (liveX x more s).v0 = x.v0 ∧ (liveX x more s).v1 = x.v1 ∧ (liveX x more s).v2 = x.v2 ∧ (liveX x more s).v3 = x.v3 ∧ (liveX x more s).v5 = x.v5 ∧ (liveX x more s).v6 = x.v6 ∧ (liveX x more s).v9 = x.v9 ∧ (liveX x more s).v10 = x.v10 := fun _ _ => ⟨rfl, rfl, rfl, rfl, rfl, rfl, rfl, rfl⟩
  have hth : ∀ j ∈ c, ∃ b, ps[j]? = some b ∧ b.there = true := by
    intro j hj
    obtain ⟨k, hk, e⟩ := List.getElem_of_mem hj
    obtain ⟨j', b, h1, h2, h3, _⟩ := chain_at hC hk
    rw [List.getElem?_eq_getElem hk] at h1
    cases h1
    rw [e] at h2
    exact ⟨b, h2, h3⟩
  obtain ⟨rank, r1, r2⟩ := h.tree
  refine ⟨by simp [livP, h.len], h.n1, h.n32, ?_, h.nodup, ?_, ?_, ?_, ?_, ⟨rank, r1, ?_⟩, ?_⟩
  · intro j
    rw [h.mem j]
    constructor
    · rintro ⟨b, hb, hbt⟩
      obtain ⟨b', hb', _, e⟩ := livP_put (c := c) (more := more) (r := r) hb
      exact ⟨b', hb', by rw [e]; exact hbt⟩
    · rintro ⟨b, hb, hbt⟩
      obtain ⟨b', hb', _, e, _⟩ := livP_same hb
      exact ⟨b', hb', by rw [← e]; exact hbt⟩
  · intro j b hb
    obtain ⟨b', hb', e, _⟩ := livP_same hb
    rw [e]
    exact h.gens j b' hb'
  · intro j b hb
    obtain ⟨b', hb', _, e1, e2, e3⟩ := livP_same hb
    refine ⟨by rw [e2]; exact (h.gone j b' hb').1, fun hbt => ?_⟩
    rw [e1] at hbt
    have hjc : j ∉ c := fun hj => by
      obtain ⟨b2, h1, h2⟩ := hth j hj
      rw [hb'] at h1
      cases h1
      rw [hbt] at h2
      cases h2
    rw [e3, if_neg hjc]
    exact (h.gone j b' hb').2 hbt
  · intro j b hb hbt
    obtain ⟨b', hb', _, e1, _, e3⟩ := livP_same hb
    have hl := h.lim j b' hb' (by rw [← e1]; exact hbt)
    rw [e3]
    split
    · refine ⟨hl.gs, hl.cpu, hl.used, ?_, hl.car⟩
      by_cases hjr : j = r
      · subst hjr
        rw [ha] at hb'
        cases hb'
        simp only [liveX, beq_self_eq_true, if_true]
        omega
      · have : (j == r) = false := beq_eq_false_iff_ne.2 hjr
        rw [this]
        exact hl.own
    · exact hl
  · obtain ⟨b, hb, hbt, g1, g2, g3⟩ := h.root
    rw [livP_at, hb]
    refine ⟨_, rfl, ?_⟩
    split <;> exact ⟨hbt, g1, g2, g3⟩
  · intro j b hb hbt hj0
    obtain ⟨b', hb', _, e1, _, e3⟩ := livP_same hb
    obtain ⟨i, d, hi, hd, q1, q2, hr⟩ := r2 j b' hb' (by rw [← e1]; exact hbt) hj0
    obtain ⟨d', hd', f1, f2⟩ := livP_put (c := c) (more := more) (r := r) hi
    have : b.x.v0 = b'.x.v0 ∧ b.x.v1 = b'.x.v1 := by
      rw [e3]
      split <;> exact ⟨rfl, rfl⟩
    exact ⟨i, d', hd', by rw [f2]; exact hd, by rw [this.1]; exact q1, by rw [this.2, f1]; exact q2, hr⟩
  · intro t j b hb hbt
    by_cases htl : t = .live
    · subst htl
      have := hlag j b hb hbt
      simpa using this
    · obtain ⟨b', hb', e0, e1, _, e3⟩ := livP_same hb
      rw [livP_kid t htl, e0, ← h.books t j b' hb' (by rw [← e1]; exact hbt), e3]
      split
      · cases t with
        | live => exact absurd rfl htl
        | _ => rfl
      · rfl
end
end Go.Proofs.Ytfioghpnehfjhaa.Dm
