/-
  Package domain: live, plainly: what a chain has behind it. No statement is proved here.
-/
import Derived.Test.YtfioghpnehfjhaaDn7
namespace Go.Proofs.Ytfioghpnehfjhaa.Dm
open Go.RowKit Ad
set_option linter.unusedVariables false

/-- The ref of who is at a place. -/
def rfp (ps : List Pl) (k : Nat) : Int × Int := ((k : Int), match ps[k]? with | none => 0 | some a => a.gen)
/-- Behind live: so many more live in each of c, and are r's own. -/
def livP (ps : List Pl) (c : List Nat) (more : Int) (r : Nat) : List Pl := ps.mapIdx fun k a => if k ∈ c then { a with x := liveX a.x more (k == r) } else a
section
variable {ps : List Pl} {c : List Nat} {more : Int} {r : Nat}
theorem livP_at (k : Nat) : (livP ps c more r)[k]? = (ps[k]?).map fun a => if k ∈ c then { a with x := liveX a.x more (k == r) } else a := by
  unfold livP
  rw [List.getElem?_mapIdx]
theorem livP_nil : livP ps [] more r = ps := List.ext_getElem? fun k => by
  rw [livP_at]
  cases ps[k]? <;> simp
theorem isAt_liv (i g : Int) : isAt (livP ps c more r) i g = (isAt ps i g).map fun ka => (ka.1, if ka.1 ∈ c then { ka.2 with x := liveX ka.2.x more (ka.1 == r) } else ka.2) := by
  unfold isAt
  split
  · rfl
  · rw [livP_at]
    cases h : ps[i.toNat]? with
    | none => rfl
    | some a =>
      simp only [Option.map_some]
      by_cases hc : i.toNat ∈ c
      · simp only [if_pos hc]
        split <;> simp [hc]
      · simp only [if_neg hc]
        split <;> simp [hc]
theorem getE_liv (i g : Int) : getE (livP ps c more r) i g = getE ps i g := by
  unfold getE
  rw [isAt_liv]
  cases isAt ps i g <;> rfl
theorem at_ref {i g : Int} (h : getE ps i g = 0) : ∃ k a, i = (k : Nat) ∧ ps[k]? = some a ∧ a.there = true ∧ a.gen = g ∧ isAt ps i g = some (k, a) := by
  unfold getE at h
  cases hA : isAt ps i g with
  | none => rw [hA] at h; cases h
  | some ka =>
    obtain ⟨k, a⟩ := ka
    have := isAt_some hA
    exact ⟨k, a, this.2.1, this.1, this.2.2.1, this.2.2.2, rfl⟩
theorem isAt_of {k : Nat} {a : Pl} (h : ps[k]? = some a) (ht : a.there = true) : isAt ps k a.gen = some (k, a) := by
  unfold isAt
  rw [if_neg (by omega), Int.toNat_natCast, h]
  simp [ht]
theorem getX_of {k : Nat} {a : Pl} (h : ps[k]? = some a) (ht : a.there = true) : getX ps k a.gen = a.x ∧ getE ps k a.gen = 0 := by
  unfold getX getE
  rw [isAt_of h ht]
  exact ⟨rfl, rfl⟩
theorem getX_liv {k : Nat} {a : Pl} (h : ps[k]? = some a) (ht : a.there = true) : getX (livP ps c more r) k a.gen = if k ∈ c then liveX a.x more (k == r) else a.x := by
  unfold getX
  rw [isAt_liv, isAt_of h ht]
  simp only [Option.map_some]
  split <;> rfl
theorem chain_at {i g : Int} (hC : Ch ps (i, g) (c.map (rfp ps))) {k : Nat} (hk : k < c.length) : ∃ j a, c[k]? = some j ∧ ps[j]? = some a ∧ a.there = true ∧ refAt ps (i, g) k = ((j : Int), a.gen) := by
  obtain ⟨h1, h2⟩ := hC.at_
  have h3 := h1 k (by simpa using hk)
  obtain ⟨j, hj⟩ : ∃ j, c[k]? = some j := ⟨c[k], List.getElem?_eq_getElem hk⟩
  rw [List.getElem?_map, hj, Option.map_some] at h3
  have h4 : rfp ps j = refAt ps (i, g) k := Option.some.inj h3.1
  rw [← h4] at h3
  obtain ⟨j', a, e1, ha, ht, hg, _⟩ := at_ref h3.2
  have : j = j' := by
    have : (rfp ps j).1 = (j : Int) := rfl
    omega
  subst this
  refine ⟨j, a, hj, ha, ht, ?_⟩
  rw [← h4]
  unfold rfp
  rw [ha]
theorem livP_set {k : Nat} {a : Pl} (h : ps[k]? = some a) (ht : a.there = true) (hn : k ∉ c) : setP (livP ps c more r) k a.gen (liveX a.x more (k == r)) = livP ps (c ++ [k]) more r := by
  unfold setP
  rw [isAt_liv, isAt_of h ht]
  simp only [Option.map_some, if_neg hn]
  refine List.ext_getElem? fun j => ?_
  rw [livP_at]
  by_cases hj : j = k
  · subst hj
    rw [List.getElem?_set_self (by simp [livP]; exact (List.getElem?_eq_some_iff.1 h).1), h]
    simp
  · rw [List.getElem?_set_ne (by omega), livP_at]
    have : (j ∈ c ++ [k]) ↔ j ∈ c := by simp [hj]
    simp only [this]
end
section
variable {w0 w : World} {F : Hp} {d p : Nat} {ps : List Pl} {free : List Nat}
theorem live_step {c : List Nat} {r : Nat} {g more : Int} (hC : Ch ps ((r : Int), g) (c.map (rfp ps))) (hnd : c.Nodup)
    (hb : ∀ (k : Nat) (a : Pl), ps[k]? = some a → -1000 ≤ a.x.v7 ∧ a.x.v7 ≤ 1000000 ∧ -1000 ≤ a.x.v8 ∧ a.x.v8 ≤ 1000000) (hm : -1 ≤ more ∧ more ≤ 1) {k : Nat} (hk : k < c.length) (bm ba br : Nat)
    (hS : Sat w0 (domB d p * (tblP p (livP ps (c.take k) more r) free * (livC bm ba br more (refAt ps (r, g) k).1 (refAt ps (r, g) k).2 r g * F))) w) :
    Calls Try.prog 34 #[vp d, vr (refAt ps (r, g) k).1 (refAt ps (r, g) k).2, .func (.func 80) #[] #[vp bm, vp ba, vp br]] w fun e w' => (∃ v, e = .returned v) ∧ Sat w0 (domB d p * (tblP p (livP ps (c.take (k + 1)) more r) free * (livC bm ba br more (refAt ps (r, g) k).1 (refAt ps (r, g) k).2 r g * F))) w' := by
  obtain ⟨j, a, hj, ha, ht, hr⟩ := chain_at hC hk
  have hjn : j ∉ c.take k := fun h => by
    have h1 : c = c.take k ++ c.drop k := (List.take_append_drop k c).symm
    rw [h1] at hnd
    have h2 : j ∈ c.drop k := by
      have : (c.drop k)[0]? = some j := by rw [List.getElem?_drop]; simpa using hj
      exact List.mem_of_getElem? this
    exact (List.nodup_append.1 hnd).2.2 j h j h2 rfl
  have hst := livP_set (more := more) (r := r) ha ht hjn
  rw [show c.take k ++ [j] = c.take (k + 1) by rw [List.take_add_one, hj]; rfl] at hst
  rw [hr] at hS ⊢
  have hx := getX_liv (c := c.take k) (more := more) (r := r) ha ht
  rw [if_neg hjn] at hx
  obtain ⟨b1, b2, b3, b4⟩ := hb j a ha
  rw [← hst]
  refine (change_live bm ba br more j a.gen r g hS j a.gen (liveX a.x more (j == r)) ?_).mono fun e w' h => ⟨⟨_, h.1⟩, h.2⟩
  intro _ b w1 F' h1
  rw [hx] at h1
  have hw8 : IntKind.i64.wrap (a.x.v8 + more) = a.x.v8 + more := IntWalk.i64_in _ (by omega)
  have hw7 : IntKind.i64.wrap (a.x.v7 + more) = a.x.v7 + more := IntWalk.i64_in _ (by omega)
  have h1' : Sat w0 (elB b a.x * (pc bm 3 [vi more] * (pc ba 32 [vi j, vu a.gen] * (pc br 32 [vi r, vu g] * F')))) w1 := h1.cast (by unfold livC; ac_rfl)
  cases hk0 : k with
  | zero =>
    subst hk0
    have hz : (j : Int) = r ∧ a.gen = g := by
      have : refAt ps ((r : Int), g) 0 = ((r : Int), g) := rfl
      rw [this] at hr
      injection hr with e1 e2
      exact ⟨e1.symm, e2.symm⟩
    have hjr : j = r := by omega
    rw [show (j == r) = true from beq_iff_eq.2 hjr]
    exact (live1_yes h1' hw8 hw7 hz.1 hz.2).mono fun e w' h => ⟨h.1, h.2.cast (by unfold livC; ac_rfl)⟩
  | succ k' =>
    have hjr : j ≠ r := fun e => by
      obtain ⟨j0, a0, hj0, _, _, hr0⟩ := chain_at hC (k := 0) (by omega)
      have : refAt ps ((r : Int), g) 0 = ((r : Int), g) := rfl
      rw [this] at hr0
      injection hr0 with e1 e2
      have : j0 = r := by omega
      subst this
      apply hjn
      rw [hk0, e]
      exact List.mem_of_getElem? (i := 0) (by rw [List.getElem?_take, if_pos (by omega)]; exact hj0)
    rw [show (j == r) = false from beq_eq_false_iff_ne.2 hjr]
    exact (live1_no h1' hw8 (by omega)).mono fun e w' h => ⟨h.1, h.2.cast (by unfold livC; ac_rfl)⟩
end
end Go.Proofs.Ytfioghpnehfjhaa.Dm
