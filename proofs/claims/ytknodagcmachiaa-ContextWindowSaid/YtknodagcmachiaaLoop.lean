/-
  Owned heaps beside a loop over an iterator: what the loop's own blocks leave alone. No statement is proved here.
-/
import Derived.RangeFuncNested
import Derived.RangeFuncBound
import Derived.RangeFuncCalls
import Derived.RangeFuncLeaves
import Derived.RangeFuncWrites
import Derived.Test.YtknodagcmachiaaOps
namespace Go.Proofs.Ytknodagcmachiaa
open Go.RowKit
set_option linter.unusedVariables false

/-- All blocks are cells. -/
def CO (H : Hp) : Prop := ∀ L, H.holds L → ∀ x ∈ L, x.2.isCells = true
theorem CO.pc (b : Nat) (T : TypeId) (cs : List Value) : CO (pc b T cs) := by
  intro L h x hx
  have h : L = [(b, .cells cs.toArray T (0, 0))] := h
  subst h
  simp at hx
  subst hx
  rfl
theorem CO.emp : CO emp := by
  intro L h x hx
  have h : L = [] := h
  subst h
  cases hx
theorem CO.mul {A B : Hp} (h : CO A) (k : CO B) : CO (A * B) := by
  rintro L ⟨L1, L2, p, a, b⟩ x hx
  rcases List.mem_append.1 (p.mem_iff.1 hx) with hx | hx
  · exact h _ a x hx
  · exact k _ b x hx
theorem CO.ex {α : Sort _} {f : α → Hp} (h : ∀ a, CO (f a)) : CO (ex f) := fun L ⟨a, ha⟩ => h a L ha
theorem CO.given {p : Prop} {A : Hp} (h : CO A) : CO (given p A) := fun L ⟨_, ha⟩ => h L ha
theorem CO.sl (e : TypeId) (size : Nat) (v : Value) (n : Nat) (xs : List Value) : CO (sl e size v n xs) := by
  rintro L ⟨hl, ⟨_, _, rfl⟩ | ⟨g, cap, cur, _, rfl, _⟩⟩ x hx
  · cases hx
  · simp at hx
    subst hx
    rfl

section
variable {w0 w : World} {F H : Hp}
/-- What a call has left alone (its own memory lies behind w) is as it was. -/
theorem Sat.rebase (h : Sat w0 F w) {W : World} (hb : Below w.heap.size w W) : Sat w0 F W := by
  have hbel := h.below
  obtain ⟨_, L, hL, hn, hx⟩ := h
  refine ⟨hbel.trans (hb.mono hbel.size), L, hL, hn, fun x hm => ?_⟩
  have h1 := hx x hm
  exact ⟨h1.1, (hb.block _ (lt_of_block h1.2)).trans h1.2⟩
theorem Sat.grown (h : Sat w0 H w) (hc : CO H) {B : Nat} (hB : w0.heap.size ≤ B) {W : World} {row : Option Nat} (hg : w.grownBy W row) (hr : ∀ r, row = some r → B ≤ r ∧ ∃ o : Obj, w.heap[r]? = some o ∧ o.isCells = false) : Sat w0 H W := by
  obtain ⟨hbel, L, hL, hn, hx⟩ := h
  refine ⟨hbel.grown hg hbel.size (fun k e => Nat.le_trans hB (hr k e).1), L, hL, hn, fun x hm => ?_⟩
  have h1 := hx x hm
  refine ⟨h1.1, (hg.block _ (lt_of_block h1.2) ?_).trans h1.2⟩
  intro e
  obtain ⟨_, o, ho, hoc⟩ := hr _ e.symm
  rw [h1.2] at ho
  cases ho
  rw [hc L hL x hm] at hoc
  cases hoc
theorem Sat.own {β : Type} {f : β → Hp} (hc : ∀ s, CO (f s)) {B : Nat} (hB : w0.heap.size ≤ B) : OwnFrom B (fun (s : β) W => Sat w0 (f s) W) :=
  fun s W W' row hs hg hr => hs.grown (hc s) hB hg hr

/-- As Sat; and each block lies below B, or is cells: so it abides what a loop over an iterator does behind B. -/
def SatC (w0 : World) (B : Nat) (H : Hp) (w : World) : Prop :=
  Below w0.heap.size w0 w ∧ ∃ L, H.holds L ∧ (L.map (·.1)).Nodup ∧ ∀ x ∈ L, (w0.heap.size ≤ x.1 ∧ w.heap[x.1]? = some x.2) ∧ (x.1 < B ∨ x.2.isCells = true)
theorem SatC.sat {B : Nat} (h : SatC w0 B H w) : Sat w0 H w := by
  obtain ⟨hb, L, hL, hn, hx⟩ := h
  exact ⟨hb, L, hL, hn, fun x hm => (hx x hm).1⟩
theorem Sat.satC (h : Sat w0 H w) {B : Nat} (hB : w.heap.size ≤ B) : SatC w0 B H w := by
  obtain ⟨hb, L, hL, hn, hx⟩ := h
  exact ⟨hb, L, hL, hn, fun x hm => ⟨hx x hm, .inl (Nat.lt_of_lt_of_le (lt_of_block (hx x hm).2) hB)⟩⟩
theorem SatC.cast {B : Nat} (h : SatC w0 B H w) {H' : Hp} (e : H = H') : SatC w0 B H' w := e ▸ h
theorem SatC.own {β : Type} {f : β → Hp} {B : Nat} (hB : w0.heap.size ≤ B) : OwnFrom B (fun (s : β) W => SatC w0 B (f s) W) := by
  intro s W W' row hs hg hr
  obtain ⟨hbel, L, hL, hn, hx⟩ := hs
  refine ⟨hbel.grown hg hbel.size (fun k e => Nat.le_trans hB (hr k e).1), L, hL, hn, fun x hm => ?_⟩
  have h1 := hx x hm
  refine ⟨⟨h1.1.1, (hg.block _ (lt_of_block h1.1.2) ?_).trans h1.1.2⟩, h1.2⟩
  intro e
  obtain ⟨h2, o, ho, hoc⟩ := hr _ e.symm
  rcases h1.2 with h3 | h3
  · omega
  · rw [h1.1.2] at ho
    cases ho
    rw [h3] at hoc
    cases hoc
theorem SatC.store {B b : Nat} {T : TypeId} {cs : List Value} (h : SatC w0 B (pc b T cs * F) w) (i : Nat) (v : Value) : SatC w0 B (pc b T (cs.set i v) * F) (w.setCell ⟨b, i, none⟩ v) := by
  have hs := h.sat.store i v
  obtain ⟨hbel, L, ⟨L1, L2, p, a, c⟩, hn, hx⟩ := h
  have a : L1 = [(b, .cells cs.toArray T (0, 0))] := a
  subst a
  have hn' := (p.map (·.1)).nodup_iff.1 hn
  have hb1 := (hx (b, .cells cs.toArray T (0, 0)) (p.mem_iff.2 (by simp))).1
  refine ⟨hs.1, (b, .cells (cs.set i v).toArray T (0, 0)) :: L2, ⟨[(b, .cells (cs.set i v).toArray T (0, 0))], L2, List.Perm.refl _, rfl, c⟩, by simpa using hn', ?_⟩
  intro x hm
  rcases List.mem_cons.1 hm with rfl | hm
  · refine ⟨⟨hb1.1, ?_⟩, .inr rfl⟩
    rw [setCell_block _ _ _ _ _ _ _ hb1.2]
    simp
  · have h1 := hx x (p.mem_iff.2 (List.mem_append_right _ hm))
    refine ⟨⟨h1.1.1, (Below.heap_setCell _ _ _ _ ?_).trans h1.1.2⟩, h1.2⟩
    intro e
    have e : x.1 = b := e
    have : (b :: L2.map (·.1)).Nodup := by simpa using hn'
    exact (List.nodup_cons.1 this).1 (e ▸ List.mem_map_of_mem hm)
end
end Go.Proofs.Ytknodagcmachiaa
