/-
  Helper lemmas that all proofs of this seat share: a drawn region whose head only reads and whose tail is in one order; worlds, blocks, owned heaps. No statement is proved here.
-/
import Derived.WalkKit
import Derived.WalkSpells
import Derived.Deep.QuietTactic
import Derived.BigQuiet
import Derived.BigRegion
import Derived.Deep.RegionHeld3
import Derived.Lib.Hide
import Derived.StillTailTactics
namespace Go.Proofs.YtdbppfcilaajaaaGreat
open Go.RowKit

section region
variable {P : Program} {ops : Array Oper}

theorem still_of_quiet {W : World} {Q : Act → Prop} : ∀ (l : List Oper) (a : Act), wpQuiet P ops (fun w' => w' = W) Q l a → wpStill P ops W Q l a
  | [], _, h => h
  | o :: l, a, h => by
    unfold wpQuiet at h
    unfold wpStill
    split
    · rename_i hw
      rw [if_pos hw] at h
      obtain ⟨v, h1, h2⟩ := h
      have h3 := h1 W rfl
      unfold Oper.quietAt at h3
      unfold Oper.still
      generalize (execOp a.eval o).run P W = r at *
      cases r with
      | ok n w' =>
        cases n <;> simp only [Oper.quietUpon] at h3 <;> simp only [Oper.stillUpon]
        case value u =>
          obtain ⟨e1, e2⟩ := h3
          exact ⟨e1, still_of_quiet l _ (e2 ▸ h2)⟩
        case skip =>
          obtain ⟨e1, e2⟩ := h3
          exact ⟨e1, still_of_quiet l _ (e2 ▸ h2)⟩
        case enter f args =>
          exact ⟨h3.1, v, h3.2, still_of_quiet l _ h2⟩
      | halt x w' => simp only [Oper.quietUpon] at h3
    · rename_i hw
      rw [if_neg hw] at h
      exact still_of_quiet l _ h

/-- A drawn region: the first n operations only read, the rest stand in one order. -/
theorem wp_quiet_tail {id : Nat} {Q : Exit → Act → World → Prop} {a : Act} {w : World} {l : List Oper} (n : Nat) (hm : P.follows .mixedOrders = true) (hB : Region.lexTailB .any l.toArray n = true)
    (h : wpQuiet P l.toArray (fun w' => w' = w.drew) (fun a' => wpList P l.toArray Q (l.drop n) a' w.drew) (l.take n) a) : (Code.region id l.toArray true).wp P Q a w :=
  wp_region_still_tail n hm hB (still_of_quiet _ _ h)
end region
end Go.Proofs.YtdbppfcilaajaaaGreat

namespace Go.Proofs.YtdbppfcilaajaaaGreat
open Go.RowKit
set_option linter.unusedVariables false

abbrev Blks := List (Nat × Obj)

structure Hp where
  holds : Blks → Prop
  perm : ∀ {L L'}, L.Perm L' → holds L → holds L'

theorem Hp.ext' {A B : Hp} (h : ∀ L, A.holds L ↔ B.holds L) : A = B := by
  cases A; cases B
  congr
  funext L
  exact propext (h L)

def pt (b : Nat) (o : Obj) : Hp := ⟨fun L => L = [(b, o)], fun {L L'} h e => by subst e; exact List.perm_singleton.1 h.symm⟩
def pc (b : Nat) (T : TypeId) (cs : List Value) : Hp := pt b (.cells cs.toArray T (0, 0))
def emp : Hp := ⟨fun L => L = [], fun {L L'} h e => by subst e; exact List.nil_perm.1 h⟩
def Hp.sep (A B : Hp) : Hp := ⟨fun L => ∃ L1 L2, L.Perm (L1 ++ L2) ∧ A.holds L1 ∧ B.holds L2, fun {L L'} h ⟨L1, L2, p, a, b⟩ => ⟨L1, L2, h.symm.trans p, a, b⟩⟩
def ex {α : Sort _} (f : α → Hp) : Hp := ⟨fun L => ∃ x, (f x).holds L, fun {L L'} h ⟨x, hx⟩ => ⟨x, (f x).perm h hx⟩⟩
def given (p : Prop) (A : Hp) : Hp := ⟨fun L => p ∧ A.holds L, fun {L L'} h ⟨x, hx⟩ => ⟨x, A.perm h hx⟩⟩
instance : Mul Hp := ⟨Hp.sep⟩

theorem sep_comm (A B : Hp) : A * B = B * A := Hp.ext' fun L =>
  ⟨fun ⟨L1, L2, p, a, b⟩ => ⟨L2, L1, p.trans List.perm_append_comm, b, a⟩, fun ⟨L1, L2, p, a, b⟩ => ⟨L2, L1, p.trans List.perm_append_comm, b, a⟩⟩
theorem sep_assoc (A B C : Hp) : A * B * C = A * (B * C) := Hp.ext' fun L => by
  constructor
  · rintro ⟨L12, L3, p, ⟨L1, L2, q, a, b⟩, c⟩
    exact ⟨L1, L2 ++ L3, p.trans (by rw [← List.append_assoc]; exact q.append_right _), a, ⟨L2, L3, List.Perm.refl _, b, c⟩⟩
  · rintro ⟨L1, L23, p, a, ⟨L2, L3, q, b, c⟩⟩
    exact ⟨L1 ++ L2, L3, p.trans (by rw [List.append_assoc]; exact q.append_left _), ⟨L1, L2, List.Perm.refl _, a, b⟩, c⟩
theorem emp_sep (A : Hp) : emp * A = A := Hp.ext' fun L => by
  constructor
  · rintro ⟨L1, L2, p, h, b⟩
    have h : L1 = [] := h
    subst h
    exact A.perm p.symm b
  · intro h
    exact ⟨[], L, List.Perm.refl _, rfl, h⟩
theorem sep_emp (A : Hp) : A * emp = A := by rw [sep_comm, emp_sep]
instance : Std.Associative (α := Hp) (· * ·) := ⟨sep_assoc⟩
instance : Std.Commutative (α := Hp) (· * ·) := ⟨sep_comm⟩

/-- In world w: what has been made since w0 holds H (and perhaps more); all that was there in w0 is as it was. -/
def Sat (w0 : World) (H : Hp) (w : World) : Prop :=
  Below w0.heap.size w0 w ∧ ∃ L, H.holds L ∧ (L.map (·.1)).Nodup ∧ ∀ x ∈ L, w0.heap.size ≤ x.1 ∧ w.heap[x.1]? = some x.2

section
variable {w0 w : World} {A B F H : Hp}

theorem Sat.start (w0 : World) : Sat w0 emp w0 := ⟨Below.refl _ _, [], rfl, by simp, by simp⟩
theorem Sat.below (h : Sat w0 H w) : Below w0.heap.size w0 w := h.1
theorem Sat.size (h : Sat w0 H w) : w0.heap.size ≤ w.heap.size := h.1.size
theorem Sat.cast (h : Sat w0 H w) {H' : Hp} (e : H = H') : Sat w0 H' w := e ▸ h
theorem Sat.imp (h : Sat w0 H w) {H' : Hp} (e : ∀ L, H.holds L → H'.holds L) : Sat w0 H' w := by
  obtain ⟨hb, L, hL, r⟩ := h
  exact ⟨hb, L, e L hL, r⟩
theorem Sat.impL (h : Sat w0 (A * F) w) {A' : Hp} (e : ∀ L, A.holds L → A'.holds L) : Sat w0 (A' * F) w :=
  h.imp fun _ ⟨L1, L2, p, a, b⟩ => ⟨L1, L2, p, e _ a, b⟩
theorem Sat.swap (h : Sat w0 (A * B) w) : Sat w0 (B * A) w := h.cast (sep_comm A B)
theorem Sat.dropL (h : Sat w0 (A * F) w) : Sat w0 F w := by
  obtain ⟨hb, L, ⟨L1, L2, p, a, b⟩, hn, hx⟩ := h
  have hn' : ((L1 ++ L2).map (·.1)).Nodup := (p.map _).nodup_iff.1 hn
  rw [List.map_append] at hn'
  exact ⟨hb, L2, b, (List.nodup_append.1 hn').2.1, fun x hm => hx x (p.mem_iff.2 (List.mem_append_right _ hm))⟩
theorem Sat.dropR (h : Sat w0 (F * A) w) : Sat w0 F w := h.swap.dropL
theorem Sat.pull2 {C : Hp} (h : Sat w0 (A * (B * C)) w) : Sat w0 (B * (A * C)) w := h.cast (by rw [← sep_assoc, sep_comm A B, sep_assoc])
theorem Sat.pull3 {C D : Hp} (h : Sat w0 (A * (B * (C * D))) w) : Sat w0 (C * (A * (B * D))) w := h.cast (by ac_rfl)
theorem Sat.pull4 {C D E : Hp} (h : Sat w0 (A * (B * (C * (D * E)))) w) : Sat w0 (D * (A * (B * (C * E)))) w := h.cast (by ac_rfl)
theorem Sat.rot3 {C D : Hp} (h : Sat w0 (A * (B * (C * D))) w) : Sat w0 (B * (C * (A * D))) w := h.cast (by ac_rfl)
theorem Sat.drop2 {C : Hp} (h : Sat w0 (A * (B * C)) w) : Sat w0 (A * C) w := h.pull2.dropL
theorem Sat.drop3 {C D : Hp} (h : Sat w0 (A * (B * (C * D))) w) : Sat w0 (A * (B * D)) w := h.pull3.dropL
theorem Sat.in2 {B' C : Hp} (h : Sat w0 (A * (B * C)) w) (f : Sat w0 (B * (A * C)) w → Sat w0 (B' * (A * C)) w) : Sat w0 (A * (B' * C)) w := (f h.pull2).pull2
theorem Sat.exE {α : Sort _} {f : α → Hp} (h : Sat w0 (ex f * F) w) : ∃ x, Sat w0 (f x * F) w := by
  obtain ⟨hb, L, ⟨L1, L2, p, ⟨x, a⟩, b⟩, r⟩ := h
  exact ⟨x, hb, L, ⟨L1, L2, p, a, b⟩, r⟩
theorem Sat.exI {α : Sort _} {f : α → Hp} (x : α) (h : Sat w0 (f x * F) w) : Sat w0 (ex f * F) w := h.impL fun _ a => ⟨x, a⟩
theorem Sat.givenE {p : Prop} (h : Sat w0 (given p A * F) w) : p ∧ Sat w0 (A * F) w := by
  obtain ⟨hb, L, ⟨L1, L2, q, ⟨x, a⟩, b⟩, r⟩ := h
  exact ⟨x, hb, L, ⟨L1, L2, q, a, b⟩, r⟩
theorem Sat.givenI {p : Prop} (x : p) (h : Sat w0 (A * F) w) : Sat w0 (given p A * F) w := h.impL fun _ a => ⟨x, a⟩

theorem Sat.blk {b : Nat} {o : Obj} (h : Sat w0 (pt b o * F) w) : w.heap[b]? = some o ∧ w0.heap.size ≤ b := by
  obtain ⟨hb, L, ⟨L1, L2, p, a, _⟩, hn, hx⟩ := h
  have a : L1 = [(b, o)] := a
  subst a
  have := hx (b, o) (p.mem_iff.2 (by simp))
  exact ⟨this.2, this.1⟩
theorem Sat.lt {b : Nat} {o : Obj} (h : Sat w0 (pt b o * F) w) : b < w.heap.size := lt_of_block h.blk.1
theorem Sat.ne {b c : Nat} {o o' : Obj} (h : Sat w0 (pt b o * (pt c o' * F)) w) : b ≠ c := by
  obtain ⟨hb, L, ⟨L1, L2, p, a, ⟨L3, L4, p', a', _⟩⟩, hn, hx⟩ := h
  have a : L1 = [(b, o)] := a
  have a' : L3 = [(c, o')] := a'
  subst a
  subst a'
  have hn' := (p.map (·.1)).nodup_iff.1 hn
  have : (([(b, o)] ++ ([(c, o')] ++ L4)).map (·.1)).Nodup := by
    refine (List.Perm.nodup_iff ?_).1 hn'
    exact (p'.append_left _).map _
  intro e
  subst e
  simp at this

/-- A block of the call's own is turned. -/
theorem Sat.upd {b : Nat} {o o' : Obj} {w' : World} (h : Sat w0 (pt b o * F) w) (hos : w'.os = w.os) (ht : w'.tape = w.tape) (hout : w'.output = w.output) (hs : w.heap.size ≤ w'.heap.size)
    (hb : w'.heap[b]? = some o') (ho : ∀ k, k < w.heap.size → k ≠ b → w'.heap[k]? = w.heap[k]?) : Sat w0 (pt b o' * F) w' := by
  have hblk := h.blk
  have hlt := h.lt
  obtain ⟨hbel, L, ⟨L1, L2, p, a, c⟩, hn, hx⟩ := h
  have a : L1 = [(b, o)] := a
  subst a
  have hn' := (p.map (·.1)).nodup_iff.1 hn
  refine ⟨⟨hos.trans hbel.os, ht.trans hbel.tape, hout.trans hbel.output, Nat.le_trans hbel.size hs, fun k hk => (ho k (Nat.lt_of_lt_of_le hk hbel.size) (by omega)).trans (hbel.block k hk)⟩,
    (b, o') :: L2, ⟨[(b, o')], L2, List.Perm.refl _, rfl, c⟩, by simpa using hn', ?_⟩
  intro x hm
  rcases List.mem_cons.1 hm with rfl | hm
  · exact ⟨hblk.2, hb⟩
  · have h1 := hx x (p.mem_iff.2 (List.mem_append_right _ hm))
    refine ⟨h1.1, (ho _ (lt_of_block h1.2) ?_).trans h1.2⟩
    intro e
    have : (b :: L2.map (·.1)).Nodup := by simpa using hn'
    exact (List.nodup_cons.1 this).1 (e ▸ List.mem_map_of_mem hm)

theorem Sat.alloc (h : Sat w0 F w) (o : Obj) : Sat w0 (pt w.heap.size o * F) (w.alloc o) := by
  obtain ⟨hbel, L, hL, hn, hx⟩ := h
  refine ⟨hbel.alloc hbel.size o, (w.heap.size, o) :: L, ⟨[(w.heap.size, o)], L, List.Perm.refl _, rfl, hL⟩, ?_, ?_⟩
  · simp only [List.map_cons, List.nodup_cons]
    refine ⟨?_, hn⟩
    intro hm
    obtain ⟨x, hxm, he⟩ := List.mem_map.1 hm
    have := lt_of_block (hx x hxm).2
    omega
  · intro x hm
    rcases List.mem_cons.1 hm with rfl | hm
    · exact ⟨hbel.size, heap_alloc_new w o⟩
    · have h1 := hx x hm
      exact ⟨h1.1, (Below.heap_alloc w o _ (lt_of_block h1.2)).trans h1.2⟩
/-- A new block that is not spoken of. -/
theorem Sat.alloc' (h : Sat w0 F w) (o : Obj) : Sat w0 F (w.alloc o) := (h.alloc o).dropL
theorem Sat.alike {w' : World} (h : Sat w0 F w) (hh : w'.heap = w.heap) (ht : w'.tape = w.tape) (ho : w'.os = w.os) (hp : w'.output = w.output) : Sat w0 F w' := by
  obtain ⟨hbel, L, hL, hn, hx⟩ := h
  exact ⟨⟨ho.trans hbel.os, ht.trans hbel.tape, hp.trans hbel.output, by rw [hh]; exact hbel.size, fun k hk => by rw [hh]; exact hbel.block k hk⟩, L, hL, hn, fun x hm => by rw [hh]; exact hx x hm⟩
theorem Sat.drew (h : Sat w0 F w) : Sat w0 F w.drew := h.alike rfl rfl rfl rfl
theorem Sat.drewN (h : Sat w0 F w) (n : Nat) : Sat w0 F (w.drewN n) := h.alike rfl rfl rfl rfl

theorem setCell_block (w : World) (b o : Nat) (v : Value) (c : Array Value) (T : TypeId) (f : Nat × Nat) (h : w.heap[b]? = some (.cells c T f)) :
    (w.setCell ⟨b, o, none⟩ v).heap[b]? = some (.cells (c.setIfInBounds o v) T f) := by
  show (w.heap.modify b _)[b]? = _
  rw [Array.getElem?_modify]
  simp [h]

theorem Sat.cell {b : Nat} {T : TypeId} {cs : List Value} (h : Sat w0 (pc b T cs * F) w) (i : Nat) {v : Value} (hi : cs[i]? = some v) : w.cell? ⟨b, i, none⟩ = some v := by
  have := h.blk.1
  simp [World.cell?, this, hi]
theorem Sat.free {b : Nat} {T : TypeId} {cs : List Value} (h : Sat w0 (pc b T cs * F) w) (i : Nat) : w.frozen? ⟨b, i, none⟩ = false := by
  have := h.blk.1
  simp [World.frozen?, this]
theorem Sat.store {b : Nat} {T : TypeId} {cs : List Value} (h : Sat w0 (pc b T cs * F) w) (i : Nat) (v : Value) : Sat w0 (pc b T (cs.set i v) * F) (w.setCell ⟨b, i, none⟩ v) :=
  h.upd rfl rfl rfl (by simp) (by rw [setCell_block _ _ _ _ _ _ _ h.blk.1]; simp) (fun k _ hne => Below.heap_setCell _ _ _ _ hne)
theorem Sat.old (h : Sat w0 F w) {a : Addr} (ha : a.block < w0.heap.size) : w.cell? a = w0.cell? a := h.below.cell ha
end

/-- The slice v can be read: n elements of so many cells each, together xs. -/
def Rd (w : World) (size : Nat) (v : Value) (n : Nat) (xs : List Value) : Prop :=
  xs.length = n * size ∧ ((n = 0 ∧ ∃ ao cap, v = .slice ao 0 cap) ∨ ∃ b off cap, v = .slice (some ⟨b, off, none⟩) n cap ∧ ∀ j u, xs[j]? = some u → w.cell? ⟨b, off + j, none⟩ = some u)

/-- A slice that came in: it lies in what was there in w0. -/
def Arg (w0 : World) (size : Nat) (v : Value) (n : Nat) (xs : List Value) : Prop :=
  xs.length = n * size ∧ ((n = 0 ∧ ∃ ao cap, v = .slice ao 0 cap) ∨ ∃ b off cap, v = .slice (some ⟨b, off, none⟩) n cap ∧ b < w0.heap.size ∧ ∀ j u, xs[j]? = some u → w0.cell? ⟨b, off + j, none⟩ = some u)

/-- A slice of the call's own, from its array's head on. -/
def sl (e : TypeId) (size : Nat) (v : Value) (n : Nat) (xs : List Value) : Hp :=
  ⟨fun L => xs.length = n * size ∧ ((v = .slice none 0 0 ∧ n = 0 ∧ L = []) ∨
    ∃ g cap cur, v = .slice (some ⟨g, 0, none⟩) n cap ∧ L = [(g, .cells cur e (0, 0))] ∧ n ≤ cap ∧ cap ≤ maxLen ∧ cap * size ≤ cur.size ∧ cur.toList.take (n * size) = xs),
   fun {L L'} h ⟨hl, hx⟩ => ⟨hl, by
    rcases hx with ⟨a, b, rfl⟩ | ⟨g, cap, cur, a, rfl, r⟩
    · exact .inl ⟨a, b, List.nil_perm.1 h⟩
    · exact .inr ⟨g, cap, cur, a, List.perm_singleton.1 h.symm, r⟩⟩⟩

section
variable {w0 w : World} {F H : Hp} {e : TypeId} {size : Nat} {v : Value} {n : Nat} {xs : List Value}

theorem Arg.rd (h : Arg w0 size v n xs) (hS : Sat w0 H w) : Rd w size v n xs := by
  refine ⟨h.1, ?_⟩
  rcases h.2 with h | ⟨b, off, cap, rfl, hb, hc⟩
  · exact .inl h
  · exact .inr ⟨b, off, cap, rfl, fun j u hj => (hS.old (by exact hb)).trans (hc j u hj)⟩
theorem Rd.drewN (h : Rd w size v n xs) (k : Nat) : Rd (w.drewN k) size v n xs := h
theorem Rd.nil (w : World) (size : Nat) : Rd w size (.slice none 0 0) 0 [] := ⟨by simp, .inl ⟨rfl, _, _, rfl⟩⟩
theorem Rd.len (h : Rd w size v n xs) : ∃ ao cap, v = .slice ao n cap := by
  rcases h.2 with ⟨rfl, ao, cap, rfl⟩ | ⟨b, off, cap, rfl, _⟩
  · exact ⟨_, _, rfl⟩
  · exact ⟨_, _, rfl⟩
theorem Rd.pos (h : Rd w size v n xs) (hn : n ≠ 0) : ∃ b off cap, v = .slice (some ⟨b, off, none⟩) n cap ∧ ∀ j u, xs[j]? = some u → w.cell? ⟨b, off + j, none⟩ = some u := by
  rcases h.2 with ⟨rfl, _⟩ | h
  · exact absurd rfl hn
  · exact h
theorem sl_nil (e : TypeId) (size : Nat) : (sl e size (.slice none 0 0) 0 []).holds [] := ⟨by simp, .inl ⟨rfl, rfl, rfl⟩⟩
theorem Sat.addNil (h : Sat w0 F w) (e : TypeId) (size : Nat) : Sat w0 (sl e size (.slice none 0 0) 0 [] * F) w := by
  obtain ⟨hb, L, hL, r⟩ := h
  exact ⟨hb, L, ⟨[], L, List.Perm.refl _, sl_nil e size, hL⟩, r⟩
theorem Sat.slLen (h : Sat w0 (sl e size v n xs * F) w) : xs.length = n * size := by
  obtain ⟨_, L, ⟨L1, L2, _, a, _⟩, _⟩ := h
  exact a.1
/-- An owned slice: nil, or a block. -/
theorem Sat.slE (h : Sat w0 (sl e size v n xs * F) w) : xs.length = n * size ∧ ((v = .slice none 0 0 ∧ n = 0 ∧ Sat w0 F w) ∨
    ∃ g cap cur, v = .slice (some ⟨g, 0, none⟩) n cap ∧ n ≤ cap ∧ cap ≤ maxLen ∧ cap * size ≤ cur.length ∧ cur.take (n * size) = xs ∧ Sat w0 (pc g e cur * F) w) := by
  have hd := h.dropL
  obtain ⟨hb, L, ⟨L1, L2, p, ⟨hl, a⟩, b⟩, r⟩ := h
  refine ⟨hl, ?_⟩
  rcases a with ⟨rfl, rfl, rfl⟩ | ⟨g, cap, cur, rfl, rfl, h1, h2, h3, h4⟩
  · exact .inl ⟨rfl, rfl, hd⟩
  · exact .inr ⟨g, cap, cur.toList, rfl, h1, h2, by simpa using h3, h4, hb, L, ⟨_, L2, p, by simp [pc, pt], b⟩, r⟩
theorem Sat.slI {g cap : Nat} {cur : List Value} (h : Sat w0 (pc g e cur * F) w) (h1 : n ≤ cap) (h2 : cap ≤ maxLen) (h3 : cap * size ≤ cur.length) (h4 : cur.take (n * size) = xs) :
    Sat w0 (sl e size (.slice (some ⟨g, 0, none⟩) n cap) n xs * F) w := by
  have hl : xs.length = n * size := by
    rw [← h4, List.length_take]
    exact Nat.min_eq_left (Nat.le_trans (Nat.mul_le_mul_right _ h1) h3)
  obtain ⟨hb, L, ⟨L1, L2, p, a, b⟩, r⟩ := h
  have a : L1 = [(g, .cells cur.toArray e (0, 0))] := a
  subst a
  exact ⟨hb, L, ⟨_, L2, p, ⟨hl, .inr ⟨g, cap, cur.toArray, rfl, rfl, h1, h2, by simpa using h3, by simpa using h4⟩⟩, b⟩, r⟩
theorem Sat.rd (h : Sat w0 (sl e size v n xs * F) w) : Rd w size v n xs := by
  obtain ⟨hl, h⟩ := h.slE
  refine ⟨hl, ?_⟩
  rcases h with ⟨rfl, rfl, _⟩ | ⟨g, cap, cur, rfl, h1, h2, h3, h4, hS⟩
  · exact .inl ⟨rfl, _, _, rfl⟩
  · refine .inr ⟨g, 0, cap, rfl, fun j u hj => ?_⟩
    rw [Nat.zero_add]
    refine hS.cell j ?_
    rw [← h4, List.getElem?_take] at hj
    split at hj
    · exact hj
    · cases hj
section
variable {g cap : Nat}
theorem Sat.slP (h : Sat w0 (sl e size (.slice (some ⟨g, 0, none⟩) n cap) n xs * F) w) : ∃ cur : List Value, n ≤ cap ∧ cap ≤ maxLen ∧ cap * size ≤ cur.length ∧ cur.take (n * size) = xs ∧ Sat w0 (pc g e cur * F) w := by
  rcases h.slE.2 with ⟨h, _⟩ | ⟨g', cap', cur, hv, r⟩
  · cases h
  · cases hv
    exact ⟨cur, r⟩
theorem Sat.slCell (h : Sat w0 (sl e size (.slice (some ⟨g, 0, none⟩) n cap) n xs * F) w) (i : Nat) {u : Value} (hi : xs[i]? = some u) : w.cell? ⟨g, i, none⟩ = some u := by
  obtain ⟨cur, h1, h2, h3, h4, hS⟩ := h.slP
  refine hS.cell i ?_
  rw [← h4, List.getElem?_take] at hi
  split at hi
  · exact hi
  · cases hi
theorem Sat.slFree (h : Sat w0 (sl e size (.slice (some ⟨g, 0, none⟩) n cap) n xs * F) w) (i : Nat) : w.frozen? ⟨g, i, none⟩ = false := by
  obtain ⟨cur, h1, h2, h3, h4, hS⟩ := h.slP
  exact hS.free i
theorem Sat.slStore (h : Sat w0 (sl e size (.slice (some ⟨g, 0, none⟩) n cap) n xs * F) w) (i : Nat) (hi : i < n * size) (u : Value) : Sat w0 (sl e size (.slice (some ⟨g, 0, none⟩) n cap) n (xs.set i u) * F) (w.setCell ⟨g, i, none⟩ u) := by
  obtain ⟨cur, h1, h2, h3, h4, hS⟩ := h.slP
  refine (hS.store i u).slI h1 h2 (by simpa using h3) ?_
  rw [List.take_set, h4]
theorem Sat.slNe {b : Nat} {o : Obj} (h : Sat w0 (pt b o * (sl e size (.slice (some ⟨g, 0, none⟩) n cap) n xs * F)) w) : b ≠ g := by
  obtain ⟨cur, h1, h2, h3, h4, hS⟩ := h.pull2.slP
  exact hS.pull2.ne
theorem Sat.slNe2 {g' cap' n' e' size' : Nat} {xs' : List Value} (h : Sat w0 (sl e' size' (.slice (some ⟨g', 0, none⟩) n' cap') n' xs' * (sl e size (.slice (some ⟨g, 0, none⟩) n cap) n xs * F)) w) : g' ≠ g := by
  obtain ⟨cur, _, _, _, _, hS⟩ := h.slP
  exact hS.slNe
theorem Sat.slLt (h : Sat w0 (sl e size (.slice (some ⟨g, 0, none⟩) n cap) n xs * F) w) : g < w.heap.size := by
  obtain ⟨cur, _, _, _, _, hS⟩ := h.slP
  exact hS.lt
theorem Sat.slCap (h : Sat w0 (sl e size (.slice (some ⟨g, 0, none⟩) n cap) n xs * F) w) : n ≤ cap ∧ cap ≤ maxLen := by
  obtain ⟨cur, h1, h2, _⟩ := h.slP
  exact ⟨h1, h2⟩
end
/-- An empty slice literal. -/
theorem Sat.sl0 (h : Sat w0 F w) (e : TypeId) (size : Nat) : Sat w0 (sl e size (.slice (some ⟨w.heap.size, 0, none⟩) 0 0) 0 [] * F) (w.alloc (.cells #[] e)) :=
  (show Sat w0 (pc w.heap.size e [] * F) (w.alloc (.cells #[] e)) from h.alloc (.cells #[] e)).slI (Nat.le_refl _) (by unfold maxLen; omega) (by simp) (by simp)
theorem Rd.one (w : World) (T : TypeId) (x : Value) : Rd (w.alloc (.cells #[x] T)) 1 (.slice (some ⟨w.heap.size, 0, none⟩) 1 1) 1 [x] :=
  ⟨rfl, .inr ⟨_, _, _, rfl, fun j u hj => by
    match j, hj with
    | 0, hj => simp at hj; subst hj; simp
    | j + 1, hj => simp at hj⟩⟩
theorem Rd.add {b off j : Nat} : (⟨b, off, none⟩ : Addr).add j = ⟨b, off + j, none⟩ := by
  unfold Addr.add; split <;> simp_all
end
end Go.Proofs.YtdbppfcilaajaaaGreat
