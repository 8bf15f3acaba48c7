/-
  What the walk of ArenaAll needs beside the arena's contracts: plain law about what comes, and the state between acts. No statement is proved here.
-/
import Derived.Test.YtjealmaddjepnaaDoB
import Derived.Test.YtjealmaddjepnaaLenA
import Derived.Test.YtjealmaddjepnaaKnownA
import Derived.Test.YtjealmaddjepnaaArgs2
import Derived.Test.YtjealmaddjepnaaQuietR
import Derived.WalkSmall
namespace Go.Proofs.Ytjealmaddjepnaa.Ar
open Go.RowKit
set_option linter.unusedVariables false

section
variable {ps : List Pl}
theorem seen_grow (ps : List Pl) (i : Nat) : ∀ d, (seen ps i).length ≤ (seen ps (i + d)).length
  | 0 => Nat.le_refl _
  | d + 1 => by
    have := seen_grow ps i d
    rw [← Nat.add_assoc, seen_succ, List.length_append]
    omega
theorem seen_mono {i j : Nat} (h : i ≤ j) : (seen ps i).length ≤ (seen ps j).length := by
  have := seen_grow ps i (j - i)
  rwa [show i + (j - i) = j by omega] at this
theorem seen_strict {i j k : Nat} {a : Pl} (hi : i ≤ k) (hj : k < j) (hk : ps[k]? = some a) (ht : a.there = true) : (seen ps i).length < (seen ps j).length := by
  have h1 := seen_mono (ps := ps) hi
  have h2 := seen_mono (ps := ps) (show k + 1 ≤ j by omega)
  rw [seen_yes hk ht, List.length_append] at h2
  simp at h2
  omega
/-- Nobody is there from a place to another. -/
def NoneIn (ps : List Pl) (i j : Nat) : Prop := ∀ k, i ≤ k → k < j → ∀ a, ps[k]? = some a → a.there = false
theorem NoneIn.refl (ps : List Pl) (i : Nat) : NoneIn ps i i := fun k h1 h2 => by omega
theorem NoneIn.succ {i j : Nat} (h : NoneIn ps i j) {a : Pl} (hj : ps[j]? = some a) (ht : a.there = false) : NoneIn ps i (j + 1) := fun k h1 h2 b hb => by
  by_cases e : k = j
  · subst e
    rw [hj] at hb
    cases hb
    exact ht
  · exact h k h1 (by omega) b hb
theorem seen_skip {i j : Nat} (hij : i ≤ j) (hl : j ≤ ps.length) (h : NoneIn ps i j) : seen ps j = seen ps i := by
  obtain ⟨d, rfl⟩ := Nat.exists_eq_add_of_le hij
  induction d with
  | zero => rfl
  | succ d ih =>
    have hlt : i + d < ps.length := by omega
    have hk : ps[i + d]? = some ps[i + d] := List.getElem?_eq_getElem hlt
    rw [← Nat.add_assoc, seen_no hk (h (i + d) (by omega) (by omega) _ hk)]
    exact ih (by omega) (by omega) (fun k h1 h2 => h k h1 (by omega))
/-- Who comes next is the next one that is there. -/
theorem seen_next {i k : Nat} {pre : List (Nat × Int × El)} {x : Nat × Int × El} (hpre : pre = seen ps i) (hik : i ≤ k) (hno : NoneIn ps i k) (hk : k = ps.length ∨ ∃ a, ps[k]? = some a ∧ a.there = true) (hS : AllSp ps (pre ++ [x])) :
    ∃ a, ps[k]? = some a ∧ a.there = true ∧ x = (k, a.gen, a.x) := by
  obtain ⟨k', a, ha, ht, he⟩ := hS
  rw [seen_yes ha ht] at he
  obtain ⟨e1, e2⟩ := List.append_inj' he rfl
  have hx : x = (k', a.gen, a.x) := List.head_eq_of_cons_eq e2
  have hlt : k' < ps.length := (List.getElem?_eq_some_iff.1 ha).1
  have hl : (seen ps i).length = (seen ps k').length := by rw [← hpre, e1]
  have h1 : i ≤ k' := Classical.byContradiction fun hc => by
    have := seen_strict (i := k') (j := i) (Nat.le_refl _) (by omega) ha ht
    omega
  have h2 : k ≤ k' := Classical.byContradiction fun hc => by
    have := hno k' h1 (by omega) a ha
    rw [ht] at this
    cases this
  have h3 : k' ≤ k := Classical.byContradiction fun hc => by
    rcases hk with rfl | ⟨b, hb, hbt⟩
    · omega
    · have := seen_strict (i := i) (j := k') hik (by omega) hb hbt
      omega
  obtain rfl : k = k' := by omega
  exact ⟨a, ha, ht, hx⟩
theorem seen_end {i : Nat} (hS : seen ps i = seen ps ps.length) : NoneIn ps i ps.length := fun k h1 h2 a ha => by
  cases ht : a.there with
  | false => rfl
  | true =>
    have := seen_strict (i := i) (j := ps.length) h1 h2 ha ht
    rw [hS] at this
    omega
end

/-- What the law keeps between acts: a table and the reference's, alike. -/
def AlS (w0 : World) (p q n : Nat) (k : Nat) (F : Hp) (wr : World) : Prop :=
  ∃ ps free rs times, Rel ps free rs times ∧ ps.length = n ∧ times ≤ (k : Int) ∧ Sat w0 (tblP p ps free * (refP q rs times * F)) wr
theorem AlS.do_ {w0 wr : World} {p q n k : Nat} {F : Hp} (h : AlS w0 p q n k F wr) (hk : k ≤ 1000000) (c x i g m : Int) :
    Calls Try.prog 11 #[vp p, vp q, .agg #[vi c, vi x, vi i, vu g, vi m]] wr fun e w' => e = .returned (.bool true) ∧ AlS w0 p q n (k + 1) F w' := by
  obtain ⟨ps, free, rs, times, hR, hn, ht, hS⟩ := h
  exact (doA hS hR (by omega) c x i g m).mono fun e w' ⟨he, ps', free', rs', times', h1, h2, h3, h4⟩ => ⟨he, ps', free', rs', times', h1, by omega, by omega, h4⟩
theorem AlS.sat {w0 wr : World} {p q n k : Nat} {F : Hp} (h : AlS w0 p q n k F wr) : Sat w0 F wr := by
  obtain ⟨ps, free, rs, times, hR, hn, ht, hS⟩ := h
  exact hS.dropL.dropL
theorem AlS.drew {w0 wr : World} {p q n k : Nat} {F : Hp} (h : AlS w0 p q n k F wr) : AlS w0 p q n k F (wr.drewN 1) := by
  obtain ⟨ps, free, rs, times, hR, hn, ht, hS⟩ := h
  exact ⟨ps, free, rs, times, hR, hn, ht, hS.drewN 1⟩
theorem AlS.fresh {w0 wr : World} {p q n : Nat} {first : Int} {F : Hp} (h : Sat w0 (refP q (rnewL first n) 0 * (tblP p (List.replicate n ⟨first, false, false, ez⟩) (newF n n) * F)) wr) : AlS w0 p q n 0 F wr :=
  ⟨_, _, _, _, Rel.fresh n first, by simp, by omega, h.pull2⟩
def alK : Nat → IntKind := fun j => if j = 3 then .u64 else .i64
/-- The act at a place of a list that came in. -/
theorem al_act {w0 : World} {ao : Option Addr} {cap n : Nat} {A : Nat → Int} (h : ArgK w0 5 alK (.slice ao n cap) n A) {k : Nat} (hk : k < n) :
    ∃ b off, ao = some ⟨b, off, none⟩ ∧ ∃ x0 x1 x2 x3 x4, ∀ (w : World) (F : Hp), Sat w0 F w → w.cell? ⟨b, off + k * 5, none⟩ = some (vi x0) ∧ w.cell? ⟨b, off + k * 5 + 1, none⟩ = some (vi x1) ∧ w.cell? ⟨b, off + k * 5 + 2, none⟩ = some (vi x2) ∧ w.cell? ⟨b, off + k * 5 + 3, none⟩ = some (vu x3) ∧ w.cell? ⟨b, off + k * 5 + 4, none⟩ = some (vi x4) := by
  rcases h.form with ⟨h0, _⟩ | ⟨b, off, c, hv, hb, hc⟩
  · omega
  · cases hv
    refine ⟨b, off, rfl, A (k * 5 + 0), A (k * 5 + 1), A (k * 5 + 2), A (k * 5 + 3), A (k * 5 + 4), fun w F hS => ?_⟩
    have g : ∀ j, j < n * 5 → w.cell? ⟨b, off + j, none⟩ = some (.int (alK (j % 5)) (A j)) := fun j hj => (hS.old (by exact hb)).trans (hc j hj)
    refine ⟨?_, ?_, ?_, ?_, ?_⟩
    · rw [g (k * 5) (by omega), show k * 5 % 5 = 0 by omega]; rfl
    · rw [Nat.add_assoc, g (k * 5 + 1) (by omega), show (k * 5 + 1) % 5 = 1 by omega]; rfl
    · rw [Nat.add_assoc, g (k * 5 + 2) (by omega), show (k * 5 + 2) % 5 = 2 by omega]; rfl
    · rw [Nat.add_assoc, g (k * 5 + 3) (by omega), show (k * 5 + 3) % 5 = 3 by omega]; rfl
    · rw [Nat.add_assoc, g (k * 5 + 4) (by omega), show (k * 5 + 4) % 5 = 4 by omega]; rfl
theorem put_any {w0 w : World} {p : Nat} {ps : List Pl} {free : List Nat} {F : Hp} (h : Sat w0 (tblP p ps free * F) w) (x : El) :
    Calls Try.prog 13 #[vp p, ev x] w fun e w' => ∃ v ps' free', e = .returned v ∧ Sat w0 (tblP p ps' free' * F) w' := by
  have hok := tblOk_of h
  by_cases hf : free = []
  · subst hf
    exact (put_no h x).mono fun e w' ⟨he, hS⟩ => ⟨_, _, _, he, hS⟩
  · obtain ⟨init, k0, rfl⟩ : ∃ init k0, free = init ++ [k0] := by
      rcases List.eq_nil_or_concat free with h | ⟨L, b, h⟩
      · exact absurd h hf
      · exact ⟨L, b, by rw [h, List.concat_eq_append]⟩
    obtain ⟨a, hka, hth, hre⟩ := (hok.mem k0).1 (by simp)
    exact (put_yes h hka x).mono fun e w' ⟨he, hS⟩ => ⟨_, _, _, he, hS⟩
theorem SatC.drewN {w0 : World} {B : Nat} {H : Hp} {w : World} (h : SatC w0 B H w) (n : Nat) : SatC w0 B H (w.drewN n) := ⟨below_drewN h.1 n, h.2⟩
theorem KB.drewN {ks : List Nat} {A B : World} (h : KB ks A B) (n : Nat) : KB ks A (B.drewN n) := h
theorem KeepsOthers.drewN {A B : World} (h : KeepsOthers A B) (n : Nat) : KeepsOthers A (B.drewN n) := ⟨h.size, h.same⟩
theorem mark_ownA {β : Type} {B D : Nat} (hD : D < B) : OwnFrom B (fun (_ : β) W => W.heap[D]? = some (.deferred (some []))) := fun s W W' row hs hg hr =>
  (hg.block D (lt_of_block hs) (fun e => by have := (hr D e.symm).1; omega)).trans hs
/-- The mark of a loop ahead, if there is one. -/
def MkP (d : Option Nat) (W : World) : Prop := ∀ D, d = some D → W.heap[D]? = some (.deferred (some []))
theorem MkP.keep {d : Option Nat} {A B : World} (h : MkP d A) (k : KeepsOthers A B) : MkP d B := fun D e => k.same D _ (h D e) rfl
theorem MkP.own {β : Type} {B : Nat} {d : Option Nat} (hd : ∀ D, d = some D → D < B) : OwnFrom B (fun (_ : β) W => MkP d W) := fun s W W' row hs hg hr D e =>
  mark_ownA (β := β) (hd D e) s W W' row (hs D e) hg hr
/-- What a round over the iterator keeps: so many places are over. -/
def AlI (w0 : World) (B : Nat) (d : Option Nat) (ps : List Pl) (H : Nat → Nat → Hp) (pre : List (Nat × Int × El)) (W : World) : Prop :=
  ∃ k, k ≤ ps.length ∧ pre = seen ps k ∧ B ≤ W.heap.size ∧ MkP d W ∧ SatC w0 B (H pre.length k) W
theorem AlI.own {w0 : World} {B : Nat} {d : Option Nat} (hB : w0.heap.size ≤ B) (hd : ∀ D, d = some D → D < B) (ps : List Pl) (H : Nat → Nat → Hp) : OwnFrom B (AlI w0 B d ps H) := fun s W W' row ⟨k, h1, h2, h4, h5, h3⟩ hg hr =>
  ⟨k, h1, h2, Nat.le_trans h4 hg.size, MkP.own (β := Unit) hd () W W' row h5 hg hr, SatC.own (f := fun _ : Unit => H s.length k) hB () W W' row h3 hg hr⟩
/-- How a round is left: at a wrong one (it never comes), or by the break, when so many have come. -/
def AlX (w0 : World) (B : Nat) (d : Option Nat) (ps : List Pl) (H : Nat → Nat → Hp) (brk : Nat → Prop) (c : Code) (pre : List (Nat × Int × El)) (W : World) : Prop :=
  (c = .ret ∧ ¬ AllSp ps pre) ∨ (c = .exit 4 ∧ brk pre.length ∧ AlI w0 B d ps H pre W)
theorem AlX.own {w0 : World} {B : Nat} {d : Option Nat} (hB : w0.heap.size ≤ B) (hd : ∀ D, d = some D → D < B) (ps : List Pl) (H : Nat → Nat → Hp) (brk : Nat → Prop) (c : Code) : OwnFrom B (AlX w0 B d ps H brk c) := fun s W W' row h hg hr => by
  rcases h with h | ⟨h1, h2, h3⟩
  · exact .inl h
  · exact .inr ⟨h1, h2, AlI.own hB hd ps H s W W' row h3 hg hr⟩
theorem AlI.step {w0 W2 : World} {B bA : Nat} {d : Option Nat} {ps : List Pl} {T : Hp} {pre : List (Nat × Int × El)} {kk j : Nat} {a : Pl} (hpre : pre = seen ps kk) (hj : kk ≤ j) (hno : NoneIn ps kk j) (ha : ps[j]? = some a) (ht : a.there = true) (hM : MkP d W2) (hB : B ≤ W2.heap.size)
    (h : SatC w0 B (pc (bA + 1) 3 [vi ((pre.length : Int) + 1)] * (pc bA 3 [vi ((j : Int) + 1)] * T)) W2) :
    AlI w0 B d ps (fun n k => pc (bA + 1) 3 [vi n] * (pc bA 3 [vi k] * T)) (pre ++ [(j, a.gen, a.x)]) W2 := by
  have hl : j < ps.length := (List.getElem?_eq_some_iff.1 ha).1
  refine ⟨j + 1, by omega, ?_, hB, hM, ?_⟩
  · rw [seen_yes ha ht, seen_skip hj (by omega) hno, hpre]
  · have e : (((pre ++ [(j, a.gen, a.x)]).length : Nat) : Int) = (pre.length : Int) + 1 := by simp
    have e2 : ((j + 1 : Nat) : Int) = (j : Int) + 1 := by omega
    show SatC w0 B (pc (bA + 1) 3 [vi _] * (pc bA 3 [vi _] * T)) W2
    rw [e, e2]
    exact h
/-- What the round's own variable holds. -/
def AlV (b : Nat) (x : Nat × Int × El) (W : World) : Prop := W.cell? ⟨b, 0, none⟩ = some (vi x.1) ∧ W.cell? ⟨b, 1, none⟩ = some (vu x.2.1)
theorem AlV.own (B b : Nat) (x : Nat × Int × El) : OwnFrom B (fun (_ : Unit) W => AlV b x W) := fun s W W' row ⟨h1, h2⟩ hg hr => by
  obtain ⟨o, ho, hc⟩ := cells_of_cell h1
  have hk : W'.heap[b]? = W.heap[b]? := grownBy_keeps_cells hg (fun r e => (hr r e).2) ho hc
  exact ⟨(World.cell?_of_block (a := ⟨b, 0, none⟩) hk).trans h1, (World.cell?_of_block (a := ⟨b, 1, none⟩) hk).trans h2⟩
/-- The frame, by a name. -/
theorem wpIn_act {Fe : Fence} {n : Nat} {P : Program} {c : Code} {Q : Exit → Act → World → Prop} {a : Act} {w : World} (h : ∀ a', a' = a → c.wpIn Fe n P Q a' w) : c.wpIn Fe n P Q a w := h a rfl
/-- What a round begins with. -/
def AlA (B : Nat) (a0 : Act) (x : Nat × Int × El) (a' : Act) (W : World) : Prop :=
  ∃ b17, B ≤ b17 ∧ b17 < W.heap.size ∧ AlV b17 x W ∧ a' = { tmps := (((a0.tmps.setIfInBounds 75 (vr x.1 x.2.1)).setIfInBounds 76 (ev x.2.2)).setIfInBounds 17 (.pointer (some ⟨b17, 0, none⟩))).setIfInBounds 18 (ev x.2.2), defers := [] }
theorem AlA.own (B : Nat) (a0 : Act) (x : Nat × Int × El) (a' : Act) : OwnFrom B (fun (_ : Unit) W => AlA B a0 x a' W) := fun s W W' row ⟨b, h1, h2, h3, h4⟩ hg hr =>
  ⟨b, h1, Nat.lt_of_lt_of_le h2 hg.size, AlV.own B b x () W W' row h3 hg hr, h4⟩
def AlTrue (w0 : World) (e : Ending) (w' : World) : Prop := e = .returned (.bool true) ∧ Below w0.heap.size w0 w'
end Go.Proofs.Ytjealmaddjepnaa.Ar
