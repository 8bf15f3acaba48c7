/-
  Lists of refills that nobody writes any more, kept together: a pool of blocks. No statement is proved here.
-/
import Derived.Test.YtknodagcmachiaaFi11
namespace Go.Proofs.Ytknodagcmachiaa.Fi
open Go.RowKit
set_option linter.unusedVariables false

/-- These blocks are owned. -/
def plB (L : Blks) : Hp := ⟨fun L' => L'.Perm L, fun {A B} h k => h.symm.trans k⟩
/-- A list of refills lies in the pool. -/
def InP (L : Blks) (v : Value) (l : List Rf) : Prop :=
  OkL l ∧ ((l = [] ∧ v = .slice none 0 0) ∨ ∃ g off cap cur, v = .slice (some ⟨g, off, none⟩) l.length cap ∧ (g, Obj.cells cur 61 (0, 0)) ∈ L ∧ l.length ≤ cap ∧ cap ≤ maxLen ∧ off + cap * 2 ≤ cur.size ∧ (cur.toList.drop off).take (l.length * 2) = rflat l)
theorem InP.ok {L : Blks} {v : Value} {l : List Rf} (h : InP L v l) : OkL l := h.1
theorem InP.mono {L L' : Blks} {v : Value} {l : List Rf} (h : InP L v l) (hs : ∀ x ∈ L, x ∈ L') : InP L' v l := by
  refine ⟨h.1, ?_⟩
  rcases h.2 with ⟨h1, h2⟩ | ⟨g, off, cap, cur, h1, h2, h3⟩
  · exact .inl ⟨h1, h2⟩
  · exact .inr ⟨g, off, cap, cur, h1, hs _ h2, h3⟩
theorem InP.nil (L : Blks) : InP L (.slice none 0 0) [] := ⟨fun r hr => by simp at hr, .inl ⟨rfl, rfl⟩⟩
theorem InP.form {L : Blks} {v : Value} {l : List Rf} (h : InP L v l) : ∃ ao c, v = .slice ao l.length c := by
  rcases h.2 with ⟨rfl, rfl⟩ | ⟨g, off, cap, cur, rfl, _⟩
  · exact ⟨_, _, rfl⟩
  · exact ⟨_, _, rfl⟩
theorem InP.room {L : Blks} {v : Value} {l : List Rf} (h : InP L v l) : Room v l.length := by
  intro ao c hv
  rcases h.2 with ⟨rfl, h2⟩ | ⟨g, off, cap, cur, h1, _, h3, _⟩
  · exact Nat.zero_le _
  · rw [h1] at hv
    cases hv
    exact h3
section
variable {w0 w : World} {F : Hp} {L : Blks} {v : Value} {l : List Rf}
theorem _root_.Go.Proofs.Ytknodagcmachiaa.Sat.plStart (h : Sat w0 F w) : Sat w0 (plB [] * F) w := h.imp fun M hM => ⟨[], M, List.Perm.refl _, List.Perm.refl _, hM⟩
theorem _root_.Go.Proofs.Ytknodagcmachiaa.Sat.plAt (h : Sat w0 (plB L * F) w) {b : Nat} {o : Obj} (hm : (b, o) ∈ L) : w.heap[b]? = some o := by
  obtain ⟨hb, M, ⟨L1, L2, p, a, c⟩, hn, hx⟩ := h
  have a : L1.Perm L := a
  exact (hx (b, o) (p.mem_iff.2 (List.mem_append_left _ (a.mem_iff.2 hm)))).2
theorem _root_.Go.Proofs.Ytknodagcmachiaa.Sat.plRd (h : Sat w0 (plB L * F) w) (hi : InP L v l) : RdF w v l := by
  refine ⟨?_, hi.1⟩
  rcases hi.2 with ⟨rfl, rfl⟩ | ⟨g, off, cap, cur, rfl, hm, h1, h2, h3, h4⟩
  · exact Rd.nil w 2
  · have hb := h.plAt hm
    refine ⟨by rw [rflat_len], .inr ⟨g, off, cap, rfl, fun j u hj => ?_⟩⟩
    have e := at_drop_take (cur := cur.toList) (off := off) (m := l.length * 2) (i := j) (u := u) (by rw [h4]; exact hj)
    have e2 : cur[off + j]? = some u := by rw [← Array.getElem?_toList]; exact e
    simp [World.cell?, hb, e2]
theorem _root_.Go.Proofs.Ytknodagcmachiaa.Sat.plIn (h : Sat w0 (fiS v l * (plB L * F)) w) (hok : OkL l) : ∃ L', (∀ x ∈ L, x ∈ L') ∧ InP L' v l ∧ Sat w0 (plB L' * F) w := by
  obtain ⟨hl, h2⟩ := h.sloE
  rcases h2 with ⟨rfl, h0, h3⟩ | ⟨g, off, cap, cur, rfl, h1, h4, h5, h6, hS⟩
  · have : l = [] := List.eq_nil_of_length_eq_zero h0
    subst this
    exact ⟨L, fun x hx => hx, InP.nil L, h3⟩
  · refine ⟨(g, .cells cur.toArray 61 (0, 0)) :: L, fun x hx => List.mem_cons_of_mem _ hx, ⟨hok, .inr ⟨g, off, cap, cur.toArray, rfl, List.mem_cons_self, h1, h4, by simpa using h5, by simpa using h6⟩⟩, ?_⟩
    refine hS.imp fun M hM => ?_
    obtain ⟨A, B, p, a, C, D, q, c, d⟩ := hM
    have a : A = [(g, .cells cur.toArray 61 (0, 0))] := a
    subst a
    have c : C.Perm L := c
    exact ⟨(g, .cells cur.toArray 61 (0, 0)) :: C, D, p.trans ((q.append_left _).trans (by simp)), c.cons _, d⟩
end
end Go.Proofs.Ytknodagcmachiaa.Fi
