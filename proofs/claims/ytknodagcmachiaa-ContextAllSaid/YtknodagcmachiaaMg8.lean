/-
  Arguments that are slices of structs whose fields are integers, or structs of integers. No statement is proved here.
-/
import Derived.Test.YtknodagcmachiaaMg7
namespace Go.Proofs.Ytknodagcmachiaa
open Go.RowKit
open Go.ChangeShapes Go.WideShapes Go.Deep
set_option linter.unusedVariables false
section
variable {H : Type} {enc : TypeId × Value → H} {P : Program} {w : World} {base : Nat} {spare : Nat → Bool} {held : Bool}
theorem head_of_take {cs : List Value} {o : Nat} {v : Value} (h : (cs.drop o).take 1 = [v]) : cs[o]? = some v := by
  have : ((cs.drop o).take 1)[0]? = some v := by rw [h]; rfl
  rw [List.getElem?_take, if_pos (by omega), List.getElem?_drop] at this
  simpa using this
theorem argK_nest {t e : TypeId} {fs : Array Field} {size : Nat} {K : Nat → IntKind} {v : Value} {d : DataW H} {p : List MemPlace} (ht : P.underlying t = some (.slice e)) (he : P.underlying e = some (.struct fs))
    (hC : P.cellsOf e = size) (hpos : 0 < size)
    (hk : ∀ j, j < size → (∃ (i : Nat) (f : Field), fs[i]? = some f ∧ f.offset = j ∧ P.cellsOf f.type = 1 ∧ P.underlying f.type = some (.int (K j))) ∨
      ∃ (i : Nat) (f : Field) (gs : Array Field) (i' : Nat) (g : Field), fs[i]? = some f ∧ P.underlying f.type = some (.struct gs) ∧ gs[i']? = some g ∧ f.offset + g.offset = j ∧ g.offset < P.cellsOf f.type ∧ P.cellsOf g.type = 1 ∧ P.underlying g.type = some (.int (K j)))
    (hv : ∃ ao n cap, v = .slice ao n cap) (h : DataW.Trod enc P w base spare held t v d p) : ∃ n A, ArgK w size K v n A := by
  obtain ⟨ao, n, cap, rfl⟩ := hv
  obtain ⟨fuel, hf⟩ := h
  rcases open_slice ht hf with ⟨hcs, _⟩ | ⟨a, l, c, m, nf, D, Pl, hcs, _, hl, hm, hmm, _, hcell⟩
  · simp [Value.cells] at hcs
    obtain ⟨rfl, rfl, rfl⟩ := hcs
    exact ⟨0, fun _ => 0, .inl ⟨rfl, _, _, rfl⟩, fun j hj => by omega, Nat.zero_le _⟩
  · simp [Value.cells] at hcs
    obtain ⟨rfl, rfl, rfl⟩ := hcs
    refine ⟨n, ArgK.of_cells hpos hl hm (fun i hi j hj => ?_)⟩
    have him : i < m := by rw [hmm]; split <;> omega
    obtain ⟨cs', hc, htr⟩ := hcell i him
    rw [hC] at hc
    obtain ⟨_, hcl, hat⟩ := World.cells?_some hc
    obtain ⟨ys, n', _, _, hlen, _, hfj⟩ := DataW.trod_struct he htr
    have key : ∃ x, cs'[j]? = some (.int (K j) x) ∧ (Lit.int (K j) x).wf = true := by
      rcases hk j hj with ⟨i1, f, hf1, ho, hone, hu⟩ | ⟨i1, f, gs, i2, g, hf1, hu1, hg, ho, hlt, hone, hu⟩
      · have h1 := hfj i1 f hf1
        have hi1 : i1 < fs.size := (Array.getElem?_eq_some_iff.1 hf1).1
        rw [List.getElem?_eq_getElem (by omega), ho, hone] at h1
        obtain ⟨x, hx, _, hw⟩ := DataW.trod_int hu h1
        exact ⟨x, head_of_take hx, hw⟩
      · have h1 := hfj i1 f hf1
        have hi1 : i1 < fs.size := (Array.getElem?_eq_some_iff.1 hf1).1
        rw [List.getElem?_eq_getElem (by omega)] at h1
        obtain ⟨zs, n2, _, _, hlen2, hzl, hgj⟩ := DataW.trod_struct hu1 h1
        have h2 := hgj i2 g hg
        have hi2 : i2 < gs.size := (Array.getElem?_eq_some_iff.1 hg).1
        rw [List.getElem?_eq_getElem (by omega), hone] at h2
        obtain ⟨x, hx, _, hw⟩ := DataW.trod_int hu h2
        have h3 := head_of_take hx
        rw [List.getElem?_take, if_pos hlt, List.getElem?_drop, ho] at h3
        exact ⟨x, h3, hw⟩
    obtain ⟨x, hx, hw⟩ := key
    refine ⟨x, ?_, hw⟩
    rw [← Go.Deep.add_add, hat j hj]
    exact hx
end
end Go.Proofs.Ytknodagcmachiaa

namespace Go.Proofs.Ytknodagcmachiaa.Fi
open Go.RowKit
set_option linter.unusedVariables false

def TrueBelow (w0 : World) (e : Ending) (w' : World) : Prop := e = .returned (.bool true) ∧ Below w0.heap.size w0 w'
theorem Sat.after {w0 w W : World} {F : Hp} (h : Sat w0 F w) (hb : Below w.heap.size w W) : Sat w0 F W :=
  (h.chain (⟨hb, [], rfl, by simp, by simp⟩ : Sat w emp W)).cast (emp_sep _)
theorem Sat.link {w0 w w' : World} {F A : Hp} (h : Sat w0 F w) (k : Sat w (A * emp) w') : Sat w0 (A * F) w' := (h.chain k).cast (by rw [sep_emp])
theorem same_ (l : List Rf) (v u : Value) (w : World) (h : RdF w v l) (h' : RdF w u l) (hl : l.length ≤ 1000000) :
    Calls Try.prog 57 #[v, u] w fun e w' => e = .returned (.bool true) ∧ Below w.heap.size w w' :=
  (rsame_yes l v u w h h' hl).mono fun e w' ⟨h1, k, h2⟩ => ⟨h1, by rw [h2]; exact drewB (Below.refl _ _) k⟩
theorem RdF.nil (w : World) : RdF w (.slice none 0 0) [] := ⟨Rd.nil w 2, fun r hr => by simp at hr⟩
theorem wf_U64 {x : Int} (h : (Lit.int .u64 x).wf = true) : U64 x := by
  simp only [Lit.wf, Bool.and_eq_true, decide_eq_true_eq] at h
  have h1 : IntKind.u64.min = 0 := rfl
  have h2 : IntKind.u64.max = 18446744073709551615 := rfl
  rw [h1, h2] at h
  exact h
/-- A list that came in. -/
theorem arg_fi {w0 : World} {v : Value} {n : Nat} {A : Nat → Int} (h : ArgK w0 2 (fun _ => .u64) v n A) : ∃ l : List Rf, l.length = n ∧ RdF w0 v l := by
  refine ⟨(List.range n).map fun i => ⟨A (i * 2), A (i * 2 + 1)⟩, by simp, ⟨?_, ?_⟩, ?_⟩
  · rw [rflat_len]
  · have hlen : ((List.range n).map fun i => (⟨A (i * 2), A (i * 2 + 1)⟩ : Rf)).length = n := by simp
    rw [hlen]
    rcases h.form with h0 | ⟨b, off, cap, hv, hb, hc⟩
    · exact .inl h0
    · refine .inr ⟨b, off, cap, hv, fun j u hj => ?_⟩
      have hjl : j < n * 2 := by
        have := (List.getElem?_eq_some_iff.1 hj).1
        rw [rflat_len, hlen] at this
        exact this
      have e : j = j / 2 * 2 + j % 2 := by omega
      have hi : ((List.range n).map fun i => (⟨A (i * 2), A (i * 2 + 1)⟩ : Rf))[j / 2]? = some ⟨A (j / 2 * 2), A (j / 2 * 2 + 1)⟩ := by
        rw [List.getElem?_map, List.getElem?_range (by omega)]
        rfl
      rw [hc j hjl]
      rcases (show j % 2 = 0 ∨ j % 2 = 1 by omega) with h2 | h2
      · have := flat_get (j := 0) Rf.len hi rfl
        rw [show j / 2 * 2 + 0 = j by omega] at this
        rw [show rflat ((List.range n).map fun i => (⟨A (i * 2), A (i * 2 + 1)⟩ : Rf)) = List.flatMap Rf.cells ((List.range n).map fun i => (⟨A (i * 2), A (i * 2 + 1)⟩ : Rf)) from rfl, this] at hj
        refine Eq.trans ?_ hj
        show some (vu (A j)) = some (vu (A (j / 2 * 2)))
        congr 3
        all_goals omega
      · have := flat_get (j := 1) Rf.len hi rfl
        rw [show j / 2 * 2 + 1 = j by omega] at this
        rw [show rflat ((List.range n).map fun i => (⟨A (i * 2), A (i * 2 + 1)⟩ : Rf)) = List.flatMap Rf.cells ((List.range n).map fun i => (⟨A (i * 2), A (i * 2 + 1)⟩ : Rf)) from rfl, this] at hj
        refine Eq.trans ?_ hj
        rfl
  · intro r hr
    obtain ⟨i, hi, rfl⟩ := List.mem_map.1 hr
    have hi : i < n := by simpa using hi
    exact ⟨wf_U64 (h.wf (i * 2) (by omega)), wf_U64 (h.wf (i * 2 + 1) (by omega))⟩

theorem ok2 (a b c d : Int) (ha : U64 a) (hb : U64 b) (hc : U64 c) (hd : U64 d) : OkL [⟨a, b⟩, ⟨c, d⟩] := by
  intro r hr
  simp at hr
  rcases hr with rfl | rfl
  · exact ⟨ha, hb⟩
  · exact ⟨hc, hd⟩
theorem ok1 (a b : Int) (ha : U64 a) (hb : U64 b) : OkL [⟨a, b⟩] := by
  intro r hr
  simp at hr
  subst hr
  exact ⟨ha, hb⟩
theorem may1 (a b : Int) (ha : 1 ≤ a) (ha2 : a ≤ 18446744073709551615) : MayL [⟨a, b⟩] := by
  refine ⟨?_, ?_, by simp [tot]; omega⟩
  · intro k r hr
    have := (List.getElem?_eq_some_iff.1 hr).1
    simp at this
    subst this
    simp at hr
    subst hr
    exact ha
  · intro k r s hr hs
    have := (List.getElem?_eq_some_iff.1 hs).1
    simp at this
theorem may2 (a b c d : Int) (ha : 1 ≤ a) (hc : 1 ≤ c) (hbd : b < d) (hs : a + c ≤ 18446744073709551615) : MayL [⟨a, b⟩, ⟨c, d⟩] :=
  may_cons ha (may1 c d hc (by omega)) (fun s hs => by simp at hs; subst hs; exact hbd) (by simp [tot]; omega)
/-- A literal of two. -/
theorem lit2 (w : World) (a b c d : Int) (hok : OkL [⟨a, b⟩, ⟨c, d⟩]) : RdF (w.alloc (.cells #[vu a, vu b, vu c, vu d] 61)) (.slice (some ⟨w.heap.size, 0, none⟩) 2 2) [⟨a, b⟩, ⟨c, d⟩] := by
  refine ⟨⟨rfl, .inr ⟨_, _, _, rfl, fun j u hj => ?_⟩⟩, hok⟩
  rcases j with _ | _ | _ | _ | j
  all_goals simp [rflat, Rf.cells] at hj
  all_goals (try (subst hj; simp))

theorem th_known1 : ChOk [⟨5, 0⟩] 3 10 2 := ⟨may1 5 0 (by omega) (by omega), by omega, by simp, by omega, by omega, by decide⟩
theorem th_known2 : ChOk [⟨4, 0⟩, ⟨1, 13⟩] 4 10 2 := ⟨may2 4 0 1 13 (by omega) (by omega) (by omega) (by omega), by omega, by simp, by omega, by omega, by decide⟩
theorem ch_known1 : chargeL [⟨5, 0⟩] 3 10 2 = [⟨4, 0⟩, ⟨1, 13⟩] := by rfl
theorem ch_known2 : chargeL [⟨4, 0⟩, ⟨1, 13⟩] 4 10 2 = [⟨3, 0⟩, ⟨2, 14⟩] := by rfl
theorem u64_lit (n : Nat) (h : n ≤ 1000000) : U64 (n : Int) := ⟨by omega, by omega⟩

theorem kn_ch1 {v : Value} {w0 w : World} {F : Hp} (h : Sat w0 (fiS v [⟨5, 0⟩] * F) w) :
    Calls Try.prog 40 #[v, vu 3, vu 10, vi 2] w fun e w' => ∃ v', e = .returned (.tuple #[v', .bool true]) ∧ Sat w (fiS v' [⟨4, 0⟩, ⟨1, 13⟩] * emp) w' := by
  have := charge_yes (Sat.fiR h (ok1 5 0 ⟨by omega, by omega⟩ ⟨by omega, by omega⟩)) (Sat.room h) (by simp) ⟨by omega, by omega⟩ ⟨by omega, by omega⟩ th_known1
  rw [ch_known1] at this
  exact this
theorem kn_ch2 {v : Value} {w0 w : World} {F : Hp} (h : Sat w0 (fiS v [⟨4, 0⟩, ⟨1, 13⟩] * F) w) :
    Calls Try.prog 40 #[v, vu 4, vu 10, vi 2] w fun e w' => ∃ v', e = .returned (.tuple #[v', .bool true]) ∧ Sat w (fiS v' [⟨3, 0⟩, ⟨2, 14⟩] * emp) w' := by
  have := charge_yes (Sat.fiR h (ok2 4 0 1 13 ⟨by omega, by omega⟩ ⟨by omega, by omega⟩ ⟨by omega, by omega⟩ ⟨by omega, by omega⟩)) (Sat.room h) (by simp) ⟨by omega, by omega⟩ ⟨by omega, by omega⟩ th_known2
  rw [ch_known2] at this
  exact this
theorem kn_same1 {v : Value} {w0 w : World} {F : Hp} (h : Sat w0 (fiS v [⟨4, 0⟩, ⟨1, 13⟩] * F) w) :
    Calls Try.prog 57 #[v, .slice (some ⟨w.heap.size, 0, none⟩) 2 2] (w.alloc (.cells #[vu 4, vu 0, vu 1, vu 13] 61)) fun e w' => e = .returned (.bool true) ∧ Below (w.alloc (.cells #[vu 4, vu 0, vu 1, vu 13] 61)).heap.size (w.alloc (.cells #[vu 4, vu 0, vu 1, vu 13] 61)) w' := by
  have hok := ok2 4 0 1 13 ⟨by omega, by omega⟩ ⟨by omega, by omega⟩ ⟨by omega, by omega⟩ ⟨by omega, by omega⟩
  exact same_ _ _ _ _ (Sat.fiR (h.alloc' _) hok) (lit2 w 4 0 1 13 hok) (by simp)
theorem kn_same2 {v : Value} {w0 w : World} {F : Hp} (h : Sat w0 (fiS v [⟨3, 0⟩, ⟨2, 14⟩] * F) w) :
    Calls Try.prog 57 #[v, .slice (some ⟨w.heap.size, 0, none⟩) 2 2] (w.alloc (.cells #[vu 3, vu 0, vu 2, vu 14] 61)) fun e w' => e = .returned (.bool true) ∧ Below (w.alloc (.cells #[vu 3, vu 0, vu 2, vu 14] 61)).heap.size (w.alloc (.cells #[vu 3, vu 0, vu 2, vu 14] 61)) w' := by
  have hok := ok2 3 0 2 14 ⟨by omega, by omega⟩ ⟨by omega, by omega⟩ ⟨by omega, by omega⟩ ⟨by omega, by omega⟩
  exact same_ _ _ _ _ (Sat.fiR (h.alloc' _) hok) (lit2 w 3 0 2 14 hok) (by simp)

end Go.Proofs.Ytknodagcmachiaa.Fi

namespace Go.Proofs.Ytknodagcmachiaa.Fi
open Go.RowKit
set_option linter.unusedVariables false

/-- These blocks are owned. -/
def plB (L : Blks) : Hp := ⟨fun L' => L'.Perm L, fun {A B} h k => h.symm.trans k⟩
/-- A list of refills lies in the pool. -/
def InP (L : Blks) (v : Value) (l : List Rf) : Prop :=
  OkL l ∧ ((l = [] ∧ v = .slice none 0 0) ∨ ∃ g off cap cur, v = .slice (some ⟨g, off, none⟩) l.length cap ∧ (g, Obj.cells cur 61 (0, 0)) ∈ L ∧ l.length ≤ cap ∧ cap ≤ maxLen ∧ off + cap * 2 ≤ cur.size ∧ (cur.toList.drop off).take (l.length * 2) = rflat l)
theorem InP.ok {L : Blks} {v : Value} {l : List Rf} (h : InP L v l) : OkL l := h.1
theorem InP.mono {L L' : Blks} {v : Value} {l : List Rf} (h : InP L v l) (hs : ∀ x ∈ L, x ∈ L') : InP L' v l := by
  refine ⟨h.1, ?_⟩
  rcases h.2 with ⟨h1, h2⟩ | ⟨g, off, cap, cur, h1, h2, h3⟩
  · exact .inl ⟨h1, h2⟩
  · exact .inr ⟨g, off, cap, cur, h1, hs _ h2, h3⟩
theorem InP.nil (L : Blks) : InP L (.slice none 0 0) [] := ⟨fun r hr => by simp at hr, .inl ⟨rfl, rfl⟩⟩
theorem InP.form {L : Blks} {v : Value} {l : List Rf} (h : InP L v l) : ∃ ao c, v = .slice ao l.length c := by
  rcases h.2 with ⟨rfl, rfl⟩ | ⟨g, off, cap, cur, rfl, _⟩
  · exact ⟨_, _, rfl⟩
  · exact ⟨_, _, rfl⟩
theorem InP.room {L : Blks} {v : Value} {l : List Rf} (h : InP L v l) : Room v l.length := by
  intro ao c hv
  rcases h.2 with ⟨rfl, h2⟩ | ⟨g, off, cap, cur, h1, _, h3, _⟩
  · exact Nat.zero_le _
  · rw [h1] at hv
    cases hv
    exact h3
section
variable {w0 w : World} {F : Hp} {L : Blks} {v : Value} {l : List Rf}
theorem _root_.Go.Proofs.Ytknodagcmachiaa.Sat.plStart (h : Sat w0 F w) : Sat w0 (plB [] * F) w := h.imp fun M hM => ⟨[], M, List.Perm.refl _, List.Perm.refl _, hM⟩
theorem _root_.Go.Proofs.Ytknodagcmachiaa.Sat.plAt (h : Sat w0 (plB L * F) w) {b : Nat} {o : Obj} (hm : (b, o) ∈ L) : w.heap[b]? = some o := by
  obtain ⟨hb, M, ⟨L1, L2, p, a, c⟩, hn, hx⟩ := h
  have a : L1.Perm L := a
  exact (hx (b, o) (p.mem_iff.2 (List.mem_append_left _ (a.mem_iff.2 hm)))).2
theorem _root_.Go.Proofs.Ytknodagcmachiaa.Sat.plRd (h : Sat w0 (plB L * F) w) (hi : InP L v l) : RdF w v l := by
  refine ⟨?_, hi.1⟩
  rcases hi.2 with ⟨rfl, rfl⟩ | ⟨g, off, cap, cur, rfl, hm, h1, h2, h3, h4⟩
  · exact Rd.nil w 2
  · have hb := h.plAt hm
    refine ⟨by rw [rflat_len], .inr ⟨g, off, cap, rfl, fun j u hj => ?_⟩⟩
    have e := at_drop_take (cur := cur.toList) (off := off) (m := l.length * 2) (i := j) (u := u) (by rw [h4]; exact hj)
    have e2 : cur[off + j]? = some u := by rw [← Array.getElem?_toList]; exact e
    simp [World.cell?, hb, e2]
theorem _root_.Go.Proofs.Ytknodagcmachiaa.Sat.plIn (h : Sat w0 (fiS v l * (plB L * F)) w) (hok : OkL l) : ∃ L', (∀ x ∈ L, x ∈ L') ∧ InP L' v l ∧ Sat w0 (plB L' * F) w := by
  obtain ⟨hl, h2⟩ := h.sloE
  rcases h2 with ⟨rfl, h0, h3⟩ | ⟨g, off, cap, cur, rfl, h1, h4, h5, h6, hS⟩
  · have : l = [] := List.eq_nil_of_length_eq_zero h0
    subst this
    exact ⟨L, fun x hx => hx, InP.nil L, h3⟩
  · refine ⟨(g, .cells cur.toArray 61 (0, 0)) :: L, fun x hx => List.mem_cons_of_mem _ hx, ⟨hok, .inr ⟨g, off, cap, cur.toArray, rfl, List.mem_cons_self, h1, h4, by simpa using h5, by simpa using h6⟩⟩, ?_⟩
    refine hS.imp fun M hM => ?_
    obtain ⟨A, B, p, a, C, D, q, c, d⟩ := hM
    have a : A = [(g, .cells cur.toArray 61 (0, 0))] := a
    subst a
    have c : C.Perm L := c
    exact ⟨(g, .cells cur.toArray 61 (0, 0)) :: C, D, p.trans ((q.append_left _).trans (by simp)), c.cons _, d⟩
end
end Go.Proofs.Ytknodagcmachiaa.Fi
