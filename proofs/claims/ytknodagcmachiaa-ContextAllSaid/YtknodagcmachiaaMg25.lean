/-
  A region that draws its order and writes nothing, inside a round of a loop over an iterator (where no operation is a defer). No statement is proved here.
-/
import Derived.Sort.QuietIn
import Derived.RangeFuncNested
import Derived.Test.YtknodagcmachiaaMg2
import Derived.Test.YtknodagcmachiaaMg1
import Derived.Test.YtknodagcmachiaaMg19
import Derived.Test.YtknodagcmachiaaMg21
import Derived.Test.YtknodagcmachiaaMg23
import Derived.Test.YtknodagcmachiaaMg8
import Derived.Deep.DeepCutAuto
import Derived.Deep.RegionHeld3
import Derived.Laws.EntriesVeiled
namespace Go.Proofs.Ytknodagcmachiaa
set_option linter.unusedVariables false

def noDeferB (ops : Array Oper) : Bool := ops.toList.all fun o => match o.op with | .defer _ => false | _ => true
theorem noDeferB_spec {ops : Array Oper} (h : noDeferB ops = true) {j : Nat} {o : Oper} (ho : ops[j]? = some o) : ∀ c, o.op ≠ .defer c := by
  intro c e
  have hm : o ∈ ops.toList := by
    obtain ⟨hl, rfl⟩ := Array.getElem?_eq_some_iff.1 ho
    exact Array.getElem_mem_toList hl
  have := List.all_eq_true.1 h o hm
  rw [e] at this
  cases this
section
variable {F : Fence} {n : Nat} {P : Program} {md : Region.Mode} {ops : Array Oper} {C : World → Prop}
theorem quiet_opR {o : Oper} {a : Act} {K : Act → Prop} {K' : Act → World → Prop} {Q' : Exit → Act → World → Prop} {w : World} (hd : ∀ c, o.op ≠ .defer c) (hw : C w) (h : ∀ a w', C w' → K a → K' a w')
    (ha : o.askedIn F P a C) (hh : o.quietIn F n P a C K) : o.wpIn F n P a w K' Q' := by
  obtain ⟨v, h1, h2⟩ := hh
  have h3 := h1 w hw
  unfold Oper.quietAtIn at h3
  unfold Oper.wpIn
  refine ⟨ha w hw, ?_⟩
  rw [Oper.semAt_eq _ _ _ hd]
  generalize (execOp a.eval o).run P w = r at *
  cases r with
  | halt x w' => simp only [Oper.quietUponIn] at h3
  | ok x w' =>
    cases x <;> simp only [Oper.quietUponIn] at h3 <;> simp only [Oper.uponIn]
    case value u => rw [h3.1, h3.2]; exact h _ _ hw h2
    case skip => rw [h3.1, ← h3.2]; exact h _ _ hw h2
    case enter f args =>
      rw [h3.1]
      exact ⟨h3.2.1, h3.2.2.mono fun e w'' ⟨he, hw''⟩ => by subst he; exact h _ _ hw'' h2⟩
theorem quiet_atR (hd : noDeferB ops = true) {i : Nat} {a : Act} {K : Act → Prop} {K' : Act → World → Prop} {Q' : Exit → Act → World → Prop} {w : World} (hC : C w) (h : ∀ a w', C w' → K a → K' a w')
    (hh : qOpIn F n P ops C i K a) : wpOpIn F n P ops Q' i K' a w := by
  unfold qOpIn at hh
  unfold wpOpIn
  split
  · rename_i ho
    simp only [ho] at hh
    exact h _ _ hC hh
  · rename_i o ho
    simp only [ho] at hh
    obtain ⟨ha, hh⟩ := hh
    split
    · rename_i hw
      simp only [hw, if_true] at hh
      exact quiet_opR (noDeferB_spec hd ho) hC h ha hh
    · rename_i hw
      simp only [hw] at hh
      exact ⟨ha w hC, h _ _ hC hh⟩
theorem quiet_anyR (hd : noDeferB ops = true) {Q : Act → Prop} {Q' : Exit → Act → World → Prop} (hQ : ∀ a w, C w → Q a → Q' .normal a w) : ∀ (fuel : Nat) (listed : Array Bool) (a : Act) (w : World), C w →
    wpAnyQIn F n P md ops C Q fuel listed a → wpAnyIn F n P md ops Q' fuel listed a w
  | 0, _, _, _, hw, h => ⟨h.1, hQ _ _ hw h.2⟩
  | fuel + 1, _, _, _, hw, h => ⟨fun h0 => hQ _ _ hw (h.1 h0), fun i hi => quiet_atR hd hw (fun a' w' hw' => quiet_anyR hd hQ fuel _ a' w' hw') (h.2 i hi)⟩
/-- One walk of the lexical order serves every order, inside a round. -/
theorem quiet_regionR {id : Nat} {Q : Exit → Act → World → Prop} {a : Act} {w : World} {l : List Oper} (hd : noDeferB l.toArray = true) (hm : P.follows .mixedOrders = true) (hB : Region.lexB .any l.toArray = true)
    (h : wpQuietIn F n P l.toArray (fun w' => ∃ n, w' = w.drewN n) (fun a' => ∀ w', (∃ n, w' = w.drewN n) → Q .normal a' w') l a) : (Code.region id l.toArray true).wpIn F n P Q a w := by
  simp only [Region.lexB, Bool.and_eq_true] at hB
  refine wpIn_region_any hm (quiet_anyR (C := fun w' => ∃ n, w' = w.drewN n) (Q := fun a' => ∀ w', (∃ n, w' = w.drewN n) → Q .normal a' w') hd (fun _ w' hw' h => h w' hw') _ _ _ _ ⟨1, rfl⟩ ?_)
  have h2 := wpAnyQIn_lex (F := F) (n := n) (C := fun w' => ∃ n, w' = w.drewN n) (md := .any) hB.1 l 0 (Array.replicate l.toArray.size false) a (by simp) (by simpa using hB.2) h
  simpa using h2
end
end Go.Proofs.Ytknodagcmachiaa

namespace Go.Proofs.Ytknodagcmachiaa
open Go.RowKit
set_option linter.unusedVariables false

section
variable {P : Program} {ops : Array Oper} {md : Region.Mode} {w : World} {l nn : Nat}
theorem wpIn_of_still {o : Oper} {a : Act} {K : Act → Prop} {K' : Act → World → Prop} {Q' : Exit → Act → World → Prop} (hd : ∀ c, o.op ≠ .defer c) (h : ∀ a, K a → K' a w) (hh : o.still P a w K) :
    o.wpIn (Fence.wide.inRound l) nn P a w K' Q' := by
  unfold Oper.still at hh
  unfold Oper.wpIn
  refine ⟨fun f _ => trivial, ?_⟩
  rw [Oper.semAt_eq _ _ _ hd]
  generalize (execOp a.eval o).run P w = r at *
  cases r with
  | halt x w' => simp only [Oper.stillUpon] at hh
  | ok x w' =>
    cases x <;> simp only [Oper.stillUpon] at hh <;> simp only [Oper.uponIn]
    case value u => rw [hh.1]; exact h _ hh.2
    case skip => rw [hh.1]; exact h _ hh.2
    case enter f args =>
      obtain ⟨e, v, hc, hk⟩ := hh
      rw [e]
      exact ⟨(fun hd => by cases hd), ((callsIn_wide.2 hc).inRound l).mono fun e w'' ⟨he, hw⟩ => by subst he; subst hw; exact h _ hk⟩
theorem wpOpIn_of_stOp (hd : noDeferB ops = true) {i : Nat} {a : Act} {K : Act → Prop} {K' : Act → World → Prop} {Q' : Exit → Act → World → Prop} (h : ∀ a, K a → K' a w) (hh : stOp P ops w i K a) :
    wpOpIn (Fence.wide.inRound l) nn P ops Q' i K' a w := by
  unfold stOp at hh
  unfold wpOpIn
  split
  · rename_i ho
    simp only [ho] at hh
    exact h _ hh
  · rename_i o ho
    simp only [ho] at hh
    split
    · rename_i hw
      simp only [hw, if_true] at hh
      exact wpIn_of_still (noDeferB_spec hd ho) h hh
    · rename_i hw
      simp only [hw] at hh
      exact ⟨fun f _ => trivial, h _ hh⟩
theorem wpAnyIn_of_head (hd : noDeferB ops = true) {n g : Nat} {L : Array Bool → Act → Prop} {Q' : Exit → Act → World → Prop} (hL : ∀ listed a, L listed a → wpAnyIn (Fence.wide.inRound l) nn P md ops Q' g listed a w) :
    ∀ (f : Nat) (listed : Array Bool) (a : Act), wpAnyL P md ops w n L f listed a → wpAnyIn (Fence.wide.inRound l) nn P md ops Q' (f + g) listed a w
  | 0, listed, a, h => by rw [Nat.zero_add]; exact hL _ _ h
  | f + 1, listed, a, h => by
    rw [show f + 1 + g = (f + g) + 1 by omega]
    exact ⟨fun h0 => absurd h0 h.1, fun i hi => wpOpIn_of_stOp hd (fun a' h' => wpAnyIn_of_head hd hL f _ a' h') (h.2 i hi).2⟩
theorem wpAnyIn_of_seq {F : Fence} {Q' : Exit → Act → World → Prop} : ∀ (l : List Oper) (k : Nat) (listed : Array Bool) (a : Act) (w : World), (∀ j, l[j]? = ops[k + j]?) →
    Region.seqB md ops l.length k listed = true → wpListIn F nn P ops Q' l a w → wpAnyIn F nn P md ops Q' l.length listed a w
  | [], _, _, _, _, _, hB, h => ⟨by simpa [Region.seqB] using hB, h⟩
  | o :: l, k, listed, a, w, hl, hB, h => by
    have h0 : ops[k]? = some o := by simpa using (hl 0).symm
    simp only [List.length_cons, Region.seqB, Bool.and_eq_true, decide_eq_true_eq] at hB
    refine ⟨fun h1 => (by rw [hB.1] at h1; cases h1), fun i hi => ?_⟩
    rw [hB.1] at hi
    have hik : i = k := by simpa using hi
    subst hik
    have hw : wpOpIn F nn P ops Q' i (wpListIn F nn P ops Q' l) a w := by unfold wpOpIn; simp only [h0]; exact h
    exact wpOpIn_mono (fun a' w' h' => wpAnyIn_of_seq l (i + 1) _ a' w' (fun j => by have := hl (j + 1); simpa [Nat.add_assoc, Nat.add_comm 1 j] using this) hB.2 h') hw
/-- The first n operations only read, the rest stand in one order: inside a round. -/
theorem wpIn_quiet_tailR {id : Nat} {Q : Exit → Act → World → Prop} {a : Act} {w : World} {lo : List Oper} (n : Nat) (hm : P.follows .mixedOrders = true) (hB : Region.lexTailB .any lo.toArray n = true) (hd : noDeferB lo.toArray = true)
    (h : wpQuiet P lo.toArray (fun w' => w' = w.drew) (fun a' => wpListIn (Fence.wide.inRound l) nn P lo.toArray Q (lo.drop n) a' w.drew) (lo.take n) a) : (Code.region id lo.toArray true).wpIn (Fence.wide.inRound l) nn P Q a w := by
  have h := still_of_quiet _ _ h
  simp only [Region.lexTailB, Bool.and_eq_true, decide_eq_true_eq] at hB
  obtain ⟨⟨⟨⟨hsel, hn⟩, hs⟩, hc⟩, hlex⟩ := hB
  have hn' : n < lo.length := by simpa using hn
  have htl : (lo.take n).length = n := by simp; omega
  have hdl : (lo.drop n).length = lo.toArray.size - n := by simp
  have inv0 : HeadInv .any lo.toArray n (Array.replicate lo.toArray.size false) :=
    ⟨by simp, fun j oj _ hl => (by rw [getD_replicate_false] at hl; cases hl), fun t _ ht => getD_in (by simpa using ht) (getD_replicate_false _ _)⟩
  have H := wpAnyL_lex (md := .any) (g := lo.toArray.size - n) hsel hs hc hn (lo.take n) 0 _ a (fun j hj => by
    have hj' : j < n := by rw [htl] at hj; exact hj
    simp [hj']) (by simpa using htl) inv0 (by rw [htl]; exact hlex) h
  refine wpIn_region_any hm ?_
  have := wpAnyIn_of_head (l := l) (nn := nn) hd (Q' := Q) (g := lo.toArray.size - n) (fun listed a' hL => by
    have := wpAnyIn_of_seq (nn := nn) (F := Fence.wide.inRound l) (md := .any) (Q' := Q) (lo.drop n) n listed a' w.drew (fun j => by simp [List.getElem?_drop]) (by rw [hdl]; exact hL.1) hL.2
    rwa [hdl] at this) _ _ _ H
  rw [htl, show n + (lo.toArray.size - n) = lo.toArray.size by omega] at this
  exact this
end
end Go.Proofs.Ytknodagcmachiaa

namespace Go.Proofs.Ytknodagcmachiaa.Cn
open Go.RowKit Go.Shelf Ac Fi
attribute [local go_sem] Oper.semAt_some
set_option linter.unusedVariables false
set_option linter.unusedSimpArgs false

/-- Nobody is there from a place to another. -/
def NoneC (cs : List CP) (i j : Nat) : Prop := ∀ k, i ≤ k → k < j → ∀ c, cs[k]? = some c → c.there = false
theorem NoneC.refl (cs : List CP) (i : Nat) : NoneC cs i i := fun k h1 h2 => by omega
theorem NoneC.next {cs : List CP} {i j : Nat} (h : NoneC cs i j) {c : CP} (hc : cs[j]? = some c) (ht : c.there = false) : NoneC cs i (j + 1) := fun k h1 h2 d hd => by
  by_cases he : k = j
  · subst he
    rw [hc] at hd
    cases hd
    exact ht
  · exact h k h1 (by omega) d hd
theorem NoneC.less {cs : List CP} {i i' j : Nat} (h : NoneC cs i j) (hi : i ≤ i') : NoneC cs i' j := fun k h1 h2 => h k (by omega) h2
set_option maxRecDepth 100000 in
set_option maxHeartbeats 16000000 in
theorem all8_row (w0 : World) (size : Int) (ws : (Lit.int .i64 size).wf = true) (v1 : Value) (n : Nat) (A : Nat → Int) (h1 : ArgK w0 8 kA8 v1 n A) (leave : Int) (wl : (Lit.int .i64 leave).wf = true) :
    Calls Try.prog 5 #[vi size, v1, vi leave] w0 (QP8 w0) := by
  obtain ⟨ao, cap, rfl⟩ : ∃ ao cap, v1 = .slice ao n cap := by
    rcases h1.form with ⟨rfl, ao, cap, h⟩ | ⟨b, off, cap, h, _⟩
    · exact ⟨_, _, h⟩
    · exact ⟨_, _, h⟩
  have HA := Lib.hid h1
  clear h1
  have hB0 := ((Sat.start w0).alloc (.cells #[vi leave] 3)).alloc (.cells #[.bool false] 4)
  rw [World.size_alloc] at hB0
  have hB : Sat w0 (pc w0.heap.size 3 [vi leave] * (pc (w0.heap.size + 1) 4 [.bool false] * emp)) _ := (show Sat w0 (pc (w0.heap.size + 1) 4 [.bool false] * (pc w0.heap.size 3 [vi leave] * emp)) _ from hB0).pull2
  have HB := Lib.hid hB
  clear hB hB0
  generalize hb1 : w0.heap.size + 1 = bR at *
  generalize hb2 : w0.heap.size = bL at *
  generalize hwb : (w0.alloc (.cells #[vi leave] 3)).alloc (.cells #[.bool false] 4) = wb at *
  have HB1 := Lib.hid hb1
  have HB2 := Lib.hid hb2
  have HWB := Lib.hid hwb
  clear hb1 hb2 hwb
  by_cases hn : 120 < n
  · have hni : (120 : Int) < (n : Int) := by omega
    refine (callsIn_wide (n := 9)).1 ?_
    refine callsIn_of_wp_marks Try.func5 rfl trivial ?_ rfl
    simp only [Try.ntmps5, List.size_toArray, List.length_cons, List.length_nil, Nat.reduceAdd, Nat.reduceSub, Array.replicate_succ, Array.replicate_zero, List.push_toArray, List.append_toArray, List.nil_append, List.cons_append]
    refine wpIn_wide.2 ?_
    go_wp2_with fail
    rw [HWB.out, HB2.out, HB1.out]
    go_wp2_with (go_at_call 9; refine (known08 _).mono ?_; rintro e w2 ⟨rfl, hb⟩; have h2 := Sat.after HB.out hb; have z0 := h2.pull2.cell 0 rfl; have zf := h2.pull2.free 0; have K2 := Lib.hid (h2.pull2.store 0 (.bool true)); clear hb h2)
    have hc := K2.out.cell 0 rfl
    exact ⟨.bool true, by simp [results, Try.f5, go_sem, hc], rfl, K2.out.below⟩

  have hni : ¬ (120 : Int) < (n : Int) := by omega
  by_cases hm : size < 1 ∨ 32 < size
  · have HM := Lib.hid (fun w => r_may_no size 4 (by omega) w)
    clear hm
    refine (callsIn_wide (n := 9)).1 ?_
    refine callsIn_of_wp_marks Try.func5 rfl trivial ?_ rfl
    simp only [Try.ntmps5, List.size_toArray, List.length_cons, List.length_nil, Nat.reduceAdd, Nat.reduceSub, Array.replicate_succ, Array.replicate_zero, List.push_toArray, List.append_toArray, List.nil_append, List.cons_append]
    refine wpIn_wide.2 ?_
    go_wp2_with fail
    rw [HWB.out, HB2.out, HB1.out]
    go_wp2_with (first
      | (go_at_call 16; (with_reducible refine (HM.out _).mono ?_); rintro e w1 ⟨rfl, rfl⟩)
      | (go_at_call 9; refine (known08 _).mono ?_; rintro e w2 ⟨rfl, hb⟩; have h2 := Sat.after HB.out hb; have z0 := h2.pull2.cell 0 rfl; have zf := h2.pull2.free 0; have K2 := Lib.hid (h2.pull2.store 0 (.bool true)); clear hb h2))
    have hc := K2.out.cell 0 rfl
    exact ⟨.bool true, by simp [results, Try.f5, go_sem, hc], rfl, K2.out.below⟩

  · obtain ⟨N, rfl⟩ := Int.eq_ofNat_of_zero_le (show 0 ≤ size by omega)
    have hN : 1 ≤ N ∧ N ≤ 32 := by omega
    have HI := Lib.hid (InvS.new N hN 4 ⟨by omega, by omega⟩)
    have HN := Lib.hid (fun (w : World) (G : Hp) (h : Sat w0 G w) => p_new N hN (show (2:Int) ≤ 4 ∧ (4:Int) ≤ 16 from ⟨by omega, by omega⟩) h)
    have HM := Lib.hid (fun w => r_may_yes N 4 (by omega) (by omega) (by omega) (by omega) w)
    clear hm
    refine (callsIn_wide (n := 9)).1 ?_
    refine callsIn_of_wp_marks Try.func5 rfl trivial ?_ rfl
    simp only [Try.ntmps5, List.size_toArray, List.length_cons, List.length_nil, Nat.reduceAdd, Nat.reduceSub, Array.replicate_succ, Array.replicate_zero, List.push_toArray, List.append_toArray, List.nil_append, List.cons_append]
    refine wpIn_wide.2 ?_
    go_wp2_with fail
    rw [HWB.out, HB2.out, HB1.out]
    go_wp2_with (first
      | (go_at_call 16; (with_reducible refine (HM.out _).mono ?_); rintro e w1' ⟨rfl, rfl⟩)
      | (go_at_call 10; (with_reducible refine (HN.out _ _ HB.out).mono ?_); rintro e w1 ⟨h, rfl, hS1⟩; have HNR := Lib.hid (both_new hS1 hN); clear hS1)
      | (go_at_call 17; (with_reducible refine HNR.out.mono ?_); rintro e w2 ⟨q, rfl, hS2⟩; have hp := (show Sat w0 (pc w2.heap.size 41 [vp q] * (cxQ [] h 4 (newS N).cs (newS N).free * (cyQ [] q 4 (newS N).cs (newS N).times * (pc bL 3 [vi leave] * (pc bR 4 [.bool false] * emp))))) _ from hS2.alloc (.cells #[vp q] 41)); have HPREV := Lib.hid hp; clear hS2 hp))
    clear HNR HM HN
    generalize w2.heap.size = bW at *
    go_loopw [10] (fun ix wr => ∃ (k : Nat) (s : CS), k ≤ n ∧ ix = vi k ∧ Hid (InvS N 4 (2 * k) s) ∧ Sat w0 (pc bW 41 [vp q] * (cxQ [] h 4 s.cs s.free * (cyQ [] q 4 s.cs s.times * (pc bL 3 [vi leave] * (pc bR 4 [.bool false] * emp))))) wr) (fun ix _ => n - (intOf ix).toNat)
    case atStart => exact ⟨0, _, Nat.zero_le _, rfl, HI, HPREV.out⟩
    case round =>
      clear HPREV HI HB
      obtain ⟨k, s, hk, rfl, hI, hS⟩ := hrel
      by_cases hlt : k < n
      · have hki : (k : Int) < (n : Int) := by omega
        obtain ⟨ab, aoff, rfl, x, hx, hca⟩ := act_of HA.out hlt
        have i8 := hS.drew.cell 0 rfl
        obtain ⟨i0, i1, i2, i3, i4, i5, i6, i7⟩ := hca _ _ hS.drew
        have HCA := Lib.hid hca
        have HI2 := Lib.hid (hI.out.step hx)
        have HD := Lib.hid (do8 hI.out (by omega) (show Sat w0 (bothC h q 4 [] [] s (pc bW 41 [vp q] * (pc bL 3 [vi leave] * (pc bR 4 [.bool false] * emp)))) wr.drew from hS.drew.cast (by unfold bothC; ac_rfl)) x hx)
        clear hS hca
        generalize stepS 4 s x = s2 at *
        go_wp2_with fail
        go_region_held3 (fun w' => w'.cell? ⟨bW, 0, none⟩ = some (vp q) ∧ w'.cell? ⟨ab, aoff + k * 8, none⟩ = some (vi x.k) ∧ w'.cell? ⟨ab, aoff + k * 8 + 1, none⟩ = some (vi x.i) ∧ w'.cell? ⟨ab, aoff + k * 8 + 2, none⟩ = some (vu x.g) ∧ w'.cell? ⟨ab, aoff + k * 8 + 3, none⟩ = some (vi x.j) ∧ w'.cell? ⟨ab, aoff + k * 8 + 4, none⟩ = some (vu x.t) ∧ w'.cell? ⟨ab, aoff + k * 8 + 5, none⟩ = some (vu x.a) ∧ w'.cell? ⟨ab, aoff + k * 8 + 6, none⟩ = some (vu x.b) ∧ w'.cell? ⟨ab, aoff + k * 8 + 7, none⟩ = some (vu x.now))
          (first | exact ⟨i8, i0, i1, i2, i3, i4, i5, i6, i7⟩ | exact ⟨j8, j0, j1, j2, j3, j4, j5, j6, j7⟩ | go_keep)
          ((go_at_call 18; (with_reducible refine HD.out.mono ?_); rintro e w4 ⟨rfl, hS4⟩; have h4 : Sat w0 (pc bW 41 [vp q] * (cxQ [] h 4 s2.cs s2.free * (cyQ [] q 4 s2.cs s2.times * (pc bL 3 [vi leave] * (pc bR 4 [.bool false] * emp))))) w4 := hS4.cast (by unfold bothC; ac_rfl); have j8 := h4.cell 0 rfl; obtain ⟨j0, j1, j2, j3, j4, j5, j6, j7⟩ := HCA.out _ _ h4; have H5 := Lib.hid h4; clear hS4 h4))
        go_wp2
        go_roundw
        case rel => exact ⟨k + 1, s2, by omega, by go_num, HI2, H5.out⟩
        case measure => (simp [intOf]; try omega)
      · obtain rfl : k = n := by omega
        have hki : ¬ (k : Int) < (k : Int) := by omega
        have HALL := Lib.hid (p_all hS.pull2)
        clear hS
        have hq : ∀ (it : Nat) (w : World), (binOp .eql 45 (.func (.func 53) #[] #[vp it]) .nilFunc).run Try.prog w = .ok (.bool false) w := fun it w => rfl
        have HMKE : Hid (∀ (L0 : Blks) (w : World) (G : Hp), Sat w0 (cxQ L0 h 4 s.cs s.free * G) w → Calls Try.prog 11 #[vp h, vu 1, vu 1, vu 0] w fun e w' => e = .returned (.tuple #[vr (mkI s.free 1 1 0) (mkG s.cs s.free 1 1 0), vi (mkE s.free 1 1 0)]) ∧ Sat w0 (cxQ L0 h 4 (mkL s.cs s.free 1 1 0) (mkF s.free 1 1 0) * G) w') := Lib.hid fun L0 w G h' => p_make hI.out h' 1 1 0 (by omega)
        have HIM : Inv N 4 (2 * k + 1) (mkL s.cs s.free 1 1 0) (mkF s.free 1 1 0) s.times := Inv.mk_ hI.out 1 1 0 (by omega)
        have HDRE : Hid (∀ (L0 : Blks) (w : World) (G : Hp), Sat w0 (cxQ L0 h 4 (mkL s.cs s.free 1 1 0) (mkF s.free 1 1 0) * G) w → Calls Try.prog 22 #[vp h, vr 0 1] w fun e w' => e = .returned (vi (drE (mkL s.cs s.free 1 1 0) 0 1)) ∧ Sat w0 (cxQ L0 h 4 (drL (mkL s.cs s.free 1 1 0) 0 1 s.times) (drF (mkL s.cs s.free 1 1 0) (mkF s.free 1 1 0) 0 1) * G) w') := Lib.hid fun L0 w G h' => p_drop HIM (by omega) h' 0 1
        clear HIM
        generalize drL (mkL s.cs s.free 1 1 0) 0 1 s.times = csd at *
        generalize drF (mkL s.cs s.free 1 1 0) (mkF s.free 1 1 0) 0 1 = frd at *
        generalize drE (mkL s.cs s.free 1 1 0) 0 1 = ed at *
        generalize mkL s.cs s.free 1 1 0 = csm at *
        generalize mkF s.free 1 1 0 = frm at *
        generalize mkI s.free 1 1 0 = im at *
        generalize mkG s.cs s.free 1 1 0 = gm at *
        generalize mkE s.free 1 1 0 = em at *
        go_wp2_with (first
          | (go_at_call 19; (with_reducible refine HALL.out.mono ?_); rintro e w5 ⟨it, bx, g, cap2, ps, L, rfl, hL, hp, hS5⟩; have HP := Lib.hid hp; have H5 := Lib.hid (hS5.cast (show _ = cxQ L h 4 s.cs s.free * (cxIt it bx g cap2 ps * (pc bW 41 [vp q] * (cyQ [] q 4 s.cs s.times * (pc bL 3 [vi leave] * (pc bR 4 [.bool false] * emp))))) by ac_rfl)); clear hS5 hp hL)
          | (go_at_call 11; (with_reducible refine (HMKE.out _ _ _ H5.out).mono ?_); rintro e w6 ⟨rfl, hS6⟩; have H6 := Lib.hid hS6; clear hS6)
          | (go_at_call 22; (with_reducible refine (HDRE.out _ _ _ H6.out).mono ?_); rintro e w7 ⟨rfl, hS7⟩; have H7 := Lib.hid hS7; clear hS7))
        clear HALL HMKE HDRE H5 H6 hq
        obtain ⟨b, rcap, rs, L2, _, hp2, h8⟩ := cy_open (H7.out.cast (show _ = cyQ [] q 4 s.cs s.times * (cxQ L h 4 csd frd * (cxIt it bx g cap2 ps * (pc bW 41 [vp q] * (pc bL 3 [vi leave] * (pc bR 4 [.bool false] * emp))))) by ac_rfl))
        have HR := Lib.hid hp2
        have H8 := Lib.hid (h8.alloc (.cells #[vi 0] 3))
        clear h8 hp2 H7
        refine wp_loop_gk (fun m a wr => ∃ (tn : Nat) (ds : List Nat) (bT : Nat) (u13 u14 u15 u16 u17 u44 u45 u46 u47 u48 u49 u50 u51 u52 u53 u63 u64 u65 u66 u67 u68 u69 u70 u71 u72 u73 u74 u75 u76 u77 u78 u79 u80 u81 u82 u83 u84 u85 u86 u87 u88 u89 u90 u91 u92 u93 u94 u95 u96 u97 u98 u99 u100 u101 u102 u103 u104 u105 u106 u107 u108 u109 u110 u111 u112 u113 u114 u115 u116 u117 u118 u119 u120 u121 u122 u123 u124 u125 u126 u127 u128 u129 u130 u131 u132 u133 u134 u135 u136 u137 u138 u139 u140 u141 u142 u143 u144 u145 u146 u147 u148 u149 u150 u151 u152 u153 u154 u155 u156 u157 u158 u159 u160 u161 u162 u163 u164 u165 u166 u167 u168 u169 u170 u171 u172 u173 u174 u175 u176 u177 u178 u179 u180 u181 u182 u183 u184 u185 u186 u187 u188 u189 : Value), a = ⟨#[vi N, .slice ao k cap, vi leave, undef, undef, vp bL, vp bR, vp h, vi 0, vp bW, vi k, .func (.func 53) #[] #[vp it], vp bT, u13, u14, u15, u16, u17, .slice ao k cap, vi k, .bool false, .bool false, vi N, .bool true, .bool false, .bool false, undef, .tuple #[vp h, vi 0], vi N, .tuple #[vp h, vi 0], vp h, vi 0, vi 0, .bool false, .bool false, vp h, .bool false, .bool false, vi N, vp q, vi k, .slice ao k cap, vi k, .bool false, u44, u45, u46, u47, u48, u49, u50, u51, u52, u53, vp h, .func (.func 53) #[] #[vp it], .func (.func 53) #[] #[vp it], .bool false, vp h, .tuple #[vr im gm, vi em], vp h, .agg #[vi 0, vu 1], vi ed, u63, u64, u65, u66, u67, u68, u69, u70, u71, u72, u73, u74, u75, u76, u77, u78, u79, u80, u81, u82, u83, u84, u85, u86, u87, u88, u89, u90, u91, u92, u93, u94, u95, u96, u97, u98, u99, u100, u101, u102, u103, u104, u105, u106, u107, u108, u109, u110, u111, u112, u113, u114, u115, u116, u117, u118, u119, u120, u121, u122, u123, u124, u125, u126, u127, u128, u129, u130, u131, u132, u133, u134, u135, u136, u137, u138, u139, u140, u141, u142, u143, u144, u145, u146, u147, u148, u149, u150, u151, u152, u153, u154, u155, u156, u157, u158, u159, u160, u161, u162, u163, u164, u165, u166, u167, u168, u169, u170, u171, u172, u173, u174, u175, u176, u177, u178, u179, u180, u181, u182, u183, u184, u185, u186, u187, u188, u189], mkD ds⟩ ∧ tn + m = 2 ∧ Sat w0 (mkH ds * (pc bT 3 [vi tn] * (cxIt it bx g cap2 ps * (cxQ L h 4 csd frd * (rxB q b rs.length rcap s.times 4 * (rxL b rcap rs * (plB L2 * (pc bW 41 [vp q] * (pc bL 3 [vi leave] * (pc bR 4 [.bool false] * (emp))))))))))) wr) 2 ?_ ?_
        · exact ⟨0, [], w7.heap.size, _, _, _, _, _, _, _, _, _, _, _, _, _, _, _, _, _, _, _, _, _, _, _, _, _, _, _, _, _, _, _, _, _, _, _, _, _, _, _, _, _, _, _, _, _, _, _, _, _, _, _, _, _, _, _, _, _, _, _, _, _, _, _, _, _, _, _, _, _, _, _, _, _, _, _, _, _, _, _, _, _, _, _, _, _, _, _, _, _, _, _, _, _, _, _, _, _, _, _, _, _, _, _, _, _, _, _, _, _, _, _, _, _, _, _, _, _, _, _, _, _, _, _, _, _, _, _, _, _, _, _, _, _, _, _, _, _, _, _, _, _, _, rfl, rfl, (show Sat w0 (pc w7.heap.size 3 [vi 0] * _) _ from H8.out).cast (show _ = mkH [] * (pc w7.heap.size 3 [vi ((0 : Nat) : Int)] * (cxIt it bx g cap2 ps * (cxQ L h 4 csd frd * (rxB q b rs.length rcap s.times 4 * (rxL b rcap rs * (plB L2 * (pc bW 41 [vp q] * (pc bL 3 [vi leave] * (pc bR 4 [.bool false] * (emp)))))))))) by show _ = emp * _; rw [emp_sep]; ac_rfl)⟩
        · clear H8
          intro m aa wr hr K hK
          refine Exists.elim hr ?_
          clear hr
          intro tn hr
          refine Exists.elim hr ?_
          clear hr
          intro ds hr
          refine Exists.elim hr ?_
          clear hr
          intro bT hr
          refine Exists.elim hr ?_
          clear hr
          intro u13 hr
          refine Exists.elim hr ?_
          clear hr
          intro u14 hr
          refine Exists.elim hr ?_
          clear hr
          intro u15 hr
          refine Exists.elim hr ?_
          clear hr
          intro u16 hr
          refine Exists.elim hr ?_
          clear hr
          intro u17 hr
          refine Exists.elim hr ?_
          clear hr
          intro u44 hr
          refine Exists.elim hr ?_
          clear hr
          intro u45 hr
          refine Exists.elim hr ?_
          clear hr
          intro u46 hr
          refine Exists.elim hr ?_
          clear hr
          intro u47 hr
          refine Exists.elim hr ?_
          clear hr
          intro u48 hr
          refine Exists.elim hr ?_
          clear hr
          intro u49 hr
          refine Exists.elim hr ?_
          clear hr
          intro u50 hr
          refine Exists.elim hr ?_
          clear hr
          intro u51 hr
          refine Exists.elim hr ?_
          clear hr
          intro u52 hr
          refine Exists.elim hr ?_
          clear hr
          intro u53 hr
          refine Exists.elim hr ?_
          clear hr
          intro u63 hr
          refine Exists.elim hr ?_
          clear hr
          intro u64 hr
          refine Exists.elim hr ?_
          clear hr
          intro u65 hr
          refine Exists.elim hr ?_
          clear hr
          intro u66 hr
          refine Exists.elim hr ?_
          clear hr
          intro u67 hr
          refine Exists.elim hr ?_
          clear hr
          intro u68 hr
          refine Exists.elim hr ?_
          clear hr
          intro u69 hr
          refine Exists.elim hr ?_
          clear hr
          intro u70 hr
          refine Exists.elim hr ?_
          clear hr
          intro u71 hr
          refine Exists.elim hr ?_
          clear hr
          intro u72 hr
          refine Exists.elim hr ?_
          clear hr
          intro u73 hr
          refine Exists.elim hr ?_
          clear hr
          intro u74 hr
          refine Exists.elim hr ?_
          clear hr
          intro u75 hr
          refine Exists.elim hr ?_
          clear hr
          intro u76 hr
          refine Exists.elim hr ?_
          clear hr
          intro u77 hr
          refine Exists.elim hr ?_
          clear hr
          intro u78 hr
          refine Exists.elim hr ?_
          clear hr
          intro u79 hr
          refine Exists.elim hr ?_
          clear hr
          intro u80 hr
          refine Exists.elim hr ?_
          clear hr
          intro u81 hr
          refine Exists.elim hr ?_
          clear hr
          intro u82 hr
          refine Exists.elim hr ?_
          clear hr
          intro u83 hr
          refine Exists.elim hr ?_
          clear hr
          intro u84 hr
          refine Exists.elim hr ?_
          clear hr
          intro u85 hr
          refine Exists.elim hr ?_
          clear hr
          intro u86 hr
          refine Exists.elim hr ?_
          clear hr
          intro u87 hr
          refine Exists.elim hr ?_
          clear hr
          intro u88 hr
          refine Exists.elim hr ?_
          clear hr
          intro u89 hr
          refine Exists.elim hr ?_
          clear hr
          intro u90 hr
          refine Exists.elim hr ?_
          clear hr
          intro u91 hr
          refine Exists.elim hr ?_
          clear hr
          intro u92 hr
          refine Exists.elim hr ?_
          clear hr
          intro u93 hr
          refine Exists.elim hr ?_
          clear hr
          intro u94 hr
          refine Exists.elim hr ?_
          clear hr
          intro u95 hr
          refine Exists.elim hr ?_
          clear hr
          intro u96 hr
          refine Exists.elim hr ?_
          clear hr
          intro u97 hr
          refine Exists.elim hr ?_
          clear hr
          intro u98 hr
          refine Exists.elim hr ?_
          clear hr
          intro u99 hr
          refine Exists.elim hr ?_
          clear hr
          intro u100 hr
          refine Exists.elim hr ?_
          clear hr
          intro u101 hr
          refine Exists.elim hr ?_
          clear hr
          intro u102 hr
          refine Exists.elim hr ?_
          clear hr
          intro u103 hr
          refine Exists.elim hr ?_
          clear hr
          intro u104 hr
          refine Exists.elim hr ?_
          clear hr
          intro u105 hr
          refine Exists.elim hr ?_
          clear hr
          intro u106 hr
          refine Exists.elim hr ?_
          clear hr
          intro u107 hr
          refine Exists.elim hr ?_
          clear hr
          intro u108 hr
          refine Exists.elim hr ?_
          clear hr
          intro u109 hr
          refine Exists.elim hr ?_
          clear hr
          intro u110 hr
          refine Exists.elim hr ?_
          clear hr
          intro u111 hr
          refine Exists.elim hr ?_
          clear hr
          intro u112 hr
          refine Exists.elim hr ?_
          clear hr
          intro u113 hr
          refine Exists.elim hr ?_
          clear hr
          intro u114 hr
          refine Exists.elim hr ?_
          clear hr
          intro u115 hr
          refine Exists.elim hr ?_
          clear hr
          intro u116 hr
          refine Exists.elim hr ?_
          clear hr
          intro u117 hr
          refine Exists.elim hr ?_
          clear hr
          intro u118 hr
          refine Exists.elim hr ?_
          clear hr
          intro u119 hr
          refine Exists.elim hr ?_
          clear hr
          intro u120 hr
          refine Exists.elim hr ?_
          clear hr
          intro u121 hr
          refine Exists.elim hr ?_
          clear hr
          intro u122 hr
          refine Exists.elim hr ?_
          clear hr
          intro u123 hr
          refine Exists.elim hr ?_
          clear hr
          intro u124 hr
          refine Exists.elim hr ?_
          clear hr
          intro u125 hr
          refine Exists.elim hr ?_
          clear hr
          intro u126 hr
          refine Exists.elim hr ?_
          clear hr
          intro u127 hr
          refine Exists.elim hr ?_
          clear hr
          intro u128 hr
          refine Exists.elim hr ?_
          clear hr
          intro u129 hr
          refine Exists.elim hr ?_
          clear hr
          intro u130 hr
          refine Exists.elim hr ?_
          clear hr
          intro u131 hr
          refine Exists.elim hr ?_
          clear hr
          intro u132 hr
          refine Exists.elim hr ?_
          clear hr
          intro u133 hr
          refine Exists.elim hr ?_
          clear hr
          intro u134 hr
          refine Exists.elim hr ?_
          clear hr
          intro u135 hr
          refine Exists.elim hr ?_
          clear hr
          intro u136 hr
          refine Exists.elim hr ?_
          clear hr
          intro u137 hr
          refine Exists.elim hr ?_
          clear hr
          intro u138 hr
          refine Exists.elim hr ?_
          clear hr
          intro u139 hr
          refine Exists.elim hr ?_
          clear hr
          intro u140 hr
          refine Exists.elim hr ?_
          clear hr
          intro u141 hr
          refine Exists.elim hr ?_
          clear hr
          intro u142 hr
          refine Exists.elim hr ?_
          clear hr
          intro u143 hr
          refine Exists.elim hr ?_
          clear hr
          intro u144 hr
          refine Exists.elim hr ?_
          clear hr
          intro u145 hr
          refine Exists.elim hr ?_
          clear hr
          intro u146 hr
          refine Exists.elim hr ?_
          clear hr
          intro u147 hr
          refine Exists.elim hr ?_
          clear hr
          intro u148 hr
          refine Exists.elim hr ?_
          clear hr
          intro u149 hr
          refine Exists.elim hr ?_
          clear hr
          intro u150 hr
          refine Exists.elim hr ?_
          clear hr
          intro u151 hr
          refine Exists.elim hr ?_
          clear hr
          intro u152 hr
          refine Exists.elim hr ?_
          clear hr
          intro u153 hr
          refine Exists.elim hr ?_
          clear hr
          intro u154 hr
          refine Exists.elim hr ?_
          clear hr
          intro u155 hr
          refine Exists.elim hr ?_
          clear hr
          intro u156 hr
          refine Exists.elim hr ?_
          clear hr
          intro u157 hr
          refine Exists.elim hr ?_
          clear hr
          intro u158 hr
          refine Exists.elim hr ?_
          clear hr
          intro u159 hr
          refine Exists.elim hr ?_
          clear hr
          intro u160 hr
          refine Exists.elim hr ?_
          clear hr
          intro u161 hr
          refine Exists.elim hr ?_
          clear hr
          intro u162 hr
          refine Exists.elim hr ?_
          clear hr
          intro u163 hr
          refine Exists.elim hr ?_
          clear hr
          intro u164 hr
          refine Exists.elim hr ?_
          clear hr
          intro u165 hr
          refine Exists.elim hr ?_
          clear hr
          intro u166 hr
          refine Exists.elim hr ?_
          clear hr
          intro u167 hr
          refine Exists.elim hr ?_
          clear hr
          intro u168 hr
          refine Exists.elim hr ?_
          clear hr
          intro u169 hr
          refine Exists.elim hr ?_
          clear hr
          intro u170 hr
          refine Exists.elim hr ?_
          clear hr
          intro u171 hr
          refine Exists.elim hr ?_
          clear hr
          intro u172 hr
          refine Exists.elim hr ?_
          clear hr
          intro u173 hr
          refine Exists.elim hr ?_
          clear hr
          intro u174 hr
          refine Exists.elim hr ?_
          clear hr
          intro u175 hr
          refine Exists.elim hr ?_
          clear hr
          intro u176 hr
          refine Exists.elim hr ?_
          clear hr
          intro u177 hr
          refine Exists.elim hr ?_
          clear hr
          intro u178 hr
          refine Exists.elim hr ?_
          clear hr
          intro u179 hr
          refine Exists.elim hr ?_
          clear hr
          intro u180 hr
          refine Exists.elim hr ?_
          clear hr
          intro u181 hr
          refine Exists.elim hr ?_
          clear hr
          intro u182 hr
          refine Exists.elim hr ?_
          clear hr
          intro u183 hr
          refine Exists.elim hr ?_
          clear hr
          intro u184 hr
          refine Exists.elim hr ?_
          clear hr
          intro u185 hr
          refine Exists.elim hr ?_
          clear hr
          intro u186 hr
          refine Exists.elim hr ?_
          clear hr
          intro u187 hr
          refine Exists.elim hr ?_
          clear hr
          intro u188 hr
          refine Exists.elim hr ?_
          clear hr
          intro u189 hr
          obtain ⟨rfl, hm, hS⟩ := hr
          have HKK := Lib.hid hK
          clear hK
          have hrl : rs.length = s.cs.length := HR.out.len
          have hcl : s.cs.length = N := Inv.len hI.out
          have h32 : N ≤ 32 := hN.2
          have HRL := Lib.hid (show rs.length = s.cs.length ∧ s.cs.length = N ∧ N ≤ 32 from ⟨hrl, hcl, h32⟩)
          clear hrl hcl h32
          have t0 := hS.dropL.cell 0 rfl
          by_cases hlt2 : tn < 2
          · have hti : (tn : Int) < 2 := by omega
            have hA0 := (hS.alloc (.cells #[vi 0] 3)).alloc (.cells #[vi 0] 3)
            rw [World.size_alloc] at hA0
            have hA : Sat w0 (pc (wr.heap.size + 1) 3 [vi 0] * (pc wr.heap.size 3 [vi 0] * (mkH ds * (pc bT 3 [vi tn] * (cxIt it bx g cap2 ps * (cxQ L h 4 csd frd * (rxB q b rs.length rcap s.times 4 * (rxL b rcap rs * (plB L2 * (pc bW 41 [vp q] * (pc bL 3 [vi leave] * (pc bR 4 [.bool false] * (emp))))))))))))) _ := hA0
            have HAA := Lib.hid hA
            clear hA hA0 hS
            go_wp2_with fail
            refine (wpIn_wide (n := 9)).1 ?_
            refine wpIn_act ?_
            intro a0 ha0
            have hH0 : Sat w0 (cxIt it bx g cap2 ps * (ex fun at_ : Nat => given (at_ ≤ 0 ∧ NoneC s.cs at_ 0) (pc wr.heap.size 3 [vi at_] * (pc (wr.heap.size + 1) 3 [vi (cntC s.cs 0)] * (cxQ L h 4 csd frd * (rxB q b rs.length rcap s.times 4 * (rxL b rcap rs * (plB L2 * (pc bW 41 [vp q] * (pc bL 3 [vi leave] * (pc bT 3 [vi tn] * (mkH ds * (pc bR 4 [.bool false]))))))))))))) ((wr.alloc (.cells #[vi 0] 3)).alloc (.cells #[vi 0] 3)) := by
              have h9 := Sat.exI (f := fun at_ : Nat => given (at_ ≤ 0 ∧ NoneC s.cs at_ 0) (pc wr.heap.size 3 [vi at_] * (pc (wr.heap.size + 1) 3 [vi (cntC s.cs 0)] * (cxQ L h 4 csd frd * (rxB q b rs.length rcap s.times 4 * (rxL b rcap rs * (plB L2 * (pc bW 41 [vp q] * (pc bL 3 [vi leave] * (pc bT 3 [vi tn] * (mkH ds * (pc bR 4 [.bool false])))))))))))) (F := cxIt it bx g cap2 ps) 0 (Sat.givenI ⟨Nat.le_refl _, NoneC.refl _ _⟩ (HAA.out.cast (show _ = (pc wr.heap.size 3 [vi ((0 : Nat) : Int)] * (pc (wr.heap.size + 1) 3 [vi (cntC s.cs 0)] * (cxQ L h 4 csd frd * (rxB q b rs.length rcap s.times 4 * (rxL b rcap rs * (plB L2 * (pc bW 41 [vp q] * (pc bL 3 [vi leave] * (pc bT 3 [vi tn] * (mkH ds * (pc bR 4 [.bool false]))))))))))) * cxIt it bx g cap2 ps by show _ = (pc wr.heap.size 3 [vi 0] * (pc (wr.heap.size + 1) 3 [vi 0] * _)) * _; simp only [sep_emp]; ac_rfl)))
              exact h9.cast (sep_comm _ _)
            have HH0 := Lib.hid hH0
            clear hH0 HAA t0
            generalize (World.alloc (World.alloc wr _) _) = W1 at *
            generalize wr.heap.size + 1 = bN at *
            generalize wr.heap.size = bA at *
            rename_i K0 hK0
            have hC : ∀ (D at_ : Nat) (nv : Int) (W : World), at_ ≤ s.cs.length → (NoneC s.cs at_ s.cs.length ∨ (tn = 0 ∧ nv = leave)) → Sat w0 (pt D dmark * (pc bA 3 [vi at_] * (pc bN 3 [vi nv] * (cxIt it bx g cap2 ps * (cxQ L h 4 csd frd * (rxB q b rs.length rcap s.times 4 * (rxL b rcap rs * (plB L2 * (pc bW 41 [vp q] * (pc bL 3 [vi leave] * (pc bT 3 [vi tn] * (mkH ds * (pc bR 4 [.bool false]))))))))))))) W → K0 { a0 with defers := { target := .collected D, args := #[] } :: a0.defers } W := by
              intro D at_ nv W hat hcond hS
              have hS0 : Sat w0 (pc bA 3 [vi at_] * (pc bN 3 [vi nv] * (rxB q b rs.length rcap s.times 4 * (rxL b rcap rs * (plB L2 * (pc bW 41 [vp q] * (pc bL 3 [vi leave] * (pc bT 3 [vi tn] * (mkH (D :: ds) * (cxIt it bx g cap2 ps * (cxQ L h 4 csd frd * (pc bR 4 [.bool false] * (emp))))))))))))) W := hS.cast (by show _ = pc bA 3 [vi at_] * (pc bN 3 [vi nv] * (rxB q b rs.length rcap s.times 4 * (rxL b rcap rs * (plB L2 * (pc bW 41 [vp q] * (pc bL 3 [vi leave] * (pc bT 3 [vi tn] * ((pt D dmark * mkH ds) * (cxIt it bx g cap2 ps * (cxQ L h 4 csd frd * (pc bR 4 [.bool false] * (emp)))))))))))); simp only [sep_emp]; ac_rfl)
              have HS0 := Lib.hid hS0
              clear hS hS0 HH0
              subst ha0
              refine hK0 _ _ ?_
              clear hK0
              go_wp2_with fail
              go_loopw [151] (fun _ wy => ∃ j : Nat, at_ ≤ j ∧ j ≤ s.cs.length ∧ Sat w0 (pc bA 3 [vi j] * (pc bN 3 [vi nv] * (rxB q b rs.length rcap s.times 4 * (rxL b rcap rs * (plB L2 * (pc bW 41 [vp q] * (pc bL 3 [vi leave] * (pc bT 3 [vi tn] * (mkH (D :: ds) * (cxIt it bx g cap2 ps * (cxQ L h 4 csd frd * (pc bR 4 [.bool false] * (emp))))))))))))) wy) (fun _ wy => s.cs.length - (intOf ((wy.cell? ⟨bA, 0, none⟩).getD undef)).toNat)
              case atStart => exact ⟨at_, Nat.le_refl _, hat, HS0.out⟩
              case round =>
                obtain ⟨j, hj1, hj2, hSj⟩ := hrel
                clear HS0
                have a0 := hSj.cell 0 rfl
                have af := hSj.free 0
                have n0 := hSj.dropL.cell 0 rfl
                have q0 := hSj.dropL.dropL.cell 0 rfl
                have w0' := hSj.dropL.dropL.dropL.dropL.dropL.cell 0 rfl
                have l0 := hSj.dropL.dropL.dropL.dropL.dropL.dropL.cell 0 rfl
                have t0 := hSj.dropL.dropL.dropL.dropL.dropL.dropL.dropL.cell 0 rfl
                by_cases hjl : j < s.cs.length
                · have hjr : j < rs.length := by have := HRL.out; omega
                  have hj32 : (j : Int) ≤ 32 := by have := HRL.out; omega
                  have hji : (j : Int) < (rs.length : Int) := by omega
                  have hj0 : (0 : Int) ≤ (j : Int) := by omega
                  have hd0 : decide ((0 : Int) ≤ (j : Int)) = true := decide_eq_true hj0
                  have hd1 : decide (j < rs.length) = true := decide_eq_true hjr
                  have hd2 : decide ((j : Int) < (rs.length : Int)) = true := decide_eq_true hji
                  obtain ⟨c, hc⟩ : ∃ c, s.cs[j]? = some c := ⟨s.cs[j], List.getElem?_eq_getElem hjl⟩
                  obtain ⟨a, ha⟩ : ∃ a, rs[j]? = some a := ⟨rs[j]'(by omega), List.getElem?_eq_getElem _⟩
                  obtain ⟨_, e2, _, _⟩ := HR.out.at_ j a c ha hc
                  have th := rx_at hSj.dropL.dropL.dropL (j := 1) ha rfl
                  rw [e2] at th
                  cases hct : c.there with
                  | false =>
                    rw [hct] at th
                    have HSJ := Lib.hid hSj
                    clear hSj hct hc ha e2
                    go_wp2_with fail
                    go_quiet (fail)
                    have hst := (HSJ.out.drewN nq).store 0 (vi ((j : Int) + 1))
                    have af2 := (HSJ.out.drewN nq).free 0
                    have hc1 := hst.cell 0 rfl
                    have HST := Lib.hid hst
                    clear hst
                    go_wp2_with fail
                    go_roundw
                    case rel => exact ⟨j + 1, by omega, by omega, HST.out.cast (by rw [show ((j + 1 : Nat) : Int) = (j : Int) + 1 by omega]; simp only [List.set_cons_zero])⟩
                    case measure => (simp [intOf, hc1, a0]; try omega)
                  | true =>
                    rw [hct] at th
                    obtain ⟨htn, hnv⟩ : tn = 0 ∧ nv = leave := by
                      rcases hcond with h | h
                      · exact absurd (h j hj1 hjl c hc) (by rw [hct]; simp)
                      · exact h
                    have htb : ((tn : Int) == 0) = true := by simp [htn]
                    have hnb : (nv == leave) = true := by simp [hnv]
                    clear htn hnv
                    have HSJ := Lib.hid hSj
                    clear hSj hct hc ha e2 hcond
                    go_wp2_with fail
                    go_quiet (fail)
                    go_wp2_with fail
                    go_quiet (fail)
                    generalize hW5 : World.drewN _ _ = W5
                    have hS5 : Sat w0 (pc bA 3 [vi j] * (pc bN 3 [vi nv] * (rxB q b rs.length rcap s.times 4 * (rxL b rcap rs * (plB L2 * (pc bW 41 [vp q] * (pc bL 3 [vi leave] * (pc bT 3 [vi tn] * (mkH (D :: ds) * (cxIt it bx g cap2 ps * (cxQ L h 4 csd frd * (pc bR 4 [.bool false] * (emp))))))))))))) W5 := by
                      rw [← hW5]
                      first | exact (HSJ.out.drewN _).drewN _ | exact HSJ.out.drewN _
                    have t0 := hS5.dropL.dropL.dropL.dropL.dropL.dropL.dropL.cell 0 rfl
                    have HS5 := Lib.hid hS5
                    clear hS5 hW5
                    go_wp2_with fail
                    have h9 := (HS5.out).alloc (.cells #[vi ((tn : Int) + 1)] 3)
                    refine HKK.out _ _ ⟨m - 1, by omega, tn + 1, D :: ds, _, _, _, _, _, _, _, _, _, _, _, _, _, _, _, _, _, _, _, _, _, _, _, _, _, _, _, _, _, _, _, _, _, _, _, _, _, _, _, _, _, _, _, _, _, _, _, _, _, _, _, _, _, _, _, _, _, _, _, _, _, _, _, _, _, _, _, _, _, _, _, _, _, _, _, _, _, _, _, _, _, _, _, _, _, _, _, _, _, _, _, _, _, _, _, _, _, _, _, _, _, _, _, _, _, _, _, _, _, _, _, _, _, _, _, _, _, _, _, _, _, _, _, _, _, _, _, _, _, _, _, _, _, _, _, _, _, _, _, _, _, _, _, rfl, by omega, ?_⟩
                    exact ((show Sat w0 (pc _ 3 [vi ((tn : Int) + 1)] * _) _ from h9).cast (show _ = (pc bA 3 [vi j] * (pc bN 3 [vi nv] * (pc bT 3 [vi tn]))) * (mkH (D :: ds) * (pc _ 3 [vi ((tn + 1 : Nat) : Int)] * (cxIt it bx g cap2 ps * (cxQ L h 4 csd frd * (rxB q b rs.length rcap s.times 4 * (rxL b rcap rs * (plB L2 * (pc bW 41 [vp q] * (pc bL 3 [vi leave] * (pc bR 4 [.bool false] * (emp))))))))))) by rw [show ((tn + 1 : Nat) : Int) = (tn : Int) + 1 by omega]; ac_rfl)).dropL
                · obtain rfl : j = s.cs.length := by omega
                  have hji : ¬ (s.cs.length : Int) < (rs.length : Int) := by have := HRL.out; omega
                  have hjd : decide ((s.cs.length : Int) < (rs.length : Int)) = false := decide_eq_false hji
                  have hjn : decide (s.cs.length < rs.length) = false := decide_eq_false (by have := HRL.out; omega)
                  have HSJ := Lib.hid hSj
                  clear hSj hcond
                  go_wp2_with fail
                  go_quiet (fail)
                  go_wp2_with fail
                  go_quiet (fail)
                  generalize hW5 : World.drewN _ _ = W5
                  have hS5 : Sat w0 (pc bA 3 [vi s.cs.length] * (pc bN 3 [vi nv] * (rxB q b rs.length rcap s.times 4 * (rxL b rcap rs * (plB L2 * (pc bW 41 [vp q] * (pc bL 3 [vi leave] * (pc bT 3 [vi tn] * (mkH (D :: ds) * (cxIt it bx g cap2 ps * (cxQ L h 4 csd frd * (pc bR 4 [.bool false] * (emp))))))))))))) W5 := by
                    rw [← hW5]
                    first | exact (HSJ.out.drewN _).drewN _ | exact HSJ.out.drewN _
                  have t0 := hS5.dropL.dropL.dropL.dropL.dropL.dropL.dropL.cell 0 rfl
                  have HS5 := Lib.hid hS5
                  clear hS5 hW5
                  go_wp2_with fail
                  have h9 := (HS5.out).alloc (.cells #[vi ((tn : Int) + 1)] 3)
                  refine HKK.out _ _ ⟨m - 1, by omega, tn + 1, D :: ds, _, _, _, _, _, _, _, _, _, _, _, _, _, _, _, _, _, _, _, _, _, _, _, _, _, _, _, _, _, _, _, _, _, _, _, _, _, _, _, _, _, _, _, _, _, _, _, _, _, _, _, _, _, _, _, _, _, _, _, _, _, _, _, _, _, _, _, _, _, _, _, _, _, _, _, _, _, _, _, _, _, _, _, _, _, _, _, _, _, _, _, _, _, _, _, _, _, _, _, _, _, _, _, _, _, _, _, _, _, _, _, _, _, _, _, _, _, _, _, _, _, _, _, _, _, _, _, _, _, _, _, _, _, _, _, _, _, _, _, _, _, _, _, rfl, by omega, ?_⟩
                  exact ((show Sat w0 (pc _ 3 [vi ((tn : Int) + 1)] * _) _ from h9).cast (show _ = (pc bA 3 [vi s.cs.length] * (pc bN 3 [vi nv] * (pc bT 3 [vi tn]))) * (mkH (D :: ds) * (pc _ 3 [vi ((tn + 1 : Nat) : Int)] * (cxIt it bx g cap2 ps * (cxQ L h 4 csd frd * (rxB q b rs.length rcap s.times 4 * (rxL b rcap rs * (plB L2 * (pc bW 41 [vp q] * (pc bL 3 [vi leave] * (pc bR 4 [.bool false] * (emp))))))))))) by rw [show ((tn + 1 : Nat) : Int) = (tn : Int) + 1 by omega]; ac_rfl)).dropL
            refine wpIn_range_stop (H' := cxIt it bx g cap2 ps * (ex fun at_ : Nat => given (at_ ≤ s.cs.length ∧ NoneC s.cs at_ s.cs.length) (pc bA 3 [vi at_] * (pc bN 3 [vi (cntC s.cs s.cs.length)] * (cxQ L h 4 csd frd * (rxB q b rs.length rcap s.times 4 * (rxL b rcap rs * (plB L2 * (pc bW 41 [vp q] * (pc bL 3 [vi leave] * (pc bT 3 [vi tn] * (mkH ds * (pc bR 4 [.bool false]))))))))))))) (S := fun c => given (c = (.exit 4)) (cxIt it bx g cap2 ps * (ex fun at_ : Nat => given (at_ ≤ s.cs.length ∧ tn = 0) (pc bA 3 [vi at_] * (pc bN 3 [vi leave] * (cxQ L h 4 csd frd * (rxB q b rs.length rcap s.times 4 * (rxL b rcap rs * (plB L2 * (pc bW 41 [vp q] * (pc bL 3 [vi leave] * (pc bT 3 [vi tn] * (mkH ds * (pc bR 4 [.bool false])))))))))))))) rfl (by omega) (gf := 53) (lb := #[vp it]) (by rw [ha0]; rfl) trivial (enters_of Try.func53 (by kernel_rfl) rfl) HH0.out ?call ?done ?stop
            case call =>
              intro fn ll DD R Rd W hfn hR hRd hS
              have hS1 : Sat w0 (cxIt it bx g cap2 ps * (pt ll R * (pt DD dmark * (ex fun at_ : Nat => given (at_ ≤ 0 ∧ NoneC s.cs at_ 0) (pc bA 3 [vi at_] * (pc bN 3 [vi (cntC s.cs 0)] * (cxQ L h 4 csd frd * (rxB q b rs.length rcap s.times 4 * (rxL b rcap rs * (plB L2 * (pc bW 41 [vp q] * (pc bL 3 [vi leave] * (pc bT 3 [vi tn] * (mkH ds * (pc bR 4 [.bool false]))))))))))))))) W := hS.cast (by ac_rfl)
              have hpl : ps.length = s.cs.length := HP.out.len
              have HIV : Hid (Inv N 4 (2 * k) s.cs s.free s.times) := hI
              clear hC hS HH0 hK0
              refine (cx_all2 (L := L) HP.out (by have := HRL.out; omega) (fun k c hk => ?lens) (fun k => pt ll R * (pt DD dmark * (ex fun at_ : Nat => given (at_ ≤ k ∧ NoneC s.cs at_ k) (pc bA 3 [vi at_] * (pc bN 3 [vi (cntC s.cs k)] * (cxQ L h 4 csd frd * (rxB q b rs.length rcap s.times 4 * (rxL b rcap rs * (plB L2 * (pc bW 41 [vp q] * (pc bL 3 [vi leave] * (pc bT 3 [vi tn] * (mkH ds * (pc bR 4 [.bool false])))))))))))))) (ex fun c => pt ll (Rd c) * (pt DD dmark * given (c = (.exit 4)) (ex fun at_ : Nat => given (at_ ≤ s.cs.length ∧ tn = 0) (pc bA 3 [vi at_] * (pc bN 3 [vi leave] * (cxQ L h 4 csd frd * (rxB q b rs.length rcap s.times 4 * (rxL b rcap rs * (plB L2 * (pc bW 41 [vp q] * (pc bL 3 [vi leave] * (pc bT 3 [vi tn] * (mkH ds * (pc bR 4 [.bool false])))))))))))))) ?rd ?skip ?round hS1).mono ?back
              case lens =>
                by_cases hct : c.there = true
                · have := (HIV.out.live k c hk hct).len
                  omega
                · rw [HIV.out.gone k c hk (by simpa using hct)]
                  simp
              case rd =>
                intro k W F3 h3 v l hi
                obtain ⟨at_, h4⟩ := (h3.cast (show _ = (ex fun at_ : Nat => given (at_ ≤ k ∧ NoneC s.cs at_ k) (pc bA 3 [vi at_] * (pc bN 3 [vi (cntC s.cs k)] * (cxQ L h 4 csd frd * (rxB q b rs.length rcap s.times 4 * (rxL b rcap rs * (plB L2 * (pc bW 41 [vp q] * (pc bL 3 [vi leave] * (pc bT 3 [vi tn] * (mkH ds * (pc bR 4 [.bool false])))))))))))) * (pt ll R * (pt DD dmark * F3)) by ac_rfl)).exE
                obtain ⟨_, h5⟩ := h4.givenE
                exact cxQ_rd (h5.cast (show _ = cxQ L h 4 csd frd * (pc bA 3 [vi at_] * (pc bN 3 [vi (cntC s.cs k)] * (rxB q b rs.length rcap s.times 4 * (rxL b rcap rs * (plB L2 * (pc bW 41 [vp q] * (pc bL 3 [vi leave] * (pc bT 3 [vi tn] * (mkH ds * (pc bR 4 [.bool false] * ((pt ll R * (pt DD dmark * F3))))))))))))) by ac_rfl)) hi
              case skip =>
                intro k c W F3 hk hct h3
                obtain ⟨at_, h4⟩ := (h3.cast (show _ = (ex fun at_ : Nat => given (at_ ≤ k ∧ NoneC s.cs at_ k) (pc bA 3 [vi at_] * (pc bN 3 [vi (cntC s.cs k)] * (cxQ L h 4 csd frd * (rxB q b rs.length rcap s.times 4 * (rxL b rcap rs * (plB L2 * (pc bW 41 [vp q] * (pc bL 3 [vi leave] * (pc bT 3 [vi tn] * (mkH ds * (pc bR 4 [.bool false])))))))))))) * (pt ll R * (pt DD dmark * F3)) by ac_rfl)).exE
                obtain ⟨⟨h6, h7⟩, h5⟩ := h4.givenE
                have hcn : cntC s.cs (k + 1) = cntC s.cs k := by rw [cntC_succ hk, hct]; simp
                have h8 := Sat.exI (f := fun at_ : Nat => given (at_ ≤ k + 1 ∧ NoneC s.cs at_ (k + 1)) (pc bA 3 [vi at_] * (pc bN 3 [vi (cntC s.cs (k + 1))] * (cxQ L h 4 csd frd * (rxB q b rs.length rcap s.times 4 * (rxL b rcap rs * (plB L2 * (pc bW 41 [vp q] * (pc bL 3 [vi leave] * (pc bT 3 [vi tn] * (mkH ds * (pc bR 4 [.bool false])))))))))))) (F := pt ll R * (pt DD dmark * F3)) at_ (Sat.givenI ⟨by omega, h7.next hk hct⟩ (by rw [hcn]; exact h5))
                exact h8.cast (by ac_rfl)
              case back =>
                rintro e W' ⟨he, b9, h3⟩
                refine ⟨he, ?_⟩
                cases b9 with
                | true =>
                  rw [if_pos rfl, hpl] at h3
                  exact .inl (h3.cast (by ac_rfl))
                | false =>
                  rw [if_neg (by simp)] at h3
                  obtain ⟨c, h4⟩ := (h3.cast (sep_comm _ _)).exE
                  obtain ⟨hc, h5⟩ := (h4.cast (show _ = given (c = (.exit 4)) (ex fun at_ : Nat => given (at_ ≤ s.cs.length ∧ tn = 0) (pc bA 3 [vi at_] * (pc bN 3 [vi leave] * (cxQ L h 4 csd frd * (rxB q b rs.length rcap s.times 4 * (rxL b rcap rs * (plB L2 * (pc bW 41 [vp q] * (pc bL 3 [vi leave] * (pc bT 3 [vi tn] * (mkH ds * (pc bR 4 [.bool false])))))))))))) * (pt ll (Rd c) * (pt DD dmark * cxIt it bx g cap2 ps)) by ac_rfl)).givenE
                  exact .inr ⟨c, (Sat.givenI (A := cxIt it bx g cap2 ps * (ex fun at_ : Nat => given (at_ ≤ s.cs.length ∧ tn = 0) (pc bA 3 [vi at_] * (pc bN 3 [vi leave] * (cxQ L h 4 csd frd * (rxB q b rs.length rcap s.times 4 * (rxL b rcap rs * (plB L2 * (pc bW 41 [vp q] * (pc bL 3 [vi leave] * (pc bT 3 [vi tn] * (mkH ds * (pc bR 4 [.bool false]))))))))))))) (F := pt ll (Rd c) * pt DD dmark) hc (h5.cast (by ac_rfl))).cast (by ac_rfl)⟩
              case round =>
                intro k2 c ao2 lc W2 F2 hc hct hS2
                obtain ⟨at_, hS3⟩ := (hS2.cast (show _ = (ex fun at_ : Nat => given (at_ ≤ k2 ∧ NoneC s.cs at_ k2) (pc bA 3 [vi at_] * (pc bN 3 [vi (cntC s.cs k2)] * (cxQ L h 4 csd frd * (rxB q b rs.length rcap s.times 4 * (rxL b rcap rs * (plB L2 * (pc bW 41 [vp q] * (pc bL 3 [vi leave] * (pc bT 3 [vi tn] * (mkH ds * (pc bR 4 [.bool false])))))))))))) * (fiS (.slice ao2 c.cx.l.length lc) c.cx.l * (pt ll R * (pt DD dmark * F2))) by ac_rfl)).exE
                obtain ⟨⟨hat, hno⟩, hS4⟩ := hS3.givenE
                have hk2 : k2 < s.cs.length := (List.getElem?_eq_some_iff.1 hc).1
                have HK2 := Lib.hid (show k2 + 1 ≤ s.cs.length from hk2)
                have hkr : k2 < rs.length := by have := HRL.out; omega
                have hk32 : (k2 : Int) ≤ 31 := by have := HRL.out; omega
                obtain ⟨a, ha⟩ : ∃ a, rs[k2]? = some a := ⟨rs[k2], List.getElem?_eq_getElem hkr⟩
                obtain ⟨e1, e2, em, _⟩ := HR.out.at_ k2 a c ha hc
                have HCN : Hid (cntC s.cs (k2 + 1) = cntC s.cs k2 + 1) := Lib.hid (by rw [cntC_succ hc, if_pos hct])
                have hcle := cntC_le s.cs k2
                have HNO : Hid (∀ j, at_ ≤ j → j < k2 → ∃ a', rs[j]? = some a' ∧ a'.there = false) := Lib.hid fun j h1 h2 => by
                  obtain ⟨c', hc'⟩ : ∃ c', s.cs[j]? = some c' := ⟨s.cs[j]'(by omega), List.getElem?_eq_getElem _⟩
                  obtain ⟨a', ha'⟩ : ∃ a', rs[j]? = some a' := ⟨rs[j]'(by omega), List.getElem?_eq_getElem _⟩
                  obtain ⟨_, f2, _, _⟩ := HR.out.at_ j a' c' ha' hc'
                  exact ⟨a', ha', f2.trans (hno j h1 h2 c' hc')⟩
                have hlv := HIV.out.live k2 c hc hct
                have HOK := Lib.hid hlv.ok
                have hl16 : c.cx.l.length ≤ 16 := by have := hlv.len; omega
                have hat2 : a.there = true := e2.trans hct
                clear hS1 hS2 hS3 hc hct hno hlv e2 hpl HA hI HIV
                obtain ⟨cg, cth, ⟨xb, xp, xl, xn⟩, cf⟩ := c
                obtain ⟨ag, ath, ⟨y0, y1, ya, yn, yc, y3⟩, af⟩ := a
                dsimp only at e1 hat2 em hS4 HOK hl16 ⊢
                obtain ⟨m1, m2, m3, m4⟩ := em
                dsimp only at m1 m2 m3 m4
                replace m1 := m1.symm
                replace m2 := m2.symm
                replace m4 := m4.symm
                subst e1 hat2 m1 m2 m4
                obtain ⟨_, _, hform⟩ := m3.form
                have hyn : yn = xl.length := by injection hform
                subst hyn
                have HIN := Lib.hid m3
                have HAT := Lib.hid ha
                clear m3 hform ha
                generalize cntC s.cs k2 = cn at *
                have h3 : Sat w0 (pt ll R * (pc bA 3 [vi at_] * (pc bN 3 [vi cn] * (fiS (.slice ao2 xl.length lc) xl * (pt DD dmark * (cxQ L h 4 csd frd * (rxB q b rs.length rcap s.times 4 * (rxL b rcap rs * (plB L2 * (pc bW 41 [vp q] * (pc bL 3 [vi leave] * (pc bT 3 [vi tn] * (mkH ds * (pc bR 4 [.bool false] * (F2))))))))))))))) W2 := hS4.cast (by ac_rfl)
                have H3 := Lib.hid h3
                have h4' := (h3.alloc (.cells #[vi k2, vu ag] 30)).alloc (elO (⟨xb, xp, ao2, xl.length, lc, xn⟩ : El))
                rw [size1] at h4'
                have h4'' : Sat w0 (pc (W2.heap.size + 1) 49 (elC (⟨xb, xp, ao2, xl.length, lc, xn⟩ : El)) * (pc W2.heap.size 30 [vi k2, vu ag] * (pt ll R * (pc bA 3 [vi at_] * (pc bN 3 [vi cn] * (fiS (.slice ao2 xl.length lc) xl * (pt DD dmark * (cxQ L h 4 csd frd * (rxB q b rs.length rcap s.times 4 * (rxL b rcap rs * (plB L2 * (pc bW 41 [vp q] * (pc bL 3 [vi leave] * (pc bT 3 [vi tn] * (mkH ds * (pc bR 4 [.bool false] * (F2))))))))))))))))) ((W2.alloc (.cells #[vi k2, vu ag] 30)).alloc (elO (⟨xb, xp, ao2, xl.length, lc, xn⟩ : El))) := h4'
                have H4 := Lib.hid (h4''.cast (show _ = pt ll R * (pc bA 3 [vi at_] * (pc bN 3 [vi cn] * (pc W2.heap.size 30 [vi k2, vu ag] * (pc (W2.heap.size + 1) 49 (elC (⟨xb, xp, ao2, xl.length, lc, xn⟩ : El)) * (fiS (.slice ao2 xl.length lc) xl * (pt DD dmark * (cxQ L h 4 csd frd * (rxB q b rs.length rcap s.times 4 * (rxL b rcap rs * (plB L2 * (pc bW 41 [vp q] * (pc bL 3 [vi leave] * (pc bT 3 [vi tn] * (mkH ds * (pc bR 4 [.bool false] * (F2)))))))))))))))) by ac_rfl))
                clear hS4 h3 h4' h4''
                have hY := yield_stop (P := Try.prog) (G := Fence.wide) (n := 7 - 1 - 1) (args := #[vr k2 ag, ev (⟨xb, xp, ao2, xl.length, lc, xn⟩ : El)]) (X' := pt DD dmark * ((ex fun at_ : Nat => given (at_ ≤ (k2 + 1) ∧ NoneC s.cs at_ (k2 + 1)) (pc bA 3 [vi at_] * (pc bN 3 [vi (cntC s.cs (k2 + 1))] * (cxQ L h 4 csd frd * (rxB q b rs.length rcap s.times 4 * (rxL b rcap rs * (plB L2 * (pc bW 41 [vp q] * (pc bL 3 [vi leave] * (pc bT 3 [vi tn] * (mkH ds * (pc bR 4 [.bool false])))))))))))) * F2)) (S := fun c => given (c = (.exit 4)) (pt DD dmark * ((ex fun at_ : Nat => given (at_ ≤ s.cs.length ∧ tn = 0) (pc bA 3 [vi at_] * (pc bN 3 [vi leave] * (cxQ L h 4 csd frd * (rxB q b rs.length rcap s.times 4 * (rxL b rcap rs * (plB L2 * (pc bW 41 [vp q] * (pc bL 3 [vi leave] * (pc bT 3 [vi tn] * (mkH ds * (pc bR 4 [.bool false])))))))))))) * F2)))
                  (A := fun a' W' => a' = { tmps := (((a0.tmps.setIfInBounds 68 (vr k2 ag)).setIfInBounds 69 (ev (⟨xb, xp, ao2, xl.length, lc, xn⟩ : El))).setIfInBounds 15 (.pointer (some ⟨W2.heap.size, 0, none⟩))).setIfInBounds 16 (.pointer (some ⟨W2.heap.size + 1, 0, none⟩)), defers := [] } ∧ W' = (W2.alloc (.cells #[vi k2, vu ag] 30)).alloc (elO (⟨xb, xp, ao2, xl.length, lc, xn⟩ : El))) hfn rfl hR hRd H3.out ?ha ?assign ?body
                case ha =>
                  rintro a' W' ⟨_, rfl⟩
                  exact H4.out.blk.1
                case assign =>
                  intro K hK
                  have HK := Lib.hid hK
                  clear hK hR hRd
                  subst ha0
                  gi_wp2
                  exact HK.out _ _ ⟨by simp, rfl⟩
                case body =>
                  rintro B a' W' ⟨rfl, rfl⟩
                  have h5 : Sat w0 (pt ll B * _) _ := H4.out.putObj (o' := B)
                  clear hR hRd H3 H4 HP HKK
                  subst ha0
                  simp only [List.setIfInBounds_toArray, List.set_cons_succ, List.set_cons_zero]
                  generalize (((W2.alloc (.cells #[vi k2, vu ag] 30)).alloc (elO (⟨xb, xp, ao2, xl.length, lc, xn⟩ : El))).putObj ll B) = W3 at *
                  generalize W2.heap.size = ba at *
                  have H5 : Hid (Sat w0 (pt ll B * (pc bA 3 [vi at_] * (pc bN 3 [vi cn] * (pc ba 30 [vi k2, vu ag] * (pc (ba + 1) 49 (elC (⟨xb, xp, ao2, xl.length, lc, xn⟩ : El)) * (fiS (.slice ao2 xl.length lc) xl * (pt DD dmark * (cxQ L h 4 csd frd * (rxB q b rs.length rcap s.times 4 * (rxL b rcap rs * (plB L2 * (pc bW 41 [vp q] * (pc bL 3 [vi leave] * (pc bT 3 [vi tn] * (mkH ds * (pc bR 4 [.bool false] * (F2))))))))))))))))) W3) := Lib.hid h5
                  clear h5
                  gi_wp2
                  gi_loopw [70] (fun _ wy => ∃ j : Nat, at_ ≤ j ∧ j ≤ k2 ∧ Sat w0 (pt ll B * (pc bA 3 [vi j] * (pc bN 3 [vi cn] * (pc ba 30 [vi k2, vu ag] * (pc (ba + 1) 49 (elC (⟨xb, xp, ao2, xl.length, lc, xn⟩ : El)) * (fiS (.slice ao2 xl.length lc) xl * (pt DD dmark * (cxQ L h 4 csd frd * (rxB q b rs.length rcap s.times 4 * (rxL b rcap rs * (plB L2 * (pc bW 41 [vp q] * (pc bL 3 [vi leave] * (pc bT 3 [vi tn] * (mkH ds * (pc bR 4 [.bool false] * (F2))))))))))))))))) wy) (fun _ wy => k2 - (intOf ((wy.cell? ⟨bA, 0, none⟩).getD undef)).toNat)
                  case atStart => exact ⟨at_, Nat.le_refl _, hat, H5.out⟩
                  case round =>
                    obtain ⟨j, hj1, hj2, hSj⟩ := hrel
                    clear H5
                    have a0 := hSj.dropL.cell 0 rfl
                    have q0 := hSj.dropL.dropL.dropL.dropL.dropL.dropL.dropL.dropL.cell 0 rfl
                    have w0' := hSj.dropL.dropL.dropL.dropL.dropL.dropL.dropL.dropL.dropL.dropL.dropL.cell 0 rfl
                    have hjr : j < rs.length := by omega
                    have hji : (j : Int) < (rs.length : Int) := by omega
                    have hj0 : (0 : Int) ≤ (j : Int) := by omega
                    have hd0 : decide ((0 : Int) ≤ (j : Int)) = true := decide_eq_true hj0
                    have hd1 : decide (j < rs.length) = true := decide_eq_true hjr
                    have hd2 : decide ((j : Int) < (rs.length : Int)) = true := decide_eq_true hji
                    by_cases hjk : j < k2
                    · obtain ⟨a', ha', hat'⟩ := HNO.out j hj1 hjk
                      have th := rx_at hSj.dropL.dropL.dropL.dropL.dropL.dropL.dropL.dropL.dropL (j := 1) ha' rfl
                      rw [hat'] at th
                      have HSJ := Lib.hid hSj
                      clear hSj ha' hat'
                      gi_wp2
                      refine quiet_regionR (by kernel_rfl) (by kernel_rfl) (by kernel_rfl) ?_
                      repeat (gi_big_quiet_step (fail))
                      refine wpQuietIn_nil ?_
                      intro _ hw'
                      obtain ⟨nq, hw''⟩ := hw'
                      subst hw''
                      have hst := (HSJ.out.drewN nq).pull2.store 0 (vi ((j : Int) + 1))
                      have af2 := (HSJ.out.drewN nq).pull2.free 0
                      have hc1 := hst.cell 0 rfl
                      have HST := Lib.hid hst.pull2
                      clear hst
                      gi_wp2
                      go_roundw
                      case rel => exact ⟨j + 1, by omega, by omega, HST.out.cast (by rw [show ((j + 1 : Nat) : Int) = (j : Int) + 1 by omega]; simp only [List.set_cons_zero])⟩
                      case measure => (simp [intOf, hc1, a0]; try omega)
                    · obtain rfl : k2 = j := by omega
                      have th := rx_at hSj.dropL.dropL.dropL.dropL.dropL.dropL.dropL.dropL.dropL (j := 1) HAT.out rfl
                      have HSJ := Lib.hid hSj
                      clear hSj
                      gi_wp2
                      refine quiet_regionR (by kernel_rfl) (by kernel_rfl) (by kernel_rfl) ?_
                      repeat (gi_big_quiet_step (fail))
                      refine wpQuietIn_nil ?_
                      intro _ hw'
                      obtain ⟨nq, hw''⟩ := hw'
                      subst hw''
                      generalize hW4 : wr.drewN nq = W4
                      have hS4 : Sat w0 (pt ll B * (pc bA 3 [vi k2] * (pc bN 3 [vi cn] * (pc ba 30 [vi k2, vu ag] * (pc (ba + 1) 49 (elC (⟨xb, xp, ao2, xl.length, lc, xn⟩ : El)) * (fiS (.slice ao2 xl.length lc) xl * (pt DD dmark * (cxQ L h 4 csd frd * (rxB q b rs.length rcap s.times 4 * (rxL b rcap rs * (plB L2 * (pc bW 41 [vp q] * (pc bL 3 [vi leave] * (pc bT 3 [vi tn] * (mkH ds * (pc bR 4 [.bool false] * (F2))))))))))))))))) W4 := by rw [← hW4]; exact HSJ.out.drewN nq
                      clear hW4 HSJ a0 q0 w0' th
                      have r0 := hS4.dropL.dropL.dropL.cell 0 rfl
                      have r1 := hS4.dropL.dropL.dropL.cell 1 rfl
                      have x0 := hS4.dropL.dropL.dropL.dropL.cell 0 rfl
                      have x1 := hS4.dropL.dropL.dropL.dropL.cell 1 rfl
                      have x2 := hS4.dropL.dropL.dropL.dropL.cell 2 rfl
                      have x3 := hS4.dropL.dropL.dropL.dropL.cell 3 rfl
                      have a0 := hS4.dropL.cell 0 rfl
                      have q0 := hS4.dropL.dropL.dropL.dropL.dropL.dropL.dropL.dropL.cell 0 rfl
                      have w0' := hS4.dropL.dropL.dropL.dropL.dropL.dropL.dropL.dropL.dropL.dropL.dropL.cell 0 rfl
                      have g0 := rx_at hS4.dropL.dropL.dropL.dropL.dropL.dropL.dropL.dropL.dropL (j := 0) HAT.out rfl
                      rw [Nat.add_zero] at g0
                      have g2 := rx_at hS4.dropL.dropL.dropL.dropL.dropL.dropL.dropL.dropL.dropL (j := 2) HAT.out rfl
                      have g3 := rx_at hS4.dropL.dropL.dropL.dropL.dropL.dropL.dropL.dropL.dropL (j := 3) HAT.out rfl
                      have g4 := rx_at hS4.dropL.dropL.dropL.dropL.dropL.dropL.dropL.dropL.dropL (j := 4) HAT.out rfl
                      have g5 := rx_at hS4.dropL.dropL.dropL.dropL.dropL.dropL.dropL.dropL.dropL (j := 5) HAT.out rfl
                      have hkn : ((k2 : Int) == (rs.length : Int)) = false := by
                        rw [beq_eq_false_iff_ne]
                        omega
                      have HW4 := Lib.hid hS4
                      have HRD1 := Lib.hid (Sat.fiR (Sat.drew (hS4.dropL.dropL.dropL.dropL.dropL)) HOK.out)
                      have HRD2 := Lib.hid (Sat.plRd (Sat.drew (hS4.dropL.dropL.dropL.dropL.dropL.dropL.dropL.dropL.dropL.dropL)) HIN.out)
                      clear hS4
                      gi_wp2
                      refine wpIn_quiet_tailR 31 (by kernel_rfl) (by kernel_rfl) (by kernel_rfl) ?_
                      simp only [List.take_succ_cons, List.take_zero, List.drop_succ_cons, List.drop_zero]
                      repeat (go_big_quiet_step (fail))
                      refine wpQuiet_nil ?_
                      clear r0 r1 x0 x1 x2 x3 a0 q0 w0' g0 g2 g3 g4 g5
                      gi_wp2_with (refine ⟨trivial, ?_⟩; gi_at_call 23; (with_reducible refine ((callsIn_wide.2 (same_ok HRD1.out HRD2.out (by omega))).inRound ll).mono ?_); rintro e w6 ⟨rfl, hb⟩; have H6 := Lib.hid (Sat.after HW4.out.drew hb); clear hb)
                      gi_loopw [17] (fun ix wy => ∃ (jj : Nat) (l' : List Rf), jj ≤ xl.length ∧ l'.length = xl.length ∧ ix = vi jj ∧ Sat w0 (slo 61 2 (.slice ao2 xl.length lc) xl.length (rflat l') * (pt ll B * (pc bA 3 [vi k2] * (pc bN 3 [vi cn] * (pc ba 30 [vi k2, vu ag] * (pc (ba + 1) 49 (elC (⟨xb, xp, ao2, xl.length, lc, xn⟩ : El)) * (pt DD dmark * (cxQ L h 4 csd frd * (rxB q b rs.length rcap s.times 4 * (rxL b rcap rs * (plB L2 * (pc bW 41 [vp q] * (pc bL 3 [vi leave] * (pc bT 3 [vi tn] * (mkH ds * (pc bR 4 [.bool false] * (F2))))))))))))))))) wy) (fun ix _ => xl.length - (intOf ix).toNat)
                      case atStart => exact ⟨0, xl, Nat.zero_le _, rfl, rfl, H6.out.cast (by unfold fiS; ac_rfl)⟩
                      case round =>
                        obtain ⟨jj, l', hj, hl', rfl, hS7⟩ := hrel
                        clear H6 HRD1 HRD2 HW4
                        have x2 := hS7.dropL.dropL.dropL.dropL.dropL.cell 2 rfl
                        by_cases hjl : jj < xl.length
                        · have hji2 : (jj : Int) < (xl.length : Int) := by omega
                          obtain ⟨r, hr⟩ : ∃ r, l'[jj]? = some r := ⟨l'[jj]'(by omega), List.getElem?_eq_getElem _⟩
                          obtain ⟨gb, so, cap5, hv5⟩ := hS7.sloPos (by omega)
                          cases hv5
                          have q0 : wr.cell? ⟨gb, so + jj * 2 + 1, none⟩ = some (vu r.at_) := by
                            rw [Nat.add_assoc]
                            exact hS7.sloCell (jj * 2 + 1) (flat_get Rf.len hr rfl)
                          have f0 := hS7.sloFree (so + jj * 2 + 1)
                          have hst := hS7.sloStore (jj * 2 + 1) (by omega) (vu (IntKind.u64.wrap (r.at_ + 1)))
                          rw [flat_set Rf.len l' jj 1 r ⟨r.amount, IntKind.u64.wrap (r.at_ + 1)⟩ _ hr (by omega) rfl, ← Nat.add_assoc so (jj * 2) 1] at hst
                          have HST := Lib.hid hst
                          clear hst hS7
                          gi_wp2
                          go_roundw
                          case rel => exact ⟨jj + 1, _, by omega, by rw [List.length_set]; exact hl', by go_num, HST.out⟩
                          case measure => (simp [intOf]; try omega)
                        · obtain rfl : jj = xl.length := by omega
                          have hji2 : ¬ (xl.length : Int) < (xl.length : Int) := by omega
                          have h30 := (hS7).cast (show _ = pc bA 3 [vi k2] * (pt ll B * (pc bN 3 [vi cn] * (pc ba 30 [vi k2, vu ag] * (pc (ba + 1) 49 (elC (⟨xb, xp, ao2, xl.length, lc, xn⟩ : El)) * ((slo 61 2 (.slice ao2 xl.length lc) xl.length (rflat l')) * (pt DD dmark * (cxQ L h 4 csd frd * (rxB q b rs.length rcap s.times 4 * (rxL b rcap rs * (plB L2 * (pc bW 41 [vp q] * (pc bL 3 [vi leave] * (pc bT 3 [vi tn] * (mkH ds * (pc bR 4 [.bool false] * (F2)))))))))))))))) by ac_rfl)
                          have at0 := h30.cell 0 rfl
                          have atf := h30.free 0
                          have h31 := (h30.store 0 (vi ((k2 : Int) + 1))).cast (show _ = pc bN 3 [vi cn] * (pc bA 3 [vi ((k2 : Int) + 1)] * (pt ll B * (pc ba 30 [vi k2, vu ag] * (pc (ba + 1) 49 (elC (⟨xb, xp, ao2, xl.length, lc, xn⟩ : El)) * ((slo 61 2 (.slice ao2 xl.length lc) xl.length (rflat l')) * (pt DD dmark * (cxQ L h 4 csd frd * (rxB q b rs.length rcap s.times 4 * (rxL b rcap rs * (plB L2 * (pc bW 41 [vp q] * (pc bL 3 [vi leave] * (pc bT 3 [vi tn] * (mkH ds * (pc bR 4 [.bool false] * (F2)))))))))))))))) by simp only [List.set_cons_zero]; ac_rfl)
                          have nt0 := h31.cell 0 rfl
                          have ntf := h31.free 0
                          have h32 := h31.store 0 (vi ((cn : Int) + 1))
                          have nt1 := h32.cell 0 rfl
                          have tt1 := (h32.cast (show _ = pc bT 3 [vi tn] * (pc bL 3 [vi leave] * (pc bN 3 [vi ((cn : Int) + 1)] * (pc bA 3 [vi ((k2 : Int) + 1)] * (pt ll B * (pc ba 30 [vi k2, vu ag] * (pc (ba + 1) 49 (elC (⟨xb, xp, ao2, xl.length, lc, xn⟩ : El)) * ((slo 61 2 (.slice ao2 xl.length lc) xl.length (rflat l')) * (pt DD dmark * (cxQ L h 4 csd frd * (rxB q b rs.length rcap s.times 4 * (rxL b rcap rs * (plB L2 * (pc bW 41 [vp q] * (mkH ds * (pc bR 4 [.bool false] * (F2)))))))))))))))) by simp only [List.set_cons_zero]; ac_rfl)).cell 0 rfl
                          have ll1 := (h32.cast (show _ = pc bL 3 [vi leave] * (pc bT 3 [vi tn] * (pc bN 3 [vi ((cn : Int) + 1)] * (pc bA 3 [vi ((k2 : Int) + 1)] * (pt ll B * (pc ba 30 [vi k2, vu ag] * (pc (ba + 1) 49 (elC (⟨xb, xp, ao2, xl.length, lc, xn⟩ : El)) * ((slo 61 2 (.slice ao2 xl.length lc) xl.length (rflat l')) * (pt DD dmark * (cxQ L h 4 csd frd * (rxB q b rs.length rcap s.times 4 * (rxL b rcap rs * (plB L2 * (pc bW 41 [vp q] * (mkH ds * (pc bR 4 [.bool false] * (F2)))))))))))))))) by simp only [List.set_cons_zero]; ac_rfl)).cell 0 rfl
                          have H32 := Lib.hid (h32.cast (show _ = (slo 61 2 (.slice ao2 xl.length lc) xl.length (rflat l')) * (pc (ba + 1) 49 (elC (⟨xb, xp, ao2, xl.length, lc, xn⟩ : El)) * (pc ba 30 [vi k2, vu ag] * (pc bA 3 [vi ((k2 : Int) + 1)] * (pc bN 3 [vi ((cn : Int) + 1)] * (pt ll B * (pt DD dmark * (cxQ L h 4 csd frd * (rxB q b rs.length rcap s.times 4 * (rxL b rcap rs * (plB L2 * (pc bW 41 [vp q] * (pc bL 3 [vi leave] * (pc bT 3 [vi tn] * (mkH ds * (pc bR 4 [.bool false] * (F2)))))))))))))))) by simp only [List.set_cons_zero]; ac_rfl)).dropL.dropL.dropL
                          clear h30 h31 h32
                          clear hS7
                          by_cases htn : tn = 0
                          · have HTN := Lib.hid htn
                            have htb : ((tn : Int) == 0) = true := by simp [htn]
                            clear htn
                            by_cases hlv2 : (cn : Int) + 1 = leave
                            · have HLV := Lib.hid hlv2
                              have hlb : (((cn : Int) + 1) == leave) = true := by simp [hlv2]
                              clear hlv2
                              gi_wp2
                              have h40 : Sat w0 (pc bA 3 [vi ((k2 + 1 : Nat) : Int)] * (pc bN 3 [vi leave] * (pt ll B * (pt DD dmark * (cxQ L h 4 csd frd * (rxB q b rs.length rcap s.times 4 * (rxL b rcap rs * (plB L2 * (pc bW 41 [vp q] * (pc bL 3 [vi leave] * (pc bT 3 [vi tn] * (mkH ds * (pc bR 4 [.bool false] * (F2)))))))))))))) _ := H32.out.cast (by rw [show ((k2 + 1 : Nat) : Int) = (k2 : Int) + 1 by omega, HLV.out])
                              have h41 := Sat.exI (f := fun at_ : Nat => given (at_ ≤ s.cs.length ∧ tn = 0) (pc bA 3 [vi at_] * (pc bN 3 [vi leave] * (cxQ L h 4 csd frd * (rxB q b rs.length rcap s.times 4 * (rxL b rcap rs * (plB L2 * (pc bW 41 [vp q] * (pc bL 3 [vi leave] * (pc bT 3 [vi tn] * (mkH ds * (pc bR 4 [.bool false])))))))))))) (F := pt ll B * (pt DD dmark * F2)) (k2 + 1) (Sat.givenI ⟨HK2.out, HTN.out⟩ (h40.cast (by ac_rfl)))
                              exact (Sat.givenI (p := Code.exit 4 = .exit 4) (A := pt DD dmark * ((ex fun at_ : Nat => given (at_ ≤ s.cs.length ∧ tn = 0) (pc bA 3 [vi at_] * (pc bN 3 [vi leave] * (cxQ L h 4 csd frd * (rxB q b rs.length rcap s.times 4 * (rxL b rcap rs * (plB L2 * (pc bW 41 [vp q] * (pc bL 3 [vi leave] * (pc bT 3 [vi tn] * (mkH ds * (pc bR 4 [.bool false])))))))))))) * F2)) (F := pt ll B) rfl (h41.cast (by ac_rfl))).cast (sep_comm _ _)
                            · have hlb : (((cn : Int) + 1) == leave) = false := by simp [hlv2]
                              clear hlv2
                              gi_wp2
                              have h40 : Sat w0 (pc bA 3 [vi ((k2 + 1 : Nat) : Int)] * (pc bN 3 [vi ((cn + 1 : Nat) : Int)] * (pt ll B * (pt DD dmark * (cxQ L h 4 csd frd * (rxB q b rs.length rcap s.times 4 * (rxL b rcap rs * (plB L2 * (pc bW 41 [vp q] * (pc bL 3 [vi leave] * (pc bT 3 [vi tn] * (mkH ds * (pc bR 4 [.bool false] * (F2)))))))))))))) _ := H32.out.cast (by rw [show ((k2 + 1 : Nat) : Int) = (k2 : Int) + 1 by omega, show ((cn + 1 : Nat) : Int) = (cn : Int) + 1 by omega])
                              have h41 := Sat.exI (f := fun at_ : Nat => given (at_ ≤ k2 + 1 ∧ NoneC s.cs at_ (k2 + 1)) (pc bA 3 [vi at_] * (pc bN 3 [vi ((cn + 1 : Nat) : Int)] * (cxQ L h 4 csd frd * (rxB q b rs.length rcap s.times 4 * (rxL b rcap rs * (plB L2 * (pc bW 41 [vp q] * (pc bL 3 [vi leave] * (pc bT 3 [vi tn] * (mkH ds * (pc bR 4 [.bool false])))))))))))) (F := pt ll B * (pt DD dmark * F2)) (k2 + 1) (Sat.givenI ⟨Nat.le_refl _, NoneC.refl _ _⟩ (h40.cast (by ac_rfl)))
                              rw [← HCN.out] at h41
                              exact h41.cast (by ac_rfl)
                          · have htb : ((tn : Int) == 0) = false := by
                              rw [beq_eq_false_iff_ne]
                              omega
                            clear htn
                            gi_wp2
                            have h40 : Sat w0 (pc bA 3 [vi ((k2 + 1 : Nat) : Int)] * (pc bN 3 [vi ((cn + 1 : Nat) : Int)] * (pt ll B * (pt DD dmark * (cxQ L h 4 csd frd * (rxB q b rs.length rcap s.times 4 * (rxL b rcap rs * (plB L2 * (pc bW 41 [vp q] * (pc bL 3 [vi leave] * (pc bT 3 [vi tn] * (mkH ds * (pc bR 4 [.bool false] * (F2)))))))))))))) _ := H32.out.cast (by rw [show ((k2 + 1 : Nat) : Int) = (k2 : Int) + 1 by omega, show ((cn + 1 : Nat) : Int) = (cn : Int) + 1 by omega])
                            have h41 := Sat.exI (f := fun at_ : Nat => given (at_ ≤ k2 + 1 ∧ NoneC s.cs at_ (k2 + 1)) (pc bA 3 [vi at_] * (pc bN 3 [vi ((cn + 1 : Nat) : Int)] * (cxQ L h 4 csd frd * (rxB q b rs.length rcap s.times 4 * (rxL b rcap rs * (plB L2 * (pc bW 41 [vp q] * (pc bL 3 [vi leave] * (pc bT 3 [vi tn] * (mkH ds * (pc bR 4 [.bool false])))))))))))) (F := pt ll B * (pt DD dmark * F2)) (k2 + 1) (Sat.givenI ⟨Nat.le_refl _, NoneC.refl _ _⟩ (h40.cast (by ac_rfl)))
                            rw [← HCN.out] at h41
                            exact h41.cast (by ac_rfl)
                refine hY.mono ?_
                rintro e W' (⟨rfl, h9⟩ | ⟨c, rfl, h9⟩)
                · exact ⟨true, rfl, by rw [if_pos rfl]; exact h9.cast (by ac_rfl)⟩
                · refine ⟨false, rfl, ?_⟩
                  rw [if_neg (by simp)]
                  obtain ⟨hc, h5⟩ := (h9.cast (sep_comm _ _)).givenE
                  refine Sat.exI (F := F2) c ?_
                  exact (Sat.givenI (A := (ex fun at_ : Nat => given (at_ ≤ s.cs.length ∧ tn = 0) (pc bA 3 [vi at_] * (pc bN 3 [vi leave] * (cxQ L h 4 csd frd * (rxB q b rs.length rcap s.times 4 * (rxL b rcap rs * (plB L2 * (pc bW 41 [vp q] * (pc bL 3 [vi leave] * (pc bT 3 [vi tn] * (mkH ds * (pc bR 4 [.bool false]))))))))))))) (F := pt ll (Rd c) * (pt DD dmark * F2)) hc (h5.cast (by ac_rfl))).cast (by ac_rfl)
            case done =>
              intro D W hS
              obtain ⟨at_, hS2⟩ := (hS.cast (show _ = (ex fun at_ : Nat => given (at_ ≤ s.cs.length ∧ NoneC s.cs at_ s.cs.length) (pc bA 3 [vi at_] * (pc bN 3 [vi (cntC s.cs s.cs.length)] * (cxQ L h 4 csd frd * (rxB q b rs.length rcap s.times 4 * (rxL b rcap rs * (plB L2 * (pc bW 41 [vp q] * (pc bL 3 [vi leave] * (pc bT 3 [vi tn] * (mkH ds * (pc bR 4 [.bool false])))))))))))) * (pt D dmark * cxIt it bx g cap2 ps) by ac_rfl)).exE
              obtain ⟨⟨hat, hno⟩, hS3⟩ := hS2.givenE
              exact hC D at_ _ W hat (.inl hno) (hS3.cast (by ac_rfl))
            case stop =>
              intro c D W hS
              obtain ⟨hc, hS1⟩ := (hS.cast (sep_comm _ _)).givenE
              obtain ⟨at_, hS2⟩ := (hS1.cast (show _ = (ex fun at_ : Nat => given (at_ ≤ s.cs.length ∧ tn = 0) (pc bA 3 [vi at_] * (pc bN 3 [vi leave] * (cxQ L h 4 csd frd * (rxB q b rs.length rcap s.times 4 * (rxL b rcap rs * (plB L2 * (pc bW 41 [vp q] * (pc bL 3 [vi leave] * (pc bT 3 [vi tn] * (mkH ds * (pc bR 4 [.bool false])))))))))))) * (pt D dmark * cxIt it bx g cap2 ps) by ac_rfl)).exE
              obtain ⟨⟨hat, htn⟩, hS3⟩ := hS2.givenE
              subst hc
              refine wpIn_exit ?_
              exact hC D at_ _ W hat (.inr ⟨htn, rfl⟩) (hS3.cast (by ac_rfl))
          · have hti : ¬ (tn : Int) < 2 := by omega
            have HSK := Lib.hid hS
            clear hS
            go_wp2_with (go_at_call 9; refine (known08 _).mono ?_; rintro e w2 ⟨rfl, hb⟩; have h2 := (Sat.after HSK.out hb).cast (show _ = pc bR 4 [.bool false] * (mkH ds * (pc bT 3 [vi tn] * (cxIt it bx g cap2 ps * (cxQ L h 4 csd frd * (rxB q b rs.length rcap s.times 4 * (rxL b rcap rs * (plB L2 * (pc bW 41 [vp q] * (pc bL 3 [vi leave] * (emp)))))))))) by ac_rfl); have z0 := h2.cell 0 rfl; have zf := h2.free 0; have K2 := Lib.hid (h2.store 0 (.bool true)); clear hb h2)
            exact leaves_marks ds _ (K2.out.cast (show _ = mkH ds * (pc bR 4 [.bool true] * (pc bT 3 [vi tn] * (cxIt it bx g cap2 ps * (cxQ L h 4 csd frd * (rxB q b rs.length rcap s.times 4 * (rxL b rcap rs * (plB L2 * (pc bW 41 [vp q] * (pc bL 3 [vi leave] * (emp)))))))))) by simp only [List.set_cons_zero]; ac_rfl)) (fun w' h' => by
              have hc := h'.cell 0 rfl
              exact ⟨.bool true, by simp [results, Try.f5, go_sem, hc], rfl, h'.below⟩)
end Go.Proofs.Ytknodagcmachiaa.Cn
