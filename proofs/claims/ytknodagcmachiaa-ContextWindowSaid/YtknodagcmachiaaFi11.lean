/-
  The law of layer 7: known; arguments; the walk of RefillCharges. No statement is proved here.
-/
import Derived.Test.YtknodagcmachiaaFi10
import Derived.Test.YtknodagcmachiaaFill3
import Derived.Test.YtknodagcmachiaaArgs2
namespace Go.Proofs.Ytknodagcmachiaa.Fi
open Go.RowKit
set_option linter.unusedVariables false

def TrueBelow (w0 : World) (e : Ending) (w' : World) : Prop := e = .returned (.bool true) ∧ Below w0.heap.size w0 w'
theorem Sat.after {w0 w W : World} {F : Hp} (h : Sat w0 F w) (hb : Below w.heap.size w W) : Sat w0 F W :=
  (h.chain (⟨hb, [], rfl, by simp, by simp⟩ : Sat w emp W)).cast (emp_sep _)
theorem Sat.link {w0 w w' : World} {F A : Hp} (h : Sat w0 F w) (k : Sat w (A * emp) w') : Sat w0 (A * F) w' := (h.chain k).cast (by rw [sep_emp])
theorem same_ (l : List Rf) (v u : Value) (w : World) (h : RdF w v l) (h' : RdF w u l) (hl : l.length ≤ 1000000) :
    Calls Try.prog 57 #[v, u] w fun e w' => e = .returned (.bool true) ∧ Below w.heap.size w w' :=
  (rsame_yes l v u w h h' hl).mono fun e w' ⟨h1, k, h2⟩ => ⟨h1, by rw [h2]; exact drewB (Below.refl _ _) k⟩
theorem RdF.nil (w : World) : RdF w (.slice none 0 0) [] := ⟨Rd.nil w 2, fun r hr => by simp at hr⟩
theorem wf_U64 {x : Int} (h : (Lit.int .u64 x).wf = true) : U64 x := by
  simp only [Lit.wf, Bool.and_eq_true, decide_eq_true_eq] at h
  have h1 : IntKind.u64.min = 0 := rfl
  have h2 : IntKind.u64.max = 18446744073709551615 := rfl
  rw [h1, h2] at h
  exact h
/-- A list that came in. -/
theorem arg_fi {w0 : World} {v : Value} {n : Nat} {A : Nat → Int} (h : ArgK w0 2 (fun _ => .u64) v n A) : ∃ l : List Rf, l.length = n ∧ RdF w0 v l := by
  refine ⟨(List.range n).map fun i => ⟨A (i * 2), A (i * 2 + 1)⟩, by simp, ⟨?_, ?_⟩, ?_⟩
  · rw [rflat_len]
  · have hlen : ((List.range n).map fun i => (⟨A (i * 2), A (i * 2 + 1)⟩ : Rf)).length = n := by simp
    rw [hlen]
    rcases h.form with h0 | ⟨b, off, cap, hv, hb, hc⟩
    · exact .inl h0
    · refine .inr ⟨b, off, cap, hv, fun j u hj => ?_⟩
      have hjl : j < n * 2 := by
        have := (List.getElem?_eq_some_iff.1 hj).1
        rw [rflat_len, hlen] at this
        exact this
      have e : j = j / 2 * 2 + j % 2 := by omega
      have hi : ((List.range n).map fun i => (⟨A (i * 2), A (i * 2 + 1)⟩ : Rf))[j / 2]? = some ⟨A (j / 2 * 2), A (j / 2 * 2 + 1)⟩ := by
        rw [List.getElem?_map, List.getElem?_range (by omega)]
        rfl
      rw [hc j hjl]
      rcases (show j % 2 = 0 ∨ j % 2 = 1 by omega) with h2 | h2
      · have := flat_get (j := 0) Rf.len hi rfl
        rw [show j / 2 * 2 + 0 = j by omega] at this
        rw [show rflat ((List.range n).map fun i => (⟨A (i * 2), A (i * 2 + 1)⟩ : Rf)) = List.flatMap Rf.cells ((List.range n).map fun i => (⟨A (i * 2), A (i * 2 + 1)⟩ : Rf)) from rfl, this] at hj
        refine Eq.trans ?_ hj
        show some (vu (A j)) = some (vu (A (j / 2 * 2)))
        congr 3
        all_goals omega
      · have := flat_get (j := 1) Rf.len hi rfl
        rw [show j / 2 * 2 + 1 = j by omega] at this
        rw [show rflat ((List.range n).map fun i => (⟨A (i * 2), A (i * 2 + 1)⟩ : Rf)) = List.flatMap Rf.cells ((List.range n).map fun i => (⟨A (i * 2), A (i * 2 + 1)⟩ : Rf)) from rfl, this] at hj
        refine Eq.trans ?_ hj
        rfl
  · intro r hr
    obtain ⟨i, hi, rfl⟩ := List.mem_map.1 hr
    have hi : i < n := by simpa using hi
    exact ⟨wf_U64 (h.wf (i * 2) (by omega)), wf_U64 (h.wf (i * 2 + 1) (by omega))⟩

theorem ok2 (a b c d : Int) (ha : U64 a) (hb : U64 b) (hc : U64 c) (hd : U64 d) : OkL [⟨a, b⟩, ⟨c, d⟩] := by
  intro r hr
  simp at hr
  rcases hr with rfl | rfl
  · exact ⟨ha, hb⟩
  · exact ⟨hc, hd⟩
theorem ok1 (a b : Int) (ha : U64 a) (hb : U64 b) : OkL [⟨a, b⟩] := by
  intro r hr
  simp at hr
  subst hr
  exact ⟨ha, hb⟩
theorem may1 (a b : Int) (ha : 1 ≤ a) (ha2 : a ≤ 18446744073709551615) : MayL [⟨a, b⟩] := by
  refine ⟨?_, ?_, by simp [tot]; omega⟩
  · intro k r hr
    have := (List.getElem?_eq_some_iff.1 hr).1
    simp at this
    subst this
    simp at hr
    subst hr
    exact ha
  · intro k r s hr hs
    have := (List.getElem?_eq_some_iff.1 hs).1
    simp at this
theorem may2 (a b c d : Int) (ha : 1 ≤ a) (hc : 1 ≤ c) (hbd : b < d) (hs : a + c ≤ 18446744073709551615) : MayL [⟨a, b⟩, ⟨c, d⟩] :=
  may_cons ha (may1 c d hc (by omega)) (fun s hs => by simp at hs; subst hs; exact hbd) (by simp [tot]; omega)
/-- A literal of two. -/
theorem lit2 (w : World) (a b c d : Int) (hok : OkL [⟨a, b⟩, ⟨c, d⟩]) : RdF (w.alloc (.cells #[vu a, vu b, vu c, vu d] 61)) (.slice (some ⟨w.heap.size, 0, none⟩) 2 2) [⟨a, b⟩, ⟨c, d⟩] := by
  refine ⟨⟨rfl, .inr ⟨_, _, _, rfl, fun j u hj => ?_⟩⟩, hok⟩
  rcases j with _ | _ | _ | _ | j
  all_goals simp [rflat, Rf.cells] at hj
  all_goals (try (subst hj; simp))

theorem th_known1 : ChOk [⟨5, 0⟩] 3 10 2 := ⟨may1 5 0 (by omega) (by omega), by omega, by simp, by omega, by omega, by decide⟩
theorem th_known2 : ChOk [⟨4, 0⟩, ⟨1, 13⟩] 4 10 2 := ⟨may2 4 0 1 13 (by omega) (by omega) (by omega) (by omega), by omega, by simp, by omega, by omega, by decide⟩
theorem ch_known1 : chargeL [⟨5, 0⟩] 3 10 2 = [⟨4, 0⟩, ⟨1, 13⟩] := by rfl
theorem ch_known2 : chargeL [⟨4, 0⟩, ⟨1, 13⟩] 4 10 2 = [⟨3, 0⟩, ⟨2, 14⟩] := by rfl
theorem u64_lit (n : Nat) (h : n ≤ 1000000) : U64 (n : Int) := ⟨by omega, by omega⟩

theorem kn_ch1 {v : Value} {w0 w : World} {F : Hp} (h : Sat w0 (fiS v [⟨5, 0⟩] * F) w) :
    Calls Try.prog 40 #[v, vu 3, vu 10, vi 2] w fun e w' => ∃ v', e = .returned (.tuple #[v', .bool true]) ∧ Sat w (fiS v' [⟨4, 0⟩, ⟨1, 13⟩] * emp) w' := by
  have := charge_yes (Sat.fiR h (ok1 5 0 ⟨by omega, by omega⟩ ⟨by omega, by omega⟩)) (Sat.room h) (by simp) ⟨by omega, by omega⟩ ⟨by omega, by omega⟩ th_known1
  rw [ch_known1] at this
  exact this
theorem kn_ch2 {v : Value} {w0 w : World} {F : Hp} (h : Sat w0 (fiS v [⟨4, 0⟩, ⟨1, 13⟩] * F) w) :
    Calls Try.prog 40 #[v, vu 4, vu 10, vi 2] w fun e w' => ∃ v', e = .returned (.tuple #[v', .bool true]) ∧ Sat w (fiS v' [⟨3, 0⟩, ⟨2, 14⟩] * emp) w' := by
  have := charge_yes (Sat.fiR h (ok2 4 0 1 13 ⟨by omega, by omega⟩ ⟨by omega, by omega⟩ ⟨by omega, by omega⟩ ⟨by omega, by omega⟩)) (Sat.room h) (by simp) ⟨by omega, by omega⟩ ⟨by omega, by omega⟩ th_known2
  rw [ch_known2] at this
  exact this
theorem kn_same1 {v : Value} {w0 w : World} {F : Hp} (h : Sat w0 (fiS v [⟨4, 0⟩, ⟨1, 13⟩] * F) w) :
    Calls Try.prog 57 #[v, .slice (some ⟨w.heap.size, 0, none⟩) 2 2] (w.alloc (.cells #[vu 4, vu 0, vu 1, vu 13] 61)) fun e w' => e = .returned (.bool true) ∧ Below (w.alloc (.cells #[vu 4, vu 0, vu 1, vu 13] 61)).heap.size (w.alloc (.cells #[vu 4, vu 0, vu 1, vu 13] 61)) w' := by
  have hok := ok2 4 0 1 13 ⟨by omega, by omega⟩ ⟨by omega, by omega⟩ ⟨by omega, by omega⟩ ⟨by omega, by omega⟩
  exact same_ _ _ _ _ (Sat.fiR (h.alloc' _) hok) (lit2 w 4 0 1 13 hok) (by simp)
theorem kn_same2 {v : Value} {w0 w : World} {F : Hp} (h : Sat w0 (fiS v [⟨3, 0⟩, ⟨2, 14⟩] * F) w) :
    Calls Try.prog 57 #[v, .slice (some ⟨w.heap.size, 0, none⟩) 2 2] (w.alloc (.cells #[vu 3, vu 0, vu 2, vu 14] 61)) fun e w' => e = .returned (.bool true) ∧ Below (w.alloc (.cells #[vu 3, vu 0, vu 2, vu 14] 61)).heap.size (w.alloc (.cells #[vu 3, vu 0, vu 2, vu 14] 61)) w' := by
  have hok := ok2 3 0 2 14 ⟨by omega, by omega⟩ ⟨by omega, by omega⟩ ⟨by omega, by omega⟩ ⟨by omega, by omega⟩
  exact same_ _ _ _ _ (Sat.fiR (h.alloc' _) hok) (lit2 w 3 0 2 14 hok) (by simp)

end Go.Proofs.Ytknodagcmachiaa.Fi
