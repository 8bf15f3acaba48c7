/-
  'helmsman/helmsmanlaw08.ContextAll' returns true for every input, and leaves each argument as it was: no condition of its own. (The frame: the row's step; the walk lies in YtknodagcmachiaaAx2.)
-/
import Derived.Test.YtknodagcmachiaaRows
import Derived.Test.YtknodagcmachiaaMg25
import Derived.Test.YtknodagcmachiaaMg7
namespace Go.Proofs.Ytknodagcmachiaa.contextAll
open Go.ChangeShapes Go.WideShapes Go.ChangeAt Go.RowKit
set_option linter.unusedVariables false

theorem own : ownKnob Try.prog.godebug = none := by kernel_rfl
theorem laidOut : laidOutB Try.prog = true := by kernel_rfl

set_option maxRecDepth 100000 in
theorem lifted (os : Os) (started : os.Started) (H : Type) (enc : TypeId × Value → H) :
    ReturnsInHanded {} Try.checked os 5 .any (Rows.contextAllSpec.pre6 enc Try.prog Try.f5 Rows.contextAllRow.domain false) (Rows.contextAllSpec.post enc Try.prog Try.f5 false true false false) := by
  refine returnsInHanded_of_change (C := Try.checked) own started (by kernel_rfl) Try.func5
    (ChangeSpec.witness6 (enc := enc) (C := Try.checked) false ⟨#[], #[.int .i64 0, .slice none 0 0, .int .i64 0], []⟩ 8 (by kernel_rfl) (by kernel_rfl) (by kernel_rfl) (by kernel_rfl)) ?_
  intro W base args ds gs before hval0 hW hcnd _
  have hval : ∀ (j : Nat) t v, Try.f5.params[j]? = some t → args[j]? = some v → Value.okWide Try.prog W .any base t v := hval0
  have hW' := hW
  obtain ⟨p, q, hA0, hV, rfl, hfz, hnd⟩ := hW
  have hA : DataW.TrodAll enc Try.prog W 0 (fun _ => true) true Try.f5.params.toList args.toList ds p := hA0
  rw [Try.params5] at hA hval
  obtain ⟨v0, vs0, d0, ds0, p0, q0, hargs, rfl, rfl, h0, r0⟩ := trodAll_cons hA
  obtain ⟨v1, vs1, d1, ds1, p1, q1, rfl, rfl, rfl, h1, r1⟩ := trodAll_cons r0
  obtain ⟨v2, vs2, d2, ds2, p2, q2, rfl, rfl, rfl, h2, r2⟩ := trodAll_cons r1
  obtain ⟨rfl, rfl, rfl⟩ := trodAll_nil r2
  obtain rfl : args = #[v0, v1, v2] := by cases args; simp_all
  obtain ⟨rfl, rfl⟩ := trodVars_none hV
  obtain ⟨a0, rfl, rfl, rfl, w0⟩ := open_int Try.underlying3 (hval 0 3 v0 rfl rfl) h0
  obtain ⟨ao1, len1, cap1, hv1⟩ := okWide_slice Try.underlying23 (hval 1 23 v1 rfl rfl)
  have k1 := h1
  have lt1 : ∀ x ∈ p1, x.block < W.heap.size := by obtain ⟨m, hm⟩ := k1; exact DataW.trod_lt m _ _ _ hm
  obtain ⟨n1, A1, w1⟩ := argK_nest (size := 8) (K := Cn.kA8) Try.underlying23 Try.underlying35 (by kernel_rfl) (by decide) (by
      intro j hj
      match j, hj with
      | 0, _ => exact .inl ⟨0, _, rfl, rfl, (by kernel_rfl), Try.underlying3⟩
      | 1, _ => exact .inr ⟨1, _, _, 0, _, rfl, Try.underlying30, rfl, rfl, (by decide +kernel), (by kernel_rfl), Try.underlying3⟩
      | 2, _ => exact .inr ⟨1, _, _, 1, _, rfl, Try.underlying30, rfl, rfl, (by decide +kernel), (by kernel_rfl), Try.underlying22⟩
      | 3, _ => exact .inr ⟨2, _, _, 0, _, rfl, Try.underlying30, rfl, rfl, (by decide +kernel), (by kernel_rfl), Try.underlying3⟩
      | 4, _ => exact .inr ⟨2, _, _, 1, _, rfl, Try.underlying30, rfl, rfl, (by decide +kernel), (by kernel_rfl), Try.underlying22⟩
      | 5, _ => exact .inl ⟨3, _, rfl, rfl, (by kernel_rfl), Try.underlying22⟩
      | 6, _ => exact .inl ⟨4, _, rfl, rfl, (by kernel_rfl), Try.underlying22⟩
      | 7, _ => exact .inl ⟨5, _, rfl, rfl, (by kernel_rfl), Try.underlying22⟩
      | j + 8, hj => exact absurd hj (by omega)) ⟨_, _, _, hv1⟩ h1
  obtain ⟨a2, rfl, rfl, rfl, w2⟩ := open_int Try.underlying3 (hval 2 3 v2 rfl rfl) h2
  clear hA0 hval0
  refine (Cn.all8_row W a0 w0 v1 n1 A1 w1 a2 w2).mono fun e W' ⟨he, bel⟩ => ?_
  subst he
  exact ⟨_, rfl, _, _, _, [], _, [], hW', trodAll_mk1 (shut_bool Try.underlying4 _), (trodAll_cons_mk (shut_int Try.underlying3 w0) (trodAll_cons_mk (Below.trod laidOut (by kernel_rfl) (of_decide_eq_true (by kernel_rfl)) k1 bel lt1) (trodAll_cons_mk (shut_int Try.underlying3 w2) trodAll_mk0))), rfl, bel.frame _, fun h => by cases h⟩

theorem over : Rows.contextAllRow.holds Try.pinned (OpenSpec.ofChange Rows.contextAllSpec) :=
  OpenClaim.holds_of_wide 5 Try.f5 rfl rfl rfl rfl rfl rfl rfl ⟨rfl, rfl, rfl, rfl, rfl⟩ rfl rfl rfl rfl rfl (by kernel_rfl) Try.func5 (by kernel_rfl)
    (of_decide_eq_true (by kernel_rfl)) (by unfold Func.isWrapper; first | (rw [if_pos (by decide +kernel)]; kernel_rfl) | (rw [if_neg (by decide +kernel)]; exact ⟨rfl, rfl⟩))
    (fun os started H enc _ => lifted os started H enc)
end Go.Proofs.Ytknodagcmachiaa.contextAll
namespace Go.Proofs.Ytknodagcmachiaa
theorem contextAll_holds : Rows.ContextAllSaid := contextAll.over
#print axioms contextAll_holds
end Go.Proofs.Ytknodagcmachiaa
