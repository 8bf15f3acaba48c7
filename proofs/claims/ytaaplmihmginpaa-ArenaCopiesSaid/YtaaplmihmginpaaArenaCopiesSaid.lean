/-
  'helmsman/helmsmanlaw02.ArenaCopies' returns true for every input, and leaves each argument as it was: no condition of its own. (The frame: the row's step; the walk lies in YtaaplmihmginpaaCopiesA.)
-/
import Derived.Test.YtaaplmihmginpaaRows
import Derived.Test.YtaaplmihmginpaaCopiesA
import Derived.Test.YtaaplmihmginpaaArgs
namespace Go.Proofs.Ytaaplmihmginpaa.arenaCopies
open Go.ChangeShapes Go.WideShapes Go.ChangeAt Go.RowKit
set_option linter.unusedVariables false

theorem own : ownKnob Try.prog.godebug = none := by kernel_rfl
theorem laidOut : laidOutB Try.prog = true := by kernel_rfl

set_option maxRecDepth 100000 in
theorem lifted (os : Os) (started : os.Started) (H : Type) (enc : TypeId × Value → H) :
    ReturnsInHanded {} Try.checked os 12 .any (Rows.arenaCopiesSpec.pre6 enc Try.prog Try.f12 Rows.arenaCopiesRow.domain false) (Rows.arenaCopiesSpec.post enc Try.prog Try.f12 false true false false) := by
  refine returnsInHanded_of_change (C := Try.checked) own started (by kernel_rfl) Try.func12
    (ChangeSpec.witness6 (enc := enc) (C := Try.checked) false ⟨#[], #[.int .i64 0, .int .u64 0, .slice none 0 0, .slice none 0 0, .slice none 0 0], []⟩ 8 (by kernel_rfl) (by kernel_rfl) (by kernel_rfl) (by kernel_rfl)) ?_
  intro W base args ds gs before hval0 hW hcnd _
  have hval : ∀ (j : Nat) t v, Try.f12.params[j]? = some t → args[j]? = some v → Value.okWide Try.prog W .any base t v := hval0
  have hW' := hW
  obtain ⟨p, q, hA0, hV, rfl, hfz, hnd⟩ := hW
  have hA : DataW.TrodAll enc Try.prog W 0 (fun _ => true) true Try.f12.params.toList args.toList ds p := hA0
  rw [Try.params12] at hA hval
  obtain ⟨v0, vs0, d0, ds0, p0, q0, hargs, rfl, rfl, h0, r0⟩ := trodAll_cons hA
  obtain ⟨v1, vs1, d1, ds1, p1, q1, rfl, rfl, rfl, h1, r1⟩ := trodAll_cons r0
  obtain ⟨v2, vs2, d2, ds2, p2, q2, rfl, rfl, rfl, h2, r2⟩ := trodAll_cons r1
  obtain ⟨v3, vs3, d3, ds3, p3, q3, rfl, rfl, rfl, h3, r3⟩ := trodAll_cons r2
  obtain ⟨v4, vs4, d4, ds4, p4, q4, rfl, rfl, rfl, h4, r4⟩ := trodAll_cons r3
  obtain ⟨rfl, rfl, rfl⟩ := trodAll_nil r4
  obtain rfl : args = #[v0, v1, v2, v3, v4] := by cases args; simp_all
  obtain ⟨rfl, rfl⟩ := trodVars_none hV
  obtain ⟨a0, rfl, rfl, rfl, w0⟩ := open_int Try.underlying3 (hval 0 3 v0 rfl rfl) h0
  obtain ⟨a1, rfl, rfl, rfl, w1⟩ := open_int Try.underlying35 (hval 1 35 v1 rfl rfl) h1
  obtain ⟨ao2, len2, cap2, hv2⟩ := okWide_slice Try.underlying36 (hval 2 36 v2 rfl rfl)
  have k2 := h2
  have lt2 : ∀ x ∈ p2, x.block < W.heap.size := by obtain ⟨m, hm⟩ := k2; exact DataW.trod_lt m _ _ _ hm
  obtain ⟨n2, A2, w2⟩ := argK_nest (size := 5) (K := Ar.actK) Try.underlying36 Try.underlying47 (by kernel_rfl) (by decide) (by
      intro j hj
      match j, hj with
      | 0, _ => exact .inl ⟨0, _, rfl, rfl, (by kernel_rfl), Try.underlying3⟩
      | 1, _ => exact .inl ⟨1, _, rfl, rfl, (by kernel_rfl), Try.underlying3⟩
      | 2, _ => exact .inr ⟨2, _, _, 0, _, rfl, Try.underlying45, rfl, rfl, (by decide +kernel), (by kernel_rfl), Try.underlying3⟩
      | 3, _ => exact .inr ⟨2, _, _, 1, _, rfl, Try.underlying45, rfl, rfl, (by decide +kernel), (by kernel_rfl), Try.underlying35⟩
      | 4, _ => exact .inl ⟨3, _, rfl, rfl, (by kernel_rfl), Try.underlying3⟩
      | j + 5, hj => exact absurd hj (by omega)) ⟨_, _, _, hv2⟩ h2
  obtain ⟨ao3, len3, cap3, hv3⟩ := okWide_slice Try.underlying36 (hval 3 36 v3 rfl rfl)
  have k3 := h3
  have lt3 : ∀ x ∈ p3, x.block < W.heap.size := by obtain ⟨m, hm⟩ := k3; exact DataW.trod_lt m _ _ _ hm
  obtain ⟨n3, A3, w3⟩ := argK_nest (size := 5) (K := Ar.actK) Try.underlying36 Try.underlying47 (by kernel_rfl) (by decide) (by
      intro j hj
      match j, hj with
      | 0, _ => exact .inl ⟨0, _, rfl, rfl, (by kernel_rfl), Try.underlying3⟩
      | 1, _ => exact .inl ⟨1, _, rfl, rfl, (by kernel_rfl), Try.underlying3⟩
      | 2, _ => exact .inr ⟨2, _, _, 0, _, rfl, Try.underlying45, rfl, rfl, (by decide +kernel), (by kernel_rfl), Try.underlying3⟩
      | 3, _ => exact .inr ⟨2, _, _, 1, _, rfl, Try.underlying45, rfl, rfl, (by decide +kernel), (by kernel_rfl), Try.underlying35⟩
      | 4, _ => exact .inl ⟨3, _, rfl, rfl, (by kernel_rfl), Try.underlying3⟩
      | j + 5, hj => exact absurd hj (by omega)) ⟨_, _, _, hv3⟩ h3
  obtain ⟨ao4, len4, cap4, hv4⟩ := okWide_slice Try.underlying36 (hval 4 36 v4 rfl rfl)
  have k4 := h4
  have lt4 : ∀ x ∈ p4, x.block < W.heap.size := by obtain ⟨m, hm⟩ := k4; exact DataW.trod_lt m _ _ _ hm
  obtain ⟨n4, A4, w4⟩ := argK_nest (size := 5) (K := Ar.actK) Try.underlying36 Try.underlying47 (by kernel_rfl) (by decide) (by
      intro j hj
      match j, hj with
      | 0, _ => exact .inl ⟨0, _, rfl, rfl, (by kernel_rfl), Try.underlying3⟩
      | 1, _ => exact .inl ⟨1, _, rfl, rfl, (by kernel_rfl), Try.underlying3⟩
      | 2, _ => exact .inr ⟨2, _, _, 0, _, rfl, Try.underlying45, rfl, rfl, (by decide +kernel), (by kernel_rfl), Try.underlying3⟩
      | 3, _ => exact .inr ⟨2, _, _, 1, _, rfl, Try.underlying45, rfl, rfl, (by decide +kernel), (by kernel_rfl), Try.underlying35⟩
      | 4, _ => exact .inl ⟨3, _, rfl, rfl, (by kernel_rfl), Try.underlying3⟩
      | j + 5, hj => exact absurd hj (by omega)) ⟨_, _, _, hv4⟩ h4
  clear hA0 hval0
  refine (Ar.copies_row W a0 w0 a1 w1 v2 n2 A2 w2 v3 n3 A3 w3 v4 n4 A4 w4).mono fun e W' ⟨he, bel⟩ => ?_
  subst he
  exact ⟨_, rfl, _, _, _, [], _, [], hW', trodAll_mk1 (shut_bool Try.underlying4 _), (trodAll_cons_mk (shut_int Try.underlying3 w0) (trodAll_cons_mk (shut_int Try.underlying35 w1) (trodAll_cons_mk (Below.trod laidOut (by kernel_rfl) (of_decide_eq_true (by kernel_rfl)) k2 bel lt2) (trodAll_cons_mk (Below.trod laidOut (by kernel_rfl) (of_decide_eq_true (by kernel_rfl)) k3 bel lt3) (trodAll_cons_mk (Below.trod laidOut (by kernel_rfl) (of_decide_eq_true (by kernel_rfl)) k4 bel lt4) trodAll_mk0))))), rfl, bel.frame _, fun h => by cases h⟩

theorem over : Rows.arenaCopiesRow.holds Try.pinned (OpenSpec.ofChange Rows.arenaCopiesSpec) :=
  OpenClaim.holds_of_wide 12 Try.f12 rfl rfl rfl rfl rfl rfl rfl ⟨rfl, rfl, rfl, rfl, rfl⟩ rfl rfl rfl rfl rfl (by kernel_rfl) Try.func12 (by kernel_rfl)
    (of_decide_eq_true (by kernel_rfl)) (by unfold Func.isWrapper; first | (rw [if_pos (by decide +kernel)]; kernel_rfl) | (rw [if_neg (by decide +kernel)]; exact ⟨rfl, rfl⟩))
    (fun os started H enc _ => lifted os started H enc)
end Go.Proofs.Ytaaplmihmginpaa.arenaCopies
namespace Go.Proofs.Ytaaplmihmginpaa
theorem arenaCopies_holds : Rows.ArenaCopiesSaid := arenaCopies.over
#print axioms arenaCopies_holds
end Go.Proofs.Ytaaplmihmginpaa
