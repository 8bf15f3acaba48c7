/-
  'helmsman/helmsmanlaw09.DomainBack' returns true for every input, and leaves each argument as it was: no condition of its own. (The frame: the row's step; the walk lies in YtfioghpnehfjhaaGm11.)
-/
import Derived.Test.YtfioghpnehfjhaaRows
import Derived.Test.YtfioghpnehfjhaaGm11
import Derived.Test.YtfioghpnehfjhaaArgs4
namespace Go.Proofs.Ytfioghpnehfjhaa.domainBack
open Go.ChangeShapes Go.WideShapes Go.ChangeAt Go.RowKit
set_option linter.unusedVariables false

theorem own : ownKnob Try.prog.godebug = none := by kernel_rfl
theorem laidOut : laidOutB Try.prog = true := by kernel_rfl

set_option maxRecDepth 100000 in
theorem lifted (os : Os) (started : os.Started) (H : Type) (enc : TypeId × Value → H) :
    ReturnsInHanded {} Try.checked os 7 .any (Rows.domainBackSpec.pre6 enc Try.prog Try.f7 Rows.domainBackRow.domain false) (Rows.domainBackSpec.post enc Try.prog Try.f7 false true false false) := by
  refine returnsInHanded_of_change (C := Try.checked) own started (by kernel_rfl) Try.func7
    (ChangeSpec.witness6 (enc := enc) (C := Try.checked) false ⟨#[], #[.int .i64 0, .int .i64 0, .int .u64 0, .int .u64 0, .slice none 0 0, .agg #[.int .i64 0, .int .i64 0, .int .u64 0, .int .i64 0, .int .i64 0, .int .u64 0, .int .u64 0]], []⟩ 8 (by kernel_rfl) (by kernel_rfl) (by kernel_rfl) (by kernel_rfl)) ?_
  intro W base args ds gs before hval0 hW hcnd _
  have hval : ∀ (j : Nat) t v, Try.f7.params[j]? = some t → args[j]? = some v → Value.okWide Try.prog W .any base t v := hval0
  have hW' := hW
  obtain ⟨p, q, hA0, hV, rfl, hfz, hnd⟩ := hW
  have hA : DataW.TrodAll enc Try.prog W 0 (fun _ => true) true Try.f7.params.toList args.toList ds p := hA0
  rw [Try.params7] at hA hval
  obtain ⟨v0, vs0, d0, ds0, p0, q0, hargs, rfl, rfl, h0, r0⟩ := trodAll_cons hA
  obtain ⟨v1, vs1, d1, ds1, p1, q1, rfl, rfl, rfl, h1, r1⟩ := trodAll_cons r0
  obtain ⟨v2, vs2, d2, ds2, p2, q2, rfl, rfl, rfl, h2, r2⟩ := trodAll_cons r1
  obtain ⟨v3, vs3, d3, ds3, p3, q3, rfl, rfl, rfl, h3, r3⟩ := trodAll_cons r2
  obtain ⟨v4, vs4, d4, ds4, p4, q4, rfl, rfl, rfl, h4, r4⟩ := trodAll_cons r3
  obtain ⟨v5, vs5, d5, ds5, p5, q5, rfl, rfl, rfl, h5, r5⟩ := trodAll_cons r4
  obtain ⟨rfl, rfl, rfl⟩ := trodAll_nil r5
  obtain rfl : args = #[v0, v1, v2, v3, v4, v5] := by cases args; simp_all
  obtain ⟨rfl, rfl⟩ := trodVars_none hV
  obtain ⟨a0, rfl, rfl, rfl, w0⟩ := open_int Try.underlying3 (hval 0 3 v0 rfl rfl) h0
  obtain ⟨a1, rfl, rfl, rfl, w1⟩ := open_int Try.underlying3 (hval 1 3 v1 rfl rfl) h1
  obtain ⟨a2, rfl, rfl, rfl, w2⟩ := open_int Try.underlying22 (hval 2 22 v2 rfl rfl) h2
  obtain ⟨a3, rfl, rfl, rfl, w3⟩ := open_int Try.underlying22 (hval 3 22 v3 rfl rfl) h3
  obtain ⟨ao4, len4, cap4, hv4⟩ := okWide_slice Try.underlying57 (hval 4 57 v4 rfl rfl)
  have k4 := h4
  have lt4 : ∀ x ∈ p4, x.block < W.heap.size := by obtain ⟨m, hm⟩ := k4; exact DataW.trod_lt m _ _ _ hm
  obtain ⟨n4, A4, w4⟩ := argK_nest (size := 7) (K := Dm.kA9) Try.underlying57 Try.underlying63 (by kernel_rfl) (by decide) (by
      intro j hj
      match j, hj with
      | 0, _ => exact .inl ⟨0, _, rfl, rfl, (by kernel_rfl), Try.underlying3⟩
      | 1, _ => exact .inr ⟨1, _, _, 0, _, rfl, Try.underlying32, rfl, rfl, (by decide +kernel), (by kernel_rfl), Try.underlying3⟩
      | 2, _ => exact .inr ⟨1, _, _, 1, _, rfl, Try.underlying32, rfl, rfl, (by decide +kernel), (by kernel_rfl), Try.underlying22⟩
      | 3, _ => exact .inl ⟨2, _, rfl, rfl, (by kernel_rfl), Try.underlying3⟩
      | 4, _ => exact .inl ⟨3, _, rfl, rfl, (by kernel_rfl), Try.underlying3⟩
      | 5, _ => exact .inl ⟨4, _, rfl, rfl, (by kernel_rfl), Try.underlying22⟩
      | 6, _ => exact .inl ⟨5, _, rfl, rfl, (by kernel_rfl), Try.underlying22⟩
      | j + 7, hj => exact absurd hj (by omega)) ⟨_, _, _, hv4⟩ h4
  obtain ⟨cs5, rfl, _⟩ := okWide_struct Try.underlying63 (hval 5 63 v5 rfl rfl)
  have k5 := h5
  have lt5 : ∀ x ∈ p5, x.block < W.heap.size := by obtain ⟨m, hm⟩ := k5; exact DataW.trod_lt m _ _ _ hm
  obtain ⟨x0, x1, x2, x3, x4, x5, x6, e5, hx3, hx5⟩ := Dm.open_act9 (arg_struct Try.underlying63 Dm.rowAct9 h5)
  obtain rfl : cs5 = [Ad.vi x0, Ad.vi x1, Ad.vu x2, Ad.vi x3, Ad.vi x4, Ad.vu x5, Ad.vu x6].toArray := by rw [← e5]
  clear hA0 hval0
  refine (Dm.back_row W a0 w0 a1 w1 a2 w2 a3 w3 v4 n4 A4 w4 x0 x1 x2 x3 x4 x5 x6 hx3 hx5).mono fun e W' ⟨he, bel⟩ => ?_
  subst he
  exact ⟨_, rfl, _, _, _, [], _, [], hW', trodAll_mk1 (shut_bool Try.underlying4 _), (trodAll_cons_mk (shut_int Try.underlying3 w0) (trodAll_cons_mk (shut_int Try.underlying3 w1) (trodAll_cons_mk (shut_int Try.underlying22 w2) (trodAll_cons_mk (shut_int Try.underlying22 w3) (trodAll_cons_mk (Below.trod laidOut (by kernel_rfl) (of_decide_eq_true (by kernel_rfl)) k4 bel lt4) (trodAll_cons_mk (Below.trod laidOut (by kernel_rfl) (of_decide_eq_true (by kernel_rfl)) k5 bel lt5) trodAll_mk0)))))), rfl, bel.frame _, fun h => by cases h⟩

theorem over : Rows.domainBackRow.holds Try.pinned (OpenSpec.ofChange Rows.domainBackSpec) :=
  OpenClaim.holds_of_wide 7 Try.f7 rfl rfl rfl rfl rfl rfl rfl ⟨rfl, rfl, rfl, rfl, rfl⟩ rfl rfl rfl rfl rfl (by kernel_rfl) Try.func7 (by kernel_rfl)
    (of_decide_eq_true (by kernel_rfl)) (by unfold Func.isWrapper; first | (rw [if_pos (by decide +kernel)]; kernel_rfl) | (rw [if_neg (by decide +kernel)]; exact ⟨rfl, rfl⟩))
    (fun os started H enc _ => lifted os started H enc)
end Go.Proofs.Ytfioghpnehfjhaa.domainBack
namespace Go.Proofs.Ytfioghpnehfjhaa
theorem domainBack_holds : Rows.DomainBackSaid := domainBack.over
#print axioms domainBack_holds
end Go.Proofs.Ytfioghpnehfjhaa
