/-
  'helmsman/helmsmanlaw19.PlaceSteals' returns true for every input, and leaves each argument as it was: no condition of its own. (The frame: the row's step; the walk lies in YtjgemfgneiaabaaGreatPs3.)
-/
import Derived.Test.YtjgemfgneiaabaaGreatRows
import Derived.Test.YtjgemfgneiaabaaGreatMg33
import Derived.Test.YtjgemfgneiaabaaGreatMg7
namespace Go.Proofs.YtjgemfgneiaabaaGreat.placeSteals
open Go.ChangeShapes Go.WideShapes Go.ChangeAt Go.RowKit
set_option linter.unusedVariables false

theorem own : ownKnob Tryz.prog.godebug = none := by kernel_rfl
theorem laidOut : laidOutB Tryz.prog = true := by kernel_rfl

set_option maxRecDepth 100000 in
theorem lifted (os : Os) (started : os.Started) (H : Type) (enc : TypeId × Value → H) :
    ReturnsInHanded {} Tryz.checked os 4 .any (Rows.placeStealsSpec.pre6 enc Tryz.prog Tryz.f4 Rows.placeStealsRow.domain false) (Rows.placeStealsSpec.post enc Tryz.prog Tryz.f4 false true false false) := by
  refine returnsInHanded_of_change (C := Tryz.checked) own started (by kernel_rfl) Tryz.func4
    (ChangeSpec.witness6 (enc := enc) (C := Tryz.checked) false ⟨#[], #[.int .i64 0, .int .i64 0, .slice none 0 0, .int .i64 0, .int .i64 0, .slice none 0 0], []⟩ 8 (by kernel_rfl) (by kernel_rfl) (by kernel_rfl) (by kernel_rfl)) ?_
  intro W base args ds gs before hval0 hW hcnd _
  have hval : ∀ (j : Nat) t v, Tryz.f4.params[j]? = some t → args[j]? = some v → Value.okWide Tryz.prog W .any base t v := hval0
  have hW' := hW
  obtain ⟨p, q, hA0, hV, rfl, hfz, hnd⟩ := hW
  have hA : DataW.TrodAll enc Tryz.prog W 0 (fun _ => true) true Tryz.f4.params.toList args.toList ds p := hA0
  rw [Tryz.params4] at hA hval
  obtain ⟨v0, vs0, d0, ds0, p0, q0, hargs, rfl, rfl, h0, r0⟩ := trodAll_cons hA
  obtain ⟨v1, vs1, d1, ds1, p1, q1, rfl, rfl, rfl, h1, r1⟩ := trodAll_cons r0
  obtain ⟨v2, vs2, d2, ds2, p2, q2, rfl, rfl, rfl, h2, r2⟩ := trodAll_cons r1
  obtain ⟨v3, vs3, d3, ds3, p3, q3, rfl, rfl, rfl, h3, r3⟩ := trodAll_cons r2
  obtain ⟨v4, vs4, d4, ds4, p4, q4, rfl, rfl, rfl, h4, r4⟩ := trodAll_cons r3
  obtain ⟨v5, vs5, d5, ds5, p5, q5, rfl, rfl, rfl, h5, r5⟩ := trodAll_cons r4
  obtain ⟨rfl, rfl, rfl⟩ := trodAll_nil r5
  obtain rfl : args = #[v0, v1, v2, v3, v4, v5] := by cases args; simp_all
  obtain ⟨rfl, rfl⟩ := trodVars_none hV
  obtain ⟨a0, rfl, rfl, rfl, w0⟩ := open_int Tryz.underlying3 (hval 0 3 v0 rfl rfl) h0
  obtain ⟨a1, rfl, rfl, rfl, w1⟩ := open_int Tryz.underlying3 (hval 1 3 v1 rfl rfl) h1
  obtain ⟨ao2, len2, cap2, hv2⟩ := okWide_slice Tryz.underlying22 (hval 2 22 v2 rfl rfl)
  have k2 := h2
  have lt2 : ∀ x ∈ p2, x.block < W.heap.size := by obtain ⟨m, hm⟩ := k2; exact DataW.trod_lt m _ _ _ hm
  obtain ⟨n2, A2, w2⟩ := argS_of (size := 6) (C := Pc.actC19 W) Tryz.underlying22 Tryz.underlying34 (by kernel_rfl) (by decide) (by
      intro j hj
      match j, hj with
      | 0, _ => exact .inl ⟨0, _, rfl, rfl, (by kernel_rfl), fun _ _ _ h => argC_int (k := .i64) Tryz.underlying3 h⟩
      | 1, _ => exact .inl ⟨1, _, rfl, rfl, (by kernel_rfl), fun _ _ _ h => argC_int (k := .i64) Tryz.underlying3 h⟩
      | 2, _ => exact .inl ⟨2, _, rfl, rfl, (by kernel_rfl), fun _ _ _ h => argC_int (k := .i64) Tryz.underlying3 h⟩
      | 3, _ => exact .inl ⟨3, _, rfl, rfl, (by kernel_rfl), fun _ _ _ h => argC_int (k := .i64) Tryz.underlying3 h⟩
      | 4, _ => exact .inl ⟨4, _, rfl, rfl, (by kernel_rfl), fun _ _ _ h => argC_int (k := .u8) Tryz.underlying5 h⟩
      | 5, _ => exact .inl ⟨5, _, rfl, rfl, (by kernel_rfl), fun _ _ _ h => argC_ints Tryz.underlying32 Tryz.underlying5 (by kernel_rfl) h⟩
      | j + 6, hj => exact absurd hj (by omega)) ⟨_, _, _, hv2⟩ h2
  obtain ⟨a3, rfl, rfl, rfl, w3⟩ := open_int Tryz.underlying3 (hval 3 3 v3 rfl rfl) h3
  obtain ⟨a4, rfl, rfl, rfl, w4⟩ := open_int Tryz.underlying3 (hval 4 3 v4 rfl rfl) h4
  obtain ⟨ao5, len5, cap5, hv5⟩ := okWide_slice Tryz.underlying32 (hval 5 32 v5 rfl rfl)
  have k5 := h5
  have lt5 : ∀ x ∈ p5, x.block < W.heap.size := by obtain ⟨m, hm⟩ := k5; exact DataW.trod_lt m _ _ _ hm
  obtain ⟨n5, A5, w5⟩ := argK_ints Tryz.underlying32 Tryz.underlying5 (by kernel_rfl) ⟨_, _, _, hv5⟩ h5
  clear hA0 hval0
  refine (Pc.steals19_row W a0 w0 a1 w1 v2 n2 A2 w2 a3 w3 a4 w4 v5 n5 A5 w5).mono fun e W' ⟨he, bel⟩ => ?_
  subst he
  exact ⟨_, rfl, _, _, _, [], _, [], hW', trodAll_mk1 (shut_bool Tryz.underlying4 _), (trodAll_cons_mk (shut_int Tryz.underlying3 w0) (trodAll_cons_mk (shut_int Tryz.underlying3 w1) (trodAll_cons_mk (Below.trod laidOut (by kernel_rfl) (of_decide_eq_true (by kernel_rfl)) k2 bel lt2) (trodAll_cons_mk (shut_int Tryz.underlying3 w3) (trodAll_cons_mk (shut_int Tryz.underlying3 w4) (trodAll_cons_mk (Below.trod laidOut (by kernel_rfl) (of_decide_eq_true (by kernel_rfl)) k5 bel lt5) trodAll_mk0)))))), rfl, bel.frame _, fun h => by cases h⟩

theorem over : Rows.placeStealsRow.holds Tryz.pinned (OpenSpec.ofChange Rows.placeStealsSpec) :=
  OpenClaim.holds_of_wide 4 Tryz.f4 rfl rfl rfl rfl rfl rfl rfl ⟨rfl, rfl, rfl, rfl, rfl⟩ rfl rfl rfl rfl rfl (by kernel_rfl) Tryz.func4 (by kernel_rfl)
    (of_decide_eq_true (by kernel_rfl)) (by unfold Func.isWrapper; first | (rw [if_pos (by decide +kernel)]; kernel_rfl) | (rw [if_neg (by decide +kernel)]; exact ⟨rfl, rfl⟩))
    (fun os started H enc _ => lifted os started H enc)
end Go.Proofs.YtjgemfgneiaabaaGreat.placeSteals
namespace Go.Proofs.YtjgemfgneiaabaaGreat
theorem placeSteals_holds : Rows.PlaceStealsSaid := placeSteals.over
#print axioms placeSteals_holds
end Go.Proofs.YtjgemfgneiaabaaGreat
