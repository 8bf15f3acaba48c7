/-
  'helmsman/helmsmanlaw09.DomainBooks' returns true for every input, and leaves each argument as it was: no condition of its own. (The frame: the row's step; the walk lies in YtfioghpnehfjhaaGm9.)
-/
import Derived.Test.YtfioghpnehfjhaaRows
import Derived.Test.YtfioghpnehfjhaaGm9
import Derived.Test.YtfioghpnehfjhaaArgs2
namespace Go.Proofs.Ytfioghpnehfjhaa.domainBooks
open Go.ChangeShapes Go.WideShapes Go.ChangeAt Go.RowKit
set_option linter.unusedVariables false

theorem own : ownKnob Try.prog.godebug = none := by kernel_rfl
theorem laidOut : laidOutB Try.prog = true := by kernel_rfl

set_option maxRecDepth 100000 in
theorem lifted (os : Os) (started : os.Started) (H : Type) (enc : TypeId × Value → H) :
    ReturnsInHanded {} Try.checked os 6 .any (Rows.domainBooksSpec.pre6 enc Try.prog Try.f6 Rows.domainBooksRow.domain false) (Rows.domainBooksSpec.post enc Try.prog Try.f6 false true false false) := by
  refine returnsInHanded_of_change (C := Try.checked) own started (by kernel_rfl) Try.func6
    (ChangeSpec.witness6 (enc := enc) (C := Try.checked) false ⟨#[], #[.int .i64 0, .int .i64 0, .int .u64 0, .int .u64 0, .slice none 0 0], []⟩ 8 (by kernel_rfl) (by kernel_rfl) (by kernel_rfl) (by kernel_rfl)) ?_
  intro W base args ds gs before hval0 hW hcnd _
  have hval : ∀ (j : Nat) t v, Try.f6.params[j]? = some t → args[j]? = some v → Value.okWide Try.prog W .any base t v := hval0
  have hW' := hW
  obtain ⟨p, q, hA0, hV, rfl, hfz, hnd⟩ := hW
  have hA : DataW.TrodAll enc Try.prog W 0 (fun _ => true) true Try.f6.params.toList args.toList ds p := hA0
  rw [Try.params6] at hA hval
  obtain ⟨v0, vs0, d0, ds0, p0, q0, hargs, rfl, rfl, h0, r0⟩ := trodAll_cons hA
  obtain ⟨v1, vs1, d1, ds1, p1, q1, rfl, rfl, rfl, h1, r1⟩ := trodAll_cons r0
  obtain ⟨v2, vs2, d2, ds2, p2, q2, rfl, rfl, rfl, h2, r2⟩ := trodAll_cons r1
  obtain ⟨v3, vs3, d3, ds3, p3, q3, rfl, rfl, rfl, h3, r3⟩ := trodAll_cons r2
  obtain ⟨v4, vs4, d4, ds4, p4, q4, rfl, rfl, rfl, h4, r4⟩ := trodAll_cons r3
  obtain ⟨rfl, rfl, rfl⟩ := trodAll_nil r4
  obtain rfl : args = #[v0, v1, v2, v3, v4] := by cases args; simp_all
  obtain ⟨rfl, rfl⟩ := trodVars_none hV
  obtain ⟨a0, rfl, rfl, rfl, w0⟩ := open_int Try.underlying3 (hval 0 3 v0 rfl rfl) h0
  obtain ⟨a1, rfl, rfl, rfl, w1⟩ := open_int Try.underlying3 (hval 1 3 v1 rfl rfl) h1
  obtain ⟨a2, rfl, rfl, rfl, w2⟩ := open_int Try.underlying22 (hval 2 22 v2 rfl rfl) h2
  obtain ⟨a3, rfl, rfl, rfl, w3⟩ := open_int Try.underlying22 (hval 3 22 v3 rfl rfl) h3
  obtain ⟨ao4, len4, cap4, hv4⟩ := okWide_slice Try.underlying57 (hval 4 57 v4 rfl rfl)
  have k4 := h4
  have lt4 : ∀ x ∈ p4, x.block < W.heap.size := by obtain ⟨m, hm⟩ := k4; exact DataW.trod_lt m _ _ _ hm
  obtain ⟨n4, A4, w4⟩ := argK_nest (size := 7) (K := Dm.kA9) Try.underlying57 Try.underlying63 (by kernel_rfl) (by decide) (by
      intro j hj
      match j, hj with
      | 0, _ => exact .inl ⟨0, _, rfl, rfl, (by kernel_rfl), Try.underlying3⟩
      | 1, _ => exact .inr ⟨1, _, _, 0, _, rfl, Try.underlying32, rfl, rfl, (by decide +kernel), (by kernel_rfl), Try.underlying3⟩
      | 2, _ => exact .inr ⟨1, _, _, 1, _, rfl, Try.underlying32, rfl, rfl, (by decide +kernel), (by kernel_rfl), Try.underlying22⟩
      | 3, _ => exact .inl ⟨2, _, rfl, rfl, (by kernel_rfl), Try.underlying3⟩
      | 4, _ => exact .inl ⟨3, _, rfl, rfl, (by kernel_rfl), Try.underlying3⟩
      | 5, _ => exact .inl ⟨4, _, rfl, rfl, (by kernel_rfl), Try.underlying22⟩
      | 6, _ => exact .inl ⟨5, _, rfl, rfl, (by kernel_rfl), Try.underlying22⟩
      | j + 7, hj => exact absurd hj (by omega)) ⟨_, _, _, hv4⟩ h4
  clear hA0 hval0
  refine (Dm.books_row W a0 w0 a1 w1 a2 w2 a3 w3 v4 n4 A4 w4).mono fun e W' ⟨he, bel⟩ => ?_
  subst he
  exact ⟨_, rfl, _, _, _, [], _, [], hW', trodAll_mk1 (shut_bool Try.underlying4 _), (trodAll_cons_mk (shut_int Try.underlying3 w0) (trodAll_cons_mk (shut_int Try.underlying3 w1) (trodAll_cons_mk (shut_int Try.underlying22 w2) (trodAll_cons_mk (shut_int Try.underlying22 w3) (trodAll_cons_mk (Below.trod laidOut (by kernel_rfl) (of_decide_eq_true (by kernel_rfl)) k4 bel lt4) trodAll_mk0))))), rfl, bel.frame _, fun h => by cases h⟩

theorem over : Rows.domainBooksRow.holds Try.pinned (OpenSpec.ofChange Rows.domainBooksSpec) :=
  OpenClaim.holds_of_wide 6 Try.f6 rfl rfl rfl rfl rfl rfl rfl ⟨rfl, rfl, rfl, rfl, rfl⟩ rfl rfl rfl rfl rfl (by kernel_rfl) Try.func6 (by kernel_rfl)
    (of_decide_eq_true (by kernel_rfl)) (by unfold Func.isWrapper; first | (rw [if_pos (by decide +kernel)]; kernel_rfl) | (rw [if_neg (by decide +kernel)]; exact ⟨rfl, rfl⟩))
    (fun os started H enc _ => lifted os started H enc)
end Go.Proofs.Ytfioghpnehfjhaa.domainBooks
namespace Go.Proofs.Ytfioghpnehfjhaa
theorem domainBooks_holds : Rows.DomainBooksSaid := domainBooks.over
#print axioms domainBooks_holds
end Go.Proofs.Ytfioghpnehfjhaa
