/-
  An argument of type api.G. No statement is proved here.
-/
import Derived.Test.YtffjckdaekamgaaArgs4
import Derived.Test.YtffjckdaekamgaaGa1
namespace Go.Proofs.Ytffjckdaekamgaa.Gt
open Go.RowKit Ag
open Go.ChangeShapes Go.WideShapes Go.Deep
set_option linter.unusedVariables false

abbrev ksR : List CK := [.int .i64, .int .u64]
abbrev ksG : List CK := [.int .i64, .bool, .int .i64, .int .u64, .int .i64, .int .u64, .int .u8, .int .i64, .int .i64, .int .u64, .int .u64, .int .u64, .int .u64, .int .u64, .int .u64, .int .u64, .int .u64, .int .i64, .int .u64]
section
variable {H : Type} {enc : TypeId × Value → H} {w : World} {base : Nat} {spare : Nat → Bool} {held : Bool}
theorem rowRef : RowT enc Try.prog w base spare held 25 ksR :=
  rowT_struct Try.underlying25 (by kernel_rfl) (by
    intro i f hi
    match i, hi with
    | 0, hi => cases hi; exact ⟨1, by kernel_rfl, rowT_int Try.underlying3⟩
    | 1, hi => cases hi; exact ⟨1, by kernel_rfl, rowT_int Try.underlying23⟩
    | i + 2, hi => exact absurd (Array.getElem?_eq_some_iff.1 hi).1 (by simp)) (by
    intro j hj
    match j, hj with
    | 0, _ => exact ⟨0, _, 1, rfl, by kernel_rfl, by decide, by decide⟩
    | 1, _ => exact ⟨1, _, 1, rfl, by kernel_rfl, by decide, by decide⟩
    | j + 2, hj => exact absurd hj (by simp))
theorem rowRegs : RowT enc Try.prog w base spare held 26 (List.replicate 8 (.int .u64)) :=
  rowT_array Try.underlying26 (by kernel_rfl) (by kernel_rfl) (rowT_int Try.underlying23)
theorem rowG : RowT enc Try.prog w base spare held 29 ksG :=
  rowT_struct Try.underlying29 (by kernel_rfl) (by
    intro i f hi
    match i, hi with
    | 0, hi => cases hi; exact ⟨1, by kernel_rfl, rowT_int Try.underlying22⟩
    | 1, hi => cases hi; exact ⟨1, by kernel_rfl, rowT_bool Try.underlying4⟩
    | 2, hi => cases hi; exact ⟨2, by kernel_rfl, rowRef⟩
    | 3, hi => cases hi; exact ⟨2, by kernel_rfl, rowRef⟩
    | 4, hi => cases hi; exact ⟨1, by kernel_rfl, rowT_int Try.underlying5⟩
    | 5, hi => cases hi; exact ⟨1, by kernel_rfl, rowT_int Try.underlying3⟩
    | 6, hi => cases hi; exact ⟨1, by kernel_rfl, rowT_int Try.underlying3⟩
    | 7, hi => cases hi; exact ⟨8, by kernel_rfl, rowRegs⟩
    | 8, hi => cases hi; exact ⟨1, by kernel_rfl, rowT_int Try.underlying27⟩
    | 9, hi => cases hi; exact ⟨1, by kernel_rfl, rowT_int Try.underlying23⟩
    | i + 10, hi => exact absurd (Array.getElem?_eq_some_iff.1 hi).1 (by simp)) (by
    intro j hj
    match j, hj with
    | 0, _ => exact ⟨0, _, 1, rfl, by kernel_rfl, by decide, by decide⟩
    | 1, _ => exact ⟨1, _, 1, rfl, by kernel_rfl, by decide, by decide⟩
    | 2, _ => exact ⟨2, _, 2, rfl, by kernel_rfl, by decide, by decide⟩
    | 3, _ => exact ⟨2, _, 2, rfl, by kernel_rfl, by decide, by decide⟩
    | 4, _ => exact ⟨3, _, 2, rfl, by kernel_rfl, by decide, by decide⟩
    | 5, _ => exact ⟨3, _, 2, rfl, by kernel_rfl, by decide, by decide⟩
    | 6, _ => exact ⟨4, _, 1, rfl, by kernel_rfl, by decide, by decide⟩
    | 7, _ => exact ⟨5, _, 1, rfl, by kernel_rfl, by decide, by decide⟩
    | 8, _ => exact ⟨6, _, 1, rfl, by kernel_rfl, by decide, by decide⟩
    | 9, _ => exact ⟨7, _, 8, rfl, by kernel_rfl, by decide, by decide⟩
    | 10, _ => exact ⟨7, _, 8, rfl, by kernel_rfl, by decide, by decide⟩
    | 11, _ => exact ⟨7, _, 8, rfl, by kernel_rfl, by decide, by decide⟩
    | 12, _ => exact ⟨7, _, 8, rfl, by kernel_rfl, by decide, by decide⟩
    | 13, _ => exact ⟨7, _, 8, rfl, by kernel_rfl, by decide, by decide⟩
    | 14, _ => exact ⟨7, _, 8, rfl, by kernel_rfl, by decide, by decide⟩
    | 15, _ => exact ⟨7, _, 8, rfl, by kernel_rfl, by decide, by decide⟩
    | 16, _ => exact ⟨7, _, 8, rfl, by kernel_rfl, by decide, by decide⟩
    | 17, _ => exact ⟨8, _, 1, rfl, by kernel_rfl, by decide, by decide⟩
    | 18, _ => exact ⟨9, _, 1, rfl, by kernel_rfl, by decide, by decide⟩
    | j + 19, hj => exact absurd hj (by simp))
end
/-- A row of api.G's kinds is an api.G's cells. -/
theorem open_el {cs : List Value} (h : IsRow ksG cs) : ∃ x : El, cs = elC x ∧ 0 ≤ x.v18 := by
  obtain ⟨u0, e0, c0⟩ := h.at_ (j := 0) rfl
  obtain ⟨a0, rfl, b0⟩ := c0
  obtain ⟨u1, e1, c1⟩ := h.at_ (j := 1) rfl
  obtain ⟨a1, rfl⟩ := c1
  obtain ⟨u2, e2, c2⟩ := h.at_ (j := 2) rfl
  obtain ⟨a2, rfl, b2⟩ := c2
  obtain ⟨u3, e3, c3⟩ := h.at_ (j := 3) rfl
  obtain ⟨a3, rfl, b3⟩ := c3
  obtain ⟨u4, e4, c4⟩ := h.at_ (j := 4) rfl
  obtain ⟨a4, rfl, b4⟩ := c4
  obtain ⟨u5, e5, c5⟩ := h.at_ (j := 5) rfl
  obtain ⟨a5, rfl, b5⟩ := c5
  obtain ⟨u6, e6, c6⟩ := h.at_ (j := 6) rfl
  obtain ⟨a6, rfl, b6⟩ := c6
  obtain ⟨u7, e7, c7⟩ := h.at_ (j := 7) rfl
  obtain ⟨a7, rfl, b7⟩ := c7
  obtain ⟨u8, e8, c8⟩ := h.at_ (j := 8) rfl
  obtain ⟨a8, rfl, b8⟩ := c8
  obtain ⟨u9, e9, c9⟩ := h.at_ (j := 9) rfl
  obtain ⟨a9, rfl, b9⟩ := c9
  obtain ⟨u10, e10, c10⟩ := h.at_ (j := 10) rfl
  obtain ⟨a10, rfl, b10⟩ := c10
  obtain ⟨u11, e11, c11⟩ := h.at_ (j := 11) rfl
  obtain ⟨a11, rfl, b11⟩ := c11
  obtain ⟨u12, e12, c12⟩ := h.at_ (j := 12) rfl
  obtain ⟨a12, rfl, b12⟩ := c12
  obtain ⟨u13, e13, c13⟩ := h.at_ (j := 13) rfl
  obtain ⟨a13, rfl, b13⟩ := c13
  obtain ⟨u14, e14, c14⟩ := h.at_ (j := 14) rfl
  obtain ⟨a14, rfl, b14⟩ := c14
  obtain ⟨u15, e15, c15⟩ := h.at_ (j := 15) rfl
  obtain ⟨a15, rfl, b15⟩ := c15
  obtain ⟨u16, e16, c16⟩ := h.at_ (j := 16) rfl
  obtain ⟨a16, rfl, b16⟩ := c16
  obtain ⟨u17, e17, c17⟩ := h.at_ (j := 17) rfl
  obtain ⟨a17, rfl, b17⟩ := c17
  obtain ⟨u18, e18, c18⟩ := h.at_ (j := 18) rfl
  obtain ⟨a18, rfl, b18⟩ := c18
  refine ⟨⟨a0, a1, a2, a3, a4, a5, a6, a7, a8, a9, a10, a11, a12, a13, a14, a15, a16, a17, a18⟩, List.ext_getElem? fun j => ?_, (bounds_u64 b18).1⟩
  match j with
  | 0 => exact e0
  | 1 => exact e1
  | 2 => exact e2
  | 3 => exact e3
  | 4 => exact e4
  | 5 => exact e5
  | 6 => exact e6
  | 7 => exact e7
  | 8 => exact e8
  | 9 => exact e9
  | 10 => exact e10
  | 11 => exact e11
  | 12 => exact e12
  | 13 => exact e13
  | 14 => exact e14
  | 15 => exact e15
  | 16 => exact e16
  | 17 => exact e17
  | 18 => exact e18
  | j + 19 => rw [List.getElem?_eq_none (by rw [h.1]; exact Nat.le_add_left 19 j)]; rfl
end Go.Proofs.Ytffjckdaekamgaa.Gt
