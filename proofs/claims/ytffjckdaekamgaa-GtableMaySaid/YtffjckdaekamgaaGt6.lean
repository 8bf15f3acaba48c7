/-
  Chapter 16: the walk of GtableMay. No statement is proved here.
-/
import Derived.Test.YtffjckdaekamgaaGt6a
import Derived.Test.YtffjckdaekamgaaGt6b
import Derived.Test.YtffjckdaekamgaaGt6c
namespace Go.Proofs.Ytffjckdaekamgaa.Gt
open Go.RowKit Ag
set_option linter.unusedVariables false

theorem may_row (w0 : World) (x : El) (hx : 0 ≤ x.v18) (a b : Int) : Calls Try.prog 3 #[ev x, vi a, vi b] w0 (TrueBelow w0) := by
  by_cases h0 : 0 ≤ a
  · by_cases h7 : a < 7
    · exact may_row1 w0 x hx a b h0 h7
    · exact may_row2 w0 x hx a b h0 h7
  · exact may_row3 w0 x hx a b h0
end Go.Proofs.Ytffjckdaekamgaa.Gt
