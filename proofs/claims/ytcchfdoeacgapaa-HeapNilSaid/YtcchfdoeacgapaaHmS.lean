/-
  Timers in order. No statement is proved here.
-/
import Derived.Test.YtcchfdoeacgapaaHm4
namespace Go.Proofs.Ytcchfdoeacgapaa.Hm
open Go.RowKit
set_option linter.unusedVariables false

/-- A list in order: no later one less than an earlier one. -/
def SortedT (A : List Tm) : Prop := ∀ i j, i < j → j < A.length → lessT (gt A j) (gt A i) = false
end Go.Proofs.Ytcchfdoeacgapaa.Hm
