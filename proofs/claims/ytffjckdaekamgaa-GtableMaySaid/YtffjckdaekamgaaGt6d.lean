/-
  Chapter 16: the walk of GtableMay. No statement is proved here.
-/
import Derived.Test.YtffjckdaekamgaaGt5
namespace Go.Proofs.Ytffjckdaekamgaa.Gt
open Go.RowKit Ag
set_option linter.unusedVariables false

def TrueBelow (w0 : World) (e : Ending) (w' : World) : Prop := e = .returned (.bool true) ∧ Below w0.heap.size w0 w'
theorem turn_self (a : Int) : turnB a a = false := decide_eq_false (by rw [trn_iff]; omega)
theorem turn_idle (a : Int) : turnB a 0 = false := decide_eq_false (by rw [trn_iff]; omega)
theorem idle_turn (b : Int) : turnB 0 b = false := decide_eq_false (by rw [trn_iff]; omega)
end Go.Proofs.Ytffjckdaekamgaa.Gt
