/-
  The walk of ArenaStale, its arguments as the row reads them. No statement is proved here.
-/
import Derived.Test.YtaaplmihmginpaaStale
namespace Go.Proofs.Ytaaplmihmginpaa.Ar
open Go.RowKit
set_option linter.unusedVariables false
theorem stale_row (w0 : World) (size : Int) (ws : (Lit.int .i64 size).wf = true) (first : Int) (wf : (Lit.int .u64 first).wf = true) (v : Value) (n : Nat) (A : Nat → Int) (h : ArgK w0 5 actK v n A) :
    Calls Try.prog 4 #[vi size, vu first, v] w0 (TrueBelow w0) := stale_walk w0 size first v n A h
end Go.Proofs.Ytaaplmihmginpaa.Ar
