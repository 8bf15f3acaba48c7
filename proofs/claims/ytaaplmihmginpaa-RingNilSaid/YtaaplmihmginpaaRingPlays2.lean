/-
  The walk of RingPlays, its argument as the row reads it. No statement is proved here.
-/
import Derived.Test.YtaaplmihmginpaaRingPlays
import Derived.Test.YtaaplmihmginpaaArgs
namespace Go.Proofs.Ytaaplmihmginpaa
open Go.RowKit
set_option linter.unusedVariables false

theorem ArgK.toA {w0 : World} {size : Nat} {v : Value} {n : Nat} {A : Nat → Int} (h : ArgK w0 size (fun _ => .i64) v n A) : ArgA w0 size v n A := ⟨h.form, h.small⟩
theorem ringPlays_row (w0 : World) (most : Int) (wm : (Lit.int .i64 most).wf = true) (v : Value) (n : Nat) (A : Nat → Int) (h : ArgK w0 2 (fun _ => .i64) v n A) :
    Calls Try.prog 5 #[vi most, v] w0 (TrueBelow w0) := ringPlays_walk w0 most v n A h.toA
end Go.Proofs.Ytaaplmihmginpaa
