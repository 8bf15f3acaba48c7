/-
  The walks of layer 3's other statements, their arguments as the rows read them. No statement is proved here.
-/
import Derived.Test.YtaaplmihmginpaaRingOrder
import Derived.Test.YtaaplmihmginpaaRingCopies
import Derived.Test.YtaaplmihmginpaaRingNil
namespace Go.Proofs.Ytaaplmihmginpaa
open Go.RowKit
set_option linter.unusedVariables false

theorem ringOrder_row (w0 : World) (most : Int) (wm : (Lit.int .i64 most).wf = true) (v : Value) (n : Nat) (A : Nat → Int) (h : ArgK w0 1 (fun _ => .i64) v n A) (v' : Value) (n' : Nat) (B : Nat → Int) (h' : ArgK w0 1 (fun _ => .i64) v' n' B) :
    Calls Try.prog 3 #[vi most, v, v'] w0 (TrueBelow w0) := ringOrder_walk w0 most v n A h.toA v' n' B h'.toA
theorem ringTakes_row (w0 : World) (most : Int) (wm : (Lit.int .i64 most).wf = true) (v : Value) (n : Nat) (A : Nat → Int) (h : ArgK w0 2 (fun _ => .i64) v n A) (k : Int) (wk : (Lit.int .i64 k).wf = true) :
    Calls Try.prog 8 #[vi most, v, vi k] w0 (TrueBelow w0) := ringTakes_walk w0 most v n A h.toA k
theorem ringCopies_row (w0 : World) (most : Int) (wm : (Lit.int .i64 most).wf = true) (v : Value) (n : Nat) (A : Nat → Int) (h : ArgK w0 2 (fun _ => .i64) v n A) (v2 : Value) (n2 : Nat) (A2 : Nat → Int) (h2 : ArgK w0 2 (fun _ => .i64) v2 n2 A2) (v3 : Value) (n3 : Nat) (A3 : Nat → Int) (h3 : ArgK w0 2 (fun _ => .i64) v3 n3 A3) :
    Calls Try.prog 9 #[vi most, v, v2, v3] w0 (TrueBelow w0) := ringCopies_walk w0 most v n A h.toA v2 n2 A2 h2.toA v3 n3 A3 h3.toA
theorem ringNil_row (w0 : World) : Calls Try.prog 10 #[] w0 (TrueBelow w0) := ringNil_walk w0
end Go.Proofs.Ytaaplmihmginpaa
