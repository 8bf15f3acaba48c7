/-
  The walk of PlaceOnce, whole. No statement is proved here.
-/
import Derived.Test.YtjgemfgneiaabaaOn2
namespace Go.Proofs.Ytjgemfgneiaabaa.Pc
open Go.RowKit Rq Gq Nu
set_option linter.unusedVariables false

theorem once_walk {w0 : World} {v : Value} {n : Nat} {A : Nat → Ac} (ps ring : Int) (h : Acts w0 v n A) : Calls Try.prog 3 #[vi ps, vi ring, v] w0 (TrueB w0) := by
  cases hm : may19 ps ring with
  | false => exact once_no ps ring h hm
  | true =>
    unfold may19 at hm
    rw [decide_eq_true_eq] at hm
    obtain ⟨a, rfl⟩ := Int.eq_ofNat_of_zero_le (show 0 ≤ ps by omega)
    obtain ⟨b, rfl⟩ := Int.eq_ofNat_of_zero_le (show 0 ≤ ring by omega)
    cases hf : fewB n 120 fun i => (A i).af.length with
    | false => exact once_few a b h (by omega) (by omega) (by omega) (by omega) hf
    | true => exact once_yes a b h (by omega) (by omega) (by omega) (by omega) hf
theorem once_row (w0 : World) (ps : Int) (wp : (Lit.int .i64 ps).wf = true) (ring : Int) (wr : (Lit.int .i64 ring).wf = true) (v : Value) (n : Nat) (A : Nat → Value) (h : ArgS w0 6 (actC19 w0) v n A) :
    Calls Try.prog 3 #[vi ps, vi ring, v] w0 (TrueBelow w0) := by
  obtain ⟨B, h⟩ := acts_of h
  exact once_walk ps ring h
end Go.Proofs.Ytjgemfgneiaabaa.Pc
