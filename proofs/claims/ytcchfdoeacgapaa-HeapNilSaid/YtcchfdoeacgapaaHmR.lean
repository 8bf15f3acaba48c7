/-
  Timers as the reference has them: their cells. No statement is proved here.
-/
import Derived.Test.YtcchfdoeacgapaaHm11
namespace Go.Proofs.Ytcchfdoeacgapaa.Hm
open Go.RowKit
set_option linter.unusedVariables false

abbrev Tr := Int × Int
def trV (t : Tr) : List Value := [vu t.1, vi t.2]
def trsV (l : List Tr) : List Value := l.flatMap trV
def trOf (t : Tm) : Tr := (t.1, t.2.1)
theorem trsV_len (l : List Tr) : (trsV l).length = l.length * 2 := by
  induction l with
  | nil => rfl
  | cons t l ih =>
    show (trV t ++ trsV l).length = _
    rw [List.length_append, ih]
    simp [trV]
    omega
theorem trsV_append (a b : List Tr) : trsV (a ++ b) = trsV a ++ trsV b := by simp [trsV]
theorem Etr : SlT Try.prog 59 68 2 16 (.agg #[vu 0, vi 0]) := SlT.mk' Try.underlying59 (by kernel_rfl) rfl (by decide)
theorem Rd.oneR (w : World) (a id : Int) {b : Nat} (hb : b = w.heap.size) : Rd (w.alloc (.cells #[vu a, vi id] 68)) 2 (.slice (some ⟨b, 0, none⟩) 1 1) 1 (trV (a, id)) := by
  subst hb
  refine ⟨rfl, .inr ⟨_, _, _, rfl, fun j u hj => ?_⟩⟩
  have hc : (w.alloc (.cells #[vu a, vi id] 68)).heap[w.heap.size]? = some (.cells #[vu a, vi id] 68 (0, 0)) := heap_alloc_new w _
  show (match (w.alloc (.cells #[vu a, vi id] 68)).heap[w.heap.size]? with | some (.cells c _ _) => c[0 + j]? | _ => none) = _
  rw [hc, Nat.zero_add]
  match j, hj with
  | 0, hj => exact hj
  | 1, hj => exact hj
  | j + 2, hj => simp [trV] at hj

end Go.Proofs.Ytcchfdoeacgapaa.Hm
