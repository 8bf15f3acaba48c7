/-
  Own slices, cut short. No statement is proved here.
-/
import Derived.Test.YtknodagcmachiaaFlat
namespace Go.Proofs.Ytknodagcmachiaa
open Go.RowKit
theorem Sat.slCut {w0 w : World} {F : Hp} {e : TypeId} {size n g cap : Nat} {xs : List Value} (h : Sat w0 (sl e size (.slice (some ⟨g, 0, none⟩) n cap) n xs * F) w) (k : Nat) (hk : k ≤ n) : Sat w0 (sl e size (.slice (some ⟨g, 0, none⟩) k k) k (xs.take (k * size)) * F) w := by
  obtain ⟨cur, h1, h2, h3, h4, hS⟩ := h.slP
  refine hS.slI (Nat.le_refl _) (by omega) (Nat.le_trans (Nat.mul_le_mul_right _ (by omega)) h3) ?_
  rw [← h4, List.take_take, Nat.min_eq_left (Nat.mul_le_mul_right _ hk)]
end Go.Proofs.Ytknodagcmachiaa
