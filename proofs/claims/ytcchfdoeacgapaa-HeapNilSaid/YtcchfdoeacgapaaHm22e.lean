/-
  The reference's heap of chapter 04: Put. No statement is proved here.
-/
import Derived.Test.YtcchfdoeacgapaaHm22a
import Derived.Test.YtcchfdoeacgapaaHm22b
import Derived.Test.YtcchfdoeacgapaaHm22c
import Derived.Test.YtcchfdoeacgapaaHm22d
namespace Go.Proofs.Ytcchfdoeacgapaa.Hm
open Go.RowKit
set_option linter.unusedVariables false

section
variable {w0 w : World} {F : Hp} {q : Nat} {L : List Tr}
/-- How many are not later. -/
def upTo (L : List Tr) (a : Int) : Nat := (L.takeWhile fun t => decide (t.1 ≤ a)).length
theorem upTo_le (L : List Tr) (a : Int) : upTo L a ≤ L.length := (List.takeWhile_sublist _).length_le
theorem upTo_lt {a : Int} : ∀ (L : List Tr) (j : Nat), j < upTo L a → (gr L j).1 ≤ a
  | [], j, h => by simp [upTo] at h
  | t :: L, j, h => by
    by_cases ht : t.1 ≤ a
    · match j with
      | 0 => exact ht
      | j + 1 =>
        refine upTo_lt L j ?_
        simp only [upTo, List.takeWhile_cons, ht, decide_true, if_true, List.length_cons] at h
        unfold upTo
        omega
    · simp [upTo, ht] at h
theorem upTo_no {a : Int} : ∀ (L : List Tr), upTo L a < L.length → ¬ (gr L (upTo L a)).1 ≤ a
  | [], h => by simp at h
  | t :: L, h => by
    by_cases ht : t.1 ≤ a
    · have e : upTo (t :: L) a = upTo L a + 1 := by simp [upTo, ht]
      rw [e] at h ⊢
      exact upTo_no L (by simpa using h)
    · have e : upTo (t :: L) a = 0 := by simp [upTo, ht]
      rw [e]
      exact ht
theorem r_put (hS : Sat w0 (refP q L * F) w) (at_ id : Int) (hl : L.length ≤ 4096) (hf : findT L id = -1) :
    Calls Try.prog 58 #[vp q, vu at_, vi id] w (PutOk w0 q L F at_ id (upTo L at_)) := by
  obtain ⟨v, hS⟩ := refP_open hS
  have h0 := upTo_le L at_
  have h1 := upTo_lt (a := at_) L
  have h2 := upTo_no (a := at_) L
  generalize upTo L at_ = K at *
  obtain ⟨n, hn⟩ : ∃ n, L.length = n := ⟨_, rfl⟩
  unfold rl at hS
  rw [hn] at hS hl h2 h0
  rcases hS.pull2.slE.2 with ⟨rfl, h3, _⟩ | ⟨g, cap, cur, rfl, hc1, hc2, _⟩
  · exact r_put_a hS at_ id hn hl hf h0 h1 h2
  · by_cases hkn : K < n
    · exact r_put_b hkn hS at_ id hn hl hf h0 h1 h2
    · obtain rfl : K = n := by omega
      by_cases hck : cap = K
      · subst hck
        exact r_put_c hS at_ id hn hl hf h0 h1 h2
      · exact r_put_d hck hS at_ id hn hl hf h0 h1 h2
end
end Go.Proofs.Ytcchfdoeacgapaa.Hm
