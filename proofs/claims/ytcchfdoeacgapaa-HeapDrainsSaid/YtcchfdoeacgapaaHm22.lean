/-
  The reference's heap of chapter 04: Put. No statement is proved here.
-/
import Derived.Test.YtcchfdoeacgapaaHm21
namespace Go.Proofs.Ytcchfdoeacgapaa.Hm
open Go.RowKit
set_option linter.unusedVariables false

section
variable {w0 w : World} {F : Hp} {q : Nat} {L : List Tr}
set_option maxRecDepth 100000 in
theorem r_put_busy (hS : Sat w0 (refP q L * F) w) (at_ id : Int) (hl : L.length ≤ 4096) (hf : 0 ≤ findT L id) :
    Calls Try.prog 58 #[vp q, vu at_, vi id] w fun e w' => e = .returned (vi 14) ∧ w = w' := by
  have HF := Lib.hid (r_find hS id hl)
  clear hS hl
  generalize findT L id = f at *
  go_enter Try.func58, Try.ntmps58
  go_wp2_with (go_at_call 77; refine HF.out.mono ?_; rintro e w' ⟨rfl, rfl⟩)
  go_ret
  exact ⟨rfl, rfl⟩
theorem rdOfPc {b : Nat} {a id : Int} (h : Sat w0 (pc b 68 [vu a, vi id] * F) w) : Rd w 2 (.slice (some ⟨b, 0, none⟩) 1 1) 1 (trV (a, id)) := by
  refine ⟨rfl, .inr ⟨_, _, _, rfl, fun j u hj => ?_⟩⟩
  rw [Nat.zero_add]
  exact h.cell j hj
theorem put_end {at_ id : Int} {n k : Nat} (HN : L.length = n) (hk : k ≤ n) {v' : Value} {w' : World} {m : Nat} (hm : m = n + 1) (h' : Sat w0 (sl 68 2 v' m (trsV (L.take k) ++ trV (at_, id) ++ trsV (L.drop k)) * (rfB q v' * F)) w') : Sat w0 (refP q (L.take k ++ (at_, id) :: L.drop k) * F) w' := by
  refine refP_shut (v := v') ?_
  have e1 : (L.take k ++ (at_, id) :: L.drop k).length = m := by
    simp only [List.length_append, List.length_take, List.length_cons, List.length_drop]
    omega
  unfold rl
  rw [e1, trsV_append, show trsV ((at_, id) :: L.drop k) = trV (at_, id) ++ trsV (L.drop k) from rfl, ← List.append_assoc]
  exact h'.pull2
def PutOk (w0 : World) (q : Nat) (L : List Tr) (F : Hp) (at_ id : Int) (K : Nat) (e : Ending) (w' : World) : Prop := e = .returned (vi 0) ∧ Sat w0 (refP q (L.take K ++ (at_, id) :: L.drop K) * F) w'
end
end Go.Proofs.Ytcchfdoeacgapaa.Hm
