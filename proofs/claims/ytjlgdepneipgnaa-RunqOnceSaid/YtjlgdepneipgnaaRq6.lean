/-
  The reference's queue of chapter 05: Take where one inherits; Len. No statement is proved here.
-/
import Derived.Test.YtjlgdepneipgnaaRq5
namespace Go.Proofs.Ytjlgdepneipgnaa.Rq
open Go.RowKit
set_option linter.unusedVariables false

section
variable {w0 w : World} {F : Hp} {q r m : Nat} {vL vN : Value} {xs : List Int} {z : Int} {b : Bool}
theorem q_len (h : Sat w0 (quB q r z b * (ringP r m xs * F)) w) :
    Calls Try.prog 34 #[vp q] w fun e w' => e = .returned (vi (allQ xs z b).length) ∧ Sat w0 (quB q r z b * (ringP r m xs * F)) w' := by
  have HA := Lib.hid (q_all h)
  clear h
  generalize allQ xs z b = l at *
  go_enter Try.func34, Try.ntmps34
  go_wp2_with (go_at_call 28; refine HA.out.mono ?_; rintro e w1 ⟨v1, rfl, hS⟩; obtain ⟨ao1, cap1, rfl⟩ := hS.rd.len; have H1 := Lib.hid hS.dropL; clear hS)
  go_ret
  exact ⟨rfl, H1.out⟩
set_option maxHeartbeats 1000000 in
theorem r_take_in (h : Sat w0 (rqB q m vL vN * (rs 3 vL (xs.map vi) * (rs 3 vN ((nsOf z true).map vi) * F))) w) :
    Calls Try.prog 54 #[vp q, .bool true] w fun e w' => ∃ v, e = .returned (.tuple #[v, .bool true, .slice none 0 0]) ∧ RdI w' v [z] ∧ Sat w0 (rqB q m vL (.slice none 0 0) * (rs 3 vL (xs.map vi) * (rs 3 (.slice none 0 0) ((nsOf z false).map vi) * (rs 3 v [vi z] * F)))) w' := by
  have c2 := h.cell 2 rfl
  have f2 := h.free 2
  have h3 := h.store 2 (.slice none 0 0)
  have hR : RdI ((w.setCell ⟨q, 2, none⟩ (.slice none 0 0))) vN (nsOf z true) := rsRdI h3.pull3
  obtain ⟨ao, cap, rfl⟩ : ∃ ao cap, vN = .slice ao 1 cap := (rsRdI h.pull3).len
  have h4 := Lib.hid (h3.rsNil 3)
  have HR := Lib.hid hR
  clear h h3 hR
  go_enter Try.func54, Try.ntmps54
  go_wp2
  go_ret3
  exact ⟨.slice ao 1 cap, rfl, HR.out, h4.out.rot3⟩
end
end Go.Proofs.Ytjlgdepneipgnaa.Rq
