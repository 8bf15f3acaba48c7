/-
  Package context: Len, Copy. No statement is proved here.
-/
import Derived.Test.YtknodagcmachiaaCnA
import Derived.Test.YtknodagcmachiaaCx1
import Derived.Test.YtknodagcmachiaaCa9
import Derived.Test.YtknodagcmachiaaCa10
namespace Go.Proofs.Ytknodagcmachiaa.Cn
open Go.RowKit Ac Fi
set_option linter.unusedVariables false
set_option linter.unusedSimpArgs false

section
variable {w0 w : World} {F : Hp} {h p : Nat} {most : Int} {ps : List Pl} {free : List Nat} {L : Blks} {l : List Rf}
set_option maxRecDepth 100000 in
set_option maxHeartbeats 2000000 in
theorem cx_len (hS : Sat w0 (cxB h p most * (tblP p ps free * (F))) w) (hsm : ps.length ≤ 4096) :
    Calls Try.prog 33 #[vp h] w fun e w' => e = .returned (vi (Ac.seen ps ps.length).length) ∧ Sat w0 (cxB h p most * (tblP p ps free * (F))) w' := by
  have HN := Lib.hid (cx_none hS)
  have HL := Lib.hid (da_len hS.pull2 hsm)
  have c0 := hS.cell 0 rfl
  clear hS
  go_enter Try.func33, Try.ntmps33
  go_wp2_with (first
    | (go_at_call 35; refine HN.out.mono ?_; rintro e w' ⟨rfl, rfl⟩)
    | (go_at_call 72; refine HL.out.mono ?_; rintro e w1 ⟨rfl, hS1⟩; have H1 := Lib.hid hS1; clear hS1))
  go_ret
  exact ⟨rfl, H1.out.pull2⟩
set_option maxRecDepth 100000 in
set_option maxHeartbeats 2000000 in
theorem cx_copy (hS : Sat w0 (cxB h p most * (tblP p ps free * (F))) w) :
    Calls Try.prog 25 #[vp h] w fun e w' => ∃ o q, e = .returned (vp o) ∧ Sat w0 (cxB o q most * (tblP q ps free * (cxB h p most * (tblP p ps free * (F))))) w' := by
  have HN := Lib.hid (cx_none hS)
  have HC := Lib.hid (da_copy hS.drew.pull2)
  have HS := Lib.hid hS
  clear hS
  have ka0 := (HS.out).cell 0 rfl; have ka1 := (HS.out).cell 1 rfl
  go_enter Try.func25, Try.ntmps25
  go_wp2_with (go_at_call 35; refine HN.out.mono ?_; rintro e w' ⟨rfl, rfl⟩)
  go_region_held3 (fun w' : World => w'.cell? ⟨h, 0, none⟩ = some (vp p) ∧ w'.cell? ⟨h, 1, none⟩ = some (vi most))
    (first | exact ⟨ka0, ka1⟩ | exact ⟨kb0, kb1⟩ | go_keep)
    ((go_at_call 60; refine HC.out.mono ?_; rintro e w1 ⟨q, rfl, hS1⟩; have H1 := Lib.hid ((hS1).cast (show _ = tblP q ps free * (cxB h p most * (tblP p ps free * (F))) by ac_rfl)); clear hS1; have kb0 := (H1.out).dropL.cell 0 rfl; have kb1 := (H1.out).dropL.cell 1 rfl))
  go_wp2
  go_ret
  exact ⟨w1.heap.size, q, rfl, H1.out.alloc (.cells #[vp q, vi most] 70)⟩
end
end Go.Proofs.Ytknodagcmachiaa.Cn
