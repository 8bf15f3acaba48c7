/-
  Law 10: QuotaNil, the walk. No statement is proved here.
-/
import Derived.Test.YtfioghpnehfjhaaQn3
namespace Go.Proofs.Ytfioghpnehfjhaa.Dm
open Go.RowKit Ad
set_option linter.unusedVariables false

section
variable {w0 w : World} {F : Hp}
set_option maxRecDepth 100000 in
set_option maxHeartbeats 4000000 in
theorem nil_walk (hS : Sat w0 F w) : Calls Try.prog 5 #[] w fun e w' => e = .returned (.bool true) ∧ Sat w0 F w' := by
  have H := Lib.hid hS
  clear hS
  go_enter Try.func5, Try.ntmps5
  go_wp2_with (first
    | (go_at_call 18; (with_reducible refine (n0_new H.out).mono ?_); rintro e h1 ⟨d, p, rfl, hS⟩; have hB := hS.alloc (.cells #[vi 1, vu 1] 32); have hB : Sat w0 (pc h1.heap.size 32 [vi 1, vu 1] * _) _ := hB; have c0 := hB.cell 0 rfl; have c1 := hB.cell 1 rfl; have H1 := Lib.hid (hB.cast (show _ = domB d p * (tblP p n0 [1] * (pc h1.heap.size 32 [vi 1, vu 1] * F)) by ac_rfl)); clear hS hB)
    | (go_at_call 19; (with_reducible refine (n0_tight H1.out).mono ?_); rintro e h2 ⟨rfl, hS⟩; have hS := hS.alloc' (.cells #[vi 0, vu 0] 32); have c0 := hS.dropL.dropL.cell 0 rfl; have c1 := hS.dropL.dropL.cell 1 rfl; have H2 := Lib.hid hS; clear hS)
    | (go_at_call 19; (with_reducible refine (kn_tight0 H2.out).mono ?_); rintro e h3 ⟨rfl, hS⟩; have hS := hS.alloc' (.cells #[vi 0, vu 0] 32); have c0 := hS.dropL.dropL.cell 0 rfl; have c1 := hS.dropL.dropL.cell 1 rfl; have H3 := Lib.hid hS; clear hS)
    | (go_at_call 20; (with_reducible refine (qn_next H3.out 5).mono ?_); rintro e h4 ⟨rfl, hS⟩; have c0 := hS.dropL.dropL.cell 0 rfl; have c1 := hS.dropL.dropL.cell 1 rfl; have H4 := Lib.hid hS; clear hS)
    | (go_at_call 14; (with_reducible refine (qn_can H4.out 1 1).mono ?_); rintro e h5 ⟨rfl, hS⟩; have c0 := hS.dropL.dropL.cell 0 rfl; have c1 := hS.dropL.dropL.cell 1 rfl; have H5 := Lib.hid hS; clear hS)
    | (go_at_call 11; (with_reducible refine (n0_charge H5.out).mono ?_); rintro e h6 ⟨rfl, hS⟩; have c0 := hS.dropL.dropL.cell 0 rfl; have c1 := hS.dropL.dropL.cell 1 rfl; have H6 := Lib.hid hS; clear hS)
    | (go_at_call 13; (with_reducible refine (n0_left H6.out).mono ?_); rintro e h7 ⟨rfl, hS⟩; have c0 := hS.dropL.dropL.cell 0 rfl; have c1 := hS.dropL.dropL.cell 1 rfl; have H7 := Lib.hid hS; clear hS)
    | (go_at_call 13; (with_reducible refine (qn_Left H7.out 1 1).mono ?_); rintro e h8 ⟨rfl, hS⟩; have c0 := hS.dropL.dropL.cell 0 rfl; have c1 := hS.dropL.dropL.cell 1 rfl; have H8 := Lib.hid hS; clear hS)
    | (go_at_call 15; (with_reducible refine (qn_reset H8.out 0).mono ?_); rintro e h9 ⟨rfl, hS⟩; have H9 := Lib.hid hS; clear hS)
    | (go_at_call 10; (with_reducible refine (known10 H9.out).mono ?_); rintro e h10 ⟨rfl, hS⟩; have H10 := Lib.hid hS; clear hS)
    )
  go_ret
  exact ⟨by simp, H10.out.dropL.dropL.dropL⟩
/-- As the row asks it. -/
theorem qnil_row (W : World) : Calls Try.prog 5 #[] W fun e w' => e = .returned (.bool true) ∧ Below W.heap.size W w' :=
  (nil_walk (Sat.start W)).mono fun e w' h => ⟨h.1, h.2.below⟩
end
end Go.Proofs.Ytfioghpnehfjhaa.Dm
