/-
  The chapter's row of law 10: known. No statement is proved here.
-/
import Derived.Test.YtfioghpnehfjhaaQt3
import Derived.Test.YtfioghpnehfjhaaDn6
namespace Go.Proofs.Ytfioghpnehfjhaa.Dm
open Go.RowKit Ad
set_option linter.unusedVariables false
set_option linter.unusedSimpArgs false

abbrev k0 : List Pl := [⟨1, true, false, ⟨0, 0, 4, 10, 5, 0, 0, 0, 0, 0, 0⟩⟩, ⟨1, false, false, ez⟩]
abbrev k1 : List Pl := [⟨1, true, false, ⟨0, 0, 4, 10, 5, 1, 4, 0, 0, 0, 1⟩⟩, ⟨1, true, false, ⟨0, 1, 1, 4, 5, 0, 0, 0, 0, 0, 0⟩⟩]
abbrev k2 : List Pl := [⟨1, true, false, ⟨0, 0, 4, 10, 5, 1, 4, 0, 0, 7, 1⟩⟩, ⟨1, true, false, ⟨0, 1, 1, 4, 5, 0, 0, 0, 0, 0, 0⟩⟩]
abbrev k3 : List Pl := [⟨1, true, false, ⟨0, 0, 4, 10, 5, 1, 4, 0, 0, 7, 1⟩⟩, ⟨1, true, false, ⟨0, 1, 1, 4, 5, 0, 0, 0, 0, 3, 0⟩⟩]
abbrev k4 : List Pl := [⟨1, true, false, ⟨0, 0, 4, 10, 5, 1, 4, 0, 0, 8, 1⟩⟩, ⟨1, true, false, ⟨0, 1, 1, 4, 5, 0, 0, 0, 0, 4, 0⟩⟩]
theorem used_list {ps : List Pl} (h : ∀ a ∈ ps, U64 a.x.v3 ∧ U64 a.x.v9) : Used0 ps := fun k a ha => h a (List.mem_of_getElem? ha)
theorem k3_u : Used0 k3 := used_list (by simp [U64])
theorem k4_u : Used0 k4 := used_list (by simp [U64])
theorem k3_c : Ch k3 (1, 1) [(1, 1), (0, 1)] := ⟨rfl, rfl, rfl, rfl, rfl⟩
theorem k4_c : Ch k4 (1, 1) [(1, 1), (0, 1)] := ⟨rfl, rfl, rfl, rfl, rfl⟩
theorem k4_r : Ch k4 (0, 1) [(0, 1)] := ⟨rfl, rfl, rfl⟩
section
variable {w0 w : World} {F : Hp} {d p : Nat}
theorem kn_new (hS : Sat w0 F w) : Calls Try.prog 18 #[vi 2, vi 4, vu 10, vu 5] w fun e w' => ∃ d p, e = .returned (.tuple #[vp d, vi 0]) ∧ Sat w0 (domB d p * (tblP p k0 [1] * F)) w' := dm_new 2 (by omega) (by omega) 4 10 5 (by unfold MayD; omega) hS
theorem kn_carve (hS : Sat w0 (domB d p * (tblP p k0 [1] * F)) w) : Calls Try.prog 32 #[vp d, vr 0 1, vi 1, vu 4, vu 5] w fun e w' => e = .returned (.tuple #[vr 1 1, vi 0]) ∧ Sat w0 (domB d p * (tblP p k1 [] * F)) w' :=
  carve_ok (free := []) (k := 1) (a := ⟨1, false, false, ez⟩) hS rfl 0 1 1 4 5 (by unfold MayD; omega) rfl (by show DomOk ⟨0, 0, 4, 10, 5, 0, 0, 0, 0, 0, 0⟩; simp [DomOk]) (by show FitsD ⟨0, 0, 4, 10, 5, 0, 0, 0, 0, 0, 0⟩ 1 4; simp [FitsD]) (by omega)
theorem kn_use1 (hS : Sat w0 (domB d p * (tblP p k1 [] * F)) w) : Calls Try.prog 12 #[vp d, vr 0 1, vu 7] w fun e w' => e = .returned (vi 0) ∧ Sat w0 (domB d p * (tblP p k2 [] * F)) w' :=
  dm_use hS 0 1 7 (fun _ => (by show U64 0; simp [U64])) (by simp [U64])
theorem kn_use2 (hS : Sat w0 (domB d p * (tblP p k2 [] * F)) w) : Calls Try.prog 12 #[vp d, vr 1 1, vu 3] w fun e w' => e = .returned (vi 0) ∧ Sat w0 (domB d p * (tblP p k3 [] * F)) w' :=
  dm_use hS 1 1 3 (fun _ => (by show U64 0; simp [U64])) (by simp [U64])
theorem kn_left (hS : Sat w0 (domB d p * (tblP p k3 [] * F)) w) : Calls Try.prog 13 #[vp d, vr 1 1] w fun e w' => e = .returned (vu 1) ∧ Sat w0 (domB d p * (tblP p k3 [] * F)) w' := q_Left hS 1 1 _ k3_c (by simp) k3_u
theorem kn_charge (hS : Sat w0 (domB d p * (tblP p k3 [] * F)) w) : Calls Try.prog 11 #[vp d, vr 1 1] w fun e w' => e = .returned (.bool true) ∧ Sat w0 (domB d p * (tblP p k4 [] * F)) w' := q_charge_yes hS 1 1 _ k3_c (by simp) k3_u (by decide)
theorem kn_can (hS : Sat w0 (domB d p * (tblP p k4 [] * F)) w) : Calls Try.prog 14 #[vp d, vr 1 1] w fun e w' => e = .returned (.bool false) ∧ Sat w0 (domB d p * (tblP p k4 [] * F)) w' := q_can hS 1 1 _ k4_c (by simp) k4_u
theorem kn_can2 (hS : Sat w0 (domB d p * (tblP p k4 [] * F)) w) : Calls Try.prog 14 #[vp d, vr 0 1] w fun e w' => e = .returned (.bool true) ∧ Sat w0 (domB d p * (tblP p k4 [] * F)) w' := q_can hS 0 1 _ k4_r (by simp) k4_u
theorem kn_root {ps : List Pl} {fr : List Nat} (hS : Sat w0 (domB d p * (tblP p ps fr * F)) w) : Calls Try.prog 31 #[vp d] w fun e w' => e = .returned (vr 0 1) ∧ Sat w0 (domB d p * (tblP p ps fr * F)) w' := dm_root hS
set_option maxRecDepth 100000 in
set_option maxHeartbeats 4000000 in
theorem known10 (hS : Sat w0 F w) : Calls Try.prog 10 #[] w fun e w' => e = .returned (.bool true) ∧ Sat w0 F w' := by
  have H := Lib.hid hS
  clear hS
  go_enter Try.func10, Try.ntmps10
  go_wp2_with (first
    | (go_at_call 18; (with_reducible refine (kn_new H.out).mono ?_); rintro e w1 ⟨d, p, rfl, hS⟩; have H1 := Lib.hid hS; clear hS)
    | (go_at_call 31; (with_reducible refine (kn_root H1.out).mono ?_); rintro e h2 ⟨rfl, hS⟩; have H2 := Lib.hid hS; clear hS)
    | (go_at_call 32; (with_reducible refine (kn_carve H2.out).mono ?_); rintro e h3 ⟨rfl, hS⟩; have hB := hS.alloc (.cells #[vi 1, vu 1] 32); have hB : Sat w0 (pc h3.heap.size 32 [vi 1, vu 1] * _) _ := hB; have c0 := hB.cell 0 rfl; have c1 := hB.cell 1 rfl; have H3 := Lib.hid (hB.cast (show _ = domB d p * (tblP p k1 [] * (pc h3.heap.size 32 [vi 1, vu 1] * F)) by ac_rfl)); clear hS hB)
    | (go_at_call 31; (with_reducible refine (kn_root H3.out).mono ?_); rintro e h4 ⟨rfl, hS⟩; have c0 := hS.dropL.dropL.cell 0 rfl; have c1 := hS.dropL.dropL.cell 1 rfl; have H4 := Lib.hid hS; clear hS)
    | (go_at_call 12; (with_reducible refine (kn_use1 H4.out).mono ?_); rintro e h5 ⟨rfl, hS⟩; have c0 := hS.dropL.dropL.cell 0 rfl; have c1 := hS.dropL.dropL.cell 1 rfl; have H5 := Lib.hid hS; clear hS)
    | (go_at_call 12; (with_reducible refine (kn_use2 H5.out).mono ?_); rintro e h6 ⟨rfl, hS⟩; have c0 := hS.dropL.dropL.cell 0 rfl; have c1 := hS.dropL.dropL.cell 1 rfl; have H6 := Lib.hid hS; clear hS)
    | (go_at_call 13; (with_reducible refine (kn_left H6.out).mono ?_); rintro e h7 ⟨rfl, hS⟩; have c0 := hS.dropL.dropL.cell 0 rfl; have c1 := hS.dropL.dropL.cell 1 rfl; have H7 := Lib.hid hS; clear hS)
    | (go_at_call 11; (with_reducible refine (kn_charge H7.out).mono ?_); rintro e h8 ⟨rfl, hS⟩; have c0 := hS.dropL.dropL.cell 0 rfl; have c1 := hS.dropL.dropL.cell 1 rfl; have H8 := Lib.hid hS; clear hS)
    | (go_at_call 14; (with_reducible refine (kn_can H8.out).mono ?_); rintro e h9 ⟨rfl, hS⟩; have c0 := hS.dropL.dropL.cell 0 rfl; have c1 := hS.dropL.dropL.cell 1 rfl; have H9 := Lib.hid hS; clear hS)
    | (go_at_call 31; (with_reducible refine (kn_root H9.out).mono ?_); rintro e h10 ⟨rfl, hS⟩; have c0 := hS.dropL.dropL.cell 0 rfl; have c1 := hS.dropL.dropL.cell 1 rfl; have H10 := Lib.hid hS; clear hS)
    | (go_at_call 14; (with_reducible refine (kn_can2 H10.out).mono ?_); rintro e h11 ⟨rfl, hS⟩; have c0 := hS.dropL.dropL.cell 0 rfl; have c1 := hS.dropL.dropL.cell 1 rfl; have H11 := Lib.hid hS; clear hS)
    )
  go_ret
  exact ⟨by simp, H11.out.dropL.dropL.dropL⟩
end
end Go.Proofs.Ytfioghpnehfjhaa.Dm
