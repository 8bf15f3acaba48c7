/-
  Contracts of package arena at T = api.Context: Copy. No statement is proved here.
-/
import Derived.Test.YtknodagcmachiaaCa8
namespace Go.Proofs.Ytknodagcmachiaa.Ac
open Go.RowKit
open Fi (vi vu)
set_option linter.unusedVariables false

section
variable {w0 w : World} {F : Hp}
set_option maxRecDepth 100000 in
set_option maxHeartbeats 2000000 in
theorem clone_frees {v : Value} {xs : List Nat} (h : Sat w0 (sl 3 1 v xs.length (xs.map fun k : Nat => vi k) * F) w) (hl : xs.length ≤ 4096) :
    Calls Try.prog 96 #[v] w fun e w' => ∃ u, e = .returned u ∧ Sat w0 (sl 3 1 u xs.length (xs.map fun k : Nat => vi k) * (sl 3 1 v xs.length (xs.map fun k : Nat => vi k) * F)) w' := by
  have hone : ∀ u ∈ xs.map (fun k : Nat => vi k), u.oneCell' = true := by
    intro u hu
    obtain ⟨k, _, rfl⟩ := List.mem_map.1 hu
    rfl
  have hone := Lib.hid hone
  have hn := @Lib.run_eql_slice_nil Try.prog
  have H := Lib.hid h
  rcases h.slE.2 with ⟨rfl, h0, _⟩ | ⟨g, c, cur, rfl, _⟩
  · clear h
    have hx : xs = [] := List.eq_nil_of_length_eq_zero h0
    subst hx
    go_enter Try.func96, Try.ntmps96
    go_wp2
    go_ret
    exact ⟨_, rfl, H.out.addNil _ _⟩
  · clear h
    go_enter Try.func96, Try.ntmps96
    go_wp2_with (at_builtin; refine wpList_append_sl Einti rfl (.tmp 5) (.tmp 6) rfl (by rfl) (H.out.sl0 3 1) (by rfl) ((H.out.alloc' _).rd) hone.out (by unfold maxLen; omega) (by omega) ?_; intro ao1 cap1 w1 hS1; simp only [Nat.zero_add, List.nil_append] at hS1)
    go_ret
    exact ⟨_, rfl, hS1⟩

set_option maxRecDepth 100000 in
set_option maxHeartbeats 2000000 in
theorem da_copy {p : Nat} {ps : List Pl} {free : List Nat} (h : Sat w0 (tblP p ps free * F) w) :
    Calls Try.prog 60 #[vp p] w fun e w' => ∃ q, e = .returned (vp q) ∧ Sat w0 (tblP q ps free * (tblP p ps free * F)) w' := by
  obtain ⟨s, hs⟩ := open_ h
  have hok := hs.ok
  have hpos := hok.pos
  have hsm := hok.small
  have hfs := hok.fsmall
  have HN := Lib.hid (none_ hs)
  have HS := Lib.hid hs.sat
  have HOK := Lib.hid hok
  have HC : Hid (∀ w', Sat w0 (tblB p s ps.length free.length * (tblL s ps * (tblF s free * F))) w' → Calls Try.prog 92 #[.slice (some ⟨s.a, 0, none⟩) ps.length s.cap] w' fun e w' => ∃ g cap, e = .returned (.slice (some ⟨g, 0, none⟩) ps.length cap) ∧ Sat w0 (sl 110 7 (.slice (some ⟨g, 0, none⟩) ps.length cap) ps.length (flat ps) * (tblB p s ps.length free.length * (tblL s ps * (tblF s free * F)))) w') :=
    Lib.hid fun w' h' => clone_places h' (fun w2 h2 => h2.pull2.rd) hsm hpos
  have c0 := hs.c0
  have c1 := hs.c1
  clear h hs hok
  go_enter Try.func60, Try.ntmps60
  go_wp2_with (go_at_call 73; refine HN.out.mono ?_; rintro e w' ⟨rfl, rfl⟩)
  go_region_held3 (fun w' => w'.cell? ⟨p, 0, none⟩ = some (.slice (some ⟨s.a, 0, none⟩) ps.length s.cap) ∧ w'.cell? ⟨p, 1, none⟩ = some (.slice s.fo free.length s.fcap))
    (first | exact ⟨d0, d1⟩ | exact ⟨e0, e1⟩ | go_keep)
    (first
      | (go_at_call 92; refine (HC.out _ (HS.out.drewN 1)).mono ?_; rintro e w1 ⟨g, gcap, rfl, hS1⟩; have d0 := hS1.pull2.cell 0 rfl; have d1 := hS1.pull2.cell 1 rfl; have H1 := Lib.hid hS1; clear hS1)
      | (go_at_call 96; refine (clone_frees H1.out.pull4 hfs).mono ?_; rintro e w2 ⟨u, rfl, hS2⟩; obtain ⟨uo, ucap, rfl⟩ := hS2.rd.len; have hS3 := hS2.cast (show _ = tblB p s ps.length free.length * (sl 3 1 (.slice uo free.length ucap) free.length (free.map fun k : Nat => vi k) * (sl 3 1 (s.fv free.length) free.length (free.map fun k : Nat => vi k) * (sl 110 7 (.slice (some ⟨g, 0, none⟩) ps.length gcap) ps.length (flat ps) * (tblL s ps * F)))) by (generalize tblB p s ps.length free.length = X1; generalize tblL s ps = X2; ac_rfl)); have e0 := hS3.cell 0 rfl; have e1 := hS3.cell 1 rfl; have H2 := Lib.hid hS3; clear hS2 hS3))
  go_wp2
  go_ret
  refine ⟨w2.heap.size, rfl, ?_⟩
  have b1 := H2.out.alloc (.cells #[.slice (some ⟨g, 0, none⟩) ps.length gcap, .slice uo free.length ucap] 108)
  have b2 : Sat w0 (tblB w2.heap.size ⟨g, gcap, uo, ucap⟩ ps.length free.length * (tblL ⟨g, gcap, uo, ucap⟩ ps * (tblF ⟨g, gcap, uo, ucap⟩ free * (tblB p s ps.length free.length * (tblL s ps * (tblF s free * F)))))) (w2.alloc (.cells #[.slice (some ⟨g, 0, none⟩) ps.length gcap, .slice uo free.length ucap] 108)) := b1.cast (by
    show pc w2.heap.size 108 [.slice (some ⟨g, 0, none⟩) ps.length gcap, .slice uo free.length ucap] * _ = _
    simp only [tblB, tblL, tblF, TblS.lv, TblS.fv]
    ac_rfl)
  have b3 := TblIs.shut (s := ⟨g, gcap, uo, ucap⟩) ⟨HOK.out, b2⟩
  have b4 : Sat w0 (tblB p s ps.length free.length * (tblL s ps * (tblF s free * (tblP w2.heap.size ps free * F)))) (w2.alloc (.cells #[.slice (some ⟨g, 0, none⟩) ps.length gcap, .slice uo free.length ucap] 108)) := b3.cast (by
    generalize tblB p s ps.length free.length = X1
    generalize tblL s ps = X2
    generalize tblF s free = X3
    ac_rfl)
  exact (TblIs.shut (s := s) ⟨HOK.out, b4⟩).pull2

end
end Go.Proofs.Ytknodagcmachiaa.Ac
