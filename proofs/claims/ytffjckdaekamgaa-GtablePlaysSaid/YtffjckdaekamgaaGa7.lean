/-
  The arena's At at helmsman/api.G. No statement is proved here.
-/
import Derived.Test.YtffjckdaekamgaaGa4
import Derived.Laws.ResultCell
namespace Go.Proofs.Ytffjckdaekamgaa.Ag
open Go.RowKit
set_option linter.unusedVariables false
set_option linter.unusedSimpArgs false

/-- Who is at a place. -/
def atR (ps : List Pl) (i : Int) : Int × Int × Bool := if i < 0 then (0, 0, false) else match ps[i.toNat]? with
  | none => (0, 0, false)
  | some a => if a.there then (i, a.gen, true) else (0, 0, false)
section
variable {w0 w : World} {p : Nat} {ps : List Pl} {free : List Nat} {F : Hp}
set_option maxRecDepth 100000 in
set_option maxHeartbeats 4000000 in
theorem da_at (h : Sat w0 (tblP p ps free * F) w) (i : Int) : Calls Try.prog 50 #[vp p, vi i] w fun e w' => e = .returned (.tuple #[vr (atR ps i).1 (atR ps i).2.1, .bool (atR ps i).2.2]) ∧ Sat w0 (tblP p ps free * F) w' := by
  obtain ⟨s, hs⟩ := open_ h
  have hok := hs.ok
  have hpos := hok.pos
  have hsm := hok.small
  have hB : Sat w0 (pc w.heap.size 25 [vi 0, vu 0] * (tblB p s ps.length free.length * (tblL s ps * (tblF s free * F)))) (w.alloc (.cells #[vi 0, vu 0] 25)) := hs.sat.alloc _
  have hI : TblIs w0 p s ps free (pc w.heap.size 25 [vi 0, vu 0] * F) (w.alloc (.cells #[vi 0, vu 0] 25)) := ⟨hok, hB.cast (by ac_rfl)⟩
  have c0 := hI.c0
  have b0 := hB.cell 0 rfl
  have b1 := hB.cell 1 rfl
  have f0 := hB.free 0
  have f1 := hB.free 1
  have HN := Lib.hid (none_ hI)
  have HK := Lib.hid hok
  have HS := Lib.hid hs.sat
  have HB := Lib.hid hB
  have HI := Lib.hid hI
  have hlp : (0 : Int) ≤ (ps.length : Int) := by omega
  clear h hs hok hI hB
  by_cases hi : i < 0
  · rw [show atR ps i = (0, 0, false) by unfold atR; rw [if_pos hi]]
    have hst : Sat w0 (pc w.heap.size 25 [vi 0, vu 0] * (tblB p s ps.length free.length * (tblL s ps * (tblF s free * F)))) (w.alloc (.cells #[vi 0, vu 0] 25)) := HS.out.alloc _
    have HST := Lib.hid hst
    go_enter Try.func50, Try.ntmps50
    go_wp2_with (go_at_call 45; (with_reducible refine HN.out.mono ?_); rintro e w1 ⟨rfl, rfl⟩)
    have o0 := HST.out.cell 0 rfl
    have o1 := HST.out.cell 1 rfl
    (try simp only [Exit.inBlock, Exit.then])
    refine bodyPost_ret (v := .tuple #[vr 0 0, .bool false]) (by rw [results_cell_tmp rfl]; go_simp) rfl ?_
    exact ⟨rfl, TblIs.shut (s := s) ⟨HK.out, HST.out.dropL⟩⟩
  · obtain ⟨k, rfl⟩ := Int.eq_ofNat_of_zero_le (show 0 ≤ i by omega)
    by_cases hk : k < ps.length
    · obtain ⟨a, ha⟩ : ∃ a, ps[k]? = some a := ⟨ps[k], List.getElem?_eq_getElem hk⟩
      have hki : (k : Int) < (ps.length : Int) := by omega
      have e0 := HI.out.at_ ha (j := 0) rfl
      have e1 := HI.out.at_ ha (j := 1) rfl
      rw [Nat.add_zero] at e0
      cases ht : a.there with
      | false =>
        rw [ht] at e1
        rw [show atR ps k = (0, 0, false) by unfold atR; rw [if_neg (by omega), Int.toNat_natCast, ha]; simp [ht]]
        have hst : Sat w0 (pc w.heap.size 25 [vi 0, vu 0] * (tblB p s ps.length free.length * (tblL s ps * (tblF s free * F)))) (w.alloc (.cells #[vi 0, vu 0] 25)) := HS.out.alloc _
        have HST := Lib.hid hst
        go_enter Try.func50, Try.ntmps50
        go_wp2_with (go_at_call 45; (with_reducible refine HN.out.mono ?_); rintro e w1 ⟨rfl, rfl⟩)
        have o0 := HST.out.cell 0 rfl
        have o1 := HST.out.cell 1 rfl
        (try simp only [Exit.inBlock, Exit.then])
        refine bodyPost_ret (v := .tuple #[vr 0 0, .bool false]) (by rw [results_cell_tmp rfl]; go_simp) rfl ?_
        exact ⟨rfl, TblIs.shut (s := s) ⟨HK.out, HST.out.dropL⟩⟩
      | true =>
        rw [ht] at e1
        rw [show atR ps k = ((k : Int), a.gen, true) by unfold atR; rw [if_neg (by omega), Int.toNat_natCast, ha]; simp [ht]]
        have hst : Sat w0 (pc w.heap.size 25 [vi k, vu a.gen] * (tblB p s ps.length free.length * (tblL s ps * (tblF s free * F)))) (w.alloc (.cells #[vi k, vu a.gen] 25)) := HS.out.alloc _
        have HST := Lib.hid hst
        generalize a.gen = gn at *
        go_enter Try.func50, Try.ntmps50
        go_wp2_with (go_at_call 45; (with_reducible refine HN.out.mono ?_); rintro e w1 ⟨rfl, rfl⟩)
        have o0 := HST.out.cell 0 rfl
        have o1 := HST.out.cell 1 rfl
        (try simp only [Exit.inBlock, Exit.then])
        refine bodyPost_ret (v := .tuple #[vr k gn, .bool true]) (by rw [results_cell_tmp rfl]; go_simp) rfl ?_
        exact ⟨rfl, TblIs.shut (s := s) ⟨HK.out, HST.out.dropL⟩⟩
    · have hki : ¬ (k : Int) < (ps.length : Int) := by omega
      rw [show atR ps k = (0, 0, false) by unfold atR; rw [if_neg (by omega), Int.toNat_natCast, List.getElem?_eq_none (by omega)]]
      have hst : Sat w0 (pc w.heap.size 25 [vi 0, vu 0] * (tblB p s ps.length free.length * (tblL s ps * (tblF s free * F)))) (w.alloc (.cells #[vi 0, vu 0] 25)) := HS.out.alloc _
      have HST := Lib.hid hst
      go_enter Try.func50, Try.ntmps50
      go_wp2_with (go_at_call 45; (with_reducible refine HN.out.mono ?_); rintro e w1 ⟨rfl, rfl⟩)
      have o0 := HST.out.cell 0 rfl
      have o1 := HST.out.cell 1 rfl
      (try simp only [Exit.inBlock, Exit.then])
      refine bodyPost_ret (v := .tuple #[vr 0 0, .bool false]) (by rw [results_cell_tmp rfl]; go_simp) rfl ?_
      exact ⟨rfl, TblIs.shut (s := s) ⟨HK.out, HST.out.dropL⟩⟩
end
end Go.Proofs.Ytffjckdaekamgaa.Ag
