/-
  Contracts of package arena: At, Retired, New, Copy. No statement is proved here.
-/
import Derived.Test.YtjealmaddjepnaaArena3
namespace Go.Proofs.Ytjealmaddjepnaa.Ar
open Go.RowKit
set_option linter.unusedVariables false

def atP (ps : List Pl) (i : Int) : Option (Nat × Pl) :=
  if i < 0 then none else match ps[i.toNat]? with
    | none => none
    | some a => if a.there then some (i.toNat, a) else none
def atV (ps : List Pl) (i : Int) : Value := match atP ps i with
  | none => .tuple #[vr 0 0, .bool false]
  | some (k, a) => .tuple #[vr k a.gen, .bool true]

section
variable {w0 w : World} {p : Nat} {s : TblS} {ps : List Pl} {free : List Nat} {F : Hp}

set_option maxRecDepth 100000 in
set_option maxHeartbeats 2000000 in
theorem at_ (h : Sat w0 (tblP p ps free * F) w) (i : Int) :
    Calls Try.prog 14 #[vp p, vi i] w fun e w' => e = .returned (atV ps i) ∧ Sat w0 (tblP p ps free * F) w' := by
  obtain ⟨s, hs⟩ := open_ h
  have hB : Sat w0 (pc w.heap.size 35 [vi 0, vu 0] * (tblB p s ps.length free.length * (tblL s ps * (tblF s free * F)))) (w.alloc (.cells #[vi 0, vu 0] 35)) := hs.sat.alloc (.cells #[vi 0, vu 0] 35)
  have hI := hs.alloc (.cells #[vi 0, vu 0] 35)
  have hok := Lib.hid hs.ok
  have H := Lib.hid (none_ hI)
  have c0 := hI.c0
  have hsm := hs.ok.small
  have b0 := hB.cell 0 rfl
  have b1 := hB.cell 1 rfl
  have bf0 := hB.free 0
  have bf1 := hB.free 1
  have hbp : w.heap.size ≠ p := hB.ne
  have hba : w.heap.size ≠ s.a := by
    have := hB.drop2
    exact this.slNe
  have HB := Lib.hid hB
  have HI := Lib.hid hI
  clear h hB hI hs
  generalize hwb : w.alloc (.cells #[vi 0, vu 0] 35) = wb at *
  have HW := Lib.hid hwb
  generalize hbx : w.heap.size = bx at *
  have HBX := Lib.hid hbx
  clear hwb hbx
  have hNo : ∀ v0 v1, Sat w0 (tblP p ps free * F) ((wb.setCell ⟨bx, 0, none⟩ v0).setCell ⟨bx, 1, none⟩ v1) := fun v0 v1 =>
    TblIs.shut (s := s) ⟨hok.out, ((HB.out.store 0 v0).store 1 v1).dropL⟩
  have HNo := Lib.hid hNo
  clear hNo
  have hNo' : Sat w0 (tblP p ps free * F) wb := TblIs.shut (s := s) ⟨hok.out, HB.out.dropL⟩
  have HNo' := Lib.hid hNo'
  clear hNo'
  by_cases h1 : i < 0
  · have hv : atV ps i = .tuple #[vr 0 0, .bool false] := by simp only [atV, atP, if_pos h1]
    have HV := Lib.hid hv
    clear hv
    go_enter Try.func14, Try.ntmps14
    go_wp2_with fail
    rw [HW.out, HBX.out]
    refine H.out.mono ?_
    rintro e w' ⟨rfl, rfl⟩
    go_wp2
    (try simp only [Exit.inBlock, Exit.then])
    refine bodyPost_ret (v := .tuple #[vr 0 0, .bool false]) (by rw [results_cell_tmp rfl]; go_simp) rfl ?_
    exact ⟨by rw [HV.out], by first | exact HNo.out _ _ | exact HNo'.out⟩
  · obtain ⟨k, rfl⟩ := Int.eq_ofNat_of_zero_le (show 0 ≤ i by omega)
    by_cases h2 : ps.length ≤ k
    · have h2' : (ps.length : Int) ≤ (k : Int) := by omega
      have hv : atV ps k = .tuple #[vr 0 0, .bool false] := by simp [atV, atP, List.getElem?_eq_none h2]
      have HV := Lib.hid hv
      clear hv
      go_enter Try.func14, Try.ntmps14
      go_wp2_with fail
      rw [HW.out, HBX.out]
      refine H.out.mono ?_
      rintro e w' ⟨rfl, rfl⟩
      go_wp2
      (try simp only [Exit.inBlock, Exit.then])
      refine bodyPost_ret (v := .tuple #[vr 0 0, .bool false]) (by rw [results_cell_tmp rfl]; go_simp) rfl ?_
      exact ⟨by rw [HV.out], by first | exact HNo.out _ _ | exact HNo'.out⟩
    · have h2' : ¬ (ps.length : Int) ≤ (k : Int) := by omega
      have h2i : (k : Int) < (ps.length : Int) := by omega
      obtain ⟨a, ha⟩ : ∃ a, ps[k]? = some a := ⟨ps[k], List.getElem?_eq_getElem (by omega)⟩
      obtain ⟨gen, there, retired, x⟩ := a
      have e0 := HI.out.at_ (j := 0) ha rfl
      have e1 := HI.out.at_ (j := 1) ha rfl
      rw [Nat.add_zero] at e0
      have Ha := Lib.hid ha
      clear ha
      cases there with
      | false =>
        have hv : atV ps k = .tuple #[vr 0 0, .bool false] := by simp [atV, atP, Ha.out]
        have HV := Lib.hid hv
        clear hv
        go_enter Try.func14, Try.ntmps14
        go_wp2_with fail
        rw [HW.out, HBX.out]
        refine H.out.mono ?_
        rintro e w' ⟨rfl, rfl⟩
        go_wp2
        (try simp only [Exit.inBlock, Exit.then])
        refine bodyPost_ret (v := .tuple #[vr 0 0, .bool false]) (by rw [results_cell_tmp rfl]; go_simp) rfl ?_
        exact ⟨by rw [HV.out], by first | exact HNo.out _ _ | exact HNo'.out⟩
      | true =>
        have hv : atV ps k = .tuple #[vr k gen, .bool true] := by simp [atV, atP, Ha.out, if_neg h1]
        have HV := Lib.hid hv
        clear hv
        go_enter Try.func14, Try.ntmps14
        go_wp2_with fail
        rw [HW.out, HBX.out]
        refine H.out.mono ?_
        rintro e w' ⟨rfl, rfl⟩
        go_wp2
        (try simp only [Exit.inBlock, Exit.then])
        refine bodyPost_ret (v := .tuple #[vr k gen, .bool true]) (by rw [results_cell_tmp rfl]; go_simp) rfl ?_
        exact ⟨by rw [HV.out], HNo.out _ _⟩

theorem retired_ (h : Sat w0 (tblP p ps free * F) w) :
    Calls Try.prog 37 #[vp p] w fun e w' => e = .returned (vi (ps.countP Pl.retired)) ∧ Sat w0 (tblP p ps free * F) w' := by
  obtain ⟨s, hs⟩ := open_ h
  have H := Lib.hid (none_ hs)
  have c0 := hs.c0
  have hsm := hs.ok.small
  have HS := Lib.hid hs
  clear hs h
  go_enter Try.func37, Try.ntmps37
  go_wp2_with (go_at_call 29; refine H.out.mono ?_; rintro e w' ⟨rfl, rfl⟩)
  go_loopw [2, 12] (fun n i wr => ∃ k : Nat, k ≤ ps.length ∧ i = vi k ∧ n = vi ((ps.take k).countP Pl.retired) ∧ TblIs w0 p s ps free F wr) (fun _ i _ => ps.length - (intOf i).toNat)
  case atStart => exact ⟨0, Nat.zero_le _, rfl, by simp, HS.out⟩
  case round =>
    obtain ⟨k, hk, rfl, rfl, hT⟩ := hrel
    by_cases hlt : k < ps.length
    · obtain ⟨a, ha⟩ : ∃ a, ps[k]? = some a := ⟨ps[k], List.getElem?_eq_getElem hlt⟩
      have htk : (ps.take (k + 1)).countP Pl.retired = (ps.take k).countP Pl.retired + if a.retired then 1 else 0 := by
        rw [List.take_add_one, ha, List.countP_append]
        simp [List.countP_cons]
      have hle : (ps.take k).countP Pl.retired ≤ 4096 := Nat.le_trans List.countP_le_length (by rw [List.length_take]; omega)
      have e0 := hT.at_ (j := 0) ha rfl
      have e1 := hT.at_ (j := 1) ha rfl
      have e2 := hT.at_ (j := 2) ha rfl
      have e3 := hT.at_ (j := 3) ha rfl
      rw [Nat.add_zero] at e0
      have HT := Lib.hid hT
      have Htk := Lib.hid htk
      clear hT ha htk
      generalize hc : (ps.take k).countP Pl.retired = c at *
      obtain ⟨gen, there, retired, x⟩ := a
      have hcz : IntKind.i64.wrap ((c : Int) + 1) = (c : Int) + 1 := IntWalk.i64_in _ (by omega)
      cases retired
      · go_wp2
        go_roundw
        case rel => exact ⟨k + 1, by omega, by go_num, by rw [Htk.out]; rfl, HT.out.alloc _⟩
        case measure => simp [intOf]; omega
      · go_wp2
        go_roundw
        case rel => exact ⟨k + 1, by omega, by go_num, by rw [Htk.out]; rfl, HT.out.alloc _⟩
        case measure => simp [intOf]; omega
    · obtain rfl : k = ps.length := by omega
      have HT := Lib.hid hT
      clear hT
      go_wp2
      go_ret
      exact ⟨by rw [List.take_length]; rfl, HT.out.shut⟩
end
end Go.Proofs.Ytjealmaddjepnaa.Ar
