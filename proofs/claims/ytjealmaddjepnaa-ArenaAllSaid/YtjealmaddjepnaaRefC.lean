/-
  Contracts of the reference's table: Get, Set, Drop where a ref names something; Free. No statement is proved here.
-/
import Derived.Test.YtjealmaddjepnaaRefB
namespace Go.Proofs.Ytjealmaddjepnaa.Ar
open Go.RowKit
set_option linter.unusedVariables false

section
variable {w0 w : World} {q : Nat} {rs : List RP} {times : Int} {F : Hp}
theorem ris_yes {v : Value} (h : Sat w0 (refB q v times * (refL v rs * F)) w) (hs : rs.length ≤ 4096) (i g : Int) {k : Nat} {a : RP} (hA : isR rs i g = some (k, a)) :
    Calls Try.prog 41 #[vp q, vr i g] (w.alloc (.cells #[vi i, vu g] 35)) fun e w' => e = .returned (.bool true) ∧ Sat w0 (refB q v times * (refL v rs * (pc w.heap.size 35 [vi i, vu g] * F))) w' := by
  have hB : Sat w0 (pc w.heap.size 35 [vi i, vu g] * (refB q v times * (refL v rs * F))) (w.alloc (.cells #[vi i, vu g] 35)) := h.alloc (.cells #[vi i, vu g] 35)
  exact (ris_at hB.rot3 hs i g).mono fun e w' ⟨h1, h2⟩ => ⟨by rw [h1, hA]; rfl, h2⟩

theorem rget_yes (h : Sat w0 (refP q rs times * F) w) (hs : rs.length ≤ 4096) (i g : Int) {k : Nat} {a : RP} (hA : isR rs i g = some (k, a)) :
    Calls Try.prog 25 #[vp q, vr i g] w fun e w' => e = .returned (.tuple #[vi a.x, vi 0]) ∧ Sat w0 (refP q rs times * F) w' := by
  obtain ⟨v, hv⟩ := ropen h
  have H := Lib.hid (ris_yes hv hs i g hA)
  obtain ⟨ao, cap, rfl⟩ := hv.pull2.rd.len
  obtain ⟨h1, rfl, h3, h4⟩ := isR_some hA
  have hkl : k < rs.length := (List.getElem?_eq_some_iff.1 h1).1
  have hkl' : (k : Int) < (rs.length : Int) := by omega
  have HA := Lib.hid h1
  clear h hv hA h1 h3 h4
  go_enter Try.func25, Try.ntmps25
  go_wp2_with (go_at_call 41; refine H.out.mono ?_; rintro e w1 ⟨rfl, hS⟩; have HS := Lib.hid hS; clear hS)
  obtain ⟨b, c, hv, hqb, hc, hfr⟩ := rat HS.out (by omega)
  cases hv
  have c0 := HS.out.cell 0 rfl
  have e3 := hc k 3 _ _ HA.out rfl
  have b0 := HS.out.pull3.cell 0 rfl
  clear hc hfr
  go_quiet (fail)
  go_wp2
  go_ret2
  exact ⟨rfl, (rshut (HS.out.drewN _)).drop2⟩

set_option maxRecDepth 100000 in
theorem rset_yes (h : Sat w0 (refP q rs times * F) w) (hs : rs.length ≤ 4096) (i g x : Int) {k : Nat} {a : RP} (hA : isR rs i g = some (k, a)) :
    Calls Try.prog 27 #[vp q, vr i g, vi x] w fun e w' => e = .returned (vi 0) ∧ Sat w0 (refP q (rs.set k { a with x := x }) times * F) w' := by
  obtain ⟨v, hv⟩ := ropen h
  have H := Lib.hid (ris_yes hv hs i g hA)
  obtain ⟨ao, cap, rfl⟩ := hv.pull2.rd.len
  obtain ⟨h1, rfl, h3, h4⟩ := isR_some hA
  have hkl : k < rs.length := (List.getElem?_eq_some_iff.1 h1).1
  have hkl' : (k : Int) < (rs.length : Int) := by omega
  have HA := Lib.hid h1
  clear h hv hA h1 h3 h4
  go_enter Try.func27, Try.ntmps27
  go_wp2_with (go_at_call 41; refine H.out.mono ?_; rintro e w1 ⟨rfl, hS⟩; have HS := Lib.hid hS; clear hS)
  obtain ⟨b, c, hv, hqb, hc, hfr⟩ := rat HS.out (by omega)
  cases hv
  have c0 := HS.out.cell 0 rfl
  have e3 := hc k 3 _ _ HA.out rfl
  have f3 := hfr (k * 5 + 3)
  have b0 := HS.out.pull3.cell 0 rfl
  clear hc hfr
  refine wp_quiet_tail 9 (by kernel_rfl) (by kernel_rfl) ?_
  simp only [List.take_succ_cons, List.take_zero, List.drop_succ_cons, List.drop_zero]
  repeat (go_big_quiet_step (fail))
  refine wpQuiet_nil ?_
  go_wp2
  go_ret
  refine ⟨rfl, ?_⟩
  have a1 := (HS.out.drewN 1).pull2.slStore (k * 5 + 3) (by omega) (vi x)
  rw [flat_set RP.len rs k 3 _ { a with x := x } (vi x) HA.out (by omega) rfl] at a1
  have hl : (rs.set k { a with x := x }).length = rs.length := List.length_set
  have a2 : Sat w0 (refB q (.slice (some ⟨b, 0, none⟩) rs.length cap) times * (refL (.slice (some ⟨b, 0, none⟩) rs.length cap) (rs.set k { a with x := x }) * (pc w.heap.size 35 [vi k, vu g] * F))) _ := a1.pull2.cast (by rw [refL, hl])
  exact (rshut a2).drop2

/-- The reference's free places. -/
def rfreeL (rs : List RP) (k : Nat) : List Nat := (List.range k).filter fun i => match rs[i]? with | some a => !a.there && !a.retired | none => false
theorem rfreeL_succ (rs : List RP) (k : Nat) {a : RP} (h : rs[k]? = some a) : rfreeL rs (k + 1) = if !a.there && !a.retired then rfreeL rs k ++ [k] else rfreeL rs k := by
  unfold rfreeL
  rw [List.range_succ, List.filter_append]
  simp only [List.filter_cons, List.filter_nil, h]
  split <;> simp_all
theorem rfreeL_le (rs : List RP) (k : Nat) : (rfreeL rs k).length ≤ k := by
  have := List.length_filter_le (fun i => match rs[i]? with | some a => !a.there && !a.retired | none => false) (List.range k)
  rw [List.length_range] at this
  exact this

set_option maxRecDepth 100000 in
set_option maxHeartbeats 2000000 in
theorem rfree_o {ao : Option Addr} {cap : Nat} (hv : Sat w0 (refB q (.slice ao rs.length cap) times * (refL (.slice ao rs.length cap) rs * F)) w) (hs : rs.length ≤ 4096) :
    Calls Try.prog 36 #[vp q] w fun e w' => ∃ v, e = .returned v ∧ Sat w0 (sl 3 1 v (rfreeL rs rs.length).length ((rfreeL rs rs.length).map fun k : Nat => vi k) * (refB q (.slice ao rs.length cap) times * (refL (.slice ao rs.length cap) rs * F))) w' := by
  have H := Lib.hid hv
  clear hv
  go_enter Try.func36, Try.ntmps36
  go_wp2
  go_loopw [3, 4] (fun v i wr => ∃ k : Nat, k ≤ rs.length ∧ i = vi k ∧ Sat w0 (sl 3 1 v (rfreeL rs k).length ((rfreeL rs k).map fun k : Nat => vi k) * (refB q (.slice ao rs.length cap) times * (refL (.slice ao rs.length cap) rs * F))) wr) (fun _ i _ => rs.length - (intOf i).toNat)
  case atStart => exact ⟨0, Nat.zero_le _, rfl, H.out.addNil _ _⟩
  case round =>
    obtain ⟨k, hk, rfl, hS⟩ := hrel
    obtain ⟨fo, fcap, rfl⟩ := hS.rd.len
    have c0 := hS.pull2.cell 0 rfl
    by_cases hlt : k < rs.length
    · obtain ⟨a, ha⟩ : ∃ a, rs[k]? = some a := ⟨rs[k], List.getElem?_eq_getElem hlt⟩
      obtain ⟨b, c, hv, hqb, hc, hfr⟩ := rat (hS.rot3.cast (by ac_rfl) : Sat w0 (refB q (.slice ao rs.length cap) times * (refL (.slice ao rs.length cap) rs * (sl 3 1 (.slice fo (rfreeL rs k).length fcap) (rfreeL rs k).length ((rfreeL rs k).map fun k : Nat => vi k) * F))) wr) (by omega)
      cases hv
      have e1 := hc k 1 _ _ ha rfl
      have e2 := hc k 2 _ _ ha rfl
      have hkl' : (k : Int) < (rs.length : Int) := by omega
      have hsuc := rfreeL_succ rs k ha
      have hle := rfreeL_le rs k
      have HS := Lib.hid hS
      have HX := Lib.hid hsuc
      clear hc hfr hS hsuc ha
      obtain ⟨gen, there, retired, x, freed⟩ := a
      simp only at e1 e2 HX
      generalize rfreeL rs k = fl at *
      cases there
      · cases retired
        · go_wp2_with (at_builtin; refine wpList_append_sl Einti rfl (.tmp 34) (.tmp 36) rfl rfl (HS.out.alloc' _) (by rfl) (Rd.one _ _ (vi k)) (by simp [Value.oneCell']) (by unfold maxLen; omega) (by omega) ?_; intro ao2 cap2 w3 hS2; have H3 := Lib.hid hS2; clear hS2)
          go_roundw
          case rel => exact ⟨k + 1, by omega, by go_num, H3.out.cast (by rw [HX.out]; simp)⟩
          case measure => (simp [intOf]; try omega)
        · go_wp2
          go_roundw
          case rel => exact ⟨k + 1, by omega, by go_num, HS.out.cast (by rw [HX.out]; simp)⟩
          case measure => (simp [intOf]; try omega)
      · go_wp2
        go_roundw
        case rel => exact ⟨k + 1, by omega, by go_num, HS.out.cast (by rw [HX.out]; simp)⟩
        case measure => (simp [intOf]; try omega)
    · obtain rfl : k = rs.length := by omega
      have HS := Lib.hid hS
      clear hS
      go_wp2
      go_ret
      exact ⟨_, rfl, HS.out⟩
theorem rfree (h : Sat w0 (refP q rs times * F) w) (hs : rs.length ≤ 4096) :
    Calls Try.prog 36 #[vp q] w fun e w' => ∃ v, e = .returned v ∧ Sat w0 (sl 3 1 v (rfreeL rs rs.length).length ((rfreeL rs rs.length).map fun k : Nat => vi k) * (refP q rs times * F)) w' := by
  obtain ⟨v, hv⟩ := ropen h
  obtain ⟨ao, cap, rfl⟩ := hv.pull2.rd.len
  exact (rfree_o hv hs).mono fun e w' ⟨u, he, hS⟩ => ⟨u, he, (rshut hS.rot3).pull2.cast (by ac_rfl)⟩
end
end Go.Proofs.Ytjealmaddjepnaa.Ar
