/-
  The reference of layer 9: Join, Leave, Use, Clear. No statement is proved here.
-/
import Derived.Test.YtfioghpnehfjhaaRd7
namespace Go.Proofs.Ytfioghpnehfjhaa.Dm
open Go.RowKit Ad
set_option linter.unusedVariables false
set_option linter.unusedSimpArgs false

section
variable {w0 w : World} {F : Hp} {q b cap : Nat} {rs : List One} {fr : List Nat} {vF : Value}
set_option maxRecDepth 100000 in
set_option maxHeartbeats 4000000 in
theorem rjoin_stale (hS : Sat w0 (rdB q b rs.length cap vF * (rdL b cap rs * F)) w) (i g : Int) (hi : isR rs i g = false) :
    Calls Try.prog 52 #[vp q, vr i g] w fun e w' => e = .returned (vi 11) ∧ Sat w0 (rdB q b rs.length cap vF * (rdL b cap rs * F)) w' := by
  have hB : Sat w0 (pc w.heap.size 32 [vi i, vu g] * (rdB q b rs.length cap vF * (rdL b cap rs * F))) (w.alloc (.cells #[vi i, vu g] 32)) := hS.alloc _
  have i0 := hB.cell 0 rfl
  have i1 := hB.cell 1 rfl
  have HB := Lib.hid hB
  have HI := Lib.hid (rd_is (hB.cast (show _ = rdB q b rs.length cap vF * (rdL b cap rs * (pc w.heap.size 32 [vi i, vu g] * F)) by ac_rfl)) i g)
  rw [hi] at HI
  clear hS hB hi
  go_enter Try.func52, Try.ntmps52
  go_wp2_with (go_at_call 63; refine HI.out.mono ?_; rintro e w1 ⟨rfl, hS1⟩; have hT : Sat w0 (pc w.heap.size 32 [vi i, vu g] * (rdB q b rs.length cap vF * (rdL b cap rs * F))) w1 := hS1.cast (by ac_rfl); clear i0 i1; have i0 := hT.cell 0 rfl; have i1 := hT.cell 1 rfl; have q0 := hT.pull2.cell 0 rfl; have HT := Lib.hid hT; clear hS1 hT)
  go_ret
  exact ⟨rfl, HT.out.dropL⟩
set_option maxRecDepth 100000 in
set_option maxHeartbeats 4000000 in
theorem rleave_stale (hS : Sat w0 (rdB q b rs.length cap vF * (rdL b cap rs * F)) w) (i g : Int) (hi : isR rs i g = false) :
    Calls Try.prog 54 #[vp q, vr i g] w fun e w' => e = .returned (vi 11) ∧ Sat w0 (rdB q b rs.length cap vF * (rdL b cap rs * F)) w' := by
  have hB : Sat w0 (pc w.heap.size 32 [vi i, vu g] * (rdB q b rs.length cap vF * (rdL b cap rs * F))) (w.alloc (.cells #[vi i, vu g] 32)) := hS.alloc _
  have i0 := hB.cell 0 rfl
  have i1 := hB.cell 1 rfl
  have HB := Lib.hid hB
  have HI := Lib.hid (rd_is (hB.cast (show _ = rdB q b rs.length cap vF * (rdL b cap rs * (pc w.heap.size 32 [vi i, vu g] * F)) by ac_rfl)) i g)
  rw [hi] at HI
  clear hS hB hi
  go_enter Try.func54, Try.ntmps54
  go_wp2_with (go_at_call 63; refine HI.out.mono ?_; rintro e w1 ⟨rfl, hS1⟩; have hT : Sat w0 (pc w.heap.size 32 [vi i, vu g] * (rdB q b rs.length cap vF * (rdL b cap rs * F))) w1 := hS1.cast (by ac_rfl); clear i0 i1; have i0 := hT.cell 0 rfl; have i1 := hT.cell 1 rfl; have q0 := hT.pull2.cell 0 rfl; have HT := Lib.hid hT; clear hS1 hT)
  go_ret
  exact ⟨rfl, HT.out.dropL⟩
set_option maxRecDepth 100000 in
set_option maxHeartbeats 4000000 in
theorem ruse_stale (hS : Sat w0 (rdB q b rs.length cap vF * (rdL b cap rs * F)) w) (i g : Int) (n : Int) (hi : isR rs i g = false) :
    Calls Try.prog 55 #[vp q, vr i g, vu n] w fun e w' => e = .returned (vi 11) ∧ Sat w0 (rdB q b rs.length cap vF * (rdL b cap rs * F)) w' := by
  have hB : Sat w0 (pc w.heap.size 32 [vi i, vu g] * (rdB q b rs.length cap vF * (rdL b cap rs * F))) (w.alloc (.cells #[vi i, vu g] 32)) := hS.alloc _
  have i0 := hB.cell 0 rfl
  have i1 := hB.cell 1 rfl
  have HB := Lib.hid hB
  have HI := Lib.hid (rd_is (hB.cast (show _ = rdB q b rs.length cap vF * (rdL b cap rs * (pc w.heap.size 32 [vi i, vu g] * F)) by ac_rfl)) i g)
  rw [hi] at HI
  clear hS hB hi
  go_enter Try.func55, Try.ntmps55
  go_wp2_with (go_at_call 63; refine HI.out.mono ?_; rintro e w1 ⟨rfl, hS1⟩; have hT : Sat w0 (pc w.heap.size 32 [vi i, vu g] * (rdB q b rs.length cap vF * (rdL b cap rs * F))) w1 := hS1.cast (by ac_rfl); clear i0 i1; have i0 := hT.cell 0 rfl; have i1 := hT.cell 1 rfl; have q0 := hT.pull2.cell 0 rfl; have HT := Lib.hid hT; clear hS1 hT)
  go_ret
  exact ⟨rfl, HT.out.dropL⟩
set_option maxRecDepth 100000 in
set_option maxHeartbeats 4000000 in
theorem rclear_stale (hS : Sat w0 (rdB q b rs.length cap vF * (rdL b cap rs * F)) w) (i g : Int) (hi : isR rs i g = false) :
    Calls Try.prog 56 #[vp q, vr i g] w fun e w' => e = .returned (vi 11) ∧ Sat w0 (rdB q b rs.length cap vF * (rdL b cap rs * F)) w' := by
  have hB : Sat w0 (pc w.heap.size 32 [vi i, vu g] * (rdB q b rs.length cap vF * (rdL b cap rs * F))) (w.alloc (.cells #[vi i, vu g] 32)) := hS.alloc _
  have i0 := hB.cell 0 rfl
  have i1 := hB.cell 1 rfl
  have HB := Lib.hid hB
  have HI := Lib.hid (rd_is (hB.cast (show _ = rdB q b rs.length cap vF * (rdL b cap rs * (pc w.heap.size 32 [vi i, vu g] * F)) by ac_rfl)) i g)
  rw [hi] at HI
  clear hS hB hi
  go_enter Try.func56, Try.ntmps56
  go_wp2_with (go_at_call 63; refine HI.out.mono ?_; rintro e w1 ⟨rfl, hS1⟩; have hT : Sat w0 (pc w.heap.size 32 [vi i, vu g] * (rdB q b rs.length cap vF * (rdL b cap rs * F))) w1 := hS1.cast (by ac_rfl); clear i0 i1; have i0 := hT.cell 0 rfl; have i1 := hT.cell 1 rfl; have q0 := hT.pull2.cell 0 rfl; have HT := Lib.hid hT; clear hS1 hT)
  go_ret
  exact ⟨rfl, HT.out.dropL⟩
set_option maxRecDepth 100000 in
set_option maxHeartbeats 4000000 in
theorem rleave_state (hS : Sat w0 (rdB q b rs.length cap vF * (rdL b cap rs * F)) w) (k : Nat) (a : One) (ha : rs[k]? = some a) (his : a.is = true) (ho : a.own = 0) :
    Calls Try.prog 54 #[vp q, vr k a.gen] w fun e w' => e = .returned (vi 5) ∧ Sat w0 (rdB q b rs.length cap vF * (rdL b cap rs * F)) w' := by
  have hk : k < rs.length := (List.getElem?_eq_some_iff.1 ha).1
  have hki : (k : Int) < (rs.length : Int) := by omega
  have HA := Lib.hid ha
  have hB : Sat w0 (pc w.heap.size 32 [vi k, vu a.gen] * (rdB q b rs.length cap vF * (rdL b cap rs * F))) (w.alloc (.cells #[vi k, vu a.gen] 32)) := hS.alloc _
  have i0 := hB.cell 0 rfl
  have i1 := hB.cell 1 rfl
  have HB := Lib.hid hB
  have HI := Lib.hid (rd_is (hB.cast (show _ = rdB q b rs.length cap vF * (rdL b cap rs * (pc w.heap.size 32 [vi k, vu a.gen] * F)) by ac_rfl)) k a.gen)
  have hi : isR rs k a.gen = true := by
    unfold isR
    rw [if_neg (by omega), Int.toNat_natCast, ha]
    simp [his]
  rw [hi] at HI
  clear hS hB hi his ha
  generalize a.gen = ag at *
  go_enter Try.func54, Try.ntmps54
  go_wp2_with (go_at_call 63; refine HI.out.mono ?_; rintro e w1 ⟨rfl, hS1⟩; have hT : Sat w0 (pc w.heap.size 32 [vi k, vu ag] * (rdB q b rs.length cap vF * (rdL b cap rs * F))) w1 := hS1.cast (by ac_rfl); clear i0 i1; have i0 := hT.cell 0 rfl; have i1 := hT.cell 1 rfl; have q0 := hT.pull2.cell 0 rfl; have e7 := hT.pull3.slCell _ (flat_get (j := 7) One.len HA.out rfl); rw [ho] at e7; have HT := Lib.hid hT; clear hS1 hT)
  go_quiet (fail)
  go_wp2
  go_ret
  exact ⟨rfl, HT.out.dropL.drewN _⟩
set_option maxRecDepth 100000 in
set_option maxHeartbeats 4000000 in
theorem rleave_ok (hS : Sat w0 (rdB q b rs.length cap vF * (rdL b cap rs * F)) w) (k : Nat) (a : One) (ha : rs[k]? = some a) (his : a.is = true) (ho : a.own ≠ 0) (hb : 0 ≤ a.own ∧ a.own ≤ 64) :
    Calls Try.prog 54 #[vp q, vr k a.gen] w fun e w' => e = .returned (vi 0) ∧ Sat w0 (rdB q b rs.length cap vF * (rdL b cap (rs.set k { a with own := a.own - 1 }) * F)) w' := by
  have hk : k < rs.length := (List.getElem?_eq_some_iff.1 ha).1
  have hki : (k : Int) < (rs.length : Int) := by omega
  have HA := Lib.hid ha
  have hB : Sat w0 (pc w.heap.size 32 [vi k, vu a.gen] * (rdB q b rs.length cap vF * (rdL b cap rs * F))) (w.alloc (.cells #[vi k, vu a.gen] 32)) := hS.alloc _
  have i0 := hB.cell 0 rfl
  have i1 := hB.cell 1 rfl
  have HB := Lib.hid hB
  have HI := Lib.hid (rd_is (hB.cast (show _ = rdB q b rs.length cap vF * (rdL b cap rs * (pc w.heap.size 32 [vi k, vu a.gen] * F)) by ac_rfl)) k a.gen)
  have hi : isR rs k a.gen = true := by
    unfold isR
    rw [if_neg (by omega), Int.toNat_natCast, ha]
    simp [his]
  rw [hi] at HI
  have hob : (a.own == 0) = false := beq_eq_false_iff_ne.2 ho
  have hw : IntKind.i64.wrap (a.own - 1) = a.own - 1 := IntWalk.i64_in _ (by omega)
  have HFin : Hid (∀ W, Sat w0 (sl 112 9 (.slice (some ⟨b, 0, none⟩) rs.length cap) rs.length (oflat (rs.set k { a with own := a.own - 1 })) * (pc w.heap.size 32 [vi k, vu a.gen] * (rdB q b rs.length cap vF * F))) W → Sat w0 (rdB q b rs.length cap vF * (rdL b cap (rs.set k { a with own := a.own - 1 }) * F)) W) := Lib.hid fun W h => (h.cast (show _ = (pc w.heap.size 32 [vi k, vu a.gen]) * (rdB q b rs.length cap vF * (rdL b cap (rs.set k { a with own := a.own - 1 }) * F)) by unfold rdL; rw [List.length_set]; ac_rfl)).dropL
  clear hS hB hi his ha ho hb
  go_enter Try.func54, Try.ntmps54
  go_wp2_with (go_at_call 63; refine HI.out.mono ?_; rintro e w1 ⟨rfl, hS1⟩; have hT : Sat w0 (pc w.heap.size 32 [vi k, vu a.gen] * (rdB q b rs.length cap vF * (rdL b cap rs * F))) w1 := hS1.cast (by ac_rfl); clear i0 i1; have i0 := hT.cell 0 rfl; have i1 := hT.cell 1 rfl; have q0 := hT.pull2.cell 0 rfl; have e7 := hT.pull3.slCell _ (flat_get (j := 7) One.len HA.out rfl); have f7 := hT.pull3.slFree (k * 9 + 7); have hst := hT.pull3.slStore (k * 9 + 7) (by omega) (vi (a.own - 1)); rw [flat_set One.len rs k 7 a ({ a with own := a.own - 1 } : One) _ HA.out (by omega) rfl] at hst; have HST := Lib.hid hst; clear hst; have HT := Lib.hid hT; clear hS1 hT)
  go_quiet (fail)
  go_wp2
  refine wp_quiet_tail 6 (by kernel_rfl) (by kernel_rfl) ?_
  simp only [List.take_succ_cons, List.take_zero, List.drop_succ_cons, List.drop_zero]
  repeat (go_big_quiet_step (fail))
  refine wpQuiet_nil ?_
  go_wp2
  go_ret
  first | exact ⟨rfl, HFin.out _ HST.out⟩ | exact ⟨rfl, HFin.out _ (HST.out.drewN 1)⟩ | exact ⟨rfl, HFin.out _ (HST.out.drewN 2)⟩ | exact ⟨rfl, HFin.out _ (HST.out.drewN _)⟩
set_option maxRecDepth 100000 in
set_option maxHeartbeats 4000000 in
theorem rclear_ok (hS : Sat w0 (rdB q b rs.length cap vF * (rdL b cap rs * F)) w) (k : Nat) (a : One) (ha : rs[k]? = some a) (his : a.is = true) :
    Calls Try.prog 56 #[vp q, vr k a.gen] w fun e w' => e = .returned (vi 0) ∧ Sat w0 (rdB q b rs.length cap vF * (rdL b cap (rs.set k { a with used := 0 }) * F)) w' := by
  have hk : k < rs.length := (List.getElem?_eq_some_iff.1 ha).1
  have hki : (k : Int) < (rs.length : Int) := by omega
  have HA := Lib.hid ha
  have hB : Sat w0 (pc w.heap.size 32 [vi k, vu a.gen] * (rdB q b rs.length cap vF * (rdL b cap rs * F))) (w.alloc (.cells #[vi k, vu a.gen] 32)) := hS.alloc _
  have i0 := hB.cell 0 rfl
  have i1 := hB.cell 1 rfl
  have HB := Lib.hid hB
  have HI := Lib.hid (rd_is (hB.cast (show _ = rdB q b rs.length cap vF * (rdL b cap rs * (pc w.heap.size 32 [vi k, vu a.gen] * F)) by ac_rfl)) k a.gen)
  have hi : isR rs k a.gen = true := by
    unfold isR
    rw [if_neg (by omega), Int.toNat_natCast, ha]
    simp [his]
  rw [hi] at HI
  have HFin : Hid (∀ W, Sat w0 (sl 112 9 (.slice (some ⟨b, 0, none⟩) rs.length cap) rs.length (oflat (rs.set k { a with used := 0 })) * (pc w.heap.size 32 [vi k, vu a.gen] * (rdB q b rs.length cap vF * F))) W → Sat w0 (rdB q b rs.length cap vF * (rdL b cap (rs.set k { a with used := 0 }) * F)) W) := Lib.hid fun W h => (h.cast (show _ = (pc w.heap.size 32 [vi k, vu a.gen]) * (rdB q b rs.length cap vF * (rdL b cap (rs.set k { a with used := 0 }) * F)) by unfold rdL; rw [List.length_set]; ac_rfl)).dropL
  clear hS hB hi his ha
  go_enter Try.func56, Try.ntmps56
  go_wp2_with (go_at_call 63; refine HI.out.mono ?_; rintro e w1 ⟨rfl, hS1⟩; have hT : Sat w0 (pc w.heap.size 32 [vi k, vu a.gen] * (rdB q b rs.length cap vF * (rdL b cap rs * F))) w1 := hS1.cast (by ac_rfl); clear i0 i1; have i0 := hT.cell 0 rfl; have i1 := hT.cell 1 rfl; have q0 := hT.pull2.cell 0 rfl; have e8 := hT.pull3.slCell _ (flat_get (j := 8) One.len HA.out rfl); have f8 := hT.pull3.slFree (k * 9 + 8); have hst := hT.pull3.slStore (k * 9 + 8) (by omega) (vu 0); rw [flat_set One.len rs k 8 a ({ a with used := 0 } : One) _ HA.out (by omega) rfl] at hst; have HST := Lib.hid hst; clear hst; have HT := Lib.hid hT; clear hS1 hT)
  refine wp_quiet_tail 6 (by kernel_rfl) (by kernel_rfl) ?_
  simp only [List.take_succ_cons, List.take_zero, List.drop_succ_cons, List.drop_zero]
  repeat (go_big_quiet_step (fail))
  refine wpQuiet_nil ?_
  go_wp2
  go_ret
  first | exact ⟨rfl, HFin.out _ HST.out⟩ | exact ⟨rfl, HFin.out _ HST.out.drew⟩ | exact ⟨rfl, HFin.out _ (HST.out.drew.drew)⟩
set_option maxRecDepth 100000 in
set_option maxHeartbeats 4000000 in
theorem ruse_ok (hS : Sat w0 (rdB q b rs.length cap vF * (rdL b cap rs * F)) w) (k : Nat) (a : One) (ha : rs[k]? = some a) (his : a.is = true) (n : Int) (hu : U64 a.used) (hn : U64 n) :
    Calls Try.prog 55 #[vp q, vr k a.gen, vu n] w fun e w' => e = .returned (vi 0) ∧ Sat w0 (rdB q b rs.length cap vF * (rdL b cap (rs.set k { a with used := addS a.used n }) * F)) w' := by
  have hk : k < rs.length := (List.getElem?_eq_some_iff.1 ha).1
  have hki : (k : Int) < (rs.length : Int) := by omega
  have HA := Lib.hid ha
  have hB : Sat w0 (pc w.heap.size 32 [vi k, vu a.gen] * (rdB q b rs.length cap vF * (rdL b cap rs * F))) (w.alloc (.cells #[vi k, vu a.gen] 32)) := hS.alloc _
  have i0 := hB.cell 0 rfl
  have i1 := hB.cell 1 rfl
  have HB := Lib.hid hB
  have HI := Lib.hid (rd_is (hB.cast (show _ = rdB q b rs.length cap vF * (rdL b cap rs * (pc w.heap.size 32 [vi k, vu a.gen] * F)) by ac_rfl)) k a.gen)
  have hi : isR rs k a.gen = true := by
    unfold isR
    rw [if_neg (by omega), Int.toNat_natCast, ha]
    simp [his]
  rw [hi] at HI
  unfold U64 at hu hn
  have hw : IntKind.u64.wrap (18446744073709551615 - a.used) = 18446744073709551615 - a.used := IntWalk.u64_in _ (by omega)
  have HFin : Hid (∀ W, Sat w0 (sl 112 9 (.slice (some ⟨b, 0, none⟩) rs.length cap) rs.length (oflat (rs.set k { a with used := addS a.used n })) * (pc w.heap.size 32 [vi k, vu a.gen] * (rdB q b rs.length cap vF * F))) W → Sat w0 (rdB q b rs.length cap vF * (rdL b cap (rs.set k { a with used := addS a.used n }) * F)) W) := Lib.hid fun W h => (h.cast (show _ = (pc w.heap.size 32 [vi k, vu a.gen]) * (rdB q b rs.length cap vF * (rdL b cap (rs.set k { a with used := addS a.used n }) * F)) by unfold rdL; rw [List.length_set]; ac_rfl)).dropL
  clear hS hB hi his ha
  by_cases hx : 18446744073709551615 - a.used < n
  · have hadd : addS a.used n = 18446744073709551615 := by
      unfold addS addP
      rw [if_pos (by omega)]
      rfl
    rw [hadd] at HFin
    go_enter Try.func55, Try.ntmps55
    go_wp2_with (go_at_call 63; refine HI.out.mono ?_; rintro e w1 ⟨rfl, hS1⟩; have hT : Sat w0 (pc w.heap.size 32 [vi k, vu a.gen] * (rdB q b rs.length cap vF * (rdL b cap rs * F))) w1 := hS1.cast (by ac_rfl); clear i0 i1; have i0 := hT.cell 0 rfl; have i1 := hT.cell 1 rfl; have q0 := hT.pull2.cell 0 rfl; have e8 := hT.pull3.slCell _ (flat_get (j := 8) One.len HA.out rfl); have f8 := hT.pull3.slFree (k * 9 + 8); have hst := fun (N : Nat) => (hT.drewN N).pull3.slStore (k * 9 + 8) (by omega) (vu 18446744073709551615); simp only [flat_set One.len rs k 8 a ({ a with used := 18446744073709551615 } : One) _ HA.out (by omega) rfl] at hst; have HST := Lib.hid hst; clear hst; have HT := Lib.hid hT; clear hS1 hT)
    go_quiet (fail)
    go_wp2
    refine wp_quiet_tail 6 (by kernel_rfl) (by kernel_rfl) ?_
    simp only [List.take_succ_cons, List.take_zero, List.drop_succ_cons, List.drop_zero]
    repeat (go_big_quiet_step (fail))
    refine wpQuiet_nil ?_
    go_wp2
    go_ret
    rw [hadd]
    exact ⟨rfl, HFin.out _ (HST.out _)⟩
  · have hadd : addS a.used n = a.used + n := by
      unfold addS addP
      rw [if_neg (by omega)]
      rfl
    have hw2 : IntKind.u64.wrap (a.used + n) = a.used + n := IntWalk.u64_in _ (by omega)
    rw [hadd] at HFin
    go_enter Try.func55, Try.ntmps55
    go_wp2_with (go_at_call 63; refine HI.out.mono ?_; rintro e w1 ⟨rfl, hS1⟩; have hT : Sat w0 (pc w.heap.size 32 [vi k, vu a.gen] * (rdB q b rs.length cap vF * (rdL b cap rs * F))) w1 := hS1.cast (by ac_rfl); clear i0 i1; have i0 := hT.cell 0 rfl; have i1 := hT.cell 1 rfl; have q0 := hT.pull2.cell 0 rfl; have e8 := hT.pull3.slCell _ (flat_get (j := 8) One.len HA.out rfl); have f8 := hT.pull3.slFree (k * 9 + 8); have hst := fun (N : Nat) => (hT.drewN N).pull3.slStore (k * 9 + 8) (by omega) (vu (a.used + n)); simp only [flat_set One.len rs k 8 a ({ a with used := a.used + n } : One) _ HA.out (by omega) rfl] at hst; have HST := Lib.hid hst; clear hst; have HT := Lib.hid hT; clear hS1 hT)
    go_quiet (fail)
    go_wp2
    refine wp_quiet_tail 9 (by kernel_rfl) (by kernel_rfl) ?_
    simp only [List.take_succ_cons, List.take_zero, List.drop_succ_cons, List.drop_zero]
    repeat (go_big_quiet_step (fail))
    refine wpQuiet_nil ?_
    go_wp2
    go_ret
    rw [hadd]
    exact ⟨rfl, HFin.out _ (HST.out _)⟩
set_option maxRecDepth 100000 in
set_option maxHeartbeats 4000000 in
theorem rjoin_quota (hS : Sat w0 (rdB q b rs.length cap vF * (rdL b cap rs * F)) w) (k : Nat) (a : One) (ha : rs[k]? = some a) (his : a.is = true) (cl : Nat → List (Int × Int)) (hcl : Chains rs cl) (hok : OneOk rs) (hq : (getRR rs cl k a).v2 ≤ (getRR rs cl k a).v7 + (getRR rs cl k a).v5) :
    Calls Try.prog 52 #[vp q, vr k a.gen] w fun e w' => e = .returned (vi 15) ∧ Sat w0 (rdB q b rs.length cap vF * (rdL b cap rs * F)) w' := by
  have hk : k < rs.length := (List.getElem?_eq_some_iff.1 ha).1
  have hki : (k : Int) < (rs.length : Int) := by omega
  have HA := Lib.hid ha
  have hB : Sat w0 (pc w.heap.size 32 [vi k, vu a.gen] * (rdB q b rs.length cap vF * (rdL b cap rs * F))) (w.alloc (.cells #[vi k, vu a.gen] 32)) := hS.alloc _
  have i0 := hB.cell 0 rfl
  have i1 := hB.cell 1 rfl
  have HB := Lib.hid hB
  have HI := Lib.hid (rd_is (hB.cast (show _ = rdB q b rs.length cap vF * (rdL b cap rs * (pc w.heap.size 32 [vi k, vu a.gen] * F)) by ac_rfl)) k a.gen)
  have hi : isR rs k a.gen = true := by
    unfold isR
    rw [if_neg (by omega), Int.toNat_natCast, ha]
    simp [his]
  rw [hi] at HI
  have hbd := getRR_bd hok cl ha
  have HG : Hid (∀ (w1 : World), Sat w0 (rdB q b rs.length cap vF * (rdL b cap rs * (pc w.heap.size 32 [vi k, vu a.gen] * F))) w1 → Calls Try.prog 64 #[vp q, vr k a.gen] w1 fun e w' => e = .returned (ev (getRR rs cl k a)) ∧ Sat w0 (rdB q b rs.length cap vF * (rdL b cap rs * (pc w.heap.size 32 [vi k, vu a.gen] * F))) w') := Lib.hid fun w1 h1 => rd_get h1 k a.gen a ha cl hcl hok
  clear hS hB hi his ha hcl hok
  generalize getRR rs cl k a = x at *
  obtain ⟨v0, v1, v2, v3, v4, v5, v6, v7, v8, v9, v10⟩ := x
  simp only at hbd hq
  have hw : IntKind.i64.wrap (v7 + v5) = v7 + v5 := IntWalk.i64_in _ (by omega)
  go_enter Try.func52, Try.ntmps52
  go_wp2_with (first | (go_at_call 63; refine HI.out.mono ?_; rintro e w1 ⟨rfl, hS1⟩; have hT : Sat w0 (pc w.heap.size 32 [vi k, vu a.gen] * (rdB q b rs.length cap vF * (rdL b cap rs * F))) w1 := hS1.cast (by ac_rfl); clear i0 i1; have i0 := hT.cell 0 rfl; have i1 := hT.cell 1 rfl; have q0 := hT.pull2.cell 0 rfl; have HT := Lib.hid hT; clear hS1 hT) | (go_at_call 64; refine (HG.out _ (HT.out.cast (show _ = rdB q b rs.length cap vF * (rdL b cap rs * (pc w.heap.size 32 [vi k, vu a.gen] * F)) by ac_rfl))).mono ?_; rintro e w2 ⟨rfl, hS2⟩; have hX := hS2.alloc (elO ⟨v0, v1, v2, v3, v4, v5, v6, v7, v8, v9, v10⟩); have hX2 : Sat w0 (pc w2.heap.size 45 (elC ⟨v0, v1, v2, v3, v4, v5, v6, v7, v8, v9, v10⟩) * (pc w.heap.size 32 [vi k, vu a.gen] * (rdB q b rs.length cap vF * (rdL b cap rs * F)))) (w2.alloc (elO ⟨v0, v1, v2, v3, v4, v5, v6, v7, v8, v9, v10⟩)) := (hX.cast (show _ = pc w2.heap.size 45 (elC ⟨v0, v1, v2, v3, v4, v5, v6, v7, v8, v9, v10⟩) * (rdB q b rs.length cap vF * (rdL b cap rs * (pc w.heap.size 32 [vi k, vu a.gen] * F))) from rfl)).cast (by ac_rfl); clear i0 i1 q0; have x2 := hX2.cell 2 rfl; have x5 := hX2.cell 5 rfl; have x7 := hX2.cell 7 rfl; have x8 := hX2.cell 8 rfl; have x10 := hX2.cell 10 rfl; have i0 := hX2.pull2.cell 0 rfl; have i1 := hX2.pull2.cell 1 rfl; have q0 := hX2.dropL.dropL.cell 0 rfl; have HX := Lib.hid hX2; clear hS2 hX hX2))
  go_ret
  exact ⟨rfl, HX.out.dropL.dropL⟩
set_option maxRecDepth 100000 in
set_option maxHeartbeats 4000000 in
theorem rjoin_ok (hS : Sat w0 (rdB q b rs.length cap vF * (rdL b cap rs * F)) w) (k : Nat) (a : One) (ha : rs[k]? = some a) (his : a.is = true) (cl : Nat → List (Int × Int)) (hcl : Chains rs cl) (hok : OneOk rs) (hb : 0 ≤ a.own ∧ a.own ≤ 64) (hq : (getRR rs cl k a).v7 + (getRR rs cl k a).v5 < (getRR rs cl k a).v2) :
    Calls Try.prog 52 #[vp q, vr k a.gen] w fun e w' => e = .returned (vi 0) ∧ Sat w0 (rdB q b rs.length cap vF * (rdL b cap (rs.set k { a with own := a.own + 1 }) * F)) w' := by
  have hk : k < rs.length := (List.getElem?_eq_some_iff.1 ha).1
  have hki : (k : Int) < (rs.length : Int) := by omega
  have HA := Lib.hid ha
  have hB : Sat w0 (pc w.heap.size 32 [vi k, vu a.gen] * (rdB q b rs.length cap vF * (rdL b cap rs * F))) (w.alloc (.cells #[vi k, vu a.gen] 32)) := hS.alloc _
  have i0 := hB.cell 0 rfl
  have i1 := hB.cell 1 rfl
  have HB := Lib.hid hB
  have HI := Lib.hid (rd_is (hB.cast (show _ = rdB q b rs.length cap vF * (rdL b cap rs * (pc w.heap.size 32 [vi k, vu a.gen] * F)) by ac_rfl)) k a.gen)
  have hi : isR rs k a.gen = true := by
    unfold isR
    rw [if_neg (by omega), Int.toNat_natCast, ha]
    simp [his]
  rw [hi] at HI
  have hbd := getRR_bd hok cl ha
  have HG : Hid (∀ (w1 : World), Sat w0 (rdB q b rs.length cap vF * (rdL b cap rs * (pc w.heap.size 32 [vi k, vu a.gen] * F))) w1 → Calls Try.prog 64 #[vp q, vr k a.gen] w1 fun e w' => e = .returned (ev (getRR rs cl k a)) ∧ Sat w0 (rdB q b rs.length cap vF * (rdL b cap rs * (pc w.heap.size 32 [vi k, vu a.gen] * F))) w') := Lib.hid fun w1 h1 => rd_get h1 k a.gen a ha cl hcl hok
  have hwo : IntKind.i64.wrap (a.own + 1) = a.own + 1 := IntWalk.i64_in _ (by omega)
  have HFin : Hid (∀ W, Sat w0 (sl 112 9 (.slice (some ⟨b, 0, none⟩) rs.length cap) rs.length (oflat (rs.set k { a with own := a.own + 1 })) * (pc w.heap.size 32 [vi k, vu a.gen] * (rdB q b rs.length cap vF * F))) W → Sat w0 (rdB q b rs.length cap vF * (rdL b cap (rs.set k { a with own := a.own + 1 }) * F)) W) := Lib.hid fun W h => (h.cast (show _ = (pc w.heap.size 32 [vi k, vu a.gen]) * (rdB q b rs.length cap vF * (rdL b cap (rs.set k { a with own := a.own + 1 }) * F)) by unfold rdL; rw [List.length_set]; ac_rfl)).dropL
  clear hS hB hi his ha hcl hok
  generalize getRR rs cl k a = x at *
  obtain ⟨v0, v1, v2, v3, v4, v5, v6, v7, v8, v9, v10⟩ := x
  simp only at hbd hq
  have hw : IntKind.i64.wrap (v7 + v5) = v7 + v5 := IntWalk.i64_in _ (by omega)
  go_enter Try.func52, Try.ntmps52
  go_wp2_with (first | (go_at_call 63; refine HI.out.mono ?_; rintro e w1 ⟨rfl, hS1⟩; have hT : Sat w0 (pc w.heap.size 32 [vi k, vu a.gen] * (rdB q b rs.length cap vF * (rdL b cap rs * F))) w1 := hS1.cast (by ac_rfl); clear i0 i1; have i0 := hT.cell 0 rfl; have i1 := hT.cell 1 rfl; have q0 := hT.pull2.cell 0 rfl; have HT := Lib.hid hT; clear hS1 hT) | (go_at_call 64; refine (HG.out _ (HT.out.cast (show _ = rdB q b rs.length cap vF * (rdL b cap rs * (pc w.heap.size 32 [vi k, vu a.gen] * F)) by ac_rfl))).mono ?_; rintro e w2 ⟨rfl, hS2⟩; have hX := hS2.alloc (elO ⟨v0, v1, v2, v3, v4, v5, v6, v7, v8, v9, v10⟩); have hX2 : Sat w0 (pc w2.heap.size 45 (elC ⟨v0, v1, v2, v3, v4, v5, v6, v7, v8, v9, v10⟩) * (pc w.heap.size 32 [vi k, vu a.gen] * (rdB q b rs.length cap vF * (rdL b cap rs * F)))) (w2.alloc (elO ⟨v0, v1, v2, v3, v4, v5, v6, v7, v8, v9, v10⟩)) := (hX.cast (show _ = pc w2.heap.size 45 (elC ⟨v0, v1, v2, v3, v4, v5, v6, v7, v8, v9, v10⟩) * (rdB q b rs.length cap vF * (rdL b cap rs * (pc w.heap.size 32 [vi k, vu a.gen] * F))) from rfl)).cast (by ac_rfl); clear i0 i1 q0; have x2 := hX2.cell 2 rfl; have x5 := hX2.cell 5 rfl; have x7 := hX2.cell 7 rfl; have x8 := hX2.cell 8 rfl; have x10 := hX2.cell 10 rfl; have i0 := hX2.pull2.cell 0 rfl; have i1 := hX2.pull2.cell 1 rfl; have q0 := hX2.dropL.dropL.cell 0 rfl; have e7 := hX2.dropL.pull3.slCell _ (flat_get (j := 7) One.len HA.out rfl); have f7 := hX2.dropL.pull3.slFree (k * 9 + 7); have hst := hX2.dropL.pull3.slStore (k * 9 + 7) (by omega) (vi (a.own + 1)); rw [flat_set One.len rs k 7 a ({ a with own := a.own + 1 } : One) _ HA.out (by omega) rfl] at hst; have HST := Lib.hid hst; clear hst; have HX := Lib.hid hX2; clear hS2 hX hX2))
  refine wp_quiet_tail 6 (by kernel_rfl) (by kernel_rfl) ?_
  simp only [List.take_succ_cons, List.take_zero, List.drop_succ_cons, List.drop_zero]
  repeat (go_big_quiet_step (fail))
  refine wpQuiet_nil ?_
  go_wp2
  go_ret
  first | exact ⟨rfl, HFin.out _ HST.out⟩ | exact ⟨rfl, HFin.out _ (HST.out.drewN 1)⟩
end
end Go.Proofs.Ytfioghpnehfjhaa.Dm
