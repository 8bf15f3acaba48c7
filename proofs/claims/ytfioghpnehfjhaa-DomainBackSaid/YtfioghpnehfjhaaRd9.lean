/-
  The reference of layer 9: Merge. No statement is proved here.
-/
import Derived.Test.YtfioghpnehfjhaaRd8
namespace Go.Proofs.Ytfioghpnehfjhaa.Dm
open Go.RowKit Ad
set_option linter.unusedVariables false
set_option linter.unusedSimpArgs false

theorem rdPc1 {w0 w : World} {F : Hp} {T : TypeId} {b : Nat} {x : Value} (h : Sat w0 (pc b T [x] * F) w) : Rd w 1 (.slice (some ⟨b, 0, none⟩) 1 1) 1 [x] := by
  refine ⟨rfl, .inr ⟨_, _, _, rfl, fun j u hj => ?_⟩⟩
  rw [Nat.zero_add]
  exact h.cell j hj
theorem nats_one (l : List Nat) : ∀ u ∈ nats l, u.oneCell' = true := by
  intro u hu
  obtain ⟨x, _, rfl⟩ := List.mem_map.1 hu
  rfl
section
variable {w0 w : World} {F : Hp} {q b cap : Nat} {rs : List One} {fr : List Nat} {vF : Value}
set_option maxRecDepth 100000 in
set_option maxHeartbeats 4000000 in
theorem rmerge_stale (hS : Sat w0 (rdB q b rs.length cap vF * (rdL b cap rs * F)) w) (i g : Int) (hi : isR rs i g = false) :
    Calls Try.prog 51 #[vp q, vr i g] w fun e w' => e = .returned (vi 11) ∧ Sat w0 (rdB q b rs.length cap vF * (rdL b cap rs * F)) w' := by
  have hB : Sat w0 (pc w.heap.size 32 [vi i, vu g] * (rdB q b rs.length cap vF * (rdL b cap rs * F))) (w.alloc (.cells #[vi i, vu g] 32)) := hS.alloc _
  have i0 := hB.cell 0 rfl
  have i1 := hB.cell 1 rfl
  have HB := Lib.hid hB
  have HI := Lib.hid (rd_is (hB.cast (show _ = rdB q b rs.length cap vF * (rdL b cap rs * (pc w.heap.size 32 [vi i, vu g] * F)) by ac_rfl)) i g)
  rw [hi] at HI
  clear hS hB hi
  go_enter Try.func51, Try.ntmps51
  go_wp2_with (go_at_call 63; refine HI.out.mono ?_; rintro e w1 ⟨rfl, hS1⟩; have hT : Sat w0 (pc w.heap.size 32 [vi i, vu g] * (rdB q b rs.length cap vF * (rdL b cap rs * F))) w1 := hS1.cast (by ac_rfl); clear i0 i1; have i0 := hT.cell 0 rfl; have i1 := hT.cell 1 rfl; have q0 := hT.pull2.cell 0 rfl; have HT := Lib.hid hT; clear hS1 hT)
  go_ret
  exact ⟨rfl, HT.out.dropL⟩
set_option maxRecDepth 100000 in
set_option maxHeartbeats 4000000 in
theorem rmerge_root (hS : Sat w0 (rdB q b rs.length cap vF * (rdL b cap rs * F)) w) (k : Nat) (a : One) (ha : rs[k]? = some a) (his : a.is = true) (hp : a.pg = 0) :
    Calls Try.prog 51 #[vp q, vr k a.gen] w fun e w' => e = .returned (vi 2) ∧ Sat w0 (rdB q b rs.length cap vF * (rdL b cap rs * F)) w' := by
  have hk : k < rs.length := (List.getElem?_eq_some_iff.1 ha).1
  have hki : (k : Int) < (rs.length : Int) := by omega
  have HA := Lib.hid ha
  have hB : Sat w0 (pc w.heap.size 32 [vi k, vu a.gen] * (rdB q b rs.length cap vF * (rdL b cap rs * F))) (w.alloc (.cells #[vi k, vu a.gen] 32)) := hS.alloc _
  have i0 := hB.cell 0 rfl
  have i1 := hB.cell 1 rfl
  have HB := Lib.hid hB
  have HI := Lib.hid (rd_is (hB.cast (show _ = rdB q b rs.length cap vF * (rdL b cap rs * (pc w.heap.size 32 [vi k, vu a.gen] * F)) by ac_rfl)) k a.gen)
  have hi : isR rs k a.gen = true := by
    unfold isR
    rw [if_neg (by omega), Int.toNat_natCast, ha]
    simp [his]
  rw [hi] at HI
  clear hS hB hi his ha
  go_enter Try.func51, Try.ntmps51
  go_wp2_with (go_at_call 63; refine HI.out.mono ?_; rintro e w1 ⟨rfl, hS1⟩; have hT : Sat w0 (pc w.heap.size 32 [vi k, vu a.gen] * (rdB q b rs.length cap vF * (rdL b cap rs * F))) w1 := hS1.cast (by ac_rfl); clear i0 i1; have i0 := hT.cell 0 rfl; have i1 := hT.cell 1 rfl; have q0 := hT.pull2.cell 0 rfl; have e6 := hT.pull3.slCell _ (flat_get (j := 6) One.len HA.out rfl); rw [hp] at e6; have HT := Lib.hid hT; clear hS1 hT)
  go_quiet (fail)
  go_wp2
  go_ret
  exact ⟨rfl, HT.out.dropL.drewN _⟩
set_option maxRecDepth 100000 in
set_option maxHeartbeats 4000000 in
theorem rmerge_busy (hS : Sat w0 (rdB q b rs.length cap vF * (rdL b cap rs * F)) w) (k : Nat) (a : One) (ha : rs[k]? = some a) (his : a.is = true) (cl : Nat → List (Int × Int)) (hcl : Chains rs cl) (hok : OneOk rs) (hp : a.pg ≠ 0) (hb : 0 < (getRR rs cl k a).v8 ∨ 0 < (getRR rs cl k a).v10) :
    Calls Try.prog 51 #[vp q, vr k a.gen] w fun e w' => e = .returned (vi 14) ∧ Sat w0 (rdB q b rs.length cap vF * (rdL b cap rs * F)) w' := by
  have hk : k < rs.length := (List.getElem?_eq_some_iff.1 ha).1
  have hki : (k : Int) < (rs.length : Int) := by omega
  have HA := Lib.hid ha
  have hB : Sat w0 (pc w.heap.size 32 [vi k, vu a.gen] * (rdB q b rs.length cap vF * (rdL b cap rs * F))) (w.alloc (.cells #[vi k, vu a.gen] 32)) := hS.alloc _
  have i0 := hB.cell 0 rfl
  have i1 := hB.cell 1 rfl
  have HB := Lib.hid hB
  have HI := Lib.hid (rd_is (hB.cast (show _ = rdB q b rs.length cap vF * (rdL b cap rs * (pc w.heap.size 32 [vi k, vu a.gen] * F)) by ac_rfl)) k a.gen)
  have hi : isR rs k a.gen = true := by
    unfold isR
    rw [if_neg (by omega), Int.toNat_natCast, ha]
    simp [his]
  rw [hi] at HI
  have hbd := getRR_bd hok cl ha
  have HG : Hid (∀ (w1 : World), Sat w0 (rdB q b rs.length cap vF * (rdL b cap rs * (pc w.heap.size 32 [vi k, vu a.gen] * F))) w1 → Calls Try.prog 64 #[vp q, vr k a.gen] w1 fun e w' => e = .returned (ev (getRR rs cl k a)) ∧ Sat w0 (rdB q b rs.length cap vF * (rdL b cap rs * (pc w.heap.size 32 [vi k, vu a.gen] * F))) w') := Lib.hid fun w1 h1 => rd_get h1 k a.gen a ha cl hcl hok
  have hpb : (a.pg == 0) = false := beq_eq_false_iff_ne.2 hp
  clear hS hB hi his ha hcl hok hp
  generalize getRR rs cl k a = x at *
  obtain ⟨v0, v1, v2, v3, v4, v5, v6, v7, v8, v9, v10⟩ := x
  simp only at hbd hb
  have hb2 : (0 < v8) ∨ (¬ 0 < v8 ∧ 0 < v10) := by omega
  clear hb
  rcases hb2 with hb2 | ⟨hb1, hb2⟩
  all_goals
    go_enter Try.func51, Try.ntmps51
    go_wp2_with (go_at_call 63; refine HI.out.mono ?_; rintro e w1 ⟨rfl, hS1⟩; have hT : Sat w0 (pc w.heap.size 32 [vi k, vu a.gen] * (rdB q b rs.length cap vF * (rdL b cap rs * F))) w1 := hS1.cast (by ac_rfl); clear i0 i1; have i0 := hT.cell 0 rfl; have i1 := hT.cell 1 rfl; have q0 := hT.pull2.cell 0 rfl; have e6 := hT.pull3.slCell _ (flat_get (j := 6) One.len HA.out rfl); have HT := Lib.hid hT; clear hS1 hT)
    go_quiet (fail)
    go_wp2_with (go_at_call 64; refine (HG.out _ ((HT.out.drewN _).cast (show _ = rdB q b rs.length cap vF * (rdL b cap rs * (pc w.heap.size 32 [vi k, vu a.gen] * F)) by ac_rfl))).mono ?_; rintro e w2 ⟨rfl, hS2⟩; have hX := hS2.alloc (elO ⟨v0, v1, v2, v3, v4, v5, v6, v7, v8, v9, v10⟩); have hX2 : Sat w0 (pc w2.heap.size 45 (elC ⟨v0, v1, v2, v3, v4, v5, v6, v7, v8, v9, v10⟩) * (pc w.heap.size 32 [vi k, vu a.gen] * (rdB q b rs.length cap vF * (rdL b cap rs * F)))) (w2.alloc (elO ⟨v0, v1, v2, v3, v4, v5, v6, v7, v8, v9, v10⟩)) := (hX.cast (show _ = pc w2.heap.size 45 (elC ⟨v0, v1, v2, v3, v4, v5, v6, v7, v8, v9, v10⟩) * (rdB q b rs.length cap vF * (rdL b cap rs * (pc w.heap.size 32 [vi k, vu a.gen] * F))) from rfl)).cast (by ac_rfl); clear i0 i1 q0; have x2 := hX2.cell 2 rfl; have x5 := hX2.cell 5 rfl; have x7 := hX2.cell 7 rfl; have x8 := hX2.cell 8 rfl; have x10 := hX2.cell 10 rfl; have i0 := hX2.pull2.cell 0 rfl; have i1 := hX2.pull2.cell 1 rfl; have q0 := hX2.dropL.dropL.cell 0 rfl; have HX := Lib.hid hX2; clear hS2 hX hX2)
    go_ret
    exact ⟨rfl, HX.out.dropL.dropL⟩
set_option maxRecDepth 100000 in
set_option maxHeartbeats 4000000 in
theorem rmerge_ok {vo : Option Addr} {vc : Nat} (hS : Sat w0 (rdB q b rs.length cap (.slice vo fr.length vc) * (rdL b cap rs * (sl 3 1 (.slice vo fr.length vc) fr.length (nats fr) * F))) w) (k : Nat) (a : One) (ha : rs[k]? = some a) (his : a.is = true) (cl : Nat → List (Int × Int)) (hcl : Chains rs cl) (hok : OneOk rs) (hg : 0 ≤ a.gen ∧ a.gen < 18446744073709551614) (hp : a.pg ≠ 0) (hb8 : (getRR rs cl k a).v8 ≤ 0) (hb10 : (getRR rs cl k a).v10 ≤ 0) (hfl : fr.length ≤ 1000) :
    Calls Try.prog 51 #[vp q, vr k a.gen] w fun e w' => ∃ vG, e = .returned (vi 0) ∧ Sat w0 (rdB q b rs.length cap vG * (rdL b cap (rs.set k ⟨a.gen + 1, false, 0, 0, 0, 0, 0, 0, 0⟩) * (sl 3 1 vG (fr.length + 1) (nats (fr ++ [k])) * F))) w' := by
  have hk : k < rs.length := (List.getElem?_eq_some_iff.1 ha).1
  have hki : (k : Int) < (rs.length : Int) := by omega
  have HA := Lib.hid ha
  have hB : Sat w0 (pc w.heap.size 32 [vi k, vu a.gen] * (rdB q b rs.length cap (.slice vo fr.length vc) * (rdL b cap rs * (sl 3 1 (.slice vo fr.length vc) fr.length (nats fr) * F)))) (w.alloc (.cells #[vi k, vu a.gen] 32)) := hS.alloc _
  have i0 := hB.cell 0 rfl
  have i1 := hB.cell 1 rfl
  have HB := Lib.hid hB
  have HI := Lib.hid (rd_is (hB.cast (show _ = rdB q b rs.length cap (.slice vo fr.length vc) * (rdL b cap rs * (pc w.heap.size 32 [vi k, vu a.gen] * (sl 3 1 (.slice vo fr.length vc) fr.length (nats fr) * F))) by ac_rfl)) k a.gen)
  have hi : isR rs k a.gen = true := by
    unfold isR
    rw [if_neg (by omega), Int.toNat_natCast, ha]
    simp [his]
  rw [hi] at HI
  have hbd := getRR_bd hok cl ha
  have HG : Hid (∀ (w1 : World), Sat w0 (rdB q b rs.length cap (.slice vo fr.length vc) * (rdL b cap rs * (pc w.heap.size 32 [vi k, vu a.gen] * (sl 3 1 (.slice vo fr.length vc) fr.length (nats fr) * F)))) w1 → Calls Try.prog 64 #[vp q, vr k a.gen] w1 fun e w' => e = .returned (ev (getRR rs cl k a)) ∧ Sat w0 (rdB q b rs.length cap (.slice vo fr.length vc) * (rdL b cap rs * (pc w.heap.size 32 [vi k, vu a.gen] * (sl 3 1 (.slice vo fr.length vc) fr.length (nats fr) * F)))) w') := Lib.hid fun w1 h1 => rd_get h1 k a.gen a ha cl hcl hok
  have hpb : (a.pg == 0) = false := beq_eq_false_iff_ne.2 hp
  have hw : IntKind.u64.wrap (a.gen + 1) = a.gen + 1 := IntWalk.u64_in _ (by omega)
  have hone := Lib.hid (nats_one fr)
  clear hS hB hi his ha hcl hok hp hg
  generalize getRR rs cl k a = x at *
  obtain ⟨v0, v1, v2, v3, v4, v5, v6, v7, v8, v9, v10⟩ := x
  simp only at hbd hb8 hb10
  have hb1 : ¬ 0 < v8 := by omega
  have hb2 : ¬ 0 < v10 := by omega
  clear hb8 hb10
  go_enter Try.func51, Try.ntmps51
  go_wp2_with (go_at_call 63; refine HI.out.mono ?_; rintro e w1 ⟨rfl, hS1⟩; have hT : Sat w0 (pc w.heap.size 32 [vi k, vu a.gen] * (rdB q b rs.length cap (.slice vo fr.length vc) * (rdL b cap rs * (sl 3 1 (.slice vo fr.length vc) fr.length (nats fr) * F)))) w1 := hS1.cast (by ac_rfl); clear i0 i1; have i0 := hT.cell 0 rfl; have i1 := hT.cell 1 rfl; have q0 := hT.pull2.cell 0 rfl; have e6 := hT.pull3.slCell _ (flat_get (j := 6) One.len HA.out rfl); have HT := Lib.hid hT; clear hS1 hT)
  go_quiet (fail)
  go_wp2_with (go_at_call 64; refine (HG.out _ ((HT.out.drewN _).cast (show _ = rdB q b rs.length cap (.slice vo fr.length vc) * (rdL b cap rs * (pc w.heap.size 32 [vi k, vu a.gen] * (sl 3 1 (.slice vo fr.length vc) fr.length (nats fr) * F))) by ac_rfl))).mono ?_; rintro e w2 ⟨rfl, hS2⟩; have hX := hS2.alloc (elO ⟨v0, v1, v2, v3, v4, v5, v6, v7, v8, v9, v10⟩); have hX2 : Sat w0 (pc w2.heap.size 45 (elC ⟨v0, v1, v2, v3, v4, v5, v6, v7, v8, v9, v10⟩) * (pc w.heap.size 32 [vi k, vu a.gen] * (rdB q b rs.length cap (.slice vo fr.length vc) * (rdL b cap rs * (sl 3 1 (.slice vo fr.length vc) fr.length (nats fr) * F))))) (w2.alloc (elO ⟨v0, v1, v2, v3, v4, v5, v6, v7, v8, v9, v10⟩)) := (hX.cast (show _ = pc w2.heap.size 45 (elC ⟨v0, v1, v2, v3, v4, v5, v6, v7, v8, v9, v10⟩) * (rdB q b rs.length cap (.slice vo fr.length vc) * (rdL b cap rs * (pc w.heap.size 32 [vi k, vu a.gen] * (sl 3 1 (.slice vo fr.length vc) fr.length (nats fr) * F)))) from rfl)).cast (by ac_rfl); clear i0 i1 q0; have x2 := hX2.cell 2 rfl; have x5 := hX2.cell 5 rfl; have x7 := hX2.cell 7 rfl; have x8 := hX2.cell 8 rfl; have x10 := hX2.cell 10 rfl; have i0 := hX2.pull2.cell 0 rfl; have i1 := hX2.pull2.cell 1 rfl; have q0 := hX2.dropL.dropL.cell 0 rfl; have HX := Lib.hid hX2; clear hS2 hX hX2)
  have hX3 := HX.out
  generalize (w2.alloc (elO ⟨v0, v1, v2, v3, v4, v5, v6, v7, v8, v9, v10⟩)) = W2 at *
  generalize w2.heap.size = bx at *
  generalize w.heap.size = br at *
  have HTh := Lib.hid (slThereO (hX3.drew.pull4) HA.out rfl)
  have hst := storeO (hX3.drew.pull4) HA.out rfl ⟨a.gen + 1, false, 0, 0, 0, 0, 0, 0, 0⟩
  have HST : Hid (Sat w0 _ (W2.drew.setCells b (k * 9) ([vu (a.gen + 1), .bool false, vi 0, vu 0, vu 0, vi 0, vu 0, vi 0, vu 0] : List Value).toArray.toList)) := Lib.hid hst
  clear hst hX3
  refine wp_quiet_tail 10 (by kernel_rfl) (by kernel_rfl) ?_
  simp only [List.take_succ_cons, List.take_zero, List.drop_succ_cons, List.drop_zero]
  repeat (go_big_quiet_step (fail))
  refine wpQuiet_nil ?_
  go_wp2_with (refine wpList_store_mid rfl 112 _ _ rfl b (k * 9) ([vu (a.gen + 1), .bool false, vi 0, vu 0, vu 0, vi 0, vu 0, vi 0, vu 0] : List Value).toArray (by rfl) (by rfl) HTh.out oneinfo (all_oneCell_toArray (One.one ⟨a.gen + 1, false, 0, 0, 0, 0, 0, 0, 0⟩)) ?_; generalize World.setCells _ _ _ _ = W3 at *; have hS3 := HST.out)
  have h3 : Sat w0 (sl 3 1 (.slice vo fr.length vc) fr.length (nats fr) * (rdB q b rs.length cap (.slice vo fr.length vc) * (pc br 32 [vi k, vu a.gen] * (rdL b cap (rs.set k ⟨a.gen + 1, false, 0, 0, 0, 0, 0, 0, 0⟩) * (pc bx 45 (elC ⟨v0, v1, v2, v3, v4, v5, v6, v7, v8, v9, v10⟩) * F))))) W3 := HST.out.cast (by unfold rdL; rw [List.length_set]; ac_rfl)
  clear q0 i0 i1 x2 x5 x7 x8 x10 e6 hS3
  have i0 := h3.pull3.cell 0 rfl
  have q1 := h3.pull2.cell 1 rfl
  have q2 := h3.pull2.free 1
  have H := Lib.hid h3
  have HB := Lib.hid (h3.alloc (.cells #[vi k] 3)).drew
  have b1 : (W3.alloc (.cells #[vi k] 3)).cell? ⟨q, 1, none⟩ = _ := HB.out.pull3.cell 1 rfl
  have b0 := HB.out.pull3.cell 1 rfl
  have hB2 := h3.pull2.lt
  clear h3
  go_region_law
    (first
      | ((refine step_append_sl Eint (by rfl) (.const (.slice none 0 0)) _ (by rfl) (by rfl) (H.out.drew.addNil 3 1) (by rfl) (H.out.drew.rd) hone.out (by unfold maxLen; omega) (by omega) ?_; intro ao1 cap1 w1 hS1; simp only [Nat.zero_add, List.nil_append] at hS1; have d0 := hS1.pull4.cell 0 rfl; have HC1 := (hS1.alloc (.cells #[vi k] 3)).pull2; have d0a := HC1.dropL.dropL.pull3.cell 0 rfl))
      | ((refine step_append_sl Eint (by rfl) (.const (.slice none 0 0)) _ (by rfl) (by rfl) (HB.out.addNil 3 1) (by rfl) (HB.out.pull2.rd) hone.out (by unfold maxLen; omega) (by omega) ?_; intro ao1 cap1 w1 hS1; simp only [Nat.zero_add, List.nil_append] at hS1; have HC1 := hS1))
      | ((refine step_append_sl Eint (by rfl) (.tmp 48) _ (by rfl) (by rfl) HC1 (by rfl) (rdPc1 HC1.pull2) (by simp [Value.oneCell']) (by unfold maxLen; omega) (by omega) ?_; intro ao2 cap2 w2 hS2; have d1 := hS2.pull4.cell 1 rfl; have f2 := hS2.pull4.free 1)))
  all_goals go_wp2
  all_goals go_ret
  all_goals
    have h9 := hS2.pull4.store 1 (.slice ao2 (fr.length + 1) cap2)
    refine ⟨.slice ao2 (fr.length + 1) cap2, rfl, ?_⟩
    have e9 : nats (fr ++ [k]) = nats fr ++ [vi k] := by simp [nats]
    rw [e9]
    refine Sat.dropL (A := pc bx 45 (elC ⟨v0, v1, v2, v3, v4, v5, v6, v7, v8, v9, v10⟩)) (h9.drop3.drop3.drop3.cast ?_)
    simp only [rdB, List.set_cons_succ, List.set_cons_zero]
    ac_rfl
end
end Go.Proofs.Ytfioghpnehfjhaa.Dm
