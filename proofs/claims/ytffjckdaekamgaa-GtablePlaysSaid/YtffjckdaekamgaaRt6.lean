/-
  The reference of layer 16: Drop. No statement is proved here.
-/
import Derived.Test.YtffjckdaekamgaaRt4
namespace Go.Proofs.Ytffjckdaekamgaa.Gt
open Go.RowKit Ag
set_option linter.unusedVariables false
set_option linter.unusedSimpArgs false

theorem rdPcO {w0 w : World} {F : Hp} {T : TypeId} {b : Nat} {x : Value} (h : Sat w0 (pc b T [x] * F) w) : Rd w 1 (.slice (some ⟨b, 0, none⟩) 1 1) 1 [x] := by
  refine ⟨rfl, .inr ⟨_, _, _, rfl, fun j u hj => ?_⟩⟩
  rw [Nat.zero_add]
  exact h.cell j hj
section
variable {w0 w : World} {F : Hp} {q b cap : Nat} {ps : List Pl} {vF : Value} {fr : List Nat} {vo : Option Addr} {vc : Nat}
set_option maxRecDepth 100000 in
set_option maxHeartbeats 4000000 in
theorem rt_drop_no (hS : Sat w0 (rtB q b ps.length cap vF * (rtL b cap ps * F)) w) (i g : Int) (hA : isAt ps i g = none) : Calls Try.prog 29 #[vp q, vr i g] w fun e w' => e = .returned (vi 11) ∧ Sat w0 (rtB q b ps.length cap vF * (rtL b cap ps * F)) w' := by
  have hI2 := is_no hA
  clear hA
  have hB : Sat w0 (pc w.heap.size 25 [vi i, vu g] * (rtB q b ps.length cap vF * (rtL b cap ps * F))) (w.alloc (.cells #[vi i, vu g] 25)) := hS.alloc _
  have b0 := hB.cell 0 rfl
  have b1 := hB.cell 1 rfl
  have hI : Sat w0 (rtB q b ps.length cap vF * (rtL b cap ps * (pc w.heap.size 25 [vi i, vu g] * F))) (w.alloc (.cells #[vi i, vu g] 25)) := hB.cast (by ac_rfl)
  have HI := rt_is hI i g
  rw [hI2] at HI
  have HI := Lib.hid HI
  clear hS hI hI2 hB
  go_enter Try.func29, Try.ntmps29
  go_wp2_with (go_at_call 24; refine HI.out.mono ?_; rintro e w2 ⟨rfl, hS2⟩; have H2 := Lib.hid hS2; clear hS2)
  go_ret
  exact ⟨rfl, (H2.out.cast (show _ = pc w.heap.size 25 [vi i, vu g] * (rtB q b ps.length cap vF * (rtL b cap ps * F)) by ac_rfl)).dropL⟩
set_option maxRecDepth 100000 in
set_option maxHeartbeats 4000000 in
theorem rt_drop_ok (hS : Sat w0 (rtB q b ps.length cap (.slice vo fr.length vc) * (rtL b cap ps * (sl 3 1 (.slice vo fr.length vc) fr.length (nats fr) * F))) w) (i g : Int) {k : Nat} {a : Pl} (hA : isAt ps i g = some (k, a)) (hg : 0 ≤ a.gen ∧ a.gen < 18446744073709551614) (hfl : fr.length ≤ 1000) :
    Calls Try.prog 29 #[vp q, vr i g] w fun e w' => ∃ vG, e = .returned (vi 0) ∧ Sat w0 (rtB q b ps.length cap vG * (rtL b cap (ps.set k { a with gen := a.gen + 1, there := false, x := ez }) * (sl 3 1 vG (fr.length + 1) (nats (fr ++ [k])) * F))) w' := by
  have hI2 := is_yes hA
  obtain ⟨ha, rfl, hz1, hag⟩ := isAt_some hA
  clear hz1
  have hk2 : k < ps.length := (List.getElem?_eq_some_iff.1 ha).1
  have hki : (k : Int) < (ps.length : Int) := by omega
  have HK := Lib.hid ha
  have hw : IntKind.u64.wrap (g + 1) = g + 1 := IntWalk.u64_in _ (by omega)
  have hone := Lib.hid (nats_one fr)
  have HG := Lib.hid hag
  clear hA ha hag hg
  have hB : Sat w0 (pc w.heap.size 25 [vi k, vu g] * (rtB q b ps.length cap (.slice vo fr.length vc) * (rtL b cap ps * (sl 3 1 (.slice vo fr.length vc) fr.length (nats fr) * F)))) (w.alloc (.cells #[vi k, vu g] 25)) := hS.alloc _
  have b0 := hB.cell 0 rfl
  have b1 := hB.cell 1 rfl
  have hI : Sat w0 (rtB q b ps.length cap (.slice vo fr.length vc) * (rtL b cap ps * (pc w.heap.size 25 [vi k, vu g] * (sl 3 1 (.slice vo fr.length vc) fr.length (nats fr) * F)))) (w.alloc (.cells #[vi k, vu g] 25)) := hB.cast (by ac_rfl)
  have HI := rt_is hI k g
  rw [hI2] at HI
  have HI := Lib.hid HI
  clear hS hI hI2 hB
  go_enter Try.func29, Try.ntmps29
  go_wp2_with (go_at_call 24; refine HI.out.mono ?_; rintro e w2 ⟨rfl, hS2⟩; have H2 := Lib.hid hS2; clear hS2)
  generalize w.heap.size = bx at *
  clear b0 b1 HI
  have h2 := H2.out
  have q0 := h2.cell 0 rfl
  have i0 := h2.pull3.cell 0 rfl
  have i1 := h2.pull3.cell 1 rfl
  obtain ⟨a2, ha2⟩ : ∃ a2, a2 = ({ a with gen := a.gen + 1, there := false, x := ez } : Pl) := ⟨_, rfl⟩
  have hpc : pcl a2 = [vu (g + 1), .bool false] ++ elC ez := by rw [ha2, ← HG.out]; rfl
  have hret : a2.retired = a.retired := by rw [ha2]
  have HTh : Hid (w2.drew.there b (k * 21) 21) := Lib.hid (slTherePl h2.drew.pull2 HK.out 0 21 (by omega))
  have hon : ∀ u ∈ ([vu (g + 1), .bool false] ++ elC ez : List Value), u.oneCell' = true := by rw [← hpc]; exact pcl_one a2
  have HON := Lib.hid hon
  have hst := storePl h2.drew.pull2 HK.out rfl a2 hret
  rw [hpc] at hst
  have HST : Hid (Sat w0 _ (w2.drew.setCells b (k * 21) ([vu (g + 1), .bool false] ++ elC ez : List Value).toArray.toList)) := Lib.hid hst
  have HP := Lib.hid ha2
  clear h2 hst ha2 hpc hret hon
  refine wp_quiet_tail 10 (by kernel_rfl) (by kernel_rfl) ?_
  simp only [List.take_succ_cons, List.take_zero, List.drop_succ_cons, List.drop_zero]
  repeat (go_big_quiet_step (fail))
  refine wpQuiet_nil ?_
  go_wp2_with (refine wpList_store_mid rfl 69 _ _ rfl b (k * 21) ([vu (g + 1), .bool false] ++ elC ez : List Value).toArray (by rfl) (by rfl) HTh.out pinfo (all_oneCell_toArray HON.out) ?_; generalize World.setCells _ _ _ _ = W3 at *; have hS3 := HST.out)
  try simp only [Act.put]
  have h3 : Sat w0 (sl 3 1 (.slice vo fr.length vc) fr.length (nats fr) * (rtB q b ps.length cap (.slice vo fr.length vc) * (pc bx 25 [vi k, vu g] * (sl 69 21 (.slice (some ⟨b, 0, none⟩) ps.length cap) ps.length (pfl (ps.set k a2)) * F)))) W3 := HST.out.cast (by ac_rfl)
  clear q0 i0 i1 hS3
  have i0 := h3.pull3.cell 0 rfl
  have q1 := h3.pull2.cell 1 rfl
  have q2 := h3.pull2.free 1
  have H := Lib.hid h3
  have HB := Lib.hid (h3.alloc (.cells #[vi k] 3)).drew
  have b1 : (W3.alloc (.cells #[vi k] 3)).cell? ⟨q, 1, none⟩ = _ := HB.out.pull3.cell 1 rfl
  have b0 := HB.out.pull3.cell 1 rfl
  have hB2 := h3.pull2.lt
  clear h3 HST HTh H2
  go_region_law
    (first
      | ((refine step_append_sl Eint (by rfl) (.const (.slice none 0 0)) _ (by rfl) (by rfl) (H.out.drew.addNil 3 1) (by rfl) (H.out.drew.rd) hone.out (by unfold maxLen; omega) (by omega) ?_; intro ao1 cap1 w1 hS1; simp only [Nat.zero_add, List.nil_append] at hS1; have d0 := hS1.pull4.cell 0 rfl; have HC1 := (hS1.alloc (.cells #[vi k] 3)).pull2; have d0a := HC1.dropL.dropL.pull3.cell 0 rfl))
      | ((refine step_append_sl Eint (by rfl) (.const (.slice none 0 0)) _ (by rfl) (by rfl) (HB.out.addNil 3 1) (by rfl) (HB.out.pull2.rd) hone.out (by unfold maxLen; omega) (by omega) ?_; intro ao1 cap1 w1 hS1; simp only [Nat.zero_add, List.nil_append] at hS1; have HC1 := hS1))
      | ((refine step_append_sl Eint (by rfl) (.tmp 25) _ (by rfl) (by rfl) HC1 (by rfl) (rdPcO HC1.pull2) (by simp [Value.oneCell']) (by unfold maxLen; omega) (by omega) ?_; intro ao2 cap2 w2 hS2; have d1 := hS2.pull4.cell 1 rfl; have f2 := hS2.pull4.free 1)))
  all_goals go_wp2
  all_goals go_ret
  all_goals
    have h9 := hS2.pull4.store 1 (.slice ao2 (fr.length + 1) cap2)
    first | refine ⟨.slice ao2 (fr.length + 1) cap2, rfl, ?_⟩ | refine ⟨rfl, .slice ao2 (fr.length + 1) cap2, ?_⟩
    have e9 : nats (fr ++ [k]) = nats fr ++ [vi k] := by simp [nats]
    have hl : ∀ y : Pl, (ps.set k y).length = ps.length := fun y => List.length_set
    rw [e9, ← HP.out]
    unfold rtL
    rw [hl]
    refine Sat.dropL (A := pc bx 25 [vi k, vu g]) (h9.drop3.drop3.cast ?_)
    simp only [rtB, List.set_cons_succ, List.set_cons_zero]
    ac_rfl
end
end Go.Proofs.Ytffjckdaekamgaa.Gt
