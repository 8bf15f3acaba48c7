/-
  The reference of layer 16: Make, Set. No statement is proved here.
-/
import Derived.Test.YtffjckdaekamgaaRt2
namespace Go.Proofs.Ytffjckdaekamgaa.Gt
open Go.RowKit Ag
set_option linter.unusedVariables false
set_option linter.unusedSimpArgs false

theorem _root_.Go.Proofs.Ytffjckdaekamgaa.Sat.pull5 {w0 w : World} {A B C D E G : Hp} (h : Sat w0 (A * (B * (C * (D * (E * G))))) w) : Sat w0 (E * (A * (B * (C * (D * G))))) w := h.cast (by ac_rfl)
theorem rdCut {w0 w : World} {F : Hp} {T : TypeId} {g m c n : Nat} {xs ys : List Value} (h : Sat w0 (sl T 1 (.slice (some ⟨g, 0, none⟩) m c) m xs * F) w) (hn : n ≤ m) (he : xs.take n = ys) (hl : ys.length = n) : Rd w 1 (.slice (some ⟨g, 0, none⟩) n c) n ys := by
  refine ⟨by omega, .inr ⟨g, 0, c, rfl, fun j u hj => ?_⟩⟩
  rw [Nat.zero_add]
  refine h.slCell j ?_
  rw [← he, List.getElem?_take] at hj
  split at hj
  · exact hj
  · cases hj
theorem nats_one (l : List Nat) : ∀ u ∈ nats l, u.oneCell' = true := by
  intro u hu
  obtain ⟨x, _, rfl⟩ := List.mem_map.1 hu
  rfl
section
variable {w0 w : World} {F : Hp} {q b cap : Nat} {ps : List Pl} {vF : Value} {fr : List Nat} {vo : Option Addr} {vc : Nat}
set_option maxRecDepth 100000 in
set_option maxHeartbeats 4000000 in
theorem rt_make_no (hS : Sat w0 F w) (x : El) (hx : 0 ≤ x.v18) (hm : mayB x = false) : Calls Try.prog 22 #[vp q, ev x] w fun e w' => e = .returned (.tuple #[vr 0 0, vi 2]) ∧ Sat w0 F w' := by
  have hB0 := (hS.alloc (elO x)).alloc (.cells #[vi 0, vu 0] 25)
  rw [size1] at hB0
  have hB : Sat w0 (pc (w.heap.size + 1) 25 [vi 0, vu 0] * (elB w.heap.size x * (F))) ((w.alloc (elO x)).alloc (.cells #[vi 0, vu 0] 25)) := hB0
  have HM := r_may hB x hx
  rw [hm] at HM
  have HM := Lib.hid HM
  have HLd := Lib.hid (range_ hB.pull2)
  clear hB hB0 hS hm hx
  go_enter Try.func22, Try.ntmps22
  go_wp2_with (refine wpList_load_mid rfl 29 _ rfl w.heap.size 0 (by rfl) (elC x) _ HLd.out Try.underlying29 rfl einfo ?_)
  generalize hb1 : w.heap.size + 1 = bx at *
  generalize hb2 : w.heap.size = b2 at *
  have HB1 := Lib.hid hb1
  have HB2 := Lib.hid hb2
  clear hb1 hb2 HLd
  refine HM.out.mono ?_
  rintro e w1 ⟨rfl, hS1⟩
  have s0 := hS1.cell 0 rfl; have s1 := hS1.cell 1 rfl; have t0 := hS1.free 0; have t1 := hS1.free 1; have H1 := Lib.hid ((hS1.store 0 (vi 0)).store 1 (vu 0)); clear hS1
  go_wp2
  (try simp only [Exit.inBlock, Exit.then])
  refine bodyPost_ret (v := .tuple #[vr 0 0, vi 2]) (by rw [results_cell_tmp rfl]; go_simp) rfl ?_
  exact ⟨rfl, H1.out.dropL.dropL⟩
set_option maxRecDepth 100000 in
set_option maxHeartbeats 4000000 in
theorem rt_make_full (hS : Sat w0 (rtB q b ps.length cap (.slice vo 0 vc) * (rtL b cap ps * (sl 3 1 (.slice vo 0 vc) ([] : List Nat).length (nats ([] : List Nat)) * F))) w) (x : El) (hx : 0 ≤ x.v18) (hm : mayB x = true) : Calls Try.prog 22 #[vp q, ev x] w fun e w' => e = .returned (.tuple #[vr 0 0, vi 3]) ∧ Sat w0 (rtB q b ps.length cap (.slice vo 0 vc) * (rtL b cap ps * (sl 3 1 (.slice vo 0 vc) ([] : List Nat).length (nats ([] : List Nat)) * F))) w' := by
  have hB0 := (hS.alloc (elO x)).alloc (.cells #[vi 0, vu 0] 25)
  rw [size1] at hB0
  have hB : Sat w0 (pc (w.heap.size + 1) 25 [vi 0, vu 0] * (elB w.heap.size x * (rtB q b ps.length cap (.slice vo 0 vc) * (rtL b cap ps * (sl 3 1 (.slice vo 0 vc) ([] : List Nat).length (nats ([] : List Nat)) * F))))) ((w.alloc (elO x)).alloc (.cells #[vi 0, vu 0] 25)) := hB0
  have HM := r_may hB x hx
  rw [hm] at HM
  have HM := Lib.hid HM
  have HLd := Lib.hid (range_ hB.pull2)
  clear hB hB0 hS hm hx
  go_enter Try.func22, Try.ntmps22
  go_wp2_with (refine wpList_load_mid rfl 29 _ rfl w.heap.size 0 (by rfl) (elC x) _ HLd.out Try.underlying29 rfl einfo ?_)
  generalize hb1 : w.heap.size + 1 = bx at *
  generalize hb2 : w.heap.size = b2 at *
  have HB1 := Lib.hid hb1
  have HB2 := Lib.hid hb2
  clear hb1 hb2 HLd
  refine HM.out.mono ?_
  rintro e w1 ⟨rfl, hS1⟩
  have s0 := hS1.cell 0 rfl; have s1 := hS1.cell 1 rfl; have t0 := hS1.free 0; have t1 := hS1.free 1; have q1 := hS1.pull3.cell 1 rfl; have H1 := Lib.hid ((hS1.store 0 (vi 0)).store 1 (vu 0)); clear hS1
  go_wp2
  (try simp only [Exit.inBlock, Exit.then])
  refine bodyPost_ret (v := .tuple #[vr 0 0, vi 3]) (by rw [results_cell_tmp rfl]; go_simp) rfl ?_
  exact ⟨rfl, H1.out.dropL.dropL⟩
set_option maxRecDepth 100000 in
set_option maxHeartbeats 4000000 in
theorem rt_make {k : Nat} {a : Pl} {fa : Nat} {m : Nat} (hmm : m = fr.length + 1) (hS : Sat w0 (rtB q b ps.length cap (.slice (some ⟨fa, 0, none⟩) m vc) * (rtL b cap ps * (sl 3 1 (.slice (some ⟨fa, 0, none⟩) m vc) m (nats (fr ++ [k])) * F))) w) (hk : ps[k]? = some a) (hfl : fr.length ≤ 1000) (x : El) (hx : 0 ≤ x.v18) (hm : mayB x = true) :
    Calls Try.prog 22 #[vp q, ev x] w fun e w' => ∃ vG, e = .returned (.tuple #[vr k a.gen, vi 0]) ∧ Sat w0 (rtB q b (ps.set k { a with there := true, x := x }).length cap vG * (rtL b cap (ps.set k { a with there := true, x := x }) * (sl 3 1 vG fr.length (nats fr) * F))) w' := by
  have hk2 : k < ps.length := (List.getElem?_eq_some_iff.1 hk).1
  have hki : (k : Int) < (ps.length : Int) := by omega
  have HK := Lib.hid hk
  obtain ⟨n, hn⟩ : ∃ n, n = fr.length := ⟨_, rfl⟩
  have hmn : m = n + 1 := by omega
  have Hn := Lib.hid hn
  have hw : IntKind.i64.wrap ((m : Int) - 1) = (n : Int) := by rw [IntWalk.i64_in _ (by omega)]; omega
  have hnm : (n : Int) < (m : Int) := by omega
  have hn0 : ¬ (n : Int) < 0 := by omega
  have hcap := hS.pull3.slCap
  have hnc : (n : Int) ≤ (vc : Int) := by omega
  have hnl : n ≤ 1000 := by omega
  have hone := Lib.hid (nats_one fr)
  clear hk hn hmm hfl
  have hB0 := (hS.alloc (elO x)).alloc (.cells #[vi 0, vu 0] 25)
  rw [size1] at hB0
  have hB : Sat w0 (pc (w.heap.size + 1) 25 [vi 0, vu 0] * (elB w.heap.size x * (rtB q b ps.length cap (.slice (some ⟨fa, 0, none⟩) m vc) * (rtL b cap ps * (sl 3 1 (.slice (some ⟨fa, 0, none⟩) m vc) m (nats (fr ++ [k])) * F))))) ((w.alloc (elO x)).alloc (.cells #[vi 0, vu 0] 25)) := hB0
  have HM := r_may hB x hx
  rw [hm] at HM
  have HM := Lib.hid HM
  have HLd := Lib.hid (range_ hB.pull2)
  clear hB hB0 hS hm hx
  go_enter Try.func22, Try.ntmps22
  go_wp2_with (refine wpList_load_mid rfl 29 _ rfl w.heap.size 0 (by rfl) (elC x) _ HLd.out Try.underlying29 rfl einfo ?_)
  generalize hb1 : w.heap.size + 1 = bx at *
  generalize hb2 : w.heap.size = b2 at *
  have HB1 := Lib.hid hb1
  have HB2 := Lib.hid hb2
  clear hb1 hb2 HLd
  refine HM.out.mono ?_
  rintro e w1 ⟨rfl, hS1⟩
  have q1 := hS1.pull3.cell 1 rfl
  have q0 := hS1.pull3.cell 0 rfl
  have hF := hS1.dropL.dropL.dropL.dropL
  have fk := hF.slCell n (u := vi k) (by rw [List.getElem?_map, Hn.out]; simp)
  have q2 := hS1.pull3.free 1
  have H1 := Lib.hid hS1
  clear hS1 hF
  go_wp2_with (first
    | (at_builtin; refine wpList_append_sl Eint rfl (.const (.slice none 0 0)) (.tmp 34) rfl (by rfl) (H1.out.addNil 3 1) (by rfl) (rdCut (H1.out.dropL.dropL.dropL.dropL) (n := n) (by omega) (ys := nats fr) (by rw [Hn.out]; simp [nats]) (by rw [Hn.out]; simp)) hone.out (by unfold maxLen; omega) (by omega) ?_; intro ao1 cap1 w2 hS2; simp only [Nat.zero_add, List.nil_append] at hS2; have hP := hS2.pull4; have z0 := hP.cell 0 rfl; have z1 := hP.cell 1 rfl; have zf := hP.free 1; have hP2 := hP.store 1 (.slice ao1 n cap1); have y0 := hP2.cell 0 rfl; have hL := hP2.pull5; have l1 := hL.slCell _ (flat_get (j := 1) pcl_len HK.out rfl); have lf1 := hL.slFree (k * 21 + 1); have hL2 := hL.slStore (k * 21 + 1) (by omega) (.bool true); rw [flat_set pcl_len ps k 1 a ({ a with there := true } : Pl) _ HK.out (by omega) rfl] at hL2; have H3 := Lib.hid hL2; clear hS2 hP hP2 hL hL2))
  have hz := H3.out
  generalize (World.setCell (World.setCell w2 ⟨q, 1, none⟩ (.slice ao1 n cap1)) ⟨b, k * 21 + 1, none⟩ (.bool true)) = W at *
  clear q1 q0 fk q2 z0 z1 zf y0 l1 lf1 H3 H1 HM
  have hk' : (ps.set k ({ a with there := true } : Pl))[k]? = some ({ a with there := true } : Pl) := get_set_self HK.out _
  have q0 := hz.pull2.cell 0 rfl
  have HTh := Lib.hid (slTherePl hz.drew hk' 2 19 (by omega))
  have hst := storeG hz.drew hk' (by simp) x
  rw [List.set_set] at hst
  have HST : Hid (Sat w0 _ (W.drew.setCells b (k * 21 + 2) (elC x).toArray.toList)) := Lib.hid hst
  have HZ := Lib.hid hz
  clear hz hst
  refine wp_quiet_tail 6 (by kernel_rfl) (by kernel_rfl) ?_
  simp only [List.take_succ_cons, List.take_zero, List.drop_succ_cons, List.drop_zero]
  iterate 5 (go_big_quiet_step (fail))
  refine wpQuiet_load_row (by rfl) 29 _ rfl b2 0 (by rfl) (elC x) _ (fun w' hw' => by subst hw'; exact range_ HZ.out.drew.pull5) Try.underlying29 rfl einfo ?_
  refine wpQuiet_nil ?_
  go_wp2_with (refine wpList_store_mid rfl 29 _ _ rfl b (k * 21 + 2) (elC x).toArray (by rfl) (by rfl) HTh.out einfo (all_oneCell_toArray (elOne x)) ?_; generalize World.setCells _ _ _ _ = W2 at *; have hS5 := HST.out; have q0' := hS5.pull2.cell 0 rfl; have e0 := hS5.slCell _ (flat_get (j := 0) pcl_len (get_set_self HK.out ({ a with there := true, x := x } : Pl)) rfl); rw [Nat.add_zero] at e0; have s0 := hS5.pull4.cell 0 rfl; have s1 := hS5.pull4.cell 1 rfl; have t0 := hS5.pull4.free 0; have t1 := hS5.pull4.free 1; have H5 := Lib.hid ((hS5.pull4.store 0 (vi k)).store 1 (vu a.gen)); clear hS5)
  (try simp only [Exit.inBlock, Exit.then])
  refine bodyPost_ret (v := .tuple #[vr k a.gen, vi 0]) (by rw [results_cell_tmp rfl]; go_simp) rfl ?_
  first | refine ⟨.slice ao1 n cap1, rfl, ?_⟩ | refine ⟨rfl, .slice ao1 n cap1, ?_⟩
  have hl : (ps.set k ({ a with there := true, x := x } : Pl)).length = ps.length := List.length_set
  unfold rtL
  rw [hl, ← Hn.out]
  refine Sat.dropL (A := elB b2 x * (sl 3 1 (.slice (some ⟨fa, 0, none⟩) m vc) m (nats (fr ++ [k])))) (H5.out.dropL.cast ?_)
  simp only [List.set_cons_zero, List.set_cons_succ]
  ac_rfl
end
end Go.Proofs.Ytffjckdaekamgaa.Gt
