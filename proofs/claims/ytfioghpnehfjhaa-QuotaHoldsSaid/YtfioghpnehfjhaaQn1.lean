/-
  Law 10: what is, where there are no domains: Get, up$1, Chain. No statement is proved here.
-/
import Derived.Test.YtfioghpnehfjhaaDn5
namespace Go.Proofs.Ytfioghpnehfjhaa.Dm
open Go.RowKit Go.Shelf Ad
attribute [local go_sem] Oper.semAt_some
set_option linter.unusedVariables false

section
variable {w0 w : World} {F : Hp}
set_option maxRecDepth 100000 in
set_option maxHeartbeats 2000000 in
theorem dn_get (hS : Sat w0 F w) (i g : Int) : Calls Try.prog 16 #[.pointer none, vr i g] w fun e w' => e = .returned (.tuple #[ev ez, vi 1]) ∧ Sat w0 F w' := by
  have hB0 := ((hS.alloc (.cells #[vi i, vu g] 32)).alloc (elO ez))
  rw [size1] at hB0
  have hB : Sat w0 (elB (w.heap.size + 1) ez * (pc w.heap.size 32 [vi i, vu g] * F)) ((w.alloc (.cells #[vi i, vu g] 32)).alloc (elO ez)) := hB0
  have HB := Lib.hid hB
  clear hB hB0 hS
  generalize hwb : (w.alloc (.cells #[vi i, vu g] 32)).alloc (elO ez) = wb at *
  generalize hb1 : w.heap.size + 1 = bx at *
  generalize hb2 : w.heap.size = b2 at *
  have HN := Lib.hid (dm_none0 wb)
  have HW := Lib.hid hwb
  have HB1 := Lib.hid hb1
  have HB2 := Lib.hid hb2
  clear hwb hb1 hb2
  go_enter Try.func16, Try.ntmps16
  go_wp2_with fail
  rw [HW.out, HB2.out, HB1.out]
  refine HN.out.mono ?_
  rintro e w' ⟨rfl, rfl⟩
  have HTh := Lib.hid (there_ (n := 11) HB.out rfl)
  have HR := Lib.hid (World.rangeAt_setCells_same wb bx 0 (elC ez) HTh.out)
  have HX2 := Lib.hid (HB.out.stores (elC ez) 0)
  have HR : Hid ((wb.setCells bx 0 (elC ez).toArray.toList).rangeAt bx 0 (elC ez)) := HR
  have HX2 : Hid (Sat w0 _ (wb.setCells bx 0 (elC ez).toArray.toList)) := HX2
  go_wp2_with (first | (refine wpList_store_mid rfl 45 _ _ rfl bx 0 (elC ez).toArray (by rfl) (by rfl) HTh.out einfo (all_oneCell_toArray (elOne ez)) ?_; generalize wb.setCells bx 0 (elC ez).toArray.toList = w2 at *))
  (try simp only [Exit.inBlock, Exit.then])
  refine bodyPost_ret (v := .tuple #[ev ez, vi 1]) (results_row rfl _ _ _ rfl rfl HR.out Try.underlying45 rfl einfo) rfl ?_
  exact ⟨rfl, HX2.out.dropL.dropL⟩
set_option maxRecDepth 100000 in
set_option maxHeartbeats 2000000 in
theorem upn_ (n : Nat) (hn : 1 ≤ n) (bd br l : Nat) (i g : Int)
    (h0 : Sat w0 (pc br 32 [vi i, vu g] * (pc bd 25 [.pointer none] * F)) w) :
    CallsIn Fence.wide n Try.prog 70 #[.func (.yield l) #[] #[], vp bd, vp br] w fun e W' => (∃ v, e = .returned v) ∧ Sat w0 (pc br 32 [vi i, vu g] * (pc bd 25 [.pointer none] * F)) W' := by
  have HS0 := Lib.hid h0
  clear h0
  refine callsIn_of_wp Try.func70 rfl trivial ?_ rfl
  simp only [Try.ntmps70, List.size_toArray, List.length_cons, List.length_nil, Nat.reduceAdd, Nat.reduceSub, Array.replicate_succ, Array.replicate_zero, List.push_toArray, List.append_toArray, List.nil_append, List.cons_append]
  gi_wp2
  gi_loopg [6] 0 (fun gk _ wr => Sat w0 (pc br 32 [vi i, vu g] * (pc bd 25 [.pointer none] * F)) wr)
  case atStart => exact HS0.out
  case round =>
    have hS := hrel
    have b0 := hS.cell 0 rfl
    have b1 := hS.cell 1 rfl
    have d0 := hS.pull2.cell 0 rfl
    have HG := Lib.hid (dn_get hS i g)
    clear hS hrel
    gi_wp2_with fail
    refine ⟨trivial, ?_⟩
    refine (callsIn_wide.2 HG.out).mono ?_
    rintro e w1 ⟨rfl, hS1⟩
    have hT2 := hS1.alloc' (elO ez)
    have H1 := Lib.hid hT2
    clear hS1 hT2
    gi_wp2
    all_goals
      refine ⟨fun _ h => (by cases h), ?_⟩
      gi_wp2
      refine bodyPost_ret (results_none rfl _ _ _) rfl ?_
      exact ⟨⟨_, rfl⟩, H1.out⟩
set_option maxRecDepth 100000 in
set_option maxHeartbeats 2000000 in
theorem dn_up (hS : Sat w0 F w) (i g : Int) : Calls Try.prog 43 #[.pointer none, vr i g] w fun e w' => ∃ bd br, e = .returned (.func (.func 70) #[] #[vp bd, vp br]) ∧ Sat w0 (pc br 32 [vi i, vu g] * (pc bd 25 [.pointer none] * F)) w' := by
  have hB := (hS.alloc (.cells #[.pointer none] 25)).alloc (.cells #[vi i, vu g] 32)
  rw [size1] at hB
  have HB := Lib.hid hB
  clear hS hB
  go_enter Try.func43, Try.ntmps43
  go_wp2
  go_ret
  exact ⟨_, _, rfl, HB.out⟩
set_option maxRecDepth 100000 in
set_option maxHeartbeats 2000000 in
theorem dn_chain (hS : Sat w0 F w) (i g : Int) :
    Calls Try.prog 17 #[.pointer none, vr i g] w fun e w' => e = .returned (.slice none 0 0) ∧ Sat w0 F w' := by
  have hB0 := (hS.alloc (.cells #[vi i, vu g] 32)).alloc (.cells #[.slice none 0 0] 27)
  rw [size1] at hB0
  have hB : Sat w0 (pc (w.heap.size + 1) 27 [.slice none 0 0] * (pc w.heap.size 32 [vi i, vu g] * F)) ((w.alloc (.cells #[vi i, vu g] 32)).alloc (.cells #[.slice none 0 0] 27)) := hB0
  have b0 := hB.pull2.cell 0 rfl
  have b1 := hB.pull2.cell 1 rfl
  have HU := Lib.hid (dn_up hB i g)
  clear hS hB hB0
  generalize hwb : (w.alloc (.cells #[vi i, vu g] 32)).alloc (.cells #[.slice none 0 0] 27) = wb at *
  generalize hb1 : w.heap.size + 1 = bo at *
  generalize hb2 : w.heap.size = b2 at *
  have HW := Lib.hid hwb
  have HB1 := Lib.hid hb1
  have HB2 := Lib.hid hb2
  clear hwb hb1 hb2
  refine (callsIn_wide (n := 9)).1 ?_
  refine callsIn_of_wp_marks Try.func17 rfl trivial ?_ rfl
  simp only [Try.ntmps17, List.size_toArray, List.length_cons, List.length_nil, Nat.reduceAdd, Nat.reduceSub, Array.replicate_succ, Array.replicate_zero, List.push_toArray, List.append_toArray, List.nil_append, List.cons_append]
  gi_wp2_with fail
  refine ⟨trivial, ?_⟩
  rw [HW.out, HB2.out, HB1.out]
  refine (callsIn_wide.2 HU.out).mono ?_
  rintro e w1 ⟨bd, br, rfl, hS⟩
  have H1 := Lib.hid hS
  clear hS b0 b1
  gi_wp2
  refine wpIn_act ?_
  intro a0 ha0
  refine wpIn_range_sat (H' := pc br 32 [vi i, vu g] * (pc bd 25 [.pointer none] * (pc bo 27 [.slice none 0 0] * (pc b2 32 [vi i, vu g] * F)))) rfl (by omega) (gf := 70) (lb := #[vp bd, vp br]) (by rw [ha0]; rfl) trivial (enters_of Try.func70 (by kernel_rfl) rfl) H1.out ?call ?done
  case call =>
    intro fn ll D R W hfn hR hS
    refine (upn_ 8 (by omega) bd br ll i g (F := pc bo 27 [.slice none 0 0] * (pc b2 32 [vi i, vu g] * F) * (pt ll R * pt D dmark)) (hS.cast (by ac_rfl))).mono ?_
    rintro e W' ⟨he, h⟩
    exact ⟨he, h.cast (by ac_rfl)⟩
  case done =>
    intro D W hS
    have h3 : Sat w0 (pc bo 27 [.slice none 0 0] * (pt D dmark * (pc b2 32 [vi i, vu g] * (pc br 32 [vi i, vu g] * (pc bd 25 [.pointer none] * F))))) W := hS.cast (by ac_rfl)
    have o0 := h3.cell 0 rfl
    have o1 := h3.free 0
    have h4 := h3.store 0 (.slice none 0 0)
    have hne := h4.ne
    have hc := h4.cell 0 rfl
    have hk := h4.dropL.blk.1
    have H4 := Lib.hid h4
    clear hS h3 h4
    subst ha0
    gi_wp2
    generalize W.setCell ⟨bo, 0, none⟩ (.slice none 0 0) = W4 at *
    refine ⟨by simp, .inl ⟨_, _, rfl, run_takeDeferred hk, ?_⟩⟩
    have hc2 : (W4.putObj D (.deferred none)).cell? ⟨bo, 0, none⟩ = some (.slice none 0 0) := (World.cell?_of_block (a := ⟨bo, 0, none⟩) (World.putObj_heap_other hne)).trans hc
    exact ⟨.slice none 0 0, by simp [results, Try.f17, go_sem, hc2], rfl, H4.out.pull2.putObj.dropL.dropL.dropL.dropL.dropL⟩
end
end Go.Proofs.Ytfioghpnehfjhaa.Dm
