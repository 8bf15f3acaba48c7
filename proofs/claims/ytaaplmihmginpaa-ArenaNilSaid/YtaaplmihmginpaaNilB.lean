/-
  The arena's Len where there is no table; the walk of ArenaNil. No statement is proved here.
-/
import Derived.Test.YtaaplmihmginpaaNilA
import Derived.Test.YtaaplmihmginpaaKnownA
import Derived.Test.YtaaplmihmginpaaRingPlays
namespace Go.Proofs.Ytaaplmihmginpaa.Ar
open Go.RowKit Go.Shelf
attribute [local go_sem] Oper.semAt_some
set_option linter.unusedVariables false

section
variable {w : World} {v : Value}
set_option maxRecDepth 100000 in
set_option maxHeartbeats 2000000 in
theorem len_nov (h : NoV w v) :
    Calls Try.prog 36 #[v] w fun e w' => e = .returned (vi 0) ∧ Below w.heap.size w w' := by
  refine (callsIn_wide (n := 9)).1 ?_
  refine callsIn_of_wp_marks Try.func36 rfl trivial ?_ rfl
  simp only [Try.ntmps36, List.size_toArray, List.length_cons, List.length_nil, Nat.reduceAdd, Nat.reduceSub, Array.replicate_succ, Array.replicate_zero, List.push_toArray, List.append_toArray, List.nil_append, List.cons_append]
  have hS0 : Sat w (pc w.heap.size 3 [vi 0] * emp) (w.alloc (.cells #[vi 0] 3)) := (Sat.start w).alloc _
  have HA := Lib.hid (all_nov_it hS0 (h.below (below_alloc w (.cells #[vi 0] 3))))
  clear h hS0
  generalize hbx : w.heap.size = nb at *
  have HNB := Lib.hid hbx
  clear hbx
  gi_wp2_with fail
  refine ⟨trivial, ?_⟩
  rw [HNB.out]
  refine (callsIn_wide.2 HA.out).mono ?_
  rintro e w1 ⟨bx, rfl, hS, -⟩
  have hR := itP_R hS
  have HS := Lib.hid hS.dropL
  have HR := Lib.hid hR
  clear hS hR
  gi_wp2
  refine wpIn_rangeFunc_ownG rfl (by omega) (gf := 64) (lb := #[.pointer (some ⟨bx, 0, none⟩)]) rfl trivial (enters_of Try.func64 (by kernel_rfl) rfl)
    (all_stops Fence.wide 8 trivial rfl (by omega) (by simp) HR.out.1 HR.out.2) KB.trans (KB.putObj HR.out.2) (Below.refl _ _) (fun _ => rfl)
    (fun pre W => SatC w w1.heap.size (pc nb 3 [vi 0] * emp) W)
    (fun _ _ _ => False)
    (SatC.own HS.out.size)
    (fun _ _ _ _ _ hs _ _ => hs)
    (HS.out.satC (Nat.le_refl _))
    (fun x => { tmps := #[v, undef, .int .i64 0, .pointer (some ⟨nb, 0, none⟩), v, .func (.func 64) #[] #[.pointer (some ⟨bx, 0, none⟩)], vr x.1 x.2.1, ev x.2.2, undef, undef, undef], defers := [] }) ?assign ?body ?done ?stop
  case assign =>
    intro l x W K hK
    dsimp only [encA]
    gi_wp2
    simpa using hK
  case body =>
    rintro l pre x W hS hlen
    simp at hlen
  case done =>
    rintro D ys W hD rfl hS hK
    have hc := hS.sat.cell 0 rfl
    have HS3 := Lib.hid hS
    clear hS
    gi_wp2
    refine ⟨by simp, .inl ⟨_, _, rfl, run_takeDeferred hK, ?_⟩⟩
    refine ⟨_, results_tmp rfl _ _ _, rfl, ?_⟩
    rw [← HNB.out]
    exact ((SatC.own (f := fun _ : Unit => _) HS.out.size).putObj (s := ()) _ HS3.out hD hK rfl).sat.below
  case stop =>
    rintro D c pre W _ _ h _
    exact h.elim
end

theorem KB.refl (ks : List Nat) (W : World) : KB ks W W := fun _ _ => rfl
/-- A loop's block for deferred calls, through a loop behind it. -/
theorem mark_own {β : Type} {B D : Nat} (hD : D < B) : OwnFrom B (fun (_ : β) W => W.heap[D]? = some (.deferred (some []))) := fun s W W' row hs hg hr =>
  (hg.block D (lt_of_block hs) (fun e => by have := (hr D e.symm).1; omega)).trans hs

/-- What ArenaNil has of its own. -/
abbrev nK (r : Nat) : Hp := pc r 4 [.bool false] * (pc (r + 1) 91 [.slice none 0 0, .slice none 0 0] * emp)
theorem nK.nov {w0 w : World} {r : Nat} {F : Hp} (h : Sat w0 (nK r * F) w) : NoV w (vp (r + 1)) :=
  .inr ⟨_, rfl, (h.cast (show _ = pc (r + 1) 91 [.slice none 0 0, .slice none 0 0] * (pc r 4 [.bool false] * F) by (simp only [nK, sep_emp]; ac_rfl))).cell 0 rfl⟩

theorem NoV.nil {w : World} : NoV w (.pointer none) := .inl rfl
/-- .. and the marks of two loops. -/
def NK (w0 : World) (r D D2 : Nat) (W : World) : Prop := Sat w0 (nK r * emp) W ∧ W.heap[D]? = some (.deferred (some [])) ∧ W.heap[D2]? = some (.deferred (some []))
theorem NK.step {w0 W W' : World} {r D D2 : Nat} (h : NK w0 r D D2 W) (hb : Below W.heap.size W W') : NK w0 r D D2 W' :=
  ⟨h.1.rebase hb, (hb.block D (lt_of_block h.2.1)).trans h.2.1, (hb.block D2 (lt_of_block h.2.2)).trans h.2.2⟩
theorem NK.nov {w0 W : World} {r D D2 : Nat} (h : NK w0 r D D2 W) : NoV W (vp (r + 1)) := nK.nov h.1
theorem NK.known {w0 W : World} {r D D2 : Nat} (h : NK w0 r D D2 W) : Calls Try.prog 23 #[] W fun e w' => e = .returned (.bool true) ∧ NK w0 r D D2 w' :=
  (As.knownA (Sat.start W)).mono fun e w' ⟨he, hS⟩ => ⟨he, h.step hS.below⟩

set_option maxRecDepth 100000 in
set_option maxHeartbeats 4000000 in
theorem nil_walk (w0 : World) : Calls Try.prog 13 #[] w0 (TrueBelow w0) := by
  have h0 : Sat w0 (nK w0.heap.size * emp) ((w0.alloc (.cells #[.bool false] 4)).alloc (.cells #[.slice none 0 0, .slice none 0 0] 91)) := by
    have h1 : Sat w0 (pc w0.heap.size 4 [.bool false] * emp) (w0.alloc (.cells #[.bool false] 4)) := (Sat.start w0).alloc _
    have h2 := h1.alloc (.cells #[.slice none 0 0, .slice none 0 0] 91)
    rw [World.size_alloc] at h2
    have h3 : Sat w0 (pc (w0.heap.size + 1) 91 [.slice none 0 0, .slice none 0 0] * (pc w0.heap.size 4 [.bool false] * emp)) _ := h2
    exact h3.cast (by simp only [nK, sep_emp]; ac_rfl)
  have H0 := Lib.hid h0
  clear h0
  refine (callsIn_wide (n := 9)).1 ?_
  refine callsIn_of_wp_marks Try.func13 rfl trivial ?_ rfl
  simp only [Try.ntmps13, List.size_toArray, List.length_nil, Nat.reduceSub, Array.replicate_succ, Array.replicate_zero, List.push_toArray, List.append_toArray, List.nil_append, List.cons_append]
  generalize hr : w0.heap.size = r at *
  have HR0 := Lib.hid hr
  clear hr
  gi_wp2_with fail
  refine ⟨trivial, ?_⟩
  rw [HR0.out]
  refine (callsIn_wide.2 (put_nov (.inl rfl) 1)).mono ?_
  rintro e w1 ⟨rfl, hb⟩
  have H1 := Lib.hid ((H0.out.rebase hb).alloc' (.cells #[vi 0, vu 0] 45))
  clear hb
  gi_wp2_with fail
  refine ⟨trivial, ?_⟩
  refine (callsIn_wide.2 (get_nov (nK.nov H1.out) 0 1)).mono ?_
  rintro e w2 ⟨rfl, hb⟩
  have H2 := Lib.hid (H1.out.rebase hb)
  clear hb
  gi_wp2_with fail
  refine ⟨trivial, ?_⟩
  refine (callsIn_wide.2 (at_nov (.inl rfl) 0)).mono ?_
  rintro e w3 ⟨rfl, hb⟩
  have H3 := Lib.hid ((H2.out.rebase hb).alloc' (.cells #[vi 0, vu 0] 45))
  clear hb
  gi_wp2_with fail
  refine ⟨trivial, ?_⟩
  refine (callsIn_wide.2 (all_nov_it H3.out (.inl rfl))).mono ?_
  rintro e w4 ⟨bx, rfl, hS, -⟩
  have H4 := Lib.hid (hS.cast (sep_comm _ _))
  clear hS
  gi_wp2_with fail
  refine ⟨trivial, ?_⟩
  refine (callsIn_wide.2 (all_nov_it H4.out (nK.nov (H4.out.cast (by ac_rfl) : Sat w0 (nK r * (emp * itP bx (.slice none 0 0) [])) w4)))).mono ?_
  rintro e w5 ⟨bx2, rfl, hS, -⟩
  have hR2 := itP_R hS
  have hR1 := itP_R (hS.dropL.cast (sep_comm _ _))
  have H5 := Lib.hid hS
  have HR1 := Lib.hid hR1
  have HR2 := Lib.hid hR2
  clear hS hR1 hR2
  have hnf : ∀ (b : Nat) (W : World), (binOp BinOp.eql 69 (.func (.func 64) #[] #[.pointer (some ⟨b, 0, none⟩)]) .nilFunc).run Try.prog W = .ok (.bool false) W := fun _ _ => by rfl
  gi_wp2
  clear hnf
  refine wpIn_rangeFunc_ownH rfl (by omega) (gf := 64) (lb := #[.pointer (some ⟨bx, 0, none⟩)]) rfl trivial (enters_of Try.func64 (by kernel_rfl) rfl)
    (all_stops Fence.wide 8 trivial rfl (by omega) (by simp) HR1.out.1 HR1.out.2) KB.trans (KB.putObj HR1.out.2) (Below.refl _ _) (fun _ => rfl)
    (fun pre W => SatC w0 w5.heap.size (itP bx2 (.slice none 0 0) [] * (nK r * emp * itP bx (.slice none 0 0) [])) W)
    (fun _ _ _ => False)
    (SatC.own H5.out.size)
    (fun _ _ _ _ _ hs _ _ => hs)
    (H5.out.satC (Nat.le_refl _))
    (fun _ _ _ => True) (fun _ _ _ _ _ _ _ _ _ => trivial) ?assign ?body ?done ?stop
  case assign =>
    intro l pre x W K hS hK
    dsimp only [encA]
    gi_wp2
    exact hK _ _ (KeepsFrom.refl _ _) (KB.refl _ _) hS trivial
  case body =>
    rintro l pre x a' W _ _ hS _ hlen
    simp at hlen
  case stop =>
    rintro D c pre W _ _ h _
    exact h.elim
  case done =>
    rintro D ys W hD rfl hS hK
    have HS6 := Lib.hid hS.sat
    have HK6 := Lib.hid hK
    have HR3 := Lib.hid (itP_R hS.sat)
    clear hS hK
    have hDs := lt_of_block HK6.out
    gi_wp2
    refine wpIn_rangeFunc_ownH rfl (by omega) (gf := 64) (lb := #[.pointer (some ⟨bx2, 0, none⟩)]) rfl trivial (enters_of Try.func64 (by kernel_rfl) rfl)
      (all_stops Fence.wide 8 trivial rfl (by omega) (by simp) HR3.out.1 HR3.out.2) KB.trans (KB.putObj HR3.out.2) (Below.refl _ _) (fun _ => rfl)
      (fun pre W' => SatC w0 W.heap.size (itP bx2 (.slice none 0 0) [] * (nK r * emp * itP bx (.slice none 0 0) [])) W' ∧ W'.heap[D]? = some (.deferred (some [])))
      (fun _ _ _ => False)
      (OwnFrom.and (SatC.own HS6.out.size) (mark_own hDs))
      (fun _ _ _ _ _ hs _ _ => hs)
      ⟨HS6.out.satC (Nat.le_refl _), HK6.out⟩
      (fun _ _ _ => True) (fun _ _ _ _ _ _ _ _ _ => trivial) ?assign2 ?body2 ?done2 ?stop2
    case assign2 =>
      intro l pre x W K hS hK
      dsimp only [encA]
      gi_wp2
      exact hK _ _ (KeepsFrom.refl _ _) (KB.refl _ _) hS trivial
    case body2 =>
      rintro l pre x a' W _ _ hS _ hlen
      simp at hlen
    case stop2 =>
      rintro D c pre W _ _ h _
      exact h.elim
    case done2 =>
      rintro D2 ys W2 hD2 rfl ⟨hS, hK1⟩ hK2
      have H7 : Hid (NK w0 r D D2 W2) := Lib.hid ⟨(hS.sat.dropL.cast (by rw [sep_emp]) : Sat w0 (nK r * itP bx (.slice none 0 0) []) W2).dropR.cast (by rw [sep_emp]), hK1, hK2⟩
      have hDD : D2 ≠ D := by omega
      clear hS hK1 hK2
      gi_wp2_with (first
        | (refine ⟨trivial, ?_⟩; gi_at_call 29; (with_reducible refine (callsIn_wide.2 (set_nov NoV.nil 0 0 1)).mono ?_); rintro e w8 ⟨rfl, hb⟩; have H8 := Lib.hid (H7.out.step hb); clear hb)
        | (refine ⟨trivial, ?_⟩; gi_at_call 30; (with_reducible refine (callsIn_wide.2 (drop_nov (NK.nov H8.out) 0 0)).mono ?_); rintro e w9 ⟨rfl, hb⟩; have H9 := Lib.hid (H8.out.step hb); clear hb)
        | (refine ⟨trivial, ?_⟩; gi_at_call 36; (with_reducible refine (callsIn_wide.2 (len_nov NoV.nil)).mono ?_); rintro e w10 ⟨rfl, hb⟩; have H10 := Lib.hid (H9.out.step hb); clear hb)
        | (refine ⟨trivial, ?_⟩; gi_at_call 36; (with_reducible refine (callsIn_wide.2 (len_nov (NK.nov H10.out))).mono ?_); rintro e w11 ⟨rfl, hb⟩; have H11 := Lib.hid (H10.out.step hb); clear hb)
        | (refine ⟨trivial, ?_⟩; gi_at_call 46; (with_reducible refine (callsIn_wide.2 (size_no NoV.nil)).mono ?_); rintro e w' ⟨rfl, rfl⟩)
        | (refine ⟨trivial, ?_⟩; gi_at_call 46; (with_reducible refine (callsIn_wide.2 (size_no (NK.nov H11.out))).mono ?_); rintro e w' ⟨rfl, rfl⟩)
        | (refine ⟨trivial, ?_⟩; gi_at_call 37; (with_reducible refine (callsIn_wide.2 (frees_no NoV.nil)).mono ?_); rintro e w' ⟨rfl, rfl⟩)
        | (refine ⟨trivial, ?_⟩; gi_at_call 37; (with_reducible refine (callsIn_wide.2 (frees_no (NK.nov H11.out))).mono ?_); rintro e w' ⟨rfl, rfl⟩)
        | (refine ⟨trivial, ?_⟩; gi_at_call 35; (with_reducible refine (callsIn_wide.2 (retired_no NoV.nil)).mono ?_); rintro e w' ⟨rfl, rfl⟩)
        | (refine ⟨trivial, ?_⟩; gi_at_call 35; (with_reducible refine (callsIn_wide.2 (retired_no (NK.nov H11.out))).mono ?_); rintro e w' ⟨rfl, rfl⟩)
        | (refine ⟨trivial, ?_⟩; gi_at_call 44; (with_reducible refine (callsIn_wide.2 (copy_no NoV.nil)).mono ?_); rintro e w' ⟨rfl, rfl⟩)
        | (refine ⟨trivial, ?_⟩; gi_at_call 44; (with_reducible refine (callsIn_wide.2 (copy_no (NK.nov H11.out))).mono ?_); rintro e w' ⟨rfl, rfl⟩)
        | (refine ⟨trivial, ?_⟩; gi_at_call 23; (with_reducible refine (callsIn_wide.2 H11.out.known).mono ?_); rintro e w12 ⟨rfl, h12⟩; have c12 := (h12.1.cast (sep_assoc _ _ _)).cell 0 rfl; have f12 := (h12.1.cast (sep_assoc _ _ _)).free 0; have H12 := Lib.hid h12; clear h12))
      have hS12 : Sat w0 (pc r 4 [.bool false] * (pc (r + 1) 91 [.slice none 0 0, .slice none 0 0] * emp)) w12 := H12.out.1.cast (by simp only [nK, sep_emp])
      have hS13 := hS12.store 0 (.bool true)
      have k1 := (KeepsOthers.setCell w12 ⟨r, 0, none⟩ (.bool true)).same D _ H12.out.2.1 rfl
      have k2 := (KeepsOthers.setCell w12 ⟨r, 0, none⟩ (.bool true)).same D2 _ H12.out.2.2 rfl
      have hne1 : r ≠ D := by
        intro e
        have h5 := hS13.blk.1
        rw [← e, h5] at k1
        cases k1
      have hne2 : r ≠ D2 := by
        intro e
        have h5 := hS13.blk.1
        rw [← e, h5] at k2
        cases k2
      have hc := hS13.cell 0 rfl
      have hbf := hS13.below
      have hbD : w0.heap.size ≤ D := Nat.le_trans H5.out.size hD
      have hbD2 : w0.heap.size ≤ D2 := Nat.le_trans HS6.out.size hD2
      generalize w12.setCell ⟨r, 0, none⟩ (.bool true) = w13 at *
      clear hS12 hS13 c12 f12
      refine ⟨by simp, .inl ⟨_, _, rfl, run_takeDeferred k2, ?_⟩⟩
      have k3 : (w13.putObj D2 (.deferred none)).heap[D]? = some (.deferred (some [])) := (World.putObj_heap_other (Ne.symm hDD)).trans k1
      refine ⟨by simp, .inl ⟨_, _, rfl, run_takeDeferred k3, ?_⟩⟩
      have hc2 : ((w13.putObj D2 (.deferred none)).putObj D (.deferred none)).cell? ⟨r, 0, none⟩ = some (.bool true) :=
        (World.cell?_of_block (a := ⟨r, 0, none⟩) ((World.putObj_heap_other hne1).trans (World.putObj_heap_other hne2))).trans hc
      refine ⟨.bool true, by simp [results, Try.f13, go_sem, hc2], rfl, ?_⟩
      have hb2 := hbf.grown (grownBy_putObj' w13 D2 (.deferred none)) hbf.size (fun k e => by cases e; exact hbD2)
      exact hb2.grown (grownBy_putObj' _ D (.deferred none)) hb2.size (fun k e => by cases e; exact hbD)
theorem nil_row (w0 : World) : Calls Try.prog 13 #[] w0 (TrueBelow w0) := nil_walk w0
end Go.Proofs.Ytaaplmihmginpaa.Ar
