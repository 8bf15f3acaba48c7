/-
  Contract of the arena's Len. No statement is proved here.
-/
import Derived.Test.YtjealmaddjepnaaAllA
import Derived.Test.YtjealmaddjepnaaDoB
namespace Go.Proofs.Ytjealmaddjepnaa.Ar
open Go.RowKit Go.Shelf
attribute [local go_sem] Oper.semAt_some
set_option linter.unusedVariables false

section
variable {w0 w : World} {p : Nat} {ps : List Pl} {free : List Nat} {F : Hp}
set_option maxRecDepth 100000 in
set_option maxHeartbeats 2000000 in
theorem len_ (h : Sat w0 (tblP p ps free * F) w) :
    Calls Try.prog 33 #[vp p] w fun e w' => e = .returned (vi (seen ps ps.length).length) ∧ Sat w0 (tblP p ps free * F) w' := by
  have hsm := (tblOk_of h).small
  refine (callsIn_wide (n := 9)).1 ?_
  refine callsIn_of_wp_marks Try.func33 rfl trivial ?_ rfl
  simp only [Try.ntmps33, List.size_toArray, List.length_cons, List.length_nil, Nat.reduceAdd, Nat.reduceSub, Array.replicate_succ, Array.replicate_zero, List.push_toArray, List.append_toArray, List.nil_append, List.cons_append]
  have hB : Sat w0 (pc w.heap.size 3 [vi 0] * (tblP p ps free * F)) (w.alloc (.cells #[vi 0] 3)) := h.alloc _
  have HA := Lib.hid (all_ hB.pull2)
  clear h hB
  generalize hbx : w.heap.size = nb at *
  have HNB := Lib.hid hbx
  clear hbx
  gi_wp2_with fail
  refine ⟨trivial, ?_⟩
  rw [HNB.out]
  refine (callsIn_wide.2 HA.out).mono ?_
  rintro e w1 ⟨bx, ao, cap, rfl, hS⟩
  have hS2 : Sat w0 (pc nb 3 [vi 0] * (itP bx (.slice ao ps.length cap) ps * (tblP p ps free * F))) w1 := hS.cast (by ac_rfl)
  have hR := itP_R hS
  have hN := itP_ne hS2
  have HS := Lib.hid hS2
  have HR := Lib.hid hR
  have HN := Lib.hid hN
  clear hS hS2 hR hN
  gi_wp2
  refine wpIn_rangeFunc_ownG rfl (by omega) (gf := 31) (lb := #[.pointer (some ⟨bx, 0, none⟩)]) rfl trivial (enters_of Try.func31 (by kernel_rfl) rfl)
    (all_stops Fence.wide 8 trivial rfl (by omega) hsm HR.out.1 HR.out.2) KB.trans (KB.putObj HR.out.2) (Below.refl _ _) (fun _ => rfl)
    (fun pre W => SatC w0 w1.heap.size (pc nb 3 [vi pre.length] * (itP bx (.slice ao ps.length cap) ps * (tblP p ps free * F))) W)
    (fun _ _ _ => False)
    (SatC.own HS.out.size)
    (fun _ _ _ _ _ hs _ _ => hs)
    (HS.out.satC (Nat.le_refl _))
    (fun x => { tmps := #[vp p, undef, .int .i64 0, .pointer (some ⟨nb, 0, none⟩), vp p, .func (.func 31) #[] #[.pointer (some ⟨bx, 0, none⟩)], vr x.1 x.2.1, ev x.2.2, undef, undef, undef], defers := [] }) ?assign ?body ?done ?stop
  case assign =>
    intro l x W K hK
    dsimp only [encA]
    gi_wp2
    simpa using hK
  case body =>
    rintro l pre x W hS hlen
    have hc := hS.sat.cell 0 rfl
    have hf := hS.sat.free 0
    have h3 := hS.store 0 (vi (pre ++ [x]).length)
    have hlen' : pre.length < 4096 := by omega
    have HS3 := Lib.hid h3
    clear hS h3
    gi_wp2
    have e : (.int .i64 (pre.length + 1) : Value) = vi (pre ++ [x]).length := by simp
    rw [e]
    refine ⟨(KeepsOthers.setCell _ _ _).from _, fun k hk => Below.heap_setCell _ _ _ _ (HN.out k hk), HS3.out⟩
  case done =>
    rintro D ys W hD rfl hS hK
    have hc := hS.sat.cell 0 rfl
    have HS3 := Lib.hid hS
    clear hS
    gi_wp2
    refine ⟨by simp, .inl ⟨_, _, rfl, run_takeDeferred hK, ?_⟩⟩
    exact ⟨_, results_tmp rfl _ _ _, rfl, ((SatC.own (f := fun _ : Unit => _) HS.out.size).putObj (s := ()) _ HS3.out hD hK rfl).sat.dropL.dropL⟩
  case stop =>
    rintro D c pre W _ _ h _
    exact h.elim
end
end Go.Proofs.Ytjealmaddjepnaa.Ar
