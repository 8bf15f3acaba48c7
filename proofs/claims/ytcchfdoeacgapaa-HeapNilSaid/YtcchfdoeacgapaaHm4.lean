/-
  Contracts of heap.Heap: set. No statement is proved here.
-/
import Derived.Test.YtcchfdoeacgapaaHm3
namespace Go.Proofs.Ytcchfdoeacgapaa.Hm
open Go.RowKit
set_option linter.unusedVariables false

/-- A heap's block. -/
abbrev hpB (h : Nat) (vl vm : Value) (p : Int) : Hp := pc h 79 [vl, vm, vi p]
abbrev tl (vl : Value) (n : Nat) (A : List Tm) : Hp := sl 82 3 vl n (tmsV A)
abbrev vs (g n cap : Nat) : Value := .slice (some ⟨g, 0, none⟩) n cap
section
variable {w0 w : World} {F : Hp} {h g b n cap : Nat} {p : Int} {A : List Tm} {M : Int → Option Int}
theorem tlLen (hS : Sat w0 (tl (vs g n cap) n A * F) w) : A.length = n ∧ n ≤ cap ∧ cap ≤ maxLen := by
  have h1 := hS.slE.1
  rw [tmsV_len] at h1
  obtain ⟨cur, h2, h3, _⟩ := hS.slP
  exact ⟨by omega, h2, h3⟩
theorem slStore3 (hS : Sat w0 (tl (vs g n cap) n A * F) w) (i : Nat) (hi : i < n) (x : Tm) :
    Sat w0 (tl (vs g n cap) n (A.set i x) * F) (((w.setCell ⟨g, i * 3, none⟩ (vu x.1)).setCell ⟨g, i * 3 + 1, none⟩ (vi x.2.1)).setCell ⟨g, i * 3 + 2, none⟩ (vi x.2.2)) := by
  have h1 := ((hS.slStore (i * 3) (by omega) (vu x.1)).slStore (i * 3 + 1) (by omega) (vi x.2.1)).slStore (i * 3 + 2) (by omega) (vi x.2.2)
  rw [tmsV_set A i x (by have := (tlLen hS).1; omega)] at h1
  exact h1
theorem tlCell (hS : Sat w0 (tl (vs g n cap) n A * F) w) (i : Nat) (hi : i < n) :
    w.cell? ⟨g, i * 3, none⟩ = some (vu (gt A i).1) ∧ w.cell? ⟨g, i * 3 + 1, none⟩ = some (vi (gt A i).2.1) ∧ w.cell? ⟨g, i * 3 + 2, none⟩ = some (vi (gt A i).2.2) := by
  have hl := (tlLen hS).1
  exact ⟨hS.slCell (i * 3) (tmsV_at A i 0 (by omega) (by omega)), hS.slCell (i * 3 + 1) (tmsV_at A i 1 (by omega) (by omega)), hS.slCell (i * 3 + 2) (tmsV_at A i 2 (by omega) (by omega))⟩
set_option maxRecDepth 100000 in
set_option maxHeartbeats 1000000 in
theorem h_set (hS : Sat w0 (hpB h (vs g n cap) (.map (some b)) p * (tl (vs g n cap) n A * (mapI (.map (some b)) M * F))) w) (i : Nat) (hi : i < n) (x : Tm) :
    Calls Try.prog 71 #[vp h, vi i, tmA x] w fun e w' => e = .returned (.tuple #[]) ∧
      Sat w0 (hpB h (vs g n cap) (.map (some b)) p * (tl (vs g n cap) n (A.set i x) * (mapI (.map (some b)) (putM M x.2.1 i) * F))) w' := by
  obtain ⟨xa, xi, xn⟩ := x
  have hB : Sat w0 (pc w.heap.size 82 [vu xa, vi xi, vi xn] * (hpB h (vs g n cap) (.map (some b)) p * (tl (vs g n cap) n A * (mapI (.map (some b)) M * F)))) (w.alloc (.cells #[vu xa, vi xi, vi xn] 82)) := hS.alloc (.cells #[vu xa, vi xi, vi xn] 82)
  have c0 := hB.pull2.cell 0 rfl
  have b0 := hB.cell 0 rfl
  have b1 := hB.cell 1 rfl
  have b2 := hB.cell 2 rfl
  have f0 := hB.pull3.slFree (i * 3)
  have f1 := hB.pull3.slFree (i * 3 + 1)
  have f2 := hB.pull3.slFree (i * 3 + 2)
  obtain ⟨t0, t1, t2⟩ := tlCell hB.pull3 i hi
  obtain ⟨hl, hc1, hc2⟩ := tlLen hS.pull2
  unfold maxLen at hc2
  have h3 := (slStore3 hB.pull3 i hi (xa, xi, xn))
  have d1 := h3.pull3.cell 1 rfl
  have e1 := h3.pull2.cell 1 rfl
  have H3 := Lib.hid (h3.drew.drew).pull4
  clear h3 hS hB
  have hi2 : (i : Int) < (n : Int) := by omega
  go_enter Try.func71, Try.ntmps71
  go_wp2
  refine wp_quiet_tail 7 (by kernel_rfl) (by kernel_rfl) ?_
  simp only [List.take_succ_cons, List.take_zero, List.drop_succ_cons, List.drop_zero]
  repeat (go_big_quiet_step (fail))
  refine wpQuiet_nil ?_
  go_wp2
  refine wp_quiet_tail 8 (by kernel_rfl) (by kernel_rfl) ?_
  simp only [List.take_succ_cons, List.take_zero, List.drop_succ_cons, List.drop_zero]
  repeat (go_big_quiet_step (fail))
  refine wpQuiet_nil ?_
  go_wp2_with (at_mapUpdate; refine wpList_upd Try.underlying77 Try.underlying3 rfl _ _ _ rfl rfl _ _ rfl rfl H3.out ?_; intro w4 hS4; have H4 := Lib.hid hS4; clear hS4)
  go_end0
  exact ⟨rfl, (H4.out.pull3.dropL).cast (by ac_rfl)⟩
end
end Go.Proofs.Ytcchfdoeacgapaa.Hm
