/-
  Contracts of the arena where there is no table: nil, or a zero one. No statement is proved here.
-/
import Derived.Test.YtaaplmihmginpaaLenA
namespace Go.Proofs.Ytaaplmihmginpaa.Ar
open Go.RowKit Go.Shelf
attribute [local go_sem] Oper.semAt_some
set_option linter.unusedVariables false

/-- There is no table. -/
def NoV (w : World) (v : Value) : Prop := v = .pointer none ∨ ∃ z, v = vp z ∧ w.cell? ⟨z, 0, none⟩ = some (.slice none 0 0)
theorem lt_cell {w : World} {a : Addr} {v : Value} (h : w.cell? a = some v) : a.block < w.heap.size := by
  obtain ⟨o, ho, _⟩ := cells_of_cell h
  exact lt_of_block ho
theorem NoV.below {w W : World} {v : Value} (h : NoV w v) (hb : Below w.heap.size w W) : NoV W v := by
  rcases h with h | ⟨z, h1, h2⟩
  · exact .inl h
  · exact .inr ⟨z, h1, (hb.cell (p := ⟨z, 0, none⟩) (lt_cell h2)).trans h2⟩
section
variable {w : World} {v : Value}
theorem none_no (h : NoV w v) : Calls Try.prog 53 #[v] w fun e w' => e = .returned (.bool true) ∧ w = w' := by
  rcases h with rfl | ⟨z, rfl, c0⟩
  · go_enter Try.func53, Try.ntmps53
    go_wp2
    go_ret
    exact ⟨rfl, rfl⟩
  · go_enter Try.func53, Try.ntmps53
    go_wp2
    go_ret
    exact ⟨rfl, rfl⟩
theorem size_no (h : NoV w v) : Calls Try.prog 46 #[v] w fun e w' => e = .returned (vi 0) ∧ w = w' := by
  have H := Lib.hid (none_no h)
  clear h
  go_enter Try.func46, Try.ntmps46
  go_wp2_with (go_at_call 53; refine H.out.mono ?_; rintro e w' ⟨rfl, rfl⟩)
  go_ret
  exact ⟨rfl, rfl⟩
theorem frees_no (h : NoV w v) : Calls Try.prog 37 #[v] w fun e w' => e = .returned (vi 0) ∧ w = w' := by
  have H := Lib.hid (none_no h)
  clear h
  go_enter Try.func37, Try.ntmps37
  go_wp2_with (go_at_call 53; refine H.out.mono ?_; rintro e w' ⟨rfl, rfl⟩)
  go_ret
  exact ⟨rfl, rfl⟩
theorem retired_no (h : NoV w v) : Calls Try.prog 35 #[v] w fun e w' => e = .returned (vi 0) ∧ w = w' := by
  have H := Lib.hid (none_no h)
  clear h
  go_enter Try.func35, Try.ntmps35
  go_wp2_with (go_at_call 53; refine H.out.mono ?_; rintro e w' ⟨rfl, rfl⟩)
  go_ret
  exact ⟨rfl, rfl⟩
theorem copy_no (h : NoV w v) : Calls Try.prog 44 #[v] w fun e w' => e = .returned (.pointer none) ∧ w = w' := by
  have H := Lib.hid (none_no h)
  clear h
  go_enter Try.func44, Try.ntmps44
  go_wp2_with (go_at_call 53; refine H.out.mono ?_; rintro e w' ⟨rfl, rfl⟩)
  go_ret
  exact ⟨rfl, rfl⟩
theorem below_alloc (w : World) (o : Obj) : Below w.heap.size w (w.alloc o) := (Below.refl _ _).alloc (Nat.le_refl _) o
theorem find_nov (h : NoV w v) (i g : Int) : Calls Try.prog 58 #[v, vr i g] w fun e w' => e = .returned (.tuple #[.pointer none, vi 1]) ∧ Below w.heap.size w w' := by
  have hb := below_alloc w (.cells #[vi i, vu g] 45)
  have H := Lib.hid (none_no (h.below hb))
  have HB := Lib.hid hb
  clear h hb
  go_enter Try.func58, Try.ntmps58
  go_wp2_with (go_at_call 53; refine H.out.mono ?_; rintro e w' ⟨rfl, rfl⟩)
  go_ret2
  exact ⟨rfl, HB.out⟩
theorem set_nov (h : NoV w v) (i g : Int) (x : El) : Calls Try.prog 29 #[v, vr i g, ev x] w fun e w' => e = .returned (vi 1) ∧ Below w.heap.size w w' := by
  have hb := below_alloc w (.cells #[vi i, vu g] 45)
  have H := Lib.hid (find_nov (h.below hb) i g)
  have HB := Lib.hid hb
  clear h hb
  go_enter Try.func29, Try.ntmps29
  go_wp2_with (go_at_call 58; refine H.out.mono ?_; rintro e w' ⟨rfl, hb⟩; have HB2 := Lib.hid hb; clear hb)
  go_ret
  exact ⟨rfl, HB.out.trans (HB2.out.mono HB.out.size)⟩
theorem get_nov (h : NoV w v) (i g : Int) : Calls Try.prog 28 #[v, vr i g] w fun e w' => e = .returned (.tuple #[ev ez, vi 1]) ∧ Below w.heap.size w w' := by
  have hb := below_alloc w (.cells #[vi i, vu g] 45)
  have H := Lib.hid (find_nov (h.below hb) i g)
  have HB := Lib.hid hb
  clear h hb
  go_enter Try.func28, Try.ntmps28
  go_wp2_with (go_at_call 58; refine H.out.mono ?_; rintro e w' ⟨rfl, hb⟩; have HB2 := Lib.hid hb; clear hb)
  go_ret2
  exact ⟨rfl, HB.out.trans (HB2.out.mono HB.out.size)⟩
theorem drop_nov (h : NoV w v) (i g : Int) : Calls Try.prog 30 #[v, vr i g] w fun e w' => e = .returned (vi 1) ∧ Below w.heap.size w w' := by
  have hb := below_alloc w (.cells #[vi i, vu g] 45)
  have H := Lib.hid (find_nov (h.below hb) i g)
  have HB := Lib.hid hb
  clear h hb
  go_enter Try.func30, Try.ntmps30
  go_wp2_with (go_at_call 58; refine H.out.mono ?_; rintro e w' ⟨rfl, hb⟩; have HB2 := Lib.hid hb; clear hb)
  go_ret
  exact ⟨rfl, HB.out.trans (HB2.out.mono HB.out.size)⟩
theorem put_nov (h : NoV w v) (x : El) : Calls Try.prog 25 #[v, ev x] w fun e w' => e = .returned (.tuple #[vr 0 0, vi 1]) ∧ Below w.heap.size w w' := by
  have hb := below_alloc w (.cells #[vi 0, vu 0] 45)
  have H := Lib.hid (none_no (h.below hb))
  have HB := Lib.hid hb
  clear h hb
  go_enter Try.func25, Try.ntmps25
  go_wp2_with (go_at_call 53; refine H.out.mono ?_; rintro e w' ⟨rfl, rfl⟩)
  (try simp only [Exit.inBlock, Exit.then])
  refine bodyPost_ret (v := .tuple #[vr 0 0, vi 1]) (by rw [results_cell_tmp rfl]; go_simp) rfl ?_
  exact ⟨rfl, HB.out⟩
theorem at_nov (h : NoV w v) (i : Int) : Calls Try.prog 34 #[v, vi i] w fun e w' => e = .returned (.tuple #[vr 0 0, .bool false]) ∧ Below w.heap.size w w' := by
  have hb := below_alloc w (.cells #[vi 0, vu 0] 45)
  have H := Lib.hid (none_no (h.below hb))
  have HB := Lib.hid hb
  clear h hb
  go_enter Try.func34, Try.ntmps34
  go_wp2_with (go_at_call 53; refine H.out.mono ?_; rintro e w' ⟨rfl, rfl⟩)
  (try simp only [Exit.inBlock, Exit.then])
  refine bodyPost_ret (v := .tuple #[vr 0 0, .bool false]) (by rw [results_cell_tmp rfl]; go_simp) rfl ?_
  exact ⟨rfl, HB.out⟩
theorem all_nov (h : NoV w v) : Calls Try.prog 33 #[v] w fun e w' => e = .returned (.func (.func 64) #[] #[.pointer (some ⟨w.heap.size, 0, none⟩)]) ∧ w' = w.alloc (.cells #[.slice none 0 0] 89) := by
  have hb := below_alloc w (.cells #[.slice none 0 0] 89)
  have H := Lib.hid (none_no (h.below hb))
  clear h hb
  go_enter Try.func33, Try.ntmps33
  go_wp2_with (go_at_call 53; refine H.out.mono ?_; rintro e w' ⟨rfl, rfl⟩)
  go_ret
  exact ⟨rfl, rfl⟩
theorem all_nov_it {w0 : World} {F : Hp} (hS : Sat w0 F w) (h : NoV w v) : Calls Try.prog 33 #[v] w fun e w' => ∃ bx, e = .returned (.func (.func 64) #[] #[.pointer (some ⟨bx, 0, none⟩)]) ∧ Sat w0 (itP bx (.slice none 0 0) [] * F) w' ∧ Below w.heap.size w w' :=
  (all_nov h).mono fun e w' ⟨h1, h2⟩ => ⟨_, h1, by
    subst h2
    have h3 := hS.alloc (.cells #[.slice none 0 0] 89)
    have h4 := h3.addNil 100 4
    exact h4.pull2.cast (by unfold itP; rw [sep_assoc]; rfl), by subst h2; exact below_alloc _ _⟩
end
end Go.Proofs.Ytaaplmihmginpaa.Ar
