/-
  heap.Heap.All: the closure. No statement is proved here.
-/
import Derived.Test.YtcchfdoeacgapaaHm13
import Derived.Deep.Heap
namespace Go.Proofs.Ytcchfdoeacgapaa.Hm
open Go.RowKit Go.Sort
set_option linter.unusedVariables false

theorem c_new (W : World) (o o' : Obj) (u : Array Value) (t : TypeId) (i : Nat) : (((W.alloc o).alloc o').alloc (.cells u t)).cell? ⟨W.heap.size + 1 + 1, i, none⟩ = u[i]? := by
  have e := Go.Deep.blk_alloc_new ((W.alloc o).alloc o') (.cells u t)
  rw [Go.Deep.nblk_alloc, Go.Deep.nblk_alloc] at e
  unfold World.cell?
  simp only [e]
  rfl
/-- What All's closure reckons. -/
def cfT (x y : Tm) : Int := orI (Lib.compareInt x.1 y.1) (Lib.compareInt x.2.2 y.2.2)
set_option maxRecDepth 100000 in
set_option maxHeartbeats 1000000 in
theorem clo_all (x y : Tm) (W : World) : Calls Try.prog 63 #[tmA x, tmA y] W fun e w' => e = .returned (vi (cfT x y)) ∧ ∃ q os', w' = grow (W.drewN q) os' := by
  obtain ⟨xa, xi, xn⟩ := x
  obtain ⟨ya, yi, yn⟩ := y
  rw [show cfT (xa, xi, xn) (ya, yi, yn) = orI (Lib.compareInt xa ya) (Lib.compareInt xn yn) from rfl]
  generalize hc1 : Lib.compareInt xa ya = c1
  generalize hc2 : Lib.compareInt xn yn = c2
  have k1 := Lib.hid hc1
  have k2 := Lib.hid hc2
  clear hc1 hc2
  go_enter Try.func63, Try.ntmps63
  go_wp2
  go_region_held3 (fun w' => w'.cell? ⟨W.heap.size, 0, none⟩ = some (vu xa) ∧ w'.cell? ⟨W.heap.size, 2, none⟩ = some (vi xn) ∧ w'.cell? ⟨W.heap.size + 1, 0, none⟩ = some (vu ya) ∧ w'.cell? ⟨W.heap.size + 1, 2, none⟩ = some (vi yn))
    (go_keep)
    (first
      | (go_at_call 65; refine (compare_u xa ya _).mono ?_; rintro e w1 ⟨rfl, rfl⟩; rw [k1.out])
      | (go_at_call 66; refine (compare_i xn yn _).mono ?_; rintro e w2 ⟨rfl, rfl⟩; rw [k2.out])
      | (go_at_call 64; refine (cmp_or _ _ c1 c2 (c_new _ _ _ _ _ 0) (c_new _ _ _ _ _ 1)).mono ?_; rintro e w3 ⟨rfl, rfl⟩))
  go_wp2
  go_ret
  exact ⟨rfl, 1, _, by simp only [alloc_eq_grow, grow_grow]; rfl⟩
end Go.Proofs.Ytcchfdoeacgapaa.Hm
