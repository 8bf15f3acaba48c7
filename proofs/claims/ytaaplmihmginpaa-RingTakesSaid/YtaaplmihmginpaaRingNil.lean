/-
  The walk of RingNil. No statement is proved here.
-/
import Derived.Test.YtaaplmihmginpaaRingTakes
namespace Go.Proofs.Ytaaplmihmginpaa
open Go.RowKit
set_option linter.unusedVariables false

/-- There is no ring: nil, or a zero one. -/
def NoRing (w : World) (v : Value) : Prop := v = .pointer none ∨ ∃ z, v = vp z ∧ w.cell? ⟨z, 0, none⟩ = some (.slice none 0 0)
theorem NoRing.alloc {w : World} {v : Value} (h : NoRing w v) (o : Obj) : NoRing (w.alloc o) v := by
  rcases h with h | ⟨z, rfl, hz⟩
  · exact .inl h
  · exact .inr ⟨z, rfl, by rw [World.cell?_alloc_lt _ _ _ (World.block_lt_of_cell? w _ hz)]; exact hz⟩
theorem NoRing.drewN {w : World} {v : Value} (h : NoRing w v) (k : Nat) : NoRing (w.drewN k) v := h

section
variable {w : World} {v : Value}
theorem nil_none (h : NoRing w v) : Calls Try.prog 48 #[v] w fun e w' => e = .returned (.bool true) ∧ w = w' := by
  rcases h with rfl | ⟨z, rfl, hz⟩
  all_goals
    go_enter Try.func48, Try.ntmps48
    go_wp2
    go_ret
    exact ⟨rfl, rfl⟩
theorem nil_push (h : NoRing w v) (x : Int) : Calls Try.prog 16 #[v, vi x] w fun e w' => e = .returned (vi 1) ∧ w = w' := by
  have H := Lib.hid (nil_none h)
  go_enter Try.func16, Try.ntmps16
  go_wp2_with (go_at_call 48; refine H.out.mono ?_; rintro e w' ⟨rfl, rfl⟩)
  go_ret
  exact ⟨rfl, rfl⟩
theorem nil_pop (h : NoRing w v) : Calls Try.prog 17 #[v] w fun e w' => e = .returned (.tuple #[vi 0, .bool false]) ∧ w = w' := by
  have H := Lib.hid (nil_none h)
  go_enter Try.func17, Try.ntmps17
  go_wp2_with (go_at_call 48; refine H.out.mono ?_; rintro e w' ⟨rfl, rfl⟩)
  go_ret2
  exact ⟨rfl, rfl⟩
theorem nil_len (h : NoRing w v) : Calls Try.prog 18 #[v] w fun e w' => e = .returned (vi 0) ∧ w = w' := by
  have H := Lib.hid (nil_none h)
  go_enter Try.func18, Try.ntmps18
  go_wp2_with (go_at_call 48; refine H.out.mono ?_; rintro e w' ⟨rfl, rfl⟩)
  go_ret
  exact ⟨rfl, rfl⟩
theorem nil_most (h : NoRing w v) : Calls Try.prog 42 #[v] w fun e w' => e = .returned (vi 0) ∧ w = w' := by
  rcases h with rfl | ⟨z, rfl, hz⟩
  all_goals
    go_enter Try.func42, Try.ntmps42
    go_wp2
    go_ret
    exact ⟨rfl, rfl⟩
theorem nil_all (h : NoRing w v) : Calls Try.prog 47 #[v] w fun e w' => e = .returned (.slice none 0 0) ∧ w = w' := by
  have H := Lib.hid (nil_none h)
  go_enter Try.func47, Try.ntmps47
  go_wp2_with (go_at_call 48; refine H.out.mono ?_; rintro e w' ⟨rfl, rfl⟩)
  go_ret
  exact ⟨rfl, rfl⟩
theorem nil_copy (h : NoRing w v) : Calls Try.prog 38 #[v] w fun e w' => e = .returned (.pointer none) ∧ w = w' := by
  have H := Lib.hid (nil_none h)
  go_enter Try.func38, Try.ntmps38
  go_wp2_with (go_at_call 48; refine H.out.mono ?_; rintro e w' ⟨rfl, rfl⟩)
  go_ret
  exact ⟨rfl, rfl⟩
theorem nil_has (h : NoRing w v) (x : Int) : Calls Try.prog 41 #[v, vi x] w fun e w' => e = .returned (.bool false) ∧ w = w' := by
  have H := Lib.hid (nil_all h)
  have H2 := Lib.hid (slices_contains x [] (.slice none 0 0) w (Rd.nil w 1) (by simp))
  go_enter Try.func41, Try.ntmps41
  go_wp2_with (first | (go_at_call 47; refine H.out.mono ?_; rintro e w' ⟨rfl, rfl⟩) | (go_at_call 68; refine H2.out.mono ?_; rintro e w' ⟨rfl, rfl⟩))
  go_ret
  exact ⟨by simp, rfl⟩
theorem nil_take (h : NoRing w v) : Calls Try.prog 19 #[v, vi 3] w fun e w' => e = .returned (.slice none 0 0) ∧ w = w' := by
  have H := Lib.hid (nil_all h)
  go_enter Try.func19, Try.ntmps19
  go_wp2_with (go_at_call 47; refine H.out.mono ?_; rintro e w' ⟨rfl, rfl⟩)
  go_loop [14] (fun i => i = vi 0) (fun i => 0)
  case atStart => rfl
  case round =>
    obtain rfl := hrel
    go_wp2
    go_ret
    exact ⟨rfl, rfl⟩
theorem nil_remove (h : NoRing w v) (x : Int) {w0 : World} {F : Hp} (hS : Sat w0 F w) : Calls Try.prog 40 #[v, vi x] w fun e w' => e = .returned (.bool false) ∧ Sat w0 F w' := by
  have H := Lib.hid (nil_none (h.alloc (.cells #[v] 23)))
  have HS := Lib.hid (hS.alloc' (.cells #[v] 23))
  clear hS
  rcases h with rfl | ⟨z, rfl, hz⟩
  all_goals
    go_enter Try.func40, Try.ntmps40
    go_wp2_with fail
    go_step3
    go_wp2_with (go_at_call 48; refine H.out.mono ?_; rintro e w' ⟨rfl, rfl⟩)
    rw [Exit.noGoto_ret]
    go_ret
    exact ⟨rfl, HS.out⟩
theorem slices_equal_nil (w : World) : Calls Try.prog 66 #[.slice none 0 0, .slice none 0 0] w fun e w' => e = .returned (.bool true) ∧ ∃ k, w' = w.drewN k := by
  have := slices_equal [] [] (.slice none 0 0) (.slice none 0 0) w (Rd.nil w 1) (Rd.nil w 1) (by simp) (by simp)
  rwa [show sameI [] [] = true from by simp [sameI]] at this
theorem nil_same {u : Value} (h : NoRing w v) (h' : NoRing w u) : Calls Try.prog 39 #[v, u] w fun e w' => e = .returned (.bool true) ∧ ∃ k, w' = w.drewN k := by
  go_enter Try.func39, Try.ntmps39
  go_wp2_with fail
  refine (nil_most h).mono ?_
  rintro e w' ⟨rfl, rfl⟩
  go_wp2_with fail
  refine (nil_most h').mono ?_
  rintro e w' ⟨rfl, rfl⟩
  go_wp2_with fail
  refine (nil_all h).mono ?_
  rintro e w' ⟨rfl, rfl⟩
  go_wp2_with fail
  refine (nil_all h').mono ?_
  rintro e w' ⟨rfl, rfl⟩
  go_wp2_with fail
  refine (slices_equal_nil _).mono ?_
  rintro e w' ⟨rfl, k, rfl⟩
  go_wp2
  go_ret
  exact ⟨rfl, k, rfl⟩
end

set_option maxRecDepth 100000 in
set_option maxHeartbeats 4000000 in
theorem ringNil_walk (w0 : World) : Calls Try.prog 10 #[] w0 (TrueBelow w0) := by
  have hZ := (Sat.start w0).alloc (.cells #[.slice none 0 0, vi 0, vi 0] 83)
  have hZ' : Sat w0 (pc w0.heap.size 83 [.slice none 0 0, vi 0, vi 0] * emp) (w0.alloc (.cells #[.slice none 0 0, vi 0, vi 0] 83)) := hZ
  have HZ := Lib.hid hZ'
  clear hZ hZ'
  have hn : ∀ w, NoRing w (.pointer none) := fun w => .inl rfl
  have HN := Lib.hid hn
  clear hn
  go_enter Try.func10, Try.ntmps10
  go_wp2_with fail
  generalize hw1 : w0.alloc (.cells #[.slice none 0 0, vi 0, vi 0] 83) = w1 at *
  generalize w0.heap.size = z at *
  clear hw1
  have hz1 : NoRing w1 (vp z) := .inr ⟨z, rfl, HZ.out.cell 0 rfl⟩
  have HZ1 := Lib.hid hz1
  clear hz1
  refine (nil_pop (HN.out _)).mono ?_
  rintro e w' ⟨rfl, rfl⟩
  go_wp2_with fail
  refine (nil_pop HZ1.out).mono ?_
  rintro e w' ⟨rfl, rfl⟩
  go_wp2_with fail
  refine (nil_push (HN.out _) 1).mono ?_
  rintro e w' ⟨rfl, rfl⟩
  go_wp2_with fail
  refine (nil_push HZ1.out 1).mono ?_
  rintro e w' ⟨rfl, rfl⟩
  go_wp2_with fail
  refine (nil_take (HN.out _)).mono ?_
  rintro e w' ⟨rfl, rfl⟩
  go_wp2_with fail
  refine (nil_take HZ1.out).mono ?_
  rintro e w' ⟨rfl, rfl⟩
  go_wp2_with fail
  refine (nil_remove (HN.out _) 1 HZ.out).mono ?_
  rintro e w2 ⟨rfl, hS2⟩
  have hz2 : NoRing w2 (vp z) := .inr ⟨z, rfl, hS2.cell 0 rfl⟩
  have HZ2 := Lib.hid hz2
  have H2 := Lib.hid hS2
  clear hz2 hS2
  go_wp2_with fail
  refine (nil_has HZ2.out 1).mono ?_
  rintro e w' ⟨rfl, rfl⟩
  go_wp2_with fail
  refine (nil_len (HN.out _)).mono ?_
  rintro e w' ⟨rfl, rfl⟩
  go_wp2_with fail
  refine (nil_len HZ2.out).mono ?_
  rintro e w' ⟨rfl, rfl⟩
  go_wp2_with fail
  refine (nil_most (HN.out _)).mono ?_
  rintro e w' ⟨rfl, rfl⟩
  go_wp2_with fail
  refine (nil_most HZ2.out).mono ?_
  rintro e w' ⟨rfl, rfl⟩
  go_wp2_with fail
  refine (nil_copy (HN.out _)).mono ?_
  rintro e w' ⟨rfl, rfl⟩
  go_wp2_with fail
  refine (nil_same (HN.out _) HZ2.out).mono ?_
  rintro e w' ⟨rfl, k1, rfl⟩
  go_wp2_with fail
  refine (nil_same (HZ2.out.drewN k1) (HN.out _)).mono ?_
  rintro e w' ⟨rfl, k2, rfl⟩
  go_wp2_with fail
  refine (known3 (H2.out.drewN (k1 + k2))).mono ?_
  rintro e w3 ⟨rfl, hS3⟩
  go_wp2
  go_ret
  exact ⟨rfl, hS3.below⟩
end Go.Proofs.Ytaaplmihmginpaa
