/-
  Contracts of heap.Heap: Pop; known of chapter 04. No statement is proved here.
-/
import Derived.Test.YtcchfdoeacgapaaHm9
namespace Go.Proofs.Ytcchfdoeacgapaa.Hm
open Go.RowKit
set_option linter.unusedVariables false

section
variable {w0 w : World} {F : Hp} {h : Nat} {p : Int} {A : List Tm}
theorem heapP_least (hS : Sat w0 (heapP h A p * F) w) : ∀ x ∈ A, nl x (gt A 0) := by
  obtain ⟨vl, vm, M, h1, _⟩ := heapP_open hS
  intro x hx
  obtain ⟨j, hj, rfl⟩ := List.getElem_of_mem hx
  have := gt_eq hj
  rw [List.getElem?_eq_getElem hj] at this
  rw [Option.some.inj this]
  exact h1.least j hj
theorem head_mem (hA : A ≠ []) : gt A 0 ∈ A := by
  cases A with
  | nil => exact absurd rfl hA
  | cons x A => exact List.mem_cons_self
/-- Who comes first. -/
theorem head_is {L : List Tm} (hS : Sat w0 (heapP h A p * F) w) (hp : A.Perm L) {m : Tm} (hm : m ∈ L) (hu : ∀ x ∈ L, nl m x → x = m) : gt A 0 = m := by
  have hA : A ≠ [] := fun e => by
    rw [e] at hp
    rw [List.nil_perm.1 hp] at hm
    cases hm
  exact hu _ (hp.mem_iff.1 (head_mem hA)) (heapP_least hS m (hp.mem_iff.2 hm))
set_option maxRecDepth 100000 in
theorem h_pop_nil (hS : Sat w0 (heapP h [] p * F) w) (now : Int) :
    Calls Try.prog 17 #[vp h, vu now] w fun e w' => e = .returned (.tuple #[vi 0, .bool false]) ∧ w = w' := by
  have HL : Hid (Calls Try.prog 18 #[vp h] w fun e w' => e = .returned (vi 0) ∧ w = w') := Lib.hid (h_len hS)
  clear hS
  go_enter Try.func17, Try.ntmps17
  go_wp2_with (go_at_call 18; refine HL.out.mono ?_; rintro e w' ⟨rfl, rfl⟩)
  go_ret2
  exact ⟨rfl, rfl⟩
theorem heapP_some (hS : Sat w0 (heapP h A p * F) w) (hA : A ≠ []) : ∃ g cap b n M, A.length = n + 1 ∧ HO A ∧ Nd A ∧ MF A M ∧ Sat w0 (hpB h (vs g (n + 1) cap) (.map (some b)) p * (tl (vs g (n + 1) cap) (n + 1) A * (mapI (.map (some b)) M * F))) w := by
  obtain ⟨vl, vm, M, h1, h2, h3, hS⟩ := heapP_open hS
  obtain ⟨n, hn⟩ : ∃ n, A.length = n + 1 := ⟨A.length - 1, by cases A with | nil => exact absurd rfl hA | cons _ _ => simp⟩
  rw [hn] at hS
  obtain ⟨ao, cap, rfl⟩ := hS.pull2.rd.len
  obtain ⟨g, rfl⟩ := slSome hS.pull2 (by omega)
  rcases hS.pull3.mapForm with ⟨_, hm⟩ | ⟨b, rfl⟩
  · have := h3.1 0 (by omega)
    rw [hm] at this
    cases this
  · exact ⟨g, cap, b, n, M, hn, h1, h2, h3, hS⟩
set_option maxRecDepth 100000 in
theorem h_pop_no (hS : Sat w0 (heapP h A p * F) w) (hA : A ≠ []) (hn : A.length ≤ 100000) (now : Int) (hlt : now < (gt A 0).1) :
    Calls Try.prog 17 #[vp h, vu now] w fun e w' => e = .returned (.tuple #[vi 0, .bool false]) ∧ w = w' := by
  have HL := Lib.hid (h_len hS)
  obtain ⟨g, cap, b, n, M, hl, h1, h2, h3, hS⟩ := heapP_some hS hA
  rw [hl] at HL
  have c0 := hS.cell 0 rfl
  have t0 : w.cell? ⟨g, 0, none⟩ = some (vu (gt A 0).1) := by simpa using (tlCell hS.pull2 0 (by omega)).1
  have hz : ¬ ((n + 1 : Nat) : Int) = 0 := by omega
  have hz2 : (0 : Int) < ((n + 1 : Nat) : Int) := by omega
  have hz3 : ((n : Int) + 1 == 0) = false := by simp; omega
  clear hS h1 h2 h3 hl
  go_enter Try.func17, Try.ntmps17
  go_wp2_with (go_at_call 18; refine HL.out.mono ?_; rintro e w' ⟨rfl, rfl⟩)
  go_ret2
  exact ⟨rfl, rfl⟩
set_option maxRecDepth 100000 in
set_option maxHeartbeats 1000000 in
theorem h_pop (hS : Sat w0 (heapP h A p * F) w) (hA : A ≠ []) (hn : A.length ≤ 100000) (now : Int) (hlt : ¬ now < (gt A 0).1) :
    Calls Try.prog 17 #[vp h, vu now] w fun e w' => e = .returned (.tuple #[vi (gt A 0).2.1, .bool true]) ∧ ∃ A', (gt A 0 :: A').Perm A ∧ Sat w0 (heapP h A' p * F) w' := by
  have HL := Lib.hid (h_len hS)
  obtain ⟨g, cap, b, n, M, hl, h1, h2, h3, hS⟩ := heapP_some hS hA
  rw [hl] at HL
  have c0 := hS.cell 0 rfl
  have t0 : w.cell? ⟨g, 0, none⟩ = some (vu (gt A 0).1) := by simpa using (tlCell hS.pull2 0 (by omega)).1
  have t1 : w.cell? ⟨g, 1, none⟩ = some (vi (gt A 0).2.1) := by simpa using (tlCell hS.pull2 0 (by omega)).2.1
  have hz : ¬ ((n + 1 : Nat) : Int) = 0 := by omega
  have hz2 : (0 : Int) < ((n + 1 : Nat) : Int) := by omega
  have hz3 : ((n : Int) + 1 == 0) = false := by simp; omega
  have HD := Lib.hid (h_drop hS (by omega) 0 (by omega) h1 h2 h3)
  clear hS h1 h2 h3 hl
  go_enter Try.func17, Try.ntmps17
  go_wp2_with (first
    | (go_at_call 18; refine HL.out.mono ?_; rintro e w' ⟨rfl, rfl⟩)
    | (go_at_call 50; refine HD.out.mono ?_; rintro e w5 ⟨rfl, A', M', hO, hN, hM, hp, hS5⟩; have H5 := Lib.hid hS5; clear hS5))
  go_ret2
  exact ⟨rfl, A', hp, heapP_shut' hO hN hM H5.out⟩
end
def TrueBelow (w0 : World) (e : Ending) (w' : World) : Prop := e = .returned (.bool true) ∧ Below w0.heap.size w0 w'
end Go.Proofs.Ytcchfdoeacgapaa.Hm
