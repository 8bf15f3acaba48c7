/-
  Contracts of heap.Heap: New, Has, Len, drop. No statement is proved here.
-/
import Derived.Test.YtcchfdoeacgapaaHm6
namespace Go.Proofs.Ytcchfdoeacgapaa.Hm
open Go.RowKit
set_option linter.unusedVariables false

/-- A heap: in order, each ID once, each at its place. -/
def heapP (h : Nat) (A : List Tm) (p : Int) : Hp :=
  ex fun x : Value × Value × (Int → Option Int) => given (HO A ∧ Nd A ∧ MF A x.2.2) (hpB h x.1 x.2.1 p * (sl 82 3 x.1 A.length (tmsV A) * mapI x.2.1 x.2.2))
def hasT (A : List Tm) (id : Int) : Bool := A.any fun t => t.2.1 == id
section
variable {w0 w : World} {F : Hp} {h : Nat} {p : Int} {A : List Tm}
theorem heapP_open (hS : Sat w0 (heapP h A p * F) w) : ∃ vl vm M, HO A ∧ Nd A ∧ MF A M ∧ Sat w0 (hpB h vl vm p * (sl 82 3 vl A.length (tmsV A) * (mapI vm M * F))) w := by
  obtain ⟨x, hx⟩ := hS.exE
  obtain ⟨h1, h2⟩ := hx.givenE
  exact ⟨x.1, x.2.1, x.2.2, h1.1, h1.2.1, h1.2.2, h2.cast (by ac_rfl)⟩
theorem heapP_shut {vl vm : Value} {M : Int → Option Int} (h1 : HO A) (h2 : Nd A) (h3 : MF A M) (hS : Sat w0 (hpB h vl vm p * (sl 82 3 vl A.length (tmsV A) * (mapI vm M * F))) w) : Sat w0 (heapP h A p * F) w :=
  Sat.exI (f := fun x : Value × Value × (Int → Option Int) => given (HO A ∧ Nd A ∧ MF A x.2.2) (hpB h x.1 x.2.1 p * (sl 82 3 x.1 A.length (tmsV A) * mapI x.2.1 x.2.2))) (vl, vm, M) (Sat.givenI ⟨h1, h2, h3⟩ (hS.cast (by ac_rfl)))
theorem hasT_iff {id : Int} : hasT A id = true ↔ ∃ j, j < A.length ∧ (gt A j).2.1 = id := by
  unfold hasT
  rw [List.any_eq_true]
  constructor
  · rintro ⟨t, ht, he⟩
    obtain ⟨j, hj, rfl⟩ := List.getElem_of_mem ht
    refine ⟨j, hj, ?_⟩
    have := gt_eq hj
    rw [List.getElem?_eq_getElem hj] at this
    rw [← Option.some.inj this]
    simpa using he
  · rintro ⟨j, hj, he⟩
    exact ⟨gt A j, List.mem_of_getElem? (gt_eq hj), by simpa using he⟩
theorem hasT_map {M : Int → Option Int} (hM : MF A M) (id : Int) : (M id).isSome = hasT A id := by
  cases hh : hasT A id with
  | true =>
    obtain ⟨j, hj, rfl⟩ := hasT_iff.1 hh
    rw [hM.1 j hj]
    rfl
  | false =>
    cases hm : (M id).isSome with
    | false => rfl
    | true =>
      rw [hasT_iff.2 (hM.2 id hm)] at hh
      cases hh
set_option maxRecDepth 100000 in
theorem h_new (hS : Sat w0 F w) : Calls Try.prog 15 #[] w fun e w' => ∃ h, e = .returned (vp h) ∧ Sat w0 (heapP h [] 0 * F) w' := by
  have hB : Sat w0 (hpB w.heap.size (.slice none 0 0) (.map none) 0 * F) (w.alloc (.cells #[.slice none 0 0, .map none, vi 0] 79)) := hS.alloc (.cells #[.slice none 0 0, .map none, vi 0] 79)
  have H := Lib.hid hB
  clear hB hS
  go_enter Try.func15, Try.ntmps15
  go_wp2
  go_ret
  refine ⟨_, rfl, heapP_shut (vl := .slice none 0 0) (vm := .map none) (M := fun _ => none) (fun j _ hj => by simp at hj) (fun a b ha => by simp at ha) ⟨fun j hj => by simp at hj, fun k hk => by simp at hk⟩ ?_⟩
  have h9 : Sat w0 (hpB w.heap.size (.slice none 0 0) (.map none) 0 * (sl 82 3 (.slice none 0 0) 0 [] * (mapI (.map none) (fun _ => none) * F))) _ := ((H.out.mapNil).addNil 82 3).cast (by ac_rfl)
  exact h9
set_option maxRecDepth 100000 in
theorem h_has (hS : Sat w0 (heapP h A p * F) w) (id : Int) : Calls Try.prog 42 #[vp h, vi id] w fun e w' => e = .returned (.bool (hasT A id)) ∧ w = w' := by
  obtain ⟨vl, vm, M, h1, h2, h3, hS⟩ := heapP_open hS
  have c1 := hS.cell 1 rfl
  have hl := run_look_ok (P := Try.prog) Try.underlying77 Try.underlying3 (by kernel_rfl) hS.pull3 id
  rw [hasT_map h3] at hl
  clear hS h1 h2 h3
  go_enter Try.func42, Try.ntmps42
  go_wp2
  go_ret
  exact ⟨rfl, rfl⟩
set_option maxRecDepth 100000 in
theorem h_len (hS : Sat w0 (heapP h A p * F) w) : Calls Try.prog 18 #[vp h] w fun e w' => e = .returned (vi A.length) ∧ w = w' := by
  obtain ⟨vl, vm, M, h1, h2, h3, hS⟩ := heapP_open hS
  have c0 := hS.cell 0 rfl
  obtain ⟨ao, cap, rfl⟩ := hS.pull2.rd.len
  clear hS h1 h2 h3
  go_enter Try.func18, Try.ntmps18
  go_wp2
  go_ret
  exact ⟨rfl, rfl⟩
end
end Go.Proofs.Ytcchfdoeacgapaa.Hm
