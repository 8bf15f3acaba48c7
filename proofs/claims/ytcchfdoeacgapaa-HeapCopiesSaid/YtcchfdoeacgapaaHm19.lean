/-
  The reference's heap of chapter 04: find, Has. No statement is proved here.
-/
import Derived.Test.YtcchfdoeacgapaaHmR
namespace Go.Proofs.Ytcchfdoeacgapaa.Hm
open Go.RowKit
set_option linter.unusedVariables false

def gr (l : List Tr) (i : Nat) : Tr := l[i]?.getD (0, 0)
theorem gr_eq {l : List Tr} {i : Nat} (h : i < l.length) : l[i]? = some (gr l i) := by
  unfold gr
  rw [List.getElem?_eq_getElem h]
  rfl
theorem trsV_at : ∀ (l : List Tr) (j i : Nat), j < l.length → i < 2 → (trsV l)[j * 2 + i]? = (trV (gr l j))[i]?
  | [], _, _, h, _ => by simp at h
  | t :: l, 0, i, _, hi => by
    show (trV t ++ trsV l)[0 * 2 + i]? = _
    rw [Nat.zero_mul, Nat.zero_add, List.getElem?_append_left (by simp [trV]; omega)]
    rfl
  | t :: l, j + 1, i, h, hi => by
    show (trV t ++ trsV l)[(j + 1) * 2 + i]? = _
    have h3 : (trV t).length = 2 := rfl
    rw [List.getElem?_append_right (by rw [h3]; omega), h3, show (j + 1) * 2 + i - 2 = j * 2 + i by omega, trsV_at l j i (by simpa using h) hi]
    rfl
abbrev rfB (q : Nat) (v : Value) : Hp := pc q 61 [v]
abbrev rl (v : Value) (L : List Tr) : Hp := sl 68 2 v L.length (trsV L)
/-- A reference's heap. -/
def refP (q : Nat) (L : List Tr) : Hp := ex fun v : Value => rfB q v * rl v L
/-- Where an ID is. -/
def findT (L : List Tr) (id : Int) : Int := if L.any (fun t => t.2 == id) then (L.findIdx (fun t => t.2 == id) : Nat) else -1

section
variable {w0 w : World} {F : Hp} {q : Nat} {L : List Tr}
theorem refP_open (hS : Sat w0 (refP q L * F) w) : ∃ v, Sat w0 (rfB q v * (rl v L * F)) w := by
  obtain ⟨v, hv⟩ := hS.exE
  exact ⟨v, hv.cast (by ac_rfl)⟩
theorem refP_shut {v : Value} (hS : Sat w0 (rfB q v * (rl v L * F)) w) : Sat w0 (refP q L * F) w :=
  Sat.exI (f := fun v : Value => rfB q v * rl v L) v (hS.cast (by ac_rfl))
theorem findT_at {id : Int} (k : Nat) (hk : k < L.length) (he : (gr L k).2 = id) (hno : ∀ j, j < k → (gr L j).2 ≠ id) : findT L id = k := by
  have hm : gr L k ∈ L := List.mem_of_getElem? (gr_eq hk)
  unfold findT
  rw [if_pos (List.any_eq_true.2 ⟨_, hm, by simpa using he⟩)]
  congr 1
  have gg : ∀ j (h : j < L.length), L[j] = gr L j := fun j h => by
    have := gr_eq h
    rw [List.getElem?_eq_getElem h] at this
    exact Option.some.inj this
  rw [List.findIdx_eq hk]
  refine ⟨by rw [gg]; simpa using he, fun j hj => ?_⟩
  rw [gg j (by omega)]
  exact beq_eq_false_iff_ne.2 (hno j hj)
theorem findT_no {id : Int} (hno : ∀ j, j < L.length → (gr L j).2 ≠ id) : findT L id = -1 := by
  unfold findT
  rw [if_neg]
  intro h
  obtain ⟨t, ht, he⟩ := List.any_eq_true.1 h
  obtain ⟨j, hj, rfl⟩ := List.getElem_of_mem ht
  have := gr_eq hj
  rw [List.getElem?_eq_getElem hj] at this
  rw [Option.some.inj this] at he
  exact hno j hj (by simpa using he)
set_option maxRecDepth 100000 in
set_option maxHeartbeats 2000000 in
theorem r_find (hS : Sat w0 (refP q L * F) w) (id : Int) (hl : L.length ≤ 4096) :
    Calls Try.prog 77 #[vp q, vi id] w fun e w' => e = .returned (vi (findT L id)) ∧ w = w' := by
  obtain ⟨v, hS⟩ := refP_open hS
  obtain ⟨ao, cap, rfl⟩ := hS.pull2.rd.len
  have c0 := hS.cell 0 rfl
  have H := Lib.hid hS
  obtain ⟨n, hn⟩ : ∃ n, L.length = n := ⟨_, rfl⟩
  have HN := Lib.hid hn
  have hb : n ≤ 4096 := by omega
  rw [hn] at c0
  clear hS hn hl
  go_enter Try.func77, Try.ntmps77
  go_wp2
  go_loopw [5] (fun i wr => ∃ k : Nat, k ≤ n ∧ i = vi k ∧ Hid (∀ j, j < k → (gr L j).2 ≠ id) ∧ w = wr) (fun i _ => n - (intOf i).toNat)
  case atStart => exact ⟨0, Nat.zero_le _, rfl, Lib.hid (fun j hj => by omega), rfl⟩
  case round =>
    obtain ⟨k, hk, rfl, hno, rfl⟩ := hrel
    by_cases hlt : k < n
    · have hki : (k : Int) < (n : Int) := by omega
      have hkd : decide (k < n) = true := decide_eq_true hlt
      have hh := H.out
      unfold rl at hh
      rw [HN.out] at hh
      obtain ⟨g, rfl⟩ := slSome hh.pull2 (by omega)
      have q1 := hh.pull2.slCell (k * 2 + 1) (u := vi (gr L k).2) (by rw [trsV_at L k 1 (by rw [HN.out]; omega) (by omega)]; rfl)
      clear hh
      by_cases he : (gr L k).2 = id
      · have e : findT L id = k := findT_at k (by rw [HN.out]; omega) he hno.out
        have E := Lib.hid e
        rw [he] at q1
        clear e he
        go_wp2
        go_ret
        exact ⟨by rw [E.out]; simp, rfl⟩
      · have hd : ((gr L k).2 == id) = false := beq_eq_false_iff_ne.2 he
        have hno2 : Hid (∀ j, j < k + 1 → (gr L j).2 ≠ id) := Lib.hid fun j hj => by
          rcases Nat.lt_succ_iff_lt_or_eq.1 hj with h | rfl
          · exact hno.out j h
          · exact he
        clear he
        go_wp2
        go_roundw
        case rel => exact ⟨k + 1, by omega, by go_num, hno2, trivial⟩
        case measure => (simp [intOf]; try omega)
    · obtain rfl : k = n := by omega
      have hki : ¬ (k : Int) < (k : Int) := by omega
      have hkd : decide (k < k) = false := by simp
      have E := Lib.hid (findT_no (L := L) (id := id) (fun j hj => hno.out j (by rw [HN.out] at hj; omega)))
      go_wp2
      go_ret
      exact ⟨by rw [E.out]; simp, rfl⟩
theorem findT_ge (L : List Tr) (id : Int) : decide (0 ≤ findT L id) = L.any (fun t => t.2 == id) := by
  unfold findT
  cases h : L.any (fun t => t.2 == id) with
  | true => simp
  | false => simp
set_option maxRecDepth 100000 in
theorem r_has (hS : Sat w0 (refP q L * F) w) (id : Int) (hl : L.length ≤ 4096) :
    Calls Try.prog 67 #[vp q, vi id] w fun e w' => e = .returned (.bool (L.any (fun t => t.2 == id))) ∧ w = w' := by
  have HF := Lib.hid (r_find hS id hl)
  have E := Lib.hid (findT_ge L id)
  clear hS hl
  generalize findT L id = f at HF E
  go_enter Try.func67, Try.ntmps67
  go_wp2_with (go_at_call 77; refine HF.out.mono ?_; rintro e w' ⟨rfl, rfl⟩)
  go_ret
  exact ⟨by rw [← E.out]; simp, rfl⟩
end
end Go.Proofs.Ytcchfdoeacgapaa.Hm
