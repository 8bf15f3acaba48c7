/-
  Contracts of package refill that only read: May, there, Next, New; of the reference: May, Next. No statement is proved here.
-/
import Derived.Test.YtknodagcmachiaaFi4
namespace Go.Proofs.Ytknodagcmachiaa.Fi
open Go.RowKit
set_option linter.unusedVariables false

theorem drewB {n : Nat} {a b : World} (h : Below n a b) (k : Nat) : Below n a (b.drewN k) := ⟨h.os, h.tape, h.output, h.size, h.block⟩
/-- So far a list may be. -/
def Good (l : List Rf) (k : Nat) : Prop := ∀ (j : Nat) (r : Rf), j < k → l[j]? = some r → 1 ≤ r.amount ∧ ∀ s : Rf, j ≠ 0 → l[j - 1]? = some s → s.at_ < r.at_
theorem Good.all {l : List Rf} (h : Good l l.length) (hf : tot l ≤ 18446744073709551615) : MayL l := by
  refine ⟨fun k r hr => (h k r (List.getElem?_eq_some_iff.1 hr).1 hr).1, fun k r s hr hs => ?_, hf⟩
  exact (h (k + 1) s (List.getElem?_eq_some_iff.1 hs).1 hs).2 r (by omega) (by simpa using hr)
theorem Good.step {l : List Rf} {k : Nat} {r : Rf} (h : Good l k) (hr : l[k]? = some r) (h1 : 1 ≤ r.amount) (h2 : ∀ s : Rf, k ≠ 0 → l[k - 1]? = some s → s.at_ < r.at_) : Good l (k + 1) := by
  intro j x hj hx
  by_cases e : j = k
  · subst e
    rw [hr] at hx
    cases hx
    exact ⟨h1, h2⟩
  · exact h j x (by omega) hx
theorem not_may_pos {l : List Rf} {k : Nat} {r : Rf} (hr : l[k]? = some r) (h : r.amount = 0) : ¬ MayL l := fun m => by
  have := m.pos k r hr
  omega
theorem not_may_adj {l : List Rf} {k : Nat} {r s : Rf} (hr : l[k]? = some r) (hk : k ≠ 0) (hs : l[k - 1]? = some s) (h : r.at_ ≤ s.at_) : ¬ MayL l := fun m => by
  obtain ⟨j, rfl⟩ : ∃ j, k = j + 1 := ⟨k - 1, by omega⟩
  have := m.adj j s r (by simpa using hs) hr
  omega
open Classical in
/-- Whether a list may be, as a bool. -/
noncomputable def mayB (l : List Rf) : Bool := if MayL l then true else false
theorem mayB_yes {l : List Rf} (h : MayL l) : mayB l = true := by unfold mayB; rw [if_pos h]
theorem mayB_no {l : List Rf} (h : ¬ MayL l) : mayB l = false := by unfold mayB; rw [if_neg h]
theorem mayB_end {l : List Rf} (h : Good l l.length) (hok : OkL l) : mayB l = (sumP l).isSome := by
  rw [sumP_eq hok]
  by_cases hf : 18446744073709551615 < tot l
  · rw [if_pos hf, mayB_no fun m => by have := m.fit; omega]
    rfl
  · rw [if_neg hf, mayB_yes (h.all (by omega))]
    rfl

set_option maxRecDepth 100000 in
set_option maxHeartbeats 1000000 in
theorem may_ (l : List Rf) (v : Value) (w : World) (h : RdF w v l) (hl : l.length ≤ 1000000) :
    Calls Try.prog 77 #[v] w fun e w' => e = .returned (.bool (mayB l)) ∧ Below w.heap.size w w' := by
  obtain ⟨ao, cap, rfl⟩ := h.rd.len
  have HR := Lib.hid h
  clear h
  go_enter Try.func77, Try.ntmps77
  go_wp2
  go_loopw [9] (fun i wr => ∃ (k : Nat), k ≤ l.length ∧ i = vi k ∧ Hid (Good l k) ∧ Below w.heap.size w wr) (fun i _ => l.length - (intOf i).toNat)
  case atStart => exact ⟨0, Nat.zero_le _, rfl, Lib.hid (fun j r hj => by omega), Below.refl _ _⟩
  case round =>
    obtain ⟨k, hk, rfl, hg, hb⟩ := hrel
    by_cases hlt : k < l.length
    · obtain ⟨r, hr⟩ : ∃ r, l[k]? = some r := ⟨l[k], List.getElem?_eq_getElem hlt⟩
      obtain ⟨b, off, rfl, c0, c1, hok, hok2⟩ := (HR.out.below hb).at_ hr
      have hkl : (k : Int) < (l.length : Int) := by omega
      have hB1 := Below.then hb (below_alloc wr (.cells #[vu r.amount, vu r.at_] 61))
      have HB := Lib.hid hB1
      have HRr := Lib.hid hr
      by_cases ha : r.amount = 0
      · have hm := Lib.hid (mayB_no (not_may_pos hr ha))
        have ha2 : (r.amount == 0) = true := by simp [ha]
        clear hr hb ha hok hok2 hB1
        go_wp2
        go_quiet (fail)
        go_wp2
        go_ret
        exact ⟨by rw [hm.out]; rfl, drewB HB.out _⟩
      · have ha2 : (r.amount == 0) = false := beq_eq_false_iff_ne.2 ha
        have hone : 1 ≤ r.amount := by unfold U64 at hok; omega
        by_cases hk0 : k = 0
        · have hg2 := Lib.hid (hg.out.step hr hone (fun s hs => absurd hk0 hs))
          have hd0 : decide (0 < k) = false := decide_eq_false (by omega)
          clear hr hb ha hok hok2 hB1 hk0
          go_wp2
          go_quiet (fail)
          go_wp2
          go_roundw
          case rel => exact ⟨k + 1, by omega, by go_num, hg2, drewB HB.out _⟩
          case measure => (simp [intOf]; try omega)
        · obtain ⟨s, hs⟩ : ∃ s, l[k - 1]? = some s := ⟨l[k - 1], List.getElem?_eq_getElem (by omega)⟩
          obtain ⟨b', off', hv', d0, d1, -, -⟩ := (HR.out.below hB1).at_ hs
          cases hv'
          have hd0 : decide (0 < k) = true := decide_eq_true (by omega)
          have hw1 : IntKind.i64.wrap ((k : Int) - 1) = ((k - 1 : Nat) : Int) := by rw [IntWalk.i64_in _ (by omega)]; omega
          have hkm : ((k - 1 : Nat) : Int) < (l.length : Int) := by omega
          have hkm0 : (0 : Int) ≤ ((k - 1 : Nat) : Int) := by omega
          by_cases hat : r.at_ ≤ s.at_
          · have hm := Lib.hid (mayB_no (not_may_adj hr hk0 hs hat))
            generalize k - 1 = k1 at *
            clear hr hb ha hok hok2 hB1 hs
            go_wp2
            go_quiet (fail)
            go_wp2
            go_ret
            exact ⟨by rw [hm.out]; rfl, drewB HB.out _⟩
          · have hg2 := Lib.hid (hg.out.step hr hone (fun x _ hx => by
              rw [hs] at hx
              cases hx
              omega))
            have hat2 : s.at_ < r.at_ := by omega
            generalize k - 1 = k1 at *
            clear hr hb ha hok hok2 hB1 hs
            go_wp2
            go_quiet (fail)
            go_wp2
            go_roundw
            case rel => exact ⟨k + 1, by omega, by go_num, hg2, drewB HB.out _⟩
            case measure => (simp [intOf]; try omega)
    · obtain rfl : k = l.length := by omega
      have he := mayB_end hg.out HR.out.ok
      have HT := Lib.hid (total_ l _ wr (HR.out.below hb) hl)
      have HB := Lib.hid hb
      obtain ⟨x, b, hv, h1, h2⟩ := addV_form (sumP l)
      rw [hv] at HT
      have hb2 : mayB l = b := by
        rw [he]
        cases b with
        | true => rw [h1 rfl]; rfl
        | false => rw [(h2 rfl).1]; rfl
      have HB3 := Lib.hid hb2
      clear he hv h1 h2 hb hb2
      go_wp2_with (go_at_call 97; refine HT.out.mono ?_; rintro e w1 ⟨rfl, hb⟩; have HB2 := Lib.hid hb; clear hb)
      go_ret
      exact ⟨by rw [HB3.out]; rfl, Below.then HB.out HB2.out⟩

set_option maxRecDepth 100000 in
set_option maxHeartbeats 1000000 in
theorem rmay (l : List Rf) (v : Value) (w : World) (h : RdF w v l) (hl : l.length ≤ 1000000) :
    Calls Try.prog 21 #[v] w fun e w' => e = .returned (.bool (mayB l)) ∧ Below w.heap.size w w' := by
  obtain ⟨ao, cap, rfl⟩ := h.rd.len
  have HR := Lib.hid h
  clear h
  go_enter Try.func21, Try.ntmps21
  go_wp2
  go_loopw [3] (fun i wr => ∃ (k : Nat), k ≤ l.length ∧ i = vi k ∧ Hid (Good l k) ∧ Below w.heap.size w wr) (fun i _ => l.length - (intOf i).toNat)
  case atStart => exact ⟨0, Nat.zero_le _, rfl, Lib.hid (fun j r hj => by omega), Below.refl _ _⟩
  case round =>
    obtain ⟨k, hk, rfl, hg, hb⟩ := hrel
    by_cases hlt : k < l.length
    · obtain ⟨r, hr⟩ : ∃ r, l[k]? = some r := ⟨l[k], List.getElem?_eq_getElem hlt⟩
      obtain ⟨b, off, rfl, c0, c1, hok, hok2⟩ := (HR.out.below hb).at_ hr
      have hkl : (k : Int) < (l.length : Int) := by omega
      have HB := Lib.hid hb
      by_cases ha : r.amount = 0
      · have hm := Lib.hid (mayB_no (not_may_pos hr ha))
        have ha2 : r.amount < 1 := by omega
        clear hr hb ha hok hok2
        go_wp2
        go_ret
        exact ⟨by rw [hm.out]; rfl, HB.out⟩
      · have hone : 1 ≤ r.amount := by unfold U64 at hok; omega
        by_cases hk0 : k = 0
        · have hg2 := Lib.hid (hg.out.step hr hone (fun s hs => absurd hk0 hs))
          have hd0 : decide (0 < k) = false := decide_eq_false (by omega)
          clear hr hb ha hok hok2 hk0
          go_wp2
          go_quiet (fail)
          go_wp2
          go_roundw
          case rel => exact ⟨k + 1, by omega, by go_num, hg2, drewB HB.out _⟩
          case measure => (simp [intOf]; try omega)
        · obtain ⟨s, hs⟩ : ∃ s, l[k - 1]? = some s := ⟨l[k - 1], List.getElem?_eq_getElem (by omega)⟩
          obtain ⟨b', off', hv', d0, d1, -, -⟩ := (HR.out.below hb).at_ hs
          cases hv'
          have hd0 : decide (0 < k) = true := decide_eq_true (by omega)
          have hw1 : IntKind.i64.wrap ((k : Int) - 1) = ((k - 1 : Nat) : Int) := by rw [IntWalk.i64_in _ (by omega)]; omega
          have hkm : ((k - 1 : Nat) : Int) < (l.length : Int) := by omega
          have hkm0 : (0 : Int) ≤ ((k - 1 : Nat) : Int) := by omega
          by_cases hat : r.at_ ≤ s.at_
          · have hm := Lib.hid (mayB_no (not_may_adj hr hk0 hs hat))
            generalize k - 1 = k1 at *
            clear hr hb ha hok hok2 hs
            go_wp2
            go_quiet (fail)
            go_wp2
            go_ret
            exact ⟨by rw [hm.out]; rfl, drewB HB.out _⟩
          · have hg2 := Lib.hid (hg.out.step hr hone (fun x _ hx => by
              rw [hs] at hx
              cases hx
              omega))
            have hat2 : s.at_ < r.at_ := by omega
            generalize k - 1 = k1 at *
            clear hr hb ha hok hok2 hs
            go_wp2
            go_quiet (fail)
            go_wp2
            go_roundw
            case rel => exact ⟨k + 1, by omega, by go_num, hg2, drewB HB.out _⟩
            case measure => (simp [intOf]; try omega)
    · obtain rfl : k = l.length := by omega
      have he := mayB_end hg.out HR.out.ok
      have HT := Lib.hid (rsum l _ wr (HR.out.below hb) hl)
      have HB := Lib.hid hb
      obtain ⟨x, b, hv, h1, h2⟩ := addV_form (sumP l)
      rw [hv] at HT
      have hb2 : mayB l = b := by
        rw [he]
        cases b with
        | true => rw [h1 rfl]; rfl
        | false => rw [(h2 rfl).1]; rfl
      have HB3 := Lib.hid hb2
      clear he hv h1 h2 hb hb2
      go_wp2_with (go_at_call 20; refine HT.out.mono ?_; rintro e w1 ⟨rfl, rfl⟩)
      go_ret
      exact ⟨by rw [HB3.out]; rfl, HB.out⟩

/-- The least time that is to come, and is there one? -/
def nxF (now : Int) (o : Option Int) (r : Rf) : Option Int := if now < r.at_ then (match o with | none => some r.at_ | some a => if r.at_ < a then some r.at_ else some a) else o
def nextP (l : List Rf) (now : Int) : Option Int := l.foldl (nxF now) none
theorem nextP_snoc (l : List Rf) (now : Int) (k : Nat) {r : Rf} (h : l[k]? = some r) : nextP (l.take (k + 1)) now = nxF now (nextP (l.take k) now) r := by
  rw [nextP, List.take_add_one, h, List.foldl_append]
  rfl

set_option maxRecDepth 100000 in
set_option maxHeartbeats 1000000 in
theorem next_ (l : List Rf) (now : Int) (v : Value) (w : World) (h : RdF w v l) (hl : l.length ≤ 1000000) :
    Calls Try.prog 63 #[v, vu now] w fun e w' => e = .returned (addV (nextP l now)) ∧ Below w.heap.size w w' := by
  obtain ⟨ao, cap, rfl⟩ := h.rd.len
  have HR := Lib.hid h
  clear h
  go_enter Try.func63, Try.ntmps63
  go_wp2
  go_loopw [4, 5, 10] (fun s b i wr => ∃ (k : Nat) (x : Int) (c : Bool), k ≤ l.length ∧ i = vi k ∧ s = vu x ∧ b = .bool c ∧ Hid (addV (nextP (l.take k) now) = .tuple #[vu x, .bool c]) ∧ Below w.heap.size w wr) (fun _ _ i _ => l.length - (intOf i).toNat)
  case atStart => exact ⟨0, 0, false, Nat.zero_le _, rfl, rfl, rfl, Lib.hid rfl, Below.refl _ _⟩
  case round =>
    obtain ⟨k, x, c, hk, rfl, rfl, rfl, hs, hb⟩ := hrel
    by_cases hlt : k < l.length
    · obtain ⟨r, hr⟩ : ∃ r, l[k]? = some r := ⟨l[k], List.getElem?_eq_getElem hlt⟩
      obtain ⟨b, off, rfl, c0, c1, hok, hok2⟩ := (HR.out.below hb).at_ hr
      have hkl : (k : Int) < (l.length : Int) := by omega
      have HB := Lib.hid (Below.then hb (below_alloc wr (.cells #[vu r.amount, vu r.at_] 61)))
      have hsn := nextP_snoc l now k hr
      have hs' := hs.out
      cases hp : nextP (l.take k) now with
      | none =>
        rw [hp] at hs' hsn
        obtain ⟨rfl, rfl⟩ : c = false ∧ x = 0 := by simp [addV] at hs'; exact ⟨hs'.2, by have := hs'.1; omega⟩
        by_cases ha : now < r.at_
        · have HN : Hid (addV (nextP (l.take (k + 1)) now) = .tuple #[vu r.at_, .bool true]) := Lib.hid (by rw [hsn, nxF, if_pos ha]; rfl)
          clear hs' hsn hr hb hok hok2 hp hs
          go_wp2
          go_roundw
          case rel => exact ⟨k + 1, _, true, by omega, by go_num, rfl, rfl, HN, HB.out⟩
          case measure => (simp [intOf]; try omega)
        · have HN : Hid (addV (nextP (l.take (k + 1)) now) = .tuple #[vu 0, .bool false]) := Lib.hid (by rw [hsn, nxF, if_neg ha]; rfl)
          clear hs' hsn hr hb hok hok2 hp hs
          go_wp2
          go_roundw
          case rel => exact ⟨k + 1, _, false, by omega, by go_num, rfl, rfl, HN, HB.out⟩
          case measure => (simp [intOf]; try omega)
      | some a =>
        rw [hp] at hs' hsn
        obtain ⟨rfl, rfl⟩ : c = true ∧ x = a := by simp [addV] at hs'; exact ⟨hs'.2, by have := hs'.1; omega⟩
        by_cases ha : now < r.at_
        · by_cases hla : r.at_ < x
          · have HN : Hid (addV (nextP (l.take (k + 1)) now) = .tuple #[vu r.at_, .bool true]) := Lib.hid (by rw [hsn, nxF, if_pos ha]; simp only [if_pos hla]; rfl)
            clear hs' hsn hr hb hok hok2 hp hs
            go_wp2
            go_roundw
            case rel => exact ⟨k + 1, _, true, by omega, by go_num, rfl, rfl, HN, HB.out⟩
            case measure => (simp [intOf]; try omega)
          · have HN : Hid (addV (nextP (l.take (k + 1)) now) = .tuple #[vu x, .bool true]) := Lib.hid (by rw [hsn, nxF, if_pos ha]; simp only [if_neg hla]; rfl)
            clear hs' hsn hr hb hok hok2 hp hs
            go_wp2
            go_roundw
            case rel => exact ⟨k + 1, _, true, by omega, by go_num, rfl, rfl, HN, HB.out⟩
            case measure => (simp [intOf]; try omega)
        · have HN : Hid (addV (nextP (l.take (k + 1)) now) = .tuple #[vu x, .bool true]) := Lib.hid (by rw [hsn, nxF, if_neg ha]; rfl)
          clear hs' hsn hr hb hok hok2 hp hs
          go_wp2
          go_roundw
          case rel => exact ⟨k + 1, _, true, by omega, by go_num, rfl, rfl, HN, HB.out⟩
          case measure => (simp [intOf]; try omega)
    · obtain rfl : k = l.length := by omega
      have HS := Lib.hid hs.out
      rw [List.take_length] at HS
      clear hs
      go_wp2
      go_ret2
      exact ⟨by rw [HS.out]; rfl, hb⟩

set_option maxRecDepth 100000 in
set_option maxHeartbeats 1000000 in
theorem rnext (l : List Rf) (now : Int) (v : Value) (w : World) (h : RdF w v l) (hl : l.length ≤ 1000000) :
    Calls Try.prog 95 #[v, vu now] w fun e w' => e = .returned (addV (nextP l now)) ∧ Below w.heap.size w w' := by
  obtain ⟨ao, cap, rfl⟩ := h.rd.len
  have HR := Lib.hid h
  clear h
  go_enter Try.func95, Try.ntmps95
  go_wp2
  go_loopw [6, 7, 8] (fun s b i wr => ∃ (k : Nat) (x : Int) (c : Bool), k ≤ l.length ∧ i = vi k ∧ s = vu x ∧ b = .bool c ∧ Hid (addV (nextP (l.take k) now) = .tuple #[vu x, .bool c]) ∧ Below w.heap.size w wr) (fun _ _ i _ => l.length - (intOf i).toNat)
  case atStart => exact ⟨0, 0, false, Nat.zero_le _, rfl, rfl, rfl, Lib.hid rfl, Below.refl _ _⟩
  case round =>
    obtain ⟨k, x, c, hk, rfl, rfl, rfl, hs, hb⟩ := hrel
    by_cases hlt : k < l.length
    · obtain ⟨r, hr⟩ : ∃ r, l[k]? = some r := ⟨l[k], List.getElem?_eq_getElem hlt⟩
      obtain ⟨b, off, rfl, c0, c1, hok, hok2⟩ := (HR.out.below hb).at_ hr
      have hkl : (k : Int) < (l.length : Int) := by omega
      have HB := Lib.hid hb
      have hsn := nextP_snoc l now k hr
      have hs' := hs.out
      cases hp : nextP (l.take k) now with
      | none =>
        rw [hp] at hs' hsn
        obtain ⟨rfl, rfl⟩ : c = false ∧ x = 0 := by simp [addV] at hs'; exact ⟨hs'.2, by have := hs'.1; omega⟩
        by_cases ha : now < r.at_
        · have HN : Hid (addV (nextP (l.take (k + 1)) now) = .tuple #[vu r.at_, .bool true]) := Lib.hid (by rw [hsn, nxF, if_pos ha]; rfl)
          clear hs' hsn hr hb hok hok2 hp hs
          go_wp2
          go_roundw
          case rel => exact ⟨k + 1, _, true, by omega, by go_num, rfl, rfl, HN, HB.out⟩
          case measure => (simp [intOf]; try omega)
        · have HN : Hid (addV (nextP (l.take (k + 1)) now) = .tuple #[vu 0, .bool false]) := Lib.hid (by rw [hsn, nxF, if_neg ha]; rfl)
          clear hs' hsn hr hb hok hok2 hp hs
          go_wp2
          go_roundw
          case rel => exact ⟨k + 1, _, false, by omega, by go_num, rfl, rfl, HN, HB.out⟩
          case measure => (simp [intOf]; try omega)
      | some a =>
        rw [hp] at hs' hsn
        obtain ⟨rfl, rfl⟩ : c = true ∧ x = a := by simp [addV] at hs'; exact ⟨hs'.2, by have := hs'.1; omega⟩
        by_cases ha : now < r.at_
        · by_cases hla : r.at_ < x
          · have HN : Hid (addV (nextP (l.take (k + 1)) now) = .tuple #[vu r.at_, .bool true]) := Lib.hid (by rw [hsn, nxF, if_pos ha]; simp only [if_pos hla]; rfl)
            clear hs' hsn hr hb hok hok2 hp hs
            go_wp2
            go_roundw
            case rel => exact ⟨k + 1, _, true, by omega, by go_num, rfl, rfl, HN, HB.out⟩
            case measure => (simp [intOf]; try omega)
          · have HN : Hid (addV (nextP (l.take (k + 1)) now) = .tuple #[vu x, .bool true]) := Lib.hid (by rw [hsn, nxF, if_pos ha]; simp only [if_neg hla]; rfl)
            clear hs' hsn hr hb hok hok2 hp hs
            go_wp2
            go_roundw
            case rel => exact ⟨k + 1, _, true, by omega, by go_num, rfl, rfl, HN, HB.out⟩
            case measure => (simp [intOf]; try omega)
        · have HN : Hid (addV (nextP (l.take (k + 1)) now) = .tuple #[vu x, .bool true]) := Lib.hid (by rw [hsn, nxF, if_neg ha]; rfl)
          clear hs' hsn hr hb hok hok2 hp hs
          go_wp2
          go_roundw
          case rel => exact ⟨k + 1, _, true, by omega, by go_num, rfl, rfl, HN, HB.out⟩
          case measure => (simp [intOf]; try omega)
    · obtain rfl : k = l.length := by omega
      have HS := Lib.hid hs.out
      rw [List.take_length] at HS
      clear hs
      go_wp2
      go_ret2
      exact ⟨by rw [HS.out]; rfl, hb⟩


/-- How many stand ahead of the first one that is not there. -/
theorem idx_clo (r : Rf) (now : Int) (bx : Nat) (w : World) (hc : w.cell? ⟨bx, 0, none⟩ = some (vu now)) :
    Calls Try.prog 101 #[.agg #[vu r.amount, vu r.at_], .pointer (some ⟨bx, 0, none⟩)] w fun e w' => e = .returned (.bool (decide (now < r.at_))) ∧ Below w.heap.size w w' := by
  have hB := below_alloc w (.cells #[vu r.amount, vu r.at_] 61)
  have hc2 : (w.alloc (.cells #[vu r.amount, vu r.at_] 61)).cell? ⟨bx, 0, none⟩ = some (vu now) := (hB.cell (p := ⟨bx, 0, none⟩) (lt_cell hc)).trans hc
  have HB := Lib.hid hB
  clear hB hc
  go_enter Try.func101, Try.ntmps101
  go_wp2
  go_ret
  exact ⟨rfl, HB.out⟩
def idxV (l : List Rf) (now : Int) : Int := if thN l now = l.length then -1 else thN l now
set_option maxRecDepth 100000 in
set_option maxHeartbeats 1000000 in
theorem idx_ (l : List Rf) (now : Int) (bx : Nat) (v : Value) (w : World) (h : RdF w v l) (hl : l.length ≤ 1000000) (hc : w.cell? ⟨bx, 0, none⟩ = some (vu now)) :
    Calls Try.prog 104 #[v, .func (.func 101) #[] #[.pointer (some ⟨bx, 0, none⟩)]] w fun e w' => e = .returned (vi (idxV l now)) ∧ Below w.heap.size w w' := by
  obtain ⟨ao, cap, rfl⟩ := h.rd.len
  have HR := Lib.hid h
  have HC := Lib.hid hc
  clear h hc
  go_enter Try.func104, Try.ntmps104
  go_wp2
  go_loopw [8] (fun i wr => ∃ (k : Nat), k ≤ l.length ∧ i = vi k ∧ Hid (∀ (j : Nat) (r : Rf), j < k → l[j]? = some r → r.at_ ≤ now) ∧ Below w.heap.size w wr) (fun i _ => l.length - (intOf i).toNat)
  case atStart => exact ⟨0, Nat.zero_le _, rfl, Lib.hid (fun j r hj => by omega), Below.refl _ _⟩
  case round =>
    obtain ⟨k, hk, rfl, hg, hb⟩ := hrel
    by_cases hlt : k < l.length
    · obtain ⟨r, hr⟩ : ∃ r, l[k]? = some r := ⟨l[k], List.getElem?_eq_getElem hlt⟩
      obtain ⟨b, off, rfl, c0, c1, hok, hok2⟩ := (HR.out.below hb).at_ hr
      have hkl : (k : Int) < (l.length : Int) := by omega
      have hcl := Lib.hid (idx_clo r now bx wr ((hb.cell (p := ⟨bx, 0, none⟩) (lt_cell HC.out)).trans HC.out))
      have HB := Lib.hid hb
      by_cases ha : now < r.at_
      · have hd : decide (now < r.at_) = true := decide_eq_true ha
        rw [hd] at hcl
        have hth : thN l now = k := thN_eq hk hg.out (fun s hs => by rw [hr] at hs; cases hs; exact ha)
        have HV : Hid (idxV l now = k) := Lib.hid (by rw [idxV, hth, if_neg (by omega)])
        clear hr hb ha hok hok2 hd hth
        go_wp2_with (go_at_call 101; refine hcl.out.mono ?_; rintro e w' ⟨rfl, hb2⟩; have HB2 := Lib.hid hb2; clear hb2)
        go_ret
        exact ⟨by rw [HV.out]; rfl, Below.then HB.out HB2.out⟩
      · have hd : decide (now < r.at_) = false := decide_eq_false ha
        rw [hd] at hcl
        have hg2 : Hid (∀ (j : Nat) (r : Rf), j < k + 1 → l[j]? = some r → r.at_ ≤ now) := Lib.hid (fun j x hj hx => by
          by_cases e : j = k
          · subst e
            rw [hr] at hx
            cases hx
            omega
          · exact hg.out j x (by omega) hx)
        clear hr hb ha hok hok2 hd hg
        go_wp2_with (go_at_call 101; refine hcl.out.mono ?_; rintro e w' ⟨rfl, hb2⟩; have HB2 := Lib.hid hb2; clear hb2)
        go_roundw
        case rel => exact ⟨k + 1, by omega, by go_num, hg2, Below.then HB.out HB2.out⟩
        case measure => (simp [intOf]; try omega)
    · obtain rfl : k = l.length := by omega
      have hth : thN l now = l.length := thN_eq hk hg.out (fun s hs => by rw [List.getElem?_eq_none (Nat.le_refl _)] at hs; cases hs)
      have HV : Hid (idxV l now = -1) := Lib.hid (by rw [idxV, hth, if_pos rfl])
      have HB := Lib.hid hb
      clear hg hth hb
      go_wp2
      go_ret
      exact ⟨by rw [HV.out]; rfl, HB.out⟩
theorem first_ (l : List Rf) (now : Int) (bx : Nat) (v : Value) (w : World) (h : RdF w v l) (hl : l.length ≤ 1000000) (hc : w.cell? ⟨bx, 0, none⟩ = some (vu now)) :
    Calls Try.prog 100 #[v, .func (.func 101) #[] #[.pointer (some ⟨bx, 0, none⟩)]] w fun e w' => e = .returned (vi (thN l now)) ∧ Below w.heap.size w w' := by
  have H := Lib.hid (idx_ l now bx v w h hl hc)
  obtain ⟨ao, cap, rfl⟩ := h.rd.len
  have hle := thN_le l now
  clear h hc
  by_cases ht : thN l now = l.length
  · rw [idxV, if_pos ht] at H
    have HT := Lib.hid ht
    clear ht hle
    go_enter Try.func100, Try.ntmps100
    go_wp2_with (go_at_call 104; refine H.out.mono ?_; rintro e w' ⟨rfl, hb2⟩; have HB2 := Lib.hid hb2; clear hb2)
    go_ret
    exact ⟨by rw [HT.out]; rfl, HB2.out⟩
  · rw [idxV, if_neg ht] at H
    generalize thN l now = n at *
    clear ht hle
    go_enter Try.func100, Try.ntmps100
    go_wp2_with (go_at_call 104; refine H.out.mono ?_; rintro e w' ⟨rfl, hb2⟩; have HB2 := Lib.hid hb2; clear hb2)
    go_ret
    exact ⟨rfl, HB2.out⟩
theorem thereN_ (l : List Rf) (now : Int) (v : Value) (w : World) (h : RdF w v l) (hl : l.length ≤ 1000000) :
    Calls Try.prog 78 #[v, vu now] w fun e w' => e = .returned (vi (thN l now)) ∧ Below w.heap.size w w' := by
  have hB := below_alloc w (.cells #[vu now] 22)
  have H := Lib.hid (first_ l now w.heap.size v (w.alloc (.cells #[vu now] 22)) (h.below hB) hl (by simp))
  have HB := Lib.hid hB
  clear h hB
  go_enter Try.func78, Try.ntmps78
  go_wp2_with (go_at_call 100; refine H.out.mono ?_; rintro e w' ⟨rfl, hb2⟩; have HB2 := Lib.hid hb2; clear hb2)
  go_ret
  exact ⟨rfl, Below.then HB.out HB2.out⟩
end Go.Proofs.Ytknodagcmachiaa.Fi
