/-
  Contracts of package refill that only read: total, Sum, May, there, There, Next. No statement is proved here.
-/
import Derived.Test.YtdbppfcilaajaaaGreatMg13
import Derived.Test.YtdbppfcilaajaaaGreatMg3
namespace Go.Proofs.YtdbppfcilaajaaaGreat.Fi
open Go.RowKit
set_option linter.unusedVariables false

theorem RdF.below {w w' : World} {v : Value} {l : List Rf} (h : RdF w v l) (hb : Below w.heap.size w w') : RdF w' v l := ⟨h.rd.below hb, h.ok⟩
/-- One refill of a list that can be read. -/
theorem RdF.at_ {w : World} {ao : Option Addr} {cap k : Nat} {l : List Rf} {r : Rf} (h : RdF w (.slice ao l.length cap) l) (hr : l[k]? = some r) :
    ∃ b off, ao = some ⟨b, off, none⟩ ∧ w.cell? ⟨b, off + k * 2, none⟩ = some (vu r.amount) ∧ w.cell? ⟨b, off + k * 2 + 1, none⟩ = some (vu r.at_) ∧ U64 r.amount ∧ U64 r.at_ := by
  have hlt : k < l.length := (List.getElem?_eq_some_iff.1 hr).1
  obtain ⟨b, off, c, hv, hc⟩ := h.rd.pos (by omega)
  cases hv
  have c0 := hc (k * 2 + 0) _ (flat_get Rf.len hr rfl)
  have c1 := hc (k * 2 + 1) _ (flat_get Rf.len hr rfl)
  rw [Nat.add_zero] at c0
  rw [← Nat.add_assoc] at c1
  exact ⟨b, off, rfl, c0, c1, h.ok r (List.mem_of_getElem? hr)⟩
theorem U64.wrap {x : Int} (h : U64 x) : IntKind.u64.wrap x = x := IntWalk.u64_in _ (by unfold U64 at h; omega)
theorem below_alloc (w : World) (o : Obj) : Below w.heap.size w (w.alloc o) := (Below.refl _ _).alloc (Nat.le_refl _) o
theorem Below.then {w w1 w2 : World} (h : Below w.heap.size w w1) (k : Below w1.heap.size w1 w2) : Below w.heap.size w w2 := h.trans (k.mono h.size)

set_option maxRecDepth 100000 in
theorem total_ (l : List Rf) (v : Value) (w : World) (h : RdF w v l) (hl : l.length ≤ 1000000) :
    Calls Tryz.prog 228 #[v] w fun e w' => e = .returned (addV (sumP l)) ∧ Below w.heap.size w w' := by
  obtain ⟨ao, cap, rfl⟩ := h.rd.len
  have HR := Lib.hid h
  clear h
  go_enter Tryz.func228, Tryz.ntmps228
  go_wp2
  go_loopw [2, 8] (fun s i wr => ∃ (k : Nat) (n : Int), k ≤ l.length ∧ i = vi k ∧ s = vu n ∧ U64 n ∧ Hid (sumP (l.take k) = some n) ∧ Below w.heap.size w wr) (fun _ i _ => l.length - (intOf i).toNat)
  case atStart => exact ⟨0, 0, Nat.zero_le _, rfl, rfl, ⟨by omega, by omega⟩, Lib.hid rfl, Below.refl _ _⟩
  case round =>
    obtain ⟨k, n, hk, rfl, rfl, hn, hs, hb⟩ := hrel
    by_cases hlt : k < l.length
    · obtain ⟨r, hr⟩ : ∃ r, l[k]? = some r := ⟨l[k], List.getElem?_eq_getElem hlt⟩
      obtain ⟨b, off, rfl, c0, c1, hok, -⟩ := (HR.out.below hb).at_ hr
      have hkl : (k : Int) < (l.length : Int) := by omega
      have hsn := sumP_snoc l k hr
      rw [hs.out] at hsn
      have HS := Lib.hid hsn
      have HA := Lib.hid (nadd n r.amount hn hok (wr.alloc (.cells #[vu r.amount, vu r.at_] 244)))
      have HN := Lib.hid hn
      have HO := Lib.hid hok
      have HB := Lib.hid (Below.then hb (below_alloc wr (.cells #[vu r.amount, vu r.at_] 244)))
      clear hr hsn hn hok hb
      cases hp : addP n r.amount with
      | none =>
        have HP := Lib.hid hp
        rw [hp] at HA
        have HA2 : Hid (Calls Tryz.prog 191 #[vu n, vu r.amount] (wr.alloc (.cells #[vu r.amount, vu r.at_] 244)) fun e w' => e = .returned (.tuple #[vu 0, .bool false]) ∧ wr.alloc (.cells #[vu r.amount, vu r.at_] 244) = w') := HA
        clear hp HA
        go_wp2_with (go_at_call 191; refine HA2.out.mono ?_; rintro e w' ⟨rfl, rfl⟩)
        go_ret2
        exact ⟨by rw [sumP_none l (k + 1) (by rw [HS.out]; exact HP.out)]; rfl, HB.out⟩
      | some m =>
        have HP := Lib.hid hp
        rw [hp] at HA
        have HA2 : Hid (Calls Tryz.prog 191 #[vu n, vu r.amount] (wr.alloc (.cells #[vu r.amount, vu r.at_] 244)) fun e w' => e = .returned (.tuple #[vu m, .bool true]) ∧ wr.alloc (.cells #[vu r.amount, vu r.at_] 244) = w') := HA
        clear hp HA
        go_wp2_with (go_at_call 191; refine HA2.out.mono ?_; rintro e w' ⟨rfl, rfl⟩)
        go_roundw
        case rel => exact ⟨k + 1, m, by omega, by go_num, rfl, addP_u64 HN.out HO.out HP.out, Lib.hid (by rw [HS.out]; exact HP.out), HB.out⟩
        case measure => (simp [intOf]; try omega)
    · obtain rfl : k = l.length := by omega
      go_wp2
      go_ret2
      exact ⟨by rw [← List.take_length (l := l), hs.out]; rfl, hb⟩
theorem addV_form (o : Option Int) : ∃ x b, addV o = .tuple #[vu x, .bool b] ∧ (b = true → o = some x) ∧ (b = false → o = none ∧ x = 0) := by
  cases o with
  | none => exact ⟨0, false, rfl, by simp, by simp⟩
  | some s => exact ⟨s, true, rfl, by simp, by simp⟩
set_option maxRecDepth 100000 in
theorem there_ (l : List Rf) (now : Int) (v : Value) (w : World) (h : RdF w v l) (hl : l.length ≤ 1000000) :
    Calls Tryz.prog 188 #[v, vu now] w fun e w' => e = .returned (vu (thereV l now)) ∧ Below w.heap.size w w' := by
  obtain ⟨ao, cap, rfl⟩ := h.rd.len
  have HR := Lib.hid h
  clear h
  go_enter Tryz.func188, Tryz.ntmps188
  go_wp2
  go_loopw [4, 9] (fun s i wr => ∃ (k : Nat) (n : Int), k ≤ l.length ∧ i = vi k ∧ s = vu n ∧ U64 n ∧ Hid (thereV (l.take k) now = n) ∧ Below w.heap.size w wr) (fun _ i _ => l.length - (intOf i).toNat)
  case atStart => exact ⟨0, 0, Nat.zero_le _, rfl, rfl, ⟨by omega, by omega⟩, Lib.hid rfl, Below.refl _ _⟩
  case round =>
    obtain ⟨k, n, hk, rfl, rfl, hn, hs, hb⟩ := hrel
    by_cases hlt : k < l.length
    · obtain ⟨r, hr⟩ : ∃ r, l[k]? = some r := ⟨l[k], List.getElem?_eq_getElem hlt⟩
      obtain ⟨b, off, rfl, c0, c1, hok, -⟩ := (HR.out.below hb).at_ hr
      have hkl : (k : Int) < (l.length : Int) := by omega
      have hOK : OkL l := HR.out.ok
      have hsn : totTo now (l.take (k + 1)) = totTo now (l.take k) + if now < r.at_ then 0 else r.amount := by
        rw [List.take_add_one, hr, totTo_append]
        simp [totTo]
      have hok1 : OkL (l.take k) := hOK.sub fun x hx => List.mem_of_mem_take hx
      have hok2 : OkL (l.take (k + 1)) := hOK.sub fun x hx => List.mem_of_mem_take hx
      have hs1 := thereV_eq now hok1
      have hs2 := thereV_eq now hok2
      have hbd := (totTo_bd now hok1).1
      rw [hs.out] at hs1
      have HB := Lib.hid (Below.then hb (below_alloc wr (.cells #[vu r.amount, vu r.at_] 244)))
      by_cases ha : now < r.at_
      · have hle : ¬ (r.at_ ≤ now) := by omega
        have HS : Hid (thereV (l.take (k + 1)) now = n) := Lib.hid (by
          rw [hs2, hsn, if_pos ha, Int.add_zero, hs1])
        have HN := Lib.hid hn
        clear hsn hs1 hs2 hbd hr hok hn hb
        go_wp2
        go_roundw
        case rel => exact ⟨k + 1, n, by omega, by go_num, rfl, HN.out, HS, HB.out⟩
        case measure => (simp [intOf]; try omega)
      · have hle : r.at_ ≤ now := by omega
        have HA := Lib.hid (naddSat n r.amount hn hok (wr.alloc (.cells #[vu r.amount, vu r.at_] 244)))
        have hun := hn
        unfold U64 at hn hok
        have hval : thereV (l.take (k + 1)) now = (addP n r.amount).getD 18446744073709551615 := by
          rw [hs2, hsn, if_neg ha, hs1]
          unfold addP
          by_cases hc : 18446744073709551615 < totTo now (l.take k)
          · rw [if_pos hc]
            rw [if_pos (by omega)]
            by_cases hc2 : 18446744073709551615 < 18446744073709551615 + r.amount
            · rw [if_pos hc2]; rfl
            · rw [if_neg hc2]
              simp only [Option.getD_some]
              omega
          · rw [if_neg hc]
            split <;> rfl
        have hu2 : U64 ((addP n r.amount).getD 18446744073709551615) := by
          unfold addP U64
          split
          · simp
          · simp only [Option.getD_some]
            omega
        have HS := Lib.hid hval
        have HU := Lib.hid hu2
        generalize (addP n r.amount).getD 18446744073709551615 = m at *
        clear hsn hs1 hs2 hbd hr hok hn hb hval hu2 hun
        go_wp2_with (go_at_call 200; refine HA.out.mono ?_; rintro e w' ⟨rfl, rfl⟩)
        go_roundw
        case rel => exact ⟨k + 1, m, by omega, by go_num, rfl, HU.out, HS, HB.out⟩
        case measure => (simp [intOf]; try omega)
    · obtain rfl : k = l.length := by omega
      go_wp2
      go_ret
      exact ⟨by rw [← hs.out, List.take_length]; rfl, hb⟩
end Go.Proofs.YtdbppfcilaajaaaGreat.Fi

namespace Go.Proofs.YtdbppfcilaajaaaGreat.Fi
open Go.RowKit
set_option linter.unusedVariables false

theorem drewB {n : Nat} {a b : World} (h : Below n a b) (k : Nat) : Below n a (b.drewN k) := ⟨h.os, h.tape, h.output, h.size, h.block⟩
/-- So far a list may be. -/
def Good (l : List Rf) (k : Nat) : Prop := ∀ (j : Nat) (r : Rf), j < k → l[j]? = some r → 1 ≤ r.amount ∧ ∀ s : Rf, j ≠ 0 → l[j - 1]? = some s → s.at_ < r.at_
theorem Good.all {l : List Rf} (h : Good l l.length) (hf : tot l ≤ 18446744073709551615) : MayL l := by
  refine ⟨fun k r hr => (h k r (List.getElem?_eq_some_iff.1 hr).1 hr).1, fun k r s hr hs => ?_, hf⟩
  exact (h (k + 1) s (List.getElem?_eq_some_iff.1 hs).1 hs).2 r (by omega) (by simpa using hr)
theorem Good.step {l : List Rf} {k : Nat} {r : Rf} (h : Good l k) (hr : l[k]? = some r) (h1 : 1 ≤ r.amount) (h2 : ∀ s : Rf, k ≠ 0 → l[k - 1]? = some s → s.at_ < r.at_) : Good l (k + 1) := by
  intro j x hj hx
  by_cases e : j = k
  · subst e
    rw [hr] at hx
    cases hx
    exact ⟨h1, h2⟩
  · exact h j x (by omega) hx
theorem not_may_pos {l : List Rf} {k : Nat} {r : Rf} (hr : l[k]? = some r) (h : r.amount = 0) : ¬ MayL l := fun m => by
  have := m.pos k r hr
  omega
theorem not_may_adj {l : List Rf} {k : Nat} {r s : Rf} (hr : l[k]? = some r) (hk : k ≠ 0) (hs : l[k - 1]? = some s) (h : r.at_ ≤ s.at_) : ¬ MayL l := fun m => by
  obtain ⟨j, rfl⟩ : ∃ j, k = j + 1 := ⟨k - 1, by omega⟩
  have := m.adj j s r (by simpa using hs) hr
  omega
open Classical in
/-- Whether a list may be, as a bool. -/
noncomputable def mayB (l : List Rf) : Bool := if MayL l then true else false
theorem mayB_yes {l : List Rf} (h : MayL l) : mayB l = true := by unfold mayB; rw [if_pos h]
theorem mayB_no {l : List Rf} (h : ¬ MayL l) : mayB l = false := by unfold mayB; rw [if_neg h]
theorem mayB_end {l : List Rf} (h : Good l l.length) (hok : OkL l) : mayB l = (sumP l).isSome := by
  rw [sumP_eq hok]
  by_cases hf : 18446744073709551615 < tot l
  · rw [if_pos hf, mayB_no fun m => by have := m.fit; omega]
    rfl
  · rw [if_neg hf, mayB_yes (h.all (by omega))]
    rfl

set_option maxRecDepth 100000 in
set_option maxHeartbeats 1000000 in
theorem may_ (l : List Rf) (v : Value) (w : World) (h : RdF w v l) (hl : l.length ≤ 1000000) :
    Calls Tryz.prog 192 #[v] w fun e w' => e = .returned (.bool (mayB l)) ∧ Below w.heap.size w w' := by
  obtain ⟨ao, cap, rfl⟩ := h.rd.len
  have HR := Lib.hid h
  clear h
  go_enter Tryz.func192, Tryz.ntmps192
  go_wp2
  go_loopw [9] (fun i wr => ∃ (k : Nat), k ≤ l.length ∧ i = vi k ∧ Hid (Good l k) ∧ Below w.heap.size w wr) (fun i _ => l.length - (intOf i).toNat)
  case atStart => exact ⟨0, Nat.zero_le _, rfl, Lib.hid (fun j r hj => by omega), Below.refl _ _⟩
  case round =>
    obtain ⟨k, hk, rfl, hg, hb⟩ := hrel
    by_cases hlt : k < l.length
    · obtain ⟨r, hr⟩ : ∃ r, l[k]? = some r := ⟨l[k], List.getElem?_eq_getElem hlt⟩
      obtain ⟨b, off, rfl, c0, c1, hok, hok2⟩ := (HR.out.below hb).at_ hr
      have hkl : (k : Int) < (l.length : Int) := by omega
      have hB1 := Below.then hb (below_alloc wr (.cells #[vu r.amount, vu r.at_] 244))
      have HB := Lib.hid hB1
      have HRr := Lib.hid hr
      by_cases ha : r.amount = 0
      · have hm := Lib.hid (mayB_no (not_may_pos hr ha))
        have ha2 : (r.amount == 0) = true := by simp [ha]
        clear hr hb ha hok hok2 hB1
        go_wp2
        go_quiet (fail)
        go_wp2
        go_ret
        exact ⟨by rw [hm.out]; rfl, drewB HB.out _⟩
      · have ha2 : (r.amount == 0) = false := beq_eq_false_iff_ne.2 ha
        have hone : 1 ≤ r.amount := by unfold U64 at hok; omega
        by_cases hk0 : k = 0
        · have hg2 := Lib.hid (hg.out.step hr hone (fun s hs => absurd hk0 hs))
          have hd0 : decide (0 < k) = false := decide_eq_false (by omega)
          clear hr hb ha hok hok2 hB1 hk0
          go_wp2
          go_quiet (fail)
          go_wp2
          go_roundw
          case rel => exact ⟨k + 1, by omega, by go_num, hg2, drewB HB.out _⟩
          case measure => (simp [intOf]; try omega)
        · obtain ⟨s, hs⟩ : ∃ s, l[k - 1]? = some s := ⟨l[k - 1], List.getElem?_eq_getElem (by omega)⟩
          obtain ⟨b', off', hv', d0, d1, -, -⟩ := (HR.out.below hB1).at_ hs
          cases hv'
          have hd0 : decide (0 < k) = true := decide_eq_true (by omega)
          have hw1 : IntKind.i64.wrap ((k : Int) - 1) = ((k - 1 : Nat) : Int) := by rw [IntWalk.i64_in _ (by omega)]; omega
          have hkm : ((k - 1 : Nat) : Int) < (l.length : Int) := by omega
          have hkm0 : (0 : Int) ≤ ((k - 1 : Nat) : Int) := by omega
          by_cases hat : r.at_ ≤ s.at_
          · have hm := Lib.hid (mayB_no (not_may_adj hr hk0 hs hat))
            generalize k - 1 = k1 at *
            clear hr hb ha hok hok2 hB1 hs
            go_wp2
            go_quiet (fail)
            go_wp2
            go_ret
            exact ⟨by rw [hm.out]; rfl, drewB HB.out _⟩
          · have hg2 := Lib.hid (hg.out.step hr hone (fun x _ hx => by
              rw [hs] at hx
              cases hx
              omega))
            have hat2 : s.at_ < r.at_ := by omega
            generalize k - 1 = k1 at *
            clear hr hb ha hok hok2 hB1 hs
            go_wp2
            go_quiet (fail)
            go_wp2
            go_roundw
            case rel => exact ⟨k + 1, by omega, by go_num, hg2, drewB HB.out _⟩
            case measure => (simp [intOf]; try omega)
    · obtain rfl : k = l.length := by omega
      have he := mayB_end hg.out HR.out.ok
      have HT := Lib.hid (total_ l _ wr (HR.out.below hb) hl)
      have HB := Lib.hid hb
      obtain ⟨x, b, hv, h1, h2⟩ := addV_form (sumP l)
      rw [hv] at HT
      have hb2 : mayB l = b := by
        rw [he]
        cases b with
        | true => rw [h1 rfl]; rfl
        | false => rw [(h2 rfl).1]; rfl
      have HB3 := Lib.hid hb2
      clear he hv h1 h2 hb hb2
      go_wp2_with (go_at_call 228; refine HT.out.mono ?_; rintro e w1 ⟨rfl, hb⟩; have HB2 := Lib.hid hb; clear hb)
      go_ret
      exact ⟨by rw [HB3.out]; rfl, Below.then HB.out HB2.out⟩

/-- How many stand ahead of the first one that is not there. -/
theorem idx_clo (r : Rf) (now : Int) (bx : Nat) (w : World) (hc : w.cell? ⟨bx, 0, none⟩ = some (vu now)) :
    Calls Tryz.prog 230 #[.agg #[vu r.amount, vu r.at_], .pointer (some ⟨bx, 0, none⟩)] w fun e w' => e = .returned (.bool (decide (now < r.at_))) ∧ Below w.heap.size w w' := by
  have hB := below_alloc w (.cells #[vu r.amount, vu r.at_] 244)
  have hc2 : (w.alloc (.cells #[vu r.amount, vu r.at_] 244)).cell? ⟨bx, 0, none⟩ = some (vu now) := (hB.cell (p := ⟨bx, 0, none⟩) (lt_cell hc)).trans hc
  have HB := Lib.hid hB
  clear hB hc
  go_enter Tryz.func230, Tryz.ntmps230
  go_wp2
  go_ret
  exact ⟨rfl, HB.out⟩
def idxV (l : List Rf) (now : Int) : Int := if thN l now = l.length then -1 else thN l now
set_option maxRecDepth 100000 in
set_option maxHeartbeats 1000000 in
theorem idx_ (l : List Rf) (now : Int) (bx : Nat) (v : Value) (w : World) (h : RdF w v l) (hl : l.length ≤ 1000000) (hc : w.cell? ⟨bx, 0, none⟩ = some (vu now)) :
    Calls Tryz.prog 238 #[v, .func (.func 230) #[] #[.pointer (some ⟨bx, 0, none⟩)]] w fun e w' => e = .returned (vi (idxV l now)) ∧ Below w.heap.size w w' := by
  obtain ⟨ao, cap, rfl⟩ := h.rd.len
  have HR := Lib.hid h
  have HC := Lib.hid hc
  clear h hc
  go_enter Tryz.func238, Tryz.ntmps238
  go_wp2
  go_loopw [8] (fun i wr => ∃ (k : Nat), k ≤ l.length ∧ i = vi k ∧ Hid (∀ (j : Nat) (r : Rf), j < k → l[j]? = some r → r.at_ ≤ now) ∧ Below w.heap.size w wr) (fun i _ => l.length - (intOf i).toNat)
  case atStart => exact ⟨0, Nat.zero_le _, rfl, Lib.hid (fun j r hj => by omega), Below.refl _ _⟩
  case round =>
    obtain ⟨k, hk, rfl, hg, hb⟩ := hrel
    by_cases hlt : k < l.length
    · obtain ⟨r, hr⟩ : ∃ r, l[k]? = some r := ⟨l[k], List.getElem?_eq_getElem hlt⟩
      obtain ⟨b, off, rfl, c0, c1, hok, hok2⟩ := (HR.out.below hb).at_ hr
      have hkl : (k : Int) < (l.length : Int) := by omega
      have hcl := Lib.hid (idx_clo r now bx wr ((hb.cell (p := ⟨bx, 0, none⟩) (lt_cell HC.out)).trans HC.out))
      have HB := Lib.hid hb
      by_cases ha : now < r.at_
      · have hd : decide (now < r.at_) = true := decide_eq_true ha
        rw [hd] at hcl
        have hth : thN l now = k := thN_eq hk hg.out (fun s hs => by rw [hr] at hs; cases hs; exact ha)
        have HV : Hid (idxV l now = k) := Lib.hid (by rw [idxV, hth, if_neg (by omega)])
        clear hr hb ha hok hok2 hd hth
        go_wp2_with (go_at_call 230; refine hcl.out.mono ?_; rintro e w' ⟨rfl, hb2⟩; have HB2 := Lib.hid hb2; clear hb2)
        go_ret
        exact ⟨by rw [HV.out]; rfl, Below.then HB.out HB2.out⟩
      · have hd : decide (now < r.at_) = false := decide_eq_false ha
        rw [hd] at hcl
        have hg2 : Hid (∀ (j : Nat) (r : Rf), j < k + 1 → l[j]? = some r → r.at_ ≤ now) := Lib.hid (fun j x hj hx => by
          by_cases e : j = k
          · subst e
            rw [hr] at hx
            cases hx
            omega
          · exact hg.out j x (by omega) hx)
        clear hr hb ha hok hok2 hd hg
        go_wp2_with (go_at_call 230; refine hcl.out.mono ?_; rintro e w' ⟨rfl, hb2⟩; have HB2 := Lib.hid hb2; clear hb2)
        go_roundw
        case rel => exact ⟨k + 1, by omega, by go_num, hg2, Below.then HB.out HB2.out⟩
        case measure => (simp [intOf]; try omega)
    · obtain rfl : k = l.length := by omega
      have hth : thN l now = l.length := thN_eq hk hg.out (fun s hs => by rw [List.getElem?_eq_none (Nat.le_refl _)] at hs; cases hs)
      have HV : Hid (idxV l now = -1) := Lib.hid (by rw [idxV, hth, if_pos rfl])
      have HB := Lib.hid hb
      clear hg hth hb
      go_wp2
      go_ret
      exact ⟨by rw [HV.out]; rfl, HB.out⟩
theorem first_ (l : List Rf) (now : Int) (bx : Nat) (v : Value) (w : World) (h : RdF w v l) (hl : l.length ≤ 1000000) (hc : w.cell? ⟨bx, 0, none⟩ = some (vu now)) :
    Calls Tryz.prog 229 #[v, .func (.func 230) #[] #[.pointer (some ⟨bx, 0, none⟩)]] w fun e w' => e = .returned (vi (thN l now)) ∧ Below w.heap.size w w' := by
  have H := Lib.hid (idx_ l now bx v w h hl hc)
  obtain ⟨ao, cap, rfl⟩ := h.rd.len
  have hle := thN_le l now
  clear h hc
  by_cases ht : thN l now = l.length
  · rw [idxV, if_pos ht] at H
    have HT := Lib.hid ht
    clear ht hle
    go_enter Tryz.func229, Tryz.ntmps229
    go_wp2_with (go_at_call 238; refine H.out.mono ?_; rintro e w' ⟨rfl, hb2⟩; have HB2 := Lib.hid hb2; clear hb2)
    go_ret
    exact ⟨by rw [HT.out]; rfl, HB2.out⟩
  · rw [idxV, if_neg ht] at H
    generalize thN l now = n at *
    clear ht hle
    go_enter Tryz.func229, Tryz.ntmps229
    go_wp2_with (go_at_call 238; refine H.out.mono ?_; rintro e w' ⟨rfl, hb2⟩; have HB2 := Lib.hid hb2; clear hb2)
    go_ret
    exact ⟨rfl, HB2.out⟩
theorem thereN_ (l : List Rf) (now : Int) (v : Value) (w : World) (h : RdF w v l) (hl : l.length ≤ 1000000) :
    Calls Tryz.prog 193 #[v, vu now] w fun e w' => e = .returned (vi (thN l now)) ∧ Below w.heap.size w w' := by
  have hB := below_alloc w (.cells #[vu now] 24)
  have H := Lib.hid (first_ l now w.heap.size v (w.alloc (.cells #[vu now] 24)) (h.below hB) hl (by simp))
  have HB := Lib.hid hB
  clear h hB
  go_enter Tryz.func193, Tryz.ntmps193
  go_wp2_with (go_at_call 229; refine H.out.mono ?_; rintro e w' ⟨rfl, hb2⟩; have HB2 := Lib.hid hb2; clear hb2)
  go_ret
  exact ⟨rfl, Below.then HB.out HB2.out⟩
end Go.Proofs.YtdbppfcilaajaaaGreat.Fi
