/-
  Contracts of package refill that only read: total, Sum, May, there, There, Next. No statement is proved here.
-/
import Derived.Test.YtknodagcmachiaaMg5
import Derived.Test.YtknodagcmachiaaOwn
import Derived.Test.YtknodagcmachiaaFiLaw
namespace Go.Proofs.Ytknodagcmachiaa.Fi
open Go.RowKit
set_option linter.unusedVariables false

theorem RdF.below {w w' : World} {v : Value} {l : List Rf} (h : RdF w v l) (hb : Below w.heap.size w w') : RdF w' v l := ⟨h.rd.below hb, h.ok⟩
/-- One refill of a list that can be read. -/
theorem RdF.at_ {w : World} {ao : Option Addr} {cap k : Nat} {l : List Rf} {r : Rf} (h : RdF w (.slice ao l.length cap) l) (hr : l[k]? = some r) :
    ∃ b off, ao = some ⟨b, off, none⟩ ∧ w.cell? ⟨b, off + k * 2, none⟩ = some (vu r.amount) ∧ w.cell? ⟨b, off + k * 2 + 1, none⟩ = some (vu r.at_) ∧ U64 r.amount ∧ U64 r.at_ := by
  have hlt : k < l.length := (List.getElem?_eq_some_iff.1 hr).1
  obtain ⟨b, off, c, hv, hc⟩ := h.rd.pos (by omega)
  cases hv
  have c0 := hc (k * 2 + 0) _ (flat_get Rf.len hr rfl)
  have c1 := hc (k * 2 + 1) _ (flat_get Rf.len hr rfl)
  rw [Nat.add_zero] at c0
  rw [← Nat.add_assoc] at c1
  exact ⟨b, off, rfl, c0, c1, h.ok r (List.mem_of_getElem? hr)⟩
theorem U64.wrap {x : Int} (h : U64 x) : IntKind.u64.wrap x = x := IntWalk.u64_in _ (by unfold U64 at h; omega)
theorem below_alloc (w : World) (o : Obj) : Below w.heap.size w (w.alloc o) := (Below.refl _ _).alloc (Nat.le_refl _) o
theorem Below.then {w w1 w2 : World} (h : Below w.heap.size w w1) (k : Below w1.heap.size w1 w2) : Below w.heap.size w w2 := h.trans (k.mono h.size)

set_option maxRecDepth 100000 in
theorem total_ (l : List Rf) (v : Value) (w : World) (h : RdF w v l) (hl : l.length ≤ 1000000) :
    Calls Try.prog 97 #[v] w fun e w' => e = .returned (addV (sumP l)) ∧ Below w.heap.size w w' := by
  obtain ⟨ao, cap, rfl⟩ := h.rd.len
  have HR := Lib.hid h
  clear h
  go_enter Try.func97, Try.ntmps97
  go_wp2
  go_loopw [2, 8] (fun s i wr => ∃ (k : Nat) (n : Int), k ≤ l.length ∧ i = vi k ∧ s = vu n ∧ U64 n ∧ Hid (sumP (l.take k) = some n) ∧ Below w.heap.size w wr) (fun _ i _ => l.length - (intOf i).toNat)
  case atStart => exact ⟨0, 0, Nat.zero_le _, rfl, rfl, ⟨by omega, by omega⟩, Lib.hid rfl, Below.refl _ _⟩
  case round =>
    obtain ⟨k, n, hk, rfl, rfl, hn, hs, hb⟩ := hrel
    by_cases hlt : k < l.length
    · obtain ⟨r, hr⟩ : ∃ r, l[k]? = some r := ⟨l[k], List.getElem?_eq_getElem hlt⟩
      obtain ⟨b, off, rfl, c0, c1, hok, -⟩ := (HR.out.below hb).at_ hr
      have hkl : (k : Int) < (l.length : Int) := by omega
      have hsn := sumP_snoc l k hr
      rw [hs.out] at hsn
      have HS := Lib.hid hsn
      have HA := Lib.hid (nadd n r.amount hn hok (wr.alloc (.cells #[vu r.amount, vu r.at_] 61)))
      have HN := Lib.hid hn
      have HO := Lib.hid hok
      have HB := Lib.hid (Below.then hb (below_alloc wr (.cells #[vu r.amount, vu r.at_] 61)))
      clear hr hsn hn hok hb
      cases hp : addP n r.amount with
      | none =>
        have HP := Lib.hid hp
        rw [hp] at HA
        have HA2 : Hid (Calls Try.prog 76 #[vu n, vu r.amount] (wr.alloc (.cells #[vu r.amount, vu r.at_] 61)) fun e w' => e = .returned (.tuple #[vu 0, .bool false]) ∧ wr.alloc (.cells #[vu r.amount, vu r.at_] 61) = w') := HA
        clear hp HA
        go_wp2_with (go_at_call 76; refine HA2.out.mono ?_; rintro e w' ⟨rfl, rfl⟩)
        go_ret2
        exact ⟨by rw [sumP_none l (k + 1) (by rw [HS.out]; exact HP.out)]; rfl, HB.out⟩
      | some m =>
        have HP := Lib.hid hp
        rw [hp] at HA
        have HA2 : Hid (Calls Try.prog 76 #[vu n, vu r.amount] (wr.alloc (.cells #[vu r.amount, vu r.at_] 61)) fun e w' => e = .returned (.tuple #[vu m, .bool true]) ∧ wr.alloc (.cells #[vu r.amount, vu r.at_] 61) = w') := HA
        clear hp HA
        go_wp2_with (go_at_call 76; refine HA2.out.mono ?_; rintro e w' ⟨rfl, rfl⟩)
        go_roundw
        case rel => exact ⟨k + 1, m, by omega, by go_num, rfl, addP_u64 HN.out HO.out HP.out, Lib.hid (by rw [HS.out]; exact HP.out), HB.out⟩
        case measure => (simp [intOf]; try omega)
    · obtain rfl : k = l.length := by omega
      go_wp2
      go_ret2
      exact ⟨by rw [← List.take_length (l := l), hs.out]; rfl, hb⟩
theorem addV_form (o : Option Int) : ∃ x b, addV o = .tuple #[vu x, .bool b] ∧ (b = true → o = some x) ∧ (b = false → o = none ∧ x = 0) := by
  cases o with
  | none => exact ⟨0, false, rfl, by simp, by simp⟩
  | some s => exact ⟨s, true, rfl, by simp, by simp⟩
set_option maxRecDepth 100000 in
theorem there_ (l : List Rf) (now : Int) (v : Value) (w : World) (h : RdF w v l) (hl : l.length ≤ 1000000) :
    Calls Try.prog 39 #[v, vu now] w fun e w' => e = .returned (vu (thereV l now)) ∧ Below w.heap.size w w' := by
  obtain ⟨ao, cap, rfl⟩ := h.rd.len
  have HR := Lib.hid h
  clear h
  go_enter Try.func39, Try.ntmps39
  go_wp2
  go_loopw [4, 9] (fun s i wr => ∃ (k : Nat) (n : Int), k ≤ l.length ∧ i = vi k ∧ s = vu n ∧ U64 n ∧ Hid (thereV (l.take k) now = n) ∧ Below w.heap.size w wr) (fun _ i _ => l.length - (intOf i).toNat)
  case atStart => exact ⟨0, 0, Nat.zero_le _, rfl, rfl, ⟨by omega, by omega⟩, Lib.hid rfl, Below.refl _ _⟩
  case round =>
    obtain ⟨k, n, hk, rfl, rfl, hn, hs, hb⟩ := hrel
    by_cases hlt : k < l.length
    · obtain ⟨r, hr⟩ : ∃ r, l[k]? = some r := ⟨l[k], List.getElem?_eq_getElem hlt⟩
      obtain ⟨b, off, rfl, c0, c1, hok, -⟩ := (HR.out.below hb).at_ hr
      have hkl : (k : Int) < (l.length : Int) := by omega
      have hOK : OkL l := HR.out.ok
      have hsn : totTo now (l.take (k + 1)) = totTo now (l.take k) + if now < r.at_ then 0 else r.amount := by
        rw [List.take_add_one, hr, totTo_append]
        simp [totTo]
      have hok1 : OkL (l.take k) := hOK.sub fun x hx => List.mem_of_mem_take hx
      have hok2 : OkL (l.take (k + 1)) := hOK.sub fun x hx => List.mem_of_mem_take hx
      have hs1 := thereV_eq now hok1
      have hs2 := thereV_eq now hok2
      have hbd := (totTo_bd now hok1).1
      rw [hs.out] at hs1
      have HB := Lib.hid (Below.then hb (below_alloc wr (.cells #[vu r.amount, vu r.at_] 61)))
      by_cases ha : now < r.at_
      · have hle : ¬ (r.at_ ≤ now) := by omega
        have HS : Hid (thereV (l.take (k + 1)) now = n) := Lib.hid (by
          rw [hs2, hsn, if_pos ha, Int.add_zero, hs1])
        have HN := Lib.hid hn
        clear hsn hs1 hs2 hbd hr hok hn hb
        go_wp2
        go_roundw
        case rel => exact ⟨k + 1, n, by omega, by go_num, rfl, HN.out, HS, HB.out⟩
        case measure => (simp [intOf]; try omega)
      · have hle : r.at_ ≤ now := by omega
        have HA := Lib.hid (naddSat n r.amount hn hok (wr.alloc (.cells #[vu r.amount, vu r.at_] 61)))
        have hun := hn
        unfold U64 at hn hok
        have hval : thereV (l.take (k + 1)) now = (addP n r.amount).getD 18446744073709551615 := by
          rw [hs2, hsn, if_neg ha, hs1]
          unfold addP
          by_cases hc : 18446744073709551615 < totTo now (l.take k)
          · rw [if_pos hc]
            rw [if_pos (by omega)]
            by_cases hc2 : 18446744073709551615 < 18446744073709551615 + r.amount
            · rw [if_pos hc2]; rfl
            · rw [if_neg hc2]
              simp only [Option.getD_some]
              omega
          · rw [if_neg hc]
            split <;> rfl
        have hu2 : U64 ((addP n r.amount).getD 18446744073709551615) := by
          unfold addP U64
          split
          · simp
          · simp only [Option.getD_some]
            omega
        have HS := Lib.hid hval
        have HU := Lib.hid hu2
        generalize (addP n r.amount).getD 18446744073709551615 = m at *
        clear hsn hs1 hs2 hbd hr hok hn hb hval hu2 hun
        go_wp2_with (go_at_call 75; refine HA.out.mono ?_; rintro e w' ⟨rfl, rfl⟩)
        go_roundw
        case rel => exact ⟨k + 1, m, by omega, by go_num, rfl, HU.out, HS, HB.out⟩
        case measure => (simp [intOf]; try omega)
    · obtain rfl : k = l.length := by omega
      go_wp2
      go_ret
      exact ⟨by rw [← hs.out, List.take_length]; rfl, hb⟩
end Go.Proofs.Ytknodagcmachiaa.Fi
