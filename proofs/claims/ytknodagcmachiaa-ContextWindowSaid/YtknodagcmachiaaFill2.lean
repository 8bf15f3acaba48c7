/-
  Contracts of the reference of layer 7: There. No statement is proved here.
-/
import Derived.Test.YtknodagcmachiaaFill
namespace Go.Proofs.Ytknodagcmachiaa.Fi
open Go.RowKit
set_option linter.unusedVariables false

def thF (now : Int) (o : Option Int) (r : Rf) : Option Int := if now < r.at_ then o else o.bind fun s => addP s r.amount
def thereP (l : List Rf) (now : Int) : Option Int := l.foldl (thF now) (some 0)
def thereV (l : List Rf) (now : Int) : Int := (thereP l now).getD 18446744073709551615
theorem thereP_snoc (l : List Rf) (now : Int) (k : Nat) {r : Rf} (h : l[k]? = some r) : thereP (l.take (k + 1)) now = thF now (thereP (l.take k) now) r := by
  rw [thereP, List.take_add_one, h, List.foldl_append]
  rfl
theorem thereP_none (l : List Rf) (now : Int) (k : Nat) (h : thereP (l.take k) now = none) : thereP l now = none := by
  have e : thereP l now = (l.drop k).foldl (thF now) (thereP (l.take k) now) := by
    conv => lhs; rw [← List.take_append_drop k l, thereP, List.foldl_append]
    rfl
  rw [e, h]
  generalize l.drop k = m
  induction m with
  | nil => rfl
  | cons r m ih => simpa [thF] using ih

set_option maxRecDepth 100000 in
theorem rthere (l : List Rf) (now : Int) (v : Value) (w : World) (h : RdF w v l) (hl : l.length ≤ 1000000) :
    Calls Try.prog 87 #[v, vu now] w fun e w' => e = .returned (vu (thereV l now)) ∧ w = w' := by
  obtain ⟨ao, cap, rfl⟩ := h.rd.len
  go_enter Try.func87, Try.ntmps87
  go_wp2
  go_loop [5, 6] (fun s i => ∃ (k : Nat) (n : Int), k ≤ l.length ∧ i = vi k ∧ s = vu n ∧ U64 n ∧ Hid (thereP (l.take k) now = some n)) (fun _ i => l.length - (intOf i).toNat)
  case atStart => exact ⟨0, 0, Nat.zero_le _, rfl, rfl, ⟨by omega, by omega⟩, Lib.hid rfl⟩
  case round =>
    obtain ⟨k, n, hk, rfl, rfl, hn, hs⟩ := hrel
    by_cases hlt : k < l.length
    · obtain ⟨r, hr⟩ : ∃ r, l[k]? = some r := ⟨l[k], List.getElem?_eq_getElem hlt⟩
      obtain ⟨b, off, c, hv, hc⟩ := h.rd.pos (by omega)
      cases hv
      have c0 := hc (k * 2 + 0) _ (flat_get Rf.len hr rfl)
      have c1 := hc (k * 2 + 1) _ (flat_get Rf.len hr rfl)
      rw [Nat.add_zero] at c0
      rw [← Nat.add_assoc] at c1
      have hkl : (k : Int) < (l.length : Int) := by omega
      have hok := (h.ok r (List.mem_of_getElem? hr)).1
      have hsn := thereP_snoc l now k hr
      rw [hs.out, thF] at hsn
      have HA := Lib.hid (radd n r.amount hn hok w)
      have HN := Lib.hid hn
      have HO := Lib.hid hok
      clear hc hr hn hok
      by_cases ha : now < r.at_
      · rw [if_pos ha] at hsn
        have HS := Lib.hid hsn
        clear hsn
        go_wp2
        go_round
        case rel => exact ⟨k + 1, n, by omega, by go_num, rfl, HN.out, Lib.hid HS.out⟩
        case measure => (simp [intOf]; try omega)
      · rw [if_neg ha] at hsn
        have HS := Lib.hid hsn
        clear hsn
        cases hp : addP n r.amount with
        | none =>
          have HP := Lib.hid hp
          rw [hp] at HA
          have HB : Hid (Calls Try.prog 55 #[vu n, vu r.amount] w fun e w' => e = .returned (.tuple #[vu 0, .bool false]) ∧ w = w') := HA
          clear hp
          go_wp2_with (go_at_call 55; refine HB.out.mono ?_; rintro e w' ⟨rfl, rfl⟩)
          go_ret
          exact ⟨by rw [thereV, thereP_none l now (k + 1) (by rw [HS.out]; exact HP.out)]; rfl, rfl⟩
        | some m =>
          have HP := Lib.hid hp
          rw [hp] at HA
          have HB : Hid (Calls Try.prog 55 #[vu n, vu r.amount] w fun e w' => e = .returned (.tuple #[vu m, .bool true]) ∧ w = w') := HA
          clear hp
          go_wp2_with (go_at_call 55; refine HB.out.mono ?_; rintro e w' ⟨rfl, rfl⟩)
          go_round
          case rel => exact ⟨k + 1, m, by omega, by go_num, rfl, addP_u64 HN.out HO.out HP.out, Lib.hid (by rw [HS.out]; exact HP.out)⟩
          case measure => (simp [intOf]; try omega)
    · obtain rfl : k = l.length := by omega
      go_wp2
      go_ret
      exact ⟨by rw [thereV, ← List.take_length (l := l), hs.out]; rfl, rfl⟩
end Go.Proofs.Ytknodagcmachiaa.Fi
