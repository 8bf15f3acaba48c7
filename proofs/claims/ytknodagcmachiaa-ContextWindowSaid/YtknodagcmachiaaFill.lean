/-
  Contracts of the reference of layer 7: Add, Sum; bits.Add64 and num.Add. No statement is proved here.
-/
import Derived.Test.YtknodagcmachiaaProg
import Derived.Test.YtknodagcmachiaaFlat
namespace Go.Proofs.Ytknodagcmachiaa.Fi
open Go.RowKit
set_option linter.unusedVariables false

abbrev vi (x : Int) : Value := .int .i64 x
abbrev vu (x : Int) : Value := .int .u64 x
structure Rf where
  amount : Int
  at_ : Int
def Rf.cells (r : Rf) : List Value := [vu r.amount, vu r.at_]
theorem Rf.len (r : Rf) : r.cells.length = 2 := rfl
abbrev rflat (l : List Rf) : List Value := l.flatMap Rf.cells
def U64 (x : Int) : Prop := 0 ≤ x ∧ x ≤ 18446744073709551615
/-- A list that can be read: its numbers are such as may be. -/
structure RdF (w : World) (v : Value) (l : List Rf) : Prop where
  rd : Rd w 2 v l.length (rflat l)
  ok : ∀ r ∈ l, U64 r.amount ∧ U64 r.at_

def addP (a b : Int) : Option Int := if 18446744073709551615 < a + b then none else some (a + b)
def addV (o : Option Int) : Value := match o with | none => .tuple #[vu 0, .bool false] | some s => .tuple #[vu s, .bool true]
def sumP (l : List Rf) : Option Int := l.foldl (fun o r => o.bind fun s => addP s r.amount) (some 0)

theorem radd (a b : Int) (ha : U64 a) (hb : U64 b) (w : World) :
    Calls Try.prog 55 #[vu a, vu b] w fun e w' => e = .returned (addV (addP a b)) ∧ w = w' := by
  obtain ⟨a1, a2⟩ := ha
  obtain ⟨b1, b2⟩ := hb
  have hw1 : IntKind.u64.wrap (18446744073709551615 - b) = 18446744073709551615 - b := IntWalk.u64_in _ (by omega)
  unfold addP
  by_cases h : 18446744073709551615 < a + b
  · rw [if_pos h]
    have h1 : 18446744073709551615 - b < a := by omega
    have H := Lib.hid h
    clear h
    go_enter Try.func55, Try.ntmps55
    go_wp2
    go_ret2
    exact ⟨rfl, rfl⟩
  · rw [if_neg h]
    have h1 : ¬ (18446744073709551615 - b < a) := by omega
    have hw2 : IntKind.u64.wrap (a + b) = a + b := IntWalk.u64_in _ (by omega)
    clear h
    go_enter Try.func55, Try.ntmps55
    go_wp2
    go_ret2
    exact ⟨rfl, rfl⟩

theorem sumP_snoc (l : List Rf) (k : Nat) {r : Rf} (h : l[k]? = some r) : sumP (l.take (k + 1)) = (sumP (l.take k)).bind fun s => addP s r.amount := by
  rw [sumP, List.take_add_one, h, List.foldl_append]
  rfl
theorem sumP_none (l : List Rf) (k : Nat) (h : sumP (l.take k) = none) : sumP l = none := by
  have e : sumP l = (l.drop k).foldl (fun o r => o.bind fun s => addP s r.amount) (sumP (l.take k)) := by
    conv => lhs; rw [← List.take_append_drop k l, sumP, List.foldl_append]
    rfl
  rw [e, h]
  generalize l.drop k = m
  induction m with
  | nil => rfl
  | cons r m ih => simpa using ih
theorem addP_u64 {a b s : Int} (ha : U64 a) (hb : U64 b) (h : addP a b = some s) : U64 s := by
  unfold addP at h
  split at h
  · cases h
  · cases h
    unfold U64 at *
    omega

set_option maxRecDepth 100000 in
theorem rsum (l : List Rf) (v : Value) (w : World) (h : RdF w v l) (hl : l.length ≤ 1000000) :
    Calls Try.prog 20 #[v] w fun e w' => e = .returned (addV (sumP l)) ∧ w = w' := by
  obtain ⟨ao, cap, rfl⟩ := h.rd.len
  go_enter Try.func20, Try.ntmps20
  go_wp2
  go_loop [4, 5, 6] (fun s b i => ∃ (k : Nat) (n : Int), k ≤ l.length ∧ i = vi k ∧ s = vu n ∧ U64 n ∧ Hid (sumP (l.take k) = some n)) (fun _ _ i => l.length - (intOf i).toNat)
  case atStart => exact ⟨0, 0, Nat.zero_le _, rfl, rfl, ⟨by omega, by omega⟩, Lib.hid rfl⟩
  case round =>
    obtain ⟨k, n, hk, rfl, rfl, hn, hs⟩ := hrel
    by_cases hlt : k < l.length
    · obtain ⟨r, hr⟩ : ∃ r, l[k]? = some r := ⟨l[k], List.getElem?_eq_getElem hlt⟩
      obtain ⟨b, off, c, hv, hc⟩ := h.rd.pos (by omega)
      cases hv
      have c0 := hc (k * 2 + 0) _ (flat_get Rf.len hr rfl)
      rw [Nat.add_zero] at c0
      have hkl : (k : Int) < (l.length : Int) := by omega
      have hok := (h.ok r (List.mem_of_getElem? hr)).1
      have hsn := sumP_snoc l k hr
      rw [hs.out] at hsn
      have HS := Lib.hid hsn
      have HA := Lib.hid (radd n r.amount hn hok w)
      have HN := Lib.hid hn
      have HO := Lib.hid hok
      clear hc hr hsn hn hok
      cases hp : addP n r.amount with
      | none =>
        have HP := Lib.hid hp
        rw [hp] at HA
        have HB : Hid (Calls Try.prog 55 #[vu n, vu r.amount] w fun e w' => e = .returned (.tuple #[vu 0, .bool false]) ∧ w = w') := HA
        clear hp
        go_wp2_with (go_at_call 55; refine HB.out.mono ?_; rintro e w' ⟨rfl, rfl⟩)
        go_ret2
        exact ⟨by rw [sumP_none l (k + 1) (by rw [HS.out]; exact HP.out)]; rfl, rfl⟩
      | some m =>
        have HP := Lib.hid hp
        rw [hp] at HA
        have HB : Hid (Calls Try.prog 55 #[vu n, vu r.amount] w fun e w' => e = .returned (.tuple #[vu m, .bool true]) ∧ w = w') := HA
        clear hp
        go_wp2_with (go_at_call 55; refine HB.out.mono ?_; rintro e w' ⟨rfl, rfl⟩)
        go_round
        case rel => exact ⟨k + 1, m, by omega, by go_num, rfl, addP_u64 HN.out HO.out HP.out, Lib.hid (by rw [HS.out]; exact HP.out)⟩
        case measure => (simp [intOf]; try omega)
    · obtain rfl : k = l.length := by omega
      go_wp2
      go_ret2
      exact ⟨by rw [← List.take_length (l := l), hs.out]; rfl, rfl⟩
end Go.Proofs.Ytknodagcmachiaa.Fi
