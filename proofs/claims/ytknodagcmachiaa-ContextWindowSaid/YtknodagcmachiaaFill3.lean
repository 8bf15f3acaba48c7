/-
  Contracts of the reference of layer 7: Same. No statement is proved here.
-/
import Derived.Test.YtknodagcmachiaaFill2
namespace Go.Proofs.Ytknodagcmachiaa.Fi
open Go.RowKit
set_option linter.unusedVariables false

set_option maxRecDepth 100000 in
/-- Two lists are the same: the reference says so. -/
theorem rsame_yes (l : List Rf) (v u : Value) (w : World) (h : RdF w v l) (h' : RdF w u l) (hl : l.length ≤ 1000000) :
    Calls Try.prog 57 #[v, u] w fun e w' => e = .returned (.bool true) ∧ ∃ k, w' = w.drewN k := by
  obtain ⟨ao, cap, rfl⟩ := h.rd.len
  obtain ⟨bo, bcap, rfl⟩ := h'.rd.len
  go_enter Try.func57, Try.ntmps57
  go_wp2
  go_loopw [5] (fun i wr => ∃ (k n : Nat), k ≤ l.length ∧ i = vi k ∧ wr = w.drewN n) (fun i _ => l.length - (intOf i).toNat)
  case atStart => exact ⟨0, 0, Nat.zero_le _, rfl, rfl⟩
  case round =>
    obtain ⟨k, n, hk, rfl, rfl⟩ := hrel
    by_cases hlt : k < l.length
    · obtain ⟨r, hr⟩ : ∃ r, l[k]? = some r := ⟨l[k], List.getElem?_eq_getElem hlt⟩
      obtain ⟨b, off, c, hv, hc⟩ := (h.rd.drewN n).pos (by omega)
      cases hv
      obtain ⟨b2, off2, c2, hv2, hc2⟩ := (h'.rd.drewN n).pos (by omega)
      cases hv2
      have c0 := hc (k * 2 + 0) _ (flat_get Rf.len hr rfl)
      have c1 := hc (k * 2 + 1) _ (flat_get Rf.len hr rfl)
      have d0 := hc2 (k * 2 + 0) _ (flat_get Rf.len hr rfl)
      have d1 := hc2 (k * 2 + 1) _ (flat_get Rf.len hr rfl)
      rw [Nat.add_zero] at c0 d0
      rw [← Nat.add_assoc] at c1 d1
      have hkl : (k : Int) < (l.length : Int) := by omega
      clear hc hc2 hr
      generalize hwn : w.drewN n = wn at *
      have HW := Lib.hid hwn
      clear hwn
      go_wp2
      go_quiet (fail)
      go_wp2
      go_roundw
      case rel => exact ⟨k + 1, _, by omega, by go_num, by rw [← HW.out]; exact World.drewN_drewN _ _ _⟩
      case measure => (simp [intOf]; try omega)
    · obtain rfl : k = l.length := by omega
      go_wp2
      go_ret
      exact ⟨rfl, n, rfl⟩
end Go.Proofs.Ytknodagcmachiaa.Fi
