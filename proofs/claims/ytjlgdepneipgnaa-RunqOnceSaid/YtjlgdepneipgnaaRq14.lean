/-
  Chapter 05: who may run where: the closure in Steal. No statement is proved here.
-/
import Derived.Test.YtjlgdepneipgnaaRq13
namespace Go.Proofs.Ytjlgdepneipgnaa.Rq
open Go.RowKit
set_option linter.unusedVariables false

section
variable {w : World} {v : Value} {af : List Nat} {p g : Int} {ba bp : Nat}
theorem clo_no (ha : w.cell? ⟨ba, 0, none⟩ = some v) (hp : w.cell? ⟨bp, 0, none⟩ = some (vi p)) (h : RdA w v af) (hg : g < 0 ∨ (af.length : Int) ≤ g) :
    Calls Try.prog 57 #[vi g, .pointer (some ⟨ba, 0, none⟩), .pointer (some ⟨bp, 0, none⟩)] w fun e w' => e = .returned (.bool (mayG af p g)) ∧ ∃ n, w' = w.drewN n := by
  rw [show mayG af p g = false by rw [mayG, decide_eq_false (by omega)]; rfl]
  obtain ⟨ao, cap, rfl⟩ := Rd.len h.1
  clear h
  by_cases h1 : g < 0
  · have h2 : decide (0 ≤ g) = false := decide_eq_false (by omega)
    clear hg h1
    go_enter Try.func57, Try.ntmps57
    go_wp2
    go_quiet (fail)
    go_wp2
    go_ret
    exact ⟨by simp, _, rfl⟩
  · have h2 : decide (0 ≤ g) = true := decide_eq_true (by omega)
    have h3 : decide (g < (af.length : Int)) = false := decide_eq_false (by omega)
    clear hg h1
    go_enter Try.func57, Try.ntmps57
    go_wp2
    go_quiet (fail)
    go_wp2
    go_ret
    exact ⟨by simp, _, rfl⟩
theorem clo_at (ha : w.cell? ⟨ba, 0, none⟩ = some v) (hp : w.cell? ⟨bp, 0, none⟩ = some (vi p)) (h : RdA w v af) (k : Nat) (hk : k < af.length) :
    Calls Try.prog 57 #[vi k, .pointer (some ⟨ba, 0, none⟩), .pointer (some ⟨bp, 0, none⟩)] w fun e w' => e = .returned (.bool (mayG af p k)) ∧ ∃ n, w' = w.drewN n := by
  obtain ⟨a, hka⟩ : ∃ a, af[k]? = some a := ⟨af[k], List.getElem?_eq_getElem hk⟩
  rw [show mayG af p k = hasB a p by rw [mayG, decide_eq_true (by omega), Int.toNat_natCast, hka]; rfl]
  have hab := h.2 a (List.mem_of_getElem? hka)
  obtain ⟨b, off, cap, rfl, hc⟩ : ∃ b off cap, v = .slice (some ⟨b, off, none⟩) af.length cap ∧ w.cell? ⟨b, off + k, none⟩ = some (.int .u8 a) := by
    rcases h.1.2 with ⟨h0, _⟩ | ⟨b, off, cap, hv, hc⟩
    · omega
    · exact ⟨b, off, cap, hv, hc k _ (by rw [List.getElem?_map, hka]; rfl)⟩
  have hki : (k : Int) < (af.length : Int) := by omega
  have hkd : decide (k < af.length) = true := decide_eq_true hk
  clear h hka
  go_enter Try.func57, Try.ntmps57
  go_wp2
  go_quiet ((go_at_call 58; exact Calls.quiet_of_same ((num_has a hab p _).mono fun _ _ h => ⟨h.1, h.2.symm⟩)))
  go_wp2
  go_ret
  exact ⟨rfl, _, rfl⟩
theorem clo_ (ha : w.cell? ⟨ba, 0, none⟩ = some v) (hp : w.cell? ⟨bp, 0, none⟩ = some (vi p)) (h : RdA w v af) :
    Calls Try.prog 57 #[vi g, .pointer (some ⟨ba, 0, none⟩), .pointer (some ⟨bp, 0, none⟩)] w fun e w' => e = .returned (.bool (mayG af p g)) ∧ ∃ n, w' = w.drewN n := by
  by_cases hg : g < 0 ∨ (af.length : Int) ≤ g
  · exact clo_no ha hp h hg
  · obtain ⟨k, rfl⟩ := Int.eq_ofNat_of_zero_le (show 0 ≤ g by omega)
    exact clo_at ha hp h k (by omega)
end
end Go.Proofs.Ytjlgdepneipgnaa.Rq
