/-
  Chapter 05: who may run where: the reference's May. No statement is proved here.
-/
import Derived.Test.YtjlgdepneipgnaaRq12
namespace Go.Proofs.Ytjlgdepneipgnaa.Rq
open Go.RowKit
set_option linter.unusedVariables false

/-- Affinities, as they are read. -/
def RdA (w : World) (v : Value) (af : List Nat) : Prop := Rd w 1 v af.length (af.map fun a : Nat => Value.int .u8 a) ∧ ∀ a ∈ af, a < 256
/-- May g run on p? -/
def mayG (af : List Nat) (p : Int) (g : Int) : Bool := decide (0 ≤ g ∧ g < af.length) && hasB (af[g.toNat]?.getD 0) p
section
variable {w : World} {v : Value} {af : List Nat} {p g : Int}
theorem r_may_no (h : RdA w v af) (hg : g < 0 ∨ (af.length : Int) ≤ g) :
    Calls Try.prog 24 #[vi g, vi p, v] w fun e w' => e = .returned (.bool (mayG af p g)) ∧ w = w' := by
  rw [show mayG af p g = false by rw [mayG, decide_eq_false (by omega)]; rfl]
  obtain ⟨ao, cap, rfl⟩ := Rd.len h.1
  clear h
  by_cases h1 : g < 0
  · have h2 : ¬ 0 ≤ g := by omega
    clear hg h1
    go_enter Try.func24, Try.ntmps24
    go_wp2
    go_ret
    exact ⟨by simp, rfl⟩
  · have h2 : 0 ≤ g := by omega
    have h3 : ¬ g < (af.length : Int) := by omega
    clear hg h1
    go_enter Try.func24, Try.ntmps24
    go_wp2
    go_ret
    exact ⟨by simp, rfl⟩
theorem r_may_at (h : RdA w v af) (k : Nat) (hk : k < af.length) :
    Calls Try.prog 24 #[vi k, vi p, v] w fun e w' => e = .returned (.bool (mayG af p k)) ∧ w = w' := by
  obtain ⟨a, ha⟩ : ∃ a, af[k]? = some a := ⟨af[k], List.getElem?_eq_getElem hk⟩
  rw [show mayG af p k = hasB a p by rw [mayG, decide_eq_true (by omega), Int.toNat_natCast, ha]; rfl]
  have hab := h.2 a (List.mem_of_getElem? ha)
  obtain ⟨b, off, cap, rfl, hc⟩ : ∃ b off cap, v = .slice (some ⟨b, off, none⟩) af.length cap ∧ w.cell? ⟨b, off + k, none⟩ = some (.int .u8 a) := by
    rcases h.1.2 with ⟨h0, _⟩ | ⟨b, off, cap, hv, hc⟩
    · omega
    · exact ⟨b, off, cap, hv, hc k _ (by rw [List.getElem?_map, ha]; rfl)⟩
  have H := Lib.hid (ref_has1 a hab p w)
  have hki : (k : Int) < (af.length : Int) := by omega
  clear h ha
  go_enter Try.func24, Try.ntmps24
  go_wp2_with (go_at_call 61; refine H.out.mono ?_; rintro e w' ⟨rfl, rfl⟩)
  go_ret
  exact ⟨rfl, rfl⟩
theorem r_may (h : RdA w v af) :
    Calls Try.prog 24 #[vi g, vi p, v] w fun e w' => e = .returned (.bool (mayG af p g)) ∧ w = w' := by
  by_cases hg : g < 0 ∨ (af.length : Int) ≤ g
  · exact r_may_no h hg
  · obtain ⟨k, rfl⟩ := Int.eq_ofNat_of_zero_le (show 0 ≤ g by omega)
    exact r_may_at h k (by omega)
end
end Go.Proofs.Ytjlgdepneipgnaa.Rq
