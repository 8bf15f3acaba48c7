/-
  Chapter 05: no queue; known; the walk of RunqNil. No statement is proved here.
-/
import Derived.Test.YtjgemfgneiaabaaRq1
import Derived.WalkMore
namespace Go.Proofs.Ytjgemfgneiaabaa.Rq
open Go.RowKit
set_option linter.unusedVariables false

def TrueBelow (w0 : World) (e : Ending) (w' : World) : Prop := e = .returned (.bool true) ∧ Below w0.heap.size w0 w'
/-- There is no queue: nil, or a zero one. -/
def NoQ (w : World) (v : Value) : Prop := v = .pointer none ∨ ∃ z, v = vp z ∧ w.cell? ⟨z, 0, none⟩ = some (.pointer none)
theorem NoQ.nil (w : World) : NoQ w (.pointer none) := .inl rfl
theorem cell_lt {w : World} {a : Addr} {v : Value} (h : w.cell? a = some v) : a.block < w.heap.size := World.block_lt_of_cell? w _ h
theorem NoQ.below {w w' : World} {v : Value} (h : NoQ w v) (hb : Below w.heap.size w w') : NoQ w' v := by
  rcases h with h | ⟨z, rfl, hz⟩
  · exact .inl h
  · exact .inr ⟨z, rfl, (hb.cell (cell_lt hz)).trans hz⟩

section
variable {w : World} {v : Value}
end

section
variable {w0 w : World} {F : Hp}
theorem kn_put1 {q r : Nat} (h : Sat w0 (quB q r 0 false * (ringP r 2 [] * F)) w) : Calls Try.prog 28 #[vp q, vi 1] w fun e w' => ∃ v, e = .returned v ∧ Sat w0 (quB q r 0 false * (ringP r 2 [1] * F)) w' := (q_put h 1).mono fun e w' ⟨v, h1, h2⟩ => ⟨v, h1, h2.dropL⟩
theorem kn_put2 {q r : Nat} (h : Sat w0 (quB q r 0 false * (ringP r 2 [1] * F)) w) : Calls Try.prog 28 #[vp q, vi 2] w fun e w' => ∃ v, e = .returned v ∧ Sat w0 (quB q r 0 false * (ringP r 2 [1, 2] * F)) w' := (q_put h 2).mono fun e w' ⟨v, h1, h2⟩ => ⟨v, h1, h2.dropL⟩
theorem kn_put3 {q r : Nat} (h : Sat w0 (quB q r 0 false * (ringP r 2 [1, 2] * F)) w) : Calls Try.prog 28 #[vp q, vi 3] w fun e w' => ∃ v, e = .returned v ∧ Sat w0 (sl 3 1 v 2 [vi 1, vi 3] * (quB q r 0 false * (ringP r 2 [2] * F))) w' := (q_put h 3).mono fun e w' ⟨v, h1, h2⟩ => ⟨v, h1, h2⟩
theorem kn_next1 {q r : Nat} (h : Sat w0 (quB q r 0 false * (ringP r 2 [2] * F)) w) : Calls Try.prog 24 #[vp q, vi 1] w fun e w' => ∃ v, e = .returned v ∧ Sat w0 (quB q r 1 true * (ringP r 2 [2] * F)) w' := (q_putnext h 1).mono fun e w' ⟨v, h1, h2⟩ => ⟨v, h1, h2.dropL⟩
theorem kn_next4 {q r : Nat} (h : Sat w0 (quB q r 1 true * (ringP r 2 [2] * F)) w) : Calls Try.prog 24 #[vp q, vi 4] w fun e w' => ∃ v, e = .returned v ∧ Sat w0 (quB q r 4 true * (ringP r 2 [2, 1] * F)) w' := (q_putnext h 4).mono fun e w' ⟨v, h1, h2⟩ => ⟨v, h1, h2.dropL⟩
end
end Go.Proofs.Ytjgemfgneiaabaa.Rq

namespace Go.Proofs.Ytjgemfgneiaabaa.Rq
open Go.RowKit
set_option linter.unusedVariables false

section
variable {w0 w : World} {F : Hp} {q m : Nat} {vL vN : Value} {xs : List Int}
end
end Go.Proofs.Ytjgemfgneiaabaa.Rq

namespace Go.Proofs.Ytjgemfgneiaabaa.Rq
open Go.RowKit
set_option linter.unusedVariables false

section
variable {w0 w : World} {F : Hp} {q m : Nat} {vL vN : Value} {xs : List Int}
def nsOf (z : Int) (b : Bool) : List Int := if b then [z] else []
theorem Sat.rsOne {b : Nat} {x : Value} {T : TypeId} (h : Sat w0 (pc b T [x] * F) w) : Sat w0 (rs T (.slice (some ⟨b, 0, none⟩) 1 1) [x] * F) w :=
  h.rsI (xs := [x]) (off := 0) (cap := 1) (Nat.le_refl _) (by unfold maxLen; omega) (fun j u hj => by rw [Nat.zero_add]; exact hj)
theorem Sat.drop5 {A B C D E G : Hp} (h : Sat w0 (A * (B * (C * (D * (E * G))))) w) : Sat w0 (A * (B * (C * (D * G)))) w :=
  Sat.dropL (A := E) (h.cast (by ac_rfl))
end
end Go.Proofs.Ytjgemfgneiaabaa.Rq

namespace Go.Proofs.Ytjgemfgneiaabaa.Rq
open Go.RowKit
set_option linter.unusedVariables false

section
variable {w0 w : World} {F : Hp} {q m : Nat} {vL vN : Value} {xs : List Int} {z : Int} {b : Bool}
theorem ns_mem (z : Int) (b : Bool) (g : Int) : g ∈ nsOf z b ↔ b = true ∧ z = g := by
  cases b with
  | false => simp [nsOf]
  | true => simp [nsOf, eq_comm]
theorem find_yes {ys : List Int} {g : Int} (h : g ∈ ys) : 0 ≤ findI ys g := by
  unfold findI
  rw [if_pos h]
  omega
theorem find_not {ys : List Int} {g : Int} (h : g ∉ ys) : findI ys g = -1 := by
  unfold findI
  rw [if_neg h]
theorem rsRdI {w' : World} {G : Hp} {v : Value} {ys : List Int} (h : Sat w0 (rs 3 v (ys.map vi) * G) w') : RdI w' v ys := by
  have := h.rsRd
  rw [List.length_map] at this
  exact this
end
end Go.Proofs.Ytjgemfgneiaabaa.Rq

namespace Go.Proofs.Ytjgemfgneiaabaa.Rq
open Go.RowKit
set_option linter.unusedVariables false

section
variable {w0 w : World} {F : Hp} {q r m : Nat} {vL vN : Value} {xs : List Int} {z : Int} {b : Bool}
end
end Go.Proofs.Ytjgemfgneiaabaa.Rq

namespace Go.Proofs.Ytjgemfgneiaabaa.Rq
open Go.RowKit
set_option linter.unusedVariables false

section
variable {w0 w : World} {F : Hp} {q r m : Nat} {vL vN : Value} {xs : List Int} {z : Int} {b : Bool}
theorem rsTail {T : TypeId} {g off cap n : Nat} {y : Value} {ys : List Value} (h : Sat w0 (rs T (.slice (some ⟨g, off, none⟩) n cap) (y :: ys) * F) w) (o : Nat) (ho : o = off + 1 ∨ ys = []) :
    Sat w0 (rs T (.slice (some ⟨g, o, none⟩) ys.length (cap - 1)) ys * F) w := by
  rcases h.rsE with ⟨_, h0, _⟩ | ⟨g', off', cap', cur, hv, h1, h2, hS, hc⟩
  · cases h0
  · cases hv
    simp only [List.length_cons] at h1
    refine hS.rsI (by omega) (by omega) fun j u hj => ?_
    rcases ho with rfl | rfl
    · have := hc (j + 1) u (by simpa using hj)
      rw [show off + 1 + j = off + (j + 1) by omega]
      exact this
    · simp at hj
theorem rsForm {T : TypeId} {v y : Value} {ys : List Value} (h : Sat w0 (rs T v (y :: ys) * F) w) : ∃ g off cap, v = .slice (some ⟨g, off, none⟩) (ys.length + 1) cap ∧ ys.length + 1 ≤ cap := by
  rcases h.rsE with ⟨_, h0, _⟩ | ⟨g', off', cap', cur, hv, h1, h2, hS, hc⟩
  · cases h0
  · exact ⟨g', off', cap', hv, h1⟩
end
end Go.Proofs.Ytjgemfgneiaabaa.Rq

namespace Go.Proofs.Ytjgemfgneiaabaa.Rq
open Go.RowKit
set_option linter.unusedVariables false

section
variable {w0 w : World} {F : Hp} {q r m : Nat} {vL vN : Value} {xs : List Int} {z : Int} {b : Bool}
theorem putL_cons (hl : xs.length ≤ m) (hm1 : 2 ≤ m) (z : Int) : ∃ x t, putL m xs z = x :: t ∧ t.length ≤ m := by
  have hlen : 1 ≤ (putL m xs z).length ∧ (putL m xs z).length ≤ m + 1 := by
    unfold putL
    split
    · simp; omega
    · rw [List.length_drop]; omega
  cases hp : putL m xs z with
  | nil => rw [hp] at hlen; simp at hlen
  | cons x t => rw [hp] at hlen; exact ⟨x, t, rfl, by simp at hlen; omega⟩
end
end Go.Proofs.Ytjgemfgneiaabaa.Rq

namespace Go.Proofs.Ytjgemfgneiaabaa.Rq
open Go.RowKit
set_option linter.unusedVariables false

end Go.Proofs.Ytjgemfgneiaabaa.Rq

namespace Go.Proofs.Ytjgemfgneiaabaa.Rq
open Go.RowKit
set_option linter.unusedVariables false

theorem bit_out (p : Int) (hp : p < 0 ∨ 7 < p) (w : World) :
    Calls Try.prog 55 #[vi p] w fun e w' => e = .returned (.int .u8 0) ∧ w = w' := by
  rcases hp with h | h
  · go_enter Try.func55, Try.ntmps55
    go_wp2
    go_ret
    exact ⟨rfl, rfl⟩
  · have h2 : ¬ p < 0 := by omega
    go_enter Try.func55, Try.ntmps55
    go_wp2
    go_ret
    exact ⟨rfl, rfl⟩
theorem bit_in (p : Nat) (hp : p ≤ 7) (w : World) :
    Calls Try.prog 55 #[vi p] w fun e w' => e = .returned (.int .u8 (2 ^ p : Nat)) ∧ w = w' := by
  rcases (show p = 0 ∨ p = 1 ∨ p = 2 ∨ p = 3 ∨ p = 4 ∨ p = 5 ∨ p = 6 ∨ p = 7 by omega) with rfl | rfl | rfl | rfl | rfl | rfl | rfl | rfl
  all_goals
    go_enter Try.func55, Try.ntmps55
    go_wp2
    go_ret
    exact ⟨by rfl, rfl⟩
end Go.Proofs.Ytjgemfgneiaabaa.Rq

namespace Go.Proofs.Ytjgemfgneiaabaa.Rq
open Go.RowKit
set_option linter.unusedVariables false

/-- Is p in the set s? -/
def hasB (s : Nat) (p : Int) : Bool := decide (0 ≤ p ∧ p ≤ 7) && s.testBit p.toNat
theorem bits_has : ∀ s : Fin 256, ∀ p : Fin 8, (bits BinOp.and IntKind.u8 (s.val : Int) ((2 : Int) ^ p.val) != 0) = s.val.testBit p.val := by decide +kernel
theorem bits_zero : ∀ s : Fin 256, bits BinOp.and IntKind.u8 (s.val : Int) 0 = 0 := by decide +kernel
theorem nhas_out (s : Nat) (hs : s < 256) (p : Int) (hp : p < 0 ∨ 7 < p) (w : World) :
    Calls Try.prog 23 #[.int .u8 s, vi p] w fun e w' => e = .returned (.bool (hasB s p)) ∧ w = w' := by
  rw [show hasB s p = false by rw [hasB, decide_eq_false (by omega)]; rfl]
  have H := Lib.hid (bit_out p hp w)
  have hb : bits BinOp.and IntKind.u8 (s : Int) 0 = 0 := bits_zero ⟨s, hs⟩
  go_enter Try.func23, Try.ntmps23
  go_wp2_with (go_at_call 55; refine H.out.mono ?_; rintro e w' ⟨rfl, rfl⟩)
  go_ret
  exact ⟨by simp, rfl⟩
theorem nhas_in (s : Nat) (hs : s < 256) (p : Nat) (hp : p ≤ 7) (w : World) :
    Calls Try.prog 23 #[.int .u8 s, vi p] w fun e w' => e = .returned (.bool (hasB s p)) ∧ w = w' := by
  have H := Lib.hid (bit_in p hp w)
  go_enter Try.func23, Try.ntmps23
  go_wp2_with (go_at_call 55; refine H.out.mono ?_; rintro e w' ⟨rfl, rfl⟩)
  go_ret
  refine ⟨?_, rfl⟩
  have e : hasB s p = (bits BinOp.and IntKind.u8 (s : Int) ((2 : Int) ^ p) != 0) := by
    rw [hasB, decide_eq_true (by omega)]
    exact (bits_has ⟨s, hs⟩ ⟨p, by omega⟩).symm
  rw [e]
  rfl
theorem num_has (s : Nat) (hs : s < 256) (p : Int) (w : World) :
    Calls Try.prog 23 #[.int .u8 s, vi p] w fun e w' => e = .returned (.bool (hasB s p)) ∧ w = w' := by
  by_cases h : p < 0 ∨ 7 < p
  · exact nhas_out s hs p h w
  · obtain ⟨k, rfl⟩ := Int.eq_ofNat_of_zero_le (show 0 ≤ p by omega)
    exact nhas_in s hs k (by omega) w
end Go.Proofs.Ytjgemfgneiaabaa.Rq

namespace Go.Proofs.Ytjgemfgneiaabaa.Rq
open Go.RowKit
set_option linter.unusedVariables false

end Go.Proofs.Ytjgemfgneiaabaa.Rq

namespace Go.Proofs.Ytjgemfgneiaabaa.Rq
open Go.RowKit
set_option linter.unusedVariables false

/-- Affinities, as they are read. -/
def RdA (w : World) (v : Value) (af : List Nat) : Prop := Rd w 1 v af.length (af.map fun a : Nat => Value.int .u8 a) ∧ ∀ a ∈ af, a < 256
/-- May g run on p? -/
def mayG (af : List Nat) (p : Int) (g : Int) : Bool := decide (0 ≤ g ∧ g < af.length) && hasB (af[g.toNat]?.getD 0) p
section
variable {w : World} {v : Value} {af : List Nat} {p g : Int}
end
end Go.Proofs.Ytjgemfgneiaabaa.Rq
