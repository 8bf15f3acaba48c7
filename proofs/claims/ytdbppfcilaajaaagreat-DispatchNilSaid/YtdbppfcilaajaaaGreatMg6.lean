/-
  Chapter 05: no queue; known; the walk of RunqNil. No statement is proved here.
-/
import Derived.Test.YtdbppfcilaajaaaGreatMg5
import Derived.WalkMore
import Derived.Test.YtdbppfcilaajaaaGreatMg1
import Derived.ProofKit
import Derived.OpenShut
import Derived.ChangeOld
import Derived.ChangeSame
import Derived.Deep.Slices
import Derived.Deep.Fields
namespace Go.Proofs.YtdbppfcilaajaaaGreat.Rq
open Go.RowKit
set_option linter.unusedVariables false

/-- There is no queue: nil, or a zero one. -/
def NoQ (w : World) (v : Value) : Prop := v = .pointer none ∨ ∃ z, v = vp z ∧ w.cell? ⟨z, 0, none⟩ = some (.pointer none)
theorem NoQ.nil (w : World) : NoQ w (.pointer none) := .inl rfl
theorem cell_lt {w : World} {a : Addr} {v : Value} (h : w.cell? a = some v) : a.block < w.heap.size := World.block_lt_of_cell? w _ h
theorem NoQ.below {w w' : World} {v : Value} (h : NoQ w v) (hb : Below w.heap.size w w') : NoQ w' v := by
  rcases h with h | ⟨z, rfl, hz⟩
  · exact .inl h
  · exact .inr ⟨z, rfl, (hb.cell (cell_lt hz)).trans hz⟩

section
variable {w : World} {v : Value}
end

section
variable {w0 w : World} {F : Hp}
end
end Go.Proofs.YtdbppfcilaajaaaGreat.Rq

namespace Go.Proofs.YtdbppfcilaajaaaGreat.Rq
open Go.RowKit
set_option linter.unusedVariables false

/-- The reference's queue: its block. -/
abbrev rqB (q m : Nat) (vL vN : Value) : Hp := pc q 321 [vL, vi m, vN]
section
variable {w0 w : World} {F : Hp} {q m : Nat} {vL vN : Value} {xs : List Int}
end
end Go.Proofs.YtdbppfcilaajaaaGreat.Rq

namespace Go.Proofs.YtdbppfcilaajaaaGreat.Rq
open Go.RowKit
set_option linter.unusedVariables false

section
variable {w0 w : World} {F : Hp} {q m : Nat} {vL vN : Value} {xs : List Int}
def nsOf (z : Int) (b : Bool) : List Int := if b then [z] else []
end
end Go.Proofs.YtdbppfcilaajaaaGreat.Rq

namespace Go.Proofs.YtdbppfcilaajaaaGreat.Rq
open Go.RowKit
set_option linter.unusedVariables false

section
variable {w0 w : World} {F : Hp} {q m : Nat} {vL vN : Value} {xs : List Int} {z : Int} {b : Bool}
theorem find_yes {ys : List Int} {g : Int} (h : g ∈ ys) : 0 ≤ findI ys g := by
  unfold findI
  rw [if_pos h]
  omega
end
end Go.Proofs.YtdbppfcilaajaaaGreat.Rq

namespace Go.Proofs.YtdbppfcilaajaaaGreat.Rq
open Go.RowKit
set_option linter.unusedVariables false

section
variable {w0 w : World} {F : Hp} {q r m : Nat} {vL vN : Value} {xs : List Int} {z : Int} {b : Bool}
end
end Go.Proofs.YtdbppfcilaajaaaGreat.Rq

namespace Go.Proofs.YtdbppfcilaajaaaGreat.Rq
open Go.RowKit
set_option linter.unusedVariables false

section
variable {w0 w : World} {F : Hp} {q r m : Nat} {vL vN : Value} {xs : List Int} {z : Int} {b : Bool}
end
end Go.Proofs.YtdbppfcilaajaaaGreat.Rq

namespace Go.Proofs.YtdbppfcilaajaaaGreat.Rq
open Go.RowKit
set_option linter.unusedVariables false

section
variable {w0 w : World} {F : Hp} {q r m : Nat} {vL vN : Value} {xs : List Int} {z : Int} {b : Bool}
end
end Go.Proofs.YtdbppfcilaajaaaGreat.Rq

namespace Go.Proofs.YtdbppfcilaajaaaGreat.Rq
open Go.RowKit
set_option linter.unusedVariables false

end Go.Proofs.YtdbppfcilaajaaaGreat.Rq

namespace Go.Proofs.YtdbppfcilaajaaaGreat.Rq
open Go.RowKit
set_option linter.unusedVariables false

theorem bit_out (p : Int) (hp : p < 0 ∨ 7 < p) (w : World) :
    Calls Tryz.prog 202 #[vi p] w fun e w' => e = .returned (.int .u8 0) ∧ w = w' := by
  rcases hp with h | h
  · go_enter Tryz.func202, Tryz.ntmps202
    go_wp2
    go_ret
    exact ⟨rfl, rfl⟩
  · have h2 : ¬ p < 0 := by omega
    go_enter Tryz.func202, Tryz.ntmps202
    go_wp2
    go_ret
    exact ⟨rfl, rfl⟩
theorem bit_in (p : Nat) (hp : p ≤ 7) (w : World) :
    Calls Tryz.prog 202 #[vi p] w fun e w' => e = .returned (.int .u8 (2 ^ p : Nat)) ∧ w = w' := by
  rcases (show p = 0 ∨ p = 1 ∨ p = 2 ∨ p = 3 ∨ p = 4 ∨ p = 5 ∨ p = 6 ∨ p = 7 by omega) with rfl | rfl | rfl | rfl | rfl | rfl | rfl | rfl
  all_goals
    go_enter Tryz.func202, Tryz.ntmps202
    go_wp2
    go_ret
    exact ⟨by rfl, rfl⟩
end Go.Proofs.YtdbppfcilaajaaaGreat.Rq

namespace Go.Proofs.YtdbppfcilaajaaaGreat.Rq
open Go.RowKit
set_option linter.unusedVariables false

/-- Is p in the set s? -/
def hasB (s : Nat) (p : Int) : Bool := decide (0 ≤ p ∧ p ≤ 7) && s.testBit p.toNat
theorem bits_has : ∀ s : Fin 256, ∀ p : Fin 8, (bits BinOp.and IntKind.u8 (s.val : Int) ((2 : Int) ^ p.val) != 0) = s.val.testBit p.val := by decide +kernel
theorem bits_zero : ∀ s : Fin 256, bits BinOp.and IntKind.u8 (s.val : Int) 0 = 0 := by decide +kernel
theorem nhas_out (s : Nat) (hs : s < 256) (p : Int) (hp : p < 0 ∨ 7 < p) (w : World) :
    Calls Tryz.prog 151 #[.int .u8 s, vi p] w fun e w' => e = .returned (.bool (hasB s p)) ∧ w = w' := by
  rw [show hasB s p = false by rw [hasB, decide_eq_false (by omega)]; rfl]
  have H := Lib.hid (bit_out p hp w)
  have hb : bits BinOp.and IntKind.u8 (s : Int) 0 = 0 := bits_zero ⟨s, hs⟩
  go_enter Tryz.func151, Tryz.ntmps151
  go_wp2_with (go_at_call 202; refine H.out.mono ?_; rintro e w' ⟨rfl, rfl⟩)
  go_ret
  exact ⟨by simp, rfl⟩
theorem nhas_in (s : Nat) (hs : s < 256) (p : Nat) (hp : p ≤ 7) (w : World) :
    Calls Tryz.prog 151 #[.int .u8 s, vi p] w fun e w' => e = .returned (.bool (hasB s p)) ∧ w = w' := by
  have H := Lib.hid (bit_in p hp w)
  go_enter Tryz.func151, Tryz.ntmps151
  go_wp2_with (go_at_call 202; refine H.out.mono ?_; rintro e w' ⟨rfl, rfl⟩)
  go_ret
  refine ⟨?_, rfl⟩
  have e : hasB s p = (bits BinOp.and IntKind.u8 (s : Int) ((2 : Int) ^ p) != 0) := by
    rw [hasB, decide_eq_true (by omega)]
    exact (bits_has ⟨s, hs⟩ ⟨p, by omega⟩).symm
  rw [e]
  rfl
theorem num_has (s : Nat) (hs : s < 256) (p : Int) (w : World) :
    Calls Tryz.prog 151 #[.int .u8 s, vi p] w fun e w' => e = .returned (.bool (hasB s p)) ∧ w = w' := by
  by_cases h : p < 0 ∨ 7 < p
  · exact nhas_out s hs p h w
  · obtain ⟨k, rfl⟩ := Int.eq_ofNat_of_zero_le (show 0 ≤ p by omega)
    exact nhas_in s hs k (by omega) w
end Go.Proofs.YtdbppfcilaajaaaGreat.Rq

namespace Go.Proofs.YtdbppfcilaajaaaGreat.Rq
open Go.RowKit
set_option linter.unusedVariables false

end Go.Proofs.YtdbppfcilaajaaaGreat.Rq

namespace Go.Proofs.YtdbppfcilaajaaaGreat.Rq
open Go.RowKit
set_option linter.unusedVariables false

/-- Affinities, as they are read. -/
def RdA (w : World) (v : Value) (af : List Nat) : Prop := Rd w 1 v af.length (af.map fun a : Nat => Value.int .u8 a) ∧ ∀ a ∈ af, a < 256
/-- May g run on p? -/
def mayG (af : List Nat) (p : Int) (g : Int) : Bool := decide (0 ≤ g ∧ g < af.length) && hasB (af[g.toNat]?.getD 0) p
section
variable {w : World} {v : Value} {af : List Nat} {p g : Int}
end
end Go.Proofs.YtdbppfcilaajaaaGreat.Rq

namespace Go.Proofs.YtdbppfcilaajaaaGreat.Rq
open Go.RowKit
set_option linter.unusedVariables false

section
variable {w : World} {v : Value} {af : List Nat} {p g : Int} {ba bp : Nat}
end
end Go.Proofs.YtdbppfcilaajaaaGreat.Rq

namespace Go.Proofs.YtdbppfcilaajaaaGreat.Rq
open Go.RowKit
set_option linter.unusedVariables false

section
variable {w0 w : World} {F : Hp} {q m : Nat} {vL vN : Value} {xs : List Int} {z : Int} {b : Bool}
end
end Go.Proofs.YtdbppfcilaajaaaGreat.Rq

namespace Go.Proofs.YtdbppfcilaajaaaGreat.Rq
open Go.RowKit
set_option linter.unusedVariables false

section
variable {w0 w : World} {F : Hp} {q r m : Nat} {z : Int} {b : Bool} {xs : List Int}
end
end Go.Proofs.YtdbppfcilaajaaaGreat.Rq

namespace Go.Proofs.YtdbppfcilaajaaaGreat.Rq
open Go.RowKit
set_option linter.unusedVariables false

section
variable {w0 w : World} {F : Hp}
theorem r_new (n : Nat) (h : Sat w0 F w) :
    Calls Tryz.prog 122 #[vi n] w fun e w' => ∃ q, e = .returned (vp q) ∧ Sat w0 (rqB q n (.slice none 0 0) (.slice none 0 0) * (rs 3 (.slice none 0 0) (([] : List Int).map vi) * (rs 3 (.slice none 0 0) ((nsOf 0 false).map vi) * F))) w' := by
  have h1 := h.alloc (.cells #[.slice none 0 0, vi n, .slice none 0 0] 321)
  have H1 := Lib.hid h1
  clear h h1
  go_enter Tryz.func122, Tryz.ntmps122
  go_wp2
  go_ret
  refine ⟨w.heap.size, rfl, ?_⟩
  have h2 : Sat w0 (rqB w.heap.size n (.slice none 0 0) (.slice none 0 0) * F) _ := H1.out
  exact ((h2.rsNil 3).rsNil 3).pull3
end
end Go.Proofs.YtdbppfcilaajaaaGreat.Rq

namespace Go.Proofs.YtdbppfcilaajaaaGreat.Rq
open Go.RowKit
set_option linter.unusedVariables false

section
variable {w0 w : World} {F : Hp} {q m : Nat} {vL vN : Value} {xs ns : List Int}
end
end Go.Proofs.YtdbppfcilaajaaaGreat.Rq

namespace Go.Proofs.YtdbppfcilaajaaaGreat
section
variable {w0 w : World}
theorem Sat.pull5 {A B C D E G : Hp} (h : Sat w0 (A * (B * (C * (D * (E * G))))) w) : Sat w0 (E * (A * (B * (C * (D * G))))) w := h.cast (by ac_rfl)
end
end Go.Proofs.YtdbppfcilaajaaaGreat
namespace Go.Proofs.YtdbppfcilaajaaaGreat.Rq
open Go.RowKit
set_option linter.unusedVariables false

end Go.Proofs.YtdbppfcilaajaaaGreat.Rq

namespace Go.Proofs.YtdbppfcilaajaaaGreat.Rq
open Go.RowKit
set_option linter.unusedVariables false

section
variable {w0 w : World} {F : Hp} {q r m : Nat} {z : Int} {b : Bool} {xs : List Int}
end
end Go.Proofs.YtdbppfcilaajaaaGreat.Rq

namespace Go.Proofs.YtdbppfcilaajaaaGreat
open Go.RowKit
open Go.ChangeShapes Go.WideShapes Go.Deep
set_option linter.unusedVariables false

section
variable {H : Type} {enc : TypeId × Value → H} {P : Program} {w : World} {base : Nat} {spare : Nat → Bool} {held : Bool}
end

section
variable {H : Type} {enc : TypeId × Value → H} {P : Program} {w : World} {base : Nat} {spare : Nat → Bool} {held : Bool}
end
end Go.Proofs.YtdbppfcilaajaaaGreat

namespace Go.Proofs.YtdbppfcilaajaaaGreat
open Go.RowKit
open Go.ChangeShapes Go.WideShapes Go.Deep
set_option linter.unusedVariables false
section
variable {H : Type} {enc : TypeId × Value → H} {P : Program} {w : World} {base : Nat} {spare : Nat → Bool} {held : Bool}
end
end Go.Proofs.YtdbppfcilaajaaaGreat

namespace Go.Proofs.YtdbppfcilaajaaaGreat
open Go.RowKit
open Go.ChangeShapes Go.WideShapes Go.Deep
set_option linter.unusedVariables false

section
variable {H : Type} {enc : TypeId × Value → H} {P : Program} {w : World} {base : Nat} {spare : Nat → Bool} {held : Bool}
end
end Go.Proofs.YtdbppfcilaajaaaGreat

namespace Go.Proofs.YtdbppfcilaajaaaGreat.Rq
open Go.RowKit
set_option linter.unusedVariables false

/-- An affinity that came in: it reads so ever after. -/
def IsAff (w0 : World) (v : Value) (af : List Nat) : Prop := (∀ w, Below w0.heap.size w0 w → RdA w v af) ∧ af.length ≤ maxLen
/-- Acts that came in: kinds, numbers, whether one inherits, affinities. -/
structure Acts (w0 : World) (v : Value) (n : Nat) (K G : Nat → Int) (Y : Nat → Bool) (V : Nat → Value) (af : Nat → List Nat) : Prop where
  form : (n = 0 ∧ ∃ ao cap, v = .slice ao 0 cap) ∨ ∃ b off cap, v = .slice (some ⟨b, off, none⟩) n cap ∧ b < w0.heap.size ∧ ∀ i, i < n →
    w0.cell? ⟨b, off + i * 4, none⟩ = some (vi (K i)) ∧ w0.cell? ⟨b, off + i * 4 + 1, none⟩ = some (vi (G i)) ∧ w0.cell? ⟨b, off + i * 4 + 2, none⟩ = some (.bool (Y i)) ∧ w0.cell? ⟨b, off + i * 4 + 3, none⟩ = some (V i)
  aff : ∀ i, i < n → IsAff w0 (V i) (af i)
  small : n ≤ maxLen

theorem Acts.len {w0 : World} {v : Value} {n : Nat} {K G : Nat → Int} {Y : Nat → Bool} {V : Nat → Value} {af : Nat → List Nat} (h : Acts w0 v n K G Y V af) : ∃ ao cap, v = .slice ao n cap := by
  rcases h.form with ⟨rfl, ao, cap, rfl⟩ | ⟨b, off, cap, rfl, _⟩
  · exact ⟨_, _, rfl⟩
  · exact ⟨_, _, rfl⟩
/-- An act's cells, later. -/
theorem Acts.at_ {w0 w : World} {ao : Option Addr} {n cap : Nat} {K G : Nat → Int} {Y : Nat → Bool} {V : Nat → Value} {af : Nat → List Nat} (h : Acts w0 (.slice ao n cap) n K G Y V af) (hS : Below w0.heap.size w0 w) (i : Nat) (hi : i < n) :
    ∃ b off, ao = some ⟨b, off, none⟩ ∧ w.cell? ⟨b, off + i * 4, none⟩ = some (vi (K i)) ∧ w.cell? ⟨b, off + i * 4 + 1, none⟩ = some (vi (G i)) ∧ w.cell? ⟨b, off + i * 4 + 2, none⟩ = some (.bool (Y i)) ∧ w.cell? ⟨b, off + i * 4 + 3, none⟩ = some (V i) := by
  rcases h.form with ⟨rfl, _⟩ | ⟨b, off, cap, e, hb, hc⟩
  · omega
  · cases e
    obtain ⟨h0, h1, h2, h3⟩ := hc i hi
    exact ⟨b, off, rfl, (hS.cell (by exact hb)).trans h0, (hS.cell (by exact hb)).trans h1, (hS.cell (by exact hb)).trans h2, (hS.cell (by exact hb)).trans h3⟩
end Go.Proofs.YtdbppfcilaajaaaGreat.Rq

namespace Go.Proofs.YtdbppfcilaajaaaGreat.Rq
open Go.RowKit
set_option linter.unusedVariables false

def ind (l : List Int) (g : Nat) : Int := if (g : Int) ∈ l then 1 else 0
/-- How often each of 0 to 99 is there. -/
def thereL (l : List Int) : List Int := (List.range 100).map (ind l)
theorem there_at (l : List Int) (g : Nat) (hg : g < 100) : (thereL l)[g]? = some (ind l g) := by
  unfold thereL
  rw [List.getElem?_map, List.getElem?_range hg]
  rfl
theorem put_perm {m : Nat} {xs : List Int} (g : Int) : (putL m xs g ++ spillL m xs g).Perm (g :: xs) := by
  unfold putL spillL
  split
  · rw [List.append_nil]
    exact List.perm_append_comm
  · have h := List.take_append_drop ((m + 1) / 2) xs
    calc (xs.drop ((m + 1) / 2) ++ (xs.take ((m + 1) / 2) ++ [g])).Perm ((xs.take ((m + 1) / 2) ++ [g]) ++ xs.drop ((m + 1) / 2)) := List.perm_append_comm
      _ = xs.take ((m + 1) / 2) ++ g :: xs.drop ((m + 1) / 2) := by simp
      List.Perm _ (g :: (xs.take ((m + 1) / 2) ++ xs.drop ((m + 1) / 2))) := List.perm_middle
      _ = g :: xs := by rw [h]
theorem next_perm (m : Nat) (xs : List Int) (z : Int) (b : Bool) : (nextL m xs z b ++ nextS m xs z b).Perm (allQ xs z b) := by
  cases b with
  | false => simp [nextL, nextS, allQ]
  | true => simpa [nextL, nextS, allQ] using put_perm z
end Go.Proofs.YtdbppfcilaajaaaGreat.Rq

namespace Go.Proofs.YtdbppfcilaajaaaGreat.Rq
open Go.RowKit
set_option linter.unusedVariables false

section
variable {w0 w : World} {v : Value} {n : Nat} {K G : Nat → Int} {Y : Nat → Bool} {V : Nat → Value} {af : Nat → List Nat}
end

section
variable {w0 w : World} {F : Hp} {q m : Nat} {vL vN : Value} {xs : List Int} {z : Int} {b : Bool}
end
end Go.Proofs.YtdbppfcilaajaaaGreat.Rq

namespace Go.Proofs.YtdbppfcilaajaaaGreat.Rq
open Go.RowKit
set_option linter.unusedVariables false

/-- The reference's queue, whole. -/
def refQ (p m : Nat) (xs : List Int) (z : Int) (b : Bool) : Hp := ex fun vv : Value × Value => rqB p m vv.1 vv.2 * (rs 3 vv.1 (xs.map vi) * rs 3 vv.2 ((nsOf z b).map vi))
/-- Its stand: who is there; what Remove, Take do. -/
def hasQ (xs : List Int) (z : Int) (b : Bool) (g : Int) : Bool := b && z == g || decide (g ∈ xs)
def rmL (xs : List Int) (z : Int) (b : Bool) (g : Int) : List Int := if (b && z == g) = true then xs else xs.erase g
def rmB (z : Int) (b : Bool) (g : Int) : Bool := b && !(z == g)
def tkL (m : Nat) (xs : List Int) (z : Int) (b c : Bool) : List Int := if (b && c) = true then xs else (nextL m xs z b).tail
def tkS (m : Nat) (xs : List Int) (z : Int) (b c : Bool) : List Int := if (b && c) = true then [] else nextS m xs z b
def tkG (m : Nat) (xs : List Int) (z : Int) (b c : Bool) : List Int := if (b && c) = true then [z] else (nextL m xs z b).take 1
section
variable {w0 w : World} {F : Hp} {q r p m : Nat} {z : Int} {b : Bool} {xs : List Int}
theorem refQ_shut {vL vN : Value} (h : Sat w0 (rqB p m vL vN * (rs 3 vL (xs.map vi) * (rs 3 vN ((nsOf z b).map vi) * F))) w) : Sat w0 (refQ p m xs z b * F) w :=
  Sat.exI (f := fun vv : Value × Value => rqB p m vv.1 vv.2 * (rs 3 vv.1 (xs.map vi) * rs 3 vv.2 ((nsOf z b).map vi))) (vL, vN) (h.cast (by ac_rfl))

theorem q_remove' (h : Sat w0 (quB q r z b * (ringP r m xs * F)) w) (g : Int) :
    Calls Tryz.prog 86 #[vp q, vi g] w fun e w' => e = .returned (.bool (hasQ xs z b g)) ∧ Sat w0 (quB q r z (rmB z b g) * (ringP r m (rmL xs z b g) * F)) w' := by
  unfold hasQ rmL rmB
  by_cases hc : b = true ∧ z = g
  · obtain ⟨rfl, rfl⟩ := hc
    refine (q_remove_next h).mono fun e w' ⟨he, hS⟩ => ?_
    simp only [beq_self_eq_true, Bool.and_self, Bool.true_or, if_true, Bool.not_true, Bool.and_false]
    exact ⟨he, hS⟩
  · have hb : (b && z == g) = false := by
      cases b with
      | false => rfl
      | true => simpa using fun e => hc ⟨rfl, e⟩
    have hb2 : (b && !(z == g)) = b := by
      cases b with
      | false => rfl
      | true => simpa using fun e => hc ⟨rfl, e⟩
    rw [hb, hb2]
    exact q_remove h g hc
theorem q_take' (h : Sat w0 (quB q r z b * (ringP r m xs * F)) w) (c : Bool) :
    Calls Tryz.prog 67 #[vp q, .bool c] w fun e w' => ∃ v, e = .returned (.tuple #[vi ((tkG m xs z b c).headD 0), .bool (b && c), v, .bool !(tkG m xs z b c).isEmpty]) ∧
      Sat w0 (sl 3 1 v (tkS m xs z b c).length ((tkS m xs z b c).map vi) * (quB q r z false * (ringP r m (tkL m xs z b c) * F))) w' := by
  unfold tkG tkS tkL
  by_cases hc : (b && c) = true
  · obtain ⟨rfl, rfl⟩ : b = true ∧ c = true := by simpa using hc
    exact (q_take_in h).mono fun e w' ⟨he, hS⟩ => ⟨_, he, hS.addNil 3 1⟩
  · have hc' : (b && c) = false := by simpa using hc
    rw [hc']
    simp only [Bool.false_eq_true, if_false]
    refine (q_take h c hc').mono fun e w' ⟨v, he, hS⟩ => ⟨v, ?_, hS⟩
    rw [he]
    cases nextL m xs z b <;> rfl
end
end Go.Proofs.YtdbppfcilaajaaaGreat.Rq

namespace Go.Proofs.YtdbppfcilaajaaaGreat.Rq
open Go.RowKit
set_option linter.unusedVariables false

section
variable {m : Nat} {xs : List Int} {z g : Int} {b : Bool}
theorem take_permA (c : Bool) : (allQ (tkL m xs z b c) z false ++ (tkS m xs z b c ++ tkG m xs z b c)).Perm (allQ xs z b) := by
  unfold tkL tkS tkG
  by_cases hc : (b && c) = true
  · simp only [hc, if_true]
    obtain ⟨rfl, rfl⟩ : b = true ∧ c = true := by simpa using hc
    simp only [allQ, List.nil_append, Bool.false_eq_true, if_false, if_true]
    exact List.perm_append_comm
  · simp only [hc, Bool.false_eq_true, if_false]
    have h := next_perm m xs z b
    refine List.Perm.trans ?_ h
    simp only [allQ, Bool.false_eq_true, if_false]
    cases nextL m xs z b with
    | nil => simp
    | cons x t =>
      simp only [List.tail_cons, List.take_succ_cons, List.take_zero, List.cons_append]
      rw [← List.append_assoc]
      exact (List.perm_append_comm (l₁ := t ++ nextS m xs z b) (l₂ := [x]))
theorem allQ_len : (allQ xs z b).length ≤ xs.length + 1 := by cases b <;> simp [allQ]
theorem tkS_len (c : Bool) : (tkS m xs z b c).length ≤ xs.length + 1 := by
  have h := (take_permA (m := m) (xs := xs) (z := z) (b := b) c).length_eq
  have h2 := allQ_len (xs := xs) (z := z) (b := b)
  simp only [List.length_append] at h
  omega
end

section
variable {w0 w : World} {F : Hp} {q r p m : Nat} {z : Int} {b : Bool} {xs : List Int} {ao : Option Addr} {n cap : Nat}
end
end Go.Proofs.YtdbppfcilaajaaaGreat.Rq

namespace Go.Proofs.YtdbppfcilaajaaaGreat.Pc
open Go.RowKit Rq
set_option linter.unusedVariables false

/-- What a P has: its ring, who is next (z, if b), who runs (g, if runs), what is left, its turns. -/
structure Pl where
  xs : List Int
  z : Int
  b : Bool
  g : Int
  runs : Bool
  left : Int
  turns : Int

def up (p : Nat → Pl) (k : Nat) (y : Pl) : Nat → Pl := fun i => if i = k then y else p i
theorem up_at (p : Nat → Pl) (k : Nat) (y : Pl) : up p k y k = y := if_pos rfl
theorem up_ne (p : Nat → Pl) {k i : Nat} (y : Pl) (h : i ≠ k) : up p k y i = p i := if_neg h
theorem up_self (p : Nat → Pl) (k : Nat) : up p k (p k) = p := by
  funext i
  unfold up
  split
  · rename_i h; rw [h]
  · rfl
theorem up_up (p : Nat → Pl) (k : Nat) (y y' : Pl) : up (up p k y) k y' = up p k y' := by
  funext i
  unfold up
  split <;> rfl

theorem flatMap_congr' {α β : Type} {f g : α → List β} : ∀ {l : List α}, (∀ i ∈ l, f i = g i) → l.flatMap f = l.flatMap g
  | [], _ => rfl
  | x :: r, h => by rw [List.flatMap_cons, List.flatMap_cons, h x (by simp), flatMap_congr' fun i hi => h i (by simp [hi])]
theorem not_mem_erase_range (n k : Nat) : k ∉ (List.range n).erase k := fun h => (List.Nodup.mem_erase_iff List.nodup_range).1 h |>.1 rfl
/-- One is put into a P's ring, or next: what the P has, what goes to the global row. -/
def putY (m : Nat) (y : Pl) (g : Int) : Pl := { y with xs := putL m y.xs g }
def takeY (m : Nat) (y : Pl) : Pl := { y with xs := tkL m y.xs y.z y.b (decide (0 < y.left)), b := false }
def takeS (m : Nat) (y : Pl) : List Int := tkS m y.xs y.z y.b (decide (0 < y.left))
def takeG (m : Nat) (y : Pl) : List Int := tkG m y.xs y.z y.b (decide (0 < y.left))
def rmY (y : Pl) (g : Int) : Pl := { y with xs := rmL y.xs y.z y.b g, b := rmB y.z y.b g }
def hasY (y : Pl) (g : Int) : Bool := hasQ y.xs y.z y.b g
def startY (y : Pl) (g left : Int) : Pl := { y with g := g, runs := true, left := left }
def turnY (y : Pl) (v : Int) : Pl := { y with turns := v }
def runsG (y : Pl) : List Int := if y.runs then [y.g] else []

section
variable {y : Pl} {m : Nat} {g : Int} {f : Int → Bool}
end
end Go.Proofs.YtdbppfcilaajaaaGreat.Pc
