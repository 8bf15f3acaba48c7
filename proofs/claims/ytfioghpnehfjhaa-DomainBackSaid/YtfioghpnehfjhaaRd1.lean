/-
  The reference of layer 9: May, Is, Children, Chain. No statement is proved here.
-/
import Derived.Test.YtfioghpnehfjhaaQt3
import Derived.Deep.LoopGhost
namespace Go.Proofs.Ytfioghpnehfjhaa.Dm
open Go.RowKit Ad
set_option linter.unusedVariables false

theorem rd_may (gs cpu per : Int) (w : World) : Calls Try.prog 29 #[vi gs, vu cpu, vu per] w fun e w' => e = .returned (.bool (decide (MayD gs cpu per))) ∧ w = w' := by
  by_cases h1 : 0 ≤ gs
  · by_cases h2 : gs ≤ 64
    · by_cases h3 : cpu ≤ 4294967296
      · by_cases h4 : 0 < per
        · by_cases h5 : per ≤ 4294967296
          · have hd : decide (MayD gs cpu per) = true := decide_eq_true ⟨h1, h2, h3, by omega, h5⟩
            rw [hd]
            go_enter Try.func29, Try.ntmps29
            go_wp2
            go_ret
            exact ⟨by simp, rfl⟩
          · have hd : decide (MayD gs cpu per) = false := decide_eq_false (fun h => h5 h.2.2.2.2)
            rw [hd]
            go_enter Try.func29, Try.ntmps29
            go_wp2
            go_ret
            exact ⟨by simp, rfl⟩
        · have hd : decide (MayD gs cpu per) = false := decide_eq_false (fun h => h4 (by have := h.2.2.2.1; omega))
          rw [hd]
          go_enter Try.func29, Try.ntmps29
          go_wp2
          go_ret
          exact ⟨by simp, rfl⟩
      · have hd : decide (MayD gs cpu per) = false := decide_eq_false (fun h => h3 h.2.2.1)
        rw [hd]
        go_enter Try.func29, Try.ntmps29
        go_wp2
        go_ret
        exact ⟨by simp, rfl⟩
    · have hd : decide (MayD gs cpu per) = false := decide_eq_false (fun h => h2 h.2.1)
      rw [hd]
      go_enter Try.func29, Try.ntmps29
      go_wp2
      go_ret
      exact ⟨by simp, rfl⟩
  · have hd : decide (MayD gs cpu per) = false := decide_eq_false (fun h => h1 h.1)
    rw [hd]
    go_enter Try.func29, Try.ntmps29
    go_wp2
    go_ret
    exact ⟨by simp, rfl⟩

/-- A place of the reference's. -/
structure One where
  gen : Int
  is : Bool
  gs : Int
  cpu : Int
  per : Int
  pi : Int
  pg : Int
  own : Int
  used : Int
def One.cells (x : One) : List Value := [vu x.gen, .bool x.is, vi x.gs, vu x.cpu, vu x.per, vi x.pi, vu x.pg, vi x.own, vu x.used]
theorem One.len (x : One) : x.cells.length = 9 := rfl
theorem One.one (x : One) : ∀ u ∈ x.cells, u.oneCell' = true := by
  intro u hu
  simp [One.cells] at hu
  rcases hu with rfl | rfl | rfl | rfl | rfl | rfl | rfl | rfl | rfl <;> rfl
abbrev oflat (rs : List One) : List Value := rs.flatMap One.cells
abbrev oz : One := ⟨0, false, 0, 0, 0, 0, 0, 0, 0⟩
theorem Eone : SlT Try.prog 108 112 9 72 (.agg #[vu 0, .bool false, vi 0, vu 0, vu 0, vi 0, vu 0, vi 0, vu 0]) := SlT.mk' Try.underlying108 (by kernel_rfl) rfl (by decide)
theorem Eint : SlT Try.prog 48 3 1 8 (vi 0) := SlT.mk' Try.underlying48 (by kernel_rfl) rfl (by decide)

/-- What the reference has: its places (at b), and its free places. -/
abbrev rdB (q b n cap : Nat) (vF : Value) : Hp := pc q 110 [.slice (some ⟨b, 0, none⟩) n cap, vF]
abbrev rdL (b cap : Nat) (rs : List One) : Hp := sl 112 9 (.slice (some ⟨b, 0, none⟩) rs.length cap) rs.length (oflat rs)
def isR (rs : List One) (i g : Int) : Bool := if i < 0 then false else match rs[i.toNat]? with | none => false | some a => a.is && a.gen == g

section
variable {w0 w : World} {F : Hp} {q b cap : Nat} {vF : Value} {rs : List One}
set_option maxRecDepth 100000 in
set_option maxHeartbeats 4000000 in
theorem rd_is (hS : Sat w0 (rdB q b rs.length cap vF * (rdL b cap rs * F)) w) (i g : Int) :
    Calls Try.prog 63 #[vp q, vr i g] w fun e w' => e = .returned (.bool (isR rs i g)) ∧ Sat w0 (rdB q b rs.length cap vF * (rdL b cap rs * F)) w' := by
  have hB : Sat w0 (pc w.heap.size 32 [vi i, vu g] * (rdB q b rs.length cap vF * (rdL b cap rs * F))) (w.alloc (.cells #[vi i, vu g] 32)) := hS.alloc _
  have b0 := hB.cell 0 rfl
  have b1 := hB.cell 1 rfl
  have q0 := hB.pull2.cell 0 rfl
  have HB := Lib.hid hB
  clear hS
  by_cases hi : 0 ≤ i
  · obtain ⟨k, rfl⟩ := Int.eq_ofNat_of_zero_le hi
    by_cases hk : k < rs.length
    · obtain ⟨a, ha⟩ : ∃ a, rs[k]? = some a := ⟨rs[k], List.getElem?_eq_getElem hk⟩
      have hki : (k : Int) < (rs.length : Int) := by omega
      have e0 := hB.pull3.slCell _ (flat_get (j := 0) One.len ha rfl)
      rw [Nat.add_zero] at e0
      have e1 := hB.pull3.slCell _ (flat_get (j := 1) One.len ha rfl)
      have hv : isR rs k g = (a.is && a.gen == g) := by
        unfold isR
        rw [if_neg (by omega), Int.toNat_natCast, ha]
      rw [hv]
      clear hv hB ha
      obtain ⟨gen, is, _, _, _, _, _, _, _⟩ := a
      dsimp only at e0 e1 ⊢
      cases is with
      | false =>
        go_enter Try.func63, Try.ntmps63
        go_wp2
        go_quiet (fail)
        go_wp2
        go_ret
        exact ⟨rfl, (HB.out.dropL).drewN _⟩
      | true =>
        by_cases hg : gen = g
        · subst hg
          go_enter Try.func63, Try.ntmps63
          go_wp2
          go_quiet (fail)
          go_wp2
          go_ret
          exact ⟨by simp, (HB.out.dropL).drewN _⟩
        · have hg2 : (gen == g) = false := beq_eq_false_iff_ne.2 hg
          rw [hg2]
          go_enter Try.func63, Try.ntmps63
          go_wp2
          go_quiet (fail)
          go_wp2
          go_ret
          exact ⟨by simp, (HB.out.dropL).drewN _⟩
    · have hki : ¬ ((k : Int) < (rs.length : Int)) := by omega
      have hv : isR rs k g = false := by
        unfold isR
        rw [if_neg (by omega), Int.toNat_natCast, List.getElem?_eq_none (by omega)]
      rw [hv]
      clear hv hB
      go_enter Try.func63, Try.ntmps63
      go_wp2
      go_quiet (fail)
      go_wp2
      go_ret
      exact ⟨by simp, (HB.out.dropL).drewN _⟩
  · have hv : isR rs i g = false := by
      unfold isR
      rw [if_pos (by omega)]
    rw [hv]
    have hi2 : decide (0 ≤ i) = false := decide_eq_false hi
    have hi3 : i < 0 := by omega
    clear hv hB hi
    go_enter Try.func63, Try.ntmps63
    go_wp2
    go_quiet (fail)
    go_wp2
    go_ret
    exact ⟨by simp, (HB.out.dropL).drewN _⟩
end
end Go.Proofs.Ytfioghpnehfjhaa.Dm
