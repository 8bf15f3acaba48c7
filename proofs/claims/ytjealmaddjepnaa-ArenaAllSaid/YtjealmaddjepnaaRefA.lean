/-
  Contracts of the reference's table: New, Is, Get, Set, Drop. No statement is proved here.
-/
import Derived.Test.YtjealmaddjepnaaArena5
namespace Go.Proofs.Ytjealmaddjepnaa.Ar
open Go.RowKit
set_option linter.unusedVariables false

structure RP where
  gen : Int
  there : Bool
  retired : Bool
  x : Int
  freed : Int
def RP.cells (p : RP) : List Value := [vu p.gen, .bool p.there, .bool p.retired, vi p.x, vi p.freed]
theorem RP.len (p : RP) : p.cells.length = 5 := rfl
theorem RP.one (p : RP) : ∀ u ∈ p.cells, u.oneCell' = true := by
  intro u hu
  simp [RP.cells] at hu
  rcases hu with rfl | rfl | rfl | rfl | rfl <;> rfl
abbrev rflat (rs : List RP) : List Value := rs.flatMap RP.cells
theorem Erp : SlT Try.prog 46 50 5 32 (.agg #[vu 0, .bool false, .bool false, vi 0, vi 0]) := SlT.mk' Try.underlying46 (by kernel_rfl) rfl (by decide)

abbrev refB (q : Nat) (v : Value) (times : Int) : Hp := pc q 48 [v, vi times]
abbrev refL (v : Value) (rs : List RP) : Hp := sl 50 5 v rs.length (rflat rs)
def refP (q : Nat) (rs : List RP) (times : Int) : Hp := ex fun v : Value => refB q v times * refL v rs

def isR (rs : List RP) (i g : Int) : Option (Nat × RP) :=
  if i < 0 then none else match rs[i.toNat]? with
    | none => none
    | some a => if a.there && a.gen == g then some (i.toNat, a) else none
theorem isR_some {ps : List RP} {i g : Int} {k : Nat} {a : RP} (h : isR ps i g = some (k, a)) : ps[k]? = some a ∧ i = k ∧ a.there = true ∧ a.gen = g := by
  unfold isR at h
  split at h
  · cases h
  · split at h
    · cases h
    · rename_i h0 _ b hb
      split at h
      · rename_i hc
        simp only [Option.some.injEq, Prod.mk.injEq] at h
        obtain ⟨rfl, rfl⟩ := h
        simp only [Bool.and_eq_true, beq_iff_eq] at hc
        exact ⟨hb, by omega, hc.1, hc.2⟩
      · cases h

section
variable {w0 w : World} {q : Nat} {rs : List RP} {times : Int} {F : Hp}
theorem ropen (h : Sat w0 (refP q rs times * F) w) : ∃ v, Sat w0 (refB q v times * (refL v rs * F)) w := by
  obtain ⟨v, h⟩ := h.exE
  exact ⟨v, h.cast (sep_assoc _ _ _)⟩
theorem rshut {v : Value} (h : Sat w0 (refB q v times * (refL v rs * F)) w) : Sat w0 (refP q rs times * F) w :=
  Sat.exI v (h.cast (sep_assoc _ _ _).symm)
theorem rat {v : Value} (h : Sat w0 (refB q v times * (refL v rs * F)) w) (hn : rs.length ≠ 0) : ∃ b cap, v = .slice (some ⟨b, 0, none⟩) rs.length cap ∧ q ≠ b ∧ (∀ (i j : Nat) (a : RP) (u : Value), rs[i]? = some a → a.cells[j]? = some u → w.cell? ⟨b, i * 5 + j, none⟩ = some u) ∧ (∀ i, w.frozen? ⟨b, i, none⟩ = false) := by
  rcases h.pull2.slE.2 with ⟨_, h0, _⟩ | ⟨g, c, cur, hv, _⟩
  · exact absurd h0 hn
  · subst hv
    exact ⟨g, c, rfl, h.slNe, fun i j a u hi hu => h.pull2.slCell _ (flat_get RP.len hi hu), fun i => h.pull2.slFree i⟩

set_option maxRecDepth 100000 in
set_option maxHeartbeats 2000000 in
theorem ris_at {v : Value} (h : Sat w0 (refB q v times * (refL v rs * F)) w) (hs : rs.length ≤ 4096) (i g : Int) :
    Calls Try.prog 41 #[vp q, vr i g] w fun e w' => e = .returned (.bool (isR rs i g).isSome) ∧ Sat w0 (refB q v times * (refL v rs * F)) w' := by
  have hB : Sat w0 (pc w.heap.size 35 [vi i, vu g] * (refB q v times * (refL v rs * F))) (w.alloc (.cells #[vi i, vu g] 35)) := h.alloc (.cells #[vi i, vu g] 35)
  have b0 := hB.cell 0 rfl
  have b1 := hB.cell 1 rfl
  have hI := hB.dropL
  obtain ⟨ao, cap, rfl⟩ := hI.pull2.rd.len
  have c0 := hI.cell 0 rfl
  have H := Lib.hid hI
  clear h hB hI
  generalize hwb : w.alloc (.cells #[vi i, vu g] 35) = wb at *
  have HW := Lib.hid hwb
  clear hwb
  generalize hbx : w.heap.size = bx at *
  have HBX := Lib.hid hbx
  clear hbx
  by_cases h1 : i < 0
  · have hv : (isR rs i g).isSome = false := by simp [isR, h1]
    have h1' : decide (0 ≤ i) = false := decide_eq_false (by omega)
    have HV := Lib.hid hv
    clear hv
    go_enter Try.func41, Try.ntmps41
    go_wp2_with fail
    rw [HW.out, HBX.out]
    go_big_quiet (fail)
    go_wp2
    go_ret
    exact ⟨by rw [HV.out]; rfl, H.out.drewN _⟩
  · obtain ⟨k, rfl⟩ := Int.eq_ofNat_of_zero_le (show 0 ≤ i by omega)
    by_cases h2 : rs.length ≤ k
    · have h2' : decide (k < rs.length) = false := decide_eq_false (by omega)
      have hv : (isR rs k g).isSome = false := by simp [isR, List.getElem?_eq_none h2]
      have HV := Lib.hid hv
      clear hv
      go_enter Try.func41, Try.ntmps41
      go_wp2_with fail
      rw [HW.out, HBX.out]
      go_big_quiet (fail)
      go_wp2
      go_ret
      exact ⟨by rw [HV.out]; rfl, H.out.drewN _⟩
    · have h2' : (k : Int) < (rs.length : Int) := by omega
      have h2d : decide (k < rs.length) = true := decide_eq_true (by omega)
      obtain ⟨a, ha⟩ : ∃ a, rs[k]? = some a := ⟨rs[k], List.getElem?_eq_getElem (by omega)⟩
      obtain ⟨b, c, hv, hqb, hc, hfr⟩ := rat H.out (by omega)
      cases hv
      obtain ⟨gen, there, retired, x, freed⟩ := a
      have e0 := hc k 0 _ _ ha rfl
      have e1 := hc k 1 _ _ ha rfl
      rw [Nat.add_zero] at e0
      have hv : (isR rs k g).isSome = (there && gen == g) := by
        simp only [isR, if_neg h1, Int.toNat_natCast, ha]
        split <;> simp_all
      have HV := Lib.hid hv
      clear hv ha hc hfr
      cases there with
      | false =>
        go_enter Try.func41, Try.ntmps41
        go_wp2_with fail
        rw [HW.out, HBX.out]
        go_big_quiet (fail)
        go_wp2
        go_ret
        exact ⟨by rw [HV.out]; rfl, H.out.drewN _⟩
      | true =>
        go_enter Try.func41, Try.ntmps41
        go_wp2_with fail
        rw [HW.out, HBX.out]
        go_big_quiet (fail)
        go_wp2
        go_ret
        exact ⟨by rw [HV.out, Bool.true_and]; rfl, H.out.drewN _⟩
end
end Go.Proofs.Ytjealmaddjepnaa.Ar
