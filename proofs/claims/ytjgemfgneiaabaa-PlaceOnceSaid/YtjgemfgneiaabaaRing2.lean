/-
  Contracts of package ring, second part: All, New. No statement is proved here.
-/
import Derived.Test.YtjgemfgneiaabaaRing
namespace Go.Proofs.Ytjgemfgneiaabaa
open Go.RowKit
set_option linter.unusedVariables false

theorem take_snoc_int (xs : List Int) (k : Nat) (h : k < xs.length) : (xs.take (k + 1)).map vi = (xs.take k).map vi ++ [vi xs[k]] := by
  rw [List.take_succ_eq_append_getElem h, List.map_append]
  simp

set_option maxRecDepth 100000 in
set_option maxHeartbeats 1000000 in
theorem ring_all {w0 w : World} {p most : Nat} {xs : List Int} {F : Hp} (h : Sat w0 (ringP p most xs * F) w) :
    Calls Try.prog 69 #[vp p] w fun e w' => ∃ v, e = .returned v ∧ Sat w0 (sl 3 1 v xs.length (xs.map vi) * (ringP p most xs * F)) w' := by
  obtain ⟨s, R⟩ := h.ring
  have hpos := R.ok.pos
  have hsmall := R.ok.small
  have hn := R.ok.n
  have c0 := R.c0
  have c1 := R.c1
  have c2 := R.c2
  by_cases hx0 : xs = []
  · subst hx0
    go_enter Try.func69, Try.ntmps69
    go_wp2_with (go_at_call 75; refine (ring_none R).mono ?_; rintro e w' ⟨rfl, rfl⟩)
    go_ret
    exact ⟨_, rfl, h.addNil _ _⟩
  · have hx1 : 0 < xs.length := List.length_pos_iff.2 hx0
    have hl0 : ((xs.length : Int) == 0) = false := by simp; omega
    obtain ⟨f, hf⟩ : ∃ f, f = s.f := ⟨_, rfl⟩
    have hflt : f < most := hf ▸ R.ok.f
    have hat : ∀ i, i < xs.length → s.arr[(f + i) % most]? = xs[i]? := hf ▸ R.ok.at_
    have hS0 : Hid (Sat w0 (sl 3 1 (.slice none 0 0) 0 [] * (pc p 110 [.slice (some ⟨s.a, 0, none⟩) most s.cap, vi f, vi xs.length] * (sl 3 1 (.slice (some ⟨s.a, 0, none⟩) most s.cap) most (s.arr.map vi) * F))) w) := Lib.hid (by subst hf; exact R.sat.addNil _ _)
    have hfin : ∀ v w', Sat w0 (sl 3 1 v xs.length (xs.map vi) * (pc p 110 [.slice (some ⟨s.a, 0, none⟩) most s.cap, vi f, vi xs.length] * (sl 3 1 (.slice (some ⟨s.a, 0, none⟩) most s.cap) most (s.arr.map vi) * F))) w' → Sat w0 (sl 3 1 v xs.length (xs.map vi) * (ringP p most xs * F)) w' := by
      intro v w' hS
      subst hf
      exact (Sat.ringI s R.ok hS.rot3).pull2
    have hFin := Lib.hid hfin
    have hAt := Lib.hid hat
    have hlen := R.ok.len
    have hLen := Lib.hid hlen
    have hNone := Lib.hid (ring_none R)
    rw [← hf] at c1
    generalize s.a = a at *
    generalize s.arr = arr at *
    generalize s.cap = rcap at *
    clear hfin hat hlen R hf h hx0
    have hS0' := hS0.out
    have hsl := hS0'.addNil
    go_enter Try.func69, Try.ntmps69
    go_wp2_with (first | (go_at_call 75; refine hNone.out.mono ?_; rintro e w' ⟨rfl, rfl⟩) | (at_make; refine wpList_make_sl Einti rfl _ _ rfl .i64 .i64 0 xs.length 0 xs.length rfl rfl rfl rfl (by omega) (by omega) (by omega) hS0'.dropL ?_; intro g w1 hM; have d0 := (hM.swap.cast (sep_assoc _ _ _)).cell 0 rfl; have d1 := (hM.swap.cast (sep_assoc _ _ _)).cell 1 rfl; have d2 := (hM.swap.cast (sep_assoc _ _ _)).cell 2 rfl))
    have hM' : Sat w0 (sl 3 1 (.slice (some ⟨g, 0, none⟩) 0 xs.length) 0 [] * (pc p 110 [.slice (some ⟨a, 0, none⟩) most rcap, vi f, vi xs.length] * (sl 3 1 (.slice (some ⟨a, 0, none⟩) most rcap) most (arr.map vi) * F))) w1 :=
      hM.slI (by omega) (by unfold maxLen; omega) (by rw [madeCells_int]; simp) (by simp)
    clear hM hsl hS0' hS0 c0 c1 c2 d0 d1 d2 hNone
    go_loopw [3, 23] (fun v i wr => ∃ k : Nat, k ≤ xs.length ∧ i = vi k ∧ Sat w0 (sl 3 1 v k ((xs.take k).map vi) * (pc p 110 [.slice (some ⟨a, 0, none⟩) most rcap, vi f, vi xs.length] * (sl 3 1 (.slice (some ⟨a, 0, none⟩) most rcap) most (arr.map vi) * F))) wr) (fun _ i _ => xs.length - (intOf i).toNat)
    case atStart => exact ⟨0, Nat.zero_le _, rfl, hM'⟩
    case round =>
      obtain ⟨k, hk, rfl, hS⟩ := hrel
      clear hM'
      by_cases hlt : k < xs.length
      · obtain ⟨i, hi⟩ : ∃ i, i = (f + k) % most := ⟨_, rfl⟩
        have hil : i < most := by rw [hi]; exact Nat.mod_lt _ hpos
        have ht : ((f : Int) + k) % most = (i : Int) := by rw [hi]; simp
        have ht2 : ((f : Int) + k).tmod most = (i : Int) := by rw [Int.tmod_eq_emod_of_nonneg (by omega)]; exact ht
        have hw1 : IntKind.i64.wrap ((f : Int) + k) = (f : Int) + k := IntWalk.i64_in _ (by omega)
        have hmz : most ≠ 0 := by omega
        have hi0 : (0 : Int) ≤ (i : Int) := by omega
        have hi1 : (i : Int) < (most : Int) := by omega
        have hP := hS.cast (show _ = pc p 110 [.slice (some ⟨a, 0, none⟩) most rcap, vi f, vi xs.length] * (sl 3 1 u3 k ((xs.take k).map vi) * (sl 3 1 (.slice (some ⟨a, 0, none⟩) most rcap) most (arr.map vi) * F)) by ac_rfl)
        have hQ := hS.cast (show _ = sl 3 1 (.slice (some ⟨a, 0, none⟩) most rcap) most (arr.map vi) * (sl 3 1 u3 k ((xs.take k).map vi) * (pc p 110 [.slice (some ⟨a, 0, none⟩) most rcap, vi f, vi xs.length] * F)) by ac_rfl)
        have c0 := hP.cell 0 rfl
        have c1 := hP.cell 1 rfl
        have hci : (arr.map vi)[i]? = some (vi (xs[k]?.getD 0)) := by
          have := hAt.out k hlt
          rw [← hi] at this
          simp [this, hlt]
        have ca := hQ.slCell i hci
        have hCi := Lib.hid hci
        have hpl := hP.lt
        have hal := hQ.slLt
        clear hi hP hQ hci ht
        go_wp2
        go_region_held3 (fun w' => w'.cell? ⟨p, 0, none⟩ = some (.slice (some ⟨a, 0, none⟩) most rcap) ∧ w'.cell? ⟨p, 1, none⟩ = some (vi f) ∧ w'.cell? ⟨a, i, none⟩ = some (vi (xs[k]?.getD 0)))
          (first | (exact ⟨hP1.cell 0 rfl, hP1.cell 1 rfl, hQ1.slCell i hCi.out⟩) | go_keep)
          ((refine step_append_sl Einti (by rfl) _ _ (by rfl) (by rfl) ((hS.alloc' _).drew) (by rfl) ((Rd.one _ _ _)) (by simp [Value.oneCell']) (by unfold maxLen; omega) (by omega) ?_; intro ao' cap' w2 hS2; have hP1 := hS2.dropL; have hQ1 := hP1.swap.cast (sep_assoc _ _ _)))
        go_wp2
        go_roundw
        case rel => exact ⟨k + 1, by omega, by go_num, by rw [take_snoc_int xs k hlt]; exact hS2⟩
        case measure => simp [intOf]; omega
      · obtain rfl : k = xs.length := by omega
        go_wp2
        go_ret
        exact ⟨_, rfl, hFin.out _ _ (by rw [List.take_length] at hS; exact hS)⟩

/-! ### New -/
theorem ring_new (most : Int) (hm : 1 ≤ most) (hm' : most ≤ 4096) {w0 w : World} {F : Hp} (h : Sat w0 F w) :
    Calls Try.prog 54 #[vi most] w fun e w' => ∃ p, e = .returned (.tuple #[vp p, vi 0]) ∧ Sat w0 (ringP p most.toNat [] * F) w' := by
  obtain ⟨m, rfl⟩ := Int.eq_ofNat_of_zero_le (show 0 ≤ most by omega)
  have h1 : ¬ ((m : Int) < 1) := by omega
  have h2 : ¬ (4096 < (m : Int)) := by omega
  go_enter Try.func54, Try.ntmps54
  go_wp2_with (at_make; refine wpList_make_sl Einti rfl _ _ rfl .i64 .i64 m m m m rfl rfl rfl rfl (by omega) (by omega) (by omega) h ?_; intro g w1 hM)
  go_ret2
  refine ⟨w1.heap.size, rfl, Sat.ringI ⟨g, m, List.replicate m 0, 0⟩ ⟨by omega, by omega, by simp, (show 0 < m by omega), by simp, by simp⟩ ?_⟩
  rw [madeCells_int] at hM
  have hM2 := hM.slI (n := m) (cap := m) (size := 1) (xs := (List.replicate m (0 : Int)).map vi) (Nat.le_refl _) (by unfold maxLen; omega) (by simp) (by rw [Nat.mul_one, List.take_of_length_le (by simp)])
  exact hM2.alloc (.cells #[.slice (some ⟨g, 0, none⟩) m m, vi 0, vi 0] 110)

theorem ring_new_no (most : Int) (hm : most < 1 ∨ 4096 < most) (w : World) :
    Calls Try.prog 54 #[vi most] w fun e w' => e = .returned (.tuple #[.pointer none, vi 2]) ∧ w = w' := by
  by_cases h1 : most < 1
  · go_enter Try.func54, Try.ntmps54
    go_wp2
    go_ret2
    exact ⟨rfl, rfl⟩
  · have h2 : 4096 < most := by omega
    go_enter Try.func54, Try.ntmps54
    go_wp2
    go_ret2
    exact ⟨rfl, rfl⟩
end Go.Proofs.Ytjgemfgneiaabaa
