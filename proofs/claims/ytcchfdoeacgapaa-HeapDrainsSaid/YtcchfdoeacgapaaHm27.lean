/-
  The walk of HeapPlays. No statement is proved here.
-/
import Derived.Test.YtcchfdoeacgapaaHm26
import Derived.Test.YtcchfdoeacgapaaArgs2
namespace Go.Proofs.Ytcchfdoeacgapaa.Hm
open Go.RowKit
set_option linter.unusedVariables false

def actK4 : Nat → IntKind := fun j => if j = 1 then .u64 else .i64
/-- The act at a place of a list that came in. -/
theorem act_at {w0 w : World} {ao : Option Addr} {cap n : Nat} {A : Nat → Int} (h : ArgK w0 3 actK4 (.slice ao n cap) n A) (hS : Below w0.heap.size w0 w) {k : Nat} (hk : k < n) :
    ∃ b off, ao = some ⟨b, off, none⟩ ∧ ∃ x0 x1 x2, w.cell? ⟨b, off + k * 3, none⟩ = some (vi x0) ∧ w.cell? ⟨b, off + k * 3 + 1, none⟩ = some (vu x1) ∧ w.cell? ⟨b, off + k * 3 + 2, none⟩ = some (vi x2) := by
  rcases h.form with ⟨h0, _⟩ | ⟨b, off, c, hv, hb, hc⟩
  · omega
  · cases hv
    have g : ∀ j, j < n * 3 → w.cell? ⟨b, off + j, none⟩ = some (.int (actK4 (j % 3)) (A j)) := fun j hj => (hS.cell (by exact hb)).trans (hc j hj)
    refine ⟨b, off, rfl, A (k * 3 + 0), A (k * 3 + 1), A (k * 3 + 2), ?_, ?_, ?_⟩
    · rw [g (k * 3) (by omega), show k * 3 % 3 = 0 by omega]; rfl
    · rw [Nat.add_assoc, g (k * 3 + 1) (by omega), show (k * 3 + 1) % 3 = 1 by omega]; rfl
    · rw [Nat.add_assoc, g (k * 3 + 2) (by omega), show (k * 3 + 2) % 3 = 2 by omega]; rfl
theorem ArgK.len {w0 : World} {s : Nat} {K : Nat → IntKind} {v : Value} {n : Nat} {A : Nat → Int} (h : ArgK w0 s K v n A) : ∃ ao cap, v = .slice ao n cap := by
  rcases h.form with ⟨rfl, ao, cap, rfl⟩ | ⟨b, off, cap, rfl, _⟩
  · exact ⟨_, _, rfl⟩
  · exact ⟨_, _, rfl⟩
section
variable {w0 w : World} {F : Hp} {h q k n : Nat}
theorem Bal.sat (hS : Bal w0 h q F k w) : Sat w0 F w := by
  obtain ⟨A, p, S, hI, hp0, hp1, hA, hS⟩ := hS
  exact hS.dropL.dropL
/-- Both heaps, new. -/
theorem Bal.fresh (hS : Sat w0 (heapP h [] 0 * F) w) : Bal w0 h w.heap.size F 0 (w.alloc (.cells #[.slice none 0 0] 61)) := by
  have h1 : Sat w0 (rfB w.heap.size (.slice none 0 0) * (heapP h [] 0 * F)) (w.alloc (.cells #[.slice none 0 0] 61)) := hS.alloc (.cells #[.slice none 0 0] 61)
  refine Bal.intro (L := []) Inv.nil (by omega) (by simp) (by simp) rfl ?_
  exact (refP_shut (v := .slice none 0 0) ((h1.addNil 68 2).pull2)).pull2
set_option maxRecDepth 100000 in
set_option maxHeartbeats 4000000 in
theorem plays_row {v : Value} {A : Nat → Int} (w0 : World) (h : ArgK w0 3 actK4 v n A) : Calls Try.prog 11 #[v] w0 (TrueBelow w0) := by
  obtain ⟨ao, cap, rfl⟩ := ArgK.len h
  have hsm := h.small
  unfold maxLen at hsm
  have HA := Lib.hid h
  clear h
  by_cases hbig : 150 < n
  · have hb2 : (150 : Int) < (n : Int) := by omega
    go_enter Try.func11, Try.ntmps11
    go_wp2_with (go_at_call 14; refine (known4 _).mono ?_; rintro e w1 ⟨rfl, hb⟩)
    go_ret
    exact ⟨rfl, hb⟩
  · have hb2 : ¬ (150 : Int) < (n : Int) := by omega
    go_enter Try.func11, Try.ntmps11
    go_wp2_with (go_at_call 15; refine (h_new (Sat.start w0)).mono ?_; rintro e w1 ⟨hp, rfl, hS1⟩; have H1 := Lib.hid (Bal.fresh hS1); clear hS1)
    generalize w1.heap.size = q at *
    generalize w1.alloc (.cells #[.slice none 0 0] 61) = w2 at *
    go_loopw [5] (fun i wr => ∃ k : Nat, k ≤ n ∧ i = vi k ∧ Bal w0 hp q emp k wr) (fun i _ => n - (intOf i).toNat)
    case atStart => exact ⟨0, Nat.zero_le _, rfl, H1.out⟩
    case round =>
      obtain ⟨k, hk, rfl, hS⟩ := hrel
      clear H1
      by_cases hlt : k < n
      · obtain ⟨b, off, rfl, x0, x1, x2, c0, c1, c2⟩ := act_at HA.out hS.sat.below hlt
        have hki : (k : Int) < (n : Int) := by omega
        have HS := Lib.hid hS
        clear hS
        go_wp2_with (first
          | (go_at_call 39; refine (do4 HS.out (by omega) x0 x1 x2).mono ?_; rintro e w5 ⟨rfl, hS5⟩; have H5 := Lib.hid hS5; clear hS5)
          | (go_at_call 43; refine (same4 H5.out (by omega)).mono ?_; rintro e w6 ⟨rfl, hS6⟩; have H6 := Lib.hid hS6; clear hS6))
        go_roundw
        case rel => exact ⟨k + 1, by omega, by go_num, H6.out⟩
        case measure => (simp [intOf]; try omega)
      · obtain rfl : k = n := by omega
        have HS := Lib.hid hS
        clear hS
        go_wp2_with (go_at_call 14; refine (known4 _).mono ?_; rintro e w2 ⟨rfl, hb⟩)
        go_ret
        exact ⟨rfl, HS.out.sat.below.trans (hb.mono HS.out.sat.size)⟩
theorem plays4_row (w0 : World) (v : Value) (n : Nat) (A : Nat → Int) (h : ArgK w0 3 actK4 v n A) : Calls Try.prog 11 #[v] w0 (TrueBelow w0) := plays_row w0 h
end
end Go.Proofs.Ytcchfdoeacgapaa.Hm
