/-
  The reference's Same of chapter 04. No statement is proved here.
-/
import Derived.Test.YtcchfdoeacgapaaHm19
namespace Go.Proofs.Ytcchfdoeacgapaa.Hm
open Go.RowKit
set_option linter.unusedVariables false

def RdT (w : World) (v : Value) (L : List Tr) : Prop := Rd w 2 v L.length (trsV L)
theorem RdT.len {w : World} {v : Value} {L : List Tr} (h : RdT w v L) : ∃ ao cap, v = .slice ao L.length cap := Rd.len h
theorem RdT.drewN {w : World} {v : Value} {L : List Tr} (h : RdT w v L) (k : Nat) : RdT (w.drewN k) v L := h
theorem RdT.at_ {w : World} {ao : Option Addr} {n cap : Nat} {L : List Tr} (h : RdT w (.slice ao n cap) L) (hn : L.length ≠ 0) : ∃ b off, ao = some ⟨b, off, none⟩ ∧ ∀ k, k < L.length → w.cell? ⟨b, off + k * 2, none⟩ = some (vu (gr L k).1) ∧ w.cell? ⟨b, off + k * 2 + 1, none⟩ = some (vi (gr L k).2) := by
  obtain ⟨b, off, c, e, hc⟩ := Rd.pos h hn
  cases e
  refine ⟨b, off, rfl, fun k hk => ⟨?_, ?_⟩⟩
  · exact hc (k * 2) _ (by rw [show k * 2 = k * 2 + 0 from rfl, trsV_at L k 0 hk (by omega)]; rfl)
  · rw [Nat.add_assoc]
    exact hc (k * 2 + 1) _ (by rw [trsV_at L k 1 hk (by omega)]; rfl)
theorem sameT_len {xs ys : List Tr} (h : xs.length ≠ ys.length) : decide (xs = ys) = false := by
  rw [decide_eq_false_iff_not]
  exact fun e => h (by rw [e])
theorem sameT_part {xs ys : List Tr} {k : Nat} (h : gr xs k ≠ gr ys k) : decide (xs = ys) = false := by
  rw [decide_eq_false_iff_not]
  exact fun e => h (by rw [e])
theorem sameT_all {xs ys : List Tr} (hl : xs.length = ys.length) (h : ∀ j, j < xs.length → gr xs j = gr ys j) : decide (xs = ys) = true := by
  rw [decide_eq_true_eq]
  apply List.ext_getElem hl
  intro i h1 h2
  have := h i h1
  simpa [gr, h1, h2] using this

set_option maxRecDepth 100000 in
set_option maxHeartbeats 2000000 in
theorem r_same4 (xs ys : List Tr) (v u : Value) (w : World) (h : RdT w v xs) (h' : RdT w u ys) (hl : xs.length ≤ 100000) (hl' : ys.length ≤ 100000) :
    Calls Try.prog 41 #[v, u] w fun e w' => e = .returned (.bool (decide (xs = ys))) ∧ ∃ k, w' = w.drewN k := by
  obtain ⟨ao, cap, rfl⟩ := h.len
  obtain ⟨ao', cap', rfl⟩ := h'.len
  by_cases hlen : xs.length = ys.length
  · have h0 : ((xs.length : Int) != (ys.length : Int)) = false := by simp; omega
    have HP : Hid (∀ k, gr xs k ≠ gr ys k → decide (xs = ys) = false) := Lib.hid fun k => sameT_part
    have HA : Hid ((∀ j, j < xs.length → gr xs j = gr ys j) → decide (xs = ys) = true) := Lib.hid (sameT_all hlen)
    generalize decide (xs = ys) = d at *
    obtain ⟨n, hn⟩ : ∃ n, xs.length = n := ⟨_, rfl⟩
    have hn' : ys.length = n := by omega
    rw [hn] at h h0 hl HA
    rw [hn'] at h' h0
    have HC : Hid (n ≠ 0 → ∃ b off, ao = some ⟨b, off, none⟩ ∧ ∀ k, k < n → w.cell? ⟨b, off + k * 2, none⟩ = some (vu (gr xs k).1) ∧ w.cell? ⟨b, off + k * 2 + 1, none⟩ = some (vi (gr xs k).2)) := Lib.hid fun hz => by
      have := RdT.at_ h (by omega)
      rwa [hn] at this
    have HC' : Hid (n ≠ 0 → ∃ b off, ao' = some ⟨b, off, none⟩ ∧ ∀ k, k < n → w.cell? ⟨b, off + k * 2, none⟩ = some (vu (gr ys k).1) ∧ w.cell? ⟨b, off + k * 2 + 1, none⟩ = some (vi (gr ys k).2)) := Lib.hid fun hz => by
      have := RdT.at_ h' (by omega)
      rwa [hn'] at this
    rw [hn, hn']
    clear h h' hn hn' hlen hl'
    go_enter Try.func41, Try.ntmps41
    go_wp2
    go_loopw [5] (fun i wr => ∃ k : Nat, k ≤ n ∧ i = vi k ∧ Hid (∀ j, j < k → gr xs j = gr ys j) ∧ ∃ N, wr = w.drewN N) (fun i _ => n - (intOf i).toNat)
    case atStart => exact ⟨0, Nat.zero_le _, rfl, Lib.hid (fun j hj => by omega), 0, rfl⟩
    case round =>
      obtain ⟨k, hk, rfl, hno, N, rfl⟩ := hrel
      by_cases hlt : k < n
      · obtain ⟨b, off, rfl, hc⟩ := HC.out (by omega)
        obtain ⟨b', off', rfl, hc'⟩ := HC'.out (by omega)
        obtain ⟨c1, c2⟩ := hc k hlt
        obtain ⟨d1, d2⟩ := hc' k hlt
        have HPk := Lib.hid (HP.out k)
        have HE : Hid (gr xs k = gr ys k → ∀ j, j < k + 1 → gr xs j = gr ys j) := Lib.hid fun e j hj => by
          rcases Nat.lt_succ_iff_lt_or_eq.1 hj with h1 | rfl
          · exact hno.out j h1
          · exact e
        clear hc hc'
        generalize gr xs k = x at *
        generalize gr ys k = y at *
        obtain ⟨x1, x2⟩ := x
        obtain ⟨y1, y2⟩ := y
        by_cases e1 : x1 = y1
        · subst e1
          by_cases e2 : x2 = y2
          · subst e2
            have HE2 := Lib.hid (HE.out rfl)
            go_wp2
            go_quiet (fail)
            go_wp2
            go_roundw
            case rel => exact ⟨k + 1, by omega, by go_num, HE2, _, rfl⟩
            case measure => simp [intOf]; omega
          · have hne : (x2 == y2) = false := by simpa using e2
            have HF := Lib.hid (HPk.out (fun e => e2 (congrArg Prod.snd e)))
            clear e2
            go_wp2
            go_quiet (fail)
            go_wp2
            go_ret
            exact ⟨by rw [HF.out]; rfl, _, World.drewN_drewN _ _ _⟩
        · have hne : (x1 == y1) = false := by simpa using e1
          have HF := Lib.hid (HPk.out (fun e => e1 (congrArg Prod.fst e)))
          clear e1
          go_wp2
          go_quiet (fail)
          go_wp2
          go_ret
          exact ⟨by rw [HF.out]; rfl, _, World.drewN_drewN _ _ _⟩
      · obtain rfl : k = n := by omega
        go_wp2
        go_ret
        exact ⟨by rw [HA.out hno.out]; rfl, N, rfl⟩
  · have h0 : ((xs.length : Int) != (ys.length : Int)) = true := by simp; omega
    have e := sameT_len hlen
    rw [e]
    clear hlen e
    go_enter Try.func41, Try.ntmps41
    go_wp2
    go_ret
    exact ⟨rfl, 0, rfl⟩
end Go.Proofs.Ytcchfdoeacgapaa.Hm
