/-
  Contracts of slices.Index, Contains, Equal, Clone at []int, and of the reference's Same and Find. No statement is proved here.
-/
import Derived.Test.YtjlgdepneipgnaaRing2
namespace Go.Proofs.Ytjlgdepneipgnaa
open Go.RowKit
set_option linter.unusedVariables false

def RdI (w : World) (v : Value) (xs : List Int) : Prop := Rd w 1 v xs.length (xs.map vi)
theorem RdI.len {w : World} {v : Value} {xs : List Int} (h : RdI w v xs) : ∃ ao cap, v = .slice ao xs.length cap := Rd.len h
theorem RdI.at_ {w : World} {ao : Option Addr} {cap n : Nat} {xs : List Int} (h : RdI w (.slice ao n cap) xs) (hn : xs.length ≠ 0) : ∃ b off, ao = some ⟨b, off, none⟩ ∧ ∀ k, k < xs.length → w.cell? ⟨b, off + k, none⟩ = some (vi (xs[k]?.getD 0)) := by
  obtain ⟨b, off, c, e, hc⟩ := Rd.pos h hn
  cases e
  exact ⟨b, off, rfl, fun k hk => hc k _ (by simp [hk])⟩
theorem RdI.drewN {w : World} {v : Value} {xs : List Int} (h : RdI w v xs) (k : Nat) : RdI (w.drewN k) v xs := h
theorem Sat.rdI {w0 w : World} {F : Hp} {e : TypeId} {v : Value} {xs : List Int} (h : Sat w0 (sl e 1 v xs.length (xs.map vi) * F) w) : RdI w v xs := h.rd

def findI (xs : List Int) (x : Int) : Int := if x ∈ xs then (xs.idxOf x : Int) else -1

theorem findI_hit {xs : List Int} {x : Int} {k : Nat} (hk : k < xs.length) (hno : ∀ j, j < k → xs[j]?.getD 0 ≠ x) (hx : xs[k]?.getD 0 = x) : findI xs x = k := by
  have hx' : xs[k] = x := by simpa [hk] using hx
  unfold findI
  rw [if_pos (hx' ▸ List.getElem_mem hk)]
  congr 1
  have h1 : xs.idxOf x ≤ k := by
    rcases Nat.lt_or_ge k (xs.idxOf x) with h | h
    · exact absurd hx' (by simpa using List.not_of_lt_findIdx (p := (· == x)) h)
    · exact h
  rcases Nat.lt_or_ge (xs.idxOf x) k with h | h
  · exfalso
    have hl : xs.idxOf x < xs.length := by omega
    refine hno _ h ?_
    rw [List.getElem?_eq_getElem hl]
    simp
  · omega
theorem findI_miss {xs : List Int} {x : Int} (hno : ∀ j, j < xs.length → xs[j]?.getD 0 ≠ x) : findI xs x = -1 := by
  unfold findI
  rw [if_neg]
  intro hm
  obtain ⟨j, hj, rfl⟩ := List.getElem_of_mem hm
  exact hno j hj (by simp [hj])

theorem slices_index (x : Int) (xs : List Int) (v : Value) (w : World) (h : RdI w v xs) (hl : xs.length ≤ 1000000) :
    Calls Try.prog 110 #[v, vi x] w fun e w' => e = .returned (vi (findI xs x)) ∧ w = w' := by
  obtain ⟨ao, cap, rfl⟩ := h.len
  go_enter Try.func110, Try.ntmps110
  go_wp2
  go_loop [8] (fun i => ∃ k : Nat, k ≤ xs.length ∧ i = vi k ∧ Hid (∀ j, j < k → xs[j]?.getD 0 ≠ x)) (fun i => xs.length - (intOf i).toNat)
  case atStart => exact ⟨0, Nat.zero_le _, rfl, Lib.hid (fun j hj => by omega)⟩
  case round =>
    obtain ⟨k, hk, rfl, hno⟩ := hrel
    by_cases hlt : k < xs.length
    · obtain ⟨b, off, rfl, hc⟩ := h.at_ (by omega)
      have hck := hc k hlt
      clear hc
      generalize hy : xs[k]?.getD 0 = y at *
      have hy' := Lib.hid hy
      clear hy
      by_cases hxy : x = y
      · subst hxy
        go_wp2
        go_ret
        exact ⟨by rw [findI_hit hlt hno.out hy'.out]; rfl, rfl⟩
      · have hne : (x == y) = false := by simpa using hxy
        go_wp2
        go_round
        case rel => exact ⟨k + 1, by omega, by go_num, Lib.hid (fun j hj => by
          rcases Nat.lt_or_ge j k with h1 | h1
          · exact hno.out j h1
          · obtain rfl : j = k := by omega
            rw [hy'.out]; exact fun e => hxy e.symm)⟩
        case measure => simp [intOf]; omega
    · obtain rfl : k = xs.length := by omega
      go_wp2
      go_ret
      exact ⟨by rw [findI_miss hno.out]; rfl, rfl⟩

theorem ref_find (x : Int) (xs : List Int) (v : Value) (w : World) (h : RdI w v xs) (hl : xs.length ≤ 1000000) :
    Calls Try.prog 91 #[v, vi x] w fun e w' => e = .returned (vi (findI xs x)) ∧ w = w' := by
  obtain ⟨ao, cap, rfl⟩ := h.len
  go_enter Try.func91, Try.ntmps91
  go_wp2
  go_loop [5] (fun i => ∃ k : Nat, k ≤ xs.length ∧ i = vi k ∧ Hid (∀ j, j < k → xs[j]?.getD 0 ≠ x)) (fun i => xs.length - (intOf i).toNat)
  case atStart => exact ⟨0, Nat.zero_le _, rfl, Lib.hid (fun j hj => by omega)⟩
  case round =>
    obtain ⟨k, hk, rfl, hno⟩ := hrel
    by_cases hlt : k < xs.length
    · obtain ⟨b, off, rfl, hc⟩ := h.at_ (by omega)
      have hck := hc k hlt
      clear hc
      generalize hy : xs[k]?.getD 0 = y at *
      have hy' := Lib.hid hy
      clear hy
      by_cases hxy : y = x
      · subst hxy
        go_wp2
        go_ret
        exact ⟨by rw [findI_hit hlt hno.out hy'.out]; rfl, rfl⟩
      · have hne : (y == x) = false := by simpa using hxy
        go_wp2
        go_round
        case rel => exact ⟨k + 1, by omega, by go_num, Lib.hid (fun j hj => by
          rcases Nat.lt_or_ge j k with h1 | h1
          · exact hno.out j h1
          · obtain rfl : j = k := by omega
            rw [hy'.out]; exact hxy)⟩
        case measure => simp [intOf]; omega
    · obtain rfl : k = xs.length := by omega
      go_wp2
      go_ret
      exact ⟨by rw [findI_miss hno.out]; rfl, rfl⟩

/-- Two lists are the same. -/
def sameI (xs ys : List Int) : Bool := decide (xs = ys)

theorem sameI_len {xs ys : List Int} (h : xs.length ≠ ys.length) : sameI xs ys = false := by
  simp only [sameI, decide_eq_false_iff_not]
  exact fun e => h (by rw [e])
theorem sameI_part {xs ys : List Int} {k : Nat} (h : xs[k]?.getD 0 ≠ ys[k]?.getD 0) : sameI xs ys = false := by
  simp only [sameI, decide_eq_false_iff_not]
  exact fun e => h (by rw [e])
theorem sameI_all {xs ys : List Int} (hl : xs.length = ys.length) (h : ∀ j, j < xs.length → xs[j]?.getD 0 = ys[j]?.getD 0) : sameI xs ys = true := by
  simp only [sameI, decide_eq_true_eq]
  apply List.ext_getElem hl
  intro i h1 h2
  have := h i h1
  simpa [h1, h2] using this

theorem ref_same (xs ys : List Int) (v u : Value) (w : World) (h : RdI w v xs) (h' : RdI w u ys) (hl : xs.length ≤ 1000000) (hl' : ys.length ≤ 1000000) :
    Calls Try.prog 27 #[v, u] w fun e w' => e = .returned (.bool (sameI xs ys)) ∧ ∃ k, w' = w.drewN k := by
  obtain ⟨ao, cap, rfl⟩ := h.len
  obtain ⟨ao', cap', rfl⟩ := h'.len
  by_cases hlen : xs.length = ys.length
  · have h0 : ((xs.length : Int) != (ys.length : Int)) = false := by simp; omega
    have hlen' := Lib.hid hlen
    clear hlen
    go_enter Try.func27, Try.ntmps27
    go_wp2
    go_loopw [5] (fun i wr => ∃ k : Nat, k ≤ xs.length ∧ i = vi k ∧ Hid (∀ j, j < k → xs[j]?.getD 0 = ys[j]?.getD 0) ∧ ∃ n, wr = w.drewN n) (fun i _ => xs.length - (intOf i).toNat)
    case atStart => exact ⟨0, Nat.zero_le _, rfl, Lib.hid (fun j hj => by omega), 0, rfl⟩
    case round =>
      obtain ⟨k, hk, rfl, hno, n, rfl⟩ := hrel
      by_cases hlt : k < xs.length
      · have hlt' : k < ys.length := hlen'.out ▸ hlt
        obtain ⟨b, off, rfl, hc⟩ := h.at_ (by omega)
        obtain ⟨b', off', rfl, hc'⟩ := h'.at_ (by omega)
        have hck := hc k hlt
        have hck' := hc' k hlt'
        clear hc hc'
        generalize hx : xs[k]?.getD 0 = x at *
        generalize hy : ys[k]?.getD 0 = y at *
        have hx' := Lib.hid hx
        have hy' := Lib.hid hy
        clear hx hy
        by_cases hxy : x = y
        · subst hxy
          go_wp2
          go_quiet (fail)
          go_wp2
          go_roundw
          case rel => exact ⟨k + 1, by omega, by go_num, Lib.hid (fun j hj => by
            rcases Nat.lt_or_ge j k with h1 | h1
            · exact hno.out j h1
            · obtain rfl : j = k := by omega
              rw [hx'.out, hy'.out]), _, rfl⟩
          case measure => simp [intOf]; omega
        · have hne : (x != y) = true := by simpa using hxy
          go_wp2
          go_quiet (fail)
          go_wp2
          go_ret
          exact ⟨by rw [sameI_part (k := k) (by rw [hx'.out, hy'.out]; exact hxy)]; rfl, _, World.drewN_drewN _ _ _⟩
      · obtain rfl : k = xs.length := by omega
        go_wp2
        go_ret
        exact ⟨by rw [sameI_all hlen'.out hno.out]; rfl, _, rfl⟩
  · have h0 : ((xs.length : Int) != (ys.length : Int)) = true := by simp; omega
    go_enter Try.func27, Try.ntmps27
    go_wp2
    go_ret
    exact ⟨by rw [sameI_len hlen]; rfl, 0, rfl⟩

theorem slices_equal (xs ys : List Int) (v u : Value) (w : World) (h : RdI w v xs) (h' : RdI w u ys) (hl : xs.length ≤ 1000000) (hl' : ys.length ≤ 1000000) :
    Calls Try.prog 103 #[v, u] w fun e w' => e = .returned (.bool (sameI xs ys)) ∧ ∃ k, w' = w.drewN k := by
  obtain ⟨ao, cap, rfl⟩ := h.len
  obtain ⟨ao', cap', rfl⟩ := h'.len
  by_cases hlen : xs.length = ys.length
  · have h0 : ((xs.length : Int) != (ys.length : Int)) = false := by simp; omega
    have hlen' := Lib.hid hlen
    clear hlen
    go_enter Try.func103, Try.ntmps103
    go_wp2
    go_loopw [13] (fun i wr => ∃ k : Nat, k ≤ xs.length ∧ i = vi k ∧ Hid (∀ j, j < k → xs[j]?.getD 0 = ys[j]?.getD 0) ∧ ∃ n, wr = w.drewN n) (fun i _ => xs.length - (intOf i).toNat)
    case atStart => exact ⟨0, Nat.zero_le _, rfl, Lib.hid (fun j hj => by omega), 0, rfl⟩
    case round =>
      obtain ⟨k, hk, rfl, hno, n, rfl⟩ := hrel
      by_cases hlt : k < xs.length
      · have hlt' : k < ys.length := hlen'.out ▸ hlt
        obtain ⟨b, off, rfl, hc⟩ := h.at_ (by omega)
        obtain ⟨b', off', rfl, hc'⟩ := h'.at_ (by omega)
        have hck := hc k hlt
        have hck' := hc' k hlt'
        clear hc hc'
        generalize hx : xs[k]?.getD 0 = x at *
        generalize hy : ys[k]?.getD 0 = y at *
        have hx' := Lib.hid hx
        have hy' := Lib.hid hy
        clear hx hy
        by_cases hxy : x = y
        · subst hxy
          go_wp2
          go_quiet (fail)
          go_wp2
          go_roundw
          case rel => exact ⟨k + 1, by omega, by go_num, Lib.hid (fun j hj => by
            rcases Nat.lt_or_ge j k with h1 | h1
            · exact hno.out j h1
            · obtain rfl : j = k := by omega
              rw [hx'.out, hy'.out]), _, rfl⟩
          case measure => simp [intOf]; omega
        · have hne : (x != y) = true := by simpa using hxy
          go_wp2
          go_quiet (fail)
          go_wp2
          go_ret
          exact ⟨by rw [sameI_part (k := k) (by rw [hx'.out, hy'.out]; exact hxy)]; rfl, _, World.drewN_drewN _ _ _⟩
      · obtain rfl : k = xs.length := by omega
        go_wp2
        go_ret
        exact ⟨by rw [sameI_all hlen'.out hno.out]; rfl, _, rfl⟩
  · have h0 : ((xs.length : Int) != (ys.length : Int)) = true := by simp; omega
    go_enter Try.func103, Try.ntmps103
    go_wp2
    go_ret
    exact ⟨by rw [sameI_len hlen]; rfl, 0, rfl⟩

theorem findI_ge (xs : List Int) (x : Int) : decide (0 ≤ findI xs x) = decide (x ∈ xs) := by
  unfold findI
  by_cases h : x ∈ xs
  · simp [h]
  · simp [h]
theorem findI_le (xs : List Int) (x : Int) : -1 ≤ findI xs x ∧ findI xs x ≤ xs.length := by
  unfold findI
  split
  · have := List.idxOf_le_length (a := x) (l := xs); omega
  · omega

theorem slices_contains (x : Int) (xs : List Int) (v : Value) (w : World) (h : RdI w v xs) (hl : xs.length ≤ 1000000) :
    Calls Try.prog 96 #[v, vi x] w fun e w' => e = .returned (.bool (decide (x ∈ xs))) ∧ w = w' := by
  have hb := findI_le xs x
  have hg := Lib.hid (findI_ge xs x)
  have hc := Lib.hid (slices_index x xs v w h hl)
  generalize findI xs x = f at *
  go_enter Try.func96, Try.ntmps96
  go_wp2_with (go_at_call 110; refine hc.out.mono ?_; rintro e w' ⟨rfl, rfl⟩)
  go_ret
  exact ⟨by rw [← hg.out]; rfl, rfl⟩
end Go.Proofs.Ytjlgdepneipgnaa
