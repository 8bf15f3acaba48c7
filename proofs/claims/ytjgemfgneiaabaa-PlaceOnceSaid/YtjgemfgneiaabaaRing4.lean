/-
  Contracts of package ring, fourth part: Same, Remove. No statement is proved here.
-/
import Derived.Test.YtjgemfgneiaabaaRing3
namespace Go.Proofs.Ytjgemfgneiaabaa
open Go.RowKit
set_option linter.unusedVariables false

/-! ### Same -/
/-! ### Remove -/
theorem ring_at (bx p a : Nat) (len cap f i j : Nat) (ii : Int) (hii : ii = i) (w : World) (hlen : 0 < len) (hm : len ≤ 4096) (hf : f < len) (hi : i ≤ 4096) (hj : j = (f + i) % len)
    (cb : w.cell? ⟨bx, 0, none⟩ = some (vp p))
    (c0 : w.cell? ⟨p, 0, none⟩ = some (.slice (some ⟨a, 0, none⟩) len cap))
    (c1 : w.cell? ⟨p, 1, none⟩ = some (.int .i64 f)) :
    Calls Try.prog 76 #[vi ii, vp bx] w fun e w' => e = .returned (.pointer (some ⟨a, j, none⟩)) ∧ ∃ k, w' = w.drewN k := by
  subst hii
  have hlt : j < len := by rw [hj]; exact Nat.mod_lt _ hlen
  have ht : ((f : Int) + i) % len = (j : Int) := by rw [hj]; simp
  clear hj
  go_enter Try.func76, Try.ntmps76
  go_wp2
  go_quiet (fail)
  go_wp2
  go_ret
  exact ⟨rfl, _, rfl⟩

theorem RingOk.set {s : RingS} {most : Nat} {xs : List Int} (h : RingOk s most xs) {i : Nat} (hi : i < xs.length) (y : Int) :
    RingOk ⟨s.a, s.cap, s.arr.set ((s.f + i) % most) y, s.f⟩ most (xs.set i y) := by
  have hpos := h.pos
  have hn := h.n
  refine ⟨h.pos, h.small, by simp [h.len], h.f, by simpa using h.n, fun j hj => ?_⟩
  simp only [List.length_set] at hj
  show (s.arr.set _ y)[(s.f + j) % most]? = _
  by_cases hij : i = j
  · subst hij
    rw [List.getElem?_set_self (by rw [h.len]; exact Nat.mod_lt _ h.pos), List.getElem?_set_self hj]
  · rw [List.getElem?_set_ne ?_, List.getElem?_set_ne hij]
    · exact h.at_ j hj
    · intro e
      have h1 := h.f
      have a1 : (s.f + i) % most = if s.f + i < most then s.f + i else s.f + i - most := by
        split
        · exact Nat.mod_eq_of_lt (by omega)
        · rw [Nat.mod_eq_sub_mod (by omega)]; exact Nat.mod_eq_of_lt (by omega)
      have a2 : (s.f + j) % most = if s.f + j < most then s.f + j else s.f + j - most := by
        split
        · exact Nat.mod_eq_of_lt (by omega)
        · rw [Nat.mod_eq_sub_mod (by omega)]; exact Nat.mod_eq_of_lt (by omega)
      rw [a1, a2] at e
      split at e <;> split at e <;> omega

theorem RingOk.take {s : RingS} {most : Nat} {xs : List Int} (h : RingOk s most xs) (k : Nat) : RingOk s most (xs.take k) := by
  have := h.n
  refine ⟨h.pos, h.small, h.len, h.f, by simp; omega, fun i hi => ?_⟩
  simp only [List.length_take] at hi
  rw [h.at_ i (by omega), List.getElem?_take, if_pos (by omega)]

/-- The list while what lies behind a place moves up. -/
def shifted (xs : List Int) (p i : Nat) : List Int := (xs.eraseIdx p).take i ++ xs.drop i
theorem shifted_start (xs : List Int) (p : Nat) (hp : p < xs.length) : shifted xs p p = xs := by
  unfold shifted
  rw [List.eraseIdx_eq_take_drop_succ, List.take_append_of_le_length (by simp; omega), List.take_take]
  simp
theorem shifted_len (xs : List Int) (p i : Nat) (hp : p < xs.length) (hi : i + 1 ≤ xs.length) : (shifted xs p i).length = xs.length := by
  unfold shifted
  rw [List.length_append, List.length_take, List.length_eraseIdx, if_pos hp, List.length_drop]
  omega
theorem shifted_step (xs : List Int) (p i : Nat) (hp : p ≤ i) (hi : i + 1 < xs.length) : shifted xs p (i + 1) = (shifted xs p i).set i (xs[i + 1]?.getD 0) := by
  unfold shifted
  have hl : (xs.eraseIdx p).length = xs.length - 1 := by rw [List.length_eraseIdx, if_pos (by omega)]
  have hlt : ((xs.eraseIdx p).take i).length = i := by rw [List.length_take, hl]; omega
  rw [List.set_append, if_neg (by omega), hlt, Nat.sub_self]
  rw [List.take_succ_eq_append_getElem (by omega), List.append_assoc]
  congr 1
  rw [List.drop_eq_getElem_cons (i := i) (by omega), List.set_cons_zero]
  simp only [List.singleton_append]
  congr 1
  rw [List.getElem_eraseIdx_of_ge (by omega) hp]
  simp [hi]
theorem shifted_at (xs : List Int) (p i : Nat) (hp : p < xs.length) (hi : i + 1 < xs.length) : (shifted xs p i)[i + 1]?.getD 0 = xs[i + 1]?.getD 0 := by
  unfold shifted
  have hl : (xs.eraseIdx p).length = xs.length - 1 := by rw [List.length_eraseIdx, if_pos (by omega)]
  have hlt : ((xs.eraseIdx p).take i).length = i := by rw [List.length_take, hl]; omega
  rw [List.getElem?_append_right (by omega), hlt, List.getElem?_drop]
  congr 2
  omega
theorem shifted_end (xs : List Int) (p : Nat) (hp : p < xs.length) : (shifted xs p (xs.length - 1)).take (xs.length - 1) = xs.eraseIdx p := by
  unfold shifted
  have hl : (xs.eraseIdx p).length = xs.length - 1 := by rw [List.length_eraseIdx, if_pos (by omega)]
  rw [List.take_of_length_le (l := xs.eraseIdx p) (by omega), List.take_append_of_le_length (by omega), List.take_of_length_le (by omega)]

theorem RingOk.eq {s : RingS} {most : Nat} {xs : List Int} (h : RingOk s most xs) (i : Nat) (hi : i < xs.length) : s.arr[(s.f + i) % most]?.getD 0 = xs[i]?.getD 0 := by rw [h.at_ i hi]
end Go.Proofs.Ytjgemfgneiaabaa
