/-
  Contracts of package ring, third part: Has, Take, Copy, Same, Remove. No statement is proved here.
-/
import Derived.Test.YtjgemfgneiaabaaGreatRs
namespace Go.Proofs.YtjgemfgneiaabaaGreat
open Go.RowKit
set_option linter.unusedVariables false

theorem Sat.ringLen {w0 w : World} {p most : Nat} {xs : List Int} {F : Hp} (h : Sat w0 (ringP p most xs * F) w) : xs.length ≤ most ∧ most ≤ 4096 ∧ 0 < most := by
  obtain ⟨s, R⟩ := h.ring
  exact ⟨R.ok.n, R.ok.small, R.ok.pos⟩

/-! ### Has -/
theorem ring_has {w0 w : World} {p most : Nat} {xs : List Int} {F : Hp} (h : Sat w0 (ringP p most xs * F) w) (x : Int) :
    Calls Tryz.prog 97 #[vp p, vi x] w fun e w' => e = .returned (.bool (decide (x ∈ xs))) ∧ Sat w0 (ringP p most xs * F) w' := by
  have hl := h.ringLen
  have hall := Lib.hid (ring_all h)
  go_enter Tryz.func97, Tryz.ntmps97
  go_wp2_with (first | (go_at_call 99; refine hall.out.mono ?_; rintro e w1 ⟨v, rfl, hS1⟩) | (go_at_call 98; refine (slices_contains x xs v w1 hS1.rdI (by omega)).mono ?_; rintro e w2 ⟨rfl, rfl⟩))
  go_ret
  exact ⟨rfl, hS1.dropL⟩

/-! ### Take -/
theorem Sat.slPre {w0 w : World} {F : Hp} {e : TypeId} {g cap n k : Nat} {xs : List Value} (h : Sat w0 (sl e 1 (.slice (some ⟨g, 0, none⟩) n cap) n xs * F) w) (hk : k ≤ n) : Sat w0 (sl e 1 (.slice (some ⟨g, 0, none⟩) k k) k (xs.take k) * F) w := by
  obtain ⟨cur, h1, h2, h3, h4, hS⟩ := h.slP
  refine hS.slI (Nat.le_refl _) (by omega) (by omega) ?_
  rw [← h4, List.take_take]
  congr 1
  omega

theorem Sat.capOk {w0 w : World} {F : Hp} {e : TypeId} {size : Nat} {ao : Option Addr} {n cap : Nat} {xs : List Value} (h : Sat w0 (sl e size (.slice ao n cap) n xs * F) w) : n ≤ cap ∧ cap ≤ maxLen := by
  rcases h.slE.2 with ⟨hv, h0, _⟩ | ⟨g, c, cur, hv, h1, h2, _⟩
  · cases hv
    exact ⟨Nat.le_refl _, Nat.zero_le _⟩
  · cases hv
    exact ⟨h1, h2⟩
theorem Sat.slPre' {w0 w : World} {F : Hp} {e : TypeId} {ao : Option Addr} {cap n k : Nat} {xs : List Value} (h : Sat w0 (sl e 1 (.slice ao n cap) n xs * F) w) (hk : k ≤ n) : Sat w0 (sl e 1 (.slice ao k k) k (xs.take k) * F) w := by
  rcases h.slE.2 with ⟨hv, h0, hS⟩ | ⟨g, c, cur, hv, h1, h2, _⟩
  · cases hv
    obtain rfl : k = 0 := by omega
    simpa using hS.addNil e 1
  · cases hv
    exact h.slPre hk

set_option maxHeartbeats 800000 in
theorem ring_take_0 {w0 w : World} {p most : Nat} {xs : List Int} {F : Hp} (h : Sat w0 (ringP p most xs * F) w) (n : Int) (hn : n < 0) :
    Calls Tryz.prog 96 #[vp p, vi n] w fun e w' => ∃ v, e = .returned v ∧ Sat w0 (sl 3 1 v 0 ((xs.take 0).map vi) * (ringP p most (xs.drop 0) * F)) w' := by
  have hl := h.ringLen
  have hall := Lib.hid (ring_all h)
  go_enter Tryz.func96, Tryz.ntmps96
  go_wp2_with (first | (go_at_call 99; refine hall.out.mono ?_; rintro e w1 ⟨v, rfl, hS1⟩; obtain ⟨ao, cap, rfl⟩ := hS1.rdI.len))
  go_loopw [14] (fun i wr => ∃ j : Nat, j ≤ 0 ∧ i = vi j ∧ Sat w0 (sl 3 1 (.slice ao xs.length cap) xs.length (xs.map vi) * (ringP p most (xs.drop j) * F)) wr) (fun i _ => 0 - (intOf i).toNat)
  case atStart => exact ⟨0, Nat.zero_le _, rfl, hS1⟩
  case round =>
    obtain ⟨j, hj, rfl, hS⟩ := hrel
    clear hS1
    by_cases hlt : j < 0
    · exact absurd hlt (by omega)
    · obtain rfl : 0 = j := by omega
      have hfin := hS.slPre' (k := 0) (by omega)
      have HF := Lib.hid hfin
      have hcap := hS.capOk
      clear hfin hS
      go_wp2
      go_ret
      exact ⟨_, rfl, by rw [List.map_take]; exact HF.out⟩

set_option maxHeartbeats 800000 in
theorem ring_take_n {w0 w : World} {p most : Nat} {xs : List Int} {F : Hp} (h : Sat w0 (ringP p most xs * F) w) (n : Nat) (hn : n < xs.length) :
    Calls Tryz.prog 96 #[vp p, vi n] w fun e w' => ∃ v, e = .returned v ∧ Sat w0 (sl 3 1 v n ((xs.take n).map vi) * (ringP p most (xs.drop n) * F)) w' := by
  have hl := h.ringLen
  have hall := Lib.hid (ring_all h)
  have h0 : ¬ ((n : Int) < 0) := by omega
  have h1 : (n : Int) ≤ (xs.length : Int) := by omega
  go_enter Tryz.func96, Tryz.ntmps96
  go_wp2_with (first | (go_at_call 99; refine hall.out.mono ?_; rintro e w1 ⟨v, rfl, hS1⟩; obtain ⟨ao, cap, rfl⟩ := hS1.rdI.len))
  go_loopw [14] (fun i wr => ∃ j : Nat, j ≤ n ∧ i = vi j ∧ Sat w0 (sl 3 1 (.slice ao xs.length cap) xs.length (xs.map vi) * (ringP p most (xs.drop j) * F)) wr) (fun i _ => n - (intOf i).toNat)
  case atStart => exact ⟨0, Nat.zero_le _, rfl, hS1⟩
  case round =>
    obtain ⟨j, hj, rfl, hS⟩ := hrel
    clear hS1
    by_cases hlt : j < n
    · go_wp2_with (go_at_call 107; refine (ring_pop hS.pull2).mono ?_; rintro e w2 ⟨rfl, hS2⟩)
      go_roundw
      case rel => exact ⟨j + 1, by omega, by go_num, by rw [List.tail_drop] at hS2; exact hS2.pull2⟩
      case measure => simp [intOf]; omega
    · obtain rfl : n = j := by omega
      have hfin := hS.slPre' (k := n) (by omega)
      have HF := Lib.hid hfin
      have hcap := hS.capOk
      clear hfin hS
      go_wp2
      go_ret
      exact ⟨_, rfl, by rw [List.map_take]; exact HF.out⟩

set_option maxHeartbeats 800000 in
theorem ring_take_l {w0 w : World} {p most : Nat} {xs : List Int} {F : Hp} (h : Sat w0 (ringP p most xs * F) w) (n : Nat) (hn : xs.length ≤ n) :
    Calls Tryz.prog 96 #[vp p, vi n] w fun e w' => ∃ v, e = .returned v ∧ Sat w0 (sl 3 1 v xs.length ((xs.take xs.length).map vi) * (ringP p most (xs.drop xs.length) * F)) w' := by
  have hl := h.ringLen
  have hall := Lib.hid (ring_all h)
  have h0 : ¬ ((n : Int) < 0) := by omega
  by_cases he : n = xs.length
  · subst he
    go_enter Tryz.func96, Tryz.ntmps96
    go_wp2_with (first | (go_at_call 99; refine hall.out.mono ?_; rintro e w1 ⟨v, rfl, hS1⟩; obtain ⟨ao, cap, rfl⟩ := hS1.rdI.len))
    go_loopw [14] (fun i wr => ∃ j : Nat, j ≤ xs.length ∧ i = vi j ∧ Sat w0 (sl 3 1 (.slice ao xs.length cap) xs.length (xs.map vi) * (ringP p most (xs.drop j) * F)) wr) (fun i _ => xs.length - (intOf i).toNat)
    case atStart => exact ⟨0, Nat.zero_le _, rfl, hS1⟩
    case round =>
      obtain ⟨j, hj, rfl, hS⟩ := hrel
      clear hS1
      by_cases hlt : j < xs.length
      · go_wp2_with (go_at_call 107; refine (ring_pop hS.pull2).mono ?_; rintro e w2 ⟨rfl, hS2⟩)
        go_roundw
        case rel => exact ⟨j + 1, by omega, by go_num, by rw [List.tail_drop] at hS2; exact hS2.pull2⟩
        case measure => simp [intOf]; omega
      · obtain rfl : xs.length = j := by omega
        have hfin := hS.slPre' (k := xs.length) (by omega)
        have HF := Lib.hid hfin
        have hcap := hS.capOk
        clear hfin hS
        go_wp2
        go_ret
        exact ⟨_, rfl, by rw [List.map_take]; exact HF.out⟩
  · have h1 : ¬ ((n : Int) ≤ (xs.length : Int)) := by omega
    go_enter Tryz.func96, Tryz.ntmps96
    go_wp2_with (first | (go_at_call 99; refine hall.out.mono ?_; rintro e w1 ⟨v, rfl, hS1⟩; obtain ⟨ao, cap, rfl⟩ := hS1.rdI.len))
    go_loopw [14] (fun i wr => ∃ j : Nat, j ≤ xs.length ∧ i = vi j ∧ Sat w0 (sl 3 1 (.slice ao xs.length cap) xs.length (xs.map vi) * (ringP p most (xs.drop j) * F)) wr) (fun i _ => xs.length - (intOf i).toNat)
    case atStart => exact ⟨0, Nat.zero_le _, rfl, hS1⟩
    case round =>
      obtain ⟨j, hj, rfl, hS⟩ := hrel
      clear hS1
      by_cases hlt : j < xs.length
      · go_wp2_with (go_at_call 107; refine (ring_pop hS.pull2).mono ?_; rintro e w2 ⟨rfl, hS2⟩)
        go_roundw
        case rel => exact ⟨j + 1, by omega, by go_num, by rw [List.tail_drop] at hS2; exact hS2.pull2⟩
        case measure => simp [intOf]; omega
      · obtain rfl : xs.length = j := by omega
        have hfin := hS.slPre' (k := xs.length) (by omega)
        have HF := Lib.hid hfin
        have hcap := hS.capOk
        clear hfin hS
        go_wp2
        go_ret
        exact ⟨_, rfl, by rw [List.map_take]; exact HF.out⟩

theorem ring_take {w0 w : World} {p most : Nat} {xs : List Int} {F : Hp} (h : Sat w0 (ringP p most xs * F) w) (n : Int) :
    Calls Tryz.prog 96 #[vp p, vi n] w fun e w' => ∃ v, e = .returned v ∧ Sat w0 (sl 3 1 v (takeK n xs) ((xs.take (takeK n xs)).map vi) * (ringP p most (xs.drop (takeK n xs)) * F)) w' := by
  unfold takeK
  by_cases h0 : n < 0
  · rw [show min n.toNat xs.length = 0 by omega]
    exact ring_take_0 h n h0
  · obtain ⟨m, rfl⟩ := Int.eq_ofNat_of_zero_le (show 0 ≤ n by omega)
    by_cases h1 : m < xs.length
    · rw [show min ((m : Int)).toNat xs.length = m by omega]
      exact ring_take_n h m h1
    · rw [show min ((m : Int)).toNat xs.length = xs.length by omega]
      exact ring_take_l h m (by omega)

/-! ### slices.Clone -/
/-! ### Copy -/
end Go.Proofs.YtjgemfgneiaabaaGreat

namespace Go.Proofs.YtjgemfgneiaabaaGreat
open Go.RowKit
set_option linter.unusedVariables false

/-! ### Same -/
/-! ### Remove -/
theorem ring_at (bx p a : Nat) (len cap f i j : Nat) (ii : Int) (hii : ii = i) (w : World) (hlen : 0 < len) (hm : len ≤ 4096) (hf : f < len) (hi : i ≤ 4096) (hj : j = (f + i) % len)
    (cb : w.cell? ⟨bx, 0, none⟩ = some (vp p))
    (c0 : w.cell? ⟨p, 0, none⟩ = some (.slice (some ⟨a, 0, none⟩) len cap))
    (c1 : w.cell? ⟨p, 1, none⟩ = some (.int .i64 f)) :
    Calls Tryz.prog 114 #[vi ii, vp bx] w fun e w' => e = .returned (.pointer (some ⟨a, j, none⟩)) ∧ ∃ k, w' = w.drewN k := by
  subst hii
  have hlt : j < len := by rw [hj]; exact Nat.mod_lt _ hlen
  have ht : ((f : Int) + i) % len = (j : Int) := by rw [hj]; simp
  clear hj
  go_enter Tryz.func114, Tryz.ntmps114
  go_wp2
  go_quiet (fail)
  go_wp2
  go_ret
  exact ⟨rfl, _, rfl⟩

theorem RingOk.set {s : RingS} {most : Nat} {xs : List Int} (h : RingOk s most xs) {i : Nat} (hi : i < xs.length) (y : Int) :
    RingOk ⟨s.a, s.cap, s.arr.set ((s.f + i) % most) y, s.f⟩ most (xs.set i y) := by
  have hpos := h.pos
  have hn := h.n
  refine ⟨h.pos, h.small, by simp [h.len], h.f, by simpa using h.n, fun j hj => ?_⟩
  simp only [List.length_set] at hj
  show (s.arr.set _ y)[(s.f + j) % most]? = _
  by_cases hij : i = j
  · subst hij
    rw [List.getElem?_set_self (by rw [h.len]; exact Nat.mod_lt _ h.pos), List.getElem?_set_self hj]
  · rw [List.getElem?_set_ne ?_, List.getElem?_set_ne hij]
    · exact h.at_ j hj
    · intro e
      have h1 := h.f
      have a1 : (s.f + i) % most = if s.f + i < most then s.f + i else s.f + i - most := by
        split
        · exact Nat.mod_eq_of_lt (by omega)
        · rw [Nat.mod_eq_sub_mod (by omega)]; exact Nat.mod_eq_of_lt (by omega)
      have a2 : (s.f + j) % most = if s.f + j < most then s.f + j else s.f + j - most := by
        split
        · exact Nat.mod_eq_of_lt (by omega)
        · rw [Nat.mod_eq_sub_mod (by omega)]; exact Nat.mod_eq_of_lt (by omega)
      rw [a1, a2] at e
      split at e <;> split at e <;> omega

theorem RingOk.take {s : RingS} {most : Nat} {xs : List Int} (h : RingOk s most xs) (k : Nat) : RingOk s most (xs.take k) := by
  have := h.n
  refine ⟨h.pos, h.small, h.len, h.f, by simp; omega, fun i hi => ?_⟩
  simp only [List.length_take] at hi
  rw [h.at_ i (by omega), List.getElem?_take, if_pos (by omega)]

/-- The list while what lies behind a place moves up. -/
def shifted (xs : List Int) (p i : Nat) : List Int := (xs.eraseIdx p).take i ++ xs.drop i
theorem shifted_start (xs : List Int) (p : Nat) (hp : p < xs.length) : shifted xs p p = xs := by
  unfold shifted
  rw [List.eraseIdx_eq_take_drop_succ, List.take_append_of_le_length (by simp; omega), List.take_take]
  simp
theorem shifted_len (xs : List Int) (p i : Nat) (hp : p < xs.length) (hi : i + 1 ≤ xs.length) : (shifted xs p i).length = xs.length := by
  unfold shifted
  rw [List.length_append, List.length_take, List.length_eraseIdx, if_pos hp, List.length_drop]
  omega
theorem shifted_step (xs : List Int) (p i : Nat) (hp : p ≤ i) (hi : i + 1 < xs.length) : shifted xs p (i + 1) = (shifted xs p i).set i (xs[i + 1]?.getD 0) := by
  unfold shifted
  have hl : (xs.eraseIdx p).length = xs.length - 1 := by rw [List.length_eraseIdx, if_pos (by omega)]
  have hlt : ((xs.eraseIdx p).take i).length = i := by rw [List.length_take, hl]; omega
  rw [List.set_append, if_neg (by omega), hlt, Nat.sub_self]
  rw [List.take_succ_eq_append_getElem (by omega), List.append_assoc]
  congr 1
  rw [List.drop_eq_getElem_cons (i := i) (by omega), List.set_cons_zero]
  simp only [List.singleton_append]
  congr 1
  rw [List.getElem_eraseIdx_of_ge (by omega) hp]
  simp [hi]
theorem shifted_at (xs : List Int) (p i : Nat) (hp : p < xs.length) (hi : i + 1 < xs.length) : (shifted xs p i)[i + 1]?.getD 0 = xs[i + 1]?.getD 0 := by
  unfold shifted
  have hl : (xs.eraseIdx p).length = xs.length - 1 := by rw [List.length_eraseIdx, if_pos (by omega)]
  have hlt : ((xs.eraseIdx p).take i).length = i := by rw [List.length_take, hl]; omega
  rw [List.getElem?_append_right (by omega), hlt, List.getElem?_drop]
  congr 2
  omega
theorem shifted_end (xs : List Int) (p : Nat) (hp : p < xs.length) : (shifted xs p (xs.length - 1)).take (xs.length - 1) = xs.eraseIdx p := by
  unfold shifted
  have hl : (xs.eraseIdx p).length = xs.length - 1 := by rw [List.length_eraseIdx, if_pos (by omega)]
  rw [List.take_of_length_le (l := xs.eraseIdx p) (by omega), List.take_append_of_le_length (by omega), List.take_of_length_le (by omega)]

theorem RingOk.eq {s : RingS} {most : Nat} {xs : List Int} (h : RingOk s most xs) (i : Nat) (hi : i < xs.length) : s.arr[(s.f + i) % most]?.getD 0 = xs[i]?.getD 0 := by rw [h.at_ i hi]
end Go.Proofs.YtjgemfgneiaabaaGreat

namespace Go.Proofs.YtjgemfgneiaabaaGreat
open Go.RowKit
set_option linter.unusedVariables false

set_option maxRecDepth 100000 in
set_option maxHeartbeats 2000000 in
theorem ring_remove {w0 w : World} {p most : Nat} {xs : List Int} {F : Hp} (h : Sat w0 (ringP p most xs * F) w) (x : Int) :
    Calls Tryz.prog 102 #[vp p, vi x] w fun e w' => e = .returned (.bool (decide (x ∈ xs))) ∧ Sat w0 (ringP p most (xs.erase x) * F) w' := by
  obtain ⟨s, R⟩ := h.ring
  have hpos := R.ok.pos
  have hsmall := R.ok.small
  have hn := R.ok.n
  have hf := R.ok.f
  have hB := R.sat.alloc (.cells #[vp p] 115)
  have hB' : Sat w0 (pc w.heap.size 115 [vp p] * (ringB p s most xs.length * (ringA s most * F))) (w.alloc (.cells #[vp p] 115)) := hB
  have HB := Lib.hid hB'
  have cb := hB'.cell 0 rfl
  have c0 := hB'.pull2.cell 0 rfl
  have c1 := hB'.pull2.cell 1 rfl
  have c2 := hB'.pull2.cell 2 rfl
  have ok := R.ok
  have hfin : ∀ (w' : World) (s' : RingS) (ys : List Int), RingOk s' most ys → Sat w0 (pc w.heap.size 115 [vp p] * (ringB p s' most ys.length * (ringA s' most * F))) w' → Sat w0 (ringP p most ys * F) w' :=
    fun w' s' ys ok' h' => Sat.ringI s' ok' h'.dropL
  have HF := Lib.hid hfin
  have OK := Lib.hid ok
  clear hfin ok hB hB' R h
  go_enter Tryz.func102, Tryz.ntmps102
  go_wp2_with fail
  go_step3
  go_wp2_with fail
  generalize hwb : w.alloc (.cells #[vp p] 115) = wb at *
  generalize w.heap.size = bx at *
  clear hwb
  refine (ring_none_at p s.a most s.cap _ hpos hsmall c0).mono ?_
  rintro e w' ⟨rfl, rfl⟩
  go_wp2
  go_step3
  go_wp2
  have hXS : ∀ i, i < xs.length → s.arr[(s.f + i) % most]?.getD 0 = xs[i]?.getD 0 := OK.out.eq
  have HXS := Lib.hid hXS
  clear hXS
  go_loopw [6, 16] (fun pl i wr => ∃ k : Nat, k ≤ xs.length ∧ i = vi k ∧ pl = vi (-1) ∧ Hid (∀ j, j < k → xs[j]?.getD 0 ≠ x) ∧ ∃ n, wr = wb.drewN n) (fun _ i _ => xs.length - (intOf i).toNat)
  case atStart => exact ⟨0, Nat.zero_le _, rfl, rfl, Lib.hid (fun j hj => by omega), 0, rfl⟩
  case round =>
    obtain ⟨k, hk, rfl, rfl, hno, n, rfl⟩ := hrel
    by_cases hlt : k < xs.length
    · obtain ⟨j, hj⟩ : ∃ j, j = (s.f + k) % most := ⟨_, rfl⟩
      have hjl : j < most := by rw [hj]; exact Nat.mod_lt _ hpos
      have hat := Lib.hid (ring_at bx p s.a most s.cap s.f k j _ rfl (wb.drewN n) hpos hsmall hf (by omega) hj cb c0 c1)
      have ca := (HB.out.pull3).slCell j (u := vi (xs[k]?.getD 0)) (by
        have h1 := HXS.out k hlt
        have h2 : j < s.arr.length := by rw [OK.out.len]; exact hjl
        rw [← hj] at h1
        rw [← h1]
        simp [h2])
      clear hj
      generalize hy : xs[k]?.getD 0 = y at *
      have hy' := Lib.hid hy
      clear hy
      by_cases hxy : y = x
      · subst hxy
        go_wp2_with (go_at_call 114; refine hat.out.mono ?_; rintro e w' ⟨rfl, m, rfl⟩)
        have herase : xs.eraseIdx k = xs.erase y := by
          have h1 := findI_hit hlt hno.out hy'.out
          have h2 := findI_erase (xs := xs) (x := y) (by omega)
          rw [h1] at h2
          exact h2.1
        have hmem : y ∈ xs := by
          have := List.getElem_mem (l := xs) hlt
          rw [show xs[k] = y by have := hy'.out; simpa [hlt] using this] at this
          exact this
        have HE := Lib.hid herase
        have HM := Lib.hid hmem
        have hstart : RingOk ⟨s.a, s.cap, s.arr, s.f⟩ most (shifted xs k k) := by rw [shifted_start xs k hlt]; exact ⟨OK.out.pos, OK.out.small, OK.out.len, OK.out.f, OK.out.n, OK.out.at_⟩
        have HSt := Lib.hid hstart
        clear herase hmem hstart hat ca HXS
        go_loopw [8] (fun i wr => ∃ (m : Nat) (arr : List Int), k ≤ m ∧ m + 1 ≤ xs.length ∧ i = vi m ∧ Hid (RingOk ⟨s.a, s.cap, arr, s.f⟩ most (shifted xs k m)) ∧
            Sat w0 (pc bx 115 [vp p] * (ringB p s most xs.length * (sl 3 1 (.slice (some ⟨s.a, 0, none⟩) most s.cap) most (arr.map vi) * F))) wr) (fun i _ => xs.length - (intOf i).toNat)
        case atStart => exact ⟨k, s.arr, Nat.le_refl _, by omega, rfl, HSt, HB.out.drewN _⟩
        case round =>
          obtain ⟨m2, arr, hkm, hml, rfl, OK2, hS⟩ := hrel
          have d0 := hS.cell 0 rfl
          have e0 := hS.pull2.cell 0 rfl
          have e1 := hS.pull2.cell 1 rfl
          have e2 := hS.pull2.cell 2 rfl
          have e3 := hS.pull2.free 2
          clear cb c0 c1 c2
          by_cases hlt2 : m2 + 1 < xs.length
          · obtain ⟨j1, hj1⟩ : ∃ j, j = (s.f + m2) % most := ⟨_, rfl⟩
            obtain ⟨j2, hj2⟩ : ∃ j, j = (s.f + (m2 + 1)) % most := ⟨_, rfl⟩
            have hj1l : j1 < most := by rw [hj1]; exact Nat.mod_lt _ hpos
            have hj2l : j2 < most := by rw [hj2]; exact Nat.mod_lt _ hpos
            have hlen := OK2.out.len
            have hsl := shifted_len xs k m2 hlt (by omega)
            have hA1 := Lib.hid (fun W => ring_at bx p s.a most s.cap s.f m2 j1 m2 rfl W hpos hsmall hf (by omega) hj1)
            have hA2 := Lib.hid (fun W => ring_at bx p s.a most s.cap s.f (m2 + 1) j2 ((m2 : Int) + 1) (by omega) W hpos hsmall hf (by omega) hj2)
            obtain ⟨z, hz⟩ : ∃ z, z = xs[m2 + 1]?.getD 0 := ⟨_, rfl⟩
            have ca2 := (hS.pull3).slCell j2 (u := vi z) (by
              have h1 := OK2.out.eq (m2 + 1) (by omega)
              have h2 : j2 < arr.length := by have : arr.length = most := hlen; omega
              rw [shifted_at xs k m2 hlt hlt2, ← hz] at h1
              rw [← hj2] at h1
              rw [← h1]
              simp [h2])
            have ca1 := (hS.pull3).slCell j1 (u := vi (arr[j1]?.getD 0)) (by
              have h2 : j1 < arr.length := by have : arr.length = most := hlen; omega
              simp [h2])
            have hfa := (hS.pull3).slFree j1
            have hnext := OK2.out.set (i := m2) (by omega) z
            have hstep := shifted_step xs k m2 hkm hlt2
            rw [← hz] at hstep
            rw [← hstep] at hnext
            have hSn : ∀ N, Sat w0 (pc bx 115 [vp p] * (ringB p s most xs.length * (sl 3 1 (.slice (some ⟨s.a, 0, none⟩) most s.cap) most ((arr.set j1 z).map vi) * F))) ((wr.drewN N).setCell ⟨s.a, j1, none⟩ (vi z)) := fun N => by
              have h2 := ((hS.drewN N).pull3.slStore j1 (by omega) (vi z))
              rw [List.map_set]
              exact h2.rot3
            rw [← hj1] at hnext
            have HN2 := Lib.hid hnext
            have HSn := Lib.hid hSn
            clear hnext hstep hSn hj1 hj2 hz hS hlen hsl
            go_wp2_with fail
            refine (hA1.out _ d0 e0 e1).mono ?_
            rintro e w' ⟨rfl, q1, rfl⟩
            go_wp2_with fail
            refine (hA2.out (wr.drewN q1) d0 e0 e1).mono ?_
            rintro e w' ⟨rfl, q2, rfl⟩
            go_wp2
            go_roundw
            case rel => exact ⟨m2 + 1, arr.set j1 z, by omega, by omega, by go_num, HN2, HSn.out _⟩
            case measure => simp [intOf]; omega
          · have hml2 : m2 + 1 = xs.length := by omega
            have hend := shifted_end xs k hlt
            have hok := OK2.out.take (xs.length - 1)
            rw [show m2 = xs.length - 1 by omega, hend, HE.out] at hok
            have hel : (xs.erase y).length = xs.length - 1 := by rw [List.length_erase, if_pos HM.out]
            have hSn : Sat w0 (pc bx 115 [vp p] * (ringB p ⟨s.a, s.cap, arr, s.f⟩ most (xs.erase y).length * (ringA ⟨s.a, s.cap, arr, s.f⟩ most * F))) (wr.setCell ⟨p, 2, none⟩ (vi ((xs.length : Int) - 1))) := by
              have h2 := (hS.pull2.store 2 (vi ((xs.length : Int) - 1))).pull2
              refine h2.cast ?_
              have e : ((xs.length : Int) - 1) = (((xs.erase y).length : Nat) : Int) := by omega
              rw [e]
              rfl
            have HK := Lib.hid hok
            have HSn := Lib.hid hSn
            clear hok hSn hend hel hml2 hS
            go_wp2
            rw [Exit.noGoto_ret]
            go_ret
            exact ⟨by rw [decide_eq_true HM.out]; rfl, HF.out _ _ _ HK.out HSn.out⟩
      · have hne : (y == x) = false := by simpa using hxy
        go_wp2_with (go_at_call 114; refine hat.out.mono ?_; rintro e w' ⟨rfl, m, rfl⟩)
        go_roundw
        case rel => exact ⟨k + 1, by omega, by go_num, rfl, Lib.hid (fun j hj => by
          rcases Nat.lt_or_ge j k with h1 | h1
          · exact hno.out j h1
          · obtain rfl : j = k := by omega
            rw [hy'.out]; exact hxy), _, rfl⟩
        case measure => simp [intOf]; omega
    · obtain rfl : xs.length = k := by omega
      have hnm : x ∉ xs := by
        intro hm
        obtain ⟨i, hi, rfl⟩ := List.getElem_of_mem hm
        exact hno.out i hi (by simp [hi])
      have HN := Lib.hid hnm
      clear hnm
      go_wp2
      rw [Exit.noGoto_ret]
      go_ret
      refine ⟨by rw [decide_eq_false HN.out]; rfl, ?_⟩
      rw [List.erase_of_not_mem HN.out]
      exact HF.out _ s xs OK.out (HB.out.drewN _)
end Go.Proofs.YtjgemfgneiaabaaGreat
