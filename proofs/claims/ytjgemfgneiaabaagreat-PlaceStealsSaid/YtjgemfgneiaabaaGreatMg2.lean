/-
  Contracts of package ring, second part: All, New. No statement is proved here.
-/
import Derived.Test.YtjgemfgneiaabaaGreatRing
namespace Go.Proofs.YtjgemfgneiaabaaGreat
open Go.RowKit
set_option linter.unusedVariables false

theorem take_snoc_int (xs : List Int) (k : Nat) (h : k < xs.length) : (xs.take (k + 1)).map vi = (xs.take k).map vi ++ [vi xs[k]] := by
  rw [List.take_succ_eq_append_getElem h, List.map_append]
  simp

set_option maxRecDepth 100000 in
set_option maxHeartbeats 1000000 in
theorem ring_all {w0 w : World} {p most : Nat} {xs : List Int} {F : Hp} (h : Sat w0 (ringP p most xs * F) w) :
    Calls Tryz.prog 99 #[vp p] w fun e w' => ∃ v, e = .returned v ∧ Sat w0 (sl 3 1 v xs.length (xs.map vi) * (ringP p most xs * F)) w' := by
  obtain ⟨s, R⟩ := h.ring
  have hpos := R.ok.pos
  have hsmall := R.ok.small
  have hn := R.ok.n
  have c0 := R.c0
  have c1 := R.c1
  have c2 := R.c2
  by_cases hx0 : xs = []
  · subst hx0
    go_enter Tryz.func99, Tryz.ntmps99
    go_wp2_with (go_at_call 111; refine (ring_none R).mono ?_; rintro e w' ⟨rfl, rfl⟩)
    go_ret
    exact ⟨_, rfl, h.addNil _ _⟩
  · have hx1 : 0 < xs.length := List.length_pos_iff.2 hx0
    have hl0 : ((xs.length : Int) == 0) = false := by simp; omega
    obtain ⟨f, hf⟩ : ∃ f, f = s.f := ⟨_, rfl⟩
    have hflt : f < most := hf ▸ R.ok.f
    have hat : ∀ i, i < xs.length → s.arr[(f + i) % most]? = xs[i]? := hf ▸ R.ok.at_
    have hS0 : Hid (Sat w0 (sl 3 1 (.slice none 0 0) 0 [] * (pc p 139 [.slice (some ⟨s.a, 0, none⟩) most s.cap, vi f, vi xs.length] * (sl 3 1 (.slice (some ⟨s.a, 0, none⟩) most s.cap) most (s.arr.map vi) * F))) w) := Lib.hid (by subst hf; exact R.sat.addNil _ _)
    have hfin : ∀ v w', Sat w0 (sl 3 1 v xs.length (xs.map vi) * (pc p 139 [.slice (some ⟨s.a, 0, none⟩) most s.cap, vi f, vi xs.length] * (sl 3 1 (.slice (some ⟨s.a, 0, none⟩) most s.cap) most (s.arr.map vi) * F))) w' → Sat w0 (sl 3 1 v xs.length (xs.map vi) * (ringP p most xs * F)) w' := by
      intro v w' hS
      subst hf
      exact (Sat.ringI s R.ok hS.rot3).pull2
    have hFin := Lib.hid hfin
    have hAt := Lib.hid hat
    have hlen := R.ok.len
    have hLen := Lib.hid hlen
    have hNone := Lib.hid (ring_none R)
    rw [← hf] at c1
    generalize s.a = a at *
    generalize s.arr = arr at *
    generalize s.cap = rcap at *
    clear hfin hat hlen R hf h hx0
    have hS0' := hS0.out
    have hsl := hS0'.addNil
    go_enter Tryz.func99, Tryz.ntmps99
    go_wp2_with (first | (go_at_call 111; refine hNone.out.mono ?_; rintro e w' ⟨rfl, rfl⟩) | (at_make; refine wpList_make_sl Einti rfl _ _ rfl .i64 .i64 0 xs.length 0 xs.length rfl rfl rfl rfl (by omega) (by omega) (by omega) hS0'.dropL ?_; intro g w1 hM; have d0 := (hM.swap.cast (sep_assoc _ _ _)).cell 0 rfl; have d1 := (hM.swap.cast (sep_assoc _ _ _)).cell 1 rfl; have d2 := (hM.swap.cast (sep_assoc _ _ _)).cell 2 rfl))
    have hM' : Sat w0 (sl 3 1 (.slice (some ⟨g, 0, none⟩) 0 xs.length) 0 [] * (pc p 139 [.slice (some ⟨a, 0, none⟩) most rcap, vi f, vi xs.length] * (sl 3 1 (.slice (some ⟨a, 0, none⟩) most rcap) most (arr.map vi) * F))) w1 :=
      hM.slI (by omega) (by unfold maxLen; omega) (by rw [madeCells_int]; simp) (by simp)
    clear hM hsl hS0' hS0 c0 c1 c2 d0 d1 d2 hNone
    go_loopw [3, 23] (fun v i wr => ∃ k : Nat, k ≤ xs.length ∧ i = vi k ∧ Sat w0 (sl 3 1 v k ((xs.take k).map vi) * (pc p 139 [.slice (some ⟨a, 0, none⟩) most rcap, vi f, vi xs.length] * (sl 3 1 (.slice (some ⟨a, 0, none⟩) most rcap) most (arr.map vi) * F))) wr) (fun _ i _ => xs.length - (intOf i).toNat)
    case atStart => exact ⟨0, Nat.zero_le _, rfl, hM'⟩
    case round =>
      obtain ⟨k, hk, rfl, hS⟩ := hrel
      clear hM'
      by_cases hlt : k < xs.length
      · obtain ⟨i, hi⟩ : ∃ i, i = (f + k) % most := ⟨_, rfl⟩
        have hil : i < most := by rw [hi]; exact Nat.mod_lt _ hpos
        have ht : ((f : Int) + k) % most = (i : Int) := by rw [hi]; simp
        have ht2 : ((f : Int) + k).tmod most = (i : Int) := by rw [Int.tmod_eq_emod_of_nonneg (by omega)]; exact ht
        have hw1 : IntKind.i64.wrap ((f : Int) + k) = (f : Int) + k := IntWalk.i64_in _ (by omega)
        have hmz : most ≠ 0 := by omega
        have hi0 : (0 : Int) ≤ (i : Int) := by omega
        have hi1 : (i : Int) < (most : Int) := by omega
        have hP := hS.cast (show _ = pc p 139 [.slice (some ⟨a, 0, none⟩) most rcap, vi f, vi xs.length] * (sl 3 1 u3 k ((xs.take k).map vi) * (sl 3 1 (.slice (some ⟨a, 0, none⟩) most rcap) most (arr.map vi) * F)) by ac_rfl)
        have hQ := hS.cast (show _ = sl 3 1 (.slice (some ⟨a, 0, none⟩) most rcap) most (arr.map vi) * (sl 3 1 u3 k ((xs.take k).map vi) * (pc p 139 [.slice (some ⟨a, 0, none⟩) most rcap, vi f, vi xs.length] * F)) by ac_rfl)
        have c0 := hP.cell 0 rfl
        have c1 := hP.cell 1 rfl
        have hci : (arr.map vi)[i]? = some (vi (xs[k]?.getD 0)) := by
          have := hAt.out k hlt
          rw [← hi] at this
          simp [this, hlt]
        have ca := hQ.slCell i hci
        have hCi := Lib.hid hci
        have hpl := hP.lt
        have hal := hQ.slLt
        clear hi hP hQ hci ht
        go_wp2
        go_region_held3 (fun w' => w'.cell? ⟨p, 0, none⟩ = some (.slice (some ⟨a, 0, none⟩) most rcap) ∧ w'.cell? ⟨p, 1, none⟩ = some (vi f) ∧ w'.cell? ⟨a, i, none⟩ = some (vi (xs[k]?.getD 0)))
          (first | (exact ⟨hP1.cell 0 rfl, hP1.cell 1 rfl, hQ1.slCell i hCi.out⟩) | go_keep)
          ((refine step_append_sl Einti (by rfl) _ _ (by rfl) (by rfl) ((hS.alloc' _).drew) (by rfl) ((Rd.one _ _ _)) (by simp [Value.oneCell']) (by unfold maxLen; omega) (by omega) ?_; intro ao' cap' w2 hS2; have hP1 := hS2.dropL; have hQ1 := hP1.swap.cast (sep_assoc _ _ _)))
        go_wp2
        go_roundw
        case rel => exact ⟨k + 1, by omega, by go_num, by rw [take_snoc_int xs k hlt]; exact hS2⟩
        case measure => simp [intOf]; omega
      · obtain rfl : k = xs.length := by omega
        go_wp2
        go_ret
        exact ⟨_, rfl, hFin.out _ _ (by rw [List.take_length] at hS; exact hS)⟩

/-! ### New -/
theorem ring_new (most : Int) (hm : 1 ≤ most) (hm' : most ≤ 4096) {w0 w : World} {F : Hp} (h : Sat w0 F w) :
    Calls Tryz.prog 77 #[vi most] w fun e w' => ∃ p, e = .returned (.tuple #[vp p, vi 0]) ∧ Sat w0 (ringP p most.toNat [] * F) w' := by
  obtain ⟨m, rfl⟩ := Int.eq_ofNat_of_zero_le (show 0 ≤ most by omega)
  have h1 : ¬ ((m : Int) < 1) := by omega
  have h2 : ¬ (4096 < (m : Int)) := by omega
  go_enter Tryz.func77, Tryz.ntmps77
  go_wp2_with (at_make; refine wpList_make_sl Einti rfl _ _ rfl .i64 .i64 m m m m rfl rfl rfl rfl (by omega) (by omega) (by omega) h ?_; intro g w1 hM)
  go_ret2
  refine ⟨w1.heap.size, rfl, Sat.ringI ⟨g, m, List.replicate m 0, 0⟩ ⟨by omega, by omega, by simp, (show 0 < m by omega), by simp, by simp⟩ ?_⟩
  rw [madeCells_int] at hM
  have hM2 := hM.slI (n := m) (cap := m) (size := 1) (xs := (List.replicate m (0 : Int)).map vi) (Nat.le_refl _) (by unfold maxLen; omega) (by simp) (by rw [Nat.mul_one, List.take_of_length_le (by simp)])
  exact hM2.alloc (.cells #[.slice (some ⟨g, 0, none⟩) m m, vi 0, vi 0] 139)

theorem ring_new_no (most : Int) (hm : most < 1 ∨ 4096 < most) (w : World) :
    Calls Tryz.prog 77 #[vi most] w fun e w' => e = .returned (.tuple #[.pointer none, vi 2]) ∧ w = w' := by
  by_cases h1 : most < 1
  · go_enter Tryz.func77, Tryz.ntmps77
    go_wp2
    go_ret2
    exact ⟨rfl, rfl⟩
  · have h2 : 4096 < most := by omega
    go_enter Tryz.func77, Tryz.ntmps77
    go_wp2
    go_ret2
    exact ⟨rfl, rfl⟩
end Go.Proofs.YtjgemfgneiaabaaGreat

namespace Go.Proofs.YtjgemfgneiaabaaGreat
open Go.RowKit
set_option linter.unusedVariables false

def RdI (w : World) (v : Value) (xs : List Int) : Prop := Rd w 1 v xs.length (xs.map vi)
theorem RdI.len {w : World} {v : Value} {xs : List Int} (h : RdI w v xs) : ∃ ao cap, v = .slice ao xs.length cap := Rd.len h
theorem RdI.at_ {w : World} {ao : Option Addr} {cap n : Nat} {xs : List Int} (h : RdI w (.slice ao n cap) xs) (hn : xs.length ≠ 0) : ∃ b off, ao = some ⟨b, off, none⟩ ∧ ∀ k, k < xs.length → w.cell? ⟨b, off + k, none⟩ = some (vi (xs[k]?.getD 0)) := by
  obtain ⟨b, off, c, e, hc⟩ := Rd.pos h hn
  cases e
  exact ⟨b, off, rfl, fun k hk => hc k _ (by simp [hk])⟩
theorem RdI.drewN {w : World} {v : Value} {xs : List Int} (h : RdI w v xs) (k : Nat) : RdI (w.drewN k) v xs := h
theorem Sat.rdI {w0 w : World} {F : Hp} {e : TypeId} {v : Value} {xs : List Int} (h : Sat w0 (sl e 1 v xs.length (xs.map vi) * F) w) : RdI w v xs := h.rd

def findI (xs : List Int) (x : Int) : Int := if x ∈ xs then (xs.idxOf x : Int) else -1

theorem findI_hit {xs : List Int} {x : Int} {k : Nat} (hk : k < xs.length) (hno : ∀ j, j < k → xs[j]?.getD 0 ≠ x) (hx : xs[k]?.getD 0 = x) : findI xs x = k := by
  have hx' : xs[k] = x := by simpa [hk] using hx
  unfold findI
  rw [if_pos (hx' ▸ List.getElem_mem hk)]
  congr 1
  have h1 : xs.idxOf x ≤ k := by
    rcases Nat.lt_or_ge k (xs.idxOf x) with h | h
    · exact absurd hx' (by simpa using List.not_of_lt_findIdx (p := (· == x)) h)
    · exact h
  rcases Nat.lt_or_ge (xs.idxOf x) k with h | h
  · exfalso
    have hl : xs.idxOf x < xs.length := by omega
    refine hno _ h ?_
    rw [List.getElem?_eq_getElem hl]
    simp
  · omega
theorem findI_miss {xs : List Int} {x : Int} (hno : ∀ j, j < xs.length → xs[j]?.getD 0 ≠ x) : findI xs x = -1 := by
  unfold findI
  rw [if_neg]
  intro hm
  obtain ⟨j, hj, rfl⟩ := List.getElem_of_mem hm
  exact hno j hj (by simp [hj])

theorem slices_index (x : Int) (xs : List Int) (v : Value) (w : World) (h : RdI w v xs) (hl : xs.length ≤ 1000000) :
    Calls Tryz.prog 112 #[v, vi x] w fun e w' => e = .returned (vi (findI xs x)) ∧ w = w' := by
  obtain ⟨ao, cap, rfl⟩ := h.len
  go_enter Tryz.func112, Tryz.ntmps112
  go_wp2
  go_loop [8] (fun i => ∃ k : Nat, k ≤ xs.length ∧ i = vi k ∧ Hid (∀ j, j < k → xs[j]?.getD 0 ≠ x)) (fun i => xs.length - (intOf i).toNat)
  case atStart => exact ⟨0, Nat.zero_le _, rfl, Lib.hid (fun j hj => by omega)⟩
  case round =>
    obtain ⟨k, hk, rfl, hno⟩ := hrel
    by_cases hlt : k < xs.length
    · obtain ⟨b, off, rfl, hc⟩ := h.at_ (by omega)
      have hck := hc k hlt
      clear hc
      generalize hy : xs[k]?.getD 0 = y at *
      have hy' := Lib.hid hy
      clear hy
      by_cases hxy : x = y
      · subst hxy
        go_wp2
        go_ret
        exact ⟨by rw [findI_hit hlt hno.out hy'.out]; rfl, rfl⟩
      · have hne : (x == y) = false := by simpa using hxy
        go_wp2
        go_round
        case rel => exact ⟨k + 1, by omega, by go_num, Lib.hid (fun j hj => by
          rcases Nat.lt_or_ge j k with h1 | h1
          · exact hno.out j h1
          · obtain rfl : j = k := by omega
            rw [hy'.out]; exact fun e => hxy e.symm)⟩
        case measure => simp [intOf]; omega
    · obtain rfl : k = xs.length := by omega
      go_wp2
      go_ret
      exact ⟨by rw [findI_miss hno.out]; rfl, rfl⟩

theorem ref_find (x : Int) (xs : List Int) (v : Value) (w : World) (h : RdI w v xs) (hl : xs.length ≤ 1000000) :
    Calls Tryz.prog 78 #[v, vi x] w fun e w' => e = .returned (vi (findI xs x)) ∧ w = w' := by
  obtain ⟨ao, cap, rfl⟩ := h.len
  go_enter Tryz.func78, Tryz.ntmps78
  go_wp2
  go_loop [5] (fun i => ∃ k : Nat, k ≤ xs.length ∧ i = vi k ∧ Hid (∀ j, j < k → xs[j]?.getD 0 ≠ x)) (fun i => xs.length - (intOf i).toNat)
  case atStart => exact ⟨0, Nat.zero_le _, rfl, Lib.hid (fun j hj => by omega)⟩
  case round =>
    obtain ⟨k, hk, rfl, hno⟩ := hrel
    by_cases hlt : k < xs.length
    · obtain ⟨b, off, rfl, hc⟩ := h.at_ (by omega)
      have hck := hc k hlt
      clear hc
      generalize hy : xs[k]?.getD 0 = y at *
      have hy' := Lib.hid hy
      clear hy
      by_cases hxy : y = x
      · subst hxy
        go_wp2
        go_ret
        exact ⟨by rw [findI_hit hlt hno.out hy'.out]; rfl, rfl⟩
      · have hne : (y == x) = false := by simpa using hxy
        go_wp2
        go_round
        case rel => exact ⟨k + 1, by omega, by go_num, Lib.hid (fun j hj => by
          rcases Nat.lt_or_ge j k with h1 | h1
          · exact hno.out j h1
          · obtain rfl : j = k := by omega
            rw [hy'.out]; exact hxy)⟩
        case measure => simp [intOf]; omega
    · obtain rfl : k = xs.length := by omega
      go_wp2
      go_ret
      exact ⟨by rw [findI_miss hno.out]; rfl, rfl⟩

/-- Two lists are the same. -/
def sameI (xs ys : List Int) : Bool := decide (xs = ys)

theorem sameI_len {xs ys : List Int} (h : xs.length ≠ ys.length) : sameI xs ys = false := by
  simp only [sameI, decide_eq_false_iff_not]
  exact fun e => h (by rw [e])
theorem sameI_part {xs ys : List Int} {k : Nat} (h : xs[k]?.getD 0 ≠ ys[k]?.getD 0) : sameI xs ys = false := by
  simp only [sameI, decide_eq_false_iff_not]
  exact fun e => h (by rw [e])
theorem sameI_all {xs ys : List Int} (hl : xs.length = ys.length) (h : ∀ j, j < xs.length → xs[j]?.getD 0 = ys[j]?.getD 0) : sameI xs ys = true := by
  simp only [sameI, decide_eq_true_eq]
  apply List.ext_getElem hl
  intro i h1 h2
  have := h i h1
  simpa [h1, h2] using this

theorem ref_same (xs ys : List Int) (v u : Value) (w : World) (h : RdI w v xs) (h' : RdI w u ys) (hl : xs.length ≤ 1000000) (hl' : ys.length ≤ 1000000) :
    Calls Tryz.prog 72 #[v, u] w fun e w' => e = .returned (.bool (sameI xs ys)) ∧ ∃ k, w' = w.drewN k := by
  obtain ⟨ao, cap, rfl⟩ := h.len
  obtain ⟨ao', cap', rfl⟩ := h'.len
  by_cases hlen : xs.length = ys.length
  · have h0 : ((xs.length : Int) != (ys.length : Int)) = false := by simp; omega
    have hlen' := Lib.hid hlen
    clear hlen
    go_enter Tryz.func72, Tryz.ntmps72
    go_wp2
    go_loopw [5] (fun i wr => ∃ k : Nat, k ≤ xs.length ∧ i = vi k ∧ Hid (∀ j, j < k → xs[j]?.getD 0 = ys[j]?.getD 0) ∧ ∃ n, wr = w.drewN n) (fun i _ => xs.length - (intOf i).toNat)
    case atStart => exact ⟨0, Nat.zero_le _, rfl, Lib.hid (fun j hj => by omega), 0, rfl⟩
    case round =>
      obtain ⟨k, hk, rfl, hno, n, rfl⟩ := hrel
      by_cases hlt : k < xs.length
      · have hlt' : k < ys.length := hlen'.out ▸ hlt
        obtain ⟨b, off, rfl, hc⟩ := h.at_ (by omega)
        obtain ⟨b', off', rfl, hc'⟩ := h'.at_ (by omega)
        have hck := hc k hlt
        have hck' := hc' k hlt'
        clear hc hc'
        generalize hx : xs[k]?.getD 0 = x at *
        generalize hy : ys[k]?.getD 0 = y at *
        have hx' := Lib.hid hx
        have hy' := Lib.hid hy
        clear hx hy
        by_cases hxy : x = y
        · subst hxy
          go_wp2
          go_quiet (fail)
          go_wp2
          go_roundw
          case rel => exact ⟨k + 1, by omega, by go_num, Lib.hid (fun j hj => by
            rcases Nat.lt_or_ge j k with h1 | h1
            · exact hno.out j h1
            · obtain rfl : j = k := by omega
              rw [hx'.out, hy'.out]), _, rfl⟩
          case measure => simp [intOf]; omega
        · have hne : (x != y) = true := by simpa using hxy
          go_wp2
          go_quiet (fail)
          go_wp2
          go_ret
          exact ⟨by rw [sameI_part (k := k) (by rw [hx'.out, hy'.out]; exact hxy)]; rfl, _, World.drewN_drewN _ _ _⟩
      · obtain rfl : k = xs.length := by omega
        go_wp2
        go_ret
        exact ⟨by rw [sameI_all hlen'.out hno.out]; rfl, _, rfl⟩
  · have h0 : ((xs.length : Int) != (ys.length : Int)) = true := by simp; omega
    go_enter Tryz.func72, Tryz.ntmps72
    go_wp2
    go_ret
    exact ⟨by rw [sameI_len hlen]; rfl, 0, rfl⟩

theorem findI_ge (xs : List Int) (x : Int) : decide (0 ≤ findI xs x) = decide (x ∈ xs) := by
  unfold findI
  by_cases h : x ∈ xs
  · simp [h]
  · simp [h]
theorem findI_le (xs : List Int) (x : Int) : -1 ≤ findI xs x ∧ findI xs x ≤ xs.length := by
  unfold findI
  split
  · have := List.idxOf_le_length (a := x) (l := xs); omega
  · omega

theorem slices_contains (x : Int) (xs : List Int) (v : Value) (w : World) (h : RdI w v xs) (hl : xs.length ≤ 1000000) :
    Calls Tryz.prog 98 #[v, vi x] w fun e w' => e = .returned (.bool (decide (x ∈ xs))) ∧ w = w' := by
  have hb := findI_le xs x
  have hg := Lib.hid (findI_ge xs x)
  have hc := Lib.hid (slices_index x xs v w h hl)
  generalize findI xs x = f at *
  go_enter Tryz.func98, Tryz.ntmps98
  go_wp2_with (go_at_call 112; refine hc.out.mono ?_; rintro e w' ⟨rfl, rfl⟩)
  go_ret
  exact ⟨by rw [← hg.out]; rfl, rfl⟩
end Go.Proofs.YtjgemfgneiaabaaGreat
