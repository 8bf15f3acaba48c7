/-
  Contracts of package ring, second part: All, New. No statement is proved here.
-/
import Derived.Test.YtdbppfcilaajaaaGreatMg2
import Derived.ArgAppend
namespace Go.Proofs.YtdbppfcilaajaaaGreat
open Go.RowKit
set_option linter.unusedVariables false

theorem take_snoc_int (xs : List Int) (k : Nat) (h : k < xs.length) : (xs.take (k + 1)).map vi = (xs.take k).map vi ++ [vi xs[k]] := by
  rw [List.take_succ_eq_append_getElem h, List.map_append]
  simp

set_option maxRecDepth 100000 in
set_option maxHeartbeats 1000000 in
theorem ring_all {w0 w : World} {p most : Nat} {xs : List Int} {F : Hp} (h : Sat w0 (ringP p most xs * F) w) :
    Calls Tryz.prog 187 #[vp p] w fun e w' => ∃ v, e = .returned v ∧ Sat w0 (sl 3 1 v xs.length (xs.map vi) * (ringP p most xs * F)) w' := by
  obtain ⟨s, R⟩ := h.ring
  have hpos := R.ok.pos
  have hsmall := R.ok.small
  have hn := R.ok.n
  have c0 := R.c0
  have c1 := R.c1
  have c2 := R.c2
  by_cases hx0 : xs = []
  · subst hx0
    go_enter Tryz.func187, Tryz.ntmps187
    go_wp2_with (go_at_call 182; refine (ring_none R).mono ?_; rintro e w' ⟨rfl, rfl⟩)
    go_ret
    exact ⟨_, rfl, h.addNil _ _⟩
  · have hx1 : 0 < xs.length := List.length_pos_iff.2 hx0
    have hl0 : ((xs.length : Int) == 0) = false := by simp; omega
    obtain ⟨f, hf⟩ : ∃ f, f = s.f := ⟨_, rfl⟩
    have hflt : f < most := hf ▸ R.ok.f
    have hat : ∀ i, i < xs.length → s.arr[(f + i) % most]? = xs[i]? := hf ▸ R.ok.at_
    have hS0 : Hid (Sat w0 (sl 3 1 (.slice none 0 0) 0 [] * (pc p 327 [.slice (some ⟨s.a, 0, none⟩) most s.cap, vi f, vi xs.length] * (sl 3 1 (.slice (some ⟨s.a, 0, none⟩) most s.cap) most (s.arr.map vi) * F))) w) := Lib.hid (by subst hf; exact R.sat.addNil _ _)
    have hfin : ∀ v w', Sat w0 (sl 3 1 v xs.length (xs.map vi) * (pc p 327 [.slice (some ⟨s.a, 0, none⟩) most s.cap, vi f, vi xs.length] * (sl 3 1 (.slice (some ⟨s.a, 0, none⟩) most s.cap) most (s.arr.map vi) * F))) w' → Sat w0 (sl 3 1 v xs.length (xs.map vi) * (ringP p most xs * F)) w' := by
      intro v w' hS
      subst hf
      exact (Sat.ringI s R.ok hS.rot3).pull2
    have hFin := Lib.hid hfin
    have hAt := Lib.hid hat
    have hlen := R.ok.len
    have hLen := Lib.hid hlen
    have hNone := Lib.hid (ring_none R)
    rw [← hf] at c1
    generalize s.a = a at *
    generalize s.arr = arr at *
    generalize s.cap = rcap at *
    clear hfin hat hlen R hf h hx0
    have hS0' := hS0.out
    have hsl := hS0'.addNil
    go_enter Tryz.func187, Tryz.ntmps187
    go_wp2_with (first | (go_at_call 182; refine hNone.out.mono ?_; rintro e w' ⟨rfl, rfl⟩) | (at_make; refine wpList_make_sl Einti rfl _ _ rfl .i64 .i64 0 xs.length 0 xs.length rfl rfl rfl rfl (by omega) (by omega) (by omega) hS0'.dropL ?_; intro g w1 hM; have d0 := (hM.swap.cast (sep_assoc _ _ _)).cell 0 rfl; have d1 := (hM.swap.cast (sep_assoc _ _ _)).cell 1 rfl; have d2 := (hM.swap.cast (sep_assoc _ _ _)).cell 2 rfl))
    have hM' : Sat w0 (sl 3 1 (.slice (some ⟨g, 0, none⟩) 0 xs.length) 0 [] * (pc p 327 [.slice (some ⟨a, 0, none⟩) most rcap, vi f, vi xs.length] * (sl 3 1 (.slice (some ⟨a, 0, none⟩) most rcap) most (arr.map vi) * F))) w1 :=
      hM.slI (by omega) (by unfold maxLen; omega) (by rw [madeCells_int]; simp) (by simp)
    clear hM hsl hS0' hS0 c0 c1 c2 d0 d1 d2 hNone
    go_loopw [3, 23] (fun v i wr => ∃ k : Nat, k ≤ xs.length ∧ i = vi k ∧ Sat w0 (sl 3 1 v k ((xs.take k).map vi) * (pc p 327 [.slice (some ⟨a, 0, none⟩) most rcap, vi f, vi xs.length] * (sl 3 1 (.slice (some ⟨a, 0, none⟩) most rcap) most (arr.map vi) * F))) wr) (fun _ i _ => xs.length - (intOf i).toNat)
    case atStart => exact ⟨0, Nat.zero_le _, rfl, hM'⟩
    case round =>
      obtain ⟨k, hk, rfl, hS⟩ := hrel
      clear hM'
      by_cases hlt : k < xs.length
      · obtain ⟨i, hi⟩ : ∃ i, i = (f + k) % most := ⟨_, rfl⟩
        have hil : i < most := by rw [hi]; exact Nat.mod_lt _ hpos
        have ht : ((f : Int) + k) % most = (i : Int) := by rw [hi]; simp
        have ht2 : ((f : Int) + k).tmod most = (i : Int) := by rw [Int.tmod_eq_emod_of_nonneg (by omega)]; exact ht
        have hw1 : IntKind.i64.wrap ((f : Int) + k) = (f : Int) + k := IntWalk.i64_in _ (by omega)
        have hmz : most ≠ 0 := by omega
        have hi0 : (0 : Int) ≤ (i : Int) := by omega
        have hi1 : (i : Int) < (most : Int) := by omega
        have hP := hS.cast (show _ = pc p 327 [.slice (some ⟨a, 0, none⟩) most rcap, vi f, vi xs.length] * (sl 3 1 u3 k ((xs.take k).map vi) * (sl 3 1 (.slice (some ⟨a, 0, none⟩) most rcap) most (arr.map vi) * F)) by ac_rfl)
        have hQ := hS.cast (show _ = sl 3 1 (.slice (some ⟨a, 0, none⟩) most rcap) most (arr.map vi) * (sl 3 1 u3 k ((xs.take k).map vi) * (pc p 327 [.slice (some ⟨a, 0, none⟩) most rcap, vi f, vi xs.length] * F)) by ac_rfl)
        have c0 := hP.cell 0 rfl
        have c1 := hP.cell 1 rfl
        have hci : (arr.map vi)[i]? = some (vi (xs[k]?.getD 0)) := by
          have := hAt.out k hlt
          rw [← hi] at this
          simp [this, hlt]
        have ca := hQ.slCell i hci
        have hCi := Lib.hid hci
        have hpl := hP.lt
        have hal := hQ.slLt
        clear hi hP hQ hci ht
        go_wp2
        go_region_held3 (fun w' => w'.cell? ⟨p, 0, none⟩ = some (.slice (some ⟨a, 0, none⟩) most rcap) ∧ w'.cell? ⟨p, 1, none⟩ = some (vi f) ∧ w'.cell? ⟨a, i, none⟩ = some (vi (xs[k]?.getD 0)))
          (first | (exact ⟨hP1.cell 0 rfl, hP1.cell 1 rfl, hQ1.slCell i hCi.out⟩) | go_keep)
          ((refine step_append_sl Einti (by rfl) _ _ (by rfl) (by rfl) ((hS.alloc' _).drew) (by rfl) ((Rd.one _ _ _)) (by simp [Value.oneCell']) (by unfold maxLen; omega) (by omega) ?_; intro ao' cap' w2 hS2; have hP1 := hS2.dropL; have hQ1 := hP1.swap.cast (sep_assoc _ _ _)))
        go_wp2
        go_roundw
        case rel => exact ⟨k + 1, by omega, by go_num, by rw [take_snoc_int xs k hlt]; exact hS2⟩
        case measure => simp [intOf]; omega
      · obtain rfl : k = xs.length := by omega
        go_wp2
        go_ret
        exact ⟨_, rfl, hFin.out _ _ (by rw [List.take_length] at hS; exact hS)⟩

/-! ### New -/
theorem ring_new (most : Int) (hm : 1 ≤ most) (hm' : most ≤ 4096) {w0 w : World} {F : Hp} (h : Sat w0 F w) :
    Calls Tryz.prog 163 #[vi most] w fun e w' => ∃ p, e = .returned (.tuple #[vp p, vi 0]) ∧ Sat w0 (ringP p most.toNat [] * F) w' := by
  obtain ⟨m, rfl⟩ := Int.eq_ofNat_of_zero_le (show 0 ≤ most by omega)
  have h1 : ¬ ((m : Int) < 1) := by omega
  have h2 : ¬ (4096 < (m : Int)) := by omega
  go_enter Tryz.func163, Tryz.ntmps163
  go_wp2_with (at_make; refine wpList_make_sl Einti rfl _ _ rfl .i64 .i64 m m m m rfl rfl rfl rfl (by omega) (by omega) (by omega) h ?_; intro g w1 hM)
  go_ret2
  refine ⟨w1.heap.size, rfl, Sat.ringI ⟨g, m, List.replicate m 0, 0⟩ ⟨by omega, by omega, by simp, (show 0 < m by omega), by simp, by simp⟩ ?_⟩
  rw [madeCells_int] at hM
  have hM2 := hM.slI (n := m) (cap := m) (size := 1) (xs := (List.replicate m (0 : Int)).map vi) (Nat.le_refl _) (by unfold maxLen; omega) (by simp) (by rw [Nat.mul_one, List.take_of_length_le (by simp)])
  exact hM2.alloc (.cells #[.slice (some ⟨g, 0, none⟩) m m, vi 0, vi 0] 327)

end Go.Proofs.YtdbppfcilaajaaaGreat

namespace Go.Proofs.YtdbppfcilaajaaaGreat
open Go.RowKit
set_option linter.unusedVariables false

def RdI (w : World) (v : Value) (xs : List Int) : Prop := Rd w 1 v xs.length (xs.map vi)
theorem RdI.len {w : World} {v : Value} {xs : List Int} (h : RdI w v xs) : ∃ ao cap, v = .slice ao xs.length cap := Rd.len h
theorem RdI.at_ {w : World} {ao : Option Addr} {cap n : Nat} {xs : List Int} (h : RdI w (.slice ao n cap) xs) (hn : xs.length ≠ 0) : ∃ b off, ao = some ⟨b, off, none⟩ ∧ ∀ k, k < xs.length → w.cell? ⟨b, off + k, none⟩ = some (vi (xs[k]?.getD 0)) := by
  obtain ⟨b, off, c, e, hc⟩ := Rd.pos h hn
  cases e
  exact ⟨b, off, rfl, fun k hk => hc k _ (by simp [hk])⟩
theorem RdI.drewN {w : World} {v : Value} {xs : List Int} (h : RdI w v xs) (k : Nat) : RdI (w.drewN k) v xs := h
theorem Sat.rdI {w0 w : World} {F : Hp} {e : TypeId} {v : Value} {xs : List Int} (h : Sat w0 (sl e 1 v xs.length (xs.map vi) * F) w) : RdI w v xs := h.rd

def findI (xs : List Int) (x : Int) : Int := if x ∈ xs then (xs.idxOf x : Int) else -1

theorem findI_hit {xs : List Int} {x : Int} {k : Nat} (hk : k < xs.length) (hno : ∀ j, j < k → xs[j]?.getD 0 ≠ x) (hx : xs[k]?.getD 0 = x) : findI xs x = k := by
  have hx' : xs[k] = x := by simpa [hk] using hx
  unfold findI
  rw [if_pos (hx' ▸ List.getElem_mem hk)]
  congr 1
  have h1 : xs.idxOf x ≤ k := by
    rcases Nat.lt_or_ge k (xs.idxOf x) with h | h
    · exact absurd hx' (by simpa using List.not_of_lt_findIdx (p := (· == x)) h)
    · exact h
  rcases Nat.lt_or_ge (xs.idxOf x) k with h | h
  · exfalso
    have hl : xs.idxOf x < xs.length := by omega
    refine hno _ h ?_
    rw [List.getElem?_eq_getElem hl]
    simp
  · omega
end Go.Proofs.YtdbppfcilaajaaaGreat

namespace Go.Proofs.YtdbppfcilaajaaaGreat
open Go.RowKit
set_option linter.unusedVariables false

section
variable {α : Type} {f : α → List Value} {N : Nat}
theorem flat_len (hN : ∀ a, (f a).length = N) (xs : List α) : (xs.flatMap f).length = xs.length * N := by
  induction xs with
  | nil => simp
  | cons x xs ih => rw [List.flatMap_cons, List.length_append, hN, ih, List.length_cons, Nat.add_mul, Nat.one_mul, Nat.add_comm]
theorem flat_at (hN : ∀ a, (f a).length = N) : ∀ (xs : List α) (i j : Nat), j < N → (xs.flatMap f)[i * N + j]? = (xs[i]?).bind fun a => (f a)[j]?
  | [], i, j, hj => by simp
  | x :: xs, 0, j, hj => by
    rw [List.flatMap_cons, Nat.zero_mul, Nat.zero_add, List.getElem?_append_left (by rw [hN]; exact hj)]
    rfl
  | x :: xs, i + 1, j, hj => by
    rw [List.flatMap_cons, Nat.add_mul, Nat.one_mul, Nat.add_right_comm, List.getElem?_append_right (by rw [hN]; omega), hN, Nat.add_sub_cancel, flat_at hN xs i j hj]
    rfl
theorem flat_get (hN : ∀ a, (f a).length = N) {xs : List α} {i j : Nat} {a : α} {v : Value} (hi : xs[i]? = some a) (hv : (f a)[j]? = some v) : (xs.flatMap f)[i * N + j]? = some v := by
  have hj : j < N := by rw [← hN a]; exact (List.getElem?_eq_some_iff.1 hv).1
  rw [flat_at hN xs i j hj, hi]
  exact hv
theorem flat_set (hN : ∀ a, (f a).length = N) : ∀ (xs : List α) (i j : Nat) (a a' : α) (v : Value), xs[i]? = some a → j < N → f a' = (f a).set j v → (xs.flatMap f).set (i * N + j) v = (xs.set i a').flatMap f
  | [], i, j, a, a', v, hi, hj, h => by simp at hi
  | x :: xs, 0, j, a, a', v, hi, hj, h => by
    simp only [List.getElem?_cons_zero, Option.some.injEq] at hi
    subst hi
    rw [List.flatMap_cons, Nat.zero_mul, Nat.zero_add, List.set_append, if_pos (by rw [hN]; exact hj), List.set_cons_zero, List.flatMap_cons, h]
  | x :: xs, i + 1, j, a, a', v, hi, hj, h => by
    simp only [List.getElem?_cons_succ] at hi
    rw [List.flatMap_cons, Nat.add_mul, Nat.one_mul, Nat.add_right_comm, List.set_append, if_neg (by rw [hN]; omega), hN, Nat.add_sub_cancel, flat_set hN xs i j a a' v hi hj h, List.set_cons_succ, List.flatMap_cons]
theorem flat_one (h1 : ∀ a, ∀ u ∈ f a, u.oneCell' = true) (xs : List α) : ∀ u ∈ xs.flatMap f, u.oneCell' = true := by
  intro u hu
  obtain ⟨a, _, ha⟩ := List.mem_flatMap.1 hu
  exact h1 a u ha
theorem flat_take (hN : ∀ a, (f a).length = N) : ∀ (xs : List α) (k : Nat), (xs.flatMap f).take (k * N) = (xs.take k).flatMap f
  | [], k => by simp
  | x :: xs, 0 => by simp
  | x :: xs, k + 1 => by
    rw [List.flatMap_cons, Nat.add_mul, Nat.one_mul, Nat.add_comm, List.take_append, hN, List.take_of_length_le (by rw [hN]; omega), Nat.add_sub_cancel_left, flat_take hN xs k, List.take_succ_cons, List.flatMap_cons]
theorem flat_made (hN : ∀ a, (f a).length = N) (hp : 0 < N) (z : Value) (a : α) (hz : z.cells.toList = f a) (n : Nat) : (madeCells z.cells (n * N)).toList = (List.replicate n a).flatMap f := by
  have hs : z.cells.size = N := by rw [← hN a, ← hz, Array.length_toList]
  apply List.ext_getElem?
  intro i
  by_cases hi : i < n * N
  · have hd : i / N < n := (Nat.div_lt_iff_lt_mul hp).2 hi
    have hm : i % N < N := Nat.mod_lt _ hp
    have e : i = i / N * N + i % N := by rw [Nat.mul_comm]; exact (Nat.div_add_mod i N).symm
    have h1 : ((List.replicate n a).flatMap f)[i]? = (f a)[i % N]? := by
      conv => lhs; rw [e]
      rw [flat_at hN _ _ _ hm, List.getElem?_replicate, if_pos hd]
      rfl
    rw [h1, ← hz]
    simp [madeCells, hi, hs, hm]
  · rw [List.getElem?_eq_none (by simp [madeCells]; omega), List.getElem?_eq_none (by rw [flat_len hN]; simp; omega)]
end
end Go.Proofs.YtdbppfcilaajaaaGreat

namespace Go.Proofs.YtdbppfcilaajaaaGreat
open Go.RowKit
set_option linter.unusedVariables false

/-- What a call has made (its own memory lies behind w) beside what was there. -/
theorem Sat.chain {w0 w w' : World} {F A : Hp} (h : Sat w0 F w) (k : Sat w A w') : Sat w0 (A * F) w' := by
  have hbel := h.below
  obtain ⟨_, L, hL, hn, hx⟩ := h
  obtain ⟨hb, L2, hL2, hn2, hx2⟩ := k
  refine ⟨hbel.trans (hb.mono hbel.size), L2 ++ L, ⟨L2, L, List.Perm.refl _, hL2, hL⟩, ?_, ?_⟩
  · rw [List.map_append, List.nodup_append]
    refine ⟨hn2, hn, ?_⟩
    intro a ha b hb' e
    obtain ⟨x, hxm, rfl⟩ := List.mem_map.1 ha
    obtain ⟨y, hym, rfl⟩ := List.mem_map.1 hb'
    have h1 := (hx2 x hxm).1
    have h2 := lt_of_block (hx y hym).2
    omega
  · intro x hm
    rcases List.mem_append.1 hm with hm | hm
    · have h1 := hx2 x hm
      exact ⟨Nat.le_trans hbel.size h1.1, h1.2⟩
    · have h1 := hx x hm
      exact ⟨h1.1, (hb.block _ (lt_of_block h1.2)).trans h1.2⟩
theorem lt_cell {w : World} {a : Addr} {v : Value} (h : w.cell? a = some v) : a.block < w.heap.size := by
  unfold World.cell? at h
  cases hb : w.heap[a.block]? with
  | none => simp [hb] at h
  | some o => exact lt_of_block hb
theorem Rd.below {w w' : World} {size : Nat} {v : Value} {n : Nat} {xs : List Value} (h : Rd w size v n xs) (hb : Below w.heap.size w w') : Rd w' size v n xs := by
  refine ⟨h.1, ?_⟩
  rcases h.2 with h2 | ⟨b, off, cap, rfl, hc⟩
  · exact .inl h2
  · exact .inr ⟨b, off, cap, rfl, fun j u hj => (hb.cell (p := ⟨b, off + j, none⟩) (lt_cell (hc j u hj))).trans (hc j u hj)⟩

/-- A slice of the call's own. -/
def slo (e : TypeId) (size : Nat) (v : Value) (n : Nat) (xs : List Value) : Hp :=
  ⟨fun L => xs.length = n * size ∧ ((v = .slice none 0 0 ∧ n = 0 ∧ L = []) ∨
    ∃ g off cap cur, v = .slice (some ⟨g, off, none⟩) n cap ∧ L = [(g, .cells cur e (0, 0))] ∧ n ≤ cap ∧ cap ≤ maxLen ∧ off + cap * size ≤ cur.size ∧ (cur.toList.drop off).take (n * size) = xs),
   fun {L L'} h ⟨hl, hx⟩ => ⟨hl, by
    rcases hx with ⟨a, b, rfl⟩ | ⟨g, off, cap, cur, a, rfl, r⟩
    · exact .inl ⟨a, b, List.nil_perm.1 h⟩
    · exact .inr ⟨g, off, cap, cur, a, List.perm_singleton.1 h.symm, r⟩⟩⟩
theorem sl_slo {e : TypeId} {size : Nat} {v : Value} {n : Nat} {xs : List Value} : ∀ L, (sl e size v n xs).holds L → (slo e size v n xs).holds L := by
  rintro L ⟨hl, ⟨h1, h2, h3⟩ | ⟨g, cap, cur, h1, h2, h3, h4, h5, h6⟩⟩
  · exact ⟨hl, .inl ⟨h1, h2, h3⟩⟩
  · exact ⟨hl, .inr ⟨g, 0, cap, cur, h1, h2, h3, h4, by omega, by simpa using h6⟩⟩

section
variable {w0 w : World} {F : Hp} {e : TypeId} {size : Nat} {v : Value} {n : Nat} {xs : List Value}
theorem Sat.slo (h : Sat w0 (sl e size v n xs * F) w) : Sat w0 (slo e size v n xs * F) w := h.impL sl_slo
theorem Sat.sloE (h : Sat w0 (Go.Proofs.YtdbppfcilaajaaaGreat.slo e size v n xs * F) w) : xs.length = n * size ∧ ((v = .slice none 0 0 ∧ n = 0 ∧ Sat w0 F w) ∨
    ∃ g off cap cur, v = .slice (some ⟨g, off, none⟩) n cap ∧ n ≤ cap ∧ cap ≤ maxLen ∧ off + cap * size ≤ cur.length ∧ (cur.drop off).take (n * size) = xs ∧ Sat w0 (pc g e cur * F) w) := by
  have hd := h.dropL
  obtain ⟨hb, L, ⟨L1, L2, p, ⟨hl, a⟩, b⟩, r⟩ := h
  refine ⟨hl, ?_⟩
  rcases a with ⟨rfl, rfl, rfl⟩ | ⟨g, off, cap, cur, rfl, rfl, h1, h2, h3, h4⟩
  · exact .inl ⟨rfl, rfl, hd⟩
  · exact .inr ⟨g, off, cap, cur.toList, rfl, h1, h2, by simpa using h3, h4, hb, L, ⟨_, L2, p, by simp [pc, pt], b⟩, r⟩
theorem Sat.sloI {g off cap : Nat} {cur : List Value} (h : Sat w0 (pc g e cur * F) w) (h1 : n ≤ cap) (h2 : cap ≤ maxLen) (h3 : off + cap * size ≤ cur.length) (h4 : (cur.drop off).take (n * size) = xs) :
    Sat w0 (Go.Proofs.YtdbppfcilaajaaaGreat.slo e size (.slice (some ⟨g, off, none⟩) n cap) n xs * F) w := by
  have hl : xs.length = n * size := by
    rw [← h4, List.length_take, List.length_drop]
    refine Nat.min_eq_left ?_
    have := Nat.mul_le_mul_right size h1
    omega
  obtain ⟨hb, L, ⟨L1, L2, p, a, b⟩, r⟩ := h
  have a : L1 = [(g, .cells cur.toArray e (0, 0))] := a
  subst a
  exact ⟨hb, L, ⟨_, L2, p, ⟨hl, .inr ⟨g, off, cap, cur.toArray, rfl, rfl, h1, h2, by simpa using h3, by simpa using h4⟩⟩, b⟩, r⟩
theorem Sat.sloP {g off cap : Nat} (h : Sat w0 (Go.Proofs.YtdbppfcilaajaaaGreat.slo e size (.slice (some ⟨g, off, none⟩) n cap) n xs * F) w) : ∃ cur : List Value, n ≤ cap ∧ cap ≤ maxLen ∧ off + cap * size ≤ cur.length ∧ (cur.drop off).take (n * size) = xs ∧ Sat w0 (pc g e cur * F) w := by
  rcases h.sloE.2 with ⟨h, _⟩ | ⟨g', off', cap', cur, hv, r⟩
  · cases h
  · cases hv
    exact ⟨cur, r⟩
theorem at_drop_take {cur : List Value} {off m i : Nat} {u : Value} (h : ((cur.drop off).take m)[i]? = some u) : cur[off + i]? = some u := by
  rw [List.getElem?_take] at h
  split at h
  · rw [List.getElem?_drop] at h
    exact h
  · cases h
theorem Sat.sloCell {g off cap : Nat} (h : Sat w0 (Go.Proofs.YtdbppfcilaajaaaGreat.slo e size (.slice (some ⟨g, off, none⟩) n cap) n xs * F) w) (i : Nat) {u : Value} (hi : xs[i]? = some u) : w.cell? ⟨g, off + i, none⟩ = some u := by
  obtain ⟨cur, h1, h2, h3, h4, hS⟩ := h.sloP
  refine hS.cell _ (at_drop_take (m := n * size) ?_)
  rw [h4]
  exact hi
theorem Sat.sloFree {g off cap : Nat} (h : Sat w0 (Go.Proofs.YtdbppfcilaajaaaGreat.slo e size (.slice (some ⟨g, off, none⟩) n cap) n xs * F) w) (i : Nat) : w.frozen? ⟨g, i, none⟩ = false := by
  obtain ⟨cur, h1, h2, h3, h4, hS⟩ := h.sloP
  exact hS.free i
theorem Sat.sloRd (h : Sat w0 (Go.Proofs.YtdbppfcilaajaaaGreat.slo e size v n xs * F) w) : Rd w size v n xs := by
  obtain ⟨hl, h2⟩ := h.sloE
  refine ⟨hl, ?_⟩
  rcases h2 with ⟨rfl, rfl, _⟩ | ⟨g, off, cap, cur, rfl, _⟩
  · exact .inl ⟨rfl, _, _, rfl⟩
  · exact .inr ⟨g, off, cap, rfl, fun j u hj => h.sloCell j hj⟩
theorem Sat.sloStore {g off cap : Nat} (h : Sat w0 (Go.Proofs.YtdbppfcilaajaaaGreat.slo e size (.slice (some ⟨g, off, none⟩) n cap) n xs * F) w) (i : Nat) (hi : i < n * size) (u : Value) : Sat w0 (Go.Proofs.YtdbppfcilaajaaaGreat.slo e size (.slice (some ⟨g, off, none⟩) n cap) n (xs.set i u) * F) (w.setCell ⟨g, off + i, none⟩ u) := by
  obtain ⟨cur, h1, h2, h3, h4, hS⟩ := h.sloP
  refine (hS.store (off + i) u).sloI h1 h2 (by simpa using h3) ?_
  rw [← h4, List.drop_set, if_neg (by omega), Nat.add_sub_cancel_left, List.take_set]
theorem Sat.sloNil (h : Sat w0 F w) (e : TypeId) (size : Nat) : Sat w0 (Go.Proofs.YtdbppfcilaajaaaGreat.slo e size (.slice none 0 0) 0 [] * F) w := (h.addNil e size).slo
theorem Sat.sloPos (h : Sat w0 (Go.Proofs.YtdbppfcilaajaaaGreat.slo e size v n xs * F) w) (hn : n ≠ 0) : ∃ g off cap, v = .slice (some ⟨g, off, none⟩) n cap := by
  rcases h.sloE.2 with ⟨_, h0, _⟩ | ⟨g, off, cap, cur, hv, _⟩
  · exact absurd h0 hn
  · exact ⟨g, off, cap, hv⟩
theorem Sat.sloForm (h : Sat w0 (Go.Proofs.YtdbppfcilaajaaaGreat.slo e size v n xs * F) w) : ∃ ao cap, v = .slice ao n cap := h.sloRd.len
theorem Sat.sloCap {g off cap : Nat} (h : Sat w0 (Go.Proofs.YtdbppfcilaajaaaGreat.slo e size (.slice (some ⟨g, off, none⟩) n cap) n xs * F) w) : n ≤ cap ∧ cap ≤ maxLen := by
  obtain ⟨cur, h1, h2, _⟩ := h.sloP
  exact ⟨h1, h2⟩
/-- s[1:] -/
theorem Sat.sloTail {g off cap : Nat} (h : Sat w0 (Go.Proofs.YtdbppfcilaajaaaGreat.slo e size (.slice (some ⟨g, off, none⟩) (n + 1) cap) (n + 1) xs * F) w) (off' : Nat) (ho : (cap = 1 ∧ off' = off) ∨ off' = off + size) :
    Sat w0 (Go.Proofs.YtdbppfcilaajaaaGreat.slo e size (.slice (some ⟨g, off', none⟩) n (cap - 1)) n (xs.drop size) * F) w := by
  obtain ⟨cur, h1, h2, h3, h4, hS⟩ := h.sloP
  have hc : cap * size = (cap - 1) * size + size := by
    obtain ⟨c, rfl⟩ : ∃ c, cap = c + 1 := ⟨cap - 1, by omega⟩
    rw [Nat.add_sub_cancel, Nat.add_mul, Nat.one_mul]
  rcases ho with ⟨rfl, rfl⟩ | rfl
  · obtain rfl : n = 0 := by omega
    refine hS.sloI (by omega) (by omega) (by omega) ?_
    have hl : xs.length = (0 + 1) * size := h.sloE.1
    rw [Nat.zero_mul, List.take_zero, List.drop_eq_nil_of_le (by omega)]
  · refine hS.sloI (by omega) (by omega) (by omega) ?_
    rw [← h4, List.drop_take, List.drop_drop, Nat.add_mul, Nat.one_mul, Nat.add_sub_cancel]
/-- A new slice of one element. -/
theorem Sat.sloOne (h : Sat w0 F w) (T : TypeId) (cs : List Value) (hc : cs.length = size) : Sat w0 (Go.Proofs.YtdbppfcilaajaaaGreat.slo T size (.slice (some ⟨w.heap.size, 0, none⟩) 1 1) 1 cs * F) (w.alloc (.cells cs.toArray T)) :=
  (show Sat w0 (pc w.heap.size T cs * F) (w.alloc (.cells cs.toArray T)) from h.alloc (.cells cs.toArray T)).sloI (Nat.le_refl _) (by unfold maxLen; omega) (by omega) (by
    rw [List.drop_zero, List.take_of_length_le (by omega)])

def setL : List Value → Nat → List Value → List Value
  | cs, _, [] => cs
  | cs, o, v :: r => setL (cs.set o v) (o + 1) r
theorem setL_len : ∀ (vs cs : List Value) (o : Nat), (setL cs o vs).length = cs.length
  | [], _, _ => rfl
  | v :: r, cs, o => by rw [setL, setL_len r, List.length_set]
theorem setL_at : ∀ (vs cs : List Value) (o i : Nat), (i < o ∨ o + vs.length ≤ i) → (setL cs o vs)[i]? = cs[i]?
  | [], _, _, _, _ => rfl
  | v :: r, cs, o, i, h => by
    rw [setL, setL_at r _ _ _ (by simp at h; omega), List.getElem?_set, if_neg (by simp at h; omega)]
theorem setL_in : ∀ (vs cs : List Value) (o i : Nat), i < vs.length → o + vs.length ≤ cs.length → (setL cs o vs)[o + i]? = vs[i]?
  | [], _, _, i, h, _ => by simp at h
  | v :: r, cs, o, 0, _, h2 => by
    rw [setL, setL_at r _ _ _ (by omega), List.getElem?_set, if_pos (by omega), if_pos (by simp at h2; omega)]
    rfl
  | v :: r, cs, o, i + 1, h, h2 => by
    rw [setL, show o + (i + 1) = o + 1 + i by omega, setL_in r _ _ _ (by simpa using h) (by simp at h2 ⊢; omega)]
    rfl
theorem Sat.stores : ∀ (vs : List Value) {g : Nat} {cs : List Value} {w : World} (o : Nat), Sat w0 (pc g e cs * F) w → Sat w0 (pc g e (setL cs o vs) * F) (w.setCells g o vs)
  | [], _, _, _, _, h => h
  | v :: r, _, _, _, o, h => Sat.stores r (o + 1) (h.store o v)
end

section
variable {P : Program} {w0 w : World} {F : Hp} {t e : TypeId} {size bytes : Nat} {z v y : Value} {n m : Nat} {xs news : List Value}
theorem run_append_slo (E : SlT P t e size bytes z) (ty : TypeId) (hS : Sat w0 (slo e size v n xs * F) w) (hR : Rd w size y m news) (h1 : ∀ u ∈ news, u.oneCell' = true)
    (h63 : n + m ≤ maxLen) (hby : (n + m) * bytes ≤ 140737488355328) :
    ∃ v' w', (Builtin.append_ #[t, t] ty #[v, y]).run P w = .ok v' w' ∧ Sat w0 (slo e size v' (n + m) (xs ++ news) * F) w' := by
  obtain ⟨i, hi, hz, rfl, rfl⟩ := E.info
  have ht := E.und
  have hzs := E.zs
  have hsmall : n + m ≤ 9223372036854775807 := by simp only [maxLen] at h63; omega
  have hS' := hS
  obtain ⟨hxl, hv⟩ := hS.sloE
  obtain ⟨hnl, hy⟩ := hR
  by_cases hm : m = 0
  · subst hm
    have hn0 : news = [] := List.eq_nil_of_length_eq_zero (by simpa using hnl)
    subst hn0
    have hy' : ∃ ao cap, y = .slice ao 0 cap := by
      rcases hy with ⟨_, h⟩ | ⟨b, off, cap, rfl, _⟩
      · exact h
      · exact ⟨_, _, rfl⟩
    obtain ⟨ao, cap, rfl⟩ := hy'
    refine ⟨v, w, ?_, by simpa using hS'⟩
    have hf : ∀ w : World, (Builtin.firstCells i.size 0 (.slice ao 0 cap)).run P w = .ok #[] w := by
      intro w
      cases ao with
      | none => simp [Builtin.firstCells]
      | some a => exact run_firstCells_some w i.size 0 a 0 cap [] (by simp) (by simp)
    rcases hv with ⟨rfl, rfl, _⟩ | ⟨g, off, c2, cur, rfl, hc, _, _, _, _⟩
    · simp [Builtin.append_, run_underlying ht, sizeOf, typeInfo, hi, Builtin.lenOf, hf]
    · simp [Builtin.append_, run_underlying ht, sizeOf, typeInfo, hi, Builtin.lenOf, hf, hc, storeCells]
  · obtain ⟨b, yoff, cy, rfl, hcells⟩ : ∃ b off cap, y = .slice (some ⟨b, off, none⟩) m cap ∧ ∀ j u, news[j]? = some u → w.cell? ⟨b, off + j, none⟩ = some u := by
      rcases hy with ⟨h, _⟩ | h
      · exact absurd h hm
      · exact h
    have hnews : ∀ j u, news[j]? = some u → w.cell? ((⟨b, yoff, none⟩ : Addr).add j) = some u := fun j u hj => by rw [Rd.add]; exact hcells j u hj
    rcases hv with ⟨rfl, rfl, hF⟩ | ⟨g, off, cap, cur, rfl, hc, hcm, hcl, htake, hP⟩
    · have hx : xs = [] := List.eq_nil_of_length_eq_zero (by simpa using hxl)
      subst hx
      obtain ⟨v', w', hr, h⟩ := run_append_sl0 E ty (hF.addNil e i.size) ⟨hnl, .inr ⟨b, yoff, cy, rfl, hcells⟩⟩ h1 h63 hby
      exact ⟨v', w', hr, h.slo⟩
    · by_cases hroom : n + m ≤ cap
      · have hfit : off + (n + m) * i.size ≤ cur.length := by
          have := Nat.mul_le_mul_right i.size hroom
          omega
        have hadd : (n + m) * i.size = n * i.size + m * i.size := Nat.add_mul _ _ _
        have hr := run_append_room_cells (P := P) w t ty e i ht hi g off n cap ⟨b, yoff, none⟩ m cy news hnl hnews h1 hroom
          (fun j hj => by
            rw [hP.cell (v := cur[off + n * i.size + j]'(by omega)) _ (List.getElem?_eq_getElem _)]
            rfl)
          (fun j _ => hP.free _)
        refine ⟨_, _, hr, ?_⟩
        have hU := Sat.stores news (off + n * i.size) hP
        refine hU.sloI hroom hcm (by rw [setL_len]; exact hcl) ?_
        apply List.ext_getElem?
        intro k
        rw [List.getElem?_take, List.getElem?_drop]
        by_cases hk : k < n * i.size
        · rw [if_pos (by omega), setL_at _ _ _ _ (by omega), List.getElem?_append_left (by omega), ← htake, List.getElem?_take, if_pos hk, List.getElem?_drop]
        · by_cases hk2 : k < (n + m) * i.size
          · rw [if_pos hk2, List.getElem?_append_right (by omega), hxl]
            have := setL_in news cur (off + n * i.size) (k - n * i.size) (by omega) (by omega)
            rw [show off + n * i.size + (k - n * i.size) = off + k by omega] at this
            exact this
          · rw [if_neg hk2, List.getElem?_eq_none (by rw [List.length_append]; omega)]
      · have holds : ∀ j u, xs[j]? = some u → w.cell? ((⟨g, off, none⟩ : Addr).add j) = some u := by
          intro j u hj
          rw [Rd.add]
          exact hS'.sloCell j hj
        have hr := run_append_grow (P := P) w t ty e i z ht hi hz ⟨g, off, none⟩ n cap xs hxl holds ⟨b, yoff, none⟩ m cy news hnl hnews (by omega) (by omega) (growslice_fits (by omega) hby)
        refine ⟨_, _, hr, ?_⟩
        have hge := grownCap_ge w (n + m) cap e
        have hS2 := hP.dropL.drew.alloc (.cells (xs.toArray ++ news.toArray ++ Builtin.zeroCells z.cells (grownCap w (n + m) cap e - (n + m))) e)
        have hS3 : Sat w0 (pc w.heap.size e (xs ++ news ++ (Builtin.zeroCells z.cells (grownCap w (n + m) cap e - (n + m))).toList) * F) (w.drew.alloc (.cells (xs.toArray ++ news.toArray ++ Builtin.zeroCells z.cells (grownCap w (n + m) cap e - (n + m))) e)) := by
          refine hS2.cast ?_
          unfold pc
          congr 3
          apply Array.ext'
          simp
        refine (hS3.slI hge (grownCap_le_maxLen w (n + m) cap e h63) ?_ ?_).slo
        · simp only [List.length_append, hnl, hxl, Array.length_toList, size_zeroCells, hzs]
          rw [← Nat.add_mul, ← Nat.add_mul]
          exact Nat.mul_le_mul_right _ (by omega)
        · rw [show (n + m) * i.size = (xs ++ news).length by rw [List.length_append, hxl, hnl, Nat.add_mul]]
          exact List.take_left
theorem wpList_append_slo {ops : Array Oper} {rest : List Oper} {o : Oper} {a : Act} {Q : Exit → Act → World → Prop} (E : SlT P t e size bytes z) (hgd : o.guard = none) (s x : Operand)
    (ho : o.op = .call { callee := .builtin .append, args := #[s, x], argTypes := #[t, t] })
    (hs : a.eval s = v) (hS : Sat w0 (slo e size v n xs * F) w) (hx : a.eval x = y) (hR : Rd w size y m news) (h1 : ∀ u ∈ news, u.oneCell' = true)
    (h63 : n + m ≤ maxLen) (hby : (n + m) * bytes ≤ 140737488355328)
    (h : ∀ ao cap w', Sat w0 (slo e size (.slice ao (n + m) cap) (n + m) (xs ++ news) * F) w' → wpList P ops Q rest (a.put o.dst (.slice ao (n + m) cap)) w') : wpList P ops Q (o :: rest) a w := by
  refine wpList_plain hgd fun K hK => ?_
  obtain ⟨v', w', hr, h2⟩ := run_append_slo (P := P) E o.type hS hR h1 h63 hby
  obtain ⟨ao', cap', rfl⟩ := h2.sloForm
  unfold Oper.wp execOp
  simp only [ho, resolve, invoke, builtin, Sem.run_bind, Sem.run_pure, Result.andThen_ok, List.map_toArray, List.map_cons, List.map_nil, hs, hx, hr]
  exact hK _ _ (h ao' cap' w' h2)
theorem step_append_slo {ops : Array Oper} {o : Oper} {a : Act} {K : Act → World → Prop} {Q : Exit → Act → World → Prop} {Z : Prop} (E : SlT P t e size bytes z) (hgd : o.guard = none) (s x : Operand)
    (ho : o.op = .call { callee := .builtin .append, args := #[s, x], argTypes := #[t, t] })
    (hs : a.eval s = v) (hS : Sat w0 (slo e size v n xs * F) w) (hx : a.eval x = y) (hR : Rd w size y m news) (h1 : ∀ u ∈ news, u.oneCell' = true)
    (h63 : n + m ≤ maxLen) (hby : (n + m) * bytes ≤ 140737488355328)
    (h : ∀ ao cap w', Sat w0 (slo e size (.slice ao (n + m) cap) (n + m) (xs ++ news) * F) w' → K (a.put o.dst (.slice ao (n + m) cap)) w') :
    if Region.wanted o (yielded ops a.tmps) = true then Oper.wp P o a w K Q else Z := by
  have hw : Region.wanted o (yielded ops a.tmps) = true := by simp [Region.wanted, hgd]
  rw [if_pos hw]
  obtain ⟨v', w', hr, h2⟩ := run_append_slo (P := P) E o.type hS hR h1 h63 hby
  obtain ⟨ao', cap', rfl⟩ := h2.sloForm
  unfold Oper.wp execOp
  simp only [ho, resolve, invoke, builtin, Sem.run_bind, Sem.run_pure, Result.andThen_ok, List.map_toArray, List.map_cons, List.map_nil, hs, hx, hr]
  exact h ao' cap' w' h2
end
end Go.Proofs.YtdbppfcilaajaaaGreat
