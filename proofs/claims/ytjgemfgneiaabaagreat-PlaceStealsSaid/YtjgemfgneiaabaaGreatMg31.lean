/-
  Chapter 19: the statements' helpers few, may. No statement is proved here.
-/
import Derived.Test.YtjgemfgneiaabaaGreatMg30
import Derived.Test.YtjgemfgneiaabaaGreatRq23
import Derived.Test.YtjgemfgneiaabaaGreatMg12
import Derived.Test.YtjgemfgneiaabaaGreatMg21
import Derived.Test.YtjgemfgneiaabaaGreatPm10
namespace Go.Proofs.YtjgemfgneiaabaaGreat.Pc
open Go.RowKit Rq Gq
set_option linter.unusedVariables false
set_option linter.unusedSimpArgs false

section
variable {w0 w : World} {v : Value} {n : Nat} {A : Nat → Ac}
set_option maxRecDepth 100000 in
set_option maxHeartbeats 1000000 in
theorem few19 (h : Acts w0 v n A) (hB : Below w0.heap.size w0 w) (most : Nat) (hm : most ≤ 1000) :
    Calls Tryz.prog 6 #[v, vi most] w fun e w' => e = .returned (.bool (fewB n most fun i => (A i).af.length)) ∧ w = w' := by
  obtain ⟨ao, cap, rfl⟩ := h.len
  have hsm := h.small
  unfold maxLen at hsm
  have HB := Lib.hid hB
  clear hB
  go_enter Tryz.func6, Tryz.ntmps6
  go_wp2
  go_loopw [5] (fun i wr => ∃ (k : Nat), k ≤ n ∧ k ≤ most + 1 ∧ i = vi k ∧ w = wr ∧ ∀ j, j < k → (A j).af.length ≤ 100) (fun i _ => n - (intOf i).toNat)
  case atStart => exact ⟨0, Nat.zero_le _, Nat.zero_le _, rfl, rfl, fun j hj => by omega⟩
  case round =>
    obtain ⟨k, hk, hk2, rfl, rfl, hj⟩ := hrel
    by_cases hlt : k < n
    · by_cases hlm : k ≤ most
      · obtain ⟨b, off, rfl, _, _, _, _, _, c3⟩ := h.at_ HB.out k hlt
        obtain ⟨a3, cp3, hv3⟩ := ((h.aff k hlt).1 _ HB.out).1.len
        rw [hv3] at c3
        have hsm3 := (h.aff k hlt).2
        unfold maxLen at hsm3
        have HJ := Lib.hid hj
        obtain ⟨ln, hln⟩ : ∃ ln, (A k).af.length = ln := ⟨_, rfl⟩
        have HLN := Lib.hid hln
        rw [hln] at c3 hsm3
        clear hj hln hv3
        by_cases h100 : 100 < ln
        · have h101 : (100 : Int) < (ln : Int) := by omega
          have HNO := Lib.hid (fewB_not (m := most) (ln := fun i => (A i).af.length) hlt (by rw [HLN.out]; exact h100))
          go_wp2
          go_ret
          exact ⟨by rw [HNO.out]; rfl, rfl⟩
        · have h101 : ¬ (100 : Int) < (ln : Int) := by omega
          go_wp2
          go_roundw
          case rel => exact ⟨k + 1, by omega, by omega, by go_num, by trivial, fun j hj => by
            by_cases hjk : j = k
            · subst hjk
              rw [HLN.out]
              omega
            · exact HJ.out j (by omega)⟩
          case measure => simp [intOf]; omega
      · have hf := fewB_le (n := n) (m := most) (ln := fun i => (A i).af.length) (fun _ => by omega)
        have h3 : ¬ n ≤ most := by omega
        rw [decide_eq_false h3] at hf
        have HF := Lib.hid hf
        clear hf hj
        go_wp2
        go_ret
        exact ⟨by rw [HF.out]; rfl, rfl⟩
    · obtain rfl : k = n := by omega
      have HF := Lib.hid (fewB_le (n := k) (m := most) (ln := fun i => (A i).af.length) (fun _ => hj))
      clear hj
      go_wp2
      go_ret
      exact ⟨by rw [HF.out]; simp, rfl⟩
end
def may19 (n m : Int) : Bool := decide (1 ≤ n ∧ n ≤ 8 ∧ 2 ≤ m ∧ m ≤ 32)
theorem may_19 (n m : Int) (w : World) : Calls Tryz.prog 7 #[vi n, vi m] w fun e w' => e = .returned (.bool (may19 n m)) ∧ w = w' := by
  unfold may19
  by_cases h1 : 1 ≤ n
  · have d1 : decide (1 ≤ n) = true := decide_eq_true h1
    by_cases h2 : n ≤ 8
    · have d2 : decide (n ≤ 8) = true := decide_eq_true h2
      by_cases h3 : 2 ≤ m
      · have d3 : decide (2 ≤ m) = true := decide_eq_true h3
        have e : decide (1 ≤ n ∧ n ≤ 8 ∧ 2 ≤ m ∧ m ≤ 32) = decide (m ≤ 32) := by simp [h1, h2, h3]
        rw [e]
        go_enter Tryz.func7, Tryz.ntmps7
        go_wp2
        go_ret
        exact ⟨rfl, rfl⟩
      · have d3 : decide (2 ≤ m) = false := decide_eq_false h3
        rw [decide_eq_false (fun h => h3 h.2.2.1)]
        go_enter Tryz.func7, Tryz.ntmps7
        go_wp2
        go_ret
        exact ⟨rfl, rfl⟩
    · have d2 : decide (n ≤ 8) = false := decide_eq_false h2
      rw [decide_eq_false (fun h => h2 h.2.1)]
      go_enter Tryz.func7, Tryz.ntmps7
      go_wp2
      go_ret
      exact ⟨rfl, rfl⟩
  · have d1 : decide (1 ≤ n) = false := decide_eq_false h1
    rw [decide_eq_false (fun h => h1 h.1)]
    go_enter Tryz.func7, Tryz.ntmps7
    go_wp2
    go_ret
    exact ⟨rfl, rfl⟩
end Go.Proofs.YtjgemfgneiaabaaGreat.Pc

namespace Go.Proofs.YtjgemfgneiaabaaGreat.Pc
open Go.RowKit Rq Gq Nu
set_option linter.unusedVariables false
set_option linter.unusedSimpArgs false

def kp1 : Nat → Pl := up (fun _ => pl0) 1 (nextY 2 pl0 4)
def kp2 : Nat → Pl := up kp1 1 (nextY 2 (kp1 1) 5)
theorem kw5 : whereV kp2 2 [6] 5 = (2, 1) := by decide +kernel
theorem kw4 : whereV kp2 2 [6] 4 = (3, 1) := by decide +kernel
theorem kw6 : whereV kp2 2 [6] 6 = (4, 0) := by decide +kernel
theorem eq_spot (a b : Int) (w : World) : (binOp .eql 39 (.agg #[vi a, vi b]) (.agg #[vi a, vi b])).run Tryz.prog w = .ok (.bool true) w := by
  have h : ∀ d : Nat, (Op.equalIn (d + 2) 39 (.agg #[vi a, vi b]) (.agg #[vi a, vi b])).run Tryz.prog w = .ok true w := fun d => by
    simp [Op.equalIn, go_sem]
  simp only [binOp]
  simp [Op.equal, Op.maxDepth, h 9998]
section
variable {w0 w : World} {F : Hp}
set_option maxRecDepth 100000 in
set_option maxHeartbeats 4000000 in
theorem known19 (w0 : World) : Calls Tryz.prog 8 #[] w0 fun e w' => e = .returned (.bool true) ∧ Below w0.heap.size w0 w' := by
  have HN := Lib.hid (pl_new 2 2 (by omega) (by omega) (by omega) (by omega) (Sat.start w0))
  have e5 := fun w => eq_spot 2 1 w
  have e4 := fun w => eq_spot 3 1 w
  have e6 := fun w => eq_spot 4 0 w
  have HP1 : Hid (∀ (D : Ad) (w : World), D.n = 2 → D.m = 2 → Sat w0 (plB D (fun _ => pl0) [] * emp) w → Calls Tryz.prog 11 #[vp D.s, vi 4, .int .u8 3, vi 1, vi 0] w fun e w' => e = .returned (.tuple #[]) ∧ Sat w0 (plB D kp1 [] * emp) w') := Lib.hid fun D w hn hm h => by
    have := pl_put_next h ⟨by omega, by omega, by omega, by omega⟩ 4 (s := 3) (by omega) 1 (by omega) (by decide +kernel) 0 (by simp)
    rw [hm] at this
    exact this
  have HP2 : Hid (∀ (D : Ad) (w : World), D.n = 2 → D.m = 2 → Sat w0 (plB D kp1 [] * emp) w → Calls Tryz.prog 11 #[vp D.s, vi 5, .int .u8 3, vi 1, vi 0] w fun e w' => e = .returned (.tuple #[]) ∧ Sat w0 (plB D kp2 [] * emp) w') := Lib.hid fun D w hn hm h => by
    have := pl_put_next h ⟨by omega, by omega, by omega, by omega⟩ 5 (s := 3) (by omega) 1 (by omega) (by decide +kernel) 0 (by simp)
    rw [hm] at this
    exact this
  have HP3 : Hid (∀ (D : Ad) (w : World), D.n = 2 → D.m = 2 → Sat w0 (plB D kp2 [] * emp) w → Calls Tryz.prog 11 #[vp D.s, vi 6, .int .u8 0, vi 1, vi 0] w fun e w' => e = .returned (.tuple #[]) ∧ Sat w0 (plB D kp2 [6] * emp) w') := Lib.hid fun D w hn hm h =>
    pl_put_all_in h ⟨by omega, by omega, by omega, by omega⟩ 6 (s := 0) (by omega) 1 0 (by rw [hn]; rfl) (by decide +kernel) (by rw [hn]; decide +kernel) (by simp)
  have HW : Hid (∀ (D : Ad) (w : World) (g : Int) (a b : Int), whereV kp2 2 [6] g = (a, b) → D.n = 2 → D.m = 2 → Sat w0 (plB D kp2 [6] * emp) w → Calls Tryz.prog 12 #[vp D.s, vi g] w fun e w' => e = .returned (.agg #[vi a, vi b]) ∧ Sat w0 (plB D kp2 [6] * emp) w') := Lib.hid fun D w g a b he hn hm h => by
    have := pl_where h ⟨by omega, by omega, by omega, by omega⟩ g (by simp)
    rw [hn, he] at this
    exact this
  go_enter Tryz.func8, Tryz.ntmps8
  go_wp2_with (first
    | (go_at_call 5; refine HN.out.mono ?_; rintro e w1 ⟨D, hn, hm, rfl, hS⟩; have H1 := Lib.hid hS; clear hS; have HNN := Lib.hid hn; have HMM := Lib.hid hm; clear hn hm HN)
    | (go_at_call 11; with_reducible refine (HP1.out D _ HNN.out HMM.out H1.out).mono ?_; rintro e w2 ⟨rfl, hS⟩; have H2 := Lib.hid hS; clear hS)
    | (go_at_call 11; with_reducible refine (HP2.out D _ HNN.out HMM.out H2.out).mono ?_; rintro e w3 ⟨rfl, hS⟩; have H3 := Lib.hid hS; clear hS)
    | (go_at_call 11; with_reducible refine (HP3.out D _ HNN.out HMM.out H3.out).mono ?_; rintro e w4 ⟨rfl, hS⟩; have H4 := Lib.hid hS; clear hS)
    | (go_at_call 12; with_reducible refine (HW.out D _ 5 2 1 kw5 HNN.out HMM.out H4.out).mono ?_; rintro e w5 ⟨rfl, hS⟩; have H5 := Lib.hid hS; clear hS)
    | (go_at_call 12; with_reducible refine (HW.out D _ 4 3 1 kw4 HNN.out HMM.out H5.out).mono ?_; rintro e w6 ⟨rfl, hS⟩; have H6 := Lib.hid hS; clear hS)
    | (go_at_call 12; with_reducible refine (HW.out D _ 6 4 0 kw6 HNN.out HMM.out H6.out).mono ?_; rintro e w7 ⟨rfl, hS⟩; have H7 := Lib.hid hS; clear hS))
  go_ret
  exact ⟨rfl, H7.out.below⟩
end
end Go.Proofs.YtjgemfgneiaabaaGreat.Pc

namespace Go.Proofs.YtjgemfgneiaabaaGreat.Pc
open Go.RowKit Rq Gq Nu
set_option linter.unusedVariables false
set_option linter.unusedSimpArgs false

section
variable {n m k : Nat} {p : Nat → Pl} {gx : List Int} {x : Int} {y : Pl}
theorem not_there (h : x ∉ allP p n gx) : (∀ j i, i < n → look p x j i = false) ∧ x ∉ gx := by
  rw [mem_all] at h
  refine ⟨fun j i hi => ?_, fun hg => h (.inr hg)⟩
  have h1 : ¬ ((p i).runs = true ∧ (p i).g = x) := fun hh => h (.inl ⟨i, hi, .inl hh⟩)
  have h2 : x ∉ allQ (p i).xs (p i).z (p i).b := fun hh => h (.inl ⟨i, hi, .inr hh⟩)
  have h3 : hasY (p i) x = false := by
    have := mt hasQ_mem.1 h2
    simpa [hasY] using this
  unfold look
  split
  · simpa using h1
  · split
    · unfold hasY hasQ at h3
      rw [Bool.or_eq_false_iff] at h3
      exact h3.1
    · exact h3
theorem wh_none {j : Nat} (h : ∀ i, i < n → look p x j i = false) : whJ p n x j = none := find_none h
theorem wh_at {j : Nat} (hk : k < n) (h : look p x j k = true) (ho : ∀ i, i < n → i ≠ k → look p x j i = false) : whJ p n x j = some k :=
  find_range hk h fun i hi => ho i (by omega) (by omega)
theorem look_other {j i : Nat} (hi : i ≠ k) : look (up p k y) x j i = look p x j i := by
  unfold look
  rw [up_ne _ _ hi]
theorem look_same (j : Nat) : look (up p k y) x j k = (if j = 0 then y.runs && y.g == x else if j = 1 then y.b && y.z == x else hasY y x) := by
  unfold look
  rw [up_at]
/-- Next. -/
theorem where_next (hk : k < n) (h : x ∉ allP p n gx) (gx' : List Int) : whereV (up p k (nextY m (p k) x)) n gx' x = (2, (k : Int)) := by
  obtain ⟨hl, hg⟩ := not_there h
  have h0 : whJ (up p k (nextY m (p k) x)) n x 0 = none := wh_none fun i hi => by
    by_cases he : i = k
    · subst he
      rw [look_same]
      have := hl 0 i hi
      exact this
    · rw [look_other he]
      exact hl 0 i hi
  have h1 : whJ (up p k (nextY m (p k) x)) n x 1 = some k := wh_at hk (by rw [look_same]; show (true && x == x) = true; simp) fun i hi he => by
    rw [look_other he]
    exact hl 1 i hi
  unfold whereV
  rw [h0, h1]
/-- To all. -/
theorem where_all (h : x ∉ allP p n gx) : whereV p n (gx ++ [x]) x = (4, 0) := by
  obtain ⟨hl, hg⟩ := not_there h
  unfold whereV
  rw [wh_none (hl 0), wh_none (hl 1), wh_none (hl 2)]
  simp
/-- Into a ring, or to all. -/
theorem where_ring (hk : k < n) (h : x ∉ allP p n gx) : whereV (up p k (putY m (p k) x)) n (gx ++ spillL m (p k).xs x) x = (3, (k : Int)) ∨ whereV (up p k (putY m (p k) x)) n (gx ++ spillL m (p k).xs x) x = (4, 0) := by
  obtain ⟨hl, hg⟩ := not_there h
  have h0 : whJ (up p k (putY m (p k) x)) n x 0 = none := wh_none fun i hi => by
    by_cases he : i = k
    · subst he
      rw [look_same]
      exact hl 0 i hi
    · rw [look_other he]
      exact hl 0 i hi
  have h1 : whJ (up p k (putY m (p k) x)) n x 1 = none := wh_none fun i hi => by
    by_cases he : i = k
    · subst he
      rw [look_same]
      exact hl 1 i hi
    · rw [look_other he]
      exact hl 1 i hi
  have hb : ((p k).b && (p k).z == x) = false := hl 1 k hk
  have hh : hasY (p k) x = false := hl 2 k hk
  have hx : x ∉ (p k).xs := by
    unfold hasY hasQ at hh
    rw [Bool.or_eq_false_iff] at hh
    simpa using hh.2
  have he : hasY (putY m (p k) x) x = decide (x ∈ putL m (p k).xs x) := by
    show ((p k).b && (p k).z == x || decide (x ∈ putL m (p k).xs x)) = _
    rw [hb, Bool.false_or]
  by_cases hr : (p k).xs.length < m
  · left
    have h2 : whJ (up p k (putY m (p k) x)) n x 2 = some k := wh_at hk (by
      rw [look_same]
      show hasY (putY m (p k) x) x = true
      rw [he]
      unfold putL
      rw [if_pos hr]
      simp) fun i hi hne => by
      rw [look_other hne]
      exact hl 2 i hi
    unfold whereV
    rw [h0, h1, h2]
  · right
    have h2 : whJ (up p k (putY m (p k) x)) n x 2 = none := wh_none fun i hi => by
      by_cases hne : i = k
      · subst hne
        rw [look_same]
        show hasY (putY m (p i) x) x = false
        rw [he]
        unfold putL
        rw [if_neg hr]
        exact decide_eq_false fun hm => hx (List.mem_of_mem_drop hm)
      · rw [look_other hne]
        exact hl 2 i hi
    unfold whereV
    rw [h0, h1, h2]
    unfold spillL
    rw [if_neg hr]
    simp
theorem thL_mem {s : Nat} {q : Int} : q ∈ thL s n ↔ inP n q = true ∧ hasB s q = true := by
  unfold thL
  rw [List.mem_map]
  constructor
  · rintro ⟨i, hi, rfl⟩
    rw [List.mem_filter, List.mem_range] at hi
    exact ⟨inP_nat hi.1, hi.2⟩
  · rintro ⟨h1, h2⟩
    obtain ⟨j, rfl, hj⟩ := inP_yes h1
    exact ⟨j, List.mem_filter.2 ⟨List.mem_range.2 hj, h2⟩, rfl⟩
end
/-- Where one stands then. -/
def Puts31 (s n : Nat) (q pick : Int) (ab : Int × Int) : Prop := (q ∈ thL s n ∧ ab = (2, q)) ∨ (q ∉ thL s n ∧ thL s n = [] ∧ ab = (4, 0)) ∨ (q ∉ thL s n ∧ 0 < (thL s n).length ∧ (ab = (4, 0) ∨ ∃ k : Nat, (thL s n)[atR (thL s n).length pick]? = some (k : Int) ∧ ab = (3, (k : Int))))
section
variable {w0 w : World} {F : Hp} {D : Ad} {p : Nat → Pl} {gx : List Int}
theorem put31 (h : Sat w0 (plB D p gx * F) w) (ho : D.Ok) {x : Int} (hx : x ∉ allP p D.n gx) {s : Nat} (hs : s < 256) (q pick : Int) (hl : gx.length ≤ 4000) :
    Calls Tryz.prog 11 #[vp D.s, vi x, .int .u8 s, vi q, vi pick] w fun e w' => e = .returned (.tuple #[]) ∧ ∃ p' gx', Puts31 s D.n q pick (whereV p' D.n gx' x) ∧ gx'.length ≤ 5000 ∧ Sat w0 (plB D p' gx' * F) w' := by
  have hm := ho.m32
  have ring : ∀ k : Nat, k < D.n → thereM s D.n ≠ [] → nthI (s &&& maskN D.n) pick = k → q ∉ thL s D.n → ∀ (e : Ending) (w' : World), e = .returned (.tuple #[]) ∧ Sat w0 (plB D (up p k (putY D.m (p k) x)) (gx ++ spillL D.m (p k).xs x) * F) w' → e = .returned (.tuple #[]) ∧ ∃ p' gx', Puts31 s D.n q pick (whereV p' D.n gx' x) ∧ gx'.length ≤ 5000 ∧ Sat w0 (plB D p' gx' * F) w' := fun k hk hne hki hq e w' ⟨he, h'⟩ => by
    have hsl := spill_len (m := D.m) (xs := (p k).xs) x
    obtain ⟨a1, a2, a3⟩ := thL_at hs ho.n8 pick hne hki
    refine ⟨he, _, _, .inr (.inr ⟨hq, a1, ?_⟩), by rw [List.length_append]; omega, h'⟩
    rcases where_ring (m := D.m) hk hx with h1 | h1
    · exact .inr ⟨k, a3, h1⟩
    · exact .inl h1
  have al : thereM s D.n = [] → q ∉ thL s D.n → ∀ (e : Ending) (w' : World), e = .returned (.tuple #[]) ∧ Sat w0 (plB D p (gx ++ [x]) * F) w' → e = .returned (.tuple #[]) ∧ ∃ p' gx', Puts31 s D.n q pick (whereV p' D.n gx' x) ∧ gx'.length ≤ 5000 ∧ Sat w0 (plB D p' gx' * F) w' := fun hne hq e w' ⟨he, h'⟩ =>
    ⟨he, _, _, .inr (.inl ⟨hq, thL_none hs ho.n8 hne, where_all hx⟩), by simp; omega, h'⟩
  cases hby : inP D.n q with
  | true =>
    obtain ⟨k, rfl, hk⟩ := inP_yes hby
    cases hb : hasB s k with
    | true =>
      have hsl := nextS_len (m := D.m) (xs := (p k).xs) (z := (p k).z) (b := (p k).b)
      exact (pl_put_next h ho x hs k hk hb pick (by omega)).mono fun e w' hh => ⟨hh.1, _, _, .inl ⟨thL_mem.2 ⟨hby, hb⟩, where_next hk hx _⟩, by rw [List.length_append]; omega, hh.2⟩
    | false =>
      have hq : (k : Int) ∉ thL s D.n := fun hh => by rw [(thL_mem.1 hh).2] at hb; cases hb
      by_cases hne : thereM s D.n = []
      · exact (pl_put_all_in h ho x hs k pick hby hb hne (by omega)).mono (al hne hq)
      · obtain ⟨j, hj, hjk⟩ := nth_in hs ho.n8 pick hne
        exact (pl_put_ring_in h ho x hs k pick hby hb j hj hne hjk (by omega)).mono (ring j hj hne hjk hq)
  | false =>
    have hq : q ∉ thL s D.n := fun hh => by rw [(thL_mem.1 hh).1] at hby; cases hby
    by_cases hne : thereM s D.n = []
    · exact (pl_put_all_out h ho x hs q pick hby hne (by omega)).mono (al hne hq)
    · obtain ⟨j, hj, hjk⟩ := nth_in hs ho.n8 pick hne
      exact (pl_put_ring_out h ho x hs q pick hby j hj hne hjk (by omega)).mono (ring j hj hne hjk hq)
end
end Go.Proofs.YtjgemfgneiaabaaGreat.Pc

namespace Go.Proofs.YtjgemfgneiaabaaGreat.Pc
open Go.RowKit Rq Gq Nu
set_option linter.unusedVariables false
set_option linter.unusedSimpArgs false

theorem all_zero (n : Nat) : allP (fun _ => pl0) n [] = [] := by
  unfold allP
  rw [List.append_nil, List.flatMap_eq_nil_iff]
  intro i _
  rfl
theorem fit_zero (n : Nat) (T : Int → Prop) : Fit n (fun _ => pl0) [] 0 T := ⟨by rw [all_zero]; exact List.nodup_nil, by rw [all_zero]; simp, by rw [all_zero]; simp, fun k _ => ⟨by show (0 : Int) ≤ 0; omega, by show (0 : Int) ≤ _; omega⟩⟩
section
variable {w0 : World} {v : Value} {n : Nat} {A : Nat → Ac}
def TrueB (w0 : World) (e : Ending) (w' : World) : Prop := e = .returned (.bool true) ∧ Below w0.heap.size w0 w'
set_option maxRecDepth 100000 in
theorem puts_no (ps ring : Int) (h : Acts w0 v n A) (hm : may19 ps ring = false) (st : Nat) (q pick : Int) : Calls Tryz.prog 3 #[vi ps, vi ring, v, .int .u8 st, vi q, vi pick] w0 (TrueB w0) := by
  obtain ⟨ao, cap, rfl⟩ := h.len
  have HF := Lib.hid (few19 h (Below.refl _ _) 60 (by omega))
  have HM := Lib.hid (may_19 ps ring w0)
  rw [hm] at HM
  have HN := Lib.hid (pl_new_no ps ring (by unfold may19 at hm; rw [decide_eq_false_iff_not] at hm; omega) w0)
  generalize fewB n 60 _ = f at *
  clear hm
  cases f
  all_goals
    go_enter Tryz.func3, Tryz.ntmps3
    go_wp2_with (first
      | (go_at_call 5; refine HN.out.mono ?_; rintro e w' ⟨rfl, rfl⟩)
      | (go_at_call 6; refine HF.out.mono ?_; rintro e w' ⟨rfl, rfl⟩)
      | (go_at_call 7; refine HM.out.mono ?_; rintro e w' ⟨rfl, rfl⟩)
      | (go_at_call 8; refine (known19 _).mono ?_; rintro e w3 ⟨rfl, hb⟩))
    go_ret
    exact ⟨rfl, hb⟩
set_option maxRecDepth 100000 in
theorem puts_few (ps ring : Nat) (h : Acts w0 v n A) (h1 : 1 ≤ ps) (h8 : ps ≤ 8) (h2 : 2 ≤ ring) (h32 : ring ≤ 32) (hf : (fewB n 60 fun i => (A i).af.length) = false) (st : Nat) (q pick : Int) : Calls Tryz.prog 3 #[vi ps, vi ring, v, .int .u8 st, vi q, vi pick] w0 (TrueB w0) := by
  obtain ⟨ao, cap, rfl⟩ := h.len
  have HF : Hid (∀ w', Below w0.heap.size w0 w' → Calls Tryz.prog 6 #[.slice ao n cap, vi 60] w' fun e w'' => e = .returned (.bool false) ∧ w' = w'') := Lib.hid fun w' hb => by
    have := few19 h hb 60 (by omega)
    rw [hf] at this
    exact this
  have HM : Hid (∀ w', Calls Tryz.prog 7 #[vi ps, vi ring] w' fun e w'' => e = .returned (.bool true) ∧ w' = w'') := Lib.hid fun w' => by
    have := may_19 ps ring w'
    rw [show may19 ps ring = true by unfold may19; rw [decide_eq_true_eq]; omega] at this
    exact this
  have HN := Lib.hid (pl_new ps ring h1 h8 h2 h32 (Sat.start w0))
  clear hf h
  go_enter Tryz.func3, Tryz.ntmps3
  go_wp2_with (first
    | (go_at_call 5; refine HN.out.mono ?_; rintro e w1 ⟨D, _, _, rfl, hS⟩; have HB := Lib.hid hS.below; clear hS)
    | (go_at_call 6; refine (HF.out _ HB.out).mono ?_; rintro e w' ⟨rfl, rfl⟩)
    | (go_at_call 7; refine (HM.out _).mono ?_; rintro e w' ⟨rfl, rfl⟩)
    | (go_at_call 8; refine (known19 _).mono ?_; rintro e w3 ⟨rfl, hb⟩))
  go_ret
  exact ⟨rfl, HB.out.trans (hb.mono HB.out.size)⟩
end
end Go.Proofs.YtjgemfgneiaabaaGreat.Pc
