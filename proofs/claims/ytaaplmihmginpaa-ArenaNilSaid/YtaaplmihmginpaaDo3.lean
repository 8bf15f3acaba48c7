/-
  What the statements' own helper 'do' of layer 3 answers. No statement is proved here.
-/
import Derived.Test.YtaaplmihmginpaaLaw3
namespace Go.Proofs.Ytaaplmihmginpaa
open Go.RowKit
set_option linter.unusedVariables false

def actL (most : Nat) (xs : List Int) (k n : Int) : List Int :=
  if k = 1 then pushL most xs n else if k = 2 then xs.tail else if k = 3 then xs.drop (takeK n xs) else if k = 4 then xs.erase n else xs

theorem pushL_le {most : Nat} {xs : List Int} (h : xs.length ≤ most) (x : Int) : (pushL most xs x).length ≤ most := by
  unfold pushL
  split
  · exact h
  · simp; omega
theorem actL_le {most : Nat} {xs : List Int} (h : xs.length ≤ most) (k n : Int) : (actL most xs k n).length ≤ most := by
  unfold actL
  split
  · exact pushL_le h n
  · split
    · simp; omega
    · split
      · simp; omega
      · split
        · exact Nat.le_trans (List.length_erase_le) h
        · exact h

def DoPost (w0 : World) (p q most : Nat) (xs ys xs' ys' : List Int) (F : Hp) (e : Ending) (w' : World) : Prop :=
  ∃ b, e = .returned (.bool b) ∧ Sat w0 (ringP p most xs' * (refP q most ys' * F)) w' ∧ (xs = ys → b = true)

section
variable {w0 w : World} {p q most bx : Nat} {xs ys : List Int} {F : Hp}

abbrev actB (bx : Nat) (k n : Int) : Hp := pc bx 65 [vi k, vi n]

set_option maxRecDepth 100000 in
set_option maxHeartbeats 2000000 in
theorem do3_1 (h : Sat w0 (ringP p most xs * (refP q most ys * F)) w) (hy : ys.length ≤ most) (n : Int) :
    Calls Try.prog 31 #[vp p, vp q, .agg #[vi 1, vi n]] w (DoPost w0 p q most xs ys (pushL most xs n) (pushL most ys n) F) := by
  have hl := h.ringLen
  have hB : Sat w0 (actB w.heap.size 1 n * (ringP p most xs * (refP q most ys * F))) (w.alloc (.cells #[vi 1, vi n] 65)) := h.alloc (.cells #[vi 1, vi n] 65)
  have c0 := hB.cell 0 rfl
  have c1 := hB.cell 1 rfl
  have H := Lib.hid hB
  clear hB h
  go_enter Try.func31, Try.ntmps31
  go_wp2_with fail
  generalize hwb : w.alloc (.cells #[vi 1, vi n] 65) = wb at *
  generalize w.heap.size = bx at *
  clear hwb
  go_region_held3 (fun w' => w'.cell? ⟨bx, 1, none⟩ = some (vi n))
    (first | exact d1 | exact e1 | go_keep)
    (first
      | (go_at_call 16; refine (ring_push (H.out.drewN 1).pull2 n).mono ?_; rintro e w1 ⟨rfl, hS1⟩; have d1 := hS1.pull2.cell 1 rfl; have H1 := Lib.hid hS1; clear hS1)
      | (go_at_call 59; refine (ref_push H1.out.pull3 hy (by omega) n).mono ?_; rintro e w2 ⟨rfl, hS2⟩; have e1 := hS2.pull3.cell 1 rfl; have H2 := Lib.hid hS2; clear hS2))
  go_wp2
  go_ret
  refine ⟨_, rfl, H2.out.pull2.drop3, ?_⟩
  intro e
  subst e
  simp

set_option maxRecDepth 100000 in
set_option maxHeartbeats 2000000 in
theorem do3_4 (h : Sat w0 (ringP p most xs * (refP q most ys * F)) w) (hy : ys.length ≤ most) (n : Int) :
    Calls Try.prog 31 #[vp p, vp q, .agg #[vi 4, vi n]] w (DoPost w0 p q most xs ys (xs.erase n) (ys.erase n) F) := by
  have hl := h.ringLen
  have hB : Sat w0 (actB w.heap.size 4 n * (ringP p most xs * (refP q most ys * F))) (w.alloc (.cells #[vi 4, vi n] 65)) := h.alloc (.cells #[vi 4, vi n] 65)
  have c0 := hB.cell 0 rfl
  have c1 := hB.cell 1 rfl
  have H := Lib.hid hB
  clear hB h
  go_enter Try.func31, Try.ntmps31
  go_wp2_with fail
  generalize hwb : w.alloc (.cells #[vi 4, vi n] 65) = wb at *
  generalize w.heap.size = bx at *
  clear hwb
  go_region_held3 (fun w' => w'.cell? ⟨bx, 1, none⟩ = some (vi n))
    (first | exact d1 | exact e1 | go_keep)
    (first
      | (go_at_call 40; refine (ring_remove (H.out.drewN 1).pull2 n).mono ?_; rintro e w1 ⟨rfl, hS1⟩; have d1 := hS1.pull2.cell 1 rfl; have H1 := Lib.hid hS1; clear hS1)
      | (go_at_call 61; refine (ref_remove H1.out.pull3 (by omega) n).mono ?_; rintro e w2 ⟨rfl, hS2⟩; have e1 := hS2.pull3.cell 1 rfl; have H2 := Lib.hid hS2; clear hS2))
  go_wp2
  go_ret
  refine ⟨_, rfl, H2.out.pull2.drop3, ?_⟩
  intro e
  subst e
  simp

set_option maxRecDepth 100000 in
set_option maxHeartbeats 2000000 in
theorem do3_5 (h : Sat w0 (ringP p most xs * (refP q most ys * F)) w) (hy : ys.length ≤ most) (n : Int) :
    Calls Try.prog 31 #[vp p, vp q, .agg #[vi 5, vi n]] w (DoPost w0 p q most xs ys xs ys F) := by
  have hl := h.ringLen
  have hB : Sat w0 (actB w.heap.size 5 n * (ringP p most xs * (refP q most ys * F))) (w.alloc (.cells #[vi 5, vi n] 65)) := h.alloc (.cells #[vi 5, vi n] 65)
  have c0 := hB.cell 0 rfl
  have c1 := hB.cell 1 rfl
  have H := Lib.hid hB
  clear hB h
  go_enter Try.func31, Try.ntmps31
  go_wp2_with fail
  generalize hwb : w.alloc (.cells #[vi 5, vi n] 65) = wb at *
  generalize w.heap.size = bx at *
  clear hwb
  obtain ⟨v, hv⟩ := H.out.pull3.ref
  have hvR := hv.2
  have hvS := Lib.hid hv.1
  obtain ⟨ao, cap, rfl⟩ := hvR.len
  have hvH := Lib.hid hvR
  have cq := hv.1.cell 0 rfl
  clear hv hvR
  go_region_held3 (fun w' => w'.cell? ⟨bx, 1, none⟩ = some (vi n) ∧ w'.cell? ⟨q, 0, none⟩ = some (.slice ao ys.length cap))
    (first | exact ⟨d1, d2⟩ | go_keep)
    (first
      | (go_at_call 41; refine (ring_has ((hvS.out.drewN 1).pull4) n).mono ?_; rintro e w1 ⟨rfl, hS1⟩; have d1 := hS1.pull4.cell 1 rfl; have d2 := hS1.pull2.cell 0 rfl; have H1 := Lib.hid hS1; clear hS1)
      | (go_at_call 62; refine (ref_find n ys _ _ (by have := H1.out.pull3.rsRd; simpa [RdI] using this) (by omega)).mono ?_; rintro e w2 ⟨rfl, rfl⟩))
  go_wp2
  go_ret
  refine ⟨_, rfl, (H1.out.cast (by ac_rfl) : Sat w0 (actB bx 5 n * (ringP p most xs * ((pc q 62 [.slice ao ys.length cap, vi most] * rs 3 (.slice ao ys.length cap) (ys.map vi)) * F))) _).dropL.in2 (fun h' => Sat.exI _ h'), ?_⟩
  intro e
  subst e
  simp [findI_ge]

set_option maxRecDepth 100000 in
set_option maxHeartbeats 2000000 in
theorem do3_0 (h : Sat w0 (ringP p most xs * (refP q most ys * F)) w) (hy : ys.length ≤ most) (k n : Int) (h1 : k ≠ 1) (h2 : k ≠ 2) (h3 : k ≠ 3) (h4 : k ≠ 4) (h5 : k ≠ 5) :
    Calls Try.prog 31 #[vp p, vp q, .agg #[vi k, vi n]] w (DoPost w0 p q most xs ys xs ys F) := by
  have hl := h.ringLen
  have hB : Sat w0 (actB w.heap.size k n * (ringP p most xs * (refP q most ys * F))) (w.alloc (.cells #[vi k, vi n] 65)) := h.alloc (.cells #[vi k, vi n] 65)
  have c0 := hB.cell 0 rfl
  have c1 := hB.cell 1 rfl
  have H := Lib.hid hB
  have g1 : (k == 1) = false := by simpa using h1
  have g2 : (k == 2) = false := by simpa using h2
  have g3 : (k == 3) = false := by simpa using h3
  have g4 : (k == 4) = false := by simpa using h4
  have g5 : (k == 5) = false := by simpa using h5
  clear hB h h1 h2 h3 h4 h5
  go_enter Try.func31, Try.ntmps31
  go_wp2_with fail
  generalize hwb : w.alloc (.cells #[vi k, vi n] 65) = wb at *
  generalize w.heap.size = bx at *
  clear hwb
  go_ret
  exact ⟨_, rfl, H.out.dropL, fun _ => rfl⟩
theorem ref_take1 {w0 w : World} {q most : Nat} {ys : List Int} {F : Hp} (h : Sat w0 (refP q most ys * F) w) (hl : ys.length ≤ 4096) :
    Calls Try.prog 60 #[vp q, vi 1] w fun e w' => ∃ ao cap, e = .returned (.slice ao (takeK 1 ys) cap) ∧ (∀ y, ys.head? = some y → ∃ b off, ao = some ⟨b, off, none⟩ ∧ w'.cell? ⟨b, off, none⟩ = some (vi y)) ∧ Sat w0 (refP q most ys.tail * F) w' := by
  refine (ref_take h hl 1).mono ?_
  rintro e w' ⟨v, rfl, hR, hS⟩
  obtain ⟨ao, cap, rfl⟩ := hR.len
  have hlen : (ys.take (takeK 1 ys)).length = takeK 1 ys := by rw [List.length_take]; exact Nat.min_eq_left (Nat.min_le_right _ _)
  rw [hlen] at hR ⊢
  refine ⟨ao, cap, rfl, ?_, ?_⟩
  · intro y hy
    cases ys with
    | nil => cases hy
    | cons z zs =>
      simp only [List.head?_cons, Option.some.injEq] at hy
      subst hy
      obtain ⟨b, off, rfl, hc⟩ := hR.at_ (by simp [takeK])
      refine ⟨b, off, rfl, ?_⟩
      have := hc 0 (by simp [takeK])
      simpa [takeK] using this
  · cases ys with
    | nil => simpa [takeK] using hS
    | cons z zs => simpa [takeK] using hS

set_option maxRecDepth 100000 in
set_option maxHeartbeats 2000000 in
theorem do3_2 (h : Sat w0 (ringP p most xs * (refP q most ys * F)) w) (hy : ys.length ≤ most) (n : Int) :
    Calls Try.prog 31 #[vp p, vp q, .agg #[vi 2, vi n]] w (DoPost w0 p q most xs ys xs.tail ys.tail F) := by
  have hl := h.ringLen
  have hB : Sat w0 (actB w.heap.size 2 n * (ringP p most xs * (refP q most ys * F))) (w.alloc (.cells #[vi 2, vi n] 65)) := h.alloc (.cells #[vi 2, vi n] 65)
  have c0 := hB.cell 0 rfl
  have c1 := hB.cell 1 rfl
  have H := Lib.hid hB
  clear hB h
  go_enter Try.func31, Try.ntmps31
  go_wp2_with fail
  generalize hwb : w.alloc (.cells #[vi 2, vi n] 65) = wb at *
  generalize w.heap.size = bx at *
  clear hwb
  refine (ring_pop H.out.pull2).mono ?_
  rintro e w1 ⟨rfl, hS1⟩
  have H1 := Lib.hid hS1
  clear hS1
  match xs, ys, hy, hl, H, H1 with
  | [], [], hy, hl, H, H1 =>
    go_wp2_with fail
    refine (ref_take1 H1.out.pull3 (by simp)).mono ?_
    rintro e w2 ⟨ao, cap, rfl, _, hS2⟩
    have H2 := Lib.hid hS2
    clear hS2
    simp only [takeK, List.length_nil, Nat.min_zero]
    go_wp2
    go_ret
    exact ⟨_, rfl, H2.out.pull2.drop3, fun _ => rfl⟩
  | [], y :: ys, hy, hl, H, H1 =>
    go_wp2_with fail
    refine (ref_take1 H1.out.pull3 (by simp at hy ⊢; omega)).mono ?_
    rintro e w2 ⟨ao, cap, rfl, hc, hS2⟩
    obtain ⟨b, off, rfl, hc⟩ := hc y rfl
    have H2 := Lib.hid hS2
    clear hS2
    rw [show takeK 1 (y :: ys) = 1 by simp [takeK]]
    go_wp2
    go_ret
    exact ⟨_, rfl, H2.out.pull2.drop3, fun e => by cases e⟩
  | x :: xs, [], hy, hl, H, H1 =>
    go_wp2_with fail
    refine (ref_take1 H1.out.pull3 (by simp)).mono ?_
    rintro e w2 ⟨ao, cap, rfl, _, hS2⟩
    have H2 := Lib.hid hS2
    clear hS2
    simp only [takeK, List.length_nil, Nat.min_zero]
    go_wp2
    go_ret
    exact ⟨_, rfl, H2.out.pull2.drop3, fun e => by cases e⟩
  | x :: xs, y :: ys, hy, hl, H, H1 =>
    go_wp2_with fail
    refine (ref_take1 H1.out.pull3 (by simp at hy ⊢; omega)).mono ?_
    rintro e w2 ⟨ao, cap, rfl, hc, hS2⟩
    obtain ⟨b, off, rfl, hc⟩ := hc y rfl
    have H2 := Lib.hid hS2
    clear hS2
    rw [show takeK 1 (y :: ys) = 1 by simp [takeK]]
    by_cases hxy : x = y
    · subst hxy
      go_wp2
      go_ret
      exact ⟨_, rfl, H2.out.pull2.drop3, fun _ => rfl⟩
    · have hne : (x == y) = false := by simpa using hxy
      go_wp2
      go_ret
      exact ⟨_, rfl, H2.out.pull2.drop3, fun e => absurd (by cases e; rfl) hxy⟩

set_option maxRecDepth 100000 in
set_option maxHeartbeats 2000000 in
theorem do3_3 (h : Sat w0 (ringP p most xs * (refP q most ys * F)) w) (hy : ys.length ≤ most) (n : Int) :
    Calls Try.prog 31 #[vp p, vp q, .agg #[vi 3, vi n]] w (DoPost w0 p q most xs ys (xs.drop (takeK n xs)) (ys.drop (takeK n ys)) F) := by
  have hl := h.ringLen
  have hB : Sat w0 (actB w.heap.size 3 n * (ringP p most xs * (refP q most ys * F))) (w.alloc (.cells #[vi 3, vi n] 65)) := h.alloc (.cells #[vi 3, vi n] 65)
  have c0 := hB.cell 0 rfl
  have c1 := hB.cell 1 rfl
  have H := Lib.hid hB
  clear hB h
  go_enter Try.func31, Try.ntmps31
  go_wp2_with fail
  generalize hwb : w.alloc (.cells #[vi 3, vi n] 65) = wb at *
  generalize w.heap.size = bx at *
  clear hwb
  refine (ring_take H.out.pull2 n).mono ?_
  rintro e w1 ⟨v, rfl, hS1⟩
  obtain ⟨ao, cap, rfl⟩ := hS1.rd.len
  have d1 := hS1.pull3.cell 1 rfl
  have H1 := Lib.hid hS1
  clear hS1 c0 c1
  have hkx : takeK n xs ≤ xs.length := Nat.min_le_right _ _
  have hky : takeK n ys ≤ ys.length := Nat.min_le_right _ _
  have hlx : (xs.take (takeK n xs)).length = takeK n xs := by rw [List.length_take]; exact Nat.min_eq_left hkx
  have hly : (ys.take (takeK n ys)).length = takeK n ys := by rw [List.length_take]; exact Nat.min_eq_left hky
  have HLX := Lib.hid hlx
  have HLY := Lib.hid hly
  clear hlx hly
  go_wp2_with fail
  refine (ref_take H1.out.pull4 (by omega) n).mono ?_
  rintro e w2 ⟨u, rfl, hR2, hS2⟩
  have H2 := Lib.hid hS2
  have HR2 := Lib.hid hR2
  clear hS2 hR2
  go_wp2_with fail
  refine (ref_same (xs.take (takeK n xs)) (ys.take (takeK n ys)) _ _ w2 (by have := H2.out.pull2.rd; rw [RdI, HLX.out]; exact this) HR2.out (by rw [HLX.out]; omega) (by rw [HLY.out]; omega)).mono ?_
  rintro e w3 ⟨rfl, N, rfl⟩
  by_cases hs : sameI (xs.take (takeK n xs)) (ys.take (takeK n ys)) = true
  · rw [hs]
    go_wp2
    go_loopw [11] (fun i wr => ∃ (k : Nat) (zs : List Int), k ≤ takeK n xs ∧ i = vi k ∧ Hid (zs.length = takeK n xs) ∧
        Sat w0 (sl 3 1 (.slice ao (takeK n xs) cap) (takeK n xs) (zs.map vi) * (refP q most (ys.drop (takeK n ys)) * (ringP p most (xs.drop (takeK n xs)) * (actB bx 3 n * F)))) wr) (fun i _ => takeK n xs - (intOf i).toNat)
    case atStart => exact ⟨0, _, Nat.zero_le _, rfl, HLX, (H2.out.drewN _).pull2⟩
    case round =>
      obtain ⟨k, zs, hk, rfl, hz, hS⟩ := hrel
      clear d1
      generalize takeK n xs = m at *
      by_cases hlt : k < m
      · have hne := hS.rd.pos (by omega)
        obtain ⟨b, off, c, hv, hc⟩ := hne
        rcases hS.slE.2 with ⟨hv', h0, _⟩ | ⟨g, c2, cur, hv', h1, _⟩
        · omega
        · cases hv'
          clear hv hc
          have ca := hS.slCell k (u := vi (zs[k]?.getD 0)) (by have h9 : k < zs.length := (by rw [hz.out]; exact hlt); simp [h9])
          have cf := hS.slFree k
          have hst : ∀ X : Int, Sat w0 (sl 3 1 (.slice (some ⟨g, 0, none⟩) m cap) m ((zs.set k X).map vi) * (refP q most (ys.drop (takeK n ys)) * (ringP p most (xs.drop m) * (actB bx 3 n * F)))) (wr.setCell ⟨g, k, none⟩ (vi X)) := fun X => by
            rw [List.map_set]
            exact hS.slStore k (by omega) (vi X)
          have HSt := Lib.hid hst
          clear hst hS
          generalize zs[k]?.getD 0 = z at *
          go_wp2
          go_roundw
          case rel => exact ⟨k + 1, _, by omega, by go_num, Lib.hid (by rw [List.length_set]; exact hz.out), HSt.out _⟩
          case measure => simp [intOf]; omega
      · obtain rfl : m = k := by omega
        have HS := Lib.hid hS
        clear hS
        go_wp2
        go_ret
        exact ⟨_, rfl, HS.out.dropL.pull2.drop3, fun _ => rfl⟩
  · have hs' : sameI (xs.take (takeK n xs)) (ys.take (takeK n ys)) = false := by simpa using hs
    have hneq : xs ≠ ys := by
      intro e
      subst e
      simp [sameI] at hs'
    rw [hs']
    have HN := Lib.hid hneq
    clear hs hs' hneq
    go_wp2
    go_ret
    exact ⟨_, rfl, (H2.out.drewN N).drop2.pull2.drop3, fun e => absurd e HN.out⟩

theorem do3 (h : Sat w0 (ringP p most xs * (refP q most ys * F)) w) (hy : ys.length ≤ most) (k n : Int) :
    Calls Try.prog 31 #[vp p, vp q, .agg #[vi k, vi n]] w (DoPost w0 p q most xs ys (actL most xs k n) (actL most ys k n) F) := by
  unfold actL
  by_cases h1 : k = 1
  · subst h1
    exact do3_1 h hy n
  · by_cases h2 : k = 2
    · subst h2
      exact do3_2 h hy n
    · by_cases h3 : k = 3
      · subst h3
        exact do3_3 h hy n
      · by_cases h4 : k = 4
        · subst h4
          exact do3_4 h hy n
        · rw [if_neg h1, if_neg h2, if_neg h3, if_neg h4, if_neg h1, if_neg h2, if_neg h3, if_neg h4]
          by_cases h5 : k = 5
          · subst h5
            exact do3_5 h hy n
          · exact do3_0 h hy k n h1 h2 h3 h4 h5
end
end Go.Proofs.Ytaaplmihmginpaa
