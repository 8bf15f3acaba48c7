/-
  Chapter 05: what acts do to who is there (plain laws); the statements' helper do. No statement is proved here.
-/
import Derived.Test.YtjlgdepneipgnaaRq24
namespace Go.Proofs.Ytjlgdepneipgnaa.Rq
open Go.RowKit
set_option linter.unusedVariables false

section
variable {m : Nat} {xs : List Int} {z g : Int} {b : Bool}
theorem hasQ_mem : hasQ xs z b g = true ↔ g ∈ allQ xs z b := by
  unfold hasQ
  cases b with
  | false => simp [allQ]
  | true =>
    simp only [allQ, if_true, List.mem_cons, Bool.true_and, Bool.or_eq_true, beq_iff_eq, decide_eq_true_eq]
    exact ⟨fun h => h.imp Eq.symm id, fun h => h.imp Eq.symm id⟩
theorem allQ_append (ys : List Int) : (allQ xs z b ++ ys) = allQ (xs ++ ys) z b := by cases b <;> rfl
theorem allQ_perm {ys : List Int} (h : xs.Perm ys) : (allQ xs z b).Perm (allQ ys z b) := by
  cases b with
  | false => exact h
  | true => exact h.cons z
theorem allQ_cons : (allQ (g :: xs) z b).Perm (g :: allQ xs z b) := by
  cases b with
  | false => exact List.Perm.refl _
  | true => exact List.Perm.swap _ _ _
theorem put_permA (g : Int) : (allQ (putL m xs g) z b ++ spillL m xs g).Perm (g :: allQ xs z b) := by
  rw [allQ_append]
  exact (allQ_perm (put_perm g)).trans allQ_cons
theorem next_permA (g : Int) : (allQ (nextL m xs z b) g true ++ nextS m xs z b).Perm (g :: allQ xs z b) := by
  simp only [allQ, if_true, List.cons_append]
  exact (next_perm m xs z b).cons g
theorem take_permA (c : Bool) : (allQ (tkL m xs z b c) z false ++ (tkS m xs z b c ++ tkG m xs z b c)).Perm (allQ xs z b) := by
  unfold tkL tkS tkG
  by_cases hc : (b && c) = true
  · simp only [hc, if_true]
    obtain ⟨rfl, rfl⟩ : b = true ∧ c = true := by simpa using hc
    simp only [allQ, List.nil_append, Bool.false_eq_true, if_false, if_true]
    exact List.perm_append_comm
  · simp only [hc, Bool.false_eq_true, if_false]
    have h := next_perm m xs z b
    refine List.Perm.trans ?_ h
    simp only [allQ, Bool.false_eq_true, if_false]
    cases nextL m xs z b with
    | nil => simp
    | cons x t =>
      simp only [List.tail_cons, List.take_succ_cons, List.take_zero, List.cons_append]
      rw [← List.append_assoc]
      exact (List.perm_append_comm (l₁ := t ++ nextS m xs z b) (l₂ := [x]))
theorem remove_permA (g : Int) : (allQ (rmL xs z b g) z (rmB z b g) ++ (if hasQ xs z b g then [g] else [])).Perm (allQ xs z b) := by
  unfold rmL rmB hasQ
  by_cases hc : (b && z == g) = true
  · obtain ⟨rfl, hz⟩ : b = true ∧ (z == g) = true := by simpa using hc
    obtain rfl : z = g := by simpa using hz
    simp only [beq_self_eq_true, Bool.and_self, if_true, Bool.true_or, Bool.not_true, Bool.and_false, allQ, Bool.false_eq_true, if_false]
    exact List.perm_append_comm
  · have hb2 : (b && !(z == g)) = b := by
      cases b with
      | false => rfl
      | true => simpa using hc
    have hc' : (b && z == g) = false := by simpa using hc
    rw [hb2, hc']
    simp only [Bool.false_eq_true, if_false, Bool.false_or, decide_eq_true_eq]
    by_cases hm : g ∈ xs
    · rw [if_pos hm, allQ_append]
      exact allQ_perm (List.perm_append_comm.trans (List.perm_cons_erase hm).symm)
    · rw [if_neg hm, List.append_nil, List.erase_of_not_mem hm]
theorem tkG_cases (c : Bool) : tkG m xs z b c = [] ∨ ∃ x, tkG m xs z b c = [x] := by
  unfold tkG
  split
  · exact .inr ⟨z, rfl⟩
  · cases nextL m xs z b with
    | nil => exact .inl rfl
    | cons x t => exact .inr ⟨x, rfl⟩
theorem allQ_len : (allQ xs z b).length ≤ xs.length + 1 := by cases b <;> simp [allQ]
theorem tkS_len (c : Bool) : (tkS m xs z b c).length ≤ xs.length + 1 := by
  have h := (take_permA (m := m) (xs := xs) (z := z) (b := b) c).length_eq
  have h2 := allQ_len (xs := xs) (z := z) (b := b)
  simp only [List.length_append] at h
  omega
theorem spillL_len (g : Int) : (spillL m xs g).length ≤ xs.length + 1 := by
  have h := (put_perm (m := m) (xs := xs) g).length_eq
  simp only [List.length_append, List.length_cons] at h
  omega
theorem nextS_len : (nextS m xs z b).length ≤ xs.length + 1 := by
  have h := (next_perm m xs z b).length_eq
  have h2 := allQ_len (xs := xs) (z := z) (b := b)
  simp only [List.length_append] at h
  omega
theorem thiefO_len (f : Int → Bool) : (thiefO f xs z b).length ≤ xs.length + 1 := by
  have h := (thief_perm f xs z b).length_eq
  have h2 := allQ_len (xs := xs) (z := z) (b := b)
  simp only [List.length_append] at h
  omega
end

/-- An act's block. -/
abbrev actQ (bx : Nat) (k g : Int) (y : Bool) (v : Value) : Hp := pc bx 47 [vi k, vi g, .bool y, v]
/-- Both queues. -/
abbrev bothQ (q r p m : Nat) (xs : List Int) (z : Int) (b : Bool) (F : Hp) : Hp := quB q r z b * (ringP r m xs * (refQ p m xs z b * F))
/-- What do answers. -/
def DoQ (w0 : World) (q r p m : Nat) (xs : List Int) (z : Int) (b : Bool) (F : Hp) (e : Ending) (w' : World) : Prop :=
  ∃ xs' z' b', e = .returned (.bool true) ∧ Sat w0 (bothQ q r p m xs' z' b' F) w' ∧ ((allQ xs z b).Nodup → (allQ xs' z' b').Nodup)

theorem ref_same_yes (xs : List Int) (v u : Value) (w : World) (h : RdI w v xs) (h' : RdI w u xs) (hl : xs.length ≤ 1000000) :
    Calls Try.prog 27 #[v, u] w fun e w' => e = .returned (.bool true) ∧ ∃ k, w' = w.drewN k := by
  have := ref_same xs xs v u w h h' hl hl
  rwa [show sameI xs xs = true from by simp [sameI]] at this
section
variable {w0 w : World} {F : Hp} {q r p m : Nat} {z : Int} {b : Bool} {xs : List Int} {ao : Option Addr} {n cap : Nat}
set_option maxRecDepth 100000 in
set_option maxHeartbeats 2000000 in
theorem do5_1 (h : Sat w0 (bothQ q r p m xs z b F) w) (hm1 : 2 ≤ m) (g : Int) (y : Bool) :
    Calls Try.prog 22 #[vp q, vp p, .agg #[vi 1, vi g, .bool y, .slice ao n cap]] w (DoQ w0 q r p m xs z b F) := by
  have hl := h.pull2.ringLen
  have hB : Sat w0 (actQ w.heap.size 1 g y (.slice ao n cap) * (bothQ q r p m xs z b F)) (w.alloc (.cells #[vi 1, vi g, .bool y, .slice ao n cap] 47)) := h.alloc (.cells #[vi 1, vi g, .bool y, .slice ao n cap] 47)
  have c0 := hB.cell 0 rfl
  have c1 := hB.cell 1 rfl
  have c2 := hB.cell 2 rfl
  have c3 := hB.cell 3 rfl
  have H := Lib.hid hB
  clear hB h
  have HH := Lib.hid (r_has' (H.out.pull4) (by omega) g)
  go_enter Try.func22, Try.ntmps22
  go_wp2_with fail
  generalize hwb : w.alloc (.cells #[vi 1, vi g, .bool y, .slice ao n cap] 47) = wb at *
  generalize w.heap.size = bx at *
  clear hwb
  refine HH.out.mono ?_
  rintro e w' ⟨rfl, rfl⟩
  by_cases hh : hasQ xs z b g = true
  · rw [hh]
    go_wp2
    go_ret
    exact ⟨xs, z, b, rfl, H.out.dropL, id⟩
  · have hh' : hasQ xs z b g = false := by simpa using hh
    rw [hh']
    have HNO := Lib.hid hh
    have hsl := spillL_len (m := m) (xs := xs) g
    clear hh hh'
    go_wp2_with fail
    go_region_held3 (fun w' => w'.cell? ⟨bx, 1, none⟩ = some (vi g))
      (first | exact d1 | exact e1 | go_keep)
      (first
        | (go_at_call 30; refine (q_put (H.out.drewN 1).rot4 g).mono ?_; rintro e w1 ⟨v1, rfl, hS1⟩; have d1 := hS1.pull5.cell 1 rfl; have H1 := Lib.hid hS1; clear hS1)
        | (go_at_call 52; refine (r_put' H1.out.pull4 (by omega) hm1 (by omega) g).mono ?_; rintro e w2 ⟨v2, rfl, hS2⟩; have e1 := hS2.pull6.cell 1 rfl; have H2 := Lib.hid hS2; clear hS2)
        | (go_at_call 27; refine (ref_same_yes (spillL m xs g) _ _ _ H2.out.pull3.rd H2.out.rd (by omega)).mono ?_; rintro e w3 ⟨rfl, N, rfl⟩))
    go_wp2
    go_ret
    refine ⟨putL m xs g, z, b, rfl, ((H2.out.drewN N).cast (show _ = actQ bx 1 g y (.slice ao n cap) * (sl 3 1 v1 (spillL m xs g).length ((spillL m xs g).map vi) * (sl 3 1 v2 (spillL m xs g).length ((spillL m xs g).map vi) * bothQ q r p m (putL m xs g) (z) b F)) by unfold bothQ; ac_rfl)).dropL.dropL.dropL, fun hn => ?_⟩
    have h1 := ((put_permA (m := m) g : List.Perm _ (g :: allQ xs z b)).nodup_iff).2 (List.nodup_cons.2 ⟨fun h => HNO.out (hasQ_mem.2 h), hn⟩)
    exact (List.nodup_append.1 h1).1
set_option maxRecDepth 100000 in
set_option maxHeartbeats 2000000 in
theorem do5_2 (h : Sat w0 (bothQ q r p m xs z b F) w) (hm1 : 2 ≤ m) (g : Int) (y : Bool) :
    Calls Try.prog 22 #[vp q, vp p, .agg #[vi 2, vi g, .bool y, .slice ao n cap]] w (DoQ w0 q r p m xs z b F) := by
  have hl := h.pull2.ringLen
  have hB : Sat w0 (actQ w.heap.size 2 g y (.slice ao n cap) * (bothQ q r p m xs z b F)) (w.alloc (.cells #[vi 2, vi g, .bool y, .slice ao n cap] 47)) := h.alloc (.cells #[vi 2, vi g, .bool y, .slice ao n cap] 47)
  have c0 := hB.cell 0 rfl
  have c1 := hB.cell 1 rfl
  have c2 := hB.cell 2 rfl
  have c3 := hB.cell 3 rfl
  have H := Lib.hid hB
  clear hB h
  have HH := Lib.hid (r_has' (H.out.pull4) (by omega) g)
  go_enter Try.func22, Try.ntmps22
  go_wp2_with fail
  generalize hwb : w.alloc (.cells #[vi 2, vi g, .bool y, .slice ao n cap] 47) = wb at *
  generalize w.heap.size = bx at *
  clear hwb
  refine HH.out.mono ?_
  rintro e w' ⟨rfl, rfl⟩
  by_cases hh : hasQ xs z b g = true
  · rw [hh]
    go_wp2
    go_ret
    exact ⟨xs, z, b, rfl, H.out.dropL, id⟩
  · have hh' : hasQ xs z b g = false := by simpa using hh
    rw [hh']
    have HNO := Lib.hid hh
    have hsl := nextS_len (m := m) (xs := xs) (z := z) (b := b)
    clear hh hh'
    go_wp2_with fail
    go_region_held3 (fun w' => w'.cell? ⟨bx, 1, none⟩ = some (vi g))
      (first | exact d1 | exact e1 | go_keep)
      (first
        | (go_at_call 31; refine (q_putnext (H.out.drewN 1).rot4 g).mono ?_; rintro e w1 ⟨v1, rfl, hS1⟩; have d1 := hS1.pull5.cell 1 rfl; have H1 := Lib.hid hS1; clear hS1)
        | (go_at_call 53; refine (r_putnext' H1.out.pull4 (by omega) hm1 (by omega) g).mono ?_; rintro e w2 ⟨v2, rfl, hS2⟩; have e1 := hS2.pull6.cell 1 rfl; have H2 := Lib.hid hS2; clear hS2)
        | (go_at_call 27; refine (ref_same_yes (nextS m xs z b) _ _ _ H2.out.pull3.rd H2.out.rd (by omega)).mono ?_; rintro e w3 ⟨rfl, N, rfl⟩))
    go_wp2
    go_ret
    refine ⟨nextL m xs z b, g, true, rfl, ((H2.out.drewN N).cast (show _ = actQ bx 2 g y (.slice ao n cap) * (sl 3 1 v1 (nextS m xs z b).length ((nextS m xs z b).map vi) * (sl 3 1 v2 (nextS m xs z b).length ((nextS m xs z b).map vi) * bothQ q r p m (nextL m xs z b) (g) true F)) by unfold bothQ; ac_rfl)).dropL.dropL.dropL, fun hn => ?_⟩
    have h1 := ((next_permA (m := m) g : List.Perm _ (g :: allQ xs z b)).nodup_iff).2 (List.nodup_cons.2 ⟨fun h => HNO.out (hasQ_mem.2 h), hn⟩)
    exact (List.nodup_append.1 h1).1
set_option maxRecDepth 100000 in
set_option maxHeartbeats 2000000 in
theorem do5_4 (h : Sat w0 (bothQ q r p m xs z b F) w) (hm1 : 2 ≤ m) (g : Int) (y : Bool) :
    Calls Try.prog 22 #[vp q, vp p, .agg #[vi 4, vi g, .bool y, .slice ao n cap]] w (DoQ w0 q r p m xs z b F) := by
  have hl := h.pull2.ringLen
  have hB : Sat w0 (actQ w.heap.size 4 g y (.slice ao n cap) * (bothQ q r p m xs z b F)) (w.alloc (.cells #[vi 4, vi g, .bool y, .slice ao n cap] 47)) := h.alloc (.cells #[vi 4, vi g, .bool y, .slice ao n cap] 47)
  have c0 := hB.cell 0 rfl
  have c1 := hB.cell 1 rfl
  have c2 := hB.cell 2 rfl
  have c3 := hB.cell 3 rfl
  have H := Lib.hid hB
  clear hB h
  go_enter Try.func22, Try.ntmps22
  go_wp2_with fail
  generalize hwb : w.alloc (.cells #[vi 4, vi g, .bool y, .slice ao n cap] 47) = wb at *
  generalize w.heap.size = bx at *
  clear hwb
  go_region_held3 (fun w' => w'.cell? ⟨bx, 1, none⟩ = some (vi g))
    (first | exact d1 | exact e1 | go_keep)
    (first
      | (go_at_call 33; refine (q_remove' (H.out.drewN 1).rot4 g).mono ?_; rintro e w1 ⟨rfl, hS1⟩; have d1 := hS1.pull4.cell 1 rfl; have H1 := Lib.hid hS1; clear hS1)
      | (go_at_call 55; refine (r_remove' H1.out.pull3 (by omega) g).mono ?_; rintro e w2 ⟨rfl, hS2⟩; have e1 := hS2.pull4.cell 1 rfl; have H2 := Lib.hid hS2; clear hS2))
  go_wp2
  go_ret
  refine ⟨rmL xs z b g, z, rmB z b g, by simp, (H2.out.cast (show _ = actQ bx 4 g y (.slice ao n cap) * bothQ q r p m (rmL xs z b g) z (rmB z b g) F by unfold bothQ; ac_rfl)).dropL, fun hn => ?_⟩
  exact (List.nodup_append.1 ((remove_permA g).nodup_iff.2 hn)).1
set_option maxRecDepth 100000 in
set_option maxHeartbeats 2000000 in
theorem do5_5 (h : Sat w0 (bothQ q r p m xs z b F) w) (hm1 : 2 ≤ m) (g : Int) (y : Bool) :
    Calls Try.prog 22 #[vp q, vp p, .agg #[vi 5, vi g, .bool y, .slice ao n cap]] w (DoQ w0 q r p m xs z b F) := by
  have hl := h.pull2.ringLen
  have hB : Sat w0 (actQ w.heap.size 5 g y (.slice ao n cap) * (bothQ q r p m xs z b F)) (w.alloc (.cells #[vi 5, vi g, .bool y, .slice ao n cap] 47)) := h.alloc (.cells #[vi 5, vi g, .bool y, .slice ao n cap] 47)
  have c0 := hB.cell 0 rfl
  have c1 := hB.cell 1 rfl
  have c2 := hB.cell 2 rfl
  have c3 := hB.cell 3 rfl
  have H := Lib.hid hB
  clear hB h
  go_enter Try.func22, Try.ntmps22
  go_wp2_with fail
  generalize hwb : w.alloc (.cells #[vi 5, vi g, .bool y, .slice ao n cap] 47) = wb at *
  generalize w.heap.size = bx at *
  clear hwb
  go_region_held3 (fun w' => w'.cell? ⟨bx, 1, none⟩ = some (vi g))
    (first | exact d1 | exact e1 | go_keep)
    (first
      | (go_at_call 25; refine (q_has (H.out.drewN 1).rot4 g).mono ?_; rintro e w1 ⟨rfl, hS1⟩; have d1 := hS1.pull4.cell 1 rfl; have H1 := Lib.hid hS1; clear hS1)
      | (go_at_call 51; refine (r_has' H1.out.pull3 (by omega) g).mono ?_; rintro e w2 ⟨rfl, rfl⟩))
  go_wp2
  go_ret
  exact ⟨xs, z, b, by simp [hasQ], (H1.out.cast (show _ = actQ bx 5 g y (.slice ao n cap) * bothQ q r p m xs z b F by unfold bothQ; ac_rfl)).dropL, id⟩
set_option maxRecDepth 100000 in
set_option maxHeartbeats 2000000 in
theorem do5_0 (h : Sat w0 (bothQ q r p m xs z b F) w) (k g : Int) (y : Bool) (h1 : k ≠ 1) (h2 : k ≠ 2) (h3 : k ≠ 3) (h4 : k ≠ 4) (h5 : k ≠ 5) (h6 : k ≠ 6) :
    Calls Try.prog 22 #[vp q, vp p, .agg #[vi k, vi g, .bool y, .slice ao n cap]] w (DoQ w0 q r p m xs z b F) := by
  have hB : Sat w0 (actQ w.heap.size k g y (.slice ao n cap) * (bothQ q r p m xs z b F)) (w.alloc (.cells #[vi k, vi g, .bool y, .slice ao n cap] 47)) := h.alloc (.cells #[vi k, vi g, .bool y, .slice ao n cap] 47)
  have c0 := hB.cell 0 rfl
  have H := Lib.hid hB
  have g1 : (k == 1) = false := by simpa using h1
  have g2 : (k == 2) = false := by simpa using h2
  have g3 : (k == 3) = false := by simpa using h3
  have g4 : (k == 4) = false := by simpa using h4
  have g5 : (k == 5) = false := by simpa using h5
  have g6 : (k == 6) = false := by simpa using h6
  clear hB h h1 h2 h3 h4 h5 h6
  go_enter Try.func22, Try.ntmps22
  go_wp2_with fail
  generalize hwb : w.alloc (.cells #[vi k, vi g, .bool y, .slice ao n cap] 47) = wb at *
  generalize w.heap.size = bx at *
  clear hwb
  go_ret
  exact ⟨xs, z, b, rfl, H.out.dropL, id⟩
end
end Go.Proofs.Ytjlgdepneipgnaa.Rq
