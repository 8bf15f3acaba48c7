/-
  Chapter 04: the statements' helper do. No statement is proved here.
-/
import Derived.Test.YtcchfdoeacgapaaHm23
import Derived.Test.YtcchfdoeacgapaaHm18
namespace Go.Proofs.Ytcchfdoeacgapaa.Hm
open Go.RowKit
set_option linter.unusedVariables false

/-- Both heaps, alike, of at most k acts. -/
def Bal (w0 : World) (h q : Nat) (F : Hp) (k : Nat) (w : World) : Prop :=
  ∃ A p S, Inv A p S ∧ 0 ≤ p ∧ p ≤ (k : Int) ∧ A.length ≤ k ∧ Sat w0 (heapP h A p * (refP q (S.map trOf) * F)) w
def Do4 (w0 : World) (h q : Nat) (F : Hp) (k : Nat) (e : Ending) (w : World) : Prop := e = .returned (.bool true) ∧ Bal w0 h q F k w
theorem Bal.intro {w0 w : World} {h q : Nat} {F : Hp} {k : Nat} {A S : List Tm} {p : Int} {L : List Tr} (hI : Inv A p S) (h0 : 0 ≤ p) (h1 : p ≤ (k : Int)) (h2 : A.length ≤ k) (e : S.map trOf = L) (hS : Sat w0 (heapP h A p * (refP q L * F)) w) : Bal w0 h q F k w :=
  ⟨A, p, S, hI, h0, h1, h2, e ▸ hS⟩
theorem heapP_nd {w0 w : World} {F : Hp} {h : Nat} {A : List Tm} {p : Int} (hS : Sat w0 (heapP h A p * F) w) : Nd A := by
  obtain ⟨vl, vm, M, h1, h2, h3, hS⟩ := heapP_open hS
  exact h2
abbrev actB (b : Nat) (k a id : Int) : Hp := pc b 64 [vi k, vu a, vi id]

section
variable {w0 w : World} {F : Hp} {h q k : Nat}
set_option maxRecDepth 100000 in
theorem do4_0 (hS : Bal w0 h q F k w) (kd a id : Int) (h1 : kd ≠ 1) (h2 : kd ≠ 2) (h3 : kd ≠ 3) :
    Calls Try.prog 39 #[vp h, vp q, .agg #[vi kd, vu a, vi id]] w (Do4 w0 h q F (k + 1)) := by
  obtain ⟨A, p, S, hI, hp0, hp1, hA, hS⟩ := hS
  have hB : Sat w0 (actB w.heap.size kd a id * (heapP h A p * (refP q (S.map trOf) * F))) (w.alloc (.cells #[vi kd, vu a, vi id] 64)) := hS.alloc (.cells #[vi kd, vu a, vi id] 64)
  have c0 := hB.cell 0 rfl
  have HX := Lib.hid (Bal.intro (k := k + 1) hI hp0 (by omega) (by omega) rfl hB.dropL)
  have g1 : (kd == 1) = false := beq_eq_false_iff_ne.2 h1
  have g2 : (kd == 2) = false := beq_eq_false_iff_ne.2 h2
  have g3 : (kd == 3) = false := beq_eq_false_iff_ne.2 h3
  clear hS hB hI
  go_enter Try.func39, Try.ntmps39
  go_wp2
  go_ret
  exact ⟨rfl, HX.out⟩
set_option maxRecDepth 100000 in
set_option maxHeartbeats 2000000 in
theorem do4_1 (hS : Bal w0 h q F k w) (hk : k ≤ 1000) (a id : Int) :
    Calls Try.prog 39 #[vp h, vp q, .agg #[vi 1, vu a, vi id]] w (Do4 w0 h q F (k + 1)) := by
  obtain ⟨A, p, S, hI, hp0, hp1, hA, hS⟩ := hS
  have hB : Sat w0 (actB w.heap.size 1 a id * (heapP h A p * (refP q (S.map trOf) * F))) (w.alloc (.cells #[vi 1, vu a, vi id] 64)) := hS.alloc (.cells #[vi 1, vu a, vi id] 64)
  have c0 := hB.cell 0 rfl
  have c1 := hB.cell 1 rfl
  have c2 := hB.cell 2 rfl
  have hL := hI.len
  have hhas := hI.has id
  cases hh : hasT A id with
  | true =>
    rw [hh] at hhas
    obtain ⟨j, _, hf, _⟩ := findT_some hhas.symm
    have HQ := Lib.hid (h_put_no hB.drew.pull2 a id hh)
    have HR := Lib.hid (r_put_busy hB.drew.pull3 a id (by omega) (by omega))
    have HX := Lib.hid (fun N => Bal.intro (k := k + 1) hI hp0 (by omega) (by omega) rfl (hB.drewN N).dropL)
    clear hS hB hI hL hhas hh hf
    go_enter Try.func39, Try.ntmps39
    go_wp2_with fail
    generalize hwb : w.alloc (.cells #[vi 1, vu a, vi id] 64) = wb at *
    generalize w.heap.size = bx at *
    clear hwb
    go_region_held3 (fun w' => w'.cell? ⟨bx, 1, none⟩ = some (vu a) ∧ w'.cell? ⟨bx, 2, none⟩ = some (vi id))
      (first | exact ⟨c1, c2⟩ | go_keep)
      (first
        | (go_at_call 16; refine HQ.out.mono ?_; rintro e w' ⟨rfl, rfl⟩)
        | (go_at_call 58; refine HR.out.mono ?_; rintro e w' ⟨rfl, rfl⟩))
    go_wp2
    go_ret
    exact ⟨rfl, HX.out 1⟩
  | false =>
    rw [hh] at hhas
    have hf := findT_none hhas.symm
    have HQ := Lib.hid (h_put hB.drew.pull2 a id hh (by omega) hp0 (by omega))
    have HR : Hid (∀ (w1 : World) (G : Hp), Sat w0 (refP q (S.map trOf) * G) w1 → Calls Try.prog 58 #[vp q, vu a, vi id] w1 (PutOk w0 q (S.map trOf) G a id (upTo (S.map trOf) a))) := Lib.hid fun w1 G h1 => r_put h1 a id (by omega) hf
    have HX : Hid (∀ A' w', A'.Perm ((a, id, p) :: A) → Sat w0 (heapP h A' (p + 1) * (refP q ((S.map trOf).take (upTo (S.map trOf) a) ++ (a, id) :: (S.map trOf).drop (upTo (S.map trOf) a)) * F)) w' → Bal w0 h q F (k + 1) w') := Lib.hid fun A' w' hp h' => by
      obtain ⟨S', hI', hS'⟩ := hI.put hp (upTo_le _ _) (upTo_lt _) (upTo_no _)
      have := hp.length_eq
      simp only [List.length_cons] at this
      exact Bal.intro hI' (by omega) (by omega) (by omega) hS' h'
    clear hS hI hL hhas hh hf
    generalize S.map trOf = L at *
    generalize upTo L a = K at *
    clear hB
    go_enter Try.func39, Try.ntmps39
    go_wp2_with fail
    generalize hwb : w.alloc (.cells #[vi 1, vu a, vi id] 64) = wb at *
    generalize w.heap.size = bx at *
    clear hwb
    go_region_held3 (fun w' => w'.cell? ⟨bx, 1, none⟩ = some (vu a) ∧ w'.cell? ⟨bx, 2, none⟩ = some (vi id))
      (first | exact ⟨c1, c2⟩ | exact ⟨d1, d2⟩ | exact ⟨f1, f2⟩ | go_keep)
      (first
        | (go_at_call 16; refine HQ.out.mono ?_; rintro e w1 ⟨rfl, A1, hp1, hS1⟩; have HPm := Lib.hid hp1; have d1 := hS1.pull2.cell 1 rfl; have d2 := hS1.pull2.cell 2 rfl; have H1 := Lib.hid hS1; clear hS1 hp1)
        | (go_at_call 58; refine (HR.out _ _ H1.out.pull3).mono ?_; rintro e w2 ⟨rfl, hS2⟩; have f1 := hS2.pull3.cell 1 rfl; have f2 := hS2.pull3.cell 2 rfl; have H2 := Lib.hid hS2; clear hS2))
    go_wp2
    go_ret
    exact ⟨rfl, HX.out _ _ HPm.out (H2.out.drop3.pull2)⟩
set_option maxRecDepth 100000 in
set_option maxHeartbeats 2000000 in
theorem do4_2 (hS : Bal w0 h q F k w) (hk : k ≤ 1000) (a id : Int) :
    Calls Try.prog 39 #[vp h, vp q, .agg #[vi 2, vu a, vi id]] w (Do4 w0 h q F (k + 1)) := by
  obtain ⟨A, p, S, hI, hp0, hp1, hA, hS⟩ := hS
  have hB : Sat w0 (actB w.heap.size 2 a id * (heapP h A p * (refP q (S.map trOf) * F))) (w.alloc (.cells #[vi 2, vu a, vi id] 64)) := hS.alloc (.cells #[vi 2, vu a, vi id] 64)
  have c0 := hB.cell 0 rfl
  have c1 := hB.cell 1 rfl
  have hL := hI.len
  cases S with
  | nil =>
    obtain rfl : A = [] := List.eq_nil_of_length_eq_zero (by simpa using hL)
    have HQ := Lib.hid (h_pop_nil hB.pull2 a)
    have HR : Hid (Calls Try.prog 59 #[vp q, vu a] (w.alloc (.cells #[vi 2, vu a, vi id] 64)) fun e w' => e = .returned (.tuple #[vi 0, .bool false]) ∧ w.alloc (.cells #[vi 2, vu a, vi id] 64) = w') := Lib.hid (r_pop_nil hB.pull3 a)
    have HX := Lib.hid (Bal.intro (k := k + 1) hI hp0 (by omega) (by simp) rfl hB.dropL)
    clear hS hB hI hL
    go_enter Try.func39, Try.ntmps39
    go_wp2_with (first
      | (go_at_call 17; refine HQ.out.mono ?_; rintro e w' ⟨rfl, rfl⟩)
      | (go_at_call 59; refine HR.out.mono ?_; rintro e w' ⟨rfl, rfl⟩))
    go_ret
    exact ⟨rfl, HX.out⟩
  | cons t S =>
    have hA0 : A ≠ [] := fun e => by rw [e] at hL; simp at hL
    have hg : gt A 0 = t := hI.head (heapP_least hS)
    have hLs : ((t :: S).map trOf).length ≤ 4096 := by omega
    by_cases hlt : a < t.1
    · have HQ := Lib.hid (h_pop_no hB.pull2 hA0 (by omega) a (by rw [hg]; exact hlt))
      have HR : Hid (Calls Try.prog 59 #[vp q, vu a] (w.alloc (.cells #[vi 2, vu a, vi id] 64)) fun e w' => e = .returned (.tuple #[vi 0, .bool false]) ∧ w.alloc (.cells #[vi 2, vu a, vi id] 64) = w') := Lib.hid (r_pop_no (t := trOf t) (L := S.map trOf) hB.pull3 a hlt (by simp at hLs ⊢; omega))
      have HX := Lib.hid (Bal.intro (k := k + 1) hI hp0 (by omega) (by omega) rfl hB.dropL)
      clear hS hB hI hL hg hlt hLs hA0
      go_enter Try.func39, Try.ntmps39
      go_wp2_with (first
        | (go_at_call 17; refine HQ.out.mono ?_; rintro e w' ⟨rfl, rfl⟩)
        | (go_at_call 59; refine HR.out.mono ?_; rintro e w' ⟨rfl, rfl⟩))
      go_ret
      exact ⟨rfl, HX.out⟩
    · have HQ := h_pop hB.pull2 hA0 (by omega) a (by rw [hg]; exact hlt)
      rw [hg] at HQ
      have HQ := Lib.hid HQ
      have HR : Hid (∀ (w1 : World) (G : Hp), Sat w0 (refP q (trOf t :: S.map trOf) * G) w1 → Calls Try.prog 59 #[vp q, vu a] w1 fun e w' => e = .returned (.tuple #[vi t.2.1, .bool true]) ∧ Sat w0 (refP q (S.map trOf) * G) w') := Lib.hid fun w1 G h1 => r_pop h1 a hlt (by simp at hLs ⊢; omega)
      have HX : Hid (∀ A' w', (t :: A').Perm A → Sat w0 (heapP h A' p * (refP q (S.map trOf) * F)) w' → Bal w0 h q F (k + 1) w') := Lib.hid fun A' w' hp h' => by
        have := hp.length_eq
        simp only [List.length_cons] at this
        exact Bal.intro (hI.pop hp) hp0 (by omega) (by omega) rfl h'
      clear hS hB hI hL hg hlt hLs hA0
      obtain ⟨ta, ti, tn⟩ := t
      go_enter Try.func39, Try.ntmps39
      go_wp2_with (first
        | (go_at_call 17; refine HQ.out.mono ?_; rintro e w1 ⟨rfl, A1, hp1, hS1⟩; have HPm := Lib.hid hp1; have d1 := hS1.pull2.cell 1 rfl; have H1 := Lib.hid hS1; clear hS1 hp1)
        | (go_at_call 59; refine (HR.out _ _ H1.out.pull3).mono ?_; rintro e w2 ⟨rfl, hS2⟩; have H2 := Lib.hid hS2; clear hS2))
      go_ret
      exact ⟨by simp, HX.out _ _ HPm.out (H2.out.drop3.pull2)⟩
set_option maxRecDepth 100000 in
set_option maxHeartbeats 2000000 in
theorem do4_3 (hS : Bal w0 h q F k w) (hk : k ≤ 1000) (a id : Int) :
    Calls Try.prog 39 #[vp h, vp q, .agg #[vi 3, vu a, vi id]] w (Do4 w0 h q F (k + 1)) := by
  obtain ⟨A, p, S, hI, hp0, hp1, hA, hS⟩ := hS
  have hB : Sat w0 (actB w.heap.size 3 a id * (heapP h A p * (refP q (S.map trOf) * F))) (w.alloc (.cells #[vi 3, vu a, vi id] 64)) := hS.alloc (.cells #[vi 3, vu a, vi id] 64)
  have c0 := hB.cell 0 rfl
  have c2 := hB.cell 2 rfl
  have hL := hI.len
  have hhas := hI.has id
  cases hh : hasT A id with
  | false =>
    rw [hh] at hhas
    have hf := findT_none hhas.symm
    have HQ := Lib.hid (h_remove_no hB.drew.pull2 id hh)
    have HR := Lib.hid (r_remove_no hB.drew.pull3 id (by omega) hf)
    have HX := Lib.hid (fun N => Bal.intro (k := k + 1) hI hp0 (by omega) (by omega) rfl (hB.drewN N).dropL)
    clear hS hB hI hL hhas hh hf
    go_enter Try.func39, Try.ntmps39
    go_wp2_with fail
    generalize hwb : w.alloc (.cells #[vi 3, vu a, vi id] 64) = wb at *
    generalize w.heap.size = bx at *
    clear hwb
    go_region_held3 (fun w' => w'.cell? ⟨bx, 2, none⟩ = some (vi id))
      (first | exact c2 | go_keep)
      (first
        | (go_at_call 48; refine HQ.out.mono ?_; rintro e w' ⟨rfl, rfl⟩)
        | (go_at_call 60; refine HR.out.mono ?_; rintro e w' ⟨rfl, rfl⟩))
    go_wp2
    go_ret
    exact ⟨rfl, HX.out 1⟩
  | true =>
    rw [hh] at hhas
    obtain ⟨j, hj, hf, he⟩ := findT_some hhas.symm
    have HQ := Lib.hid (h_remove hB.drew.pull2 id hh (by omega))
    have HR : Hid (∀ (w1 : World) (G : Hp), Sat w0 (refP q (S.map trOf) * G) w1 → Calls Try.prog 60 #[vp q, vi id] w1 fun e w' => e = .returned (.bool true) ∧ Sat w0 (refP q ((S.map trOf).eraseIdx j) * G) w') := Lib.hid fun w1 G h1 => r_remove h1 id (by omega) j hj hf
    have hnd := heapP_nd hS
    have HX : Hid (∀ t A' w', t.2.1 = id → (t :: A').Perm A → Sat w0 (heapP h A' p * (refP q ((S.map trOf).eraseIdx j) * F)) w' → Bal w0 h q F (k + 1) w') := Lib.hid fun t A' w' ht hp h' => by
      obtain ⟨S', hI', hS'⟩ := hI.remove hnd ht hp hj he
      have := hp.length_eq
      simp only [List.length_cons] at this
      exact Bal.intro hI' hp0 (by omega) (by omega) hS' h'
    clear hS hI hL hhas hh hf hj he hnd
    generalize S.map trOf = L at *
    generalize L.eraseIdx j = L2 at *
    clear hB
    go_enter Try.func39, Try.ntmps39
    go_wp2_with fail
    generalize hwb : w.alloc (.cells #[vi 3, vu a, vi id] 64) = wb at *
    generalize w.heap.size = bx at *
    clear hwb
    go_region_held3 (fun w' => w'.cell? ⟨bx, 2, none⟩ = some (vi id))
      (first | exact c2 | exact d2 | exact f2 | go_keep)
      (first
        | (go_at_call 48; refine HQ.out.mono ?_; rintro e w1 ⟨rfl, t1, A1, ht1, hp1, hS1⟩; have HT := Lib.hid ht1; have HPm := Lib.hid hp1; have d2 := hS1.pull2.cell 2 rfl; have H1 := Lib.hid hS1; clear hS1 hp1 ht1)
        | (go_at_call 60; refine (HR.out _ _ H1.out.pull3).mono ?_; rintro e w2 ⟨rfl, hS2⟩; have f2 := hS2.pull3.cell 2 rfl; have H2 := Lib.hid hS2; clear hS2))
    go_wp2
    go_ret
    exact ⟨rfl, HX.out _ _ _ HT.out HPm.out (H2.out.drop3.pull2)⟩
theorem do4 (hS : Bal w0 h q F k w) (hk : k ≤ 1000) (kd a id : Int) :
    Calls Try.prog 39 #[vp h, vp q, .agg #[vi kd, vu a, vi id]] w (Do4 w0 h q F (k + 1)) := by
  by_cases h1 : kd = 1
  · subst h1
    exact do4_1 hS hk a id
  · by_cases h2 : kd = 2
    · subst h2
      exact do4_2 hS hk a id
    · by_cases h3 : kd = 3
      · subst h3
        exact do4_3 hS hk a id
      · exact do4_0 hS kd a id h1 h2 h3
end
end Go.Proofs.Ytcchfdoeacgapaa.Hm
