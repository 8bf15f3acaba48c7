/-
  Package cspace: put, Root at slots that are free. No statement is proved here.
-/
import Derived.Test.YtdbppfcilaajaaaGreatMg10
import Derived.Deep.RegionHeld3
import Derived.Test.YtdbppfcilaajaaaGreatMg12
import Derived.Test.YtdbppfcilaajaaaGreatMg3
import Derived.Maps.OwnSet
namespace Go.Proofs.YtdbppfcilaajaaaGreat.Kn
open Go.RowKit Pc
open Ad (size1)
set_option linter.unusedVariables false
set_option linter.unusedSimpArgs false

section
variable {w0 w : World} {F : Hp} {s gs t j : Nat}
set_option maxRecDepth 100000 in
set_option maxHeartbeats 8000000 in
theorem sp_put (kd oi og r : Int) (h : Sat w0 (spQ s gs j * F) w) (hj : j < 6) : Calls Tryz.prog 119 #[vp s, vi (-1), vi 0, vi j, capV kd oi og r] w fun e w' => e = .returned (vi 0) ∧ Sat w0 (spQ s gs (j + 1) * F) w' := by
  have hB := (h.alloc (.cells (capL kd oi og r).toArray 106)).pull2
  obtain ⟨b, hb⟩ : ∃ b, b = w.heap.size := ⟨_, rfl⟩
  rw [← hb] at hB
  have HBB := Lib.hid hb
  have bx0 : (w.alloc (.cells (capL kd oi og r).toArray 106)).cell? ⟨w.heap.size, 0, none⟩ = some (.int .i64 kd) := hb ▸ hB.pull2.cell 0 rfl
  obtain ⟨t, v1, v2, v3, M1, M2, M3, hk, hS⟩ := sp_open hB
  have c3 := hS.cell 3 rfl
  have e39 : 40 - j = (39 - j) + 1 := by omega
  rw [spA, e39] at hS
  have HA := Lib.hid (t_add hS.pull2 (by omega) (by omega))
  rw [show 40 - 1 - (39 - j) = j by omega] at HA
  obtain ⟨b1, rfl⟩ := hS.pull3.mapKForm
  obtain ⟨b2, rfl⟩ := hS.pull4.mapKForm
  obtain ⟨b3, rfl⟩ := hS.drop2.drop2.pull3.mapKForm
  have HK := Lib.hid hk
  have HJ := Lib.hid hj
  clear h hB hS hk hj e39 hb bx0
  go_enter Tryz.func119, Tryz.ntmps119
  go_wp2_with (go_at_call 172; refine HA.out.mono ?_; rintro e w1 ⟨rfl, hS1⟩; have H1 := Lib.hid hS1; clear hS1)
  have hP : Sat w0 (mapK encS encI (.map (some b1)) M1 * (pc s 199 (spL gs t (.map (some b1)) (.map (some b2)) (.map (some b3))) * (pc b 106 (capL kd oi og r) * (mapK encI encS (.map (some b2)) M2 * (mapK encI idV (.map (some b3)) M3 * (treeQ t 40 (39 - j) * F)))))) w1.drew := (H1.out.drew).cast (by simp only [pc]; ac_rfl)
  have hz1 : ∀ w : World, (zeroValue 3).run Tryz.prog w = .ok (.int .i64 0) w := fun w => by kernel_rfl
  have hz2 : ∀ w : World, (zeroValue 316).run Tryz.prog w = .ok (.agg #[.int .i64 0, .int .i64 0]) w := fun w => by kernel_rfl
  have hz3 : ∀ w : World, (zeroValue 106).run Tryz.prog w = .ok (.agg #[.int .i64 0, .int .i64 0, .int .u64 0, .int .u8 0]) w := fun w => by kernel_rfl
  have hj64 : j < 64 := by have := HJ.out; omega
  obtain ⟨u1, s1, e1, p1⟩ := runK_entry (P := Tryz.prog) keyS Tryz.underlying195 hz1 hP ((0 : Fin 64), (⟨j, hj64⟩ : Fin 64)) (HK.out.1 0 ⟨j, hj64⟩ (Nat.le_refl j))
  obtain ⟨u2, e2, p2⟩ := runK_fill (P := Tryz.prog) 195 p1 (j : Int)
  have q2 : Sat w0 (mapK encI encS (.map (some b2)) M2 * (pc s 199 (spL gs t (.map (some b1)) (.map (some b2)) (.map (some b3))) * (pc b 106 (capL kd oi og r) * (mapK encS encI (.map (some b1)) (putK M1 ((0 : Fin 64), (⟨j, hj64⟩ : Fin 64)) (j : Int)) * (mapK encI idV (.map (some b3)) M3 * (treeQ t 40 (39 - j) * F)))))) u2 := p2.cast (by ac_rfl)
  obtain ⟨u3, s3, e3, p3⟩ := runK_entry (P := Tryz.prog) (keyInt Tryz.underlying3) Tryz.underlying196 hz2 q2 (j : Int) (HK.out.2.1 j (Int.le_refl _))
  obtain ⟨u4, e4, p4⟩ := runK_fill (P := Tryz.prog) 196 p3 ((0 : Fin 64), (⟨j, hj64⟩ : Fin 64))
  have q4 : Sat w0 (mapK encI idV (.map (some b3)) M3 * (pc s 199 (spL gs t (.map (some b1)) (.map (some b2)) (.map (some b3))) * (pc b 106 (capL kd oi og r) * (mapK encS encI (.map (some b1)) (putK M1 ((0 : Fin 64), (⟨j, hj64⟩ : Fin 64)) (j : Int)) * (mapK encI encS (.map (some b2)) (putK M2 (j : Int) ((0 : Fin 64), (⟨j, hj64⟩ : Fin 64))) * (treeQ t 40 (39 - j) * F)))))) u4 := p4.cast (by ac_rfl)
  obtain ⟨u5, s5, e5, p5⟩ := runK_entry (P := Tryz.prog) (keyInt Tryz.underlying3) Tryz.underlying197 hz3 q4 (j : Int) (HK.out.2.2 j (Int.le_refl _))
  obtain ⟨u6, e6, p6⟩ := runK_fill (P := Tryz.prog) 197 p5 (capV kd oi og r)
  have S0 := (⟨hP.pull2.cell 4 rfl, hP.pull2.cell 5 rfl, hP.pull2.cell 6 rfl, hP.pull3.cell 0 rfl, hP.pull3.cell 1 rfl, hP.pull3.cell 2 rfl, hP.pull3.cell 3 rfl⟩ : _ ∧ _ ∧ _ ∧ _ ∧ _ ∧ _ ∧ _)
  have S1 := (⟨p1.pull2.cell 4 rfl, p1.pull2.cell 5 rfl, p1.pull2.cell 6 rfl, p1.pull3.cell 0 rfl, p1.pull3.cell 1 rfl, p1.pull3.cell 2 rfl, p1.pull3.cell 3 rfl⟩ : _ ∧ _ ∧ _ ∧ _ ∧ _ ∧ _ ∧ _)
  have S2 := (⟨q2.pull2.cell 4 rfl, q2.pull2.cell 5 rfl, q2.pull2.cell 6 rfl, q2.pull3.cell 0 rfl, q2.pull3.cell 1 rfl, q2.pull3.cell 2 rfl, q2.pull3.cell 3 rfl⟩ : _ ∧ _ ∧ _ ∧ _ ∧ _ ∧ _ ∧ _)
  have S3 := (⟨p3.pull2.cell 4 rfl, p3.pull2.cell 5 rfl, p3.pull2.cell 6 rfl, p3.pull3.cell 0 rfl, p3.pull3.cell 1 rfl, p3.pull3.cell 2 rfl, p3.pull3.cell 3 rfl⟩ : _ ∧ _ ∧ _ ∧ _ ∧ _ ∧ _ ∧ _)
  have S4 := (⟨q4.pull2.cell 4 rfl, q4.pull2.cell 5 rfl, q4.pull2.cell 6 rfl, q4.pull3.cell 0 rfl, q4.pull3.cell 1 rfl, q4.pull3.cell 2 rfl, q4.pull3.cell 3 rfl⟩ : _ ∧ _ ∧ _ ∧ _ ∧ _ ∧ _ ∧ _)
  have S5 := (⟨p5.pull2.cell 4 rfl, p5.pull2.cell 5 rfl, p5.pull2.cell 6 rfl, p5.pull3.cell 0 rfl, p5.pull3.cell 1 rfl, p5.pull3.cell 2 rfl, p5.pull3.cell 3 rfl⟩ : _ ∧ _ ∧ _ ∧ _ ∧ _ ∧ _ ∧ _)
  have S6 := (⟨p6.pull2.cell 4 rfl, p6.pull2.cell 5 rfl, p6.pull2.cell 6 rfl, p6.pull3.cell 0 rfl, p6.pull3.cell 1 rfl, p6.pull3.cell 2 rfl, p6.pull3.cell 3 rfl⟩ : _ ∧ _ ∧ _ ∧ _ ∧ _ ∧ _ ∧ _)
  have T0 := Lib.hid S0
  have T1 := Lib.hid S1
  have T2 := Lib.hid S2
  have T3 := Lib.hid S3
  have T4 := Lib.hid S4
  have T5 := Lib.hid S5
  have T6 := Lib.hid S6
  have E6 := Lib.hid p6
  have g1 : (Instr.mapEntry 195 (.map (some b1)) (.agg #[.int .i64 0, .int .i64 (j : Int)])).run Tryz.prog w1.drew = .ok (.tuple #[.int .i64 0, .int .i64 (s1 : Int)]) u1 := e1
  have g2 : (Instr.entryStore 195 (.map (some b1)) (.int .i64 (s1 : Int)) (.int .i64 (j : Int))).run Tryz.prog u1 = .ok () u2 := e2
  have g3 : (Instr.mapEntry 196 (.map (some b2)) (.int .i64 (j : Int))).run Tryz.prog u2 = .ok (.tuple #[.agg #[.int .i64 0, .int .i64 0], .int .i64 (s3 : Int)]) u3 := e3
  have g4 : (Instr.entryStore 196 (.map (some b2)) (.int .i64 (s3 : Int)) (.agg #[.int .i64 0, .int .i64 (j : Int)])).run Tryz.prog u3 = .ok () u4 := e4
  have g5 : (Instr.mapEntry 197 (.map (some b3)) (.int .i64 (j : Int))).run Tryz.prog u4 = .ok (.tuple #[.agg #[.int .i64 0, .int .i64 0, .int .u64 0, .int .u8 0], .int .i64 (s5 : Int)]) u5 := e5
  have g6 : (Instr.entryStore 197 (.map (some b3)) (.int .i64 (s5 : Int)) (.agg #[.int .i64 kd, .int .i64 oi, .int .u64 og, .int .u8 r])).run Tryz.prog u5 = .ok () u6 := e6
  clear hP q2 q4 p1 p2 p3 p4 p5 p6 e1 e2 e3 e4 e5 e6 S0 S1 S2 S3 S4 S5 S6 hz1 hz2 hz3
  have hb := HBB.out
  subst hb
  clear HBB
  go_region_held3 (fun w' => w'.cell? ⟨s, 4, none⟩ = some (.map (some b1)) ∧ w'.cell? ⟨s, 5, none⟩ = some (.map (some b2)) ∧ w'.cell? ⟨s, 6, none⟩ = some (.map (some b3)) ∧ w'.cell? ⟨w.heap.size, 0, none⟩ = some (.int .i64 kd) ∧ w'.cell? ⟨w.heap.size, 1, none⟩ = some (.int .i64 oi) ∧ w'.cell? ⟨w.heap.size, 2, none⟩ = some (.int .u64 og) ∧ w'.cell? ⟨w.heap.size, 3, none⟩ = some (.int .u8 r))
    (first | (with_reducible exact T6.out) | (with_reducible exact T5.out) | (with_reducible exact T4.out) | (with_reducible exact T3.out) | (with_reducible exact T2.out) | (with_reducible exact T1.out) | (with_reducible exact T0.out))
    (fail)
  all_goals go_wp2
  all_goals go_ret
  all_goals refine ⟨rfl, Sat.drop2 (B := pc w.heap.size 106 (capL kd oi og r)) (sp_shut (t := t) (v1 := .map (some b1)) (v2 := .map (some b2)) (v3 := .map (some b3)) (spOk_next (c := capV kd oi og r) HK.out hj64) (E6.out.cast ?_))⟩
  all_goals (rw [spA, show 40 - (j + 1) = 39 - j by omega]; ac_rfl)
set_option maxRecDepth 100000 in
theorem root1 {b4 b5 b6 : Nat} {T4 T5 T6 : TypeId} {X : Hp} (h : Sat w0 (pc b4 T4 [vp s] * (pc b5 T5 [vi 0] * (pc b6 T6 [vi j] * (X * (spQ s gs j * F))))) w) (hg : 1 ≤ gs) (hj : j < 6) : Calls Tryz.prog 114 #[vp b4, vp b5, vp b6] w fun e w' => e = .returned (vi 0) ∧ Sat w0 (pc b4 T4 [vp s] * (pc b5 T5 [vi 0] * (pc b6 T6 [vi j] * (X * (spQ s gs j * F))))) w' := by
  have c4 := h.cell 0 rfl
  have c5 := h.pull2.cell 0 rfl
  have c6 := h.pull3.cell 0 rfl
  have h1 : Sat w0 (spQ s gs j * (pc b4 T4 [vp s] * (pc b5 T5 [vi 0] * (pc b6 T6 [vi j] * (X * F))))) w := h.cast (by ac_rfl)
  have HF := Lib.hid (sp_free h1 hg hj)
  clear h h1 hg hj
  go_enter Tryz.func114, Tryz.ntmps114
  go_wp2_with (go_at_call 115; refine HF.out.mono ?_; rintro e w1 ⟨rfl, hS1⟩; have H1 := Lib.hid hS1; clear hS1)
  go_ret
  exact ⟨rfl, H1.out.cast (by ac_rfl)⟩
set_option maxRecDepth 100000 in
theorem root2 {b7 : Nat} (kd oi og r : Int) (h1 : 1 ≤ kd) (h2 : kd ≤ 3) (h3 : 0 ≤ oi) (h4 : og ≠ 0) (h : Sat w0 (pc b7 106 (capL kd oi og r) * F) w) : Calls Tryz.prog 116 #[vp b7] w fun e w' => e = .returned (vi 0) ∧ Sat w0 (pc b7 106 (capL kd oi og r) * F) w' := by
  have c0 := h.cell 0 rfl
  have c1 := h.cell 1 rfl
  have c2 := h.cell 2 rfl
  have c3 := h.cell 3 rfl
  have HF := Lib.hid (sp_may kd oi og r h1 h2 h3 h4 h)
  clear h h1 h2 h3 h4
  go_enter Tryz.func116, Tryz.ntmps116
  go_wp2_with (go_at_call 117; refine HF.out.mono ?_; rintro e w1 ⟨rfl, hS1⟩; have H1 := Lib.hid hS1; clear hS1)
  go_ret
  exact ⟨rfl, H1.out⟩
set_option maxRecDepth 100000 in
theorem root3 {b4 b5 b6 b7 : Nat} {T4 T5 T6 : TypeId} (kd oi og r : Int) (h : Sat w0 (pc b4 T4 [vp s] * (pc b5 T5 [vi 0] * (pc b6 T6 [vi j] * (pc b7 106 (capL kd oi og r) * (spQ s gs j * F))))) w) (hj : j < 6) : Calls Tryz.prog 118 #[vp b4, vp b5, vp b6, vp b7] w fun e w' => e = .returned (vi 0) ∧ Sat w0 (pc b4 T4 [vp s] * (pc b5 T5 [vi 0] * (pc b6 T6 [vi j] * (pc b7 106 (capL kd oi og r) * (spQ s gs (j + 1) * F))))) w' := by
  have c4 := h.cell 0 rfl
  have c5 := h.pull2.cell 0 rfl
  have c6 := h.pull3.cell 0 rfl
  have c70 := h.pull4.cell 0 rfl
  have c71 := h.pull4.cell 1 rfl
  have c72 := h.pull4.cell 2 rfl
  have c73 := h.pull4.cell 3 rfl
  have h1 : Sat w0 (spQ s gs j * (pc b4 T4 [vp s] * (pc b5 T5 [vi 0] * (pc b6 T6 [vi j] * (pc b7 106 (capL kd oi og r) * F))))) w := h.cast (by ac_rfl)
  have HF := Lib.hid (sp_put kd oi og r h1 hj)
  clear h h1 hj
  go_enter Tryz.func118, Tryz.ntmps118
  go_wp2_with (go_at_call 119; refine HF.out.mono ?_; rintro e w1 ⟨rfl, hS1⟩; have H1 := Lib.hid hS1; clear hS1)
  go_ret
  exact ⟨rfl, H1.out.cast (by ac_rfl)⟩
def rootFn (k : Nat) : Nat := if k = 0 then 114 else if k = 1 then 116 else 118
def rootCp (b : Nat) (k : Nat) : Array Value := if k = 0 then #[vp b, vp (b + 1), vp (b + 1 + 1)] else if k = 1 then #[vp (b + 1 + 1 + 1)] else #[vp b, vp (b + 1), vp (b + 1 + 1), vp (b + 1 + 1 + 1)]
abbrev rootS (b s gs j : Nat) (kd oi og r : Int) (k : Nat) : Hp := pc b 82 [vp s] * (pc (b + 1) 3 [vi 0] * (pc (b + 1 + 1) 3 [vi j] * (pc (b + 1 + 1 + 1) 106 (capL kd oi og r) * spQ s gs (if k = 3 then j + 1 else j))))
theorem root_enter (k : Nat) (hk : k < 3) (xs : Array Value) (w : World) : (callFunc (rootFn k) xs).run Tryz.prog w = .ok (.enter (rootFn k) xs) w := by
  have hs : k = 0 ∨ k = 1 ∨ k = 2 := by omega
  rcases hs with rfl | rfl | rfl
  · exact run_enter Tryz.func114 (by kernel_rfl) (by kernel_rfl) (by kernel_rfl) xs w
  · exact run_enter Tryz.func116 (by kernel_rfl) (by kernel_rfl) (by kernel_rfl) xs w
  · exact run_enter Tryz.func118 (by kernel_rfl) (by kernel_rfl) (by kernel_rfl) xs w
theorem root_all (b : Nat) (kd oi og r : Int) (h1 : 1 ≤ kd) (h2 : kd ≤ 3) (h3 : 0 ≤ oi) (h4 : og ≠ 0) (hg : 1 ≤ gs) (hj : j < 6) (k : Nat) (hk : k < 3) (F : Hp) (w0 w : World) (h : Sat w0 (rootS b s gs j kd oi og r k * F) w) : Calls Tryz.prog (rootFn k) (rootCp b k) w fun e w' => e = .returned (vi 0) ∧ Sat w0 (rootS b s gs j kd oi og r (k + 1) * F) w' := by
  have hs : k = 0 ∨ k = 1 ∨ k = 2 := by omega
  rcases hs with rfl | rfl | rfl
  · refine (root1 (X := pc (b + 1 + 1 + 1) 106 (capL kd oi og r)) (F := F) (h.cast (by simp only [rootS]; rw [if_neg (by omega)]; ac_rfl)) hg hj).mono ?_
    rintro e w' ⟨rfl, h'⟩
    exact ⟨rfl, h'.cast (by simp only [rootS]; rw [if_neg (by omega)]; ac_rfl)⟩
  · have h' : Sat w0 (pc (b + 1 + 1 + 1) 106 (capL kd oi og r) * (pc b 82 [vp s] * (pc (b + 1) 3 [vi 0] * (pc (b + 1 + 1) 3 [vi j] * (spQ s gs j * F))))) w := h.cast (by simp only [rootS]; rw [if_neg (by omega)]; ac_rfl)
    refine (root2 kd oi og r h1 h2 h3 h4 h').mono ?_
    rintro e w' ⟨rfl, h'⟩
    exact ⟨rfl, h'.cast (by simp only [rootS]; rw [if_neg (by omega)]; ac_rfl)⟩
  · refine (root3 (F := F) kd oi og r (h.cast (by simp only [rootS]; rw [if_neg (by omega)]; ac_rfl)) hj).mono ?_
    rintro e w' ⟨rfl, h'⟩
    exact ⟨rfl, h'.cast (by simp only [rootS, if_true]; ac_rfl)⟩
set_option maxRecDepth 100000 in
set_option maxHeartbeats 4000000 in
theorem sp_root (kd oi og r : Int) (h1 : 1 ≤ kd) (h2 : kd ≤ 3) (h3 : 0 ≤ oi) (h4 : og ≠ 0) (hg : 1 ≤ gs) (hj : j < 6) (h : Sat w0 (spQ s gs j * F) w) : Calls Tryz.prog 51 #[vp s, vi 0, vi j, capV kd oi og r] w fun e w' => e = .returned (vi 0) ∧ Sat w0 (spQ s gs (j + 1) * F) w' := by
  obtain ⟨b, hb⟩ : ∃ b, b = w.heap.size := ⟨_, rfl⟩
  have a1 := h.alloc (.cells #[vp s] 82)
  have a2 := a1.alloc (.cells #[vi 0] 3)
  rw [size1] at a2
  have a3 := a2.alloc (.cells #[vi j] 3)
  rw [size1, size1] at a3
  have a4 := a3.alloc (.cells (capL kd oi og r).toArray 106)
  rw [size1, size1, size1] at a4
  have a5 := a4.alloc (.cells (cloL rootFn (rootCp b) 3).toArray 89)
  rw [size1, size1, size1, size1] at a5
  rw [← hb] at a5
  have a6 : Sat w0 (sl 89 1 (.slice (some ⟨b + 1 + 1 + 1 + 1, 0, none⟩) 3 3) 3 (cloL rootFn (rootCp b) 3) * (rootS b s gs j kd oi og r 0 * F)) _ := (Sat.slI (g := b + 1 + 1 + 1 + 1) (cur := cloL rootFn (rootCp b) 3) (n := 3) (cap := 3) (size := 1) a5 (by omega) (by unfold maxLen; omega) (Nat.le_of_eq (rowsN_len (N := 1) (fun _ => rfl) 3).symm) (List.take_of_length_le (Nat.le_of_eq (rowsN_len (N := 1) (fun _ => rfl) 3)))).cast (by simp only [rootS]; rw [if_neg (by omega)]; simp only [pc]; ac_rfl)
  have HC := Lib.hid (cfirst (by omega) a6 root_enter (root_all b kd oi og r h1 h2 h3 h4 hg hj))
  rw [hb] at HC
  clear h a1 a2 a3 a4 a5 a6 h1 h2 h3 h4 hg hj
  go_enter Tryz.func51, Tryz.ntmps51
  go_wp2_with (go_at_call 113; refine HC.out.mono ?_; rintro e w1 ⟨rfl, hS1⟩; have H1 := Lib.hid hS1; clear hS1)
  go_ret
  refine ⟨rfl, ?_⟩
  have h5 := H1.out
  rw [rootS, if_pos rfl] at h5
  exact (h5.cast (show _ = (pc _ 82 [vp s] * (pc _ 3 [vi 0] * (pc _ 3 [vi j] * (pc _ 106 (capL kd oi og r) * (spQ s gs (j + 1) * F))))) by ac_rfl)).dropL.dropL.dropL.dropL
end
end Go.Proofs.YtdbppfcilaajaaaGreat.Kn

namespace Go.Proofs.YtdbppfcilaajaaaGreat.Pc
open Go.RowKit Rq Gq
set_option linter.unusedVariables false
set_option linter.unusedSimpArgs false

section
variable {w0 w : World} {F : Hp} {D : Ad} {p : Nat → Pl} {gx : List Int}
/-- How many Ps there may be, and how long a ring. -/
structure Ad.Ok (D : Ad) : Prop where
  n1 : 1 ≤ D.n
  n8 : D.n ≤ 8
  m2 : 2 ≤ D.m
  m32 : D.m ≤ 32
def inP (n : Nat) (k : Int) : Bool := decide (0 ≤ k ∧ k < n)
theorem plX_cells {k i : Nat} (h : Sat w0 (plX D p gx k * F) w) (hi : i < D.n) : w.cell? ⟨D.s, 0, none⟩ = some D.v ∧ w.cell? ⟨D.s, 2, none⟩ = some (vp D.a) ∧ w.cell? ⟨D.sb, i * 5, none⟩ = some (vp (D.q i)) ∧ w.cell? ⟨D.sb, i * 5 + 3, none⟩ = some (vi (p i).left) := by
  have h1 : Sat w0 (pc D.s 148 [D.v, vi D.m, vp D.a] * (sl 144 5 D.v D.n (rowsN (rowP D p) D.n) * (gQ D.a gx * (starx (oneP D p) D.n k * F)))) w := h.cast (by unfold plX; ac_rfl)
  exact ⟨h1.cell 0 rfl, h1.cell 2 rfl, h1.pull2.slCell (i * 5 + 0) (rowsN_at (rowP_len D p) hi rfl), h1.pull2.slCell (i * 5 + 3) (rowsN_at (rowP_len D p) hi rfl)⟩
theorem slPos {e : TypeId} {size n : Nat} {v : Value} {xs : List Value} (h : Sat w0 (sl e size v n xs * F) w) (hn : n ≠ 0) : ∃ g cap, v = .slice (some ⟨g, 0, none⟩) n cap ∧ n ≤ cap := by
  rcases h.slE.2 with ⟨_, h0, _⟩ | ⟨g, cap, cur, hv, h1, _⟩
  · exact absurd h0 hn
  · exact ⟨g, cap, hv, h1⟩
theorem spill_len {m : Nat} {xs : List Int} (g : Int) : (spillL m xs g).length ≤ (m + 1) / 2 + 1 := by
  unfold spillL
  split
  · simp
  · rw [List.length_append, List.length_take, List.length_singleton]
    omega
theorem inP_nat {n k : Nat} (h : k < n) : inP n k = true := by unfold inP; rw [decide_eq_true_eq]; omega
theorem pl_ps (h : Sat w0 (plB D p gx * F) w) : Calls Tryz.prog 13 #[vp D.s] w fun e w' => e = .returned (vi D.n) ∧ w = w' := by
  have c0 := (pl_cells h).1
  unfold Ad.v at c0
  clear h
  go_enter Tryz.func13, Tryz.ntmps13
  go_wp2
  go_ret
  exact ⟨rfl, rfl⟩
theorem pl_is (h : Sat w0 (plB D p gx * F) w) (k : Int) : Calls Tryz.prog 66 #[vp D.s, vi k] w fun e w' => e = .returned (.bool (inP D.n k)) ∧ w = w' := by
  have HP := Lib.hid (pl_ps h)
  clear h
  by_cases h0 : 0 ≤ k
  · have h1 : decide (0 ≤ k) = true := decide_eq_true h0
    have h2 : inP D.n k = decide (k < (D.n : Int)) := by
      unfold inP
      by_cases h3 : k < (D.n : Int)
      · rw [decide_eq_true h3, decide_eq_true ⟨h0, h3⟩]
      · rw [decide_eq_false h3, decide_eq_false (fun h => h3 h.2)]
    rw [h2]
    clear h0 h2
    go_enter Tryz.func66, Tryz.ntmps66
    go_wp2_with (go_at_call 13; refine HP.out.mono ?_; rintro e w' ⟨rfl, rfl⟩)
    go_ret
    exact ⟨rfl, rfl⟩
  · have h1 : decide (0 ≤ k) = false := decide_eq_false h0
    have h2 : inP D.n k = false := by
      unfold inP
      rw [decide_eq_false (fun h => h0 h.1)]
    rw [h2]
    clear h0 h2
    go_enter Tryz.func66, Tryz.ntmps66
    go_wp2
    go_ret
    exact ⟨rfl, rfl⟩
theorem pl_back (h : Sat w0 (plB D p gx * F) w) (ho : D.Ok) {ys : List Int} {v : Value} (hA : ∀ w', Sat w0 F w' → RdI w' v ys) (hl : gx.length + ys.length ≤ 1000000) :
    Calls Tryz.prog 29 #[vp D.s, v] w fun e w' => e = .returned (.tuple #[]) ∧ Sat w0 (plB D p (gx ++ ys) * F) w' := by
  have c2 := (pl_cells h).2.2
  have HP := Lib.hid (pl_ps h)
  have hn1 := ho.n1
  have hnp : (0 : Int) < (D.n : Int) := by omega
  obtain ⟨ao, cap, rfl⟩ := (hA w h.dropL).len
  have HG := Lib.hid (g_put (pl_glob h) (ao := ao) (cap := cap) (ys := ys) (fun w' h' => hA w' h'.dropL.dropL.dropL) hl)
  clear h hn1 hA ho
  go_enter Tryz.func29, Tryz.ntmps29
  go_wp2_with (first
    | (go_at_call 13; refine HP.out.mono ?_; rintro e w' ⟨rfl, rfl⟩)
    | (go_at_call 88; refine HG.out.mono ?_; rintro e w1 ⟨rfl, hS⟩; have H1 := Lib.hid (pl_globI hS); clear hS))
  go_end0
  exact ⟨rfl, H1.out⟩
theorem rdI_pc {w0 w : World} {F : Hp} {b : Nat} {T : TypeId} {x : Int} (h : Sat w0 (pc b T [vi x] * F) w) : RdI w (.slice (some ⟨b, 0, none⟩) 1 1) [x] :=
  ⟨rfl, .inr ⟨b, 0, 1, rfl, fun j u hj => by
    rw [Nat.zero_add]
    exact h.cell j (by simpa using hj)⟩⟩
end
end Go.Proofs.YtdbppfcilaajaaaGreat.Pc

namespace Go.Proofs.YtdbppfcilaajaaaGreat.Pc
open Go.RowKit Rq Gq
set_option linter.unusedVariables false
set_option linter.unusedSimpArgs false

section
variable {w0 w : World} {F : Hp} {D : Ad} {p : Nat → Pl} {gx : List Int}
def pl0 : Pl := ⟨[], 0, false, 0, false, 0, 0⟩
theorem Eone : SlT Tryz.prog 145 144 5 40 (.agg #[.pointer none, vi 0, .bool false, vi 0, vu 0]) := SlT.mk' Tryz.underlying145 (by kernel_rfl) rfl (by decide)
theorem rdFive (w : World) (T : TypeId) (cs : List Value) (hc : cs.length = 5) {b : Nat} (hb : b = w.heap.size) : Rd (w.alloc (.cells cs.toArray T)) 5 (.slice (some ⟨b, 0, none⟩) 1 1) 1 cs := by
  subst hb
  have h : Sat w (pc w.heap.size T cs * emp) (w.alloc (.cells cs.toArray T)) := (Sat.start w).alloc _
  exact (h.slI (n := 1) (cap := 1) (size := 5) (xs := cs) (Nat.le_refl _) (by unfold maxLen; omega) (by omega) (List.take_of_length_le (by omega))).rd
abbrev hdB (s a m : Nat) (v : Value) : Hp := pc s 148 [v, vi m, vp a]
def rowQ (q : Nat → Nat) (i : Nat) : List Value := [vp (q i), vi 0, .bool false, vi 0, vu 0]
def oneQ (q r : Nat → Nat) (m i : Nat) : Hp := quB (q i) (r i) 0 false * ringP (r i) m []
def newB (s a m j : Nat) (v : Value) (q r : Nat → Nat) : Hp := hdB s a m v * (sl 144 5 v j (rowsN (rowQ q) j) * (gQ a [] * star (oneQ q r m) j))
set_option maxRecDepth 100000 in
set_option maxHeartbeats 4000000 in
theorem pl_new (n m : Nat) (h1 : 1 ≤ n) (h8 : n ≤ 8) (h2 : 2 ≤ m) (h32 : m ≤ 32) (h : Sat w0 F w) : Calls Tryz.prog 43 #[vi n, vi m] w fun e w' => ∃ D : Ad, D.n = n ∧ D.m = m ∧ e = .returned (.tuple #[vp D.s, vi 0]) ∧ Sat w0 (plB D (fun _ => pl0) [] * F) w' := by
  have HG := Lib.hid (g_new h)
  have d1 : decide ((n : Int) < 1) = false := decide_eq_false (by omega)
  have d2 : decide ((8 : Int) < (n : Int)) = false := decide_eq_false (by omega)
  have d3 : decide ((m : Int) < 2) = false := decide_eq_false (by omega)
  have d4 : decide ((32 : Int) < (m : Int)) = false := decide_eq_false (by omega)
  have d5 : decide (8 < n) = false := decide_eq_false (by omega)
  have d6 : decide (32 < m) = false := decide_eq_false (by omega)
  clear h
  go_enter Tryz.func43, Tryz.ntmps43
  go_wp2_with (go_at_call 97; refine HG.out.mono ?_; rintro e w1 ⟨a, rfl, hS⟩; have hx : Sat w0 (hdB w1.heap.size a m (.slice none 0 0) * (gQ a [] * F)) (w1.alloc (.cells #[.slice none 0 0, vi m, vp a] 148)) := hS.alloc _; have H1 := Lib.hid hx; clear hS hx)
  obtain ⟨s, hs⟩ : ∃ s, w1.heap.size = s := ⟨_, rfl⟩
  rw [hs] at H1 ⊢
  clear hs HG
  go_loopw [28] (fun i wr => ∃ (j : Nat) (v : Value) (q r : Nat → Nat), j ≤ n ∧ i = vi j ∧ Sat w0 (newB s a m j v q r * F) wr) (fun i _ => n - (intOf i).toNat)
  case atStart =>
    refine ⟨0, .slice none 0 0, fun _ => 0, fun _ => 0, Nat.zero_le _, rfl, (H1.out.addNil 144 5).cast ?_⟩
    unfold newB
    show sl 144 5 (.slice none 0 0) 0 [] * (hdB s a m (.slice none 0 0) * (gQ a [] * F)) = (hdB s a m (.slice none 0 0) * (sl 144 5 (.slice none 0 0) 0 [] * (gQ a [] * emp))) * F
    rw [sep_emp]
    ac_rfl
  case round =>
    clear H1
    obtain ⟨j, v, q, r, hj, rfl, hS⟩ := hrel
    by_cases hlt : j < n
    · have hji : (j : Int) < (n : Int) := by omega
      have HQ := Lib.hid (q_new m h2 (by omega) hS)
      have hj8 : j < 8 := by omega
      clear hS
      go_wp2_with (first
        | (go_at_call 98; refine HQ.out.mono ?_; rintro e w2 ⟨nq, nr, rfl, hS2⟩; have h3 : Sat w0 (sl 144 5 v j (rowsN (rowQ q) j) * (hdB s a m v * (gQ a [] * (star (oneQ q r m) j * (quB nq nr 0 false * (ringP nr m [] * F)))))) w2 := hS2.cast (by unfold newB; ac_rfl); obtain ⟨vo, vc, rfl⟩ := h3.rd.len; have g0 := h3.pull2.cell 0 rfl; have g1 := h3.pull2.free 0; have H3 := Lib.hid h3; clear hS2 h3)
        | (at_builtin; refine wpList_append_sl Eone rfl (.tmp 42) (.tmp 45) rfl rfl (H3.out.alloc' _) (by rfl) (rdFive _ _ [vp nq, vi 0, .bool false, vi 0, vu 0] rfl rfl) (by intro u hu; simp at hu; rcases hu with rfl | rfl | rfl | rfl | rfl <;> rfl) (by unfold maxLen; omega) (by omega) ?_; intro ao6 cap6 w6 hS6; have o6 := hS6.pull2.cell 0 rfl; have f6 := hS6.pull2.free 0; have h7 : Sat w0 (hdB s a m (.slice ao6 (j + 1) cap6) * _) _ := hS6.pull2.store 0 (.slice ao6 (j + 1) cap6); have H7 := Lib.hid h7; clear hS6 h7))
      go_roundw
      case rel =>
        refine ⟨j + 1, .slice ao6 (j + 1) cap6, fun i => if i = j then nq else q i, fun i => if i = j then nr else r i, by omega, by go_num, H7.out.cast ?_⟩
        have e1 : rowsN (rowQ fun i => if i = j then nq else q i) (j + 1) = rowsN (rowQ q) j ++ [vp nq, vi 0, .bool false, vi 0, vu 0] := by
          rw [rowsN_succ, rowsN_congr (row' := rowQ q) (fun i hi => by unfold rowQ; dsimp only; rw [if_neg (by omega)])]
          unfold rowQ
          dsimp only
          rw [if_pos rfl]
        have e2 : star (oneQ (fun i => if i = j then nq else q i) (fun i => if i = j then nr else r i) m) (j + 1) = star (oneQ q r m) j * (quB nq nr 0 false * ringP nr m []) := by
          rw [star_succ, star_congr (g := oneQ q r m) (fun i hi => by unfold oneQ; dsimp only; rw [if_neg (by omega), if_neg (by omega)])]
          unfold oneQ
          dsimp only
          rw [if_pos rfl, if_pos rfl]
        unfold newB
        rw [e1, e2]
        ac_rfl
      case measure => simp [intOf]; omega
    · obtain rfl : j = n := by omega
      have h3 := hS.cast (show _ = sl 144 5 v j (rowsN (rowQ q) j) * (hdB s a m v * (gQ a [] * (star (oneQ q r m) j * F))) by unfold newB; ac_rfl)
      obtain ⟨sb, cap, rfl, _⟩ := slPos h3 (by omega)
      have H9 := Lib.hid hS
      clear hS h3
      go_wp2
      go_ret2
      refine ⟨⟨s, a, sb, cap, q, r, j, m⟩, rfl, rfl, rfl, H9.out.cast ?_⟩
      rfl
end
end Go.Proofs.YtdbppfcilaajaaaGreat.Pc

namespace Go.Proofs.YtdbppfcilaajaaaGreat
open Go.RowKit
set_option linter.unusedVariables false

/-- The entries of a map, as what stands at a key. -/
def entAt : List MapEntry → Int → Option Int
  | [], _ => none
  | e :: es, k => match e.key, e.val with
    | .int .i64 x, .int .i64 v => if x = k then some v else entAt es k
    | _, _ => none
def Ents (es : List MapEntry) : Prop := (∀ e ∈ es, ∃ x v : Int, e.key = .int .i64 x ∧ e.val = .int .i64 v) ∧ es.Pairwise fun a b => a.key ≠ b.key
/-- A map of the call's own (or nil): what stands at a key. -/
def mapI (v : Value) (M : Int → Option Int) : Hp :=
  ⟨fun L => (v = .map none ∧ L = [] ∧ ∀ k, M k = none) ∨ ∃ b es clock, v = .map (some b) ∧ L = [(b, .map es clock)] ∧ Ents es.toList ∧ ∀ k, M k = entAt es.toList k,
   fun {L L'} h hx => by
    rcases hx with ⟨a, rfl, c⟩ | ⟨b, es, cl, a, rfl, r⟩
    · exact .inl ⟨a, List.nil_perm.1 h, c⟩
    · exact .inr ⟨b, es, cl, a, List.perm_singleton.1 h.symm, r⟩⟩
def putM (M : Int → Option Int) (k v : Int) : Int → Option Int := fun x => if k = x then some v else M x
theorem Ents.tail {e : MapEntry} {es : List MapEntry} (h : Ents (e :: es)) : Ents es := ⟨fun x hx => h.1 x (List.mem_cons_of_mem _ hx), (List.pairwise_cons.1 h.2).2⟩
section
variable {P : Program} {w : World} {kt : TypeId}
end
section
variable {P : Program} {w0 w : World} {F : Hp} {mt kt et : TypeId} {M : Int → Option Int} {b : Nat} {vm : Value}
theorem Sat.mapNil (h : Sat w0 F w) : Sat w0 (mapI (.map none) (fun _ => none) * F) w := by
  obtain ⟨hb, L, hL, r⟩ := h
  exact ⟨hb, L, ⟨[], L, List.Perm.refl _, .inl ⟨rfl, rfl, fun _ => rfl⟩, hL⟩, r⟩
theorem Ents.push {x v : Int} {e : MapEntry} (hk : e.key = .int .i64 x) (hv : e.val = .int .i64 v) {es : List MapEntry} (h : Ents es) (hn : ∀ e' ∈ es, e'.key ≠ .int .i64 x) : Ents (es ++ [e]) := by
  refine ⟨fun e' he' => ?_, List.pairwise_append.2 ⟨h.2, by simp, fun a ha c hc => ?_⟩⟩
  · rcases List.mem_append.1 he' with he' | he'
    · exact h.1 e' he'
    · rw [List.mem_singleton.1 he']
      exact ⟨x, v, hk, hv⟩
  · rw [List.mem_singleton.1 hc, hk]
    exact hn a ha
end
section
variable {P : Program} {ops : Array Oper} {rest : List Oper} {o : Oper} {a : Act} {Q : Exit → Act → World → Prop} {w0 w : World} {F : Hp} {mt kt et : TypeId} {M : Int → Option Int} {b : Nat}
end
end Go.Proofs.YtdbppfcilaajaaaGreat
