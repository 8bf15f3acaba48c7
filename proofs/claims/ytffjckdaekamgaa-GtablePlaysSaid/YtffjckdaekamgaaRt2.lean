/-
  The reference of layer 16: New. No statement is proved here.
-/
import Derived.Test.YtffjckdaekamgaaRt1
namespace Go.Proofs.Ytffjckdaekamgaa.Gt
open Go.RowKit Ag
set_option linter.unusedVariables false
set_option linter.unusedSimpArgs false

abbrev p1 : Pl := ⟨1, false, false, ez⟩
def ntAt (q : Nat) (n k : Nat) (F : Hp) : Hp := ex fun v : Value × Value => pc q 73 [v.1, v.2] * (sl 69 21 v.1 k (pfl (List.replicate k p1)) * (sl 3 1 v.2 k (nats (newF n k)) * F))
theorem rdPl (a : Pl) (w : World) (T : TypeId) {b : Nat} (hb : b = w.heap.size) : Rd (w.alloc (.cells (pcl a).toArray T)) 21 (.slice (some ⟨b, 0, none⟩) 1 1) 1 (pcl a) := by
  subst hb
  have h : Sat w (pc w.heap.size T (pcl a) * emp) (w.alloc (.cells (pcl a).toArray T)) := (Sat.start w).alloc _
  exact (h.slI (n := 1) (cap := 1) (size := 21) (xs := pcl a) (Nat.le_refl _) (by unfold maxLen; omega) (by simp [pcl_len]) rfl).rd
theorem rdI1 (x : Value) (w : World) (T : TypeId) {b : Nat} (hb : b = w.heap.size) : Rd (w.alloc (.cells #[x] T)) 1 (.slice (some ⟨b, 0, none⟩) 1 1) 1 [x] := by
  subst hb
  have h : Sat w (pc w.heap.size T [x] * emp) (w.alloc (.cells #[x] T)) := (Sat.start w).alloc _
  exact (h.slI (n := 1) (cap := 1) (size := 1) (xs := [x]) (Nat.le_refl _) (by unfold maxLen; omega) (by simp) rfl).rd
section
variable {w0 w : World} {F : Hp} {q b cap : Nat} {ps : List Pl} {vF : Value} {fr : List Nat}
set_option maxRecDepth 100000 in
set_option maxHeartbeats 4000000 in
theorem rt_new (n : Nat) (hn : 1 ≤ n) (hn' : n ≤ 64) (hS : Sat w0 F w) :
    Calls Try.prog 21 #[vi n] w fun e w' => ∃ q b cap vF, e = .returned (vp q) ∧ Sat w0 (rtB q b n cap vF * (sl 69 21 (.slice (some ⟨b, 0, none⟩) n cap) n (pfl (List.replicate n p1)) * (sl 3 1 vF n (nats (newF n n)) * F))) w' := by
  have hB0 : Sat w0 (pc w.heap.size 73 [.slice none 0 0, .slice none 0 0] * F) (w.alloc (.cells #[.slice none 0 0, .slice none 0 0] 73)) := hS.alloc _
  have hB : Sat w0 (ntAt w.heap.size n 0 F * emp) (w.alloc (.cells #[.slice none 0 0, .slice none 0 0] 73)) := by
    have h7 := (hB0.addNil 3 1).addNil 69 21
    exact (Sat.exI (f := fun v : Value × Value => pc w.heap.size 73 [v.1, v.2] * (sl 69 21 v.1 0 (pfl (List.replicate 0 p1)) * (sl 3 1 v.2 0 (nats (newF n 0)) * F))) (F := emp) (.slice none 0 0, .slice none 0 0) (h7.cast (by rw [sep_emp]; simp only [newF, List.range_zero, List.map_nil, List.replicate_zero, nats, pfl, List.flatMap_nil]; ac_rfl)))
  have HB := Lib.hid hB
  have hw1 : IntKind.i64.wrap ((n : Int) - 1) = (n : Int) - 1 := IntWalk.i64_in _ (by omega)
  clear hB hB0 hS
  go_enter Try.func21, Try.ntmps21
  go_wp2
  generalize w.alloc (.cells #[.slice none 0 0, .slice none 0 0] 73) = w2 at *
  generalize w.heap.size = q at *
  go_loopw [4] (fun i wr => ∃ k : Nat, k ≤ n ∧ i = vi k ∧ Sat w0 (ntAt q n k F * emp) wr) (fun i _ => n - (intOf i).toNat)
  case atStart => exact ⟨0, Nat.zero_le _, rfl, HB.out⟩
  case round =>
    obtain ⟨k, hk, rfl, hS⟩ := hrel
    obtain ⟨⟨v1, v2⟩, hS⟩ := hS.exE
    have hS := hS.cast (sep_emp _)
    dsimp only at hS
    by_cases hlt : k < n
    · obtain ⟨lo, lcap, rfl⟩ := hS.pull2.rd.len
      obtain ⟨fo, fcap, rfl⟩ := hS.pull3.rd.len
      have c0 := hS.cell 0 rfl
      have c1 := hS.cell 1 rfl
      have f0 := hS.free 0
      have f1 := hS.free 1
      have H := Lib.hid hS
      obtain ⟨j, hj⟩ : ∃ j, j = n - 1 - k := ⟨_, rfl⟩
      have hw2 : IntKind.i64.wrap ((n : Int) - 1 - (k : Int)) = (n : Int) - 1 - (k : Int) := IntWalk.i64_in _ (by omega)
      have Hj : Hid ((n : Int) - 1 - (k : Int) = (j : Int)) := Lib.hid (by omega)
      have HJ := Lib.hid hj
      have hone : Hid (∀ u ∈ pcl p1, u.oneCell' = true) := Lib.hid (pcl_one p1)
      have hkn : (k : Int) < (n : Int) := by omega
      clear hS hj
      go_wp2_with (first
        | (at_builtin; refine wpList_append_sl Epc rfl (.tmp 16) (.tmp 18) rfl rfl (H.out.pull2.alloc' _) (by rfl) (rdPl p1 _ _ rfl) hone.out (by unfold maxLen; omega) (by omega) ?_; intro ao1 cap1 w3 hS1; have hP := hS1.pull2; have z0 := hP.cell 0 rfl; have z1 := hP.cell 1 rfl; have g0 := hP.free 0; have hP2 := hP.store 0 (.slice ao1 (k + 1) cap1); have y0 := hP2.cell 0 rfl; have y1 := hP2.cell 1 rfl; have u1 := hP2.free 1; have H1 := Lib.hid hP2; clear hS1 hP hP2)
        | (at_builtin; refine wpList_append_sl Eint rfl (.tmp 26) (.tmp 31) rfl rfl (H1.out.pull3.alloc' _) (by rfl) (rdI1 (.int .i64 ((n : Int) - 1 - (k : Int))) _ _ (b := w3.heap.size) (by simp)) (by simp [Value.oneCell']) (by unfold maxLen; omega) (by omega) ?_; intro ao2 cap2 w4 hS2; rw [Hj.out] at hS2; have hP := hS2.pull2; have z0 := hP.cell 0 rfl; have z1 := hP.cell 1 rfl; have g1 := hP.free 1; have H2 := Lib.hid (hP.store 1 (.slice ao2 (k + 1) cap2)); clear hS2 hP))
      go_roundw
      case rel =>
        refine ⟨k + 1, by omega, by go_num, Sat.exI (.slice ao1 (k + 1) cap1, .slice ao2 (k + 1) cap2) ((H2.out.cast ?_))⟩
        rw [sep_emp, newF_succ, ← HJ.out, List.replicate_succ']
        simp only [nats, List.map_append, List.map_cons, List.map_nil, List.set_cons_zero, List.set_cons_succ, pfl, List.flatMap_append, List.flatMap_cons, List.flatMap_nil, List.append_nil]
        ac_rfl
      case measure => (simp [intOf]; try omega)
    · obtain rfl : k = n := by omega
      have H := Lib.hid hS
      clear hS
      go_wp2
      go_ret
      rcases H.out.pull2.slE.2 with ⟨_, h0, _⟩ | ⟨g, c, cur, hv, _⟩
      · omega
      · subst hv
        first | exact ⟨q, g, c, v2, rfl, H.out⟩ | exact ⟨q, rfl, g, c, v2, H.out⟩ | exact ⟨q, by simp, g, c, v2, H.out⟩
end
end Go.Proofs.Ytffjckdaekamgaa.Gt
