/-
  Contracts of package arena at T = helmsman/api.Context: New. No statement is proved here.
-/
import Derived.Test.YtknodagcmachiaaCa2
namespace Go.Proofs.Ytknodagcmachiaa.Ac
open Go.RowKit
open Fi (vi vu)
set_option linter.unusedVariables false

section
variable {w0 w : World} {p : Nat} {s : TblS} {ps : List Pl} {free : List Nat} {F : Hp}
theorem Rd.one' (w : World) (T : TypeId) (x : Value) {b : Nat} (hb : b = w.heap.size) : Rd (w.alloc (.cells #[x] T)) 1 (.slice (some ⟨b, 0, none⟩) 1 1) 1 [x] := by
  subst hb
  exact Rd.one w T x

abbrev pl0 : Pl := ⟨0, false, false, ez⟩
def newL (n : Nat) (first : Int) (k : Nat) : List Pl := List.replicate k ⟨first, false, false, ez⟩ ++ List.replicate (n - k) pl0
def newF (n k : Nat) : List Nat := (List.range k).map fun i => n - 1 - i
theorem newL_len (n : Nat) (first : Int) (k : Nat) (h : k ≤ n) : (newL n first k).length = n := by simp [newL]; omega
theorem newL_at (n : Nat) (first : Int) (k : Nat) (h : k < n) : (newL n first k)[k]? = some pl0 := by
  rw [newL, List.getElem?_append_right (by simp), List.length_replicate, Nat.sub_self, List.getElem?_replicate, if_pos (by omega)]
theorem newL_set (n : Nat) (first : Int) (k : Nat) (h : k < n) : (newL n first k).set k ⟨first, false, false, ez⟩ = newL n first (k + 1) := by
  obtain ⟨m, rfl⟩ : ∃ m, n = k + (m + 1) := ⟨n - k - 1, by omega⟩
  rw [newL, newL, List.set_append, if_neg (by simp), List.length_replicate, Nat.sub_self, show k + (m + 1) - k = m + 1 by omega, List.replicate_succ, List.set_cons_zero, show k + (m + 1) - (k + 1) = m by omega, List.replicate_succ', List.append_assoc]
  rfl
theorem newL_0 (n : Nat) (first : Int) : newL n first 0 = List.replicate n pl0 := by simp [newL]
theorem newL_n (n : Nat) (first : Int) : newL n first n = List.replicate n ⟨first, false, false, ez⟩ := by simp [newL]
theorem newF_succ (n k : Nat) : newF n (k + 1) = newF n k ++ [n - 1 - k] := by simp [newF, List.range_succ]
theorem newF_len (n k : Nat) : (newF n k).length = k := by simp [newF]

def newAt (q a n : Nat) (first : Int) (k : Nat) (F : Hp) : Hp := ex fun v : Value => pc q 108 [.slice (some ⟨a, 0, none⟩) n n, v] * (sl 110 7 (.slice (some ⟨a, 0, none⟩) n n) n (flat (newL n first k)) * (sl 3 1 v k ((newF n k).map fun k : Nat => vi k) * F))

set_option maxRecDepth 100000 in
set_option maxHeartbeats 8000000 in
theorem new_ (n : Nat) (first : Int) (hn : 1 ≤ n) (hn' : n ≤ 4096) (hf : 1 ≤ first) (hf' : first ≤ 18446744073709551614) (h : Sat w0 F w) :
    Calls Try.prog 34 #[vi n, vu first] w fun e w' => ∃ p, e = .returned (.tuple #[vp p, vi 0]) ∧ Sat w0 (tblP p (List.replicate n ⟨first, false, false, ez⟩) (newF n n) * F) w' := by
  have hok := Lib.hid (TblOk.fresh n hn hn' first hf hf')
  have h1 : ¬ ((n : Int) < 1) := by omega
  have h2 : ¬ (4096 < (n : Int)) := by omega
  have h3 : ¬ (first < 1) := by omega
  have h4 : ¬ (18446744073709551614 < first) := by omega
  have Hf := Lib.hid hf'
  clear hf'
  obtain ⟨m, hm⟩ : ∃ m, m = n - 1 := ⟨_, rfl⟩
  have hw1 : IntKind.i64.wrap ((n : Int) - 1) = (m : Int) := by rw [IntWalk.i64_in _ (by omega)]; omega
  have Hm := Lib.hid hm
  have hm4 : m ≤ 4096 := by omega
  clear hm
  have H := Lib.hid h
  clear h
  go_enter Try.func34, Try.ntmps34
  go_wp2_with (at_make; refine wpList_make_sl Epl rfl _ _ rfl .i64 .i64 n n n n rfl rfl rfl rfl (by omega) (by omega) (by omega) H.out ?_; intro g w1 hM; have HM := Lib.hid hM; clear hM)
  have hB : Sat w0 (newAt w1.heap.size g n first 0 F) (w1.alloc (.cells #[.slice (some ⟨g, 0, none⟩) n n, .slice none 0 0] 108)) := by
    have h5 := HM.out
    rw [flat_made Pl.len (by omega) (.agg #[vu 0, .bool false, .bool false, .int .u64 0, .int .u64 0, .slice none 0 0, .int .i64 0]) pl0 rfl n] at h5
    have h6 := (h5.slI (n := n) (cap := n) (size := 7) (Nat.le_refl _) (by unfold maxLen; omega) (by rw [flat_len Pl.len]; simp) (List.take_of_length_le (by rw [flat_len Pl.len]; simp))).alloc (.cells #[.slice (some ⟨g, 0, none⟩) n n, .slice none 0 0] 108)
    have h7 := h6.addNil 3 1
    have h8 := (Sat.exI (f := fun v : Value => pc w1.heap.size 108 [.slice (some ⟨g, 0, none⟩) n n, v] * (sl 110 7 (.slice (some ⟨g, 0, none⟩) n n) n (flat (newL n first 0)) * (sl 3 1 v 0 ((newF n 0).map fun k : Nat => vi k) * F))) (F := emp) (.slice none 0 0) (h7.cast (by rw [sep_emp, newL_0]; simp only [newF, List.range_zero, List.map_nil]; simp only [pc]; ac_rfl)))
    exact h8.cast (sep_emp _)
  generalize w1.alloc (.cells #[.slice (some ⟨g, 0, none⟩) n n, .slice none 0 0] 108) = w2 at *
  generalize w1.heap.size = q at *
  obtain ⟨v0, hC⟩ : ∃ v, Sat w0 (pc q 108 [.slice (some ⟨g, 0, none⟩) n n, v] * F) w2 := by
    obtain ⟨v, hv⟩ := (hB.cast (sep_emp _).symm).exE
    exact ⟨v, (hv.cast (sep_emp _)).drop2.drop2⟩
  have c0 := hC.cell 0 rfl
  have HB := Lib.hid hB
  clear hB hC HM
  go_wp2
  clear c0
  go_loopw [31] (fun i wr => ∃ k : Nat, k ≤ n ∧ i = vi k ∧ Sat w0 (newAt q g n first k F) wr) (fun i _ => n - (intOf i).toNat)
  case atStart => exact ⟨0, Nat.zero_le _, rfl, HB.out⟩
  case round =>
    obtain ⟨k, hk, rfl, hS⟩ := hrel
    by_cases hlt : k < n
    · obtain ⟨v, hS⟩ := (hS.cast (sep_emp _).symm).exE
      have hS := hS.cast (sep_emp _)
      obtain ⟨fo, fcap, rfl⟩ := hS.pull3.rd.len
      have c0 := hS.cell 0 rfl
      have c1 := hS.cell 1 rfl
      have f0 := hS.free 0
      have f1 := hS.free 1
      have e0 := hS.pull2.slCell (k * 7 + 0) (flat_get Pl.len (newL_at n first k hlt) rfl)
      have lf := hS.pull2.slFree (k * 7 + 0)
      rw [Nat.add_zero] at e0 lf
      have hqg : q ≠ g := hS.slNe
      have a1 := hS.pull2.slStore (k * 7 + 0) (by omega) (vu first)
      rw [flat_set Pl.len _ k 0 _ ⟨first, false, false, ez⟩ (vu first) (newL_at n first k hlt) (by omega) rfl, newL_set n first k hlt, Nat.add_zero] at a1
      have A1 := Lib.hid a1
      obtain ⟨j, hj⟩ : ∃ j, j = n - 1 - k := ⟨_, rfl⟩
      have hmk : (m : Int) - (k : Int) = (j : Int) := by have := Hm.out; omega
      have Hmk := Lib.hid hmk
      have hw2 : IntKind.i64.wrap ((m : Int) - (k : Int)) = (m : Int) - (k : Int) := IntWalk.i64_in _ (by omega)
      clear hmk
      have hkn : (k : Int) < (n : Int) := by omega
      have Hj := Lib.hid hj
      clear hS a1 hj
      go_wp2_with (at_builtin; refine wpList_append_sl Einti rfl (.tmp 46) (.tmp 51) rfl rfl (A1.out.pull3.alloc' _) (by rfl) (Rd.one' _ _ (.int .i64 ((m : Int) - (k : Int))) (b := wr.heap.size) (by simp)) (by simp [Value.oneCell']) (by unfold maxLen; omega) (by omega) ?_; intro ao2 cap2 w3 hS2; rw [Hmk.out] at hS2; have hP := hS2.pull3; have d0 := hP.cell 0 rfl; have d1 := hP.cell 1 rfl; have g0 := hP.free 0; have g1 := hP.free 1; have H3 := Lib.hid hP; clear hS2 hP)
      go_roundw
      case rel =>
        refine ⟨k + 1, by omega, by go_num, ?_⟩
        refine (Sat.exI (F := emp) (.slice ao2 (k + 1) cap2) ((H3.out.store 1 (.slice ao2 (k + 1) cap2)).cast ?_)).cast (sep_emp _)
        rw [sep_emp, newF_succ, List.map_append, ← Hj.out]
        simp only [List.set_cons_succ, List.set_cons_zero, List.map_cons, List.map_nil]
        ac_rfl
      case measure => simp [intOf]; omega
    · obtain rfl : k = n := by omega
      have HS := Lib.hid hS
      clear hS
      go_wp2
      go_ret2
      refine ⟨q, rfl, ?_⟩
      obtain ⟨v, hv⟩ := (HS.out.cast (sep_emp _).symm).exE
      have hv := hv.cast (sep_emp _)
      obtain ⟨fo, fcap, rfl⟩ := hv.pull3.rd.len
      refine TblIs.shut (s := ⟨g, k, fo, fcap⟩) ⟨hok.out, hv.cast ?_⟩
      simp only [tblB, tblL, tblF, TblS.lv, TblS.fv, newL_n, List.length_replicate, newF_len]

end
end Go.Proofs.Ytknodagcmachiaa.Ac
