/-
  Contracts of package arena at T = helmsman/api.Domain: New. No statement is proved here.
-/
import Derived.Test.YtdbppfcilaajaaaGreatMg8
import Derived.Test.YtdbppfcilaajaaaGreatMg3
import Derived.Test.YtdbppfcilaajaaaGreatMg4
namespace Go.Proofs.YtdbppfcilaajaaaGreat.Ad
open Go.RowKit
set_option linter.unusedVariables false

section
variable {w0 w : World} {p : Nat} {s : TblS} {ps : List Pl} {free : List Nat} {F : Hp}
theorem Rd.one' (w : World) (T : TypeId) (x : Value) {b : Nat} (hb : b = w.heap.size) : Rd (w.alloc (.cells #[x] T)) 1 (.slice (some ⟨b, 0, none⟩) 1 1) 1 [x] := by
  subst hb
  exact Rd.one w T x

abbrev pl0 : Pl := ⟨0, false, false, ez⟩
def newL (n : Nat) (first : Int) (k : Nat) : List Pl := List.replicate k ⟨first, false, false, ez⟩ ++ List.replicate (n - k) pl0
def newF (n k : Nat) : List Nat := (List.range k).map fun i => n - 1 - i
theorem newL_at (n : Nat) (first : Int) (k : Nat) (h : k < n) : (newL n first k)[k]? = some pl0 := by
  rw [newL, List.getElem?_append_right (by simp), List.length_replicate, Nat.sub_self, List.getElem?_replicate, if_pos (by omega)]
theorem newL_set (n : Nat) (first : Int) (k : Nat) (h : k < n) : (newL n first k).set k ⟨first, false, false, ez⟩ = newL n first (k + 1) := by
  obtain ⟨m, rfl⟩ : ∃ m, n = k + (m + 1) := ⟨n - k - 1, by omega⟩
  rw [newL, newL, List.set_append, if_neg (by simp), List.length_replicate, Nat.sub_self, show k + (m + 1) - k = m + 1 by omega, List.replicate_succ, List.set_cons_zero, show k + (m + 1) - (k + 1) = m by omega, List.replicate_succ', List.append_assoc]
  rfl
theorem newL_0 (n : Nat) (first : Int) : newL n first 0 = List.replicate n pl0 := by simp [newL]
theorem newL_n (n : Nat) (first : Int) : newL n first n = List.replicate n ⟨first, false, false, ez⟩ := by simp [newL]
theorem newF_succ (n k : Nat) : newF n (k + 1) = newF n k ++ [n - 1 - k] := by simp [newF, List.range_succ]
theorem newF_len (n k : Nat) : (newF n k).length = k := by simp [newF]

def newAt (q a n : Nat) (first : Int) (k : Nat) (F : Hp) : Hp := ex fun v : Value => pc q 301 [.slice (some ⟨a, 0, none⟩) n n, v] * (sl 303 14 (.slice (some ⟨a, 0, none⟩) n n) n (flat (newL n first k)) * (sl 3 1 v k ((newF n k).map fun k : Nat => vi k) * F))

set_option maxRecDepth 100000 in
set_option maxHeartbeats 8000000 in
theorem new_ (n : Nat) (first : Int) (hn : 1 ≤ n) (hn' : n ≤ 4096) (hf : 1 ≤ first) (hf' : first ≤ 18446744073709551614) (h : Sat w0 F w) :
    Calls Tryz.prog 94 #[vi n, vu first] w fun e w' => ∃ p, e = .returned (.tuple #[vp p, vi 0]) ∧ Sat w0 (tblP p (List.replicate n ⟨first, false, false, ez⟩) (newF n n) * F) w' := by
  have hok := Lib.hid (TblOk.fresh n hn hn' first hf hf')
  have h1 : ¬ ((n : Int) < 1) := by omega
  have h2 : ¬ (4096 < (n : Int)) := by omega
  have h3 : ¬ (first < 1) := by omega
  have h4 : ¬ (18446744073709551614 < first) := by omega
  have Hf := Lib.hid hf'
  clear hf'
  obtain ⟨m, hm⟩ : ∃ m, m = n - 1 := ⟨_, rfl⟩
  have hw1 : IntKind.i64.wrap ((n : Int) - 1) = (m : Int) := by rw [IntWalk.i64_in _ (by omega)]; omega
  have Hm := Lib.hid hm
  have hm4 : m ≤ 4096 := by omega
  clear hm
  have H := Lib.hid h
  clear h
  go_enter Tryz.func94, Tryz.ntmps94
  go_wp2_with (at_make; refine wpList_make_sl Epl rfl _ _ rfl .i64 .i64 n n n n rfl rfl rfl rfl (by omega) (by omega) (by omega) H.out ?_; intro g w1 hM; have HM := Lib.hid hM; clear hM)
  have hB : Sat w0 (newAt w1.heap.size g n first 0 F) (w1.alloc (.cells #[.slice (some ⟨g, 0, none⟩) n n, .slice none 0 0] 301)) := by
    have h5 := HM.out
    rw [flat_made Pl.len (by omega) (.agg #[vu 0, .bool false, .bool false, .int .i64 0, .int .u64 0, .int .i64 0, .int .u64 0, .int .u64 0, .int .i64 0, .int .u64 0, .int .i64 0, .int .i64 0, .int .u64 0, .int .i64 0]) pl0 rfl n] at h5
    have h6 := (h5.slI (n := n) (cap := n) (size := 14) (Nat.le_refl _) (by unfold maxLen; omega) (by rw [flat_len Pl.len]; simp) (List.take_of_length_le (by rw [flat_len Pl.len]; simp))).alloc (.cells #[.slice (some ⟨g, 0, none⟩) n n, .slice none 0 0] 301)
    have h7 := h6.addNil 3 1
    have h8 := (Sat.exI (f := fun v : Value => pc w1.heap.size 301 [.slice (some ⟨g, 0, none⟩) n n, v] * (sl 303 14 (.slice (some ⟨g, 0, none⟩) n n) n (flat (newL n first 0)) * (sl 3 1 v 0 ((newF n 0).map fun k : Nat => vi k) * F))) (F := emp) (.slice none 0 0) (h7.cast (by rw [sep_emp, newL_0]; simp only [newF, List.range_zero, List.map_nil]; simp only [pc]; ac_rfl)))
    exact h8.cast (sep_emp _)
  generalize w1.alloc (.cells #[.slice (some ⟨g, 0, none⟩) n n, .slice none 0 0] 301) = w2 at *
  generalize w1.heap.size = q at *
  obtain ⟨v0, hC⟩ : ∃ v, Sat w0 (pc q 301 [.slice (some ⟨g, 0, none⟩) n n, v] * F) w2 := by
    obtain ⟨v, hv⟩ := (hB.cast (sep_emp _).symm).exE
    exact ⟨v, (hv.cast (sep_emp _)).drop2.drop2⟩
  have c0 := hC.cell 0 rfl
  have HB := Lib.hid hB
  clear hB hC HM
  go_wp2
  clear c0
  go_loopw [31] (fun i wr => ∃ k : Nat, k ≤ n ∧ i = vi k ∧ Sat w0 (newAt q g n first k F) wr) (fun i _ => n - (intOf i).toNat)
  case atStart => exact ⟨0, Nat.zero_le _, rfl, HB.out⟩
  case round =>
    obtain ⟨k, hk, rfl, hS⟩ := hrel
    by_cases hlt : k < n
    · obtain ⟨v, hS⟩ := (hS.cast (sep_emp _).symm).exE
      have hS := hS.cast (sep_emp _)
      obtain ⟨fo, fcap, rfl⟩ := hS.pull3.rd.len
      have c0 := hS.cell 0 rfl
      have c1 := hS.cell 1 rfl
      have f0 := hS.free 0
      have f1 := hS.free 1
      have e0 := hS.pull2.slCell (k * 14 + 0) (flat_get Pl.len (newL_at n first k hlt) rfl)
      have lf := hS.pull2.slFree (k * 14 + 0)
      rw [Nat.add_zero] at e0 lf
      have hqg : q ≠ g := hS.slNe
      have a1 := hS.pull2.slStore (k * 14 + 0) (by omega) (vu first)
      rw [flat_set Pl.len _ k 0 _ ⟨first, false, false, ez⟩ (vu first) (newL_at n first k hlt) (by omega) rfl, newL_set n first k hlt, Nat.add_zero] at a1
      have A1 := Lib.hid a1
      obtain ⟨j, hj⟩ : ∃ j, j = n - 1 - k := ⟨_, rfl⟩
      have hmk : (m : Int) - (k : Int) = (j : Int) := by have := Hm.out; omega
      have Hmk := Lib.hid hmk
      have hw2 : IntKind.i64.wrap ((m : Int) - (k : Int)) = (m : Int) - (k : Int) := IntWalk.i64_in _ (by omega)
      clear hmk
      have hkn : (k : Int) < (n : Int) := by omega
      have Hj := Lib.hid hj
      clear hS a1 hj
      go_wp2_with (at_builtin; refine wpList_append_sl Einti rfl (.tmp 46) (.tmp 51) rfl rfl (A1.out.pull3.alloc' _) (by rfl) (Rd.one' _ _ (.int .i64 ((m : Int) - (k : Int))) (b := wr.heap.size) (by simp)) (by simp [Value.oneCell']) (by unfold maxLen; omega) (by omega) ?_; intro ao2 cap2 w3 hS2; rw [Hmk.out] at hS2; have hP := hS2.pull3; have d0 := hP.cell 0 rfl; have d1 := hP.cell 1 rfl; have g0 := hP.free 0; have g1 := hP.free 1; have H3 := Lib.hid hP; clear hS2 hP)
      go_roundw
      case rel =>
        refine ⟨k + 1, by omega, by go_num, ?_⟩
        refine (Sat.exI (F := emp) (.slice ao2 (k + 1) cap2) ((H3.out.store 1 (.slice ao2 (k + 1) cap2)).cast ?_)).cast (sep_emp _)
        rw [sep_emp, newF_succ, List.map_append, ← Hj.out]
        simp only [List.set_cons_succ, List.set_cons_zero, List.map_cons, List.map_nil]
        ac_rfl
      case measure => simp [intOf]; omega
    · obtain rfl : k = n := by omega
      have HS := Lib.hid hS
      clear hS
      go_wp2
      go_ret2
      refine ⟨q, rfl, ?_⟩
      obtain ⟨v, hv⟩ := (HS.out.cast (sep_emp _).symm).exE
      have hv := hv.cast (sep_emp _)
      obtain ⟨fo, fcap, rfl⟩ := hv.pull3.rd.len
      refine TblIs.shut (s := ⟨g, k, fo, fcap⟩) ⟨hok.out, hv.cast ?_⟩
      simp only [tblB, tblL, tblF, TblS.lv, TblS.fv, newL_n, List.length_replicate, newF_len]

end
end Go.Proofs.YtdbppfcilaajaaaGreat.Ad

namespace Go.Proofs.YtdbppfcilaajaaaGreat
open Go.RowKit
theorem Sat.slCut {w0 w : World} {F : Hp} {e : TypeId} {size n g cap : Nat} {xs : List Value} (h : Sat w0 (sl e size (.slice (some ⟨g, 0, none⟩) n cap) n xs * F) w) (k : Nat) (hk : k ≤ n) : Sat w0 (sl e size (.slice (some ⟨g, 0, none⟩) k k) k (xs.take (k * size)) * F) w := by
  obtain ⟨cur, h1, h2, h3, h4, hS⟩ := h.slP
  refine hS.slI (Nat.le_refl _) (by omega) (Nat.le_trans (Nat.mul_le_mul_right _ (by omega)) h3) ?_
  rw [← h4, List.take_take, Nat.min_eq_left (Nat.mul_le_mul_right _ hk)]
end Go.Proofs.YtdbppfcilaajaaaGreat

namespace Go.Proofs.YtdbppfcilaajaaaGreat.Kn
open Go.RowKit
set_option linter.unusedVariables false
set_option linter.unusedSimpArgs false

theorem Etn : SlT Tryz.prog 305 365 5 40 (.agg #[.bool false, .int .i64 0, .int .i64 0, .int .i64 0, .int .i64 0]) := SlT.mk' Tryz.underlying305 (by kernel_rfl) rfl (by decide)
abbrev freeV (n k : Nat) : List Value := (Ad.newF n k).map fun k : Nat => vi k
/-- A forest: a first root, or none; so many free places. -/
abbrev treeA (t g n k : Nat) (fi : Int) (v : Value) (cs : List Value) (F : Hp) : Hp := pc t 307 [.slice (some ⟨g, 0, none⟩) n n, vi fi, v] * (sl 365 5 (.slice (some ⟨g, 0, none⟩) n n) n cs * (sl 3 1 v k (freeV n k) * F))
def treeQ (t n k : Nat) : Hp := ex fun x : Nat × Int × Value × List Value => given (-1 ≤ x.2.1 ∧ x.2.1 < n) (treeA t x.1 n k x.2.1 x.2.2.1 x.2.2.2 emp)
section
variable {w0 w : World} {F : Hp} {t g n k : Nat} {fi : Int} {v : Value} {cs : List Value}
theorem tq_open (h : Sat w0 (treeQ t n k * F) w) : ∃ g fi v cs, (-1 ≤ fi ∧ fi < (n : Int)) ∧ Sat w0 (treeA t g n k fi v cs F) w := by
  obtain ⟨⟨g, fi, v, cs⟩, h1⟩ := h.exE
  obtain ⟨h2, h3⟩ := h1.givenE
  exact ⟨g, fi, v, cs, h2, h3.cast (by simp only [treeA]; rw [sep_emp]; ac_rfl)⟩
theorem tq_shut (hf : -1 ≤ fi ∧ fi < (n : Int)) (h : Sat w0 (treeA t g n k fi v cs F) w) : Sat w0 (treeQ t n k * F) w :=
  Sat.exI (f := fun x : Nat × Int × Value × List Value => given (-1 ≤ x.2.1 ∧ x.2.1 < n) (treeA t x.1 n k x.2.1 x.2.2.1 x.2.2.2 emp)) (g, fi, v, cs) (Sat.givenI hf (h.cast (by simp only [treeA]; rw [sep_emp]; ac_rfl)))
theorem row_cell {e : TypeId} {cap : Nat} (h : Sat w0 (sl e 5 (.slice (some ⟨g, 0, none⟩) n cap) n cs * F) w) {i : Nat} (hi : i < n * 5) : ∃ u, w.cell? ⟨g, i, none⟩ = some u :=
  ⟨cs[i]'(by rw [h.slLen]; exact hi), h.slCell i (List.getElem?_eq_getElem _)⟩
set_option maxRecDepth 100000 in
theorem t_nothing {T : TypeId} {u1 u2 : Value} (h : Sat w0 (pc t T [.slice (some ⟨g, 0, none⟩) n n, u1, u2] * F) w) (hn : 1 ≤ n) : Calls Tryz.prog 213 #[vp t] w fun e w' => e = .returned (.bool false) ∧ w = w' := by
  have c0 := h.cell 0 rfl
  have hz : ((n : Int) == 0) = false := beq_eq_false_iff_ne.2 (by omega)
  clear h hn
  go_enter Tryz.func213, Tryz.ntmps213
  go_wp2
  go_ret
  exact ⟨rfl, rfl⟩
set_option maxRecDepth 100000 in
theorem t_head (w : World) (t : Nat) : Calls Tryz.prog 215 #[vp t, vi (-1)] w fun e w' => e = .returned (.pointer (some ⟨t, 1, none⟩)) ∧ w = w' := by
  go_enter Tryz.func215, Tryz.ntmps215
  go_wp2
  go_ret
  exact ⟨rfl, rfl⟩
set_option maxRecDepth 100000 in
theorem t_join1 {j : Nat} (h : Sat w0 (treeA t g n k fi v cs F) w) (hj : j < n) : Calls Tryz.prog 216 #[vp t, vi (-1), vi (-1), vi j] w fun e w' => e = .returned (.tuple #[]) ∧ ∃ cs', Sat w0 (treeA t g n k j v cs' F) w' := by
  have c0 := h.cell 0 rfl
  have c1 := h.cell 1 rfl
  have f1 := h.free 1
  have hs := h.store 1 (vi j)
  have d0 := hs.cell 0 rfl
  have lf := hs.pull2.slFree (j * 5 + 3)
  obtain ⟨u3, lc⟩ := row_cell hs.pull2 (i := j * 5 + 3) (by omega)
  have hs2 := (hs.pull2.slStore (j * 5 + 3) (by omega) (vi (-1))).pull2
  have HS := Lib.hid hs2
  have hjm : ((j : Int) == -1) = false := beq_eq_false_iff_ne.2 (by omega)
  have hjn : ((j : Int) != -1) = true := by simp [bne, hjm]
  have hlt : (j : Int) < (n : Int) := by omega
  have hge : ¬ ((j : Int) < 0) := by omega
  clear h hs hs2 hj
  go_enter Tryz.func216, Tryz.ntmps216
  go_wp2_with (go_at_call 215; refine (t_head _ t).mono ?_; rintro e w' ⟨rfl, rfl⟩)
  go_end0
  exact ⟨rfl, _, HS.out⟩
set_option maxRecDepth 100000 in
theorem t_join2 {j : Nat} (h : Sat w0 (treeA t g n k fi v cs F) w) (hj : j < n) (x : Int) (hx : -1 ≤ x ∧ x < (n : Int)) : Calls Tryz.prog 216 #[vp t, vi (-1), vi j, vi x] w fun e w' => e = .returned (.tuple #[]) ∧ ∃ cs', Sat w0 (treeA t g n k fi v cs' F) w' := by
  have c0 := h.cell 0 rfl
  have lf := h.pull2.slFree (j * 5 + 4)
  obtain ⟨u4, lc⟩ := row_cell h.pull2 (i := j * 5 + 4) (by omega)
  have hs := (h.pull2.slStore (j * 5 + 4) (by omega) (vi x)).pull2
  have d0 := hs.cell 0 rfl
  have hjm : ((j : Int) == -1) = false := beq_eq_false_iff_ne.2 (by omega)
  have hlt : (j : Int) < (n : Int) := by omega
  have hge : ¬ ((j : Int) < 0) := by omega
  by_cases hz : x = -1
  · subst hz
    have HS := Lib.hid hs
    clear h hs hj hx
    go_enter Tryz.func216, Tryz.ntmps216
    go_wp2
    go_end0
    exact ⟨rfl, _, HS.out⟩
  · obtain ⟨y, rfl⟩ : ∃ y : Nat, x = y := ⟨x.toNat, by omega⟩
    have hxm : ((y : Int) == -1) = false := beq_eq_false_iff_ne.2 (by omega)
    have hxn : ((y : Int) != -1) = true := by simp [bne, hxm]
    have hlt2 : (y : Int) < (n : Int) := hx.2
    have hge2 : ¬ ((y : Int) < 0) := by omega
    have lf2 := hs.pull2.slFree (y * 5 + 3)
    obtain ⟨u3, lc2⟩ := row_cell hs.pull2 (i := y * 5 + 3) (by omega)
    have hs2 := (hs.pull2.slStore (y * 5 + 3) (by omega) (vi j)).pull2
    have HS := Lib.hid hs2
    clear h hs hs2 hj hx hz
    go_enter Tryz.func216, Tryz.ntmps216
    go_wp2
    go_end0
    exact ⟨rfl, _, HS.out⟩
end
end Go.Proofs.YtdbppfcilaajaaaGreat.Kn

namespace Go.Proofs.YtdbppfcilaajaaaGreat.Kn
open Go.RowKit
set_option linter.unusedVariables false
set_option linter.unusedSimpArgs false

section
variable {w0 w : World} {F : Hp} {t g n k : Nat} {fi : Int} {v : Value} {cs : List Value}
def newT (q a n k : Nat) (F : Hp) : Hp := ex fun v : Value => treeA q a n k (-1) v (List.replicate n [.bool false, .int .i64 0, .int .i64 0, .int .i64 0, .int .i64 0]).flatten F
set_option maxRecDepth 100000 in
set_option maxHeartbeats 8000000 in
theorem t_new (n : Nat) (hn : 1 ≤ n) (hn' : n ≤ 4096) (h : Sat w0 F w) :
    Calls Tryz.prog 96 #[vi n] w fun e w' => ∃ t, e = .returned (.tuple #[vp t, vi 0]) ∧ Sat w0 (treeQ t n n * F) w' := by
  have h1 : ¬ ((n : Int) < 1) := by omega
  have h2 : ¬ (4096 < (n : Int)) := by omega
  obtain ⟨m, hm⟩ : ∃ m, m = n - 1 := ⟨_, rfl⟩
  have hw1 : IntKind.i64.wrap ((n : Int) - 1) = (m : Int) := by rw [IntWalk.i64_in _ (by omega)]; omega
  have Hm := Lib.hid hm
  have hm4 : m ≤ 4096 := by omega
  clear hm
  have H := Lib.hid h
  clear h
  go_enter Tryz.func96, Tryz.ntmps96
  go_wp2_with (at_make; refine wpList_make_sl Etn rfl _ _ rfl .i64 .i64 n n n n rfl rfl rfl rfl (by omega) (by omega) (by omega) H.out ?_; intro g w1 hM; have HM := Lib.hid hM; clear hM)
  have hB : Sat w0 (newT w1.heap.size g n 0 F) (w1.alloc (.cells #[.slice (some ⟨g, 0, none⟩) n n, .int .i64 (-1), .slice none 0 0] 307)) := by
    have h5 := HM.out
    rw [flat_made (f := fun _ : Unit => [.bool false, .int .i64 0, .int .i64 0, .int .i64 0, .int .i64 0]) (N := 5) (fun _ => rfl) (by omega) (.agg #[.bool false, .int .i64 0, .int .i64 0, .int .i64 0, .int .i64 0]) () rfl n] at h5
    have e5 : (List.replicate n ()).flatMap (fun _ : Unit => ([.bool false, .int .i64 0, .int .i64 0, .int .i64 0, .int .i64 0] : List Value)) = (List.replicate n [.bool false, .int .i64 0, .int .i64 0, .int .i64 0, .int .i64 0]).flatten := by
      rw [List.flatMap_def, List.map_replicate]
    rw [e5] at h5
    have hl : (List.replicate n ([.bool false, .int .i64 0, .int .i64 0, .int .i64 0, .int .i64 0] : List Value)).flatten.length = n * 5 := by simp
    have h6 := (h5.slI (n := n) (cap := n) (size := 5) (Nat.le_refl _) (by unfold maxLen; omega) (by rw [hl]; omega) (List.take_of_length_le (by rw [hl]; omega))).alloc (.cells #[.slice (some ⟨g, 0, none⟩) n n, .int .i64 (-1), .slice none 0 0] 307)
    have h7 := h6.addNil 3 1
    have h8 := Sat.exI (f := fun v : Value => treeA w1.heap.size g n 0 (-1) v (List.replicate n [.bool false, .int .i64 0, .int .i64 0, .int .i64 0, .int .i64 0]).flatten F) (F := emp) (.slice none 0 0) (h7.cast (by rw [sep_emp]; simp only [treeA, freeV, Ad.newF, List.range_zero, List.map_nil]; simp only [pc]; ac_rfl))
    exact h8.cast (sep_emp _)
  generalize w1.alloc (.cells #[.slice (some ⟨g, 0, none⟩) n n, .int .i64 (-1), .slice none 0 0] 307) = w2 at *
  generalize w1.heap.size = q at *
  obtain ⟨v0, hC⟩ : ∃ v, Sat w0 (pc q 307 [.slice (some ⟨g, 0, none⟩) n n, vi (-1), v] * F) w2 := by
    obtain ⟨v, hv⟩ := (hB.cast (sep_emp _).symm).exE
    exact ⟨v, (hv.cast (sep_emp _)).drop2.drop2⟩
  have c0 := hC.cell 0 rfl
  have HB := Lib.hid hB
  clear hB hC HM
  go_wp2
  clear c0
  go_loopw [21] (fun i wr => ∃ k : Nat, k ≤ n ∧ i = vi k ∧ Sat w0 (newT q g n k F) wr) (fun i _ => n - (intOf i).toNat)
  case atStart => exact ⟨0, Nat.zero_le _, rfl, HB.out⟩
  case round =>
    obtain ⟨k, hk, rfl, hS⟩ := hrel
    by_cases hlt : k < n
    · obtain ⟨v, hS⟩ := (hS.cast (sep_emp _).symm).exE
      have hS := hS.cast (sep_emp _)
      obtain ⟨fo, fcap, rfl⟩ := hS.pull3.rd.len
      have c2 := hS.cell 2 rfl
      have A1 := Lib.hid hS
      obtain ⟨j, hj⟩ : ∃ j, j = n - 1 - k := ⟨_, rfl⟩
      have hmk : (m : Int) - (k : Int) = (j : Int) := by have := Hm.out; omega
      have Hmk := Lib.hid hmk
      have hw2 : IntKind.i64.wrap ((m : Int) - (k : Int)) = (m : Int) - (k : Int) := IntWalk.i64_in _ (by omega)
      clear hmk
      have hkn : (k : Int) < (n : Int) := by omega
      have Hj := Lib.hid hj
      clear hS hj
      go_wp2_with (at_builtin; refine wpList_append_sl Einti rfl (.tmp 28) (.tmp 33) rfl rfl (A1.out.pull3.alloc' _) (by rfl) (Ad.Rd.one' _ _ (.int .i64 ((m : Int) - (k : Int))) (b := wr.heap.size) (by simp)) (by simp [Value.oneCell']) (by unfold maxLen; omega) (by omega) ?_; intro ao2 cap2 w3 hS2; rw [Hmk.out] at hS2; have hP := hS2.pull2; have d2 := hP.cell 2 rfl; have g2 := hP.free 2; have H3 := Lib.hid hP; clear hS2 hP)
      go_roundw
      case rel =>
        refine ⟨k + 1, by omega, by go_num, ?_⟩
        refine (Sat.exI (F := emp) (.slice ao2 (k + 1) cap2) ((H3.out.store 2 (.slice ao2 (k + 1) cap2)).cast ?_)).cast (sep_emp _)
        have e1 : freeV n (k + 1) = freeV n k ++ [.int .i64 (j : Int)] := by rw [freeV, Ad.newF_succ, List.map_append, ← Hj.out]; rfl
        rw [sep_emp, treeA, e1]
        simp only [List.set_cons_succ, List.set_cons_zero]
        ac_rfl
      case measure => simp [intOf]; omega
    · obtain rfl : k = n := by omega
      obtain ⟨v, hS⟩ := (hS.cast (sep_emp _).symm).exE
      have HS := Lib.hid (hS.cast (sep_emp _))
      clear hS
      go_wp2
      go_ret2
      exact ⟨q, rfl, tq_shut ⟨by omega, by omega⟩ HS.out⟩
end
end Go.Proofs.YtdbppfcilaajaaaGreat.Kn

namespace Go.Proofs.YtdbppfcilaajaaaGreat.Kn
open Go.RowKit
set_option linter.unusedVariables false
set_option linter.unusedSimpArgs false

section
variable {w0 w : World} {F : Hp} {t g n k : Nat} {fi : Int} {v : Value} {cs : List Value}
set_option maxRecDepth 100000 in
set_option maxHeartbeats 4000000 in
/-- One more root. -/
theorem t_add (h : Sat w0 (treeQ t n (k + 1) * F) w) (hk : k < n) (hn : n ≤ 4096) : Calls Tryz.prog 172 #[vp t, vi (-1)] w fun e w' => e = .returned (.tuple #[vi (n - 1 - k : Nat), vi 0]) ∧ Sat w0 (treeQ t n k * F) w' := by
  obtain ⟨g, fi, v, cs, hf, hS⟩ := tq_open h
  obtain ⟨j, hj⟩ : ∃ j, j = n - 1 - k := ⟨_, rfl⟩
  rw [← hj]
  have hS2 := hS.pull3
  obtain ⟨fo, cap, rfl⟩ := hS2.rd.len
  obtain ⟨fa, rfl⟩ : ∃ fa, fo = some ⟨fa, 0, none⟩ := by
    rcases hS2.slE.2 with ⟨_, h0, _⟩ | ⟨g, c, cur, hv, _⟩
    · omega
    · injection hv with h1 h2 h3
      exact ⟨g, h1⟩
  have hlast : w.cell? ⟨fa, k, none⟩ = some (vi j) := hS2.slCell k (by rw [freeV, Ad.newF_succ, List.map_append, List.getElem?_append_right (by simp [Ad.newF_len]), List.length_map, Ad.newF_len, Nat.sub_self, hj]; rfl)
  have hcap := hS2.slCap
  have hcut := hS2.slCut k (by omega)
  have hx : (freeV n (k + 1)).take (k * 1) = freeV n k := by
    rw [Nat.mul_one, freeV, Ad.newF_succ, List.map_append, List.take_left' (by simp [Ad.newF_len])]
  rw [hx] at hcut
  have c0 := hS.cell 0 rfl
  have c1 := hS.cell 1 rfl
  have c2 := hS.cell 2 rfl
  have f2 := hS.free 2
  have hs1 := hcut.pull2.store 2 (.slice (some ⟨fa, 0, none⟩) k k)
  have d0 := hs1.cell 0 rfl
  have d1 := hs1.cell 1 rfl
  have hjn : j < n := by omega
  have r0 := hs1.pull3.slFree (j * 5)
  have r1 := hs1.pull3.slFree (j * 5 + 1)
  have r2 := hs1.pull3.slFree (j * 5 + 2)
  have r3 := hs1.pull3.slFree (j * 5 + 3)
  have r4 := hs1.pull3.slFree (j * 5 + 4)
  obtain ⟨x0, y0⟩ := row_cell hs1.pull3 (i := j * 5) (by omega)
  obtain ⟨x1, y1⟩ := row_cell hs1.pull3 (i := j * 5 + 1) (by omega)
  obtain ⟨x2, y2⟩ := row_cell hs1.pull3 (i := j * 5 + 2) (by omega)
  obtain ⟨x3, y3⟩ := row_cell hs1.pull3 (i := j * 5 + 3) (by omega)
  obtain ⟨x4, y4⟩ := row_cell hs1.pull3 (i := j * 5 + 4) (by omega)
  have hs2 := ((((hs1.pull3.slStore (j * 5) (by omega) (.bool true)).slStore (j * 5 + 1) (by omega) (vi (-1))).slStore (j * 5 + 2) (by omega) (vi (-1))).slStore (j * 5 + 3) (by omega) (vi (-1))).slStore (j * 5 + 4) (by omega) (vi (-1))
  have hs3 := hs2.pull2
  have HN := Lib.hid (t_nothing hS (by omega))
  have H3 := Lib.hid hs3
  have HJ := Lib.hid hjn
  have HJ1 := Lib.hid (t_join1 hs3 hjn)
  have HF := Lib.hid hf
  have hz : (((k + 1 : Nat) : Int) == 0) = false := beq_eq_false_iff_ne.2 (by omega)
  have hw1 : IntKind.i64.wrap (((k + 1 : Nat) : Int) - 1) = (k : Int) := by rw [IntWalk.i64_in _ (by omega)]; omega
  have hki : (k : Int) < ((k + 1 : Nat) : Int) := by omega
  have hlt : (j : Int) < (n : Int) := by omega
  have hkc : (k : Int) ≤ (cap : Int) := by omega
  have hmax : max (-1 : Int) (-1) = -1 := by decide
  clear h hS hS2 hcut hs1 hs2 hs3 hf hjn hj hx
  go_enter Tryz.func172, Tryz.ntmps172
  go_wp2_with (first
    | (go_at_call 213; refine HN.out.mono ?_; rintro e w' ⟨rfl, rfl⟩)
    | (go_at_call 215; refine (t_head _ t).mono ?_; rintro e w' ⟨rfl, rfl⟩)
    | (go_at_call 216; with_reducible refine HJ1.out.mono ?_; rintro e w1 ⟨rfl, cs1, hS1⟩; have H4 := Lib.hid hS1; clear hS1)
    | (go_at_call 216; with_reducible refine (t_join2 H4.out HJ.out fi HF.out).mono ?_; rintro e w2 ⟨rfl, cs2, hS2⟩; have H5 := Lib.hid hS2; clear hS2))
  go_ret2
  exact ⟨rfl, tq_shut ⟨by omega, by have := HJ.out; omega⟩ H5.out⟩
end
end Go.Proofs.YtdbppfcilaajaaaGreat.Kn
