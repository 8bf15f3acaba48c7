/-
  Contracts of package arena at T = helmsman/api.Context: New. No statement is proved here.
-/
import Derived.Test.YtknodagcmachiaaCa2
import Derived.Test.YtknodagcmachiaaMg4
import Derived.Test.YtknodagcmachiaaMg3
import Derived.Laws.Externs
namespace Go.Proofs.Ytknodagcmachiaa.Ac
open Go.RowKit
open Fi (vi vu)
set_option linter.unusedVariables false

section
variable {w0 w : World} {p : Nat} {s : TblS} {ps : List Pl} {free : List Nat} {F : Hp}
theorem Rd.one' (w : World) (T : TypeId) (x : Value) {b : Nat} (hb : b = w.heap.size) : Rd (w.alloc (.cells #[x] T)) 1 (.slice (some ⟨b, 0, none⟩) 1 1) 1 [x] := by
  subst hb
  exact Rd.one w T x

abbrev pl0 : Pl := ⟨0, false, false, ez⟩
def newL (n : Nat) (first : Int) (k : Nat) : List Pl := List.replicate k ⟨first, false, false, ez⟩ ++ List.replicate (n - k) pl0
def newF (n k : Nat) : List Nat := (List.range k).map fun i => n - 1 - i
theorem newL_len (n : Nat) (first : Int) (k : Nat) (h : k ≤ n) : (newL n first k).length = n := by simp [newL]; omega
theorem newL_at (n : Nat) (first : Int) (k : Nat) (h : k < n) : (newL n first k)[k]? = some pl0 := by
  rw [newL, List.getElem?_append_right (by simp), List.length_replicate, Nat.sub_self, List.getElem?_replicate, if_pos (by omega)]
theorem newL_set (n : Nat) (first : Int) (k : Nat) (h : k < n) : (newL n first k).set k ⟨first, false, false, ez⟩ = newL n first (k + 1) := by
  obtain ⟨m, rfl⟩ : ∃ m, n = k + (m + 1) := ⟨n - k - 1, by omega⟩
  rw [newL, newL, List.set_append, if_neg (by simp), List.length_replicate, Nat.sub_self, show k + (m + 1) - k = m + 1 by omega, List.replicate_succ, List.set_cons_zero, show k + (m + 1) - (k + 1) = m by omega, List.replicate_succ', List.append_assoc]
  rfl
theorem newL_0 (n : Nat) (first : Int) : newL n first 0 = List.replicate n pl0 := by simp [newL]
theorem newL_n (n : Nat) (first : Int) : newL n first n = List.replicate n ⟨first, false, false, ez⟩ := by simp [newL]
theorem newF_succ (n k : Nat) : newF n (k + 1) = newF n k ++ [n - 1 - k] := by simp [newF, List.range_succ]
theorem newF_len (n k : Nat) : (newF n k).length = k := by simp [newF]

def newAt (q a n : Nat) (first : Int) (k : Nat) (F : Hp) : Hp := ex fun v : Value => pc q 108 [.slice (some ⟨a, 0, none⟩) n n, v] * (sl 110 7 (.slice (some ⟨a, 0, none⟩) n n) n (flat (newL n first k)) * (sl 3 1 v k ((newF n k).map fun k : Nat => vi k) * F))

set_option maxRecDepth 100000 in
set_option maxHeartbeats 8000000 in
theorem new_ (n : Nat) (first : Int) (hn : 1 ≤ n) (hn' : n ≤ 4096) (hf : 1 ≤ first) (hf' : first ≤ 18446744073709551614) (h : Sat w0 F w) :
    Calls Try.prog 34 #[vi n, vu first] w fun e w' => ∃ p, e = .returned (.tuple #[vp p, vi 0]) ∧ Sat w0 (tblP p (List.replicate n ⟨first, false, false, ez⟩) (newF n n) * F) w' := by
  have hok := Lib.hid (TblOk.fresh n hn hn' first hf hf')
  have h1 : ¬ ((n : Int) < 1) := by omega
  have h2 : ¬ (4096 < (n : Int)) := by omega
  have h3 : ¬ (first < 1) := by omega
  have h4 : ¬ (18446744073709551614 < first) := by omega
  have Hf := Lib.hid hf'
  clear hf'
  obtain ⟨m, hm⟩ : ∃ m, m = n - 1 := ⟨_, rfl⟩
  have hw1 : IntKind.i64.wrap ((n : Int) - 1) = (m : Int) := by rw [IntWalk.i64_in _ (by omega)]; omega
  have Hm := Lib.hid hm
  have hm4 : m ≤ 4096 := by omega
  clear hm
  have H := Lib.hid h
  clear h
  go_enter Try.func34, Try.ntmps34
  go_wp2_with (at_make; refine wpList_make_sl Epl rfl _ _ rfl .i64 .i64 n n n n rfl rfl rfl rfl (by omega) (by omega) (by omega) H.out ?_; intro g w1 hM; have HM := Lib.hid hM; clear hM)
  have hB : Sat w0 (newAt w1.heap.size g n first 0 F) (w1.alloc (.cells #[.slice (some ⟨g, 0, none⟩) n n, .slice none 0 0] 108)) := by
    have h5 := HM.out
    rw [flat_made Pl.len (by omega) (.agg #[vu 0, .bool false, .bool false, .int .u64 0, .int .u64 0, .slice none 0 0, .int .i64 0]) pl0 rfl n] at h5
    have h6 := (h5.slI (n := n) (cap := n) (size := 7) (Nat.le_refl _) (by unfold maxLen; omega) (by rw [flat_len Pl.len]; simp) (List.take_of_length_le (by rw [flat_len Pl.len]; simp))).alloc (.cells #[.slice (some ⟨g, 0, none⟩) n n, .slice none 0 0] 108)
    have h7 := h6.addNil 3 1
    have h8 := (Sat.exI (f := fun v : Value => pc w1.heap.size 108 [.slice (some ⟨g, 0, none⟩) n n, v] * (sl 110 7 (.slice (some ⟨g, 0, none⟩) n n) n (flat (newL n first 0)) * (sl 3 1 v 0 ((newF n 0).map fun k : Nat => vi k) * F))) (F := emp) (.slice none 0 0) (h7.cast (by rw [sep_emp, newL_0]; simp only [newF, List.range_zero, List.map_nil]; simp only [pc]; ac_rfl)))
    exact h8.cast (sep_emp _)
  generalize w1.alloc (.cells #[.slice (some ⟨g, 0, none⟩) n n, .slice none 0 0] 108) = w2 at *
  generalize w1.heap.size = q at *
  obtain ⟨v0, hC⟩ : ∃ v, Sat w0 (pc q 108 [.slice (some ⟨g, 0, none⟩) n n, v] * F) w2 := by
    obtain ⟨v, hv⟩ := (hB.cast (sep_emp _).symm).exE
    exact ⟨v, (hv.cast (sep_emp _)).drop2.drop2⟩
  have c0 := hC.cell 0 rfl
  have HB := Lib.hid hB
  clear hB hC HM
  go_wp2
  clear c0
  go_loopw [31] (fun i wr => ∃ k : Nat, k ≤ n ∧ i = vi k ∧ Sat w0 (newAt q g n first k F) wr) (fun i _ => n - (intOf i).toNat)
  case atStart => exact ⟨0, Nat.zero_le _, rfl, HB.out⟩
  case round =>
    obtain ⟨k, hk, rfl, hS⟩ := hrel
    by_cases hlt : k < n
    · obtain ⟨v, hS⟩ := (hS.cast (sep_emp _).symm).exE
      have hS := hS.cast (sep_emp _)
      obtain ⟨fo, fcap, rfl⟩ := hS.pull3.rd.len
      have c0 := hS.cell 0 rfl
      have c1 := hS.cell 1 rfl
      have f0 := hS.free 0
      have f1 := hS.free 1
      have e0 := hS.pull2.slCell (k * 7 + 0) (flat_get Pl.len (newL_at n first k hlt) rfl)
      have lf := hS.pull2.slFree (k * 7 + 0)
      rw [Nat.add_zero] at e0 lf
      have hqg : q ≠ g := hS.slNe
      have a1 := hS.pull2.slStore (k * 7 + 0) (by omega) (vu first)
      rw [flat_set Pl.len _ k 0 _ ⟨first, false, false, ez⟩ (vu first) (newL_at n first k hlt) (by omega) rfl, newL_set n first k hlt, Nat.add_zero] at a1
      have A1 := Lib.hid a1
      obtain ⟨j, hj⟩ : ∃ j, j = n - 1 - k := ⟨_, rfl⟩
      have hmk : (m : Int) - (k : Int) = (j : Int) := by have := Hm.out; omega
      have Hmk := Lib.hid hmk
      have hw2 : IntKind.i64.wrap ((m : Int) - (k : Int)) = (m : Int) - (k : Int) := IntWalk.i64_in _ (by omega)
      clear hmk
      have hkn : (k : Int) < (n : Int) := by omega
      have Hj := Lib.hid hj
      clear hS a1 hj
      go_wp2_with (at_builtin; refine wpList_append_sl Einti rfl (.tmp 46) (.tmp 51) rfl rfl (A1.out.pull3.alloc' _) (by rfl) (Rd.one' _ _ (.int .i64 ((m : Int) - (k : Int))) (b := wr.heap.size) (by simp)) (by simp [Value.oneCell']) (by unfold maxLen; omega) (by omega) ?_; intro ao2 cap2 w3 hS2; rw [Hmk.out] at hS2; have hP := hS2.pull3; have d0 := hP.cell 0 rfl; have d1 := hP.cell 1 rfl; have g0 := hP.free 0; have g1 := hP.free 1; have H3 := Lib.hid hP; clear hS2 hP)
      go_roundw
      case rel =>
        refine ⟨k + 1, by omega, by go_num, ?_⟩
        refine (Sat.exI (F := emp) (.slice ao2 (k + 1) cap2) ((H3.out.store 1 (.slice ao2 (k + 1) cap2)).cast ?_)).cast (sep_emp _)
        rw [sep_emp, newF_succ, List.map_append, ← Hj.out]
        simp only [List.set_cons_succ, List.set_cons_zero, List.map_cons, List.map_nil]
        ac_rfl
      case measure => simp [intOf]; omega
    · obtain rfl : k = n := by omega
      have HS := Lib.hid hS
      clear hS
      go_wp2
      go_ret2
      refine ⟨q, rfl, ?_⟩
      obtain ⟨v, hv⟩ := (HS.out.cast (sep_emp _).symm).exE
      have hv := hv.cast (sep_emp _)
      obtain ⟨fo, fcap, rfl⟩ := hv.pull3.rd.len
      refine TblIs.shut (s := ⟨g, k, fo, fcap⟩) ⟨hok.out, hv.cast ?_⟩
      simp only [tblB, tblL, tblF, TblS.lv, TblS.fv, newL_n, List.length_replicate, newF_len]

end
end Go.Proofs.Ytknodagcmachiaa.Ac

namespace Go.Proofs.Ytknodagcmachiaa.Cn
open Go.RowKit Ac Fi
set_option linter.unusedVariables false

/-- Contexts: a table, and how many refills each has at most. -/
abbrev cxB (h p : Nat) (most : Int) : Hp := pc h 70 [vp p, vi most]
section
variable {w0 w : World} {F : Hp} {h p : Nat} {most : Int}
theorem cx_none (hS : Sat w0 (cxB h p most * F) w) : Calls Try.prog 35 #[vp h] w fun e w' => e = .returned (.bool false) ∧ w = w' := by
  have c0 := hS.cell 0 rfl
  clear hS
  go_enter Try.func35, Try.ntmps35
  go_wp2
  go_ret
  exact ⟨rfl, rfl⟩
theorem cx_when (b : Bool) (n : Int) (w : World) : Calls Try.prog 68 #[.bool b, vi n] w fun e w' => e = .returned (vi (if b then n else 0)) ∧ w = w' := by
  cases b
  all_goals
    go_enter Try.func68, Try.ntmps68
    go_wp2
    go_ret
    exact ⟨rfl, rfl⟩
theorem cx_new_no (n most : Int) (hn : n < 1 ∨ 32 < n ∨ most < 2 ∨ 16 < most) (w : World) : Calls Try.prog 10 #[vi n, vi most] w fun e w' => e = .returned (.tuple #[.pointer none, vi 2]) ∧ w = w' := by
  by_cases h1 : n < 1
  · clear hn
    go_enter Try.func10, Try.ntmps10
    go_wp2
    go_ret2
    exact ⟨rfl, rfl⟩
  by_cases h2 : 32 < n
  · clear hn
    go_enter Try.func10, Try.ntmps10
    go_wp2
    go_ret2
    exact ⟨rfl, rfl⟩
  by_cases h3 : most < 2
  · clear hn
    go_enter Try.func10, Try.ntmps10
    go_wp2
    go_ret2
    exact ⟨rfl, rfl⟩
  · have h4 : 16 < most := by omega
    clear hn
    go_enter Try.func10, Try.ntmps10
    go_wp2
    go_ret2
    exact ⟨rfl, rfl⟩
theorem cx_new (n : Nat) (hn : 1 ≤ n) (hn' : n ≤ 32) (hm : 2 ≤ most) (hm' : most ≤ 16) (hS : Sat w0 F w) : Calls Try.prog 10 #[vi n, vi most] w fun e w' => ∃ h p, e = .returned (.tuple #[vp h, vi 0]) ∧ Sat w0 (cxB h p most * (tblP p (List.replicate n ⟨1, false, false, ez⟩) (newF n n) * F)) w' := by
  have HN := Lib.hid (new_ n 1 hn (by omega) (by omega) (by omega) hS)
  have h1 : ¬ ((n : Int) < 1) := by omega
  have h2 : ¬ (32 < (n : Int)) := by omega
  have h3 : ¬ (most < 2) := by omega
  have h4 : ¬ (16 < most) := by omega
  clear hS
  go_enter Try.func10, Try.ntmps10
  go_wp2_with (go_at_call 34; refine HN.out.mono ?_; rintro e w1 ⟨p, rfl, hS1⟩; have H1 := Lib.hid hS1; clear hS1)
  go_ret2
  exact ⟨_, p, rfl, H1.out.alloc (.cells #[vp p, vi most] 70)⟩
end
end Go.Proofs.Ytknodagcmachiaa.Cn

namespace Go.Proofs.Ytknodagcmachiaa.Fi
open Go.RowKit
set_option linter.unusedVariables false

def thF (now : Int) (o : Option Int) (r : Rf) : Option Int := if now < r.at_ then o else o.bind fun s => addP s r.amount
def thereP (l : List Rf) (now : Int) : Option Int := l.foldl (thF now) (some 0)
def thereV (l : List Rf) (now : Int) : Int := (thereP l now).getD 18446744073709551615
theorem thereP_snoc (l : List Rf) (now : Int) (k : Nat) {r : Rf} (h : l[k]? = some r) : thereP (l.take (k + 1)) now = thF now (thereP (l.take k) now) r := by
  rw [thereP, List.take_add_one, h, List.foldl_append]
  rfl
theorem thereP_none (l : List Rf) (now : Int) (k : Nat) (h : thereP (l.take k) now = none) : thereP l now = none := by
  have e : thereP l now = (l.drop k).foldl (thF now) (thereP (l.take k) now) := by
    conv => lhs; rw [← List.take_append_drop k l, thereP, List.foldl_append]
    rfl
  rw [e, h]
  generalize l.drop k = m
  induction m with
  | nil => rfl
  | cons r m ih => simpa [thF] using ih

set_option maxRecDepth 100000 in
theorem rthere (l : List Rf) (now : Int) (v : Value) (w : World) (h : RdF w v l) (hl : l.length ≤ 1000000) :
    Calls Try.prog 87 #[v, vu now] w fun e w' => e = .returned (vu (thereV l now)) ∧ w = w' := by
  obtain ⟨ao, cap, rfl⟩ := h.rd.len
  go_enter Try.func87, Try.ntmps87
  go_wp2
  go_loop [5, 6] (fun s i => ∃ (k : Nat) (n : Int), k ≤ l.length ∧ i = vi k ∧ s = vu n ∧ U64 n ∧ Hid (thereP (l.take k) now = some n)) (fun _ i => l.length - (intOf i).toNat)
  case atStart => exact ⟨0, 0, Nat.zero_le _, rfl, rfl, ⟨by omega, by omega⟩, Lib.hid rfl⟩
  case round =>
    obtain ⟨k, n, hk, rfl, rfl, hn, hs⟩ := hrel
    by_cases hlt : k < l.length
    · obtain ⟨r, hr⟩ : ∃ r, l[k]? = some r := ⟨l[k], List.getElem?_eq_getElem hlt⟩
      obtain ⟨b, off, c, hv, hc⟩ := h.rd.pos (by omega)
      cases hv
      have c0 := hc (k * 2 + 0) _ (flat_get Rf.len hr rfl)
      have c1 := hc (k * 2 + 1) _ (flat_get Rf.len hr rfl)
      rw [Nat.add_zero] at c0
      rw [← Nat.add_assoc] at c1
      have hkl : (k : Int) < (l.length : Int) := by omega
      have hok := (h.ok r (List.mem_of_getElem? hr)).1
      have hsn := thereP_snoc l now k hr
      rw [hs.out, thF] at hsn
      have HA := Lib.hid (radd n r.amount hn hok w)
      have HN := Lib.hid hn
      have HO := Lib.hid hok
      clear hc hr hn hok
      by_cases ha : now < r.at_
      · rw [if_pos ha] at hsn
        have HS := Lib.hid hsn
        clear hsn
        go_wp2
        go_round
        case rel => exact ⟨k + 1, n, by omega, by go_num, rfl, HN.out, Lib.hid HS.out⟩
        case measure => (simp [intOf]; try omega)
      · rw [if_neg ha] at hsn
        have HS := Lib.hid hsn
        clear hsn
        cases hp : addP n r.amount with
        | none =>
          have HP := Lib.hid hp
          rw [hp] at HA
          have HB : Hid (Calls Try.prog 55 #[vu n, vu r.amount] w fun e w' => e = .returned (.tuple #[vu 0, .bool false]) ∧ w = w') := HA
          clear hp
          go_wp2_with (go_at_call 55; refine HB.out.mono ?_; rintro e w' ⟨rfl, rfl⟩)
          go_ret
          exact ⟨by rw [thereV, thereP_none l now (k + 1) (by rw [HS.out]; exact HP.out)]; rfl, rfl⟩
        | some m =>
          have HP := Lib.hid hp
          rw [hp] at HA
          have HB : Hid (Calls Try.prog 55 #[vu n, vu r.amount] w fun e w' => e = .returned (.tuple #[vu m, .bool true]) ∧ w = w') := HA
          clear hp
          go_wp2_with (go_at_call 55; refine HB.out.mono ?_; rintro e w' ⟨rfl, rfl⟩)
          go_round
          case rel => exact ⟨k + 1, m, by omega, by go_num, rfl, addP_u64 HN.out HO.out HP.out, Lib.hid (by rw [HS.out]; exact HP.out)⟩
          case measure => (simp [intOf]; try omega)
    · obtain rfl : k = l.length := by omega
      go_wp2
      go_ret
      exact ⟨by rw [thereV, ← List.take_length (l := l), hs.out]; rfl, rfl⟩
end Go.Proofs.Ytknodagcmachiaa.Fi

namespace Go.Proofs.Ytknodagcmachiaa.Fi
open Go.RowKit
set_option linter.unusedVariables false

theorem run_A64_no (x y : Int) (hx : 0 ≤ x) (hy : 0 ≤ y) (h : x + y ≤ 18446744073709551615) (w : World) :
    (callFunc 99 #[vu x, vu y, vu 0]).run Try.prog w = .ok (.value (.tuple #[vu (x + y), vu 0])) w := by
  rw [run_callFunc_extern Try.func99 (by kernel_rfl) (by kernel_rfl) (by kernel_rfl) (e := add64Entry) (by kernel_rfl), run_add64 x y 0 hx hy (by omega) (by omega)]
  simp only [Result.andThen]
  rw [show (x + y + 0) % 18446744073709551616 = x + y by omega, show (x + y + 0) / 18446744073709551616 = 0 by omega]
theorem run_A64_yes (x y : Int) (hx : 0 ≤ x) (hy : 0 ≤ y) (hx2 : x ≤ 18446744073709551615) (hy2 : y ≤ 18446744073709551615) (h : 18446744073709551615 < x + y) (w : World) :
    (callFunc 99 #[vu x, vu y, vu 0]).run Try.prog w = .ok (.value (.tuple #[vu (x + y - 18446744073709551616), vu 1])) w := by
  rw [run_callFunc_extern Try.func99 (by kernel_rfl) (by kernel_rfl) (by kernel_rfl) (e := add64Entry) (by kernel_rfl), run_add64 x y 0 hx hy (by omega) (by omega)]
  simp only [Result.andThen]
  rw [show (x + y + 0) % 18446744073709551616 = x + y - 18446744073709551616 by omega, show (x + y + 0) / 18446744073709551616 = 1 by omega]

theorem sat_ (n b : Int) (f : Bool) (w : World) :
    Calls Try.prog 98 #[vu n, .bool f, vu b] w fun e w' => e = .returned (vu (if f then n else b)) ∧ w = w' := by
  cases f
  all_goals
    go_enter Try.func98, Try.ntmps98
    go_wp2
    go_ret
    exact ⟨rfl, rfl⟩
theorem nadd (a b : Int) (ha : U64 a) (hb : U64 b) (w : World) :
    Calls Try.prog 76 #[vu a, vu b] w fun e w' => e = .returned (addV (addP a b)) ∧ w = w' := by
  obtain ⟨a1, a2⟩ := ha
  obtain ⟨b1, b2⟩ := hb
  unfold addP
  by_cases h : 18446744073709551615 < a + b
  · rw [if_pos h]
    have hr := run_A64_yes a b a1 b1 a2 b2 h w
    clear h
    go_enter Try.func76, Try.ntmps76
    go_wp2_with (go_at_call 98; refine (sat_ _ _ _ _).mono ?_; rintro e w' ⟨rfl, rfl⟩)
    go_ret2
    exact ⟨rfl, rfl⟩
  · rw [if_neg h]
    have hr := run_A64_no a b a1 b1 (by omega) w
    clear h
    go_enter Try.func76, Try.ntmps76
    go_wp2_with (go_at_call 98; refine (sat_ _ _ _ _).mono ?_; rintro e w' ⟨rfl, rfl⟩)
    go_ret2
    exact ⟨rfl, rfl⟩
theorem naddSat (a b : Int) (ha : U64 a) (hb : U64 b) (w : World) :
    Calls Try.prog 75 #[vu a, vu b] w fun e w' => e = .returned (vu ((addP a b).getD 18446744073709551615)) ∧ w = w' := by
  have H := Lib.hid (nadd a b ha hb w)
  cases hp : addP a b with
  | none =>
    rw [hp] at H
    have H2 : Hid (Calls Try.prog 76 #[vu a, vu b] w fun e w' => e = .returned (.tuple #[vu 0, .bool false]) ∧ w = w') := H
    clear H hp
    go_enter Try.func75, Try.ntmps75
    go_wp2_with (first | (go_at_call 76; refine H2.out.mono ?_; rintro e w' ⟨rfl, rfl⟩) | (go_at_call 98; refine (sat_ _ _ _ _).mono ?_; rintro e w' ⟨rfl, rfl⟩))
    go_ret
    exact ⟨rfl, rfl⟩
  | some s =>
    rw [hp] at H
    have H2 : Hid (Calls Try.prog 76 #[vu a, vu b] w fun e w' => e = .returned (.tuple #[vu s, .bool true]) ∧ w = w') := H
    clear H hp
    go_enter Try.func75, Try.ntmps75
    go_wp2_with (first | (go_at_call 76; refine H2.out.mono ?_; rintro e w' ⟨rfl, rfl⟩) | (go_at_call 98; refine (sat_ _ _ _ _).mono ?_; rintro e w' ⟨rfl, rfl⟩))
    go_ret
    exact ⟨rfl, rfl⟩
end Go.Proofs.Ytknodagcmachiaa.Fi
