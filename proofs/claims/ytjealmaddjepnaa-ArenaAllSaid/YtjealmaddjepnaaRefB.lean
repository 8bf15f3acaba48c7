/-
  Contracts of the reference's table: New; Get, Set, Drop where a ref names nothing. No statement is proved here.
-/
import Derived.Test.YtjealmaddjepnaaRefA
namespace Go.Proofs.Ytjealmaddjepnaa.Ar
open Go.RowKit
set_option linter.unusedVariables false

def rnewL (first : Int) (k : Nat) : List RP := (List.range k).map fun i : Nat => ⟨first, false, false, 0, -1 - (i : Int)⟩
theorem rnewL_len (first : Int) (k : Nat) : (rnewL first k).length = k := by simp [rnewL]
theorem rnewL_succ (first : Int) (k : Nat) : rnewL first (k + 1) = rnewL first k ++ [⟨first, false, false, 0, -1 - (k : Int)⟩] := by simp [rnewL, List.range_succ]
theorem rnewL_no (first : Int) (k : Nat) (i g : Int) : isR (rnewL first k) i g = none := by
  unfold isR
  split
  · rfl
  · split
    · rfl
    · rename_i a ha
      simp only [rnewL, List.getElem?_map, Option.map_eq_some_iff] at ha
      obtain ⟨j, _, rfl⟩ := ha
      rfl

section
variable {w0 w : World} {q : Nat} {rs : List RP} {times : Int} {F : Hp}
theorem ris_box {v : Value} (h : Sat w0 (refB q v times * (refL v rs * F)) w) (hs : rs.length ≤ 4096) (i g : Int) (hno : isR rs i g = none) (o : Obj) :
    Calls Try.prog 41 #[vp q, vr i g] (w.alloc o) fun e w' => e = .returned (.bool false) ∧ Sat w0 (refB q v times * (refL v rs * F)) w' :=
  (ris_at (h.alloc' o) hs i g).mono fun e w' ⟨h1, h2⟩ => ⟨by rw [h1, hno]; rfl, h2⟩

theorem rget_no (h : Sat w0 (refP q rs times * F) w) (hs : rs.length ≤ 4096) (i g : Int) (hno : isR rs i g = none) :
    Calls Try.prog 25 #[vp q, vr i g] w fun e w' => e = .returned (.tuple #[vi 0, vi 11]) ∧ Sat w0 (refP q rs times * F) w' := by
  obtain ⟨v, hv⟩ := ropen h
  have H := Lib.hid (ris_box hv hs i g hno (.cells #[vi i, vu g] 35))
  clear h hv
  go_enter Try.func25, Try.ntmps25
  go_wp2_with (go_at_call 41; refine H.out.mono ?_; rintro e w1 ⟨rfl, hS⟩; have HS := Lib.hid hS; clear hS)
  go_ret2
  exact ⟨rfl, rshut HS.out⟩
theorem rset_no (h : Sat w0 (refP q rs times * F) w) (hs : rs.length ≤ 4096) (i g x : Int) (hno : isR rs i g = none) :
    Calls Try.prog 27 #[vp q, vr i g, vi x] w fun e w' => e = .returned (vi 11) ∧ Sat w0 (refP q rs times * F) w' := by
  obtain ⟨v, hv⟩ := ropen h
  have H := Lib.hid (ris_box hv hs i g hno (.cells #[vi i, vu g] 35))
  clear h hv
  go_enter Try.func27, Try.ntmps27
  go_wp2_with (go_at_call 41; refine H.out.mono ?_; rintro e w1 ⟨rfl, hS⟩; have HS := Lib.hid hS; clear hS)
  go_ret
  exact ⟨rfl, rshut HS.out⟩
theorem rdrop_no (h : Sat w0 (refP q rs times * F) w) (hs : rs.length ≤ 4096) (i g : Int) (hno : isR rs i g = none) :
    Calls Try.prog 28 #[vp q, vr i g] w fun e w' => e = .returned (vi 11) ∧ Sat w0 (refP q rs times * F) w' := by
  obtain ⟨v, hv⟩ := ropen h
  have H := Lib.hid (ris_box hv hs i g hno (.cells #[vi i, vu g] 35))
  clear h hv
  go_enter Try.func28, Try.ntmps28
  go_wp2_with (go_at_call 41; refine H.out.mono ?_; rintro e w1 ⟨rfl, hS⟩; have HS := Lib.hid hS; clear hS)
  go_ret
  exact ⟨rfl, rshut HS.out⟩

theorem Rd.one5 (w : World) (T : TypeId) (a b c d e : Value) {g : Nat} (hg : g = w.heap.size) : Rd (w.alloc (.cells #[a, b, c, d, e] T)) 5 (.slice (some ⟨g, 0, none⟩) 1 1) 1 [a, b, c, d, e] := by
  subst hg
  refine ⟨rfl, .inr ⟨_, _, _, rfl, fun j u hj => ?_⟩⟩
  rcases j with _ | _ | _ | _ | _ | j
  all_goals simp at hj
  all_goals (try (subst hj; simp))

set_option maxRecDepth 100000 in
set_option maxHeartbeats 2000000 in
theorem rnew (h : Sat w0 F w) (n : Nat) (hn : n ≤ 4096) (first : Int) :
    Calls Try.prog 10 #[vi n, vu first] w fun e w' => ∃ q, e = .returned (vp q) ∧ Sat w0 (refP q (rnewL first n) 0 * F) w' := by
  have hB : Sat w0 (refB w.heap.size (.slice none 0 0) 0 * (sl 50 5 (.slice none 0 0) 0 [] * F)) (w.alloc (.cells #[.slice none 0 0, vi 0] 48)) :=
    (h.addNil 50 5).alloc (.cells #[.slice none 0 0, vi 0] 48)
  have HB := Lib.hid hB
  clear h hB
  go_enter Try.func10, Try.ntmps10
  go_wp2
  generalize w.alloc (.cells #[.slice none 0 0, vi 0] 48) = wb at *
  generalize w.heap.size = q at *
  go_loopw [6] (fun i wr => ∃ k : Nat, k ≤ n ∧ i = vi k ∧ ∃ v, Sat w0 (refB q v 0 * (sl 50 5 v k (rflat (rnewL first k)) * F)) wr) (fun i _ => n - (intOf i).toNat)
  case atStart => exact ⟨0, Nat.zero_le _, rfl, _, HB.out⟩
  case round =>
    obtain ⟨k, hk, rfl, v, hS⟩ := hrel
    obtain ⟨ao, cap, rfl⟩ := hS.pull2.rd.len
    by_cases hlt : k < n
    · have c0 := hS.cell 0 rfl
      have c1 := hS.cell 1 rfl
      have f0 := hS.free 0
      have HS := Lib.hid hS
      have hw : IntKind.i64.wrap (-1 - (k : Int)) = -1 - (k : Int) := IntWalk.i64_in _ (by omega)
      clear hS
      go_wp2_with (at_builtin; refine wpList_append_sl Erp rfl (.tmp 18) (.tmp 23) rfl rfl (HS.out.pull2.alloc' _) (by rfl) (Rd.one5 _ _ (vu first) (.bool false) (.bool false) (vi 0) (.int .i64 (-1 - (k : Int))) rfl) (by simp [Value.oneCell']) (by unfold maxLen; omega) (by omega) ?_; intro ao2 cap2 w3 hS2; have d0 := hS2.pull2.cell 0 rfl; have g0 := hS2.pull2.free 0; have H3 := Lib.hid hS2; clear hS2)
      go_roundw
      case rel =>
        refine ⟨k + 1, by omega, by go_num, .slice ao2 (k + 1) cap2, ?_⟩
        refine (H3.out.pull2.store 0 (.slice ao2 (k + 1) cap2)).cast ?_
        rw [rnewL_succ, show rflat (rnewL first k ++ [(⟨first, false, false, 0, -1 - (k : Int)⟩ : RP)]) = rflat (rnewL first k) ++ rflat [(⟨first, false, false, 0, -1 - (k : Int)⟩ : RP)] from List.flatMap_append]
        rfl
      case measure => simp [intOf]; omega
    · obtain rfl : k = n := by omega
      have HS := Lib.hid hS
      clear hS
      go_wp2
      go_ret
      refine ⟨q, rfl, rshut (v := .slice ao k cap) (HS.out.cast ?_)⟩
      rw [refL, rnewL_len]
end
end Go.Proofs.Ytjealmaddjepnaa.Ar
