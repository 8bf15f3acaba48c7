/-
  Package num: Count, With, Mask. No statement is proved here.
-/
import Derived.Test.YtjgemfgneiaabaaMg2
import Derived.Lib.BitFns
import Derived.Test.YtjgemfgneiaabaaGq4
namespace Go.Proofs.Ytjgemfgneiaabaa.Nu
open Go.RowKit Rq
set_option linter.unusedVariables false
set_option linter.unusedSimpArgs false

set_option maxRecDepth 100000 in
theorem ones8 (s : Nat) (hs : s < 256) (w : World) : Calls Try.prog 73 #[.int .u8 s] w fun e w' => e = .returned (vi (Lib.onesCount s)) ∧ w = w' := by
  have e := Lib.pop8_eq ⟨s, hs⟩
  have l := Lib.onesCount_le8 ⟨s, hs⟩
  dsimp only at e l
  have h : wrap64 (Lib.pop8 (s : Int)) = (Lib.onesCount s : Int) := by rw [IntWalk.wrap64_in _ (by omega), e]
  have h0 : (0 : Int) ≤ s := by omega
  have h1 : (s : Int) ≤ 255 := by omega
  have H := Lib.hid h
  clear h e l
  go_enter Try.func73, Try.ntmps73
  go_wp2
  go_ret
  exact ⟨congrArg (fun x => Ending.returned (.int .i64 x)) H.out, rfl⟩
theorem num_count (s : Nat) (hs : s < 256) (w : World) : Calls Try.prog 57 #[.int .u8 s] w fun e w' => e = .returned (vi (Lib.onesCount s)) ∧ w = w' := by
  have H := Lib.hid (ones8 s hs w)
  go_enter Try.func57, Try.ntmps57
  go_wp2_with (go_at_call 73; refine H.out.mono ?_; rintro e w' ⟨rfl, rfl⟩)
  go_ret
  exact ⟨rfl, rfl⟩
def maskN (k : Nat) : Nat := 2 ^ k - 1
theorem mask_or : ∀ k : Fin 8, bits BinOp.or IntKind.u8 (maskN k.val : Int) ((2 ^ k.val : Nat) : Int) = (maskN (k.val + 1) : Int) := by decide +kernel
theorem mask_and : ∀ (s : Fin 256) (k : Fin 9), bits BinOp.and IntKind.u8 (s.val : Int) (maskN k.val : Int) = ((s.val &&& maskN k.val : Nat) : Int) := by decide +kernel
theorem mask_has : ∀ (k : Fin 9) (i : Fin 8) (s : Fin 256), (s.val &&& maskN k.val).testBit i.val = (s.val.testBit i.val && decide (i.val < k.val)) := by decide +kernel
theorem num_with (k : Nat) (hk : k < 8) (w : World) : Calls Try.prog 59 #[.int .u8 (maskN k), vi k] w fun e w' => e = .returned (.int .u8 (maskN (k + 1))) ∧ w = w' := by
  have H := Lib.hid (bit_in k (by omega) w)
  have hor := mask_or ⟨k, hk⟩
  dsimp only at hor
  generalize ((2 ^ k : Nat) : Int) = b at *
  generalize (maskN k : Int) = m at *
  generalize (maskN (k + 1) : Int) = m' at *
  go_enter Try.func59, Try.ntmps59
  go_wp2_with (go_at_call 55; refine H.out.mono ?_; rintro e w' ⟨rfl, rfl⟩)
  go_ret
  exact ⟨by rw [← hor]; rfl, rfl⟩
theorem num_mask (n : Nat) (hn : n ≤ 8) (w : World) : Calls Try.prog 26 #[vi n] w fun e w' => e = .returned (.int .u8 (maskN n)) ∧ w = w' := by
  have h1 : ¬ (n : Int) < 0 := by omega
  have h2 : ¬ (8 : Int) < (n : Int) := by omega
  have h3 : max (n : Int) 0 = n := by omega
  have h4 : min (n : Int) 8 = n := by omega
  go_enter Try.func26, Try.ntmps26
  go_wp2
  go_loopw [8, 3] (fun i m wr => ∃ k : Nat, k ≤ n ∧ i = vi k ∧ m = .int .u8 (maskN k) ∧ w = wr) (fun i _ _ => n - (intOf i).toNat)
  case atStart => exact ⟨0, Nat.zero_le _, rfl, rfl, rfl⟩
  case round =>
    obtain ⟨k, hk, rfl, rfl, rfl⟩ := hrel
    by_cases hlt : k < n
    · have hki : (k : Int) < (n : Int) := by omega
      have HW := Lib.hid (num_with k (by omega) w)
      obtain ⟨m', hm⟩ : ∃ m' : Int, (maskN (k + 1) : Int) = m' := ⟨_, rfl⟩
      rw [hm] at HW
      have HM := Lib.hid (show Value.int .u8 m' = .int .u8 (maskN (k + 1)) by rw [hm])
      clear hm
      go_wp2_with (go_at_call 59; refine HW.out.mono ?_; rintro e w' ⟨rfl, rfl⟩)
      go_roundw
      case rel => exact ⟨k + 1, by omega, by go_num, HM.out, by trivial⟩
      case measure => simp [intOf]; omega
    · obtain rfl : k = n := by omega
      go_wp2
      go_ret
      exact ⟨rfl, rfl⟩

end Go.Proofs.Ytjgemfgneiaabaa.Nu

namespace Go.Proofs.Ytjgemfgneiaabaa.Nu
open Go.RowKit Rq Gq
attribute [local go_sem] Oper.semAt_some
set_option linter.unusedVariables false
set_option linter.unusedSimpArgs false

section
variable {w0 w : World} {F : Hp} {s : Nat}
abbrev bu (b s : Nat) : Hp := pc b 5 [.int .u8 s]
theorem num_all (h : Sat w0 F w) : Calls Try.prog 58 #[.int .u8 s] w fun e w' => ∃ bx, e = .returned (.func (.func 74) #[] #[vp bx]) ∧ Sat w0 (bu bx s * F) w' := by
  have H := Lib.hid (show Sat w0 (bu w.heap.size s * F) (w.alloc (.cells #[.int .u8 s] 5)) from h.alloc _)
  clear h
  go_enter Try.func58, Try.ntmps58
  go_wp2
  go_ret
  exact ⟨_, rfl, H.out⟩
set_option maxRecDepth 100000 in
set_option maxHeartbeats 2000000 in
theorem num_all1 (n : Nat) (hn : 1 ≤ n) (hs : s < 256) (H : Nat → Hp) (S : Hp) (bx l : Nat)
    (hK : ∀ (k : Nat) W (F : Hp), k < 8 → hasB s k = false → Sat w0 (H k * F) W → Sat w0 (H (k + 1) * F) W)
    (hY : ∀ (k : Nat) W (F : Hp), k < 8 → hasB s k = true → Sat w0 (bu bx s * (H k * F)) W → YieldAt Fence.wide (n - 1) Try.prog l #[vi k] W fun e W' => (e = .returned (.bool true) ∧ Sat w0 (bu bx s * (H (k + 1) * F)) W') ∨ (e = .returned (.bool false) ∧ Sat w0 (S * F) W'))
    (h0 : Sat w0 (bu bx s * H 0) w) :
    CallsIn Fence.wide n Try.prog 74 #[.func (.yield l) #[] #[], vp bx] w fun e W' => (∃ v, e = .returned v) ∧ (Sat w0 (bu bx s * H 8) W' ∨ Sat w0 S W') := by
  have HY := Lib.hid hY
  have HK := Lib.hid hK
  have HS0 := Lib.hid h0
  clear hY hK h0
  refine callsIn_of_wp Try.func74 rfl trivial ?_ rfl
  simp only [Try.ntmps74, List.size_toArray, List.length_cons, List.length_nil, Nat.reduceAdd, Nat.reduceSub, Array.replicate_succ, Array.replicate_zero, List.push_toArray, List.append_toArray, List.nil_append, List.cons_append]
  gi_wp2
  gi_loopw [4] (fun i wr => ∃ k : Nat, k ≤ 8 ∧ i = vi k ∧ Sat w0 (bu bx s * H k) wr) (fun i _ => 8 - (intOf i).toNat)
  case atStart => exact ⟨0, by omega, rfl, HS0.out⟩
  case round =>
    obtain ⟨k, hk, rfl, hS⟩ := hrel
    clear HS0
    by_cases hlt : k < 8
    · have hki : (k : Int) < 8 := by omega
      have c0 := hS.cell 0 rfl
      have hh := num_has s hs (k : Int) wr
      obtain ⟨t, ht⟩ : ∃ t, hasB s (k : Int) = t := ⟨_, rfl⟩
      rw [ht] at hh
      have HH := Lib.hid hh
      clear hh
      cases t with
      | false =>
        have H9 := Lib.hid hS
        have HT := Lib.hid ht
        clear hS ht hlt
        gi_wp2_with (refine ⟨trivial, ?_⟩; gi_at_call 23; refine (callsIn_wide.2 HH.out).mono ?_; rintro e w' ⟨rfl, rfl⟩)
        refine ⟨fun _ h => (by cases h), ?_⟩
        gi_wp2
        go_roundw
        case rel => exact ⟨k + 1, by omega, by go_num, (HK.out k _ (bu bx s) (by omega) HT.out H9.out.swap).swap⟩
        case measure => simp [intOf]; omega
      | true =>
        have hR := HY.out k wr emp hlt ht (hS.cast (by rw [sep_emp]))
        obtain ⟨fn2, tmps2, assign2, body2, hy, hR⟩ := hR
        have HR2 := Lib.hid hR
        clear hR hS ht hlt
        gi_wp2_with (refine ⟨trivial, ?_⟩; gi_at_call 23; refine (callsIn_wide.2 HH.out).mono ?_; rintro e w' ⟨rfl, rfl⟩)
        refine HR2.out.mono ?_
        rintro e W3 (⟨rfl, hS3⟩ | ⟨rfl, hS3⟩)
        · have HT := Lib.hid (hS3.cast (show _ = bu bx s * H (k + 1) by rw [sep_emp]))
          clear hS3 HR2 hy
          gi_wp2
          go_roundw
          case rel => exact ⟨k + 1, by omega, by go_num, HT.out⟩
          case measure => simp [intOf]; omega
        · have HT := Lib.hid (hS3.cast (sep_emp S))
          clear hS3 HR2 hy
          gi_wp2
          refine bodyPost_ret (results_none rfl _ _ _) rfl ?_
          exact ⟨⟨_, rfl⟩, .inr HT.out⟩
    · obtain rfl : k = 8 := by omega
      have HT := Lib.hid hS
      clear hS
      gi_wp2
      go_end0
      exact ⟨⟨_, rfl⟩, .inl HT.out⟩
end
end Go.Proofs.Ytjgemfgneiaabaa.Nu
