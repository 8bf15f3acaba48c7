/-
  Chapter 16: GtablePlays, the walk. No statement is proved here.
-/
import Derived.Test.YtffjckdaekamgaaGo7
namespace Go.Proofs.Ytffjckdaekamgaa.Gt
open Go.RowKit Ag
set_option linter.unusedVariables false
set_option linter.unusedSimpArgs false

set_option maxRecDepth 100000 in
set_option maxHeartbeats 16000000 in
theorem plays_walk (w0 : World) (sz : Int) (v : Value) (len : Nat) (A : Nat → Value) (hA : ArgS w0 24 actQ v len A) :
    Calls Try.prog 5 #[vi sz, v] w0 (TrueB w0) := by
  have hv : ∃ ao cap, v = .slice ao len cap := by
    rcases hA.form with ⟨rfl, ao, cap, rfl⟩ | ⟨b, off, cap, rfl, _⟩
    · exact ⟨_, _, rfl⟩
    · exact ⟨_, _, rfl⟩
  obtain ⟨ao, acap, rfl⟩ := hv
  have HA := Lib.hid hA
  have H0 := Lib.hid (Sat.start w0)
  clear hA
  by_cases hsz : sz < 1 ∨ 64 < sz
  · have HB := Lib.hid (gt_new_no sz hsz w0)
    have hsz' : sz < 1 ∨ (¬ sz < 1 ∧ 64 < sz) := by omega
    clear hsz
    rcases hsz' with hs | ⟨hs, hs2⟩
    all_goals
      go_enter Try.func5, Try.ntmps5
      go_wp2_with (first
        | (go_at_call 15; (with_reducible refine HB.out.mono ?_); rintro e w1 ⟨rfl, rfl⟩)
        | (go_at_call 11; (with_reducible refine (known16 H0.out).mono ?_); rintro e w9 ⟨rfl, hS9⟩; have H9 := Lib.hid hS9; clear hS9))
      go_ret
      exact ⟨rfl, H9.out.below⟩
  · obtain ⟨n, rfl⟩ := Int.eq_ofNat_of_zero_le (show 0 ≤ sz by omega)
    have hn : 1 ≤ n := by omega
    have hn' : n ≤ 64 := by omega
    have HB := Lib.hid (begin_ (Sat.start w0) n hn hn')
    have HInv := Lib.hid (Inv.new n hn')
    have hs1 : ¬ (n : Int) < 1 := by omega
    have hs2 : ¬ (64 : Int) < (n : Int) := by omega
    clear hsz
    by_cases hl : 100 < len
    · have hli : (100 : Int) < (len : Int) := by omega
      go_enter Try.func5, Try.ntmps5
      go_wp2_with (first
        | (go_at_call 12; (with_reducible refine HB.out.mono ?_); rintro e w1 ⟨g, h, p, q, b, cap, vF, rfl, hS1⟩; have H0 := Lib.hid hS1; clear hS1)
        | (go_at_call 11; (with_reducible refine (known16 H0.out).mono ?_); rintro e w9 ⟨rfl, hS9⟩; have H9 := Lib.hid hS9; clear hS9))
      go_ret
      exact ⟨rfl, H9.out.below⟩
    · have hli : ¬ (100 : Int) < (len : Int) := by omega
      go_enter Try.func5, Try.ntmps5
      go_wp2_with (go_at_call 12; (with_reducible refine HB.out.mono ?_); rintro e w1 ⟨g, h, p, q, b, cap, vF, rfl, hS1⟩; have H1 := Lib.hid hS1; clear hS1)
      go_loopw [8] (fun ix wr => ∃ (k : Nat) (ps : List Pl) (free : List Nat) (rl : List (Int × Int)) (vF vR : Value), k ≤ len ∧ ix = vi k ∧ Inv n k ps free ∧ rl.length ≤ k ∧ Sat w0 (gmC g h p q b cap vF vR ps free rl emp) wr) (fun ix _ => len - (intOf ix).toNat)
      case atStart => exact ⟨0, _, _, [], vF, _, Nat.zero_le _, rfl, HInv.out, by simp, H1.out⟩
      case round =>
        clear H1 HB HInv
        obtain ⟨k, ps, free, rl, vF, vR, hk, rfl, hI, hrl, hS⟩ := hrel
        by_cases hlt : k < len
        · have hki : (k : Int) < (len : Int) := by omega
          obtain ⟨ab, aoff, rfl, kind, ri, rg, at_, x, st, hat, hx, hca⟩ := a_act HA.out hlt
          have HLd := Lib.hid (hca _ _ hS)
          have HDo := Lib.hid (do_any hI (by omega) hS (by omega) ri rg at_ hat x hx st kind)
          clear hS hca hI hat hx
          go_wp2_with (first
            | (refine wpList_load_mid rfl 41 _ rfl ab (aoff + k * 24) (by rfl) (actC kind ri rg at_ x st) _ HLd.out Try.underlying41 rfl (show (Try.prog.info? 41).map (·.size) = some (actC kind ri rg at_ x st).length by rw [actC_len]; kernel_rfl) ?_)
            | (go_at_call 13; (with_reducible refine HDo.out.mono ?_); rintro e w2 ⟨ps2, free2, rl2, vF2, vR2, rfl, hI2, hrl2, hS2⟩; have HSa := Lib.hid (same_ hI2 hn hS2); have HI2 := Lib.hid hI2; have hrl3 : rl2.length ≤ k + 1 := (by omega); clear hI2 hrl2 hS2)
            | (go_at_call 16; (with_reducible refine HSa.out.mono ?_); rintro e w3 ⟨rfl, hS3⟩; have H3 := Lib.hid hS3; clear hS3))
          go_roundw
          case rel => exact ⟨k + 1, ps2, free2, rl2, vF2, vR2, by omega, by go_num, HI2.out, hrl3, H3.out⟩
          case measure => (simp [intOf]; try omega)
        · obtain rfl : k = len := by omega
          have HS := Lib.hid hS
          clear hS hI
          go_wp2_with (go_at_call 11; (with_reducible refine (known16 HS.out).mono ?_); rintro e w9 ⟨rfl, hS9⟩; have H9 := Lib.hid hS9; clear hS9)
          go_ret
          exact ⟨rfl, H9.out.below⟩
theorem plays_row (w0 : World) (sz : Int) (_ : (Lit.int .i64 sz).wf = true) (v : Value) (len : Nat) (A : Nat → Value) (hA : ArgS w0 24 actQ v len A) : Calls Try.prog 5 #[vi sz, v] w0 (TrueB w0) := plays_walk w0 sz v len A hA
end Go.Proofs.Ytffjckdaekamgaa.Gt
