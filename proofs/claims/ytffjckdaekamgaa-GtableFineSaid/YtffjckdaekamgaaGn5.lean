/-
  Chapter 16: GtableFine, the walk. No statement is proved here.
-/
import Derived.Test.YtffjckdaekamgaaGn4
namespace Go.Proofs.Ytffjckdaekamgaa.Gt
open Go.RowKit Ag
set_option linter.unusedVariables false
set_option linter.unusedSimpArgs false

set_option maxRecDepth 100000 in
set_option maxHeartbeats 16000000 in
theorem fine_walk (w0 : World) (sz : Int) (v : Value) (len : Nat) (A : Nat → Value) (hA : ArgS w0 24 actQ v len A) :
    Calls Try.prog 4 #[vi sz, v] w0 (TrueB w0) := by
  have hv : ∃ ao cap, v = .slice ao len cap := by
    rcases hA.form with ⟨rfl, ao, cap, rfl⟩ | ⟨b, off, cap, rfl, _⟩
    · exact ⟨_, _, rfl⟩
    · exact ⟨_, _, rfl⟩
  obtain ⟨ao, acap, rfl⟩ := hv
  have HA := Lib.hid hA
  have H0 := Lib.hid (Sat.start w0)
  clear hA
  by_cases hsz : sz < 1 ∨ 64 < sz
  · have HB := Lib.hid (begin_no sz hsz w0)
    have hsz' : sz < 1 ∨ (¬ sz < 1 ∧ 64 < sz) := by omega
    clear hsz
    rcases hsz' with hs | ⟨hs, hs2⟩
    all_goals
      go_enter Try.func4, Try.ntmps4
      go_wp2_with (first
        | (go_at_call 12; (with_reducible refine HB.out.mono ?_); rintro e w1 ⟨rfl, rfl⟩)
        | (go_at_call 11; (with_reducible refine (known16 H0.out).mono ?_); rintro e w9 ⟨rfl, hS9⟩; have H9 := Lib.hid hS9; clear hS9))
      go_ret
      exact ⟨rfl, H9.out.below⟩
  · obtain ⟨n, rfl⟩ := Int.eq_ofNat_of_zero_le (show 0 ≤ sz by omega)
    have hn : 1 ≤ n := by omega
    have hn' : n ≤ 64 := by omega
    have HB := Lib.hid (begin_ (Sat.start w0) n hn hn')
    have HInv := Lib.hid (Inv.new n hn')
    have hs1 : ¬ (n : Int) < 1 := by omega
    have hs2 : ¬ (64 : Int) < (n : Int) := by omega
    clear hsz
    by_cases hl : 100 < len
    · have hli : (100 : Int) < (len : Int) := by omega
      go_enter Try.func4, Try.ntmps4
      go_wp2_with (first
        | (go_at_call 12; (with_reducible refine HB.out.mono ?_); rintro e w1 ⟨g, h, p, q, b, cap, vF, rfl, hS1⟩; have H0 := Lib.hid hS1; clear hS1)
        | (go_at_call 11; (with_reducible refine (known16 H0.out).mono ?_); rintro e w9 ⟨rfl, hS9⟩; have H9 := Lib.hid hS9; clear hS9))
      go_ret
      exact ⟨rfl, H9.out.below⟩
    · have hli : ¬ (100 : Int) < (len : Int) := by omega
      go_enter Try.func4, Try.ntmps4
      go_wp2_with (go_at_call 12; (with_reducible refine HB.out.mono ?_); rintro e w1 ⟨g, h, p, q, b, cap, vF, rfl, hS1⟩; have H1 := Lib.hid hS1; clear hS1)
      go_loopw [6] (fun ix wr => ∃ (k : Nat) (ps : List Pl) (free : List Nat) (rl : List (Int × Int)) (vF vR : Value), k ≤ len ∧ ix = vi k ∧ Inv n k ps free ∧ rl.length ≤ k ∧ Sat w0 (gmC g h p q b cap vF vR ps free rl emp) wr) (fun ix _ => len - (intOf ix).toNat)
      case atStart => exact ⟨0, _, _, [], vF, _, Nat.zero_le _, rfl, HInv.out, by simp, H1.out⟩
      case round =>
        clear H1 HB HInv
        obtain ⟨k, ps, free, rl, vF, vR, hk, rfl, hI, hrl, hS⟩ := hrel
        by_cases hlt : k < len
        · have hki : (k : Int) < (len : Int) := by omega
          obtain ⟨ab, aoff, rfl, kind, ri, rg, at_, x, st, hat, hx, hca⟩ := a_act HA.out hlt
          have HLd := Lib.hid (hca _ _ hS)
          have HDo := Lib.hid (do_any hI (by omega) hS (by omega) ri rg at_ hat x hx st kind)
          clear hS hca hI hat hx
          go_wp2_with (first
            | (refine wpList_load_mid rfl 41 _ rfl ab (aoff + k * 24) (by rfl) (actC kind ri rg at_ x st) _ HLd.out Try.underlying41 rfl (show (Try.prog.info? 41).map (·.size) = some (actC kind ri rg at_ x st).length by rw [actC_len]; kernel_rfl) ?_)
            | (go_at_call 13; ((with_reducible refine HDo.out.mono ?_); rintro e w2 ⟨ps2, free2, rl2, vF2, vR2, rfl, hI2, hrl2, hS2⟩; have d0 := hS2.cell 0 rfl; have HAl := Lib.hid (gt_all (hS2.cast (show _ = gtB h p * (tblP p ps2 free2 * (pc g 47 [vp h, vp q, vR2] * (sl 25 2 vR2 rl2.length (frefs rl2) * refG q b cap vF2 ps2 free2 emp))) by first | ac_rfl | (unfold gmC; ac_rfl))) (by have := hI2.len; have := hI2.small; omega)); have HI2 := Lib.hid hI2; have hrl3 : rl2.length ≤ k + 1 := (by omega); clear hI2 hrl2 hS2))
            | (go_at_call 14; (with_reducible refine HAl.out.mono ?_); rintro e w3 ⟨vA, rfl, hS3⟩; obtain ⟨vo, vc, rfl⟩ := hS3.rd.len; have H3 := Lib.hid hS3; clear hS3))
          have HBook : Hid (∀ y ∈ Ag.seen ps2 ps2.length, mayP y.2.2 ∧ 0 ≤ y.2.2.v18) := Lib.hid fun y hy => by
            obtain ⟨a, ha, ht, _, e⟩ := seen_mem hy
            rw [e]
            exact HI2.out.may _ _ ha ht
          have hl64 : (Ag.seen ps2 ps2.length).length ≤ 64 := Nat.le_trans (Ag.seen_len ps2 _) (by have := HI2.out.len; have := HI2.out.small; omega)
          clear HAl HDo HLd
          generalize Ag.seen ps2 ps2.length = l at *
          obtain ⟨R, hRR⟩ : ∃ R, R = gtB h p * (tblP p ps2 free2 * (pc g 47 [vp h, vp q, vR2] * (sl 25 2 vR2 rl2.length (frefs rl2) * refG q b cap vF2 ps2 free2 emp))) := ⟨_, rfl⟩
          rw [← hRR] at H3
          have HRR := Lib.hid hRR
          clear hRR d0
          go_loopw [8] (fun ix wr => ∃ j : Nat, j ≤ l.length ∧ ix = vi j ∧ Sat w0 (sl 50 21 (.slice vo l.length vc) l.length (fpd l) * R) wr) (fun ix _ => l.length - (intOf ix).toNat)
          case atStart => exact ⟨0, Nat.zero_le _, rfl, H3.out⟩
          case round =>
            obtain ⟨j, hj, rfl, hS⟩ := hrel
            clear H3
            by_cases hjl : j < l.length
            · have hji : (j : Int) < (l.length : Int) := by omega
              obtain ⟨ga, rfl⟩ : ∃ ga, vo = some ⟨ga, 0, none⟩ := by
                rcases hS.slE.2 with ⟨_, h0, _⟩ | ⟨g', c', cur, hv, _⟩
                · omega
                · injection hv with h1 h2 h3
                  exact ⟨g', h1⟩
              obtain ⟨y, hy⟩ : ∃ y, l[j]? = some y := ⟨l[j], List.getElem?_eq_getElem hjl⟩
              obtain ⟨hm, h18⟩ := HBook.out y (List.mem_of_getElem? hy)
              have hrg : wr.rangeAt ga (j * 21 + 2) (elC y.2.2) := fun i u hu => by
                have e := hS.slCell (j * 21 + (2 + i)) (flat_get (f := pdC) (N := 21) (j := 2 + i) (fun _ => rfl) hy (v := u) (by rw [Nat.add_comm]; exact hu))
                rwa [← Nat.add_assoc] at e
              have HRg := Lib.hid hrg
              have HM := Lib.hid (r_may hS y.2.2 h18)
              rw [show mayB y.2.2 = true from decide_eq_true hm] at HM
              clear hS hrg hm h18
              go_wp2_with (first
                | (refine wpList_load_mid rfl 29 _ rfl ga (j * 21 + 2) (by rfl) (elC y.2.2) _ HRg.out Try.underlying29 rfl einfo ?_)
                | (go_at_call 7; (with_reducible refine HM.out.mono ?_); rintro e w5 ⟨rfl, hS5⟩; have H5 := Lib.hid hS5; clear hS5))
              go_roundw
              case rel => exact ⟨j + 1, by omega, by go_num, H5.out⟩
              case measure => (simp [intOf]; try omega)
            · obtain rfl : j = l.length := by omega
              have HS := Lib.hid hS
              clear hS
              go_wp2_with fail
              go_roundw
              case rel =>
                have h9 := HS.out.dropL
                rw [HRR.out] at h9
                exact ⟨k + 1, ps2, free2, rl2, vF2, vR2, by omega, by go_num, HI2.out, hrl3, h9.cast (by unfold gmC; ac_rfl)⟩
              case measure => (simp [intOf]; try omega)
        · obtain rfl : k = len := by omega
          have HS := Lib.hid hS
          clear hS hI
          go_wp2_with (go_at_call 11; (with_reducible refine (known16 HS.out).mono ?_); rintro e w9 ⟨rfl, hS9⟩; have H9 := Lib.hid hS9; clear hS9)
          go_ret
          exact ⟨rfl, H9.out.below⟩
theorem fine_row (w0 : World) (sz : Int) (_ : (Lit.int .i64 sz).wf = true) (v : Value) (len : Nat) (A : Nat → Value) (hA : ArgS w0 24 actQ v len A) : Calls Try.prog 4 #[vi sz, v] w0 (TrueB w0) := fine_walk w0 sz v len A hA
end Go.Proofs.Ytffjckdaekamgaa.Gt
