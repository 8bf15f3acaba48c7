/-
  Law 10: QuotaNext, the walk. No statement is proved here.
-/
import Derived.Test.YtfioghpnehfjhaaQx1
import Derived.Test.YtfioghpnehfjhaaQp4
import Derived.Test.YtfioghpnehfjhaaDl4
namespace Go.Proofs.Ytfioghpnehfjhaa.Dm
open Go.RowKit Ad
set_option linter.unusedVariables false

set_option maxRecDepth 100000 in
set_option maxHeartbeats 8000000 in
theorem next_walk (w0 : World) (cpu per : Int) (hc : 0 ≤ cpu) (v : Value) (len : Nat) (A : Nat → Int) (hA : ArgK w0 4 kC v len A) (n b : Int) (hn0 : 0 ≤ n) :
    Calls Try.prog 8 #[vu cpu, vu per, v, vu n, vu b] w0 (QTrue w0) := by
  have HMd := Lib.hid (made_ (Sat.start w0) cpu per hc v len A hA)
  have HN0 := Lib.hid hn0
  clear hA hc hn0
  go_enter Try.func8, Try.ntmps8
  go_wp2_with fail
  refine HMd.out.mono ?_
  rintro e w1 (⟨rfl, hS⟩ | ⟨d, p, q, vR, ps, m, hi, rfl, hS⟩)
  · have H1 := Lib.hid hS
    clear hS
    go_wp2_with (go_at_call 10; refine (known10 H1.out).mono ?_; rintro e w9 ⟨rfl, hS9⟩; have H9 := Lib.hid hS9; clear hS9)
    go_ret
    exact ⟨rfl, H9.out.below⟩
  · by_cases hbig : 1152921504606846976 < n
    · have H1 := Lib.hid hS
      clear hS hi
      go_wp2_with (go_at_call 10; refine (known10 H1.out).mono ?_; rintro e w9 ⟨rfl, hS9⟩; have H9 := Lib.hid hS9; clear hS9)
      go_ret
      exact ⟨rfl, H9.out.below⟩
    · have hn0 := HN0.out
      have hlen : (seen ps ps.length).length ≤ 4096 := Nat.le_trans (seen_len _ _) (by rw [hi.len]; omega)
      have hne := hi.seen_ne
      have hper := hi.seen_per
      have hps : ps.length ≤ 4096 := by rw [hi.len]; omega
      have hall := fun (h p : Nat) (fr : List Nat) (w : World) (F : Hp) (hh : Sat w0 (domB h p * (tblP p ps fr * F)) w) => dm_all hh hps
      generalize seen ps ps.length = l at *
      generalize newF 32 (32 - m) = fr at *
      have hno := nextOk hn0 hne (fun x hx => (hper x hx).1)
      have hnx := q_next_l n ⟨hn0, by omega⟩ l (hall d p fr) hper hlen hS
      rw [show decide (0 < l.length) = true from decide_eq_true (List.length_pos_iff.2 hne)] at hnx
      generalize minP (l.map (nxt n)) = M at *
      have HNx := Lib.hid hnx
      have HAll := Lib.hid hall
      have HP := Lib.hid (show ∀ x ∈ l, x.2.2.v4 ≠ 0 from fun x hx => by have := (hper x hx).1; omega)
      have hM := hno.more
      have hle : ¬ M ≤ n := by omega
      have hc0 : ¬ ((rsL M l).length : Int) = 0 := by have := hno.some_; omega
      have HNO := Lib.hid hno
      have HR1 := Lib.hid (fun (h p : Nat) (w : World) (F : Hp) (hh : Sat w0 (domB h p * (tblP p ps fr * F)) w) => q_reset_l M l (fun w h2 => hall h p fr w F h2) HP.out hlen hh)
      have HR2 := Lib.hid (fun (h p : Nat) (w : World) (F : Hp) (hh : Sat w0 (domB h p * (tblP p ps fr * F)) w) => q_reset_l b l (fun w h2 => hall h p fr w F h2) HP.out hlen hh)
      clear hS hi hne hper hps hall hnx hno hn0
      by_cases h1 : n < b
      · by_cases h2 : b < M
        · have HNone := Lib.hid (HNO.out.none_ b h1 h2)
          go_wp2_with (first
            | (go_at_call 20; (with_reducible refine HNx.out.mono ?_); rintro e w2 ⟨rfl, hS2⟩; have H2 := Lib.hid hS2; clear hS2)
            | (go_at_call 28; (with_reducible refine (dm_copy H2.out).mono ?_); rintro e w3 ⟨o, q2, rfl, hS3⟩; have H3 := Lib.hid hS3; clear hS3)
            | (go_at_call 15; (with_reducible refine (HR1.out o q2 _ _ H3.out).mono ?_); rintro e w4 ⟨v4, rfl, hS4⟩; obtain ⟨vo4, vc4, rfl⟩ := hS4.rd.len; have H4 := Lib.hid hS4.dropL.dropL.dropL; clear hS4)
            | (go_at_call 15; (with_reducible refine (HR2.out d p _ _ H4.out).mono ?_); rintro e w5 ⟨v5, rfl, hS5⟩; rw [HNone.out] at hS5; obtain ⟨vo5, vc5, rfl⟩ := hS5.rd.len; have H5 := Lib.hid hS5.dropL.dropL.dropL; clear hS5)
            | (go_at_call 10; (with_reducible refine (known10 H5.out).mono ?_); rintro e w9 ⟨rfl, hS9⟩; have H9 := Lib.hid hS9; clear hS9)
            )
          go_ret
          exact ⟨rfl, H9.out.below⟩
        · go_wp2_with (first
            | (go_at_call 20; (with_reducible refine HNx.out.mono ?_); rintro e w2 ⟨rfl, hS2⟩; have H2 := Lib.hid hS2; clear hS2)
            | (go_at_call 28; (with_reducible refine (dm_copy H2.out).mono ?_); rintro e w3 ⟨o, q2, rfl, hS3⟩; have H3 := Lib.hid hS3; clear hS3)
            | (go_at_call 15; (with_reducible refine (HR1.out o q2 _ _ H3.out).mono ?_); rintro e w4 ⟨v4, rfl, hS4⟩; obtain ⟨vo4, vc4, rfl⟩ := hS4.rd.len; have H4 := Lib.hid hS4.dropL.dropL.dropL; clear hS4)
            | (go_at_call 10; (with_reducible refine (known10 H4.out).mono ?_); rintro e w9 ⟨rfl, hS9⟩; have H9 := Lib.hid hS9; clear hS9)
            )
          go_ret
          exact ⟨rfl, H9.out.below⟩
      · go_wp2_with (first
          | (go_at_call 20; (with_reducible refine HNx.out.mono ?_); rintro e w2 ⟨rfl, hS2⟩; have H2 := Lib.hid hS2; clear hS2)
          | (go_at_call 28; (with_reducible refine (dm_copy H2.out).mono ?_); rintro e w3 ⟨o, q2, rfl, hS3⟩; have H3 := Lib.hid hS3; clear hS3)
          | (go_at_call 15; (with_reducible refine (HR1.out o q2 _ _ H3.out).mono ?_); rintro e w4 ⟨v4, rfl, hS4⟩; obtain ⟨vo4, vc4, rfl⟩ := hS4.rd.len; have H4 := Lib.hid hS4.dropL.dropL.dropL; clear hS4)
          | (go_at_call 10; (with_reducible refine (known10 H4.out).mono ?_); rintro e w9 ⟨rfl, hS9⟩; have H9 := Lib.hid hS9; clear hS9)
          )
        go_ret
        exact ⟨rfl, H9.out.below⟩
theorem next_row (w0 : World) (cpu : Int) (wc : (Lit.int .u64 cpu).wf = true) (per : Int) (_ : (Lit.int .u64 per).wf = true) (v : Value) (len : Nat) (A : Nat → Int) (hA : ArgK w0 4 kC v len A) (n : Int) (wn : (Lit.int .u64 n).wf = true) (b : Int) (_ : (Lit.int .u64 b).wf = true) :
    Calls Try.prog 8 #[vu cpu, vu per, v, vu n, vu b] w0 (QTrue w0) := by
  simp only [Lit.wf, Bool.and_eq_true, decide_eq_true_eq] at wc wn
  exact next_walk w0 cpu per wc.1 v len A hA n b wn.1
end Go.Proofs.Ytfioghpnehfjhaa.Dm
