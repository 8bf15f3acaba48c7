/-
  Chapter 16: do as one; begin; an act as an argument. No statement is proved here.
-/
import Derived.Test.YtffjckdaekamgaaGn3a
import Derived.Test.YtffjckdaekamgaaGn3b
import Derived.Test.YtffjckdaekamgaaGn3c
import Derived.Test.YtffjckdaekamgaaGn3d
import Derived.Test.YtffjckdaekamgaaGn3e
import Derived.Test.YtffjckdaekamgaaGn3f
import Derived.Test.YtffjckdaekamgaaGn3g
import Derived.Test.YtffjckdaekamgaaMgA
namespace Go.Proofs.Ytffjckdaekamgaa.Gt
open Go.RowKit Ag
set_option linter.unusedVariables false
set_option linter.unusedSimpArgs false

section
variable {w0 w : World} {F : Hp} {n T g h p q b cap : Nat} {vF vR : Value} {ps : List Pl} {free : List Nat} {rl : List (Int × Int)}
theorem do_any (hI : Inv n T ps free) (hT : T ≤ 1000) (hS : Sat w0 (gmC g h p q b cap vF vR ps free rl F) w) (hrl : rl.length ≤ 1000) (ri rg at_ : Int) (hat : at_ ≤ 9223372036854775807) (x : El) (hx : 0 ≤ x.v18) (st : Int) (kind : Int) : Calls Try.prog 13 #[vp g, .agg (actC kind ri rg at_ x st).toArray] w (DoPost w0 n T g h p q b cap rl F) := by
  by_cases k1 : kind = 1
  · subst k1; exact do_make hI hT hS hrl ri rg at_ hat x hx st
  by_cases k2 : kind = 2
  · subst k2; exact do_get hI hT hS hrl ri rg at_ hat x hx st
  by_cases k3 : kind = 3
  · subst k3; exact do_set hI hT hS hrl ri rg at_ hat x hx st
  by_cases k4 : kind = 4
  · subst k4; exact do_turn hI hT hS hrl ri rg at_ hat x hx st
  by_cases k5 : kind = 5
  · subst k5; exact do_drop hI hT hS hrl ri rg at_ hat x hx st
  by_cases k6 : kind = 6
  · subst k6; exact do_set6 hI hT hS hrl ri rg at_ hat x hx st
  exact do_other hI hT hS hrl ri rg at_ hat x hx st kind ⟨k1, k2, k3, k4, k5, k6⟩
set_option maxRecDepth 100000 in
set_option maxHeartbeats 8000000 in
theorem begin_ (hS : Sat w0 F w) (n : Nat) (hn : 1 ≤ n) (hn' : n ≤ 64) : Calls Try.prog 12 #[vi n] w fun e w' => ∃ (g h p q b cap : Nat) (vF : Value), e = .returned (vp g) ∧ Sat w0 (gmC g h p q b cap vF (.slice none 0 0) (List.replicate n ⟨1, false, false, ez⟩) (newF n n) [] F) w' := by
  have HN := Lib.hid (gt_new n hn hn' hS)
  clear hS
  go_enter Try.func12, Try.ntmps12
  go_wp2_with (first
    | (go_at_call 15; (with_reducible refine HN.out.mono ?_); rintro e w1 ⟨h, p, rfl, hS1⟩; have HR := Lib.hid (rt_new n hn hn' hS1); clear hS1)
    | (go_at_call 21; (with_reducible refine HR.out.mono ?_); rintro e w2 ⟨q, b, cap, vF, rfl, hS2⟩; have H2 := Lib.hid hS2; clear hS2))
  go_ret
  have h3 : Sat w0 (pc w2.heap.size 47 [vp h, vp q, .slice none 0 0] * _) _ := (H2.out.addNil 25 2).alloc (.cells #[vp h, vp q, .slice none 0 0] 47)
  refine ⟨w2.heap.size, h, p, q, b, cap, vF, rfl, ?_⟩
  unfold gmC refG rtL rtB
  rw [List.length_replicate, newF_len]
  exact h3.cast (by
    show _ = pc w2.heap.size 47 [vp h, vp q, .slice none 0 0] * (sl 25 2 (.slice none 0 0) 0 [] * _)
    simp only [rtB, p1]
    ac_rfl)
theorem begin_no (n : Int) (hn : n < 1 ∨ 64 < n) (w : World) : Calls Try.prog 12 #[vi n] w fun e w' => e = .returned (.pointer none) ∧ w = w' := by
  have HN := Lib.hid (gt_new_no n hn w)
  clear hn
  go_enter Try.func12, Try.ntmps12
  go_wp2_with (go_at_call 15; (with_reducible refine HN.out.mono ?_); rintro e w1 ⟨rfl, rfl⟩)
  go_ret
  exact ⟨rfl, rfl⟩
end
open Go.ChangeShapes Go.WideShapes Go.Deep
abbrev ksA : List CK := [.int .i64, .int .i64, .int .u64, .int .i64, .int .i64, .bool, .int .i64, .int .u64, .int .i64, .int .u64, .int .u8, .int .i64, .int .i64, .int .u64, .int .u64, .int .u64, .int .u64, .int .u64, .int .u64, .int .u64, .int .u64, .int .i64, .int .u64, .int .i64]
section
variable {H : Type} {enc : TypeId × Value → H} {w : World} {base : Nat} {spare : Nat → Bool} {held : Bool}
theorem rowAct : RowT enc Try.prog w base spare held 41 ksA :=
  rowT_struct Try.underlying41 (by kernel_rfl) (by
    intro i f hi
    match i, hi with
    | 0, hi => cases hi; exact ⟨1, by kernel_rfl, rowT_int Try.underlying3⟩
    | 1, hi => cases hi; exact ⟨2, by kernel_rfl, rowRef⟩
    | 2, hi => cases hi; exact ⟨1, by kernel_rfl, rowT_int Try.underlying3⟩
    | 3, hi => cases hi; exact ⟨19, by kernel_rfl, rowG⟩
    | 4, hi => cases hi; exact ⟨1, by kernel_rfl, rowT_int Try.underlying22⟩
    | i + 5, hi => exact absurd (Array.getElem?_eq_some_iff.1 hi).1 (by simp)) (by
    intro j hj
    match j, hj with
    | 0, _ => exact ⟨0, _, 1, rfl, by kernel_rfl, by decide, by decide⟩
    | 1, _ => exact ⟨1, _, 2, rfl, by kernel_rfl, by decide, by decide⟩
    | 2, _ => exact ⟨1, _, 2, rfl, by kernel_rfl, by decide, by decide⟩
    | 3, _ => exact ⟨2, _, 1, rfl, by kernel_rfl, by decide, by decide⟩
    | 4, _ => exact ⟨3, _, 19, rfl, by kernel_rfl, by decide, by decide⟩
    | 5, _ => exact ⟨3, _, 19, rfl, by kernel_rfl, by decide, by decide⟩
    | 6, _ => exact ⟨3, _, 19, rfl, by kernel_rfl, by decide, by decide⟩
    | 7, _ => exact ⟨3, _, 19, rfl, by kernel_rfl, by decide, by decide⟩
    | 8, _ => exact ⟨3, _, 19, rfl, by kernel_rfl, by decide, by decide⟩
    | 9, _ => exact ⟨3, _, 19, rfl, by kernel_rfl, by decide, by decide⟩
    | 10, _ => exact ⟨3, _, 19, rfl, by kernel_rfl, by decide, by decide⟩
    | 11, _ => exact ⟨3, _, 19, rfl, by kernel_rfl, by decide, by decide⟩
    | 12, _ => exact ⟨3, _, 19, rfl, by kernel_rfl, by decide, by decide⟩
    | 13, _ => exact ⟨3, _, 19, rfl, by kernel_rfl, by decide, by decide⟩
    | 14, _ => exact ⟨3, _, 19, rfl, by kernel_rfl, by decide, by decide⟩
    | 15, _ => exact ⟨3, _, 19, rfl, by kernel_rfl, by decide, by decide⟩
    | 16, _ => exact ⟨3, _, 19, rfl, by kernel_rfl, by decide, by decide⟩
    | 17, _ => exact ⟨3, _, 19, rfl, by kernel_rfl, by decide, by decide⟩
    | 18, _ => exact ⟨3, _, 19, rfl, by kernel_rfl, by decide, by decide⟩
    | 19, _ => exact ⟨3, _, 19, rfl, by kernel_rfl, by decide, by decide⟩
    | 20, _ => exact ⟨3, _, 19, rfl, by kernel_rfl, by decide, by decide⟩
    | 21, _ => exact ⟨3, _, 19, rfl, by kernel_rfl, by decide, by decide⟩
    | 22, _ => exact ⟨3, _, 19, rfl, by kernel_rfl, by decide, by decide⟩
    | 23, _ => exact ⟨4, _, 1, rfl, by kernel_rfl, by decide, by decide⟩
    | j + 24, hj => exact absurd hj (by simp))
end
/-- What a cell of an act may be. -/
abbrev actQ (j : Nat) (u : Value) : Prop := ∃ c : CK, ksA[j]? = some c ∧ IsCK c u
/-- An act that came in. -/
theorem a_act {w0 : World} {ao : Option Addr} {cap len : Nat} {A : Nat → Value} (hA : ArgS w0 24 actQ (.slice ao len cap) len A) {k : Nat} (hk : k < len) :
    ∃ ab aoff, ao = some ⟨ab, aoff, none⟩ ∧ ∃ (kind ri rg at_ : Int) (x : El) (st : Int), at_ ≤ 9223372036854775807 ∧ 0 ≤ x.v18 ∧ ∀ (w : World) (H : Hp), Sat w0 H w → w.rangeAt ab (aoff + k * 24) (actC kind ri rg at_ x st) := by
  rcases hA.form with ⟨h0, _⟩ | ⟨b, off, c, hv, hb, hcell⟩
  · omega
  · injection hv with h1 h2 h3
    subst h1
    refine ⟨b, off, rfl, ?_⟩
    have hq := hA.each k hk
    have hint : ∀ j, j < 24 → ∀ kd : IntKind, ksA[j]? = some (CK.int kd) → ∃ z, A (k * 24 + j) = .int kd z ∧ (Lit.int kd z).wf = true := fun j hj kd hkd => by
      obtain ⟨c, hc, hu⟩ := hq j hj
      rw [hkd] at hc
      injection hc with hc
      subst hc
      exact hu
    obtain ⟨kind, e0, _⟩ := hint 0 (by omega) .i64 rfl
    obtain ⟨ri, e1, _⟩ := hint 1 (by omega) .i64 rfl
    obtain ⟨rg, e2, _⟩ := hint 2 (by omega) .u64 rfl
    obtain ⟨at_, e3, w3⟩ := hint 3 (by omega) .i64 rfl
    obtain ⟨st, e23, _⟩ := hint 23 (by omega) .i64 rfl
    have hat : at_ ≤ 9223372036854775807 := by
      simp only [Lit.wf, Bool.and_eq_true, decide_eq_true_eq] at w3
      have := w3.2
      simpa using this
    obtain ⟨x, hx, hx0⟩ := open_el (cs := (List.range 19).map fun j => A (k * 24 + (4 + j))) ⟨by simp, fun j c hj => by
      have hj19 : j < 19 := (List.getElem?_eq_some_iff.1 hj).1
      refine ⟨A (k * 24 + (4 + j)), by rw [List.getElem?_map, List.getElem?_range hj19]; rfl, ?_⟩
      obtain ⟨c', hc', hu⟩ := hq (4 + j) (by omega)
      have : ksA[4 + j]? = some c := by
        rw [show 4 + j = j + 1 + 1 + 1 + 1 by omega]
        show (ksG ++ [CK.int .i64])[j]? = some c
        rw [List.getElem?_append_left hj19]
        exact hj
      rw [this] at hc'
      injection hc' with hc'
      subst hc'
      exact hu⟩
    refine ⟨kind, ri, rg, at_, x, st, hat, hx0, fun w H hS j v hj => ?_⟩
    have hlt : j < 24 := (List.getElem?_eq_some_iff.1 hj).1
    have hval : v = A (k * 24 + j) := by
      match j, hj, hlt with
      | 0, hj, _ => rw [e0]; exact (Option.some.inj hj).symm
      | 1, hj, _ => rw [e1]; exact (Option.some.inj hj).symm
      | 2, hj, _ => rw [e2]; exact (Option.some.inj hj).symm
      | 3, hj, _ => rw [e3]; exact (Option.some.inj hj).symm
      | j + 4, hj, hlt =>
        have hj : (elC x ++ [vi st])[j]? = some v := hj
        by_cases hj19 : j < 19
        · rw [List.getElem?_append_left hj19, ← hx, List.getElem?_map, List.getElem?_range hj19] at hj
          have e := (Option.some.inj hj).symm
          dsimp only at e
          rw [e, Nat.add_comm 4 j]
        · obtain rfl : j = 19 := by omega
          rw [e23]
          exact (Option.some.inj hj).symm
    rw [hval, hS.old hb]
    have := hcell (k * 24 + j) (by omega)
    rwa [← Nat.add_assoc] at this
def TrueB (w0 : World) (e : Ending) (w' : World) : Prop := e = .returned (.bool true) ∧ Below w0.heap.size w0 w'
theorem seen_mem {ps : List Pl} {x : Nat × Int × El} (h : x ∈ Ag.seen ps ps.length) : ∃ a, ps[x.1]? = some a ∧ a.there = true ∧ x.2.1 = a.gen ∧ x.2.2 = a.x := by
  unfold Ag.seen at h
  obtain ⟨k, _, hk⟩ := List.mem_filterMap.1 h
  unfold Ag.seenO at hk
  split at hk
  · cases hk
  · rename_i a ha
    split at hk
    · rename_i ht
      cases hk
      exact ⟨a, ha, ht, rfl, rfl⟩
    · cases hk
end Go.Proofs.Ytffjckdaekamgaa.Gt
