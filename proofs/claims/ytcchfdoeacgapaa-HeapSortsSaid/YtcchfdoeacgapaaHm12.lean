/-
  The walk of HeapSorts. No statement is proved here.
-/
import Derived.Test.YtcchfdoeacgapaaHm11
namespace Go.Proofs.Ytcchfdoeacgapaa.Hm
open Go.RowKit
set_option linter.unusedVariables false

/-- The timers that have been put. -/
def mk (T : Nat → Int) (k : Nat) : List Tm := (List.range k).map fun j => (T j, (j : Int), (j : Int))
theorem mk_succ (T : Nat → Int) (k : Nat) : (mk T (k + 1)).Perm ((T k, (k : Int), (k : Int)) :: mk T k) := by
  unfold mk
  rw [List.range_succ, List.map_append]
  exact List.perm_append_singleton _ _
theorem mk_len (T : Nat → Int) (k : Nat) : (mk T k).length = k := by simp [mk]
theorem mk_has (T : Nat → Int) (k : Nat) : hasT (mk T k) k = false := by
  unfold hasT mk
  rw [List.any_eq_false]
  intro t ht
  obtain ⟨j, hj, rfl⟩ := List.mem_map.1 ht
  have := List.mem_range.1 hj
  simp
  omega
section
variable {w0 : World} {v : Value} {n : Nat} {T : Nat → Int}
set_option maxRecDepth 100000 in
set_option maxHeartbeats 4000000 in
theorem sorts_walk (h : ArgK w0 1 (fun _ => .u64) v n T) : Calls Try.prog 3 #[v] w0 (TrueBelow w0) := by
  obtain ⟨ao, cap, rfl⟩ : ∃ ao cap, v = .slice ao n cap := by
    rcases h.form with ⟨rfl, ao, cap, rfl⟩ | ⟨b, off, cap, rfl, _⟩
    · exact ⟨_, _, rfl⟩
    · exact ⟨_, _, rfl⟩
  have hsm := h.small
  unfold maxLen at hsm
  have hwf : Hid (∀ j, j < n → 0 ≤ T j ∧ T j ≤ 18446744073709551615) := Lib.hid fun j hj => by
    have := h.wf j (by omega)
    simp only [Lit.wf, Bool.and_eq_true, decide_eq_true_eq] at this
    have h1 := this.1
    have h2 := this.2
    rw [show IntKind.u64.min = 0 from rfl] at h1
    rw [show IntKind.u64.max = 18446744073709551615 from rfl] at h2
    exact ⟨h1, h2⟩
  have hat : ∀ (w : World), Below w0.heap.size w0 w → n ≠ 0 → ∃ b off, ao = some ⟨b, off, none⟩ ∧ ∀ j, j < n → w.cell? ⟨b, off + j, none⟩ = some (vu (T j)) := fun w hb hn => by
    rcases h.form with ⟨rfl, _⟩ | ⟨b, off, cap, e, hlt, hc⟩
    · exact absurd rfl hn
    · cases e
      exact ⟨b, off, rfl, fun j hj => (hb.cell (by exact hlt)).trans (hc j (by omega))⟩
  have HAT := Lib.hid hat
  clear hat h
  by_cases hbig : 300 < n
  · have hb2 : (300 : Int) < (n : Int) := by omega
    go_enter Try.func3, Try.ntmps3
    go_wp2_with (go_at_call 14; refine (known4 _).mono ?_; rintro e w1 ⟨rfl, hb⟩)
    go_ret
    exact ⟨rfl, hb⟩
  · have hb2 : ¬ (300 : Int) < (n : Int) := by omega
    go_enter Try.func3, Try.ntmps3
    go_wp2_with (go_at_call 15; refine (h_new (Sat.start w0)).mono ?_; rintro e w1 ⟨hp, rfl, hS1⟩; have H1 := Lib.hid hS1; clear hS1)
    go_loopw [4] (fun iv wr => ∃ (k : Nat) (A : List Tm), k ≤ n ∧ iv = vi k ∧ A.Perm (mk T k) ∧ Sat w0 (heapP hp A (k : Int) * emp) wr) (fun iv _ => n - (intOf iv).toNat)
    case atStart => exact ⟨0, [], Nat.zero_le _, rfl, List.Perm.refl _, H1.out⟩
    case round =>
      obtain ⟨k, A, hk, rfl, hpm, hS⟩ := hrel
      have HPA := Lib.hid hpm
      have hla := hpm.length_eq
      rw [mk_len] at hla
      clear hpm
      by_cases hlt : k < n
      · obtain ⟨b, off, rfl, hc⟩ := HAT.out wr hS.below (by omega)
        have ca := hc k hlt
        have hw := hwf.out k hlt
        have HP1 := Lib.hid (h_put hS (T k) k (by rw [hasT_perm HPA.out]; exact mk_has T k) (by omega) (by omega) (by omega))
        clear hS hc
        generalize hT : T k = tk at *
        have HTk := Lib.hid hT
        clear hT
        go_wp2_with fail
        refine HP1.out.mono ?_
        rintro e w2 ⟨rfl, A', hp', hS2⟩
        have HAP : Hid (A'.Perm (mk T (k + 1))) := Lib.hid (hp'.trans (((HPA.out.cons _).trans (by rw [← HTk.out]; exact (mk_succ T k).symm))))
        have cb : w2.cell? ⟨b, off + k, none⟩ = some (vu tk) := by
          obtain ⟨b', off', e', hc'⟩ := HAT.out w2 hS2.below (by omega)
          cases e'
          rw [← HTk.out]
          exact hc' k hlt
        have HP2 := Lib.hid (h_put_no hS2 tk k (by rw [hasT_perm hp']; simp [hasT]))
        have H2 := Lib.hid hS2
        clear hS2 hp'
        go_wp2_with fail
        refine HP2.out.mono ?_
        rintro e w' ⟨rfl, rfl⟩
        go_wp2
        go_roundw
        case rel => exact ⟨k + 1, A', by omega, by go_num, HAP.out, H2.out.cast (by rw [show ((k + 1 : Nat) : Int) = (k : Int) + 1 by omega])⟩
        case measure => simp [intOf]; omega
      · obtain rfl : k = n := by omega
        have HS := Lib.hid hS
        clear hS
        go_wp2_with fail
        go_loopw [5, 6, 7] (fun lv dv iv wr => ∃ (q : Nat) (A : List Tm) (la id p : Int), q ≤ k ∧ iv = vi q ∧ lv = vu la ∧ dv = vi id ∧ A.length = k - q ∧ (∀ t ∈ A, ∃ x : Nat, x < k ∧ t = (T x, (x : Int), (x : Int))) ∧ (q = 0 → la = 0 ∧ id = -1) ∧ (0 < q → ∀ t ∈ A, nl t (la, id, id)) ∧ Sat w0 (heapP hp A p * emp) wr) (fun _ _ iv _ => k - (intOf iv).toNat)
        case atStart =>
          refine ⟨0, A, 0, -1, _, Nat.zero_le _, rfl, rfl, rfl, by omega, fun t ht => ?_, fun _ => ⟨rfl, rfl⟩, fun h0 => absurd h0 (by omega), HS.out⟩
          obtain ⟨x, hx, rfl⟩ := List.mem_map.1 (HPA.out.mem_iff.1 ht)
          exact ⟨x, List.mem_range.1 hx, rfl⟩
        case round =>
          obtain ⟨q, A, la, id, p, hq, rfl, rfl, rfl, hal, hel, hz0, hz1, hS⟩ := hrel
          have HEL := Lib.hid hel
          have HAL := Lib.hid hal
          by_cases hlt : q < k
          · have hA : A ≠ [] := fun e => by rw [e] at hal; simp at hal; omega
            obtain ⟨x, hx, hm⟩ := hel _ (head_mem hA)
            obtain ⟨b, off, rfl, hc⟩ := HAT.out wr hS.below (by omega)
            have hle := heapP_least hS
            have hw := hwf.out x hx
            have hpop := h_pop hS hA (by omega) 18446744073709551615 (by rw [hm]; show ¬ _ < T x; omega)
            have f1 : ¬ T x < la := by
              by_cases h0 : q = 0
              · have := (hz0 h0).1
                omega
              · have := hz1 (by omega) _ (head_mem hA)
                rw [hm] at this
                rcases this with h | h
                · have : la < T x := h
                  omega
                · have : la = T x := h.1
                  omega
            have f4 : 0 < q → T x = la → ¬ (x : Int) < id := fun h0 he => by
              have := hz1 h0 _ (head_mem hA)
              rw [hm] at this
              rcases this with h | h
              · have : la < T x := h
                omega
              · have : id ≤ (x : Int) := h.2
                omega
            have HP := Lib.hid hpop
            have HM := Lib.hid hm
            have HLE := Lib.hid hle
            have F4 := Lib.hid f4
            clear hpop hm hle hel hz0 hz1 hS hal hA f4
            have g1 : ¬ (x : Int) < 0 := by omega
            have g2 : ¬ (k : Int) ≤ (x : Int) := by omega
            have g3 : (x : Int) < (k : Int) := by omega
            have hcell : ∀ w5, Below w0.heap.size w0 w5 → w5.cell? ⟨b, off + x, none⟩ = some (vu (T x)) := fun w5 hb5 => by
              obtain ⟨b', off', e', hc'⟩ := HAT.out w5 hb5 (by omega)
              cases e'
              exact hc' x hx
            have HC := Lib.hid hcell
            clear hcell hc
            by_cases he : T x = la
            · have f2 : (T x == la) = true := by simpa using he
              by_cases h0 : q = 0
              · have f3 : decide (0 < q) = false := decide_eq_false (by omega)
                have f5 : ¬ (0 : Int) < (q : Int) := by omega
                clear h0 he
                go_wp2_with (go_at_call 17; refine HP.out.mono ?_; rw [HM.out]; rintro e w5 ⟨rfl, A', hp', hS5⟩; have H5 := Lib.hid hS5; have cx := HC.out _ hS5.below; have HPm := Lib.hid hp'; clear hS5 hp')
                go_roundw
                case rel =>
                  have hlen := HPm.out.length_eq
                  simp only [List.length_cons] at hlen
                  have hal := HAL.out
                  refine ⟨q + 1, A', T x, x, p, by omega, by go_num, rfl, rfl, by omega, fun t ht => HEL.out t (HPm.out.mem_iff.1 (List.mem_cons_of_mem _ ht)), (fun h0 => absurd h0 (by omega)), fun _ t ht => ?_, H5.out⟩
                  have := HLE.out t (HPm.out.mem_iff.1 (List.mem_cons_of_mem _ ht))
                  rwa [HM.out] at this
                case measure => simp [intOf]; omega
              · have f3 : decide (0 < q) = true := decide_eq_true (by omega)
                have f5 : (0 : Int) < (q : Int) := by omega
                have f6 := F4.out (by omega) he
                clear h0 he
                go_wp2_with (go_at_call 17; refine HP.out.mono ?_; rw [HM.out]; rintro e w5 ⟨rfl, A', hp', hS5⟩; have H5 := Lib.hid hS5; have cx := HC.out _ hS5.below; have HPm := Lib.hid hp'; clear hS5 hp')
                go_roundw
                case rel =>
                  have hlen := HPm.out.length_eq
                  simp only [List.length_cons] at hlen
                  have hal := HAL.out
                  refine ⟨q + 1, A', T x, x, p, by omega, by go_num, rfl, rfl, by omega, fun t ht => HEL.out t (HPm.out.mem_iff.1 (List.mem_cons_of_mem _ ht)), (fun h0 => absurd h0 (by omega)), fun _ t ht => ?_, H5.out⟩
                  have := HLE.out t (HPm.out.mem_iff.1 (List.mem_cons_of_mem _ ht))
                  rwa [HM.out] at this
                case measure => simp [intOf]; omega
            · have f2 : (T x == la) = false := by simpa using he
              clear he
              go_wp2_with (go_at_call 17; refine HP.out.mono ?_; rw [HM.out]; rintro e w5 ⟨rfl, A', hp', hS5⟩; have H5 := Lib.hid hS5; have cx := HC.out _ hS5.below; have HPm := Lib.hid hp'; clear hS5 hp')
              go_roundw
              case rel =>
                have hlen := HPm.out.length_eq
                simp only [List.length_cons] at hlen
                have hal := HAL.out
                refine ⟨q + 1, A', T x, x, p, by omega, by go_num, rfl, rfl, by omega, fun t ht => HEL.out t (HPm.out.mem_iff.1 (List.mem_cons_of_mem _ ht)), (fun h0 => absurd h0 (by omega)), fun _ t ht => ?_, H5.out⟩
                have := HLE.out t (HPm.out.mem_iff.1 (List.mem_cons_of_mem _ ht))
                rwa [HM.out] at this
              case measure => simp [intOf]; omega
          · obtain rfl : q = k := by omega
            obtain rfl : A = [] := List.eq_nil_of_length_eq_zero (by omega)
            have HL : Hid (Calls Try.prog 18 #[vp hp] wr fun e w' => e = .returned (vi 0) ∧ wr = w') := Lib.hid (h_len hS)
            have H9 := Lib.hid hS
            clear hS hz0 hz1 hel
            go_wp2_with (first
              | (go_at_call 18; refine HL.out.mono ?_; rintro e w' ⟨rfl, rfl⟩)
              | (go_at_call 14; refine (known4 _).mono ?_; rintro e w9 ⟨rfl, hb⟩))
            go_ret
            exact ⟨rfl, H9.out.below.trans (hb.mono H9.out.size)⟩
theorem sorts_row (w0 : World) (v : Value) (n : Nat) (T : Nat → Int) (h : ArgK w0 1 (fun _ => .u64) v n T) : Calls Try.prog 3 #[v] w0 (TrueBelow w0) := sorts_walk h
end
end Go.Proofs.Ytcchfdoeacgapaa.Hm
