/-
  Reference 13: New, Find, Free, Put, at the first slots. No statement is proved here.
-/
import Derived.Test.YtdbppfcilaajaaaGreatMg7
import Derived.Test.YtdbppfcilaajaaaGreatMg10
import Derived.Deep.RegionLaw
import Derived.Test.YtdbppfcilaajaaaGreatMg1
import Derived.Test.YtdbppfcilaajaaaGreatMg3
namespace Go.Proofs.YtdbppfcilaajaaaGreat.Kn
open Go.RowKit Pc
set_option linter.unusedVariables false
set_option linter.unusedSimpArgs false

theorem Eon : SlT Tryz.prog 233 251 8 64 (.agg #[.int .i64 0, .int .i64 0, .int .i64 0, .int .i64 0, .int .i64 0, .int .i64 0, .int .u64 0, .int .u8 0]) := SlT.mk' Tryz.underlying233 (by kernel_rfl) rfl (by decide)
/-- What lies in the slots of the first one: its name, above it nothing, whose it is, its slot, the capability. -/
def onR (k : Nat) : List Value := [vi ((k + 1 : Nat) : Int), vi 0, vi 0, vi k, .int .i64 (3 - (k : Int)), .int .i64 0, .int .u64 1, .int .u8 255]
theorem onR_len (k : Nat) : (onR k).length = 8 := rfl
theorem onR_one (n : Nat) : ∀ u ∈ rowsN onR n, u.oneCell' = true := by
  intro u hu
  unfold rowsN at hu
  obtain ⟨k, hk, hu⟩ := List.mem_flatMap.1 hu
  simp only [onR, List.mem_cons, List.mem_singleton, List.not_mem_nil, or_false] at hu
  rcases hu with rfl | rfl | rfl | rfl | rfl | rfl | rfl | rfl <;> rfl
abbrev onS (s gs n c : Nat) (v : Value) : Hp := pc s 235 [vi gs, vi 6, vi 40, v, vi c]
abbrev onA (s gs n : Nat) (v : Value) (F : Hp) : Hp := onS s gs n n v * (sl 251 8 v n (rowsN onR n) * F)
def onQ (s gs n : Nat) : Hp := ex fun v : Value => onA s gs n v emp
section
variable {w0 w : World} {F : Hp} {s gs n : Nat} {v : Value}
theorem on_open (h : Sat w0 (onQ s gs n * F) w) : ∃ v, Sat w0 (onA s gs n v F) w := by
  obtain ⟨v, h⟩ := h.exE
  refine ⟨v, h.cast ?_⟩
  simp only [onA]
  rw [sep_emp]
  ac_rfl
theorem on_shut (h : Sat w0 (onA s gs n v F) w) : Sat w0 (onQ s gs n * F) w :=
  Sat.exI (f := fun v : Value => onA s gs n v emp) v (h.cast (by simp only [onA]; rw [sep_emp]; ac_rfl))
set_option maxRecDepth 100000 in
theorem on_new (gs : Nat) (h : Sat w0 F w) : Calls Tryz.prog 56 #[vi gs, vi 6, vi 40] w fun e w' => ∃ s, e = .returned (vp s) ∧ Sat w0 (onQ s gs 0 * F) w' := by
  have H := Lib.hid (h.alloc (.cells #[vi gs, vi 6, vi 40, .slice none 0 0, vi 0] 235))
  clear h
  go_enter Tryz.func56, Tryz.ntmps56
  go_wp2
  go_ret
  exact ⟨_, rfl, on_shut (v := .slice none 0 0) ((H.out.addNil 251 8).cast (by simp only [onA, onS, pc]; ac_rfl))⟩
set_option maxRecDepth 100000 in
theorem on_find {c : Nat} (h : Sat w0 (onS s gs n c v * (sl 251 8 v n (rowsN onR n) * F)) w) (hn : n ≤ 6) : Calls Tryz.prog 178 #[vp s, vi 0, vi n] w fun e w' => e = .returned (vi (-1)) ∧ w = w' := by
  have c3 := h.cell 3 rfl
  have hR := h.dropL.rd
  obtain ⟨ao, cap, rfl⟩ := hR.len
  have HR := Lib.hid hR
  clear h hR
  go_enter Tryz.func178, Tryz.ntmps178
  go_wp2
  go_loopw [7] (fun i wr => ∃ k : Nat, k ≤ n ∧ i = vi k ∧ w = wr) (fun i _ => n - (intOf i).toNat)
  case atStart => exact ⟨0, by omega, rfl, rfl⟩
  case round =>
    obtain ⟨k, hk, rfl, rfl⟩ := hrel
    by_cases hlt : k < n
    · have hki : (k : Int) < (n : Int) := by omega
      obtain ⟨b, off, cap', he, hc⟩ := HR.out.pos (by omega)
      cases he
      have r2 := hc (k * 8 + 2) (vi 0) (rowsN_at onR_len hlt rfl)
      have r3 := hc (k * 8 + 3) (vi k) (rowsN_at onR_len hlt rfl)
      rw [← Nat.add_assoc] at r2 r3
      have hne : ¬ ((k : Int) = (n : Int)) := by omega
      have hne2 : ((k : Int) == (n : Int)) = false := beq_eq_false_iff_ne.2 hne
      have hne3 : ((k : Nat) == n) = false := beq_eq_false_iff_ne.2 (by omega)
      clear hc
      have HL := Lib.hid hlt
      clear hlt
      go_wp2
      go_roundw
      case rel => exact ⟨k + 1, by have := HL.out; omega, by go_num, by trivial⟩
      case measure => (have := HL.out; simp [intOf]; omega)
    · obtain rfl : k = n := by omega
      clear hlt
      go_wp2
      go_ret
      exact ⟨rfl, rfl⟩
set_option maxRecDepth 100000 in
theorem on_free (h : Sat w0 (onA s gs n v F) w) (hn : n < 6) (hg : 1 ≤ gs) : Calls Tryz.prog 129 #[vp s, vi 0, vi n] w fun e w' => e = .returned (vi 0) ∧ w = w' := by
  have hg2 : (0 : Int) < (gs : Int) := by omega
  have hn2 : (0 : Int) ≤ (n : Int) := by omega
  have hn3 : (n : Int) < 6 := by omega
  have HF := Lib.hid (on_find h (by omega))
  have HT : Hid (Calls Tryz.prog 177 #[vp s, vi 0, vi n] w fun e w' => e = .returned (.bool true) ∧ w = w') := Lib.hid (by
    have c0 := h.cell 0 rfl
    have c1 := h.cell 1 rfl
    clear h HF
    go_enter Tryz.func177, Tryz.ntmps177
    go_wp2
    go_ret
    refine ⟨?_, rfl⟩
    simp [hg2, hn2, hn3])
  clear h
  go_enter Tryz.func129, Tryz.ntmps129
  go_wp2_with (first | (go_at_call 177; refine HT.out.mono ?_; rintro e w' ⟨rfl, rfl⟩) | (go_at_call 178; refine HF.out.mono ?_; rintro e w' ⟨rfl, rfl⟩))
  go_ret
  exact ⟨rfl, rfl⟩
set_option maxRecDepth 100000 in
theorem on_may (kd oi og r : Int) (h1 : 1 ≤ kd) (h2 : kd ≤ 3) (h3 : 0 ≤ oi) (h4 : 0 < og) (h : Sat w0 F w) : Calls Tryz.prog 130 #[capV kd oi og r] w fun e w' => e = .returned (.bool true) ∧ Sat w0 F w' := by
  have hA : Sat w0 (pc w.heap.size 106 (capL kd oi og r) * F) (w.alloc (.cells (capL kd oi og r).toArray 106)) := h.alloc _
  have c0 := hA.cell 0 rfl
  have c1 := hA.cell 1 rfl
  have c2 := hA.cell 2 rfl
  have HA := Lib.hid hA.dropL
  have hk : kd = 1 ∨ kd = 2 ∨ kd = 3 := by omega
  clear h hA h1 h2
  rcases hk with rfl | rfl | rfl
  all_goals go_enter Tryz.func130, Tryz.ntmps130
  all_goals go_wp2
  all_goals go_ret
  all_goals exact ⟨by simp [h3, h4], HA.out⟩
end
end Go.Proofs.YtdbppfcilaajaaaGreat.Kn

namespace Go.Proofs.YtdbppfcilaajaaaGreat.Kn
open Go.RowKit Pc
set_option linter.unusedVariables false
set_option linter.unusedSimpArgs false

section
variable {w0 w : World} {F : Hp} {s gs n : Nat} {v : Value}
theorem onR_push (n : Nat) : rowsN onR (n + 1) = rowsN onR n ++ onR n := by
  unfold rowsN
  rw [List.range_succ, List.flatMap_append]
  simp
theorem rdPc8 {b : Nat} {T : TypeId} {cs : List Value} (h : Sat w0 (pc b T cs * F) w) (hc : cs.length = 8) : Rd w 8 (.slice (some ⟨b, 0, none⟩) 1 1) 1 cs :=
  ⟨by omega, .inr ⟨b, 0, 1, rfl, fun j u hj => by rw [Nat.zero_add]; exact h.cell j hj⟩⟩
abbrev onN (k : Nat) : List Value := [.int .i64 ((k : Int) + 1), vi 0, vi 0, vi k, .int .i64 (3 - (k : Int)), .int .i64 0, .int .u64 1, .int .u8 255]
theorem on_last {k : Nat} {u v : Value} : pc s 235 ([vi gs, vi 6, vi 40, u, vi ((k + 1 : Nat) : Int)].set 3 v) * (sl 251 8 v (k + 1) (rowsN onR k ++ onN k) * F) = onA s gs (k + 1) v F := by
  simp only [onA]
  rw [onR_push]
  rfl
set_option maxRecDepth 100000 in
set_option maxHeartbeats 4000000 in
theorem on_put (h : Sat w0 (onQ s gs n * F) w) (hn : n < 3) (hg : 1 ≤ gs) : Calls Tryz.prog 64 #[vp s, vi 0, vi 0, vi n, capV (3 - (n : Int)) 0 1 255] w fun e w' => e = .returned (vi 0) ∧ Sat w0 (onQ s gs (n + 1) * F) w' := by
  obtain ⟨v, hA⟩ := on_open h
  obtain ⟨ao, cap, rfl⟩ := hA.dropL.rd.len
  have hB : Sat w0 (pc w.heap.size 106 (capL (3 - (n : Int)) 0 1 255) * onA s gs n (.slice ao n cap) F) (w.alloc (.cells (capL (3 - (n : Int)) 0 1 255).toArray 106)) := hA.alloc _
  have hB2 : Sat w0 (onA s gs n (.slice ao n cap) (pc w.heap.size 106 (capL (3 - (n : Int)) 0 1 255) * F)) (w.alloc (.cells (capL (3 - (n : Int)) 0 1 255).toArray 106)) := hB.cast (by simp only [onA]; ac_rfl)
  have HF := Lib.hid (on_free hB2 (by omega) hg)
  have HM := Lib.hid (on_may (3 - (n : Int)) 0 1 255 (by omega) (by omega) (by omega) (by omega) hB2)
  have e0 := hB.cell 0 rfl
  have e1 := hB.cell 1 rfl
  have e2 := hB.cell 2 rfl
  have e3 := hB.cell 3 rfl
  have HB2 := Lib.hid hB2
  clear h hA hB hB2
  go_enter Tryz.func64, Tryz.ntmps64
  go_wp2_with (first
    | (go_at_call 129; refine HF.out.mono ?_; rintro e w' ⟨rfl, rfl⟩)
    | (go_at_call 130; refine HM.out.mono ?_; rintro e w1 ⟨rfl, hS1⟩; have HS1 := Lib.hid hS1; clear hS1))
  clear e0 e1 e2 e3
  generalize w.heap.size = b at *
  have HX := HS1.out
  go_loopw [12] (fun i wr => ∃ k : Nat, k ≤ n ∧ i = vi k ∧ Sat w0 (onA s gs n (.slice ao n cap) (pc b 106 (capL (3 - (n : Int)) 0 1 255) * F)) wr) (fun i _ => n - (intOf i).toNat)
  case atStart => exact ⟨0, by omega, rfl, HX⟩
  case round =>
    clear HX HS1 HB2 HM
    obtain ⟨k, hk, rfl, hS⟩ := hrel
    have HS1 := Lib.hid hS
    have c3 := HS1.out.cell 3 rfl
    have HR := Lib.hid HS1.out.dropL.rd
    clear hS
    by_cases hlt : k < n
    · have hki : (k : Int) < (n : Int) := by omega
      obtain ⟨b', off, cap', he, hc⟩ := HR.out.pos (by omega)
      cases he
      have r0 := hc (k * 8) (vi ((k + 1 : Nat) : Int)) (by have := rowsN_at (j := 0) (v := vi ((k + 1 : Nat) : Int)) onR_len hlt rfl; simpa using this)
      have hne : ¬ (((k + 1 : Nat) : Int) = 0) := by omega
      have hne2 : (((k + 1 : Nat) : Int) == 0) = false := beq_eq_false_iff_ne.2 hne
      clear hc
      have HL := Lib.hid hlt
      clear hlt
      generalize ((k + 1 : Nat) : Int) = k1 at *
      go_wp2
      go_quiet (fail)
      go_wp2
      go_roundw
      case rel => exact ⟨k + 1, by have := HL.out; omega, by go_num, HS1.out.drewN _⟩
      case measure => (have := HL.out; simp [intOf]; omega)
    · obtain rfl : k = n := by omega
      clear hlt
      have c2 := HS1.out.cell 2 rfl
      have c4 := HS1.out.cell 4 rfl
      have f4 := HS1.out.free 4
      have hk40 : ¬ ((40 : Int) ≤ (k : Int)) := by omega
      have hk40b : decide ((40 : Int) ≤ (k : Int)) = false := decide_eq_false hk40
      have hk40c : ¬ (40 ≤ k) := by omega
      have hka : IntKind.i64.wrap ((k : Int) + 1) = ((k + 1 : Nat) : Int) := by rw [IntWalk.i64_in _ (by omega)]; omega
      go_wp2
      go_quiet (fail)
      go_wp2
      have hW : Sat w0 (onS s gs k (k + 1) (.slice ao k cap) * (sl 251 8 (.slice ao k cap) k (rowsN onR k) * (pc b 106 (capL (3 - (k : Int)) 0 1 255) * F))) ((wr.drewN nq).setCell ⟨s, 4, none⟩ (.int .i64 ((k : Int) + 1))) := (HS1.out.drewN nq).store 4 _
      generalize (wr.drewN nq).setCell ⟨s, 4, none⟩ (.int .i64 ((k : Int) + 1)) = wb at *
      have HW := Lib.hid hW.drew
      have hRd := HW.out.dropL.rd
      have HRd := Lib.hid hRd
      have x3 := HW.out.cell 3 rfl
      have x4 := HW.out.cell 4 rfl
      have b0 := HW.out.pull3.cell 0 rfl
      have b1 := HW.out.pull3.cell 1 rfl
      have b2 := HW.out.pull3.cell 2 rfl
      have b3 := HW.out.pull3.cell 3 rfl
      have o3 := (hW.alloc (.cells #[vi ((k : Int) + 1), vi 0, vi 0, vi k, .int .i64 (3 - (k : Int)), .int .i64 0, .int .u64 1, .int .u8 255] 251)).pull2.cell 3 rfl
      have HO := Lib.hid (HW.out.alloc (.cells (onN k).toArray 251))
      clear hW hRd c2 c3 c4 f4 HS1 HR
      go_region_law
        (first
          | (refine step_append_sl Eon (by rfl) (.const (.slice none 0 0)) (.tmp 78) (by rfl) (by rfl) (HW.out.addNil 251 8) (by rfl) HRd.out (onR_one k) (by unfold maxLen; omega) (by omega) ?_; intro ao1 cap1 w1 hS1; simp only [Nat.zero_add, List.nil_append] at hS1; have y4 := hS1.pull2.cell 4 rfl; have z0 := hS1.pull4.cell 0 rfl; have z1 := hS1.pull4.cell 1 rfl; have z2 := hS1.pull4.cell 2 rfl; have z3 := hS1.pull4.cell 3 rfl; have HC1 := Lib.hid (hS1.alloc (.cells (onN k).toArray 251)).pull2; clear hS1)
          | (refine step_append_sl Eon (by rfl) (.const (.slice none 0 0)) (.tmp 78) (by rfl) (by rfl) (HO.out.addNil 251 8) (by rfl) (HO.out.dropL.dropL.rd) (onR_one k) (by unfold maxLen; omega) (by omega) ?_; intro ao1 cap1 w1 hS1; simp only [Nat.zero_add, List.nil_append] at hS1; have y4 := hS1.pull3.cell 4 rfl; have HC1 := Lib.hid hS1; clear hS1)
          | (refine step_append_sl Eon (by rfl) (.tmp 79) (.tmp 89) (by rfl) (by rfl) HC1.out (by rfl) (rdPc8 (cs := onN k) HC1.out.pull2 rfl) (by simp [Value.oneCell']) (by unfold maxLen; omega) (by omega) ?_; intro ao2 cap2 w2 hS2; have d2 := hS2.pull3.cell 3 rfl; have f2 := hS2.pull3.free 3; have H2 := Lib.hid hS2; clear hS2))
      all_goals go_wp2
      all_goals go_ret
      all_goals exact ⟨rfl, on_shut (v := .slice ao2 (k + 1) cap2) (((H2.out.pull3.store 3 (.slice ao2 (k + 1) cap2)).drop3.drop3.drop3).cast on_last)⟩
end
end Go.Proofs.YtdbppfcilaajaaaGreat.Kn

namespace Go.Proofs.YtdbppfcilaajaaaGreat.Kn
open Go.RowKit Pc
set_option linter.unusedVariables false
set_option linter.unusedSimpArgs false

section
variable {w0 w : World} {F : Hp} {ps : Nat}
set_option maxRecDepth 100000 in
set_option maxHeartbeats 4000000 in
theorem Einto : SlT Tryz.prog 140 3 1 8 (.int .i64 0) := SlT.mk' Tryz.underlying140 (by kernel_rfl) rfl (by decide)
set_option maxRecDepth 100000 in
set_option maxHeartbeats 4000000 in
theorem of_ (xs : List Int) (v : Value) (hR : RdI w v xs) (hl : xs.length ≤ 1000) : Calls Tryz.prog 128 #[v] w fun e w' => (∃ x : Int, e = .returned (.int .u8 x)) ∧ w = w' := by
  obtain ⟨ao, cap, rfl⟩ := hR.len
  have HR := Lib.hid hR
  clear hR
  go_enter Tryz.func128, Tryz.ntmps128
  go_wp2
  go_loopw [3, 4] (fun a i wr => (∃ x : Int, a = vi x) ∧ (i = vi (-1) ∨ ∃ k : Nat, k ≤ 7 ∧ i = vi k) ∧ w = wr) (fun _ i _ => (intOf i + 1).toNat)
  case atStart => exact ⟨⟨0, rfl⟩, .inr ⟨7, by omega, rfl⟩, rfl⟩
  case round =>
    obtain ⟨⟨x, rfl⟩, hi, rfl⟩ := hrel
    rcases hi with rfl | ⟨k, hk, rfl⟩
    · go_wp2
      go_ret
      exact ⟨⟨_, rfl⟩, rfl⟩
    · have hk0 : (0 : Int) ≤ (k : Int) := by omega
      have HK := Lib.hid hk
      have hw : wrap64 ((k : Int) - 1) = (k : Int) - 1 := IntWalk.wrap64_in _ (by omega)
      have HW := Lib.hid hw
      clear hw
      clear hk
      go_wp2
      go_loopw [5, 6] (fun a i wr => (a = .bool true ∨ a = .bool false) ∧ (∃ j : Nat, j ≤ xs.length ∧ i = vi j) ∧ w = wr) (fun _ i _ => xs.length - (intOf i).toNat)
      case atStart => exact ⟨.inr rfl, ⟨0, by omega, rfl⟩, rfl⟩
      case round =>
        obtain ⟨hb, ⟨j, hj, rfl⟩, rfl⟩ := hrel
        by_cases hlt : j < xs.length
        · have hji : (j : Int) < (xs.length : Int) := by omega
          obtain ⟨b, off, rfl, hc⟩ := HR.out.at_ (by omega)
          have cj := hc j hlt
          clear hc
          have HL := Lib.hid hlt
          clear hlt
          generalize xs[j]?.getD 0 = y at *
          rcases hb with rfl | rfl
          · go_wp2
            go_roundw
            case rel => exact ⟨.inl rfl, ⟨j + 1, by have := HL.out; omega, by go_num⟩, by trivial⟩
            case measure => (have := HL.out; simp [intOf]; omega)
          · go_wp2
            go_roundw
            case rel => exact ⟨by cases (y == (k : Int)) <;> simp, ⟨j + 1, by have := HL.out; omega, by go_num⟩, by trivial⟩
            case measure => (have := HL.out; simp [intOf]; omega)
        · obtain rfl : j = xs.length := by omega
          clear hlt
          rcases hb with rfl | rfl
          · go_wp2
            go_roundw
            case rel =>
              refine ⟨⟨_, rfl⟩, ?_, by trivial⟩
              by_cases h0 : k = 0
              · subst h0
                exact .inl (congrArg (Value.int IntKind.i64) HW.out)
              · exact .inr ⟨k - 1, by have := HK.out; omega, by
                  rw [HW.out, show ((k - 1 : Nat) : Int) = (k : Int) - 1 by omega]⟩
            case measure => (have := HK.out; have := HW.out; simp [intOf]; omega)
          · go_wp2
            go_roundw
            case rel =>
              refine ⟨⟨_, rfl⟩, ?_, by trivial⟩
              by_cases h0 : k = 0
              · subst h0
                exact .inl (congrArg (Value.int IntKind.i64) HW.out)
              · exact .inr ⟨k - 1, by have := HK.out; omega, by
                  rw [HW.out, show ((k - 1 : Nat) : Int) = (k : Int) - 1 by omega]⟩
            case measure => (have := HK.out; have := HW.out; simp [intOf]; omega)
set_option maxRecDepth 100000 in
set_option maxHeartbeats 4000000 in
theorem all_ (ps : Nat) (hps : ps ≤ 8) (h : Sat w0 F w) : Calls Tryz.prog 62 #[vi ps] w fun e w' => (∃ x : Int, e = .returned (.int .u8 x)) ∧ Sat w0 F w' := by
  have H := Lib.hid (h.addNil 3 1)
  clear h
  go_enter Tryz.func62, Tryz.ntmps62
  go_wp2
  go_loopw [3, 4] (fun v i wr => ∃ (k : Nat) (xs : List Int), k ≤ ps ∧ i = vi k ∧ xs.length = k ∧ Sat w0 (sl 3 1 v k (xs.map vi) * F) wr) (fun _ i _ => ps - (intOf i).toNat)
  case atStart => exact ⟨0, [], by omega, rfl, rfl, H.out⟩
  case round =>
    clear H
    obtain ⟨k, xs, hk, rfl, hx, hS⟩ := hrel
    by_cases hlt : k < ps
    · have hki : (k : Int) < (ps : Int) := by omega
      obtain ⟨ao, cap, hv⟩ := hS.rd.len
      subst hv
      have HX := Lib.hid hx
      have HL := Lib.hid hlt
      have HS := Lib.hid (hS.alloc' (.cells #[vi k] 3))
      have hR := Lib.hid (Rd.one w 3 (vi k))
      have HO := Lib.hid (fun w : World => Rd.one w 3 (vi k))
      clear hS hlt hx
      go_wp2_with (at_builtin; refine wpList_append_sl Einto rfl (.tmp 10) (.tmp 12) rfl (by rfl) HS.out (by rfl) (HO.out _) (by simp [Value.oneCell']) (by unfold maxLen; omega) (by omega) ?_; intro ao1 cap1 w1 hS1; have HS1 := Lib.hid hS1; clear hS1)
      go_roundw
      case rel => exact ⟨k + 1, xs ++ [(k : Int)], by have := HL.out; omega, by go_num, by have := HX.out; simp; omega, HS1.out.cast (by rw [List.map_append]; rfl)⟩
      case measure => (have := HL.out; simp [intOf]; omega)
    · obtain rfl : k = ps := by omega
      obtain ⟨ao, cap, hv⟩ := hS.rd.len
      subst hv
      have hR : RdI wr (.slice ao k cap) xs := by have := hS.rd; unfold RdI; rw [hx]; exact this
      have HR := Lib.hid (of_ xs _ hR (by omega))
      have HS := Lib.hid hS.dropL
      clear hS hlt hx hR
      go_wp2_with (go_at_call 128; refine HR.out.mono ?_; rintro e w1 ⟨⟨x, rfl⟩, rfl⟩)
      go_ret
      exact ⟨⟨_, rfl⟩, HS.out⟩
end
end Go.Proofs.YtdbppfcilaajaaaGreat.Kn

namespace Go.Proofs.YtdbppfcilaajaaaGreat
set_option linter.unusedVariables false

namespace Gq
abbrev vi (x : Int) : Value := .int .i64 x
abbrev vp (p : Nat) : Value := .pointer (some ⟨p, 0, none⟩)
/-- Where a row begins, if what is behind it begins at e. -/
def fst (e : Value) : List (Nat × Int) → Value
  | [] => e
  | (b, _) :: _ => vp b
/-- The nodes of a row, in front of what begins at e. -/
def sg (T : TypeId) (e : Value) : List (Nat × Int) → Hp
  | [] => emp
  | (b, g) :: r => pc b T [vi g, fst e r] * sg T e r
/-- Where the row's last one is. -/
def lst (n : Value) (ns : List (Nat × Int)) : Value := match ns.getLast? with
  | none => n
  | some (b, _) => vp b
variable {w0 w : World} {F : Hp} {T U : TypeId}
theorem fst_append (e : Value) (a b : List (Nat × Int)) : fst e (a ++ b) = fst (fst e b) a := by
  cases a <;> rfl
theorem sg_append (e : Value) : ∀ a b : List (Nat × Int), sg T e (a ++ b) = sg T (fst e b) a * sg T e b
  | [], b => (emp_sep _).symm
  | (x, g) :: a, b => by
    show pc x T [vi g, fst e (a ++ b)] * sg T e (a ++ b) = _
    rw [sg_append e a b, fst_append]
    show _ = (pc x T [vi g, fst (fst e b) a] * sg T (fst e b) a) * sg T e b
    rw [sep_assoc]
theorem lst_snoc (n : Value) (a : List (Nat × Int)) (x : Nat × Int) : lst n (a ++ [x]) = vp x.1 := by
  unfold lst
  rw [List.getLast?_concat]
/-- The queue itself, and its row. -/
def gq (U T : TypeId) (n : Value) (q : Nat) (xs : List Int) : Hp := ex fun ns : List (Nat × Int) => given (ns.map Prod.snd = xs) (pc q U [fst n ns, lst n ns, vi ns.length] * sg T n ns)
theorem gq_open {n : Value} {q : Nat} {xs : List Int} (h : Sat w0 (gq U T n q xs * F) w) : ∃ ns : List (Nat × Int), ns.map Prod.snd = xs ∧ Sat w0 (pc q U [fst n ns, lst n ns, vi ns.length] * (sg T n ns * F)) w := by
  obtain ⟨ns, h1⟩ := Sat.exE h
  obtain ⟨h2, h3⟩ := h1.givenE
  exact ⟨ns, h2, h3.cast (sep_assoc _ _ _)⟩
theorem gq_shut {n : Value} {q : Nat} {xs : List Int} (ns : List (Nat × Int)) (hx : ns.map Prod.snd = xs) (h : Sat w0 (pc q U [fst n ns, lst n ns, vi ns.length] * (sg T n ns * F)) w) : Sat w0 (gq U T n q xs * F) w :=
  Sat.exI ns (Sat.givenI hx (h.cast (sep_assoc _ _ _).symm))
/-- A row's node at a place: what is ahead of it, itself, what is behind it. -/
theorem sg_cut (e : Value) (a : List (Nat × Int)) (x : Nat) (g : Int) (r : List (Nat × Int)) : sg T e (a ++ (x, g) :: r) = sg T (vp x) a * (pc x T [vi g, fst e r] * sg T e r) := sg_append e a ((x, g) :: r)
/-- One at the end of a row that is not empty: the last one's cell is stored. -/
theorem sg_snoc {n : Value} {a : List (Nat × Int)} {c : Nat} {h : Int} {x : Nat} {g : Int} (h1 : Sat w0 (sg T n (a ++ [(c, h)]) * (pc x T [vi g, n] * F)) w) :
    w.cell? ⟨c, 1, none⟩ = some n ∧ w.frozen? ⟨c, 1, none⟩ = false ∧ Sat w0 (sg T n ((a ++ [(c, h)]) ++ [(x, g)]) * F) (w.setCell ⟨c, 1, none⟩ (vp x)) := by
  rw [sg_cut] at h1
  have h2 : Sat w0 (pc c T [vi h, n] * (sg T (vp c) a * (pc x T [vi g, n] * F))) w := h1.cast (by show (sg T (vp c) a * (pc c T [vi h, n] * emp)) * _ = _; rw [sep_emp]; ac_rfl)
  refine ⟨h2.cell 1 rfl, h2.free 1, ?_⟩
  have h3 := h2.store 1 (vp x)
  rw [sg_append, sg_cut]
  exact h3.cast (by show pc c T [vi h, vp x] * (sg T (vp c) a * (pc x T [vi g, n] * F)) = ((sg T (vp c) a * (pc c T [vi h, vp x] * emp)) * (pc x T [vi g, n] * emp)) * F; rw [sep_emp, sep_emp]; ac_rfl)
/-- A node's cells can be read. -/
theorem sg_at {n : Value} {a : List (Nat × Int)} {x : Nat} {g : Int} {r : List (Nat × Int)} (h1 : Sat w0 (sg T n (a ++ (x, g) :: r) * F) w) : w.cell? ⟨x, 0, none⟩ = some (vi g) ∧ w.cell? ⟨x, 1, none⟩ = some (fst n r) := by
  rw [sg_cut] at h1
  have h2 : Sat w0 (pc x T [vi g, fst n r] * (sg T (vp x) a * (sg T n r * F))) w := h1.cast (by ac_rfl)
  exact ⟨h2.cell 0 rfl, h2.cell 1 rfl⟩
end Gq
end Go.Proofs.YtdbppfcilaajaaaGreat

namespace Go.Proofs.YtdbppfcilaajaaaGreat.Gq
open Go.RowKit
set_option linter.unusedVariables false

abbrev gQ (q : Nat) (xs : List Int) : Hp := gq 286 284 (.pointer none) q xs
section
variable {w0 w : World} {F : Hp} {q : Nat} {xs : List Int}
theorem g_new (h : Sat w0 F w) : Calls Tryz.prog 97 #[] w fun e w' => ∃ q, e = .returned (vp q) ∧ Sat w0 (gQ q [] * F) w' := by
  have H := Lib.hid (h.alloc (.cells #[.pointer none, .pointer none, vi 0] 286))
  clear h
  go_enter Tryz.func97, Tryz.ntmps97
  go_wp2
  go_ret
  exact ⟨_, rfl, gq_shut [] rfl (H.out.cast (by show _ = pc _ _ _ * (emp * F); rw [emp_sep]; rfl))⟩
set_option maxRecDepth 100000 in
set_option maxHeartbeats 4000000 in
theorem g_put (h : Sat w0 (gQ q xs * F) w) {ao : Option Addr} {cap : Nat} {ys : List Int} (hA : ∀ w', Sat w0 F w' → RdI w' (.slice ao ys.length cap) ys) (hl : xs.length + ys.length ≤ 1000000) :
    Calls Tryz.prog 88 #[vp q, .slice ao ys.length cap] w fun e w' => e = .returned (.tuple #[]) ∧ Sat w0 (gQ q (xs ++ ys) * F) w' := by
  have H := Lib.hid h
  have HA := Lib.hid hA
  clear h hA
  go_enter Tryz.func88, Tryz.ntmps88
  go_wp2_with fail
  go_loopw [11] (fun ix wr => ∃ k : Nat, k ≤ ys.length ∧ ix = vi k ∧ Sat w0 (gQ q (xs ++ ys.take k) * F) wr) (fun ix _ => ys.length - (intOf ix).toNat)
  case atStart => exact ⟨0, Nat.zero_le _, rfl, H.out.cast (by simp)⟩
  case round =>
    clear H
    obtain ⟨k, hk, rfl, hS⟩ := hrel
    obtain ⟨ns, hns, hS1⟩ := gq_open hS
    have hnl : ns.length = xs.length + k := by
      have := congrArg List.length hns
      simp at this
      omega
    by_cases hlt : k < ys.length
    · have hki : (k : Int) < (ys.length : Int) := by omega
      obtain ⟨b0, o0, rfl, hrd⟩ := RdI.at_ (HA.out wr hS.dropL) (by omega)
      have cg := hrd k hlt
      have hgl : ys.take (k + 1) = ys.take k ++ [ys[k]?.getD 0] := by rw [List.take_add_one]; simp [hlt]
      obtain ⟨g, hg⟩ : ∃ g, ys[k]?.getD 0 = g := ⟨_, rfl⟩
      rw [hg] at cg hgl
      have hbig : IntKind.i64.wrap ((ns.length : Int) + 1) = ((ns.length + 1 : Nat) : Int) := by
        rw [IntWalk.i64_in _ (by omega)]; omega
      have HGL := Lib.hid hgl
      have HNS := Lib.hid hns
      clear hg hgl hns hnl hS hrd
      obtain ⟨ln, hln⟩ : ∃ ln, ns.length = ln := ⟨_, rfl⟩
      rw [hln] at hS1 hbig
      have HLN := Lib.hid hln
      have hx := hS1.alloc (.cells #[vi g, .pointer none] 284)
      have hx : Sat w0 (pc wr.heap.size 284 [vi g, .pointer none] * (pc q 286 [fst (.pointer none) ns, lst (.pointer none) ns, vi ln] * (sg 284 (.pointer none) ns * F))) (wr.alloc (.cells #[vi g, .pointer none] 284)) := hx
      have H1 := Lib.hid hx
      have d0 := hx.pull2.cell 0 rfl
      have d1 := hx.pull2.cell 1 rfl
      have d2 := hx.pull2.cell 2 rfl
      have f0 := hx.pull2.free 0
      have f1 := hx.pull2.free 1
      have f2 := hx.pull2.free 2
      clear hln hS1 hx
      rcases List.eq_nil_or_concat ns with hns | ⟨a, ⟨c, h⟩, hns⟩
      · have hl0 : lst (.pointer none) ns = .pointer none := by rw [hns]; rfl
        have HN := Lib.hid hns
        have g1 := (H1.out.pull2.store 0 (vp wr.heap.size)).free 1
        have g2 := ((H1.out.pull2.store 0 (vp wr.heap.size)).store 1 (vp wr.heap.size)).free 2
        have k2 := ((H1.out.pull2.store 0 (vp wr.heap.size)).store 1 (vp wr.heap.size)).cell 2 rfl
        rw [hl0] at d1
        clear hl0 hns
        go_wp2
        go_roundw
        case rel =>
          refine ⟨k + 1, by omega, by go_num, ?_⟩
          rw [HGL.out, ← List.append_assoc]
          have h2 := ((H1.out.pull2.store 0 (vp wr.heap.size)).store 1 (vp wr.heap.size)).store 2 (vi ((ln + 1 : Nat) : Int))
          refine gq_shut (ns ++ [(wr.heap.size, g)]) (by rw [List.map_append, HNS.out]; rfl) ?_
          have hn := HN.out
          have hlen := HLN.out
          subst hn
          subst hlen
          exact h2.cast (by show pc q _ [vp wr.heap.size, vp wr.heap.size, _] * (pc wr.heap.size _ _ * (emp * F)) = pc q _ [vp wr.heap.size, vp wr.heap.size, _] * ((pc wr.heap.size _ _ * emp) * F); rw [emp_sep, sep_emp]; rfl)
        case measure => simp [intOf]; omega
      · rw [List.concat_eq_append] at hns
        have hl0 : lst (.pointer none) ns = vp c := by rw [hns]; exact lst_snoc _ _ _
        have hf0 : fst (.pointer none) (ns ++ [(wr.heap.size, g)]) = fst (.pointer none) ns := by rw [hns, fst_append, fst_append, fst_append]; rfl
        have hsg : Sat w0 (sg 284 (.pointer none) (a ++ [(c, h)]) * (pc wr.heap.size 284 [vi g, .pointer none] * (pc q 286 [fst (.pointer none) ns, lst (.pointer none) ns, vi ln] * F))) (wr.alloc (.cells #[vi g, .pointer none] 284)) := H1.out.cast (by rw [hns]; ac_rfl)
        have hsn := sg_snoc hsg
        have cc := hsn.1
        have fc := hsn.2.1
        have hsn := hsn.2
        have HS2 := Lib.hid hsn.2
        have HN := Lib.hid hns
        have HF0 := Lib.hid hf0
        have hd := hsn.2.dropL
        have e0 := hd.cell 1 rfl
        have e1 := hd.cell 2 rfl
        have e2 := hd.free 1
        have e3 := hd.free 2
        have g2 := (hd.store 1 (vp wr.heap.size)).free 2
        have k2 := (hd.store 1 (vp wr.heap.size)).cell 2 rfl
        rw [hl0] at d1
        clear hl0 hns hsg hsn hf0 hd
        go_wp2
        go_roundw
        case rel =>
          refine ⟨k + 1, by omega, by go_num, ?_⟩
          rw [HGL.out, ← List.append_assoc]
          have h2 := (HS2.out.pull2.store 1 (vp wr.heap.size)).store 2 (vi ((ln + 1 : Nat) : Int))
          refine gq_shut (ns ++ [(wr.heap.size, g)]) (by rw [List.map_append, HNS.out]; rfl) ?_
          rw [HF0.out, List.length_append, HLN.out, lst_snoc]
          rw [← HN.out] at h2
          exact h2
        case measure => simp [intOf]; omega
    · obtain rfl : k = ys.length := by omega
      have hki : ¬ (ys.length : Int) < (ys.length : Int) := by omega
      have HS := Lib.hid hS
      clear hS hS1
      go_wp2
      go_end0
      exact ⟨rfl, HS.out.cast (by rw [List.take_length])⟩
end
end Go.Proofs.YtdbppfcilaajaaaGreat.Gq
