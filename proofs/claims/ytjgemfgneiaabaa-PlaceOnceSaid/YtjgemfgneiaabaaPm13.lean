/-
  Package place: told. No statement is proved here.
-/
import Derived.Test.YtjgemfgneiaabaaPm12
namespace Go.Proofs.Ytjgemfgneiaabaa.Pc
open Go.RowKit Rq Gq
set_option linter.unusedVariables false
set_option linter.unusedSimpArgs false

section
variable {w0 w : World} {F : Hp} {D : Ad} {p : Nat → Pl} {gx : List Int}
theorem Einto : SlT Try.prog 30 3 1 8 (.int .i64 0) := SlT.mk' Try.underlying30 (by kernel_rfl) rfl (by decide)
theorem Eu64o : SlT Try.prog 46 64 1 8 (.int .u64 0) := SlT.mk' Try.underlying46 (by kernel_rfl) rfl (by decide)
theorem Eintso : SlT Try.prog 45 30 1 24 (.slice none 0 0) := SlT.mk' Try.underlying45 (by kernel_rfl) rfl (by decide)
set_option maxRecDepth 100000 in
set_option maxHeartbeats 2000000 in
theorem told1 (h : Sat w0 (plB D p gx * F) w) (ho : D.Ok) : Calls Try.prog 37 #[D.v, .func (.func 38) #[] #[]] w fun e w' => ∃ v, e = .returned v ∧ Sat w0 (sl 3 1 v D.n (rowsN (fun k => [vi (someV (p k).g (p k).runs)]) D.n) * (plB D p gx * F)) w' := by
  have hn8 := ho.n8
  have H0 := Lib.hid (h.addNil 3 1)
  clear h
  go_enter Try.func37, Try.ntmps37
  go_wp2
  go_loopw [9, 4] (fun i o wr => ∃ j : Nat, j ≤ D.n ∧ i = vi j ∧ Sat w0 (sl 3 1 o j (rowsN (fun k => [vi (someV (p k).g (p k).runs)]) j) * (plB D p gx * F)) wr) (fun i _ _ => D.n - (intOf i).toNat)
  case atStart => exact ⟨0, Nat.zero_le _, rfl, H0.out⟩
  case round =>
    clear H0
    obtain ⟨j, hj, rfl, hS⟩ := hrel
    by_cases hlt : j < D.n
    · have hji : (j : Int) < (D.n : Int) := by omega
      obtain ⟨r0, r1, r2, r3, r4⟩ := pl_row hS.dropL hlt
      obtain ⟨ao, cap, rfl⟩ := hS.rd.len
      have hj8 : j < 8 := by omega
      have hc := vw1 (q := D.q j) (g := (p j).g) (ru := (p j).runs) (lf := (p j).left) (tu := (p j).turns) (hS.alloc' (.cells #[vp (D.q j), vi (p j).g, .bool (p j).runs, vi (p j).left, vu (p j).turns] 66))
      have HC := Lib.hid hc
      clear hS hc
      go_wp2_with (first
        | (go_at_call 38; refine HC.out.mono ?_; rintro e w1 ⟨rfl, hS1⟩; have H1 := Lib.hid hS1; clear hS1)
        | (at_builtin; refine wpList_append_sl Einto rfl (.tmp 13) (.tmp 17) rfl rfl (H1.out.alloc' _) (by rfl) (Rd.one _ _ _) (by simp [Value.oneCell']) (by unfold maxLen; omega) (by omega) ?_; intro ao6 cap6 w6 hS6; have H7 := Lib.hid hS6; clear hS6))
      go_roundw
      case rel => exact ⟨j + 1, by omega, by go_num, by rw [rowsN_succ]; exact H7.out⟩
      case measure => simp [intOf]; omega
    · obtain rfl : j = D.n := by omega
      have H9 := Lib.hid hS
      clear hS
      go_wp2
      go_ret
      exact ⟨_, rfl, H9.out⟩
set_option maxRecDepth 100000 in
set_option maxHeartbeats 2000000 in
theorem told4 (h : Sat w0 (plB D p gx * F) w) (ho : D.Ok) : Calls Try.prog 37 #[D.v, .func (.func 44) #[] #[]] w fun e w' => ∃ v, e = .returned v ∧ Sat w0 (sl 3 1 v D.n (rowsN (fun k => [vi (p k).left]) D.n) * (plB D p gx * F)) w' := by
  have hn8 := ho.n8
  have H0 := Lib.hid (h.addNil 3 1)
  clear h
  go_enter Try.func37, Try.ntmps37
  go_wp2
  go_loopw [9, 4] (fun i o wr => ∃ j : Nat, j ≤ D.n ∧ i = vi j ∧ Sat w0 (sl 3 1 o j (rowsN (fun k => [vi (p k).left]) j) * (plB D p gx * F)) wr) (fun i _ _ => D.n - (intOf i).toNat)
  case atStart => exact ⟨0, Nat.zero_le _, rfl, H0.out⟩
  case round =>
    clear H0
    obtain ⟨j, hj, rfl, hS⟩ := hrel
    by_cases hlt : j < D.n
    · have hji : (j : Int) < (D.n : Int) := by omega
      obtain ⟨r0, r1, r2, r3, r4⟩ := pl_row hS.dropL hlt
      obtain ⟨ao, cap, rfl⟩ := hS.rd.len
      have hj8 : j < 8 := by omega
      have hc := vw4 (q := D.q j) (g := (p j).g) (ru := (p j).runs) (lf := (p j).left) (tu := (p j).turns) (hS.alloc' (.cells #[vp (D.q j), vi (p j).g, .bool (p j).runs, vi (p j).left, vu (p j).turns] 66))
      have HC := Lib.hid hc
      clear hS hc
      go_wp2_with (first
        | (go_at_call 44; refine HC.out.mono ?_; rintro e w1 ⟨rfl, hS1⟩; have H1 := Lib.hid hS1; clear hS1)
        | (at_builtin; refine wpList_append_sl Einto rfl (.tmp 13) (.tmp 17) rfl rfl (H1.out.alloc' _) (by rfl) (Rd.one _ _ _) (by simp [Value.oneCell']) (by unfold maxLen; omega) (by omega) ?_; intro ao6 cap6 w6 hS6; have H7 := Lib.hid hS6; clear hS6))
      go_roundw
      case rel => exact ⟨j + 1, by omega, by go_num, by rw [rowsN_succ]; exact H7.out⟩
      case measure => simp [intOf]; omega
    · obtain rfl : j = D.n := by omega
      have H9 := Lib.hid hS
      clear hS
      go_wp2
      go_ret
      exact ⟨_, rfl, H9.out⟩
set_option maxRecDepth 100000 in
set_option maxHeartbeats 2000000 in
theorem told5 (h : Sat w0 (plB D p gx * F) w) (ho : D.Ok) : Calls Try.prog 45 #[D.v, .func (.func 46) #[] #[]] w fun e w' => ∃ v, e = .returned v ∧ Sat w0 (sl 64 1 v D.n (rowsN (fun k => [vu (p k).turns]) D.n) * (plB D p gx * F)) w' := by
  have hn8 := ho.n8
  have H0 := Lib.hid (h.addNil 64 1)
  clear h
  go_enter Try.func45, Try.ntmps45
  go_wp2
  go_loopw [9, 4] (fun i o wr => ∃ j : Nat, j ≤ D.n ∧ i = vi j ∧ Sat w0 (sl 64 1 o j (rowsN (fun k => [vu (p k).turns]) j) * (plB D p gx * F)) wr) (fun i _ _ => D.n - (intOf i).toNat)
  case atStart => exact ⟨0, Nat.zero_le _, rfl, H0.out⟩
  case round =>
    clear H0
    obtain ⟨j, hj, rfl, hS⟩ := hrel
    by_cases hlt : j < D.n
    · have hji : (j : Int) < (D.n : Int) := by omega
      obtain ⟨r0, r1, r2, r3, r4⟩ := pl_row hS.dropL hlt
      obtain ⟨ao, cap, rfl⟩ := hS.rd.len
      have hj8 : j < 8 := by omega
      have hc := vw5 (q := D.q j) (g := (p j).g) (ru := (p j).runs) (lf := (p j).left) (tu := (p j).turns) (hS.alloc' (.cells #[vp (D.q j), vi (p j).g, .bool (p j).runs, vi (p j).left, vu (p j).turns] 66))
      have HC := Lib.hid hc
      clear hS hc
      go_wp2_with (first
        | (go_at_call 46; refine HC.out.mono ?_; rintro e w1 ⟨rfl, hS1⟩; have H1 := Lib.hid hS1; clear hS1)
        | (at_builtin; refine wpList_append_sl Eu64o rfl (.tmp 13) (.tmp 17) rfl rfl (H1.out.alloc' _) (by rfl) (Rd.one _ _ _) (by simp [Value.oneCell']) (by unfold maxLen; omega) (by omega) ?_; intro ao6 cap6 w6 hS6; have H7 := Lib.hid hS6; clear hS6))
      go_roundw
      case rel => exact ⟨j + 1, by omega, by go_num, by rw [rowsN_succ]; exact H7.out⟩
      case measure => simp [intOf]; omega
    · obtain rfl : j = D.n := by omega
      have H9 := Lib.hid hS
      clear hS
      go_wp2
      go_ret
      exact ⟨_, rfl, H9.out⟩
set_option maxRecDepth 100000 in
set_option maxHeartbeats 2000000 in
theorem told2 (h : Sat w0 (plB D p gx * F) w) (ho : D.Ok) : Calls Try.prog 37 #[D.v, .func (.func 40) #[] #[]] w fun e w' => ∃ v, e = .returned v ∧ Sat w0 (sl 3 1 v D.n (rowsN (fun k => [vi (someV (p k).z (p k).b)]) D.n) * (plB D p gx * F)) w' := by
  have hn8 := ho.n8
  have H0 := Lib.hid (h.addNil 3 1)
  clear h
  go_enter Try.func37, Try.ntmps37
  go_wp2
  go_loopw [9, 4] (fun i o wr => ∃ j : Nat, j ≤ D.n ∧ i = vi j ∧ Sat w0 (sl 3 1 o j (rowsN (fun k => [vi (someV (p k).z (p k).b)]) j) * (plB D p gx * F)) wr) (fun i _ _ => D.n - (intOf i).toNat)
  case atStart => exact ⟨0, Nat.zero_le _, rfl, H0.out⟩
  case round =>
    clear H0
    obtain ⟨j, hj, rfl, hS⟩ := hrel
    by_cases hlt : j < D.n
    · have hji : (j : Int) < (D.n : Int) := by omega
      obtain ⟨r0, r1, r2, r3, r4⟩ := pl_row hS.dropL hlt
      obtain ⟨ao, cap, rfl⟩ := hS.rd.len
      have hj8 : j < 8 := by omega
      have hc := (vw2 (q := D.q j) (g := (p j).g) (ru := (p j).runs) (lf := (p j).left) (tu := (p j).turns) (pl_out (F := sl 3 1 (.slice ao j cap) j (rowsN (fun k => [vi (someV (p k).z (p k).b)]) j) * F) ((hS.alloc' (.cells #[vp (D.q j), vi (p j).g, .bool (p j).runs, vi (p j).left, vu (p j).turns] 66)).pull2) hlt)).mono fun e w' hh => (⟨hh.1, ((pl_in (y := p j) hh.2 hlt rfl rfl rfl rfl).cast (by rw [up_self])).pull2⟩ : e = Ending.returned (vi (someV (p j).z (p j).b)) ∧ Sat w0 (sl 3 1 (.slice ao j cap) j (rowsN (fun k => [vi (someV (p k).z (p k).b)]) j) * (plB D p gx * F)) w')
      have HC := Lib.hid hc
      clear hS hc
      go_wp2_with (first
        | (go_at_call 40; refine HC.out.mono ?_; rintro e w1 ⟨rfl, hS1⟩; have H1 := Lib.hid hS1; clear hS1)
        | (at_builtin; refine wpList_append_sl Einto rfl (.tmp 13) (.tmp 17) rfl rfl (H1.out.alloc' _) (by rfl) (Rd.one _ _ _) (by simp [Value.oneCell']) (by unfold maxLen; omega) (by omega) ?_; intro ao6 cap6 w6 hS6; have H7 := Lib.hid hS6; clear hS6))
      go_roundw
      case rel => exact ⟨j + 1, by omega, by go_num, by rw [rowsN_succ]; exact H7.out⟩
      case measure => simp [intOf]; omega
    · obtain rfl : j = D.n := by omega
      have H9 := Lib.hid hS
      clear hS
      go_wp2
      go_ret
      exact ⟨_, rfl, H9.out⟩
end
end Go.Proofs.Ytjgemfgneiaabaa.Pc
