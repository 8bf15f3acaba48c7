/-
  Package place: View's closures. No statement is proved here.
-/
import Derived.Test.YtjgemfgneiaabaaGreatMg16
import Derived.Test.YtjgemfgneiaabaaGreatRs
import Derived.Test.YtjgemfgneiaabaaGreatPm8
namespace Go.Proofs.YtjgemfgneiaabaaGreat.Pc
open Go.RowKit Rq Gq
set_option linter.unusedVariables false
set_option linter.unusedSimpArgs false

section
variable {w0 w : World} {F : Hp} {D : Ad} {p : Nat → Pl} {gx : List Int}
def someV (g : Int) (ru : Bool) : Int := if ru then g else -1
theorem some_ (g : Int) (ru : Bool) (w : World) : Calls Tryz.prog 62 #[vi g, .bool ru] w fun e w' => e = .returned (vi (someV g ru)) ∧ w = w' := by
  cases ru
  all_goals
    go_enter Tryz.func62, Tryz.ntmps62
    go_wp2
    go_ret
    exact ⟨rfl, rfl⟩
variable {q r m : Nat} {g lf tu z : Int} {ru b : Bool} {xs : List Int}
theorem vw1 (h : Sat w0 F w) : Calls Tryz.prog 61 #[(.agg #[vp q, vi g, .bool ru, vi lf, vu tu])] w fun e w' => e = .returned (vi (someV g ru)) ∧ Sat w0 F w' := by
  have H := Lib.hid (h.alloc' (.cells #[vp q, vi g, .bool ru, vi lf, vu tu] 64))
  clear h
  go_enter Tryz.func61, Tryz.ntmps61
  go_wp2_with (go_at_call 62; refine (some_ _ _ _).mono ?_; rintro e w' ⟨rfl, rfl⟩)
  go_ret
  exact ⟨rfl, H.out⟩
theorem vw4 (h : Sat w0 F w) : Calls Tryz.prog 67 #[(.agg #[vp q, vi g, .bool ru, vi lf, vu tu])] w fun e w' => e = .returned (vi lf) ∧ Sat w0 F w' := by
  have H := Lib.hid (h.alloc' (.cells #[vp q, vi g, .bool ru, vi lf, vu tu] 64))
  clear h
  go_enter Tryz.func67, Tryz.ntmps67
  go_wp2
  go_ret
  exact ⟨rfl, H.out⟩
theorem vw5 (h : Sat w0 F w) : Calls Tryz.prog 69 #[(.agg #[vp q, vi g, .bool ru, vi lf, vu tu])] w fun e w' => e = .returned (vu tu) ∧ Sat w0 F w' := by
  have H := Lib.hid (h.alloc' (.cells #[vp q, vi g, .bool ru, vi lf, vu tu] 64))
  clear h
  go_enter Tryz.func69, Tryz.ntmps69
  go_wp2
  go_ret
  exact ⟨rfl, H.out⟩
theorem vw2 (h : Sat w0 (quB q r z b * F) w) : Calls Tryz.prog 63 #[(.agg #[vp q, vi g, .bool ru, vi lf, vu tu])] w fun e w' => e = .returned (vi (someV z b)) ∧ Sat w0 (quB q r z b * F) w' := by
  have h1 := h.alloc' (.cells #[vp q, vi g, .bool ru, vi lf, vu tu] 64)
  have HN := Lib.hid (q_next h1)
  have H := Lib.hid h1
  have hz : someV (if b then z else 0) b = someV z b := by cases b <;> rfl
  have HS := Lib.hid (some_ (if b then z else 0) b)
  rw [hz] at HS
  clear h h1 hz
  cases b
  all_goals
    go_enter Tryz.func63, Tryz.ntmps63
    go_wp2_with (first
      | (go_at_call 55; refine HN.out.mono ?_; rintro e w' ⟨rfl, rfl⟩)
      | (go_at_call 62; refine (HS.out _).mono ?_; rintro e w' ⟨rfl, rfl⟩))
    go_ret
    exact ⟨rfl, H.out⟩
theorem rs_tail {g1 n c o : Nat} {y : Value} {vs : List Value} (h : Sat w0 (sl 3 1 (.slice (some ⟨g1, 0, none⟩) (n + 1) (c + 1)) (n + 1) (y :: vs) * F) w) (ho : (c = 0) ∨ o = 1) : Sat w0 (rs 3 (.slice (some ⟨g1, o, none⟩) n c) vs * F) w := by
  have hl := h.slLen
  have hvs : vs.length = n := by simp at hl; omega
  obtain ⟨cur, h1, h2, h3, h4, hS⟩ := h.slP
  rw [← hvs]
  refine hS.rsI (by omega) (by omega) fun j u hj => ?_
  rcases ho with rfl | rfl
  · have : vs = [] := List.length_eq_zero_iff.1 (by omega)
    rw [this] at hj
    simp at hj
  · have h5 : (y :: vs)[1 + j]? = some u := by rw [Nat.add_comm]; simpa using hj
    rw [← h4, List.getElem?_take] at h5
    split at h5
    · exact h5
    · cases h5
set_option maxHeartbeats 1000000 in
theorem vw3 (h : Sat w0 (quB q r z b * (ringP r m xs * F)) w) : Calls Tryz.prog 65 #[(.agg #[vp q, vi g, .bool ru, vi lf, vu tu])] w fun e w' => ∃ v, e = .returned v ∧ Sat w0 (rs 3 v (xs.map vi) * (quB q r z b * (ringP r m xs * F))) w' := by
  have h1 : Sat w0 (pc w.heap.size 64 [vp q, vi g, .bool ru, vi lf, vu tu] * (quB q r z b * (ringP r m xs * F))) (w.alloc (.cells #[vp q, vi g, .bool ru, vi lf, vu tu] 64)) := h.alloc _
  have HA := Lib.hid (q_all (F := pc w.heap.size 64 [vp q, vi g, .bool ru, vi lf, vu tu] * F) (h1.cast (by ac_rfl)))
  clear h h1
  cases b with
  | false =>
    go_enter Tryz.func65, Tryz.ntmps65
    go_wp2_with (first
      | (go_at_call 66; refine HA.out.mono ?_; rintro e w1 ⟨v, rfl, hS⟩; obtain ⟨ao, cap, rfl⟩ := hS.rd.len; have x0 := hS.pull4.cell 0 rfl; have HN := Lib.hid (q_next hS.pull2); have H1 := Lib.hid hS; clear hS)
      | (go_at_call 55; refine HN.out.mono ?_; rintro e w' ⟨rfl, rfl⟩))
    go_ret
    exact ⟨_, rfl, (Sat.rsOfSl H1.out).pull4.dropL⟩
  | true =>
    rw [show allQ xs z true = z :: xs from rfl, List.length_cons, List.map_cons] at HA
    go_enter Tryz.func65, Tryz.ntmps65
    go_wp2_with (first
      | (go_at_call 66; refine HA.out.mono ?_; rintro e w1 ⟨v, rfl, hS⟩; obtain ⟨g1, ca, rfl, hca⟩ := slPos hS (by omega); obtain ⟨cb, rfl⟩ : ∃ cb, ca = cb + 1 := ⟨ca - 1, by omega⟩; have x0 := hS.pull4.cell 0 rfl; have HN := Lib.hid (q_next hS.pull2); have H1 := Lib.hid (show Sat w0 (sl 3 1 (.slice (some ⟨g1, 0, none⟩) (xs.length + 1) (cb + 1)) (xs.length + 1) (vi z :: xs.map vi) * _) w1 from hS); have hca' : xs.length ≤ cb := (by omega); clear hS)
      | (go_at_call 55; refine HN.out.mono ?_; rintro e w' ⟨rfl, rfl⟩))
    all_goals go_ret
    all_goals first | (obtain rfl : cb = 0 := (by omega); exact ⟨_, rfl, (rs_tail (o := 0) H1.out (.inl rfl)).pull4.dropL⟩) | exact ⟨_, rfl, (rs_tail (o := 1) H1.out (.inr rfl)).pull4.dropL⟩
end
end Go.Proofs.YtjgemfgneiaabaaGreat.Pc

namespace Go.Proofs.YtjgemfgneiaabaaGreat.Pc
open Go.RowKit Rq Gq
set_option linter.unusedVariables false
set_option linter.unusedSimpArgs false

section
variable {w0 w : World} {F : Hp} {D : Ad} {p : Nat → Pl} {gx : List Int}
theorem Einto : SlT Tryz.prog 41 3 1 8 (.int .i64 0) := SlT.mk' Tryz.underlying41 (by kernel_rfl) rfl (by decide)
theorem Eu64o : SlT Tryz.prog 45 62 1 8 (.int .u64 0) := SlT.mk' Tryz.underlying45 (by kernel_rfl) rfl (by decide)
theorem Eintso : SlT Tryz.prog 44 41 1 24 (.slice none 0 0) := SlT.mk' Tryz.underlying44 (by kernel_rfl) rfl (by decide)
set_option maxRecDepth 100000 in
set_option maxHeartbeats 2000000 in
theorem told1 (h : Sat w0 (plB D p gx * F) w) (ho : D.Ok) : Calls Tryz.prog 60 #[D.v, .func (.func 61) #[] #[]] w fun e w' => ∃ v, e = .returned v ∧ Sat w0 (sl 3 1 v D.n (rowsN (fun k => [vi (someV (p k).g (p k).runs)]) D.n) * (plB D p gx * F)) w' := by
  have hn8 := ho.n8
  have H0 := Lib.hid (h.addNil 3 1)
  clear h
  go_enter Tryz.func60, Tryz.ntmps60
  go_wp2
  go_loopw [9, 4] (fun i o wr => ∃ j : Nat, j ≤ D.n ∧ i = vi j ∧ Sat w0 (sl 3 1 o j (rowsN (fun k => [vi (someV (p k).g (p k).runs)]) j) * (plB D p gx * F)) wr) (fun i _ _ => D.n - (intOf i).toNat)
  case atStart => exact ⟨0, Nat.zero_le _, rfl, H0.out⟩
  case round =>
    clear H0
    obtain ⟨j, hj, rfl, hS⟩ := hrel
    by_cases hlt : j < D.n
    · have hji : (j : Int) < (D.n : Int) := by omega
      obtain ⟨r0, r1, r2, r3, r4⟩ := pl_row hS.dropL hlt
      obtain ⟨ao, cap, rfl⟩ := hS.rd.len
      have hj8 : j < 8 := by omega
      have hc := vw1 (q := D.q j) (g := (p j).g) (ru := (p j).runs) (lf := (p j).left) (tu := (p j).turns) (hS.alloc' (.cells #[vp (D.q j), vi (p j).g, .bool (p j).runs, vi (p j).left, vu (p j).turns] 64))
      have HC := Lib.hid hc
      clear hS hc
      go_wp2_with (first
        | (go_at_call 61; refine HC.out.mono ?_; rintro e w1 ⟨rfl, hS1⟩; have H1 := Lib.hid hS1; clear hS1)
        | (at_builtin; refine wpList_append_sl Einto rfl (.tmp 13) (.tmp 17) rfl rfl (H1.out.alloc' _) (by rfl) (Rd.one _ _ _) (by simp [Value.oneCell']) (by unfold maxLen; omega) (by omega) ?_; intro ao6 cap6 w6 hS6; have H7 := Lib.hid hS6; clear hS6))
      go_roundw
      case rel => exact ⟨j + 1, by omega, by go_num, by rw [rowsN_succ]; exact H7.out⟩
      case measure => simp [intOf]; omega
    · obtain rfl : j = D.n := by omega
      have H9 := Lib.hid hS
      clear hS
      go_wp2
      go_ret
      exact ⟨_, rfl, H9.out⟩
set_option maxRecDepth 100000 in
set_option maxHeartbeats 2000000 in
theorem told4 (h : Sat w0 (plB D p gx * F) w) (ho : D.Ok) : Calls Tryz.prog 60 #[D.v, .func (.func 67) #[] #[]] w fun e w' => ∃ v, e = .returned v ∧ Sat w0 (sl 3 1 v D.n (rowsN (fun k => [vi (p k).left]) D.n) * (plB D p gx * F)) w' := by
  have hn8 := ho.n8
  have H0 := Lib.hid (h.addNil 3 1)
  clear h
  go_enter Tryz.func60, Tryz.ntmps60
  go_wp2
  go_loopw [9, 4] (fun i o wr => ∃ j : Nat, j ≤ D.n ∧ i = vi j ∧ Sat w0 (sl 3 1 o j (rowsN (fun k => [vi (p k).left]) j) * (plB D p gx * F)) wr) (fun i _ _ => D.n - (intOf i).toNat)
  case atStart => exact ⟨0, Nat.zero_le _, rfl, H0.out⟩
  case round =>
    clear H0
    obtain ⟨j, hj, rfl, hS⟩ := hrel
    by_cases hlt : j < D.n
    · have hji : (j : Int) < (D.n : Int) := by omega
      obtain ⟨r0, r1, r2, r3, r4⟩ := pl_row hS.dropL hlt
      obtain ⟨ao, cap, rfl⟩ := hS.rd.len
      have hj8 : j < 8 := by omega
      have hc := vw4 (q := D.q j) (g := (p j).g) (ru := (p j).runs) (lf := (p j).left) (tu := (p j).turns) (hS.alloc' (.cells #[vp (D.q j), vi (p j).g, .bool (p j).runs, vi (p j).left, vu (p j).turns] 64))
      have HC := Lib.hid hc
      clear hS hc
      go_wp2_with (first
        | (go_at_call 67; refine HC.out.mono ?_; rintro e w1 ⟨rfl, hS1⟩; have H1 := Lib.hid hS1; clear hS1)
        | (at_builtin; refine wpList_append_sl Einto rfl (.tmp 13) (.tmp 17) rfl rfl (H1.out.alloc' _) (by rfl) (Rd.one _ _ _) (by simp [Value.oneCell']) (by unfold maxLen; omega) (by omega) ?_; intro ao6 cap6 w6 hS6; have H7 := Lib.hid hS6; clear hS6))
      go_roundw
      case rel => exact ⟨j + 1, by omega, by go_num, by rw [rowsN_succ]; exact H7.out⟩
      case measure => simp [intOf]; omega
    · obtain rfl : j = D.n := by omega
      have H9 := Lib.hid hS
      clear hS
      go_wp2
      go_ret
      exact ⟨_, rfl, H9.out⟩
set_option maxRecDepth 100000 in
set_option maxHeartbeats 2000000 in
theorem told5 (h : Sat w0 (plB D p gx * F) w) (ho : D.Ok) : Calls Tryz.prog 68 #[D.v, .func (.func 69) #[] #[]] w fun e w' => ∃ v, e = .returned v ∧ Sat w0 (sl 62 1 v D.n (rowsN (fun k => [vu (p k).turns]) D.n) * (plB D p gx * F)) w' := by
  have hn8 := ho.n8
  have H0 := Lib.hid (h.addNil 62 1)
  clear h
  go_enter Tryz.func68, Tryz.ntmps68
  go_wp2
  go_loopw [9, 4] (fun i o wr => ∃ j : Nat, j ≤ D.n ∧ i = vi j ∧ Sat w0 (sl 62 1 o j (rowsN (fun k => [vu (p k).turns]) j) * (plB D p gx * F)) wr) (fun i _ _ => D.n - (intOf i).toNat)
  case atStart => exact ⟨0, Nat.zero_le _, rfl, H0.out⟩
  case round =>
    clear H0
    obtain ⟨j, hj, rfl, hS⟩ := hrel
    by_cases hlt : j < D.n
    · have hji : (j : Int) < (D.n : Int) := by omega
      obtain ⟨r0, r1, r2, r3, r4⟩ := pl_row hS.dropL hlt
      obtain ⟨ao, cap, rfl⟩ := hS.rd.len
      have hj8 : j < 8 := by omega
      have hc := vw5 (q := D.q j) (g := (p j).g) (ru := (p j).runs) (lf := (p j).left) (tu := (p j).turns) (hS.alloc' (.cells #[vp (D.q j), vi (p j).g, .bool (p j).runs, vi (p j).left, vu (p j).turns] 64))
      have HC := Lib.hid hc
      clear hS hc
      go_wp2_with (first
        | (go_at_call 69; refine HC.out.mono ?_; rintro e w1 ⟨rfl, hS1⟩; have H1 := Lib.hid hS1; clear hS1)
        | (at_builtin; refine wpList_append_sl Eu64o rfl (.tmp 13) (.tmp 17) rfl rfl (H1.out.alloc' _) (by rfl) (Rd.one _ _ _) (by simp [Value.oneCell']) (by unfold maxLen; omega) (by omega) ?_; intro ao6 cap6 w6 hS6; have H7 := Lib.hid hS6; clear hS6))
      go_roundw
      case rel => exact ⟨j + 1, by omega, by go_num, by rw [rowsN_succ]; exact H7.out⟩
      case measure => simp [intOf]; omega
    · obtain rfl : j = D.n := by omega
      have H9 := Lib.hid hS
      clear hS
      go_wp2
      go_ret
      exact ⟨_, rfl, H9.out⟩
set_option maxRecDepth 100000 in
set_option maxHeartbeats 2000000 in
theorem told2 (h : Sat w0 (plB D p gx * F) w) (ho : D.Ok) : Calls Tryz.prog 60 #[D.v, .func (.func 63) #[] #[]] w fun e w' => ∃ v, e = .returned v ∧ Sat w0 (sl 3 1 v D.n (rowsN (fun k => [vi (someV (p k).z (p k).b)]) D.n) * (plB D p gx * F)) w' := by
  have hn8 := ho.n8
  have H0 := Lib.hid (h.addNil 3 1)
  clear h
  go_enter Tryz.func60, Tryz.ntmps60
  go_wp2
  go_loopw [9, 4] (fun i o wr => ∃ j : Nat, j ≤ D.n ∧ i = vi j ∧ Sat w0 (sl 3 1 o j (rowsN (fun k => [vi (someV (p k).z (p k).b)]) j) * (plB D p gx * F)) wr) (fun i _ _ => D.n - (intOf i).toNat)
  case atStart => exact ⟨0, Nat.zero_le _, rfl, H0.out⟩
  case round =>
    clear H0
    obtain ⟨j, hj, rfl, hS⟩ := hrel
    by_cases hlt : j < D.n
    · have hji : (j : Int) < (D.n : Int) := by omega
      obtain ⟨r0, r1, r2, r3, r4⟩ := pl_row hS.dropL hlt
      obtain ⟨ao, cap, rfl⟩ := hS.rd.len
      have hj8 : j < 8 := by omega
      have hc := (vw2 (q := D.q j) (g := (p j).g) (ru := (p j).runs) (lf := (p j).left) (tu := (p j).turns) (pl_out (F := sl 3 1 (.slice ao j cap) j (rowsN (fun k => [vi (someV (p k).z (p k).b)]) j) * F) ((hS.alloc' (.cells #[vp (D.q j), vi (p j).g, .bool (p j).runs, vi (p j).left, vu (p j).turns] 64)).pull2) hlt)).mono fun e w' hh => (⟨hh.1, ((pl_in (y := p j) hh.2 hlt rfl rfl rfl rfl).cast (by rw [up_self])).pull2⟩ : e = Ending.returned (vi (someV (p j).z (p j).b)) ∧ Sat w0 (sl 3 1 (.slice ao j cap) j (rowsN (fun k => [vi (someV (p k).z (p k).b)]) j) * (plB D p gx * F)) w')
      have HC := Lib.hid hc
      clear hS hc
      go_wp2_with (first
        | (go_at_call 63; refine HC.out.mono ?_; rintro e w1 ⟨rfl, hS1⟩; have H1 := Lib.hid hS1; clear hS1)
        | (at_builtin; refine wpList_append_sl Einto rfl (.tmp 13) (.tmp 17) rfl rfl (H1.out.alloc' _) (by rfl) (Rd.one _ _ _) (by simp [Value.oneCell']) (by unfold maxLen; omega) (by omega) ?_; intro ao6 cap6 w6 hS6; have H7 := Lib.hid hS6; clear hS6))
      go_roundw
      case rel => exact ⟨j + 1, by omega, by go_num, by rw [rowsN_succ]; exact H7.out⟩
      case measure => simp [intOf]; omega
    · obtain rfl : j = D.n := by omega
      have H9 := Lib.hid hS
      clear hS
      go_wp2
      go_ret
      exact ⟨_, rfl, H9.out⟩
end
end Go.Proofs.YtjgemfgneiaabaaGreat.Pc
