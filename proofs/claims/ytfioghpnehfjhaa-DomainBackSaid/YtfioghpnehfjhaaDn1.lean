/-
  Packages num and domain: Add, AddSat, SubSat; may, none, Root. No statement is proved here.
-/
import Derived.Test.YtfioghpnehfjhaaDa3
import Derived.Test.YtfioghpnehfjhaaDa4
import Derived.Test.YtfioghpnehfjhaaDa5
import Derived.Laws.Externs
namespace Go.Proofs.Ytfioghpnehfjhaa.Dm
open Go.RowKit Ad
set_option linter.unusedVariables false

def U64 (x : Int) : Prop := 0 ≤ x ∧ x ≤ 18446744073709551615
def addP (a b : Int) : Option Int := if 18446744073709551615 < a + b then none else some (a + b)
def addV (o : Option Int) : Value := match o with | none => .tuple #[vu 0, .bool false] | some s => .tuple #[vu s, .bool true]
theorem run_A64_no (x y : Int) (hx : 0 ≤ x) (hy : 0 ≤ y) (h : x + y ≤ 18446744073709551615) (w : World) :
    (callFunc 72 #[vu x, vu y, vu 0]).run Try.prog w = .ok (.value (.tuple #[vu (x + y), vu 0])) w := by
  rw [run_callFunc_extern Try.func72 (by kernel_rfl) (by kernel_rfl) (by kernel_rfl) (e := add64Entry) (by kernel_rfl), run_add64 x y 0 hx hy (by omega) (by omega)]
  simp only [Result.andThen]
  rw [show (x + y + 0) % 18446744073709551616 = x + y by omega, show (x + y + 0) / 18446744073709551616 = 0 by omega]
theorem run_A64_yes (x y : Int) (hx : 0 ≤ x) (hy : 0 ≤ y) (hx2 : x ≤ 18446744073709551615) (hy2 : y ≤ 18446744073709551615) (h : 18446744073709551615 < x + y) (w : World) :
    (callFunc 72 #[vu x, vu y, vu 0]).run Try.prog w = .ok (.value (.tuple #[vu (x + y - 18446744073709551616), vu 1])) w := by
  rw [run_callFunc_extern Try.func72 (by kernel_rfl) (by kernel_rfl) (by kernel_rfl) (e := add64Entry) (by kernel_rfl), run_add64 x y 0 hx hy (by omega) (by omega)]
  simp only [Result.andThen]
  rw [show (x + y + 0) % 18446744073709551616 = x + y - 18446744073709551616 by omega, show (x + y + 0) / 18446744073709551616 = 1 by omega]

theorem sat_ (n b : Int) (f : Bool) (w : World) :
    Calls Try.prog 66 #[vu n, .bool f, vu b] w fun e w' => e = .returned (vu (if f then n else b)) ∧ w = w' := by
  cases f
  all_goals
    go_enter Try.func66, Try.ntmps66
    go_wp2
    go_ret
    exact ⟨rfl, rfl⟩
theorem nadd (a b : Int) (ha : U64 a) (hb : U64 b) (w : World) :
    Calls Try.prog 49 #[vu a, vu b] w fun e w' => e = .returned (addV (addP a b)) ∧ w = w' := by
  obtain ⟨a1, a2⟩ := ha
  obtain ⟨b1, b2⟩ := hb
  unfold addP
  by_cases h : 18446744073709551615 < a + b
  · rw [if_pos h]
    have hr := run_A64_yes a b a1 b1 a2 b2 h w
    clear h
    go_enter Try.func49, Try.ntmps49
    go_wp2_with (go_at_call 66; refine (sat_ _ _ _ _).mono ?_; rintro e w' ⟨rfl, rfl⟩)
    go_ret2
    exact ⟨rfl, rfl⟩
  · rw [if_neg h]
    have hr := run_A64_no a b a1 b1 (by omega) w
    clear h
    go_enter Try.func49, Try.ntmps49
    go_wp2_with (go_at_call 66; refine (sat_ _ _ _ _).mono ?_; rintro e w' ⟨rfl, rfl⟩)
    go_ret2
    exact ⟨rfl, rfl⟩
theorem naddSat (a b : Int) (ha : U64 a) (hb : U64 b) (w : World) :
    Calls Try.prog 36 #[vu a, vu b] w fun e w' => e = .returned (vu ((addP a b).getD 18446744073709551615)) ∧ w = w' := by
  have H := Lib.hid (nadd a b ha hb w)
  cases hp : addP a b with
  | none =>
    rw [hp] at H
    have H2 : Hid (Calls Try.prog 49 #[vu a, vu b] w fun e w' => e = .returned (.tuple #[vu 0, .bool false]) ∧ w = w') := H
    clear H hp
    go_enter Try.func36, Try.ntmps36
    go_wp2_with (first | (go_at_call 49; refine H2.out.mono ?_; rintro e w' ⟨rfl, rfl⟩) | (go_at_call 66; refine (sat_ _ _ _ _).mono ?_; rintro e w' ⟨rfl, rfl⟩))
    go_ret
    exact ⟨rfl, rfl⟩
  | some s =>
    rw [hp] at H
    have H2 : Hid (Calls Try.prog 49 #[vu a, vu b] w fun e w' => e = .returned (.tuple #[vu s, .bool true]) ∧ w = w') := H
    clear H hp
    go_enter Try.func36, Try.ntmps36
    go_wp2_with (first | (go_at_call 49; refine H2.out.mono ?_; rintro e w' ⟨rfl, rfl⟩) | (go_at_call 66; refine (sat_ _ _ _ _).mono ?_; rintro e w' ⟨rfl, rfl⟩))
    go_ret
    exact ⟨rfl, rfl⟩

theorem nsub (a b : Int) (ha : U64 a) (hb : U64 b) (w : World) :
    Calls Try.prog 79 #[vu a, vu b] w fun e w' => e = .returned (.tuple #[vu (if b ≤ a then a - b else 0), .bool (decide (b ≤ a))]) ∧ w = w' := by
  obtain ⟨a1, a2⟩ := ha
  obtain ⟨b1, b2⟩ := hb
  by_cases h : b ≤ a
  · rw [if_pos h]
    have hd : decide (b ≤ a) = true := decide_eq_true h
    have hw : IntKind.u64.wrap (a - b) = a - b := IntWalk.u64_in _ (by omega)
    rw [hd]
    go_enter Try.func79, Try.ntmps79
    go_wp2_with (go_at_call 66; refine (sat_ _ _ _ _).mono ?_; rintro e w' ⟨rfl, rfl⟩)
    go_ret2
    exact ⟨by simp, rfl⟩
  · rw [if_neg h]
    have hd : decide (b ≤ a) = false := decide_eq_false h
    rw [hd]
    go_enter Try.func79, Try.ntmps79
    go_wp2_with (go_at_call 66; refine (sat_ _ _ _ _).mono ?_; rintro e w' ⟨rfl, rfl⟩)
    go_ret2
    exact ⟨by simp, rfl⟩
def subS (a b : Int) : Int := if b ≤ a then a - b else 0
theorem nsubSat (a b : Int) (ha : U64 a) (hb : U64 b) (w : World) :
    Calls Try.prog 67 #[vu a, vu b] w fun e w' => e = .returned (vu (subS a b)) ∧ w = w' := by
  have H := nsub a b ha hb w
  rw [show (if b ≤ a then a - b else 0) = subS a b from rfl] at H
  cases hd : decide (b ≤ a) with
  | true =>
    rw [hd] at H
    have HH := Lib.hid H
    clear H hd
    generalize subS a b = s at *
    go_enter Try.func67, Try.ntmps67
    go_wp2_with (first | (go_at_call 79; refine HH.out.mono ?_; rintro e w' ⟨rfl, rfl⟩) | (go_at_call 66; refine (sat_ _ _ _ _).mono ?_; rintro e w' ⟨rfl, rfl⟩))
    go_ret
    exact ⟨rfl, rfl⟩
  | false =>
    rw [hd] at H
    have hz : subS a b = 0 := if_neg (of_decide_eq_false hd)
    rw [hz] at H ⊢
    have HH := Lib.hid H
    clear H hd hz
    go_enter Try.func67, Try.ntmps67
    go_wp2_with (first | (go_at_call 79; refine HH.out.mono ?_; rintro e w' ⟨rfl, rfl⟩) | (go_at_call 66; refine (sat_ _ _ _ _).mono ?_; rintro e w' ⟨rfl, rfl⟩))
    go_ret
    exact ⟨rfl, rfl⟩

/-- Limits that may be. -/
def MayD (gs cpu per : Int) : Prop := 0 ≤ gs ∧ gs ≤ 64 ∧ cpu ≤ 4294967296 ∧ 1 ≤ per ∧ per ≤ 4294967296
instance (gs cpu per : Int) : Decidable (MayD gs cpu per) := inferInstanceAs (Decidable (_ ∧ _))
theorem dm_may (gs cpu per : Int) (w : World) : Calls Try.prog 44 #[vi gs, vu cpu, vu per] w fun e w' => e = .returned (.bool (decide (MayD gs cpu per))) ∧ w = w' := by
  have fin : ∀ (b : Bool), b = decide (MayD gs cpu per) → True := fun _ _ => trivial
  by_cases h1 : 0 ≤ gs
  · by_cases h2 : gs ≤ 64
    · by_cases h3 : cpu ≤ 4294967296
      · by_cases h4 : 1 ≤ per
        · by_cases h5 : per ≤ 4294967296
          · have hd : decide (MayD gs cpu per) = true := decide_eq_true ⟨h1, h2, h3, h4, h5⟩
            rw [hd]
            go_enter Try.func44, Try.ntmps44
            go_wp2
            go_ret
            exact ⟨by simp, rfl⟩
          · have hd : decide (MayD gs cpu per) = false := decide_eq_false (fun h => h5 h.2.2.2.2)
            rw [hd]
            go_enter Try.func44, Try.ntmps44
            go_wp2
            go_ret
            exact ⟨by simp, rfl⟩
        · have hd : decide (MayD gs cpu per) = false := decide_eq_false (fun h => h4 h.2.2.2.1)
          rw [hd]
          go_enter Try.func44, Try.ntmps44
          go_wp2
          go_ret
          exact ⟨by simp, rfl⟩
      · have hd : decide (MayD gs cpu per) = false := decide_eq_false (fun h => h3 h.2.2.1)
        rw [hd]
        go_enter Try.func44, Try.ntmps44
        go_wp2
        go_ret
        exact ⟨by simp, rfl⟩
    · have hd : decide (MayD gs cpu per) = false := decide_eq_false (fun h => h2 h.2.1)
      rw [hd]
      go_enter Try.func44, Try.ntmps44
      go_wp2
      go_ret
      exact ⟨by simp, rfl⟩
  · have hd : decide (MayD gs cpu per) = false := decide_eq_false (fun h => h1 h.1)
    rw [hd]
    go_enter Try.func44, Try.ntmps44
    go_wp2
    go_ret
    exact ⟨by simp, rfl⟩

/-- Domains: a table, and the root's ref. -/
abbrev domB (h p : Nat) : Hp := pc h 94 [vp p, vi 0, vu 1]
section
variable {w0 w : World} {F : Hp} {h p : Nat} {ps : List Pl} {free : List Nat}
theorem dm_none (hS : Sat w0 (domB h p * F) w) : Calls Try.prog 41 #[vp h] w fun e w' => e = .returned (.bool false) ∧ w = w' := by
  have c0 := hS.cell 0 rfl
  clear hS
  go_enter Try.func41, Try.ntmps41
  go_wp2
  go_ret
  exact ⟨rfl, rfl⟩
theorem dm_none0 (w : World) : Calls Try.prog 41 #[.pointer none] w fun e w' => e = .returned (.bool true) ∧ w = w' := by
  go_enter Try.func41, Try.ntmps41
  go_wp2
  go_ret
  exact ⟨rfl, rfl⟩
theorem dm_root (hS : Sat w0 (domB h p * F) w) : Calls Try.prog 31 #[vp h] w fun e w' => e = .returned (vr 0 1) ∧ Sat w0 (domB h p * F) w' := by
  have hB : Sat w0 (pc w.heap.size 32 [vi 0, vu 0] * (domB h p * F)) (w.alloc (.cells #[vi 0, vu 0] 32)) := hS.alloc _
  have HN := Lib.hid (dm_none hB.pull2)
  have c1 := hB.pull2.cell 1 rfl
  have c2 := hB.pull2.cell 2 rfl
  have b0 := hB.cell 0 rfl
  have b1 := hB.cell 1 rfl
  have f0 := hB.free 0
  have f1 := hB.free 1
  have HB := Lib.hid hB
  have hst : Sat w0 (domB h p * F) _ := ((hB.store 0 (vi 0)).store 1 (vu 1)).dropL
  have HST := Lib.hid hst
  clear hS hB hst
  generalize hwb : w.alloc (.cells #[vi 0, vu 0] 32) = wb at *
  generalize hb1 : w.heap.size = bx at *
  have HW := Lib.hid hwb
  have HB1 := Lib.hid hb1
  clear hwb hb1
  go_enter Try.func31, Try.ntmps31
  go_wp2_with fail
  rw [HW.out, HB1.out]
  refine HN.out.mono ?_
  rintro e w' ⟨rfl, rfl⟩
  go_wp2
  trace_state
  refine bodyPost_ret (v := vr 0 1) (by simp [results, Try.f31, go_sem, b0, b1]) rfl ?_
  exact ⟨rfl, HST.out⟩
end
end Go.Proofs.Ytfioghpnehfjhaa.Dm
