/-
  Packages num and domain: Add, AddSat, SubSat; may, none, Root. No statement is proved here.
-/
import Derived.Test.YtdbppfcilaajaaaGreatMg19
import Derived.Test.YtdbppfcilaajaaaGreatMg9
import Derived.Laws.Externs
import Derived.Test.YtdbppfcilaajaaaGreatMg18
set_option linter.unusedVariables false
set_option linter.unusedSimpArgs false
namespace Go.Proofs.YtdbppfcilaajaaaGreat.Dm
open Go.RowKit Ad
set_option linter.unusedVariables false

def U64 (x : Int) : Prop := 0 ≤ x ∧ x ≤ 18446744073709551615
def addP (a b : Int) : Option Int := if 18446744073709551615 < a + b then none else some (a + b)
def addV (o : Option Int) : Value := match o with | none => .tuple #[vu 0, .bool false] | some s => .tuple #[vu s, .bool true]
theorem run_A64_no (x y : Int) (hx : 0 ≤ x) (hy : 0 ≤ y) (h : x + y ≤ 18446744073709551615) (w : World) :
    (callFunc 226 #[vu x, vu y, vu 0]).run Tryz.prog w = .ok (.value (.tuple #[vu (x + y), vu 0])) w := by
  rw [run_callFunc_extern Tryz.func226 (by kernel_rfl) (by kernel_rfl) (by kernel_rfl) (e := add64Entry) (by kernel_rfl), run_add64 x y 0 hx hy (by omega) (by omega)]
  simp only [Result.andThen]
  rw [show (x + y + 0) % 18446744073709551616 = x + y by omega, show (x + y + 0) / 18446744073709551616 = 0 by omega]
theorem run_A64_yes (x y : Int) (hx : 0 ≤ x) (hy : 0 ≤ y) (hx2 : x ≤ 18446744073709551615) (hy2 : y ≤ 18446744073709551615) (h : 18446744073709551615 < x + y) (w : World) :
    (callFunc 226 #[vu x, vu y, vu 0]).run Tryz.prog w = .ok (.value (.tuple #[vu (x + y - 18446744073709551616), vu 1])) w := by
  rw [run_callFunc_extern Tryz.func226 (by kernel_rfl) (by kernel_rfl) (by kernel_rfl) (e := add64Entry) (by kernel_rfl), run_add64 x y 0 hx hy (by omega) (by omega)]
  simp only [Result.andThen]
  rw [show (x + y + 0) % 18446744073709551616 = x + y - 18446744073709551616 by omega, show (x + y + 0) / 18446744073709551616 = 1 by omega]

theorem sat_ (n b : Int) (f : Bool) (w : World) :
    Calls Tryz.prog 227 #[vu n, .bool f, vu b] w fun e w' => e = .returned (vu (if f then n else b)) ∧ w = w' := by
  cases f
  all_goals
    go_enter Tryz.func227, Tryz.ntmps227
    go_wp2
    go_ret
    exact ⟨rfl, rfl⟩
theorem nadd (a b : Int) (ha : U64 a) (hb : U64 b) (w : World) :
    Calls Tryz.prog 191 #[vu a, vu b] w fun e w' => e = .returned (addV (addP a b)) ∧ w = w' := by
  obtain ⟨a1, a2⟩ := ha
  obtain ⟨b1, b2⟩ := hb
  unfold addP
  by_cases h : 18446744073709551615 < a + b
  · rw [if_pos h]
    have hr := run_A64_yes a b a1 b1 a2 b2 h w
    clear h
    go_enter Tryz.func191, Tryz.ntmps191
    go_wp2_with (go_at_call 227; refine (sat_ _ _ _ _).mono ?_; rintro e w' ⟨rfl, rfl⟩)
    go_ret2
    exact ⟨rfl, rfl⟩
  · rw [if_neg h]
    have hr := run_A64_no a b a1 b1 (by omega) w
    clear h
    go_enter Tryz.func191, Tryz.ntmps191
    go_wp2_with (go_at_call 227; refine (sat_ _ _ _ _).mono ?_; rintro e w' ⟨rfl, rfl⟩)
    go_ret2
    exact ⟨rfl, rfl⟩
theorem naddSat (a b : Int) (ha : U64 a) (hb : U64 b) (w : World) :
    Calls Tryz.prog 200 #[vu a, vu b] w fun e w' => e = .returned (vu ((addP a b).getD 18446744073709551615)) ∧ w = w' := by
  have H := Lib.hid (nadd a b ha hb w)
  cases hp : addP a b with
  | none =>
    rw [hp] at H
    have H2 : Hid (Calls Tryz.prog 191 #[vu a, vu b] w fun e w' => e = .returned (.tuple #[vu 0, .bool false]) ∧ w = w') := H
    clear H hp
    go_enter Tryz.func200, Tryz.ntmps200
    go_wp2_with (first | (go_at_call 191; refine H2.out.mono ?_; rintro e w' ⟨rfl, rfl⟩) | (go_at_call 227; refine (sat_ _ _ _ _).mono ?_; rintro e w' ⟨rfl, rfl⟩))
    go_ret
    exact ⟨rfl, rfl⟩
  | some s =>
    rw [hp] at H
    have H2 : Hid (Calls Tryz.prog 191 #[vu a, vu b] w fun e w' => e = .returned (.tuple #[vu s, .bool true]) ∧ w = w') := H
    clear H hp
    go_enter Tryz.func200, Tryz.ntmps200
    go_wp2_with (first | (go_at_call 191; refine H2.out.mono ?_; rintro e w' ⟨rfl, rfl⟩) | (go_at_call 227; refine (sat_ _ _ _ _).mono ?_; rintro e w' ⟨rfl, rfl⟩))
    go_ret
    exact ⟨rfl, rfl⟩

theorem nsub (a b : Int) (ha : U64 a) (hb : U64 b) (w : World) :
    Calls Tryz.prog 239 #[vu a, vu b] w fun e w' => e = .returned (.tuple #[vu (if b ≤ a then a - b else 0), .bool (decide (b ≤ a))]) ∧ w = w' := by
  obtain ⟨a1, a2⟩ := ha
  obtain ⟨b1, b2⟩ := hb
  by_cases h : b ≤ a
  · rw [if_pos h]
    have hd : decide (b ≤ a) = true := decide_eq_true h
    have hw : IntKind.u64.wrap (a - b) = a - b := IntWalk.u64_in _ (by omega)
    rw [hd]
    go_enter Tryz.func239, Tryz.ntmps239
    go_wp2_with (go_at_call 227; refine (sat_ _ _ _ _).mono ?_; rintro e w' ⟨rfl, rfl⟩)
    go_ret2
    exact ⟨by simp, rfl⟩
  · rw [if_neg h]
    have hd : decide (b ≤ a) = false := decide_eq_false h
    rw [hd]
    go_enter Tryz.func239, Tryz.ntmps239
    go_wp2_with (go_at_call 227; refine (sat_ _ _ _ _).mono ?_; rintro e w' ⟨rfl, rfl⟩)
    go_ret2
    exact ⟨by simp, rfl⟩
def subS (a b : Int) : Int := if b ≤ a then a - b else 0
theorem nsubSat (a b : Int) (ha : U64 a) (hb : U64 b) (w : World) :
    Calls Tryz.prog 237 #[vu a, vu b] w fun e w' => e = .returned (vu (subS a b)) ∧ w = w' := by
  have H := nsub a b ha hb w
  rw [show (if b ≤ a then a - b else 0) = subS a b from rfl] at H
  cases hd : decide (b ≤ a) with
  | true =>
    rw [hd] at H
    have HH := Lib.hid H
    clear H hd
    generalize subS a b = s at *
    go_enter Tryz.func237, Tryz.ntmps237
    go_wp2_with (first | (go_at_call 239; refine HH.out.mono ?_; rintro e w' ⟨rfl, rfl⟩) | (go_at_call 227; refine (sat_ _ _ _ _).mono ?_; rintro e w' ⟨rfl, rfl⟩))
    go_ret
    exact ⟨rfl, rfl⟩
  | false =>
    rw [hd] at H
    have hz : subS a b = 0 := if_neg (of_decide_eq_false hd)
    rw [hz] at H ⊢
    have HH := Lib.hid H
    clear H hd hz
    go_enter Tryz.func237, Tryz.ntmps237
    go_wp2_with (first | (go_at_call 239; refine HH.out.mono ?_; rintro e w' ⟨rfl, rfl⟩) | (go_at_call 227; refine (sat_ _ _ _ _).mono ?_; rintro e w' ⟨rfl, rfl⟩))
    go_ret
    exact ⟨rfl, rfl⟩

/-- Limits that may be. -/
def MayD (gs cpu per : Int) : Prop := 0 ≤ gs ∧ gs ≤ 64 ∧ cpu ≤ 4294967296 ∧ 1 ≤ per ∧ per ≤ 4294967296
instance (gs cpu per : Int) : Decidable (MayD gs cpu per) := inferInstanceAs (Decidable (_ ∧ _))
theorem dm_may (gs cpu per : Int) (w : World) : Calls Tryz.prog 93 #[vi gs, vu cpu, vu per] w fun e w' => e = .returned (.bool (decide (MayD gs cpu per))) ∧ w = w' := by
  have fin : ∀ (b : Bool), b = decide (MayD gs cpu per) → True := fun _ _ => trivial
  by_cases h1 : 0 ≤ gs
  · by_cases h2 : gs ≤ 64
    · by_cases h3 : cpu ≤ 4294967296
      · by_cases h4 : 1 ≤ per
        · by_cases h5 : per ≤ 4294967296
          · have hd : decide (MayD gs cpu per) = true := decide_eq_true ⟨h1, h2, h3, h4, h5⟩
            rw [hd]
            go_enter Tryz.func93, Tryz.ntmps93
            go_wp2
            go_ret
            exact ⟨by simp, rfl⟩
          · have hd : decide (MayD gs cpu per) = false := decide_eq_false (fun h => h5 h.2.2.2.2)
            rw [hd]
            go_enter Tryz.func93, Tryz.ntmps93
            go_wp2
            go_ret
            exact ⟨by simp, rfl⟩
        · have hd : decide (MayD gs cpu per) = false := decide_eq_false (fun h => h4 h.2.2.2.1)
          rw [hd]
          go_enter Tryz.func93, Tryz.ntmps93
          go_wp2
          go_ret
          exact ⟨by simp, rfl⟩
      · have hd : decide (MayD gs cpu per) = false := decide_eq_false (fun h => h3 h.2.2.1)
        rw [hd]
        go_enter Tryz.func93, Tryz.ntmps93
        go_wp2
        go_ret
        exact ⟨by simp, rfl⟩
    · have hd : decide (MayD gs cpu per) = false := decide_eq_false (fun h => h2 h.2.1)
      rw [hd]
      go_enter Tryz.func93, Tryz.ntmps93
      go_wp2
      go_ret
      exact ⟨by simp, rfl⟩
  · have hd : decide (MayD gs cpu per) = false := decide_eq_false (fun h => h1 h.1)
    rw [hd]
    go_enter Tryz.func93, Tryz.ntmps93
    go_wp2
    go_ret
    exact ⟨by simp, rfl⟩

/-- Domains: a table, and the root's ref. -/
abbrev domB (h p : Nat) : Hp := pc h 191 [vp p, vi 0, vu 1]
section
variable {w0 w : World} {F : Hp} {h p : Nat} {ps : List Pl} {free : List Nat}
theorem dm_none (hS : Sat w0 (domB h p * F) w) : Calls Tryz.prog 112 #[vp h] w fun e w' => e = .returned (.bool false) ∧ w = w' := by
  have c0 := hS.cell 0 rfl
  clear hS
  go_enter Tryz.func112, Tryz.ntmps112
  go_wp2
  go_ret
  exact ⟨rfl, rfl⟩
theorem dm_root (hS : Sat w0 (domB h p * F) w) : Calls Tryz.prog 50 #[vp h] w fun e w' => e = .returned (vr 0 1) ∧ Sat w0 (domB h p * F) w' := by
  have hB : Sat w0 (pc w.heap.size 30 [vi 0, vu 0] * (domB h p * F)) (w.alloc (.cells #[vi 0, vu 0] 30)) := hS.alloc _
  have HN := Lib.hid (dm_none hB.pull2)
  have c1 := hB.pull2.cell 1 rfl
  have c2 := hB.pull2.cell 2 rfl
  have b0 := hB.cell 0 rfl
  have b1 := hB.cell 1 rfl
  have f0 := hB.free 0
  have f1 := hB.free 1
  have HB := Lib.hid hB
  have hst : Sat w0 (domB h p * F) _ := ((hB.store 0 (vi 0)).store 1 (vu 1)).dropL
  have HST := Lib.hid hst
  clear hS hB hst
  generalize hwb : w.alloc (.cells #[vi 0, vu 0] 30) = wb at *
  generalize hb1 : w.heap.size = bx at *
  have HW := Lib.hid hwb
  have HB1 := Lib.hid hb1
  clear hwb hb1
  go_enter Tryz.func50, Tryz.ntmps50
  go_wp2_with fail
  rw [HW.out, HB1.out]
  refine HN.out.mono ?_
  rintro e w' ⟨rfl, rfl⟩
  go_wp2
  trace_state
  refine bodyPost_ret (v := vr 0 1) (by simp [results, Tryz.f50, go_sem, b0, b1]) rfl ?_
  exact ⟨rfl, HST.out⟩
end
end Go.Proofs.YtdbppfcilaajaaaGreat.Dm

namespace Go.Proofs.YtdbppfcilaajaaaGreat.Dm
open Go.RowKit Ad
set_option linter.unusedVariables false

section
variable {w0 w : World} {F : Hp} {h p : Nat} {ps : List Pl} {free : List Nat}
set_option maxRecDepth 100000 in
set_option maxHeartbeats 2000000 in
theorem dm_get (hS : Sat w0 (domB h p * (tblP p ps free * F)) w) (i g : Int) : Calls Tryz.prog 104 #[vp h, vr i g] w fun e w' => e = .returned (.tuple #[ev (getX ps i g), vi (getE ps i g)]) ∧ Sat w0 (domB h p * (tblP p ps free * F)) w' := by
  have hB0 := ((hS.alloc (.cells #[vi i, vu g] 30)).alloc (elO ez))
  rw [size1] at hB0
  have hB : Sat w0 (elB (w.heap.size + 1) ez * (pc w.heap.size 30 [vi i, vu g] * (domB h p * (tblP p ps free * F)))) ((w.alloc (.cells #[vi i, vu g] 30)).alloc (elO ez)) := hB0
  have HN := Lib.hid (dm_none hB.pull3)
  have HG := Lib.hid (get_ (hB.drew.pull4) i g)
  have HB := Lib.hid hB
  clear hB hB0 hS
  generalize hwb : (w.alloc (.cells #[vi i, vu g] 30)).alloc (elO ez) = wb at *
  generalize hb1 : w.heap.size + 1 = bx at *
  generalize hb2 : w.heap.size = b2 at *
  have HW := Lib.hid hwb
  have HB1 := Lib.hid hb1
  have HB2 := Lib.hid hb2
  clear hwb hb1 hb2
  generalize getX ps i g = x at *
  generalize getE ps i g = er at *
  go_enter Tryz.func104, Tryz.ntmps104
  go_wp2_with fail
  rw [HW.out, HB2.out, HB1.out]
  refine HN.out.mono ?_
  rintro e w' ⟨rfl, rfl⟩
  go_wp2
  have hS0 : (fun w' => w'.cell? ⟨h, 0, none⟩ = some (vp p) ∧ w'.cell? ⟨b2, 0, none⟩ = some (vi i) ∧ w'.cell? ⟨b2, 1, none⟩ = some (vu g)) wb.drew := ⟨HB.out.drew.pull3.cell 0 rfl, HB.out.drew.pull2.cell 0 rfl, HB.out.drew.pull2.cell 1 rfl⟩
  refine wp_region_held (S := fun w' => w'.cell? ⟨h, 0, none⟩ = some (vp p) ∧ w'.cell? ⟨b2, 0, none⟩ = some (vi i) ∧ w'.cell? ⟨b2, 1, none⟩ = some (vu g)) (by kernel_rfl) ?_
  change wpAnyH _ _ _ _ _ _ _ _ (World.drew _)
  refine wpAnyH_take (i := 0) (v := vp h) rfl (by kernel_rfl) (by kernel_rfl) (by kernel_rfl) (fun _ _ _ h => h) (Or.inl ⟨by rfl, fun w' hw' => by go_simp⟩) hS0 ?_
  simp only [Act.put, List.setIfInBounds_toArray, List.set_cons_zero, List.set_cons_succ]
  refine wpAnyH_take (i := 1) (v := vp h) rfl (by kernel_rfl) (by kernel_rfl) (by kernel_rfl) (fun _ _ _ h => h) (Or.inl ⟨by rfl, fun w' hw' => by go_simp⟩) hS0 ?_
  simp only [Act.put, List.setIfInBounds_toArray, List.set_cons_zero, List.set_cons_succ]
  refine wpAnyH_take (i := 2) (v := (.pointer (some ⟨h, 0, none⟩))) rfl (by kernel_rfl) (by kernel_rfl) (by kernel_rfl) (fun _ _ _ h => h) (Or.inl ⟨by rfl, fun w' hw' => by go_simp⟩) hS0 ?_
  simp only [Act.put, List.setIfInBounds_toArray, List.set_cons_zero, List.set_cons_succ]
  refine wpAnyH_take (i := 3) (v := vp p) rfl (by kernel_rfl) (by kernel_rfl) (by kernel_rfl) (fun _ _ _ h => h) (Or.inl ⟨by rfl, fun w' hw' => by (have h1 := hw'.1; go_simp)⟩) hS0 ?_
  simp only [Act.put, List.setIfInBounds_toArray, List.set_cons_zero, List.set_cons_succ]
  refine wpAnyH_take (i := 4) (v := vr i g) rfl (by kernel_rfl) (by kernel_rfl) (by kernel_rfl) (fun _ _ _ h => h) (Or.inl ⟨by rfl, fun w' hw' => by (have h1 := hw'.2.1; have h2 := hw'.2.2; go_simp)⟩) hS0 ?_
  simp only [Act.put, List.setIfInBounds_toArray, List.set_cons_zero, List.set_cons_succ]
  refine wpAnyH_ready (rs := [5]) (by kernel_rfl) (by simp) ?_
  refine AllReadyH.cons rfl (fun K hK => ?_) AllReadyH.nil
  go_simp
  refine HG.out.mono ?_
  rintro e w1 ⟨rfl, hS1⟩
  have HX := Lib.hid hS1.pull2
  have hS1' : (fun w' => w'.cell? ⟨h, 0, none⟩ = some (vp p) ∧ w'.cell? ⟨b2, 0, none⟩ = some (vi i) ∧ w'.cell? ⟨b2, 1, none⟩ = some (vu g)) w1 := ⟨HX.out.pull4.cell 0 rfl, HX.out.pull3.cell 0 rfl, HX.out.pull3.cell 1 rfl⟩
  clear hS1
  refine hK.out _ _ hS1' (fun _ => ?_)
  try simp only [Act.put, List.setIfInBounds_toArray, List.set_cons_zero, List.set_cons_succ]
  refine wpAnyH_take (i := 6) (v := ev x) rfl (by kernel_rfl) (by kernel_rfl) (by kernel_rfl) (fun _ _ _ h => h) (Or.inl ⟨by rfl, fun w' hw' => by go_simp⟩) hS1' ?_
  simp only [Act.put, List.setIfInBounds_toArray, List.set_cons_zero, List.set_cons_succ]
  refine wpAnyH_take (i := 7) (v := vi er) rfl (by kernel_rfl) (by kernel_rfl) (by kernel_rfl) (fun _ _ _ h => h) (Or.inl ⟨by rfl, fun w' hw' => by go_simp⟩) hS1' ?_
  simp only [Act.put, List.setIfInBounds_toArray, List.set_cons_zero, List.set_cons_succ]
  refine wpAnyH_ready (rs := [8]) (by kernel_rfl) (by simp) ?_
  refine AllReadyH.cons rfl (fun K' hK' => ?_) AllReadyH.nil
  rw [if_pos (by rfl)]
  have hth := there_ (n := 11) HX.out rfl
  have hrg := World.rangeAt_setCells_same w1 bx 0 (elC x) hth
  have hst : Sat w0 _ (w1.setCells bx 0 (elC x)) := HX.out.stores (elC x) 0
  refine wp_store_mid 188 _ _ rfl bx 0 (elC x).toArray (by rfl) (by rfl) hth einfo (all_oneCell_toArray (elOne x)) ?_
  have hst2 : Sat w0 _ (w1.setCells bx 0 (elC x).toArray.toList) := hst
  have hrg : (w1.setCells bx 0 (elC x).toArray.toList).rangeAt bx 0 (elC x) := hrg
  generalize w1.setCells bx 0 (elC x).toArray.toList = w2 at *
  have HX2 := Lib.hid hst2
  have hS2 : (fun w' => w'.cell? ⟨h, 0, none⟩ = some (vp p) ∧ w'.cell? ⟨b2, 0, none⟩ = some (vi i) ∧ w'.cell? ⟨b2, 1, none⟩ = some (vu g)) w2 := ⟨HX2.out.pull4.cell 0 rfl, HX2.out.pull3.cell 0 rfl, HX2.out.pull3.cell 1 rfl⟩
  clear hst hst2 hth
  refine hK'.out _ _ hS2 (fun _ => ?_)
  try simp only [Act.put, List.setIfInBounds_toArray, List.set_cons_zero, List.set_cons_succ]
  refine wpAnyH_ready (rs := [9]) (by kernel_rfl) (by simp) ?_
  refine AllReadyH.cons rfl (fun K'' hK'' => ?_) AllReadyH.nil
  go_simp
  refine hK''.out _ _ hS2 (fun _ => ?_)
  try simp only [Act.put, List.setIfInBounds_toArray, List.set_cons_zero, List.set_cons_succ]
  refine wpAnyH_done (by kernel_rfl) ?_ _
  clear hS0 hS1' hS2 hK hK' hK''
  go_wp2
  (try simp only [Exit.inBlock, Exit.then])
  refine bodyPost_ret (v := .tuple #[ev x, vi er]) (results_row rfl _ _ _ rfl rfl hrg Tryz.underlying188 rfl einfo) rfl ?_
  exact ⟨rfl, HX2.out.dropL.pull2.dropL.pull2⟩
end
end Go.Proofs.YtdbppfcilaajaaaGreat.Dm
