/-
  Package kernel: New's closures that make the first context, the first goroutine. No statement is proved here.
-/
import Derived.Test.YtdbppfcilaajaaaGreatMg12
import Derived.Test.YtdbppfcilaajaaaGreatProg
import Derived.Test.YtdbppfcilaajaaaGreatMg3
import Derived.Laws.Externs
namespace Go.Proofs.YtdbppfcilaajaaaGreat.Kn
open Go.RowKit Pc
set_option linter.unusedVariables false
set_option linter.unusedSimpArgs false

section
variable {w0 w : World} {F Y Y' : Hp} {bc bk be bl br kk ps gs c d : Nat} {pr er x0 x1 : Value} {x y : Int}
abbrev rfO (x y : Int) : List Value := [.int .i64 x, .int .u64 y]
abbrev nw7 (bc bk be bl kk ps gs : Nat) (pr er : Value) (x0 x1 : Value) (Y F : Hp) : Hp := pc bk 35 [vp kk] * (pc bc 27 (cfgL ps gs pr) * (pc bl 30 [x0, x1] * (pc be 32 [er] * (Y * F))))
abbrev nwS7 (bc bk kk c : Nat) (w' : World) : Prop := w'.cell? ⟨bk, 0, none⟩ = some (vp kk) ∧ w'.cell? ⟨kk, 17, none⟩ = some (vp c) ∧ w'.cell? ⟨bc, 12, none⟩ = some (vu 100) ∧ w'.cell? ⟨bc, 13, none⟩ = some (vu 20)
theorem nw_S7 (h : Sat w0 (nw7 bc bk be bl kk ps gs pr er x0 x1 Y F) w) (hk : w.cell? ⟨kk, 17, none⟩ = some (vp c)) : nwS7 bc bk kk c w := ⟨h.cell 0 rfl, hk, h.pull2.cell 12 rfl, h.pull2.cell 13 rfl⟩
theorem nw_k7 {P : World → Prop} (hk : ∀ (H : Hp) (w : World), Sat w0 (Y * H) w → P w) (h : Sat w0 (nw7 bc bk be bl kk ps gs pr er x0 x1 Y F) w) : P w := hk (pc bk 35 [vp kk] * (pc bc 27 (cfgL ps gs pr) * (pc bl 30 [x0, x1] * (pc be 32 [er] * F)))) _ (h.cast (by simp only [nw7]; ac_rfl))
set_option maxRecDepth 100000 in
set_option maxHeartbeats 4000000 in
theorem new_7 (h : Sat w0 (nw7 bc bk be bl kk ps gs pr er x0 x1 Y F) w)
    (hk : ∀ (H : Hp) (w : World), Sat w0 (Y * H) w → w.cell? ⟨kk, 17, none⟩ = some (vp c)) (hk' : ∀ (H : Hp) (w : World), Sat w0 (Y' * H) w → w.cell? ⟨kk, 17, none⟩ = some (vp c))
    (hc : ∀ (H : Hp) (w : World), Sat w0 (Y * H) w → Calls Tryz.prog 47 #[vp c, vu 100, vu 20, vu 0] w fun e w' => e = .returned (.tuple #[.agg #[.int .i64 x, .int .u64 y], vi 0]) ∧ Sat w0 (Y' * H) w') :
    Calls Tryz.prog 46 #[vp bk, vp bc, vp bl, vp be] w fun e w' => e = .returned (vi 0) ∧ Sat w0 (nw7 bc bk be bl kk ps gs pr (vi 0) (.int .i64 x) (.int .u64 y) Y' F) w' := by
  have hD := h.drew
  have T0 := Lib.hid (nw_S7 hD (nw_k7 hk hD))
  have HC := Lib.hid (hc (pc bk 35 [vp kk] * (pc bc 27 (cfgL ps gs pr) * (pc bl 30 [x0, x1] * (pc be 32 [er] * F)))) _ (hD.cast (by simp only [nw7]; ac_rfl)))
  have HK := Lib.hid hk'
  clear h hc hD hk hk'
  go_enter Tryz.func46, Tryz.ntmps46
  go_wp2
  go_region_held3 (nwS7 bc bk kk c)
    (first | (with_reducible exact T3.out) | (with_reducible exact T2.out) | (with_reducible exact T1.out) | (with_reducible exact T0.out))
    (first
      | (go_at_call 47; refine HC.out.mono ?_; rintro e w1 ⟨rfl, hS1⟩; have hE : Sat w0 (nw7 bc bk be bl kk ps gs pr er x0 x1 Y' F) w1 := hS1.cast (by simp only [nw7]; ac_rfl); have T1 := Lib.hid (nw_S7 hE (nw_k7 HK.out hE)); have a0 := hE.pull3.cell 0 rfl; have a1 := hE.pull3.cell 1 rfl; have b0 := hE.pull3.free 0; have b1 := hE.pull3.free 1; have hs1 : Sat w0 (nw7 bc bk be bl kk ps gs pr er (.int .i64 x) (.int .u64 y) Y' F) _ := (((hE.pull3.store 0 (.int .i64 x)).store 1 (.int .u64 y)).cast (by simp only [nw7, List.set_cons_zero, List.set_cons_succ]; ac_rfl)); have T2 := Lib.hid (nw_S7 hs1 (nw_k7 HK.out hs1)); have a2 := hs1.pull4.cell 0 rfl; have b2 := hs1.pull4.free 0; have hs2 : Sat w0 (nw7 bc bk be bl kk ps gs pr (vi 0) (.int .i64 x) (.int .u64 y) Y' F) _ := ((hs1.pull4.store 0 (vi 0)).cast (by simp only [nw7, List.set_cons_zero]; ac_rfl)); have T3 := Lib.hid (nw_S7 hs2 (nw_k7 HK.out hs2)); have a3 := hs2.pull4.cell 0 rfl; have E := Lib.hid hs2; clear hS1 hE hs1 hs2))
  go_wp2_with fail
  go_ret
  exact ⟨rfl, E.out⟩
abbrev nw8 (bk be bl br kk : Nat) (er x0 x1 : Value) (Y F : Hp) : Hp := pc bk 35 [vp kk] * (pc bl 30 (rfO 0 1) * (pc br 30 [x0, x1] * (pc be 32 [er] * (Y * F))))
abbrev nwS8 (bk bl kk d : Nat) (w' : World) : Prop := w'.cell? ⟨bk, 0, none⟩ = some (vp kk) ∧ w'.cell? ⟨kk, 18, none⟩ = some (vp d) ∧ w'.cell? ⟨bl, 0, none⟩ = some (.int .i64 0) ∧ w'.cell? ⟨bl, 1, none⟩ = some (.int .u64 1)
theorem nw_S8 (h : Sat w0 (nw8 bk be bl br kk er x0 x1 Y F) w) (hk : w.cell? ⟨kk, 18, none⟩ = some (vp d)) : nwS8 bk bl kk d w := ⟨h.cell 0 rfl, hk, h.pull2.cell 0 rfl, h.pull2.cell 1 rfl⟩
theorem nw_k8 {P : World → Prop} (hk : ∀ (H : Hp) (w : World), Sat w0 (Y * H) w → P w) (h : Sat w0 (nw8 bk be bl br kk er x0 x1 Y F) w) : P w := hk (pc bk 35 [vp kk] * (pc bl 30 (rfO 0 1) * (pc br 30 [x0, x1] * (pc be 32 [er] * F)))) _ (h.cast (by simp only [nw8]; ac_rfl))
set_option maxRecDepth 100000 in
set_option maxHeartbeats 4000000 in
theorem new_8 (h : Sat w0 (nw8 bk be bl br kk er x0 x1 Y F) w)
    (hk : ∀ (H : Hp) (w : World), Sat w0 (Y * H) w → w.cell? ⟨kk, 18, none⟩ = some (vp d)) (hk' : ∀ (H : Hp) (w : World), Sat w0 (Y' * H) w → w.cell? ⟨kk, 18, none⟩ = some (vp d))
    (hr : ∀ (H : Hp) (w : World), Sat w0 (Y * H) w → Calls Tryz.prog 50 #[vp d] w fun e w' => e = .returned (.agg #[.int .i64 0, .int .u64 1]) ∧ Sat w0 (Y * H) w')
    (hc : ∀ (H : Hp) (w : World), Sat w0 (Y * H) w → Calls Tryz.prog 49 #[vp kk, .agg #[.int .i64 0, .int .u64 1], .agg #[.int .i64 0, .int .u64 1], .int .i64 0] w fun e w' => e = .returned (.tuple #[.agg #[.int .i64 x, .int .u64 y], vi 0]) ∧ Sat w0 (Y' * H) w') :
    Calls Tryz.prog 48 #[vp bk, vp bl, vp br, vp be] w fun e w' => e = .returned (vi 0) ∧ Sat w0 (nw8 bk be bl br kk (vi 0) (.int .i64 x) (.int .u64 y) Y' F) w' := by
  have hD := h.drew
  have T0 := Lib.hid (nw_S8 hD (nw_k8 hk hD))
  have HR := Lib.hid (hr (pc bk 35 [vp kk] * (pc bl 30 (rfO 0 1) * (pc br 30 [x0, x1] * (pc be 32 [er] * F)))) _ (hD.cast (by simp only [nw8]; ac_rfl)))
  have HC : Hid (∀ w : World, Sat w0 (nw8 bk be bl br kk er x0 x1 Y F) w → Calls Tryz.prog 49 #[vp kk, .agg #[.int .i64 0, .int .u64 1], .agg #[.int .i64 0, .int .u64 1], .int .i64 0] w fun e w' => e = .returned (.tuple #[.agg #[.int .i64 x, .int .u64 y], vi 0]) ∧ Sat w0 (nw8 bk be bl br kk er x0 x1 Y' F) w') := Lib.hid fun w h => (hc (pc bk 35 [vp kk] * (pc bl 30 (rfO 0 1) * (pc br 30 [x0, x1] * (pc be 32 [er] * F)))) _ (h.cast (by simp only [nw8]; ac_rfl))).mono (by
    rintro e w' ⟨rfl, h'⟩
    exact ⟨rfl, h'.cast (by simp only [nw8]; ac_rfl)⟩)
  have HK0 := Lib.hid hk
  have HK := Lib.hid hk'
  clear h hc hr hD hk hk'
  go_enter Tryz.func48, Tryz.ntmps48
  go_wp2
  go_region_held3 (nwS8 bk bl kk d)
    (first | (with_reducible exact T4.out) | (with_reducible exact T3.out) | (with_reducible exact T2.out) | (with_reducible exact T1.out) | (with_reducible exact T0.out))
    (first
      | (go_at_call 50; refine HR.out.mono ?_; rintro e w1 ⟨rfl, hS1⟩; have hE : Sat w0 (nw8 bk be bl br kk er x0 x1 Y F) w1 := hS1.cast (by simp only [nw8]; ac_rfl); have T1 := Lib.hid (nw_S8 hE (nw_k8 HK0.out hE)); have HC1 := Lib.hid (HC.out _ hE); clear hS1 hE)
      | (go_at_call 49; refine HC1.out.mono ?_; rintro e w2 ⟨rfl, hE⟩; have T2 := Lib.hid (nw_S8 hE (nw_k8 HK.out hE)); have a0 := hE.pull3.cell 0 rfl; have a1 := hE.pull3.cell 1 rfl; have b0 := hE.pull3.free 0; have b1 := hE.pull3.free 1; have hs1 : Sat w0 (nw8 bk be bl br kk er (.int .i64 x) (.int .u64 y) Y' F) _ := (((hE.pull3.store 0 (.int .i64 x)).store 1 (.int .u64 y)).cast (by simp only [nw8, List.set_cons_zero, List.set_cons_succ]; ac_rfl)); have T3 := Lib.hid (nw_S8 hs1 (nw_k8 HK.out hs1)); have a2 := hs1.pull4.cell 0 rfl; have b2 := hs1.pull4.free 0; have hs2 : Sat w0 (nw8 bk be bl br kk (vi 0) (.int .i64 x) (.int .u64 y) Y' F) _ := ((hs1.pull4.store 0 (vi 0)).cast (by simp only [nw8, List.set_cons_zero]; ac_rfl)); have T4 := Lib.hid (nw_S8 hs2 (nw_k8 HK.out hs2)); have a3 := hs2.pull4.cell 0 rfl; have E := Lib.hid hs2; clear hE hs1 hs2))
  go_wp2_with fail
  go_ret
  exact ⟨rfl, E.out⟩
end
end Go.Proofs.YtdbppfcilaajaaaGreat.Kn

namespace Go.Proofs.YtdbppfcilaajaaaGreat.Fi
open Go.RowKit
set_option linter.unusedVariables false

abbrev vi (x : Int) : Value := .int .i64 x
abbrev vu (x : Int) : Value := .int .u64 x
structure Rf where
  amount : Int
  at_ : Int
def Rf.cells (r : Rf) : List Value := [vu r.amount, vu r.at_]
theorem Rf.len (r : Rf) : r.cells.length = 2 := rfl
abbrev rflat (l : List Rf) : List Value := l.flatMap Rf.cells
def U64 (x : Int) : Prop := 0 ≤ x ∧ x ≤ 18446744073709551615
/-- A list that can be read: its numbers are such as may be. -/
structure RdF (w : World) (v : Value) (l : List Rf) : Prop where
  rd : Rd w 2 v l.length (rflat l)
  ok : ∀ r ∈ l, U64 r.amount ∧ U64 r.at_

def addP (a b : Int) : Option Int := if 18446744073709551615 < a + b then none else some (a + b)
def addV (o : Option Int) : Value := match o with | none => .tuple #[vu 0, .bool false] | some s => .tuple #[vu s, .bool true]
def sumP (l : List Rf) : Option Int := l.foldl (fun o r => o.bind fun s => addP s r.amount) (some 0)

theorem sumP_snoc (l : List Rf) (k : Nat) {r : Rf} (h : l[k]? = some r) : sumP (l.take (k + 1)) = (sumP (l.take k)).bind fun s => addP s r.amount := by
  rw [sumP, List.take_add_one, h, List.foldl_append]
  rfl
theorem sumP_none (l : List Rf) (k : Nat) (h : sumP (l.take k) = none) : sumP l = none := by
  have e : sumP l = (l.drop k).foldl (fun o r => o.bind fun s => addP s r.amount) (sumP (l.take k)) := by
    conv => lhs; rw [← List.take_append_drop k l, sumP, List.foldl_append]
    rfl
  rw [e, h]
  generalize l.drop k = m
  induction m with
  | nil => rfl
  | cons r m ih => simpa using ih
theorem addP_u64 {a b s : Int} (ha : U64 a) (hb : U64 b) (h : addP a b = some s) : U64 s := by
  unfold addP at h
  split at h
  · cases h
  · cases h
    unfold U64 at *
    omega

end Go.Proofs.YtdbppfcilaajaaaGreat.Fi

namespace Go.Proofs.YtdbppfcilaajaaaGreat.Fi
open Go.RowKit
set_option linter.unusedVariables false

def thF (now : Int) (o : Option Int) (r : Rf) : Option Int := if now < r.at_ then o else o.bind fun s => addP s r.amount
def thereP (l : List Rf) (now : Int) : Option Int := l.foldl (thF now) (some 0)
def thereV (l : List Rf) (now : Int) : Int := (thereP l now).getD 18446744073709551615
end Go.Proofs.YtdbppfcilaajaaaGreat.Fi

namespace Go.Proofs.YtdbppfcilaajaaaGreat.Fi
open Go.RowKit
set_option linter.unusedVariables false

theorem run_A64_no (x y : Int) (hx : 0 ≤ x) (hy : 0 ≤ y) (h : x + y ≤ 18446744073709551615) (w : World) :
    (callFunc 226 #[vu x, vu y, vu 0]).run Tryz.prog w = .ok (.value (.tuple #[vu (x + y), vu 0])) w := by
  rw [run_callFunc_extern Tryz.func226 (by kernel_rfl) (by kernel_rfl) (by kernel_rfl) (e := add64Entry) (by kernel_rfl), run_add64 x y 0 hx hy (by omega) (by omega)]
  simp only [Result.andThen]
  rw [show (x + y + 0) % 18446744073709551616 = x + y by omega, show (x + y + 0) / 18446744073709551616 = 0 by omega]
theorem run_A64_yes (x y : Int) (hx : 0 ≤ x) (hy : 0 ≤ y) (hx2 : x ≤ 18446744073709551615) (hy2 : y ≤ 18446744073709551615) (h : 18446744073709551615 < x + y) (w : World) :
    (callFunc 226 #[vu x, vu y, vu 0]).run Tryz.prog w = .ok (.value (.tuple #[vu (x + y - 18446744073709551616), vu 1])) w := by
  rw [run_callFunc_extern Tryz.func226 (by kernel_rfl) (by kernel_rfl) (by kernel_rfl) (e := add64Entry) (by kernel_rfl), run_add64 x y 0 hx hy (by omega) (by omega)]
  simp only [Result.andThen]
  rw [show (x + y + 0) % 18446744073709551616 = x + y - 18446744073709551616 by omega, show (x + y + 0) / 18446744073709551616 = 1 by omega]

theorem sat_ (n b : Int) (f : Bool) (w : World) :
    Calls Tryz.prog 227 #[vu n, .bool f, vu b] w fun e w' => e = .returned (vu (if f then n else b)) ∧ w = w' := by
  cases f
  all_goals
    go_enter Tryz.func227, Tryz.ntmps227
    go_wp2
    go_ret
    exact ⟨rfl, rfl⟩
theorem nadd (a b : Int) (ha : U64 a) (hb : U64 b) (w : World) :
    Calls Tryz.prog 191 #[vu a, vu b] w fun e w' => e = .returned (addV (addP a b)) ∧ w = w' := by
  obtain ⟨a1, a2⟩ := ha
  obtain ⟨b1, b2⟩ := hb
  unfold addP
  by_cases h : 18446744073709551615 < a + b
  · rw [if_pos h]
    have hr := run_A64_yes a b a1 b1 a2 b2 h w
    clear h
    go_enter Tryz.func191, Tryz.ntmps191
    go_wp2_with (go_at_call 227; refine (sat_ _ _ _ _).mono ?_; rintro e w' ⟨rfl, rfl⟩)
    go_ret2
    exact ⟨rfl, rfl⟩
  · rw [if_neg h]
    have hr := run_A64_no a b a1 b1 (by omega) w
    clear h
    go_enter Tryz.func191, Tryz.ntmps191
    go_wp2_with (go_at_call 227; refine (sat_ _ _ _ _).mono ?_; rintro e w' ⟨rfl, rfl⟩)
    go_ret2
    exact ⟨rfl, rfl⟩
theorem naddSat (a b : Int) (ha : U64 a) (hb : U64 b) (w : World) :
    Calls Tryz.prog 200 #[vu a, vu b] w fun e w' => e = .returned (vu ((addP a b).getD 18446744073709551615)) ∧ w = w' := by
  have H := Lib.hid (nadd a b ha hb w)
  cases hp : addP a b with
  | none =>
    rw [hp] at H
    have H2 : Hid (Calls Tryz.prog 191 #[vu a, vu b] w fun e w' => e = .returned (.tuple #[vu 0, .bool false]) ∧ w = w') := H
    clear H hp
    go_enter Tryz.func200, Tryz.ntmps200
    go_wp2_with (first | (go_at_call 191; refine H2.out.mono ?_; rintro e w' ⟨rfl, rfl⟩) | (go_at_call 227; refine (sat_ _ _ _ _).mono ?_; rintro e w' ⟨rfl, rfl⟩))
    go_ret
    exact ⟨rfl, rfl⟩
  | some s =>
    rw [hp] at H
    have H2 : Hid (Calls Tryz.prog 191 #[vu a, vu b] w fun e w' => e = .returned (.tuple #[vu s, .bool true]) ∧ w = w') := H
    clear H hp
    go_enter Tryz.func200, Tryz.ntmps200
    go_wp2_with (first | (go_at_call 191; refine H2.out.mono ?_; rintro e w' ⟨rfl, rfl⟩) | (go_at_call 227; refine (sat_ _ _ _ _).mono ?_; rintro e w' ⟨rfl, rfl⟩))
    go_ret
    exact ⟨rfl, rfl⟩
end Go.Proofs.YtdbppfcilaajaaaGreat.Fi

namespace Go.Proofs.YtdbppfcilaajaaaGreat.Fi
open Go.RowKit
set_option linter.unusedVariables false

def tot : List Rf → Int
  | [] => 0
  | r :: l => r.amount + tot l
theorem tot_append (a b : List Rf) : tot (a ++ b) = tot a + tot b := by
  induction a with
  | nil => simp [tot]
  | cons r a ih => simp only [List.cons_append, tot, ih]; omega
def OkL (l : List Rf) : Prop := ∀ r ∈ l, U64 r.amount ∧ U64 r.at_
theorem OkL.tail {r : Rf} {l : List Rf} (h : OkL (r :: l)) : OkL l := fun x hx => h x (List.mem_cons_of_mem _ hx)
theorem OkL.head {r : Rf} {l : List Rf} (h : OkL (r :: l)) : U64 r.amount ∧ U64 r.at_ := h r (List.mem_cons_self)
theorem OkL.app {a b : List Rf} (h : OkL a) (k : OkL b) : OkL (a ++ b) := fun x hx => by
  rcases List.mem_append.1 hx with hx | hx
  · exact h x hx
  · exact k x hx
theorem OkL.sub {a b : List Rf} (h : OkL b) (hs : ∀ x ∈ a, x ∈ b) : OkL a := fun x hx => h x (hs x hx)
theorem tot_nonneg {l : List Rf} (h : OkL l) : 0 ≤ tot l := by
  induction l with
  | nil => simp [tot]
  | cons r l ih =>
    have h1 := h.head.1.1
    have h2 := ih h.tail
    simp only [tot]
    omega
theorem sum_none (l : List Rf) : l.foldl (fun o r => o.bind fun s => addP s r.amount) none = none := by
  induction l with
  | nil => rfl
  | cons r l ih => simpa using ih
theorem sum_from : ∀ (l : List Rf) (s : Int), OkL l → 0 ≤ s → s ≤ 18446744073709551615 → l.foldl (fun o r => o.bind fun s => addP s r.amount) (some s) = if 18446744073709551615 < s + tot l then none else some (s + tot l)
  | [], s, _, h0, h1 => by
    simp only [List.foldl_nil, tot, Int.add_zero]
    rw [if_neg (by omega)]
  | r :: l, s, h, h0, h1 => by
    have ha := h.head.1
    have hn := tot_nonneg h.tail
    unfold U64 at ha
    rw [List.foldl_cons, Option.bind_some, show tot (r :: l) = r.amount + tot l from rfl]
    by_cases hc : 18446744073709551615 < s + r.amount
    · rw [show addP s r.amount = none by rw [addP, if_pos hc], if_pos (by omega)]
      exact sum_none l
    · rw [show addP s r.amount = some (s + r.amount) by rw [addP, if_neg hc], sum_from l (s + r.amount) h.tail (by omega) (by omega), show s + r.amount + tot l = s + (r.amount + tot l) by omega]
theorem sumP_eq {l : List Rf} (h : OkL l) : sumP l = if 18446744073709551615 < tot l then none else some (tot l) := by
  have := sum_from l 0 h (by omega) (by omega)
  rw [Int.zero_add] at this
  exact this

/-- What is there at a time, together. -/
def totTo (now : Int) : List Rf → Int
  | [] => 0
  | r :: l => (if now < r.at_ then 0 else r.amount) + totTo now l
theorem totTo_append (now : Int) (a b : List Rf) : totTo now (a ++ b) = totTo now a + totTo now b := by
  induction a with
  | nil => simp [totTo]
  | cons r a ih => simp only [List.cons_append, totTo, ih]; omega
theorem totTo_bd {l : List Rf} (now : Int) (h : OkL l) : 0 ≤ totTo now l ∧ totTo now l ≤ tot l := by
  induction l with
  | nil => simp [totTo, tot]
  | cons r l ih =>
    have h1 := h.head.1.1
    have h2 := ih h.tail
    simp only [tot, totTo]
    split <;> omega
theorem there_none (now : Int) (l : List Rf) : l.foldl (thF now) none = none := by
  induction l with
  | nil => rfl
  | cons r l ih =>
    rw [List.foldl_cons, show thF now none r = none by unfold thF; split <;> rfl]
    exact ih
theorem there_from (now : Int) : ∀ (l : List Rf) (s : Int), OkL l → 0 ≤ s → s ≤ 18446744073709551615 → l.foldl (thF now) (some s) = if 18446744073709551615 < s + totTo now l then none else some (s + totTo now l)
  | [], s, _, h0, h1 => by
    simp only [List.foldl_nil, totTo, Int.add_zero]
    rw [if_neg (by omega)]
  | r :: l, s, h, h0, h1 => by
    have ha := h.head.1
    have hn := (totTo_bd now h.tail).1
    unfold U64 at ha
    rw [List.foldl_cons]
    by_cases hat : now < r.at_
    · rw [show totTo now (r :: l) = totTo now l by rw [totTo, if_pos hat, Int.zero_add], show thF now (some s) r = some s by rw [thF, if_pos hat], there_from now l s h.tail h0 h1]
    · rw [show totTo now (r :: l) = r.amount + totTo now l by rw [totTo, if_neg hat], show thF now (some s) r = addP s r.amount by rw [thF, if_neg hat]; rfl]
      by_cases hc : 18446744073709551615 < s + r.amount
      · rw [show addP s r.amount = none by rw [addP, if_pos hc], if_pos (by omega)]
        exact there_none now l
      · rw [show addP s r.amount = some (s + r.amount) by rw [addP, if_neg hc], there_from now l (s + r.amount) h.tail (by omega) (by omega), show s + r.amount + totTo now l = s + (r.amount + totTo now l) by omega]
theorem thereV_eq {l : List Rf} (now : Int) (h : OkL l) : thereV l now = if 18446744073709551615 < totTo now l then 18446744073709551615 else totTo now l := by
  have := there_from now l 0 h (by omega) (by omega)
  rw [Int.zero_add] at this
  rw [thereV, thereP, this]
  split <;> rfl

/-- A list that may be. -/
structure MayL (l : List Rf) : Prop where
  pos : ∀ (k : Nat) (r : Rf), l[k]? = some r → 1 ≤ r.amount
  adj : ∀ (k : Nat) (r s : Rf), l[k]? = some r → l[k + 1]? = some s → r.at_ < s.at_
  fit : tot l ≤ 18446744073709551615
theorem MayL.nil : MayL [] := ⟨fun k r h => by simp at h, fun k r s h => by simp at h, by simp [tot]⟩
theorem MayL.lt {l : List Rf} (h : MayL l) {i j : Nat} {r s : Rf} (hi : l[i]? = some r) (hj : l[j]? = some s) (hij : i < j) : r.at_ < s.at_ := by
  induction j generalizing s with
  | zero => omega
  | succ j ih =>
    obtain ⟨x, hx⟩ : ∃ x, l[j]? = some x := ⟨l[j]'(by have := (List.getElem?_eq_some_iff.1 hj).1; omega), List.getElem?_eq_getElem _⟩
    have h1 := h.adj j x s hx hj
    by_cases e : i = j
    · subst e
      rw [hi] at hx
      cases hx
      exact h1
    · have := ih hx (by omega)
      omega

/-- How many are there. -/
def thN (l : List Rf) (now : Int) : Nat := (l.takeWhile fun r => decide (r.at_ ≤ now)).length
theorem thN_le (l : List Rf) (now : Int) : thN l now ≤ l.length := by
  unfold thN
  exact (List.takeWhile_prefix _).length_le
theorem thN_in : ∀ (l : List Rf) (now : Int) (j : Nat) (r : Rf), j < thN l now → l[j]? = some r → r.at_ ≤ now
  | [], now, j, r, h, hr => by simp at hr
  | x :: l, now, j, r, h, hr => by
    unfold thN at h
    rw [List.takeWhile_cons] at h
    split at h
    · rename_i hx
      match j, hr with
      | 0, hr => simp at hr; subst hr; simpa using hx
      | j + 1, hr => exact thN_in l now j r (by simpa [thN] using h) (by simpa using hr)
    · simp at h
theorem thN_at : ∀ (l : List Rf) (now : Int) (r : Rf), l[thN l now]? = some r → now < r.at_
  | [], now, r, hr => by simp at hr
  | x :: l, now, r, hr => by
    unfold thN at hr
    rw [List.takeWhile_cons] at hr
    split at hr
    · exact thN_at l now r (by simpa [thN] using hr)
    · rename_i hx
      simp at hr
      subst hr
      simpa using hx
theorem thN_eq {l : List Rf} {now : Int} {k : Nat} (hk : k ≤ l.length) (h1 : ∀ (j : Nat) (r : Rf), j < k → l[j]? = some r → r.at_ ≤ now) (h2 : ∀ r : Rf, l[k]? = some r → now < r.at_) : thN l now = k := by
  rcases Nat.lt_trichotomy (thN l now) k with h | h | h
  · obtain ⟨r, hr⟩ : ∃ r, l[thN l now]? = some r := ⟨l[thN l now]'(by omega), List.getElem?_eq_getElem _⟩
    have := thN_at l now r hr
    have := h1 _ r h hr
    omega
  · exact h
  · have hl := thN_le l now
    obtain ⟨r, hr⟩ : ∃ r, l[k]? = some r := ⟨l[k]'(by omega), List.getElem?_eq_getElem _⟩
    have := h2 r hr
    have := thN_in l now k r h hr
    omega

/-- The list in which what is there is one. -/
def dueL (l : List Rf) (now : Int) : List Rf := if thN l now = 0 then l else ⟨tot (l.take (thN l now)), ((l.take (thN l now)).getLastD ⟨0, 0⟩).at_⟩ :: l.drop (thN l now)
def lessL (l : List Rf) (k : Int) : List Rf := match l with
  | [] => []
  | r :: t => if r.amount - k = 0 then t else ⟨r.amount - k, r.at_⟩ :: t
/-- One comes at its end. -/
def putL (out : List Rf) (back : Int) (most : Int) : List Rf := match out.getLast? with
  | none => [⟨1, back⟩]
  | some x => if back ≤ x.at_ then out.dropLast ++ [⟨x.amount + 1, x.at_⟩] else if (out.length : Int) < most then out ++ [⟨1, back⟩] else out.dropLast ++ [⟨x.amount + 1, back⟩]

section
variable {l : List Rf} {now : Int}
theorem due_zero (h : thN l now = 0) : dueL l now = l := by rw [dueL, if_pos h]
theorem tot_due (l : List Rf) (now : Int) : tot (dueL l now) = tot l := by
  unfold dueL
  split
  · rfl
  · simp only [tot]
    conv => rhs; rw [← List.take_append_drop (thN l now) l]
    rw [tot_append]
theorem last_take {n : Nat} (hn : n < l.length) : (l.take (n + 1)).getLastD ⟨0, 0⟩ = l[n] := by
  have e : l.take (n + 1) = l.take n ++ [l[n]] := by
    rw [List.take_add_one, List.getElem?_eq_getElem hn]
    rfl
  rw [e]
  simp [-List.take_append_getElem]
theorem due_pos (h : thN l now ≠ 0) : ∃ r, l[thN l now - 1]? = some r ∧ r.at_ ≤ now ∧ dueL l now = ⟨tot (l.take (thN l now)), r.at_⟩ :: l.drop (thN l now) := by
  have hl := thN_le l now
  have hlt : thN l now - 1 < l.length := by omega
  refine ⟨l[thN l now - 1], List.getElem?_eq_getElem hlt, thN_in l now _ _ (by omega) (List.getElem?_eq_getElem hlt), ?_⟩
  have e := last_take (l := l) hlt
  rw [show thN l now - 1 + 1 = thN l now by omega] at e
  rw [dueL, if_neg h, e]
theorem tot_take_pos (h : MayL l) (n : Nat) (hn : 0 < n) (hl : 0 < l.length) (hok : OkL l) : 1 ≤ tot (l.take n) := by
  obtain ⟨m, rfl⟩ : ∃ m, n = m + 1 := ⟨n - 1, by omega⟩
  match l, hl, h, hok with
  | r :: t, _, h, hok =>
    have h1 := h.pos 0 r rfl
    have h2 : 0 ≤ tot (t.take m) := tot_nonneg (hok.tail.sub fun x hx => List.mem_of_mem_take hx)
    simp only [List.take_succ_cons, tot]
    omega
theorem may_cons {r : Rf} {t : List Rf} (h1 : 1 ≤ r.amount) (h2 : MayL t) (h3 : ∀ s, t[0]? = some s → r.at_ < s.at_) (h4 : tot (r :: t) ≤ 18446744073709551615) : MayL (r :: t) := by
  refine ⟨?_, ?_, h4⟩
  · intro k x hx
    match k, hx with
    | 0, hx => simp at hx; subst hx; exact h1
    | k + 1, hx => exact h2.pos k x (by simpa using hx)
  · intro k x y hx hy
    match k, hx, hy with
    | 0, hx, hy => simp at hx; subst hx; exact h3 y (by simpa using hy)
    | k + 1, hx, hy => exact h2.adj k x y (by simpa using hx) (by simpa using hy)
theorem may_tail {r : Rf} {t : List Rf} (h : MayL (r :: t)) : MayL t := by
  refine ⟨fun k x hx => h.pos (k + 1) x (by simpa using hx), fun k x y hx hy => h.adj (k + 1) x y (by simpa using hx) (by simpa using hy), ?_⟩
  have h1 := h.pos 0 r rfl
  have h2 := h.fit
  simp only [tot] at h2
  omega
theorem may_drop (h : MayL l) : ∀ n, MayL (l.drop n) := by
  intro n
  induction n generalizing l with
  | zero => simpa using h
  | succ n ih =>
    match l, h with
    | [], _ => simpa using MayL.nil
    | r :: t, h => simpa using ih (may_tail h)
theorem may_due (h : MayL l) (hok : OkL l) : MayL (dueL l now) := by
  by_cases h0 : thN l now = 0
  · rw [due_zero h0]; exact h
  · obtain ⟨r, hr, hat, hd⟩ := due_pos h0
    have hl := thN_le l now
    rw [hd]
    refine may_cons (tot_take_pos h _ (by omega) (by omega) hok) (may_drop h _) ?_ ?_
    · intro s hs
      rw [List.getElem?_drop, Nat.add_zero] at hs
      have h5 := h.lt (i := thN l now - 1) hr hs (by omega)
      exact h5
    · have := tot_due l now
      rw [hd] at this
      rw [this]
      exact h.fit
theorem ok_due (h : MayL l) (hok : OkL l) : OkL (dueL l now) := by
  by_cases h0 : thN l now = 0
  · rw [due_zero h0]; exact hok
  · obtain ⟨r, hr, hat, hd⟩ := due_pos h0
    rw [hd]
    intro x hx
    rcases List.mem_cons.1 hx with rfl | hx
    · have h1 := tot_nonneg (l := l.take (thN l now)) (hok.sub fun x hx => List.mem_of_mem_take hx)
      have h2 := tot_nonneg (l := l.drop (thN l now)) (hok.sub fun x hx => List.mem_of_mem_drop hx)
      have h3 : tot l = tot (l.take (thN l now)) + tot (l.drop (thN l now)) := by
        conv => lhs; rw [← List.take_append_drop (thN l now) l]
        rw [tot_append]
      have h4 := h.fit
      exact ⟨⟨h1, by simp only; omega⟩, (hok r (List.mem_of_getElem? hr)).2⟩
    · exact hok x (List.mem_of_mem_drop hx)
theorem due_len (l : List Rf) (now : Int) : (dueL l now).length ≤ l.length := by
  by_cases h0 : thN l now = 0
  · rw [due_zero h0]; exact Nat.le_refl _
  · have hl := thN_le l now
    obtain ⟨r, hr, hat, hd⟩ := due_pos h0
    rw [hd, List.length_cons, List.length_drop]
    omega
end
end Go.Proofs.YtdbppfcilaajaaaGreat.Fi
