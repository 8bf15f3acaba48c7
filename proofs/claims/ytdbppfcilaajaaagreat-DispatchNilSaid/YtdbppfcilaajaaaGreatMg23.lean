/-
  Package domain: Join, Leave. No statement is proved here.
-/
import Derived.Test.YtdbppfcilaajaaaGreatMg22
import Derived.Test.YtdbppfcilaajaaaGreatMg12
import Derived.Deep.RegionHeld3
import Derived.Test.YtdbppfcilaajaaaGreatProg
import Derived.Test.YtdbppfcilaajaaaGreatMg3
import Derived.Test.YtdbppfcilaajaaaGreatMg13
import Derived.Laws.ResultCell
import Derived.Deep.MidRow
namespace Go.Proofs.YtdbppfcilaajaaaGreat.Dm
open Go.RowKit Ad
set_option linter.unusedVariables false
set_option linter.unusedSimpArgs false

section
variable {w0 w : World} {F : Hp} {h p : Nat} {ps : List Pl} {free : List Nat}
set_option maxRecDepth 100000 in
set_option maxHeartbeats 2000000 in
theorem join_ok (hS : Sat w0 (domB h p * (tblP p ps free * F)) w) (r : Nat) (g : Int) (he : getE ps r g = 0) (c : List Nat) (hC : Ch ps ((r : Int), g) (c.map (rfp ps))) (hnd : c.Nodup) (hb : ∀ (k : Nat) (a : Pl), ps[k]? = some a → -1000 ≤ a.x.v7 ∧ a.x.v7 ≤ 1000000 ∧ -1000 ≤ a.x.v8 ∧ a.x.v8 ≤ 1000000) (hx : DomOk (getX ps r g)) (hq : (getX ps r g).v7 < (getX ps r g).v2 - (getX ps r g).v5) :
    Calls Tryz.prog 108 #[vp h, vr r g] w fun e w' => e = .returned (vi 0) ∧ Sat w0 (domB h p * (tblP p (livP ps c (1) r) free * F)) w' := by
  have hB0 : Sat w0 (pc w.heap.size 30 [vi r, vu g] * (domB h p * (tblP p ps free * F))) (w.alloc (.cells #[vi r, vu g] 30)) := hS.alloc (.cells #[vi r, vu g] 30)
  have b0 := hB0.cell 0 rfl
  have b1 := hB0.cell 1 rfl
  have hB : Sat w0 (domB h p * (tblP p ps free * (pc w.heap.size 30 [vi r, vu g] * F))) (w.alloc (.cells #[vi r, vu g] 30)) := hB0.cast (by ac_rfl)
  have HG := Lib.hid (dm_get hB r g)
  rw [he] at HG
  have HL : Hid (∀ (w1 : World) (G : Hp), Sat w0 (domB h p * (tblP p ps free * G)) w1 → Calls Tryz.prog 167 #[vp h, vr r g, vi (1)] w1 fun e w' => e = .returned (vi 0) ∧ Sat w0 (domB h p * (tblP p (livP ps c (1) r) free * G)) w') := Lib.hid fun w1 G h1 => dm_live h1 r g (1) c hC hnd hb ⟨by omega, by omega⟩
  clear hC hb hnd
  clear hS hB hB0 he
  generalize getX ps r g = x at *
  obtain ⟨v0, v1, v2, v3, v4, v5, v6, v7, v8, v9, v10⟩ := x
  simp only [DomOk] at *
  have hw : IntKind.i64.wrap (v2 - v5) = v2 - v5 := IntWalk.i64_in _ (by omega)
  go_enter Tryz.func108, Tryz.ntmps108
  go_wp2_with (first
    | (go_at_call 104; refine HG.out.mono ?_; rintro e w1 ⟨rfl, hS1⟩; have hA := hS1.alloc (elO ez); have HTh := Lib.hid (there_ (n := 11) hA rfl); have HA := Lib.hid hA; clear hA hS1)
    | (refine wpList_store_mid rfl 188 _ _ rfl w1.heap.size 0 (elC ⟨v0, v1, v2, v3, v4, v5, v6, v7, v8, v9, v10⟩).toArray (by rfl) (by rfl) HTh.out einfo (all_oneCell_toArray (elOne _)) ?_; have hs := HA.out.stores (elC ⟨v0, v1, v2, v3, v4, v5, v6, v7, v8, v9, v10⟩) 0; rw [setL_full (elC ez) (elC ⟨v0, v1, v2, v3, v4, v5, v6, v7, v8, v9, v10⟩) rfl] at hs; have HS := Lib.hid hs; have HS : Hid (Sat w0 _ ((w1.alloc (elO ez)).setCells w1.heap.size 0 (elC ⟨v0, v1, v2, v3, v4, v5, v6, v7, v8, v9, v10⟩).toArray.toList)) := HS; clear hs; generalize World.setCells _ _ _ _ = w2 at *; have c7 := HS.out.cell 7 rfl; have c2 := HS.out.cell 2 rfl; have c5 := HS.out.cell 5 rfl; have b0' := HS.out.pull4.cell 0 rfl; have b1' := HS.out.pull4.cell 1 rfl)
    | (go_at_call 167; refine (HL.out _ _ (HS.out.cast (show _ = (domB h p * (tblP p ps free * (elB w1.heap.size ⟨v0, v1, v2, v3, v4, v5, v6, v7, v8, v9, v10⟩ * (pc w.heap.size 30 [vi r, vu g] * F)))) by (try unfold elB); ac_rfl))).mono ?_; rintro e w5 ⟨rfl, hS5⟩; have H5 := Lib.hid hS5; clear hS5))
  go_ret
  exact ⟨rfl, (H5.out.cast (show _ = elB w1.heap.size ⟨v0, v1, v2, v3, v4, v5, v6, v7, v8, v9, v10⟩ * (pc w.heap.size 30 [vi r, vu g] * (domB h p * (tblP p (livP ps c (1) r) free * F))) by (try unfold elB); ac_rfl)).dropL.dropL⟩
end
end Go.Proofs.YtdbppfcilaajaaaGreat.Dm

namespace Go.Proofs.YtdbppfcilaajaaaGreat.Dm
open Go.RowKit Ad
open Kn (knB knL cfgL)
set_option linter.unusedVariables false
set_option linter.unusedSimpArgs false

section
variable {w0 w : World} {F : Hp} {b4 b5 kk n0 gs d q : Nat} {ps ps' : List Pl} {free : List Nat} {pr g c s pl t a : Value} {now : Int}
abbrev spC (b4 b5 kk n0 gs d : Nat) (i n now : Int) (pr g c s pl t a : Value) (X : Hp) : Hp := pc b4 35 [vp kk] * (pc b5 30 [vi i, vu n] * (knB kk n0 gs pr now g c (vp d) s pl t a * X))
abbrev spS (b4 b5 kk d : Nat) (i n : Int) (w' : World) : Prop := w'.cell? ⟨b4, 0, none⟩ = some (vp kk) ∧ w'.cell? ⟨kk, 18, none⟩ = some (vp d) ∧ w'.cell? ⟨b5, 0, none⟩ = some (vi i) ∧ w'.cell? ⟨b5, 1, none⟩ = some (vu n)
theorem sp_S {i n : Int} {X : Hp} (h : Sat w0 (spC b4 b5 kk n0 gs d i n now pr g c s pl t a X) w) : spS b4 b5 kk d i n w := ⟨h.cell 0 rfl, h.pull3.cell 18 rfl, h.pull2.cell 0 rfl, h.pull2.cell 1 rfl⟩
set_option maxRecDepth 100000 in
set_option maxHeartbeats 4000000 in
theorem spawn2 {i n : Int} (h : Sat w0 (spC b4 b5 kk n0 gs d i n now pr g c s pl t a (domB d q * (tblP q ps free * F))) w) (he : getE ps i n = 0) : Calls Tryz.prog 103 #[vp b4, vp b5] w fun e w' => e = .returned (vi 0) ∧ Sat w0 (spC b4 b5 kk n0 gs d i n now pr g c s pl t a (domB d q * (tblP q ps free * F))) w' := by
  have HC : Hid (∀ (H : Hp) (w : World), Sat w0 (spC b4 b5 kk n0 gs d i n now pr g c s pl t a (domB d q * (tblP q ps free * H))) w → Calls Tryz.prog 104 #[vp d, vr i n] w fun e w' => e = .returned (.tuple #[ev (getX ps i n), vi 0]) ∧ Sat w0 (spC b4 b5 kk n0 gs d i n now pr g c s pl t a (domB d q * (tblP q ps free * H))) w') := Lib.hid fun H w hw => by
    have h1 : Sat w0 (domB d q * (tblP q ps free * (pc b4 35 [vp kk] * (pc b5 30 [vi i, vu n] * (knB kk n0 gs pr now g c (vp d) s pl t a * H))))) w := hw.cast (by simp only [spC]; ac_rfl)
    refine (dm_get h1 i n).mono ?_
    rw [he]
    rintro e w' ⟨rfl, h2⟩
    exact ⟨rfl, h2.cast (by simp only [spC]; ac_rfl)⟩
  have hD := h.drew
  have T0 := Lib.hid (sp_S hD)
  have hA := ((h.alloc (elO ez)).drew).cast (show _ = spC b4 b5 kk n0 gs d i n now pr g c s pl t a (domB d q * (tblP q ps free * (elB w.heap.size ez * F))) by simp only [elB, pc, spC]; ac_rfl)
  have U0 := Lib.hid (sp_S hA)
  have HD := Lib.hid hD
  have HA := Lib.hid hA
  clear h he hD hA
  generalize getX ps i n = x at *
  go_enter Tryz.func103, Tryz.ntmps103
  go_wp2
  have hi := einfo
  have hone := elOne x
  go_region_held3 (spS b4 b5 kk d i n)
    (first | (with_reducible exact T3.out) | (with_reducible exact U2.out) | (with_reducible exact T2.out) | (with_reducible exact T1.out) | (with_reducible exact U1.out) | (with_reducible exact U0.out) | (with_reducible exact T0.out))
    (first
      | (go_at_call 104; with_reducible refine (HC.out _ _ HA.out).mono ?_; rintro e w2 ⟨rfl, hS2⟩; have U1 := Lib.hid (sp_S hS2); have hE := hS2.cast (show _ = elB w.heap.size ez * spC b4 b5 kk n0 gs d i n now pr g c s pl t a (domB d q * (tblP q ps free * F)) from (by simp only [spC]; ac_rfl)); have c0 := hE.cell 0 rfl; have f0 := hE.free 0; have c1 := hE.cell 1 rfl; have f1 := hE.free 1; have c2 := hE.cell 2 rfl; have f2 := hE.free 2; have c3 := hE.cell 3 rfl; have f3 := hE.free 3; have c4 := hE.cell 4 rfl; have f4 := hE.free 4; have c5 := hE.cell 5 rfl; have f5 := hE.free 5; have c6 := hE.cell 6 rfl; have f6 := hE.free 6; have c7 := hE.cell 7 rfl; have f7 := hE.free 7; have c8 := hE.cell 8 rfl; have f8 := hE.free 8; have c9 := hE.cell 9 rfl; have f9 := hE.free 9; have c10 := hE.cell 10 rfl; have f10 := hE.free 10; have hst := (((((((((((hE.store 0 (.int .i64 x.v0)).store 1 (.int .u64 x.v1)).store 2 (.int .i64 x.v2)).store 3 (.int .u64 x.v3)).store 4 (.int .u64 x.v4)).store 5 (.int .i64 x.v5)).store 6 (.int .u64 x.v6)).store 7 (.int .i64 x.v7)).store 8 (.int .i64 x.v8)).store 9 (.int .u64 x.v9)).store 10 (.int .i64 x.v10)); have U2 := Lib.hid (sp_S hst.dropL); have E := Lib.hid hst.dropL; clear hS2 hE hst)
      | (go_at_call 104; with_reducible refine (HC.out _ _ HD.out).mono ?_; rintro e w1 ⟨rfl, hS1⟩; have T1 := Lib.hid (sp_S hS1); have T2 := Lib.hid (sp_S (hS1.alloc' (elO ez))); have hE := hS1.alloc' (elO x); have T3 := Lib.hid (sp_S hE); have E := Lib.hid hE; clear hS1 hE))
  all_goals go_wp2
  all_goals go_ret
  all_goals exact ⟨rfl, E.out⟩
set_option maxRecDepth 100000 in
set_option maxHeartbeats 4000000 in
theorem spawn4 {i n : Int} (h : Sat w0 (spC b4 b5 kk n0 gs d i n now pr g c s pl t a (domB d q * (tblP q ps free * F))) w)
    (hj : ∀ (H : Hp) (w : World), Sat w0 (domB d q * (tblP q ps free * H)) w → Calls Tryz.prog 108 #[vp d, vr i n] w fun e w' => e = .returned (vi 0) ∧ Sat w0 (domB d q * (tblP q ps' free * H)) w') :
    Calls Tryz.prog 107 #[vp b4, vp b5] w fun e w' => e = .returned (vi 0) ∧ Sat w0 (spC b4 b5 kk n0 gs d i n now pr g c s pl t a (domB d q * (tblP q ps' free * F))) w' := by
  have T0 := Lib.hid (sp_S h.drew)
  have HC := Lib.hid (hj (pc b4 35 [vp kk] * (pc b5 30 [vi i, vu n] * (knB kk n0 gs pr now g c (vp d) s pl t a * F))) w.drew (h.drew.cast (by simp only [spC]; ac_rfl)))
  clear h hj
  go_enter Tryz.func107, Tryz.ntmps107
  go_wp2
  go_region_held3 (spS b4 b5 kk d i n)
    (first | (with_reducible exact T1.out) | (with_reducible exact T0.out))
    (first | (go_at_call 108; refine HC.out.mono ?_; rintro e w1 ⟨rfl, hS1⟩; have hE := hS1.cast (show _ = spC b4 b5 kk n0 gs d i n now pr g c s pl t a (domB d q * (tblP q ps' free * F)) from (by simp only [spC]; ac_rfl)); have T1 := Lib.hid (sp_S hE); have E := Lib.hid hE; clear hS1 hE))
  all_goals go_wp2
  all_goals go_ret
  all_goals exact ⟨rfl, E.out⟩
end
end Go.Proofs.YtdbppfcilaajaaaGreat.Dm

namespace Go.Proofs.YtdbppfcilaajaaaGreat.Ac
open Go.RowKit
open Fi (vi vu)
set_option linter.unusedVariables false

abbrev vp (p : Nat) : Value := .pointer (some ⟨p, 0, none⟩)
abbrev vr (i g : Int) : Value := .agg #[vi i, vu g]
structure El where
  v0 : Int
  v1 : Int
  a2 : Option Addr
  n2 : Nat
  c2 : Nat
  v3 : Int
abbrev ev (x : El) : Value := .agg #[(.int .u64 x.v0), (.int .u64 x.v1), (.slice x.a2 x.n2 x.c2), (.int .i64 x.v3)]
abbrev ez : El := ⟨0, 0, none, 0, 0, 0⟩

structure Pl where
  gen : Int
  there : Bool
  retired : Bool
  x : El
def Pl.cells (p : Pl) : List Value := [vu p.gen, .bool p.there, .bool p.retired, (.int .u64 p.x.v0), (.int .u64 p.x.v1), (.slice p.x.a2 p.x.n2 p.x.c2), (.int .i64 p.x.v3)]
theorem Pl.len (p : Pl) : p.cells.length = 7 := rfl
theorem Pl.one (p : Pl) : ∀ u ∈ p.cells, u.oneCell' = true := by
  intro u hu
  simp [Pl.cells] at hu
  rcases hu with rfl | rfl | rfl | rfl | rfl | rfl | rfl <;> rfl
abbrev flat (ps : List Pl) : List Value := ps.flatMap Pl.cells

/-- An element laid into a place. -/
abbrev El.st (w : World) (b o : Nat) (x : El) : World := (((w.setCell ⟨b, o, none⟩ (.int .u64 x.v0)).setCell ⟨b, o + 1, none⟩ (.int .u64 x.v1)).setCell ⟨b, o + 2, none⟩ (.slice x.a2 x.n2 x.c2)).setCell ⟨b, o + 3, none⟩ (.int .i64 x.v3)
theorem storeX {T : TypeId} {g n cap k : Nat} {ps : List Pl} {a : Pl} {F : Hp} {w0 w : World} (h : Sat w0 (sl T 7 (.slice (some ⟨g, 0, none⟩) n cap) n (flat ps) * F) w) (hk : ps[k]? = some a) (hn : ps.length = n) (x : El) :
    Sat w0 (sl T 7 (.slice (some ⟨g, 0, none⟩) n cap) n (flat (ps.set k { a with x := x })) * F) (El.st w g (k * 7 + 3) x) := by
  have hlt : k < n := by rw [← hn]; exact (List.getElem?_eq_some_iff.1 hk).1
  have hself : ∀ a' : Pl, (ps.set k a')[k]? = some a' := fun a' => by simp [(List.getElem?_eq_some_iff.1 hk).1]
  have h0 := h.slStore (k * 7 + 3) (by omega) (.int .u64 x.v0)
  rw [flat_set Pl.len ps k 3 a { a with x := { a.x with v0 := x.v0 } } _ hk (by omega) rfl] at h0
  have h1 := h0.slStore (k * 7 + 4) (by omega) (.int .u64 x.v1)
  rw [flat_set Pl.len _ k 4 ({ a with x := { a.x with v0 := x.v0 } } : Pl) { a with x := { a.x with v0 := x.v0, v1 := x.v1 } } _ (hself _) (by omega) rfl, List.set_set] at h1
  have h2 := h1.slStore (k * 7 + 5) (by omega) (.slice x.a2 x.n2 x.c2)
  rw [flat_set Pl.len _ k 5 ({ a with x := { a.x with v0 := x.v0, v1 := x.v1 } } : Pl) { a with x := { a.x with v0 := x.v0, v1 := x.v1, a2 := x.a2, n2 := x.n2, c2 := x.c2 } } _ (hself _) (by omega) rfl, List.set_set] at h2
  have h3 := h2.slStore (k * 7 + 6) (by omega) (.int .i64 x.v3)
  rw [flat_set Pl.len _ k 6 ({ a with x := { a.x with v0 := x.v0, v1 := x.v1, a2 := x.a2, n2 := x.n2, c2 := x.c2 } } : Pl) { a with x := { a.x with v0 := x.v0, v1 := x.v1, a2 := x.a2, n2 := x.n2, c2 := x.c2, v3 := x.v3 } } _ (hself _) (by omega) rfl, List.set_set] at h3
  exact h3
/-- An element in a block of its own. -/
abbrev elC (x : El) : List Value := [(.int .u64 x.v0), (.int .u64 x.v1), (.slice x.a2 x.n2 x.c2), (.int .i64 x.v3)]
abbrev elB (b : Nat) (x : El) : Hp := pc b 180 (elC x)
abbrev elO (x : El) : Obj := .cells #[(.int .u64 x.v0), (.int .u64 x.v1), (.slice x.a2 x.n2 x.c2), (.int .i64 x.v3)] 180
theorem elOne (x : El) : ∀ u ∈ elC x, u.oneCell' = true := by
  intro u hu
  simp [elC] at hu
  rcases hu with rfl | rfl | rfl | rfl <;> rfl
theorem there_ {b : Nat} {T : TypeId} {cs : List Value} {F : Hp} {w0 w : World} (h : Sat w0 (pc b T cs * F) w) {n : Nat} (hn : cs.length = n) : w.there b 0 n := fun j hj => by
  rw [Nat.zero_add, h.cell j (List.getElem?_eq_getElem (by omega))]
  exact ⟨rfl, h.free j⟩
theorem range_ {b : Nat} {T : TypeId} {cs : List Value} {F : Hp} {w0 w : World} (h : Sat w0 (pc b T cs * F) w) : w.rangeAt b 0 cs := fun j v hv => by
  rw [Nat.zero_add]
  exact h.cell j hv
theorem einfo : (Tryz.prog.info? 180).map (·.size) = some 4 := by kernel_rfl
theorem results_row {fn : Func} {p u : Tmp} {ty : TypeId} (h : fn.results = #[.cell p ty, .tmp u]) (tmps : Array Value) (P : Program) (w : World) {b : Nat} {cs : List Value} {v : Value} {d : TypeDesc}
    (hp : tmps.getD p undef = .pointer (some ⟨b, 0, none⟩)) (hv : tmps.getD u undef = v) (hc : w.rangeAt b 0 cs) (hu : P.underlying ty = some d) (hd : d.isRow = true) (hi : (P.info? ty).map (·.size) = some cs.length) :
    (results fn tmps).run P w = .ok (.tuple #[.agg cs.toArray, v]) w := by
  rw [results_cell_tmp h, hp, hv]
  have e : (asAddr (.pointer (some ⟨b, 0, none⟩))).run P w = .ok ⟨b, 0, none⟩ w := rfl
  rw [e]
  simp only [Result.andThen]
  rw [run_loadVar_mid w b 0 ty cs d hc hu hd hi]
theorem size1 (w : World) (o : Obj) : (w.alloc o).heap.size = w.heap.size + 1 := by simp
theorem slThere {T : TypeId} {g n cap k : Nat} {ps : List Pl} {a : Pl} {F : Hp} {w0 w : World} (h : Sat w0 (sl T 7 (.slice (some ⟨g, 0, none⟩) n cap) n (flat ps) * F) w) (hk : ps[k]? = some a) (hn : ps.length = n) : w.there g (k * 7 + 3) 4 := fun j hj => by
  have hj' : j < (elC a.x).length := hj
  have hc := h.slCell (k * 7 + (3 + j)) (u := (elC a.x)[j]) (flat_get Pl.len hk (by rw [Nat.add_comm]; exact List.getElem?_eq_getElem hj'))
  rw [← Nat.add_assoc] at hc
  rw [hc]
  exact ⟨rfl, h.slFree _⟩
theorem Einti : SlT Tryz.prog 140 3 1 8 (.int .i64 0) := SlT.mk' Tryz.underlying140 (by kernel_rfl) rfl (by decide)
theorem Epl : SlT Tryz.prog 294 298 7 64 (.agg #[vu 0, .bool false, .bool false, .int .u64 0, .int .u64 0, .slice none 0 0, .int .i64 0]) := SlT.mk' Tryz.underlying294 (by kernel_rfl) rfl (by decide)

structure TblS where
  a : Nat
  cap : Nat
  fo : Option Addr
  fcap : Nat

abbrev TblS.lv (s : TblS) (n : Nat) : Value := .slice (some ⟨s.a, 0, none⟩) n s.cap
abbrev TblS.fv (s : TblS) (m : Nat) : Value := .slice s.fo m s.fcap
def Pl.busy (a : Pl) : Bool := a.there || a.retired
structure TblOk (ps : List Pl) (free : List Nat) : Prop where
  pos : 0 < ps.length
  small : ps.length ≤ 4096
  gens : ∀ (k : Nat) (a : Pl), ps[k]? = some a → 1 ≤ a.gen ∧ a.gen ≤ 18446744073709551614
  excl : ∀ (k : Nat) (a : Pl), ps[k]? = some a → a.there = true → a.retired = false
  mem : ∀ k : Nat, k ∈ free ↔ ∃ a : Pl, ps[k]? = some a ∧ a.there = false ∧ a.retired = false
  nodup : free.Nodup
  cnt : free.length + ps.countP Pl.busy = ps.length
theorem TblOk.fsmall {ps : List Pl} {free : List Nat} (h : TblOk ps free) : free.length ≤ 4096 := by
  have := h.cnt
  have := h.small
  omega
abbrev tblB (p : Nat) (s : TblS) (n m : Nat) : Hp := pc p 296 [s.lv n, s.fv m]
abbrev tblL (s : TblS) (ps : List Pl) : Hp := sl 298 7 (s.lv ps.length) ps.length (flat ps)
abbrev tblF (s : TblS) (free : List Nat) : Hp := sl 3 1 (s.fv free.length) free.length (free.map fun k : Nat => vi k)
def tblP (p : Nat) (ps : List Pl) (free : List Nat) : Hp := ex fun s : TblS => given (TblOk ps free) (tblB p s ps.length free.length * (tblL s ps * tblF s free))

structure TblIs (w0 : World) (p : Nat) (s : TblS) (ps : List Pl) (free : List Nat) (F : Hp) (w : World) : Prop where
  ok : TblOk ps free
  sat : Sat w0 (tblB p s ps.length free.length * (tblL s ps * (tblF s free * F))) w

section
variable {w0 w : World} {p : Nat} {s : TblS} {ps : List Pl} {free : List Nat} {F : Hp}
theorem open_ (h : Sat w0 (tblP p ps free * F) w) : ∃ s, TblIs w0 p s ps free F w := by
  obtain ⟨s, h⟩ := h.exE
  obtain ⟨ok, h⟩ := h.givenE
  exact ⟨s, ok, h.cast (by rw [sep_assoc, sep_assoc])⟩
theorem TblIs.shut (h : TblIs w0 p s ps free F w) : Sat w0 (tblP p ps free * F) w :=
  Sat.exI s (Sat.givenI h.ok (h.sat.cast (by rw [sep_assoc, sep_assoc])))
theorem TblIs.c0 (h : TblIs w0 p s ps free F w) : w.cell? ⟨p, 0, none⟩ = some (.slice (some ⟨s.a, 0, none⟩) ps.length s.cap) := h.sat.cell 0 rfl
theorem TblIs.c1 (h : TblIs w0 p s ps free F w) : w.cell? ⟨p, 1, none⟩ = some (.slice s.fo free.length s.fcap) := h.sat.cell 1 rfl
theorem TblIs.free_ (h : TblIs w0 p s ps free F w) (i : Nat) : w.frozen? ⟨p, i, none⟩ = false := h.sat.free i
theorem TblIs.lfree (h : TblIs w0 p s ps free F w) (i : Nat) : w.frozen? ⟨s.a, i, none⟩ = false := h.sat.pull2.slFree i
theorem TblIs.at_ (h : TblIs w0 p s ps free F w) {i j : Nat} {a : Pl} {v : Value} (hi : ps[i]? = some a) (hv : a.cells[j]? = some v) : w.cell? ⟨s.a, i * 7 + j, none⟩ = some v :=
  h.sat.pull2.slCell _ (flat_get Pl.len hi hv)
theorem TblIs.rng (h : TblIs w0 p s ps free F w) {k : Nat} {a : Pl} (hk : ps[k]? = some a) : w.rangeAt s.a (k * 7 + 3) (elC a.x) := fun j v hv => by
  have := h.at_ (j := 3 + j) hk (v := v) (by rw [Nat.add_comm]; exact hv)
  rw [← Nat.add_assoc] at this
  exact this
theorem TblIs.thr (h : TblIs w0 p s ps free F w) {k : Nat} {a : Pl} (hk : ps[k]? = some a) : w.there s.a (k * 7 + 3) 4 := fun j hj => by
  have hj' : j < (elC a.x).length := hj
  rw [h.rng hk j _ (List.getElem?_eq_getElem hj')]
  exact ⟨rfl, h.lfree _⟩
theorem TblIs.drewN (h : TblIs w0 p s ps free F w) (k : Nat) : TblIs w0 p s ps free F (w.drewN k) := ⟨h.ok, h.sat.drewN k⟩

theorem none_ (h : TblIs w0 p s ps free F w) : Calls Tryz.prog 164 #[vp p] w fun e w' => e = .returned (.bool false) ∧ w = w' := by
  have hpos := h.ok.pos
  have hsm := h.ok.small
  have h0 : ((ps.length : Int) == 0) = false := beq_eq_false_iff_ne.2 (by omega)
  have c0 := h.c0
  clear h
  go_enter Tryz.func164, Tryz.ntmps164
  go_wp2
  go_ret
  exact ⟨rfl, rfl⟩
/-- The place that a ref names. -/
def isAt (ps : List Pl) (i g : Int) : Option (Nat × Pl) :=
  if i < 0 then none else match ps[i.toNat]? with
    | none => none
    | some a => if a.there && a.gen == g then some (i.toNat, a) else none
def FindPost (w0 : World) (p : Nat) (s : TblS) (ps : List Pl) (free : List Nat) (F : Hp) (i g : Int) (e : Ending) (w' : World) : Prop :=
  TblIs w0 p s ps free F w' ∧ match isAt ps i g with
    | none => e = .returned (.tuple #[.pointer none, vi 11])
    | some (k, _) => e = .returned (.tuple #[.pointer (some ⟨s.a, k * 7, none⟩), vi 0])

set_option maxRecDepth 100000 in
set_option maxHeartbeats 1000000 in
theorem find_ (h : TblIs w0 p s ps free F w) (i g : Int) :
    Calls Tryz.prog 196 #[vp p, vr i g] w (FindPost w0 p s ps free F i g) := by
  have hB : Sat w0 (pc w.heap.size 30 [vi i, vu g] * (tblB p s ps.length free.length * (tblL s ps * (tblF s free * F)))) (w.alloc (.cells #[vi i, vu g] 30)) := h.sat.alloc (.cells #[vi i, vu g] 30)
  have b0 := hB.cell 0 rfl
  have b1 := hB.cell 1 rfl
  have hI : TblIs w0 p s ps free F (w.alloc (.cells #[vi i, vu g] 30)) := ⟨h.ok, hB.dropL⟩
  have c0 := hI.c0
  have H := Lib.hid hI
  have hsm := h.ok.small
  have HN := Lib.hid (none_ hI)
  clear h hB hI
  generalize hwb : w.alloc (.cells #[vi i, vu g] 30) = wb at *
  have HW := Lib.hid hwb
  clear hwb
  generalize hbx : w.heap.size = bx at *
  have HBX := Lib.hid hbx
  clear hbx
  by_cases h1 : i < 0
  · have hfin : ∀ e w', e = .returned (.tuple #[.pointer none, vi 11]) → TblIs w0 p s ps free F w' → FindPost w0 p s ps free F i g e w' := fun e w' he ht => ⟨ht, by rw [isAt, if_pos h1]; exact he⟩
    have HF := Lib.hid hfin
    clear hfin
    go_enter Tryz.func196, Tryz.ntmps196
    go_wp2_with fail
    rw [HW.out, HBX.out]
    refine HN.out.mono ?_
    rintro e w' ⟨rfl, rfl⟩
    go_wp2
    go_quiet (fail)
    go_wp2
    go_ret2
    exact HF.out _ _ rfl (H.out.drewN _)
  · obtain ⟨k, rfl⟩ := Int.eq_ofNat_of_zero_le (show 0 ≤ i by omega)
    by_cases h2 : ps.length ≤ k
    · have h2' : (ps.length : Int) ≤ (k : Int) := by omega
      have hfin : ∀ e w', e = .returned (.tuple #[.pointer none, vi 11]) → TblIs w0 p s ps free F w' → FindPost w0 p s ps free F k g e w' := fun e w' he ht => ⟨ht, by rw [isAt, if_neg (by omega), Int.toNat_natCast, List.getElem?_eq_none h2]; exact he⟩
      have HF := Lib.hid hfin
      clear hfin
      go_enter Tryz.func196, Tryz.ntmps196
      go_wp2_with fail
      rw [HW.out, HBX.out]
      refine HN.out.mono ?_
      rintro e w' ⟨rfl, rfl⟩
      go_wp2
      go_quiet (fail)
      go_wp2
      go_ret2
      exact HF.out _ _ rfl (H.out.drewN _)
    · have h2' : ¬ (ps.length : Int) ≤ (k : Int) := by omega
      have h2i : (k : Int) < (ps.length : Int) := by omega
      obtain ⟨a, ha⟩ : ∃ a, ps[k]? = some a := ⟨ps[k], List.getElem?_eq_getElem (by omega)⟩
      obtain ⟨gen, there, retired, x⟩ := a
      have e0 := H.out.at_ (j := 0) ha rfl
      have e1 := H.out.at_ (j := 1) ha rfl
      rw [Nat.add_zero] at e0
      have hfin : ∀ e w', (if there && gen == g then e = .returned (.tuple #[.pointer (some ⟨s.a, k * 7, none⟩), vi 0]) else e = .returned (.tuple #[.pointer none, vi 11])) → TblIs w0 p s ps free F w' → FindPost w0 p s ps free F k g e w' := fun e w' he ht => ⟨ht, by
        rw [isAt, if_neg (by omega), Int.toNat_natCast, ha]
        by_cases hc : (there && gen == g) = true
        · simp only [hc, if_true] at he ⊢
          exact he
        · simp only [hc] at he ⊢
          exact he⟩
      have HF := Lib.hid hfin
      clear hfin ha
      cases there with
      | false =>
        go_enter Tryz.func196, Tryz.ntmps196
        go_wp2_with fail
        rw [HW.out, HBX.out]
        refine HN.out.mono ?_
        rintro e w' ⟨rfl, rfl⟩
        go_wp2
        go_quiet (fail)
        go_wp2
        go_quiet (fail)
        go_wp2
        go_quiet (fail)
        go_wp2
        go_ret2
        exact HF.out _ _ rfl (((H.out.drewN _).drewN _).drewN _)
      | true =>
        by_cases hg : gen = g
        · subst hg
          go_enter Tryz.func196, Tryz.ntmps196
          go_wp2_with fail
          rw [HW.out, HBX.out]
          refine HN.out.mono ?_
          rintro e w' ⟨rfl, rfl⟩
          go_wp2
          go_quiet (fail)
          go_wp2
          go_quiet (fail)
          go_wp2
          go_quiet (fail)
          go_wp2
          go_ret2
          exact HF.out _ _ (by simp) (((H.out.drewN _).drewN _).drewN _)
        · have hne : (gen != g) = true := by simpa using hg
          go_enter Tryz.func196, Tryz.ntmps196
          go_wp2_with fail
          rw [HW.out, HBX.out]
          refine HN.out.mono ?_
          rintro e w' ⟨rfl, rfl⟩
          go_wp2
          go_quiet (fail)
          go_wp2
          go_quiet (fail)
          go_wp2
          go_quiet (fail)
          go_wp2
          go_ret2
          exact HF.out _ _ (by simp [hg]) (((H.out.drewN _).drewN _).drewN _)
end
end Go.Proofs.YtdbppfcilaajaaaGreat.Ac

namespace Go.Proofs.YtdbppfcilaajaaaGreat.Ac
open Go.RowKit
open Fi (vi vu)
set_option linter.unusedVariables false

theorem isAt_some {ps : List Pl} {i g : Int} {k : Nat} {a : Pl} (h : isAt ps i g = some (k, a)) : ps[k]? = some a ∧ i = k ∧ a.there = true ∧ a.gen = g := by
  unfold isAt at h
  split at h
  · cases h
  · split at h
    · cases h
    · rename_i h0 _ b hb
      split at h
      · rename_i hc
        simp only [Option.some.injEq, Prod.mk.injEq] at h
        obtain ⟨rfl, rfl⟩ := h
        simp only [Bool.and_eq_true, beq_iff_eq] at hc
        exact ⟨hb, by omega, hc.1, hc.2⟩
      · cases h

section
variable {ps : List Pl} {free : List Nat} {k : Nat} {a : Pl}
theorem get_set (hk : ps[k]? = some a) (a' : Pl) (j : Nat) (b : Pl) (h : (ps.set k a')[j]? = some b) : (j = k ∧ b = a') ∨ (j ≠ k ∧ ps[j]? = some b) := by
  rw [List.getElem?_set] at h
  by_cases hj : k = j
  · rw [if_pos hj] at h
    split at h
    · exact .inl ⟨hj.symm, by simpa using h.symm⟩
    · cases h
  · rw [if_neg hj] at h
    exact .inr ⟨fun e => hj e.symm, h⟩
theorem get_set_self (hk : ps[k]? = some a) (a' : Pl) : (ps.set k a')[k]? = some a' := by
  simp [(List.getElem?_eq_some_iff.1 hk).1]
theorem cnt_set (q : Pl → Bool) (hk : ps[k]? = some a) (a' : Pl) : (ps.set k a').countP q + (if q a then 1 else 0) = ps.countP q + if q a' then 1 else 0 := by
  obtain ⟨hl, hg⟩ := List.getElem?_eq_some_iff.1 hk
  rw [List.countP_set hl, hg]
  have : q a = true → 0 < ps.countP q := fun h => List.countP_pos_iff.2 ⟨a, hg ▸ List.getElem_mem hl, h⟩
  split
  · have := this (by assumption)
    omega
  · omega
theorem TblOk.setX (h : TblOk ps free) (hk : ps[k]? = some a) (x : El) : TblOk (ps.set k { a with x := x }) free := by
  refine ⟨by simpa using h.pos, by simpa using h.small, ?_, ?_, ?_, h.nodup, ?_⟩
  · intro j b hb
    rcases get_set hk _ j b hb with ⟨rfl, rfl⟩ | ⟨_, hb⟩
    · have h5 := h.gens _ _ hk; exact h5
    · exact h.gens _ _ hb
  · intro j b hb
    rcases get_set hk _ j b hb with ⟨rfl, rfl⟩ | ⟨_, hb⟩
    · have h5 := h.excl _ _ hk; exact h5
    · exact h.excl _ _ hb
  · intro j
    rw [h.mem]
    constructor
    · rintro ⟨b, hb, h1, h2⟩
      by_cases hj : j = k
      · subst hj
        rw [hk] at hb
        cases hb
        exact ⟨_, get_set_self hk _, h1, h2⟩
      · exact ⟨b, by rw [List.getElem?_set, if_neg (fun e => hj e.symm)]; exact hb, h1, h2⟩
    · rintro ⟨b, hb, h1, h2⟩
      rcases get_set hk _ j b hb with ⟨rfl, rfl⟩ | ⟨_, hb⟩
      · exact ⟨_, hk, h1, h2⟩
      · exact ⟨_, hb, h1, h2⟩
  · have := cnt_set Pl.busy hk { a with x := x }
    have hc := h.cnt
    rw [show Pl.busy { a with x := x } = Pl.busy a from rfl] at this
    rw [List.length_set]
    omega
/-- Something comes. -/
theorem TblOk.come (h : TblOk ps (free ++ [k])) (hk : ps[k]? = some a) (x : El) : TblOk (ps.set k { a with there := true, x := x }) free := by
  have hnd := List.nodup_append.1 h.nodup
  obtain ⟨b, hb, hth, hre⟩ := (h.mem k).1 (by simp)
  rw [hk] at hb
  cases hb
  refine ⟨by simpa using h.pos, by simpa using h.small, ?_, ?_, ?_, hnd.1, ?_⟩
  · intro j b hb
    rcases get_set hk _ j b hb with ⟨rfl, rfl⟩ | ⟨_, hb⟩
    · have h5 := h.gens _ _ hk; exact h5
    · exact h.gens _ _ hb
  · intro j b hb
    rcases get_set hk _ j b hb with ⟨rfl, rfl⟩ | ⟨_, hb⟩
    · exact fun _ => hre
    · exact h.excl _ _ hb
  · intro j
    by_cases hj : j = k
    · subst hj
      constructor
      · intro hm
        exact absurd rfl (hnd.2.2 j hm j (by simp))
      · rintro ⟨b, hb, h1, h2⟩
        rw [get_set_self hk] at hb
        cases hb
        cases h1
    · have := h.mem j
      rw [List.getElem?_set, if_neg (fun e => hj e.symm), ← this]
      simp [hj]
  · have := cnt_set Pl.busy hk { a with there := true, x := x }
    have hc := h.cnt
    simp only [Pl.busy, hth, hre, Bool.or_self, List.length_append, List.length_cons, List.length_nil, Bool.false_eq_true, if_false, Bool.true_or, if_true] at this hc ⊢
    rw [List.length_set]
    omega
/-- Something goes, for others to come there. -/
theorem TblOk.go (h : TblOk ps free) (hk : ps[k]? = some a) (ht : a.there = true) (hg : a.gen ≠ 18446744073709551614) : TblOk (ps.set k { a with gen := a.gen + 1, there := false, x := ez }) (free ++ [k]) := by
  have hre := h.excl _ _ hk ht
  refine ⟨by simpa using h.pos, by simpa using h.small, ?_, ?_, ?_, ?_, ?_⟩
  · intro j b hb
    rcases get_set hk _ j b hb with ⟨rfl, rfl⟩ | ⟨_, hb⟩
    · have := h.gens _ _ hk
      exact ⟨by show 1 ≤ a.gen + 1; omega, by show a.gen + 1 ≤ _; omega⟩
    · exact h.gens _ _ hb
  · intro j b hb
    rcases get_set hk _ j b hb with ⟨rfl, rfl⟩ | ⟨_, hb⟩
    · exact fun _ => hre
    · exact h.excl _ _ hb
  · intro j
    by_cases hj : j = k
    · subst hj
      exact ⟨fun _ => ⟨_, get_set_self hk _, rfl, hre⟩, fun _ => by simp⟩
    · have := h.mem j
      rw [List.getElem?_set, if_neg (fun e => hj e.symm), ← this]
      simp [hj]
  · refine List.nodup_append.2 ⟨h.nodup, by simp, ?_⟩
    rintro j hj j' hj' rfl
    simp only [List.mem_singleton] at hj'
    subst hj'
    obtain ⟨b, hb, h1, _⟩ := (h.mem j).1 hj
    rw [hk] at hb
    cases hb
    rw [ht] at h1
    cases h1
  · have := cnt_set Pl.busy hk { a with gen := a.gen + 1, there := false, x := ez }
    have hc := h.cnt
    simp only [Pl.busy, ht, hre, Bool.or_self, List.length_append, List.length_cons, List.length_nil, Bool.false_eq_true, if_false, Bool.true_or, if_true] at this hc ⊢
    rw [List.length_set]
    omega
theorem TblOk.fresh (n : Nat) (h1 : 1 ≤ n) (h2 : n ≤ 4096) (g : Int) (hg : 1 ≤ g) (hg' : g ≤ 18446744073709551614) : TblOk (List.replicate n ⟨g, false, false, ez⟩) ((List.range n).map fun i => n - 1 - i) := by
  refine ⟨by simp; omega, by simpa using h2, ?_, ?_, ?_, ?_, ?_⟩
  · intro k a h
    simp only [List.getElem?_replicate] at h
    split at h
    · cases h; exact ⟨hg, hg'⟩
    · cases h
  · intro k a h
    simp only [List.getElem?_replicate] at h
    split at h
    · cases h; exact fun e => by cases e
    · cases h
  · intro k
    simp only [List.mem_map, List.mem_range, List.getElem?_replicate]
    constructor
    · rintro ⟨i, hi, rfl⟩
      exact ⟨_, by rw [if_pos (by omega)], rfl, rfl⟩
    · rintro ⟨a, ha, _⟩
      split at ha
      · exact ⟨n - 1 - k, by omega, by omega⟩
      · cases ha
  · rw [List.nodup_iff_pairwise_ne, List.pairwise_map]
    refine List.Pairwise.imp_of_mem ?_ List.pairwise_lt_range
    intro i j hi hj hij
    simp only [List.mem_range] at hi hj
    omega
  · simp [List.countP_replicate, Pl.busy]
end

section
variable {w0 w : World} {p : Nat} {s : TblS} {ps : List Pl} {free : List Nat} {F : Hp}
theorem find_no (h : TblIs w0 p s ps free F w) {i g : Int} (hA : isAt ps i g = none) :
    Calls Tryz.prog 196 #[vp p, vr i g] w fun e w' => e = .returned (.tuple #[.pointer none, vi 11]) ∧ TblIs w0 p s ps free F w' :=
  (find_ h i g).mono fun e w' ⟨h1, h2⟩ => by
    rw [hA] at h2
    exact ⟨h2, h1⟩
theorem find_yes (h : TblIs w0 p s ps free F w) {i g : Int} {k : Nat} {a : Pl} (hA : isAt ps i g = some (k, a)) :
    Calls Tryz.prog 196 #[vp p, vr i g] w fun e w' => e = .returned (.tuple #[.pointer (some ⟨s.a, k * 7, none⟩), vi 0]) ∧ TblIs w0 p s ps free F w' :=
  (find_ h i g).mono fun e w' ⟨h1, h2⟩ => by
    rw [hA] at h2
    exact ⟨h2, h1⟩

def getX (ps : List Pl) (i g : Int) : El := match isAt ps i g with | none => ez | some (_, a) => a.x
def getE (ps : List Pl) (i g : Int) : Int := match isAt ps i g with | none => 11 | some _ => 0

theorem TblIs.alloc (h : TblIs w0 p s ps free F w) (o : Obj) : TblIs w0 p s ps free F (w.alloc o) := ⟨h.ok, h.sat.alloc' o⟩

set_option maxRecDepth 100000 in
set_option maxHeartbeats 8000000 in
theorem get_at (h : TblIs w0 p s ps free F w) (i g : Int) :
    Calls Tryz.prog 190 #[vp p, vr i g] w fun e w' => e = .returned (.tuple #[ev (getX ps i g), vi (getE ps i g)]) ∧ TblIs w0 p s ps free F w' := by
  have hI : TblIs w0 p s ps free (elB (w.heap.size + 1) ez * F) ((w.alloc (.cells #[vi i, vu g] 30)).alloc (elO ez)) := ⟨h.ok, by
    have hh := (h.sat.alloc' (.cells #[vi i, vu g] 30)).alloc (elO ez)
    rw [size1] at hh
    exact (show Sat w0 (elB (w.heap.size + 1) ez * (tblB p s ps.length free.length * (tblL s ps * (tblF s free * F)))) _ from hh).cast (by ac_rfl)⟩
  unfold getX getE
  cases hA : isAt ps i g with
  | none =>
    have H := Lib.hid (find_no hI hA)
    have hA' := Lib.hid hA
    clear h hI hA
    go_enter Tryz.func190, Tryz.ntmps190
    go_wp2_with (first
      | (go_at_call 196; refine H.out.mono ?_; rintro e w1 ⟨rfl, hT0⟩; have hT := hT0.alloc (elO ez); have HX := Lib.hid hT.sat.pull4; have HTh := Lib.hid (there_ (n := 4) hT.sat.pull4 rfl); have HOK := Lib.hid hT.ok; have HLd := Lib.hid (range_ (hT0.sat.alloc (elO ez))); clear hT hT0)
      | (refine wpList_load_mid rfl 180 _ rfl w1.heap.size 0 (by rfl) (elC ez) _ HLd.out Tryz.underlying180 rfl einfo ?_)
      | (refine wpList_store_mid rfl 180 _ _ rfl (w.heap.size + 1) 0 (elC ez).toArray (by rfl) (by rfl) HTh.out einfo (all_oneCell_toArray (elOne ez)) ?_; have HS := Lib.hid (HX.out.stores (elC ez) 0); have HR := Lib.hid (World.rangeAt_setCells_same _ (w.heap.size + 1) 0 (elC ez) HTh.out); generalize hw2 : World.setCells _ _ _ _ = w2; have HS : Hid (Sat w0 _ w2) := hw2 ▸ HS; have HR : Hid (World.rangeAt w2 _ _ _) := hw2 ▸ HR; clear hw2))
    (try simp only [Exit.inBlock, Exit.then])
    refine bodyPost_ret (v := .tuple #[ev ez, vi 11]) (results_row rfl _ _ _ rfl rfl HR.out Tryz.underlying180 rfl einfo) rfl ?_
    exact ⟨rfl, HOK.out, HS.out.dropL⟩
  | some ka =>
    obtain ⟨k, a⟩ := ka
    have H := Lib.hid (find_yes hI hA)
    have ha := isAt_some hA
    have hlt : k < ps.length := (List.getElem?_eq_some_iff.1 ha.1).1
    have HA := Lib.hid ha
    have hA' := Lib.hid hA
    clear h hI hA ha
    go_enter Tryz.func190, Tryz.ntmps190
    go_wp2_with (first
      | (go_at_call 196; refine H.out.mono ?_; rintro e w1 ⟨rfl, hT⟩; have HLd := Lib.hid (hT.rng HA.out.1); have HX := Lib.hid hT.sat.pull4; have HTh := Lib.hid (there_ (n := 4) hT.sat.pull4 rfl); have HOK := Lib.hid hT.ok; clear hT)
      | (refine wpList_load_mid rfl 180 _ rfl s.a (k * 7 + 3) (by rfl) (elC a.x) _ HLd.out Tryz.underlying180 rfl einfo ?_)
      | (refine wpList_store_mid rfl 180 _ _ rfl (w.heap.size + 1) 0 (elC a.x).toArray (by rfl) (by rfl) HTh.out einfo (all_oneCell_toArray (elOne a.x)) ?_; have HS := Lib.hid (HX.out.stores (elC a.x) 0); have HR := Lib.hid (World.rangeAt_setCells_same _ (w.heap.size + 1) 0 (elC a.x) HTh.out); generalize hw2 : World.setCells _ _ _ _ = w2; have HS : Hid (Sat w0 _ w2) := hw2 ▸ HS; have HR : Hid (World.rangeAt w2 _ _ _) := hw2 ▸ HR; clear hw2))
    (try simp only [Exit.inBlock, Exit.then])
    refine bodyPost_ret (v := .tuple #[ev a.x, vi 0]) (results_row rfl _ _ _ rfl rfl HR.out Tryz.underlying180 rfl einfo) rfl ?_
    exact ⟨rfl, HOK.out, HS.out.dropL⟩

theorem get_ (h : Sat w0 (tblP p ps free * F) w) (i g : Int) :
    Calls Tryz.prog 190 #[vp p, vr i g] w fun e w' => e = .returned (.tuple #[ev (getX ps i g), vi (getE ps i g)]) ∧ Sat w0 (tblP p ps free * F) w' := by
  obtain ⟨s, hs⟩ := open_ h
  exact (get_at hs i g).mono fun e w' ⟨h1, h2⟩ => ⟨h1, h2.shut⟩

end
end Go.Proofs.YtdbppfcilaajaaaGreat.Ac

namespace Go.Proofs.YtdbppfcilaajaaaGreat.Ac
open Go.RowKit
open Fi (vi vu)
set_option linter.unusedVariables false

section
variable {w0 w : World} {p : Nat} {s : TblS} {ps : List Pl} {free : List Nat} {F : Hp}
def setP (ps : List Pl) (i g : Int) (x : El) : List Pl := match isAt ps i g with | none => ps | some (k, a) => ps.set k { a with x := x }

set_option maxRecDepth 100000 in
set_option maxHeartbeats 8000000 in
theorem set_ (h : Sat w0 (tblP p ps free * F) w) (i g : Int) (x : El) :
    Calls Tryz.prog 144 #[vp p, vr i g, ev x] w fun e w' => e = .returned (vi (getE ps i g)) ∧ Sat w0 (tblP p (setP ps i g x) free * F) w' := by
  obtain ⟨s, hs⟩ := open_ h
  have hI : TblIs w0 p s ps free (elB (w.heap.size + 1) x * F) ((w.alloc (.cells #[vi i, vu g] 30)).alloc (elO x)) := ⟨hs.ok, by
    have hh := (hs.sat.alloc' (.cells #[vi i, vu g] 30)).alloc (elO x)
    rw [size1] at hh
    exact (show Sat w0 (elB (w.heap.size + 1) x * (tblB p s ps.length free.length * (tblL s ps * (tblF s free * F)))) _ from hh).cast (by ac_rfl)⟩
  unfold getE setP
  cases hA : isAt ps i g with
  | none =>
    have H := Lib.hid (find_no hI hA)
    have hA' := Lib.hid hA
    clear h hI hA hs
    go_enter Tryz.func144, Tryz.ntmps144
    go_wp2_with (go_at_call 196; refine H.out.mono ?_; rintro e w' ⟨rfl, hT⟩)
    go_ret
    exact ⟨rfl, hT.shut.drop2⟩
  | some ka =>
    obtain ⟨k, a⟩ := ka
    have H := Lib.hid (find_yes hI hA)
    have ha := isAt_some hA
    have hlt : k < ps.length := (List.getElem?_eq_some_iff.1 ha.1).1
    have HA := Lib.hid ha
    have hA' := Lib.hid hA
    have hok : TblOk (ps.set k { a with x := x }) free := hs.ok.setX ha.1 x
    have HOK := Lib.hid hok
    clear h hI hA ha hs hok
    go_enter Tryz.func144, Tryz.ntmps144
    go_wp2_with (first
      | (go_at_call 196; refine H.out.mono ?_; rintro e w1 ⟨rfl, hT⟩; have HLd := Lib.hid (range_ hT.sat.pull4); have HTh := Lib.hid (hT.thr HA.out.1); have HT := Lib.hid hT; clear hT)
      | (refine wpList_load_mid rfl 180 _ rfl (w.heap.size + 1) 0 (by rfl) (elC x) _ HLd.out Tryz.underlying180 rfl einfo ?_)
      | (refine wpList_store_mid rfl 180 _ _ rfl s.a (k * 7 + 3) (elC x).toArray (by rfl) (by rfl) HTh.out einfo (all_oneCell_toArray (elOne x)) ?_; have HS := Lib.hid (storeX HT.out.sat.pull2 HA.out.1 rfl x); have HS : Hid (Sat w0 _ (w1.setCells s.a (k * 7 + 3) (elC x).toArray.toList)) := HS; generalize World.setCells _ _ _ _ = w2 at *))
    go_ret
    have hl : (ps.set k { a with x := x }).length = ps.length := List.length_set
    refine ⟨rfl, (TblIs.shut (s := s) (F := elB (w.heap.size + 1) x * F) ⟨HOK.out, ?_⟩).drop2⟩
    exact HS.out.pull2.cast (by simp only [tblB, tblL, hl])
end
end Go.Proofs.YtdbppfcilaajaaaGreat.Ac
