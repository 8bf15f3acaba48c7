/-
  Contracts of package arena at T = helmsman/api.Domain: none, find. No statement is proved here.
-/
import Derived.Test.YtdbppfcilaajaaaGreatProg
import Derived.Test.YtdbppfcilaajaaaGreatMg3
import Derived.Laws.ResultCell
import Derived.Deep.MidRow
namespace Go.Proofs.YtdbppfcilaajaaaGreat.Ad
open Go.RowKit
set_option linter.unusedVariables false

abbrev vi (x : Int) : Value := .int .i64 x
abbrev vu (x : Int) : Value := .int .u64 x
abbrev vp (p : Nat) : Value := .pointer (some ⟨p, 0, none⟩)
abbrev vr (i g : Int) : Value := .agg #[vi i, vu g]
structure El where
  v0 : Int
  v1 : Int
  v2 : Int
  v3 : Int
  v4 : Int
  v5 : Int
  v6 : Int
  v7 : Int
  v8 : Int
  v9 : Int
  v10 : Int
abbrev ev (x : El) : Value := .agg #[(.int .i64 x.v0), (.int .u64 x.v1), (.int .i64 x.v2), (.int .u64 x.v3), (.int .u64 x.v4), (.int .i64 x.v5), (.int .u64 x.v6), (.int .i64 x.v7), (.int .i64 x.v8), (.int .u64 x.v9), (.int .i64 x.v10)]
abbrev ez : El := ⟨0, 0, 0, 0, 0, 0, 0, 0, 0, 0, 0⟩

structure Pl where
  gen : Int
  there : Bool
  retired : Bool
  x : El
def Pl.cells (p : Pl) : List Value := [vu p.gen, .bool p.there, .bool p.retired, (.int .i64 p.x.v0), (.int .u64 p.x.v1), (.int .i64 p.x.v2), (.int .u64 p.x.v3), (.int .u64 p.x.v4), (.int .i64 p.x.v5), (.int .u64 p.x.v6), (.int .i64 p.x.v7), (.int .i64 p.x.v8), (.int .u64 p.x.v9), (.int .i64 p.x.v10)]
theorem Pl.len (p : Pl) : p.cells.length = 14 := rfl
theorem Pl.one (p : Pl) : ∀ u ∈ p.cells, u.oneCell' = true := by
  intro u hu
  simp [Pl.cells] at hu
  rcases hu with rfl | rfl | rfl | rfl | rfl | rfl | rfl | rfl | rfl | rfl | rfl | rfl | rfl | rfl <;> rfl
abbrev flat (ps : List Pl) : List Value := ps.flatMap Pl.cells

/-- An element laid into a place. -/
abbrev El.st (w : World) (b o : Nat) (x : El) : World := ((((((((((w.setCell ⟨b, o, none⟩ (.int .i64 x.v0)).setCell ⟨b, o + 1, none⟩ (.int .u64 x.v1)).setCell ⟨b, o + 2, none⟩ (.int .i64 x.v2)).setCell ⟨b, o + 3, none⟩ (.int .u64 x.v3)).setCell ⟨b, o + 4, none⟩ (.int .u64 x.v4)).setCell ⟨b, o + 5, none⟩ (.int .i64 x.v5)).setCell ⟨b, o + 6, none⟩ (.int .u64 x.v6)).setCell ⟨b, o + 7, none⟩ (.int .i64 x.v7)).setCell ⟨b, o + 8, none⟩ (.int .i64 x.v8)).setCell ⟨b, o + 9, none⟩ (.int .u64 x.v9)).setCell ⟨b, o + 10, none⟩ (.int .i64 x.v10)
theorem storeX {T : TypeId} {g n cap k : Nat} {ps : List Pl} {a : Pl} {F : Hp} {w0 w : World} (h : Sat w0 (sl T 14 (.slice (some ⟨g, 0, none⟩) n cap) n (flat ps) * F) w) (hk : ps[k]? = some a) (hn : ps.length = n) (x : El) :
    Sat w0 (sl T 14 (.slice (some ⟨g, 0, none⟩) n cap) n (flat (ps.set k { a with x := x })) * F) (El.st w g (k * 14 + 3) x) := by
  have hlt : k < n := by rw [← hn]; exact (List.getElem?_eq_some_iff.1 hk).1
  have hself : ∀ a' : Pl, (ps.set k a')[k]? = some a' := fun a' => by simp [(List.getElem?_eq_some_iff.1 hk).1]
  have h0 := h.slStore (k * 14 + 3) (by omega) (.int .i64 x.v0)
  rw [flat_set Pl.len ps k 3 a { a with x := { a.x with v0 := x.v0 } } _ hk (by omega) rfl] at h0
  have h1 := h0.slStore (k * 14 + 4) (by omega) (.int .u64 x.v1)
  rw [flat_set Pl.len _ k 4 ({ a with x := { a.x with v0 := x.v0 } } : Pl) { a with x := { a.x with v0 := x.v0, v1 := x.v1 } } _ (hself _) (by omega) rfl, List.set_set] at h1
  have h2 := h1.slStore (k * 14 + 5) (by omega) (.int .i64 x.v2)
  rw [flat_set Pl.len _ k 5 ({ a with x := { a.x with v0 := x.v0, v1 := x.v1 } } : Pl) { a with x := { a.x with v0 := x.v0, v1 := x.v1, v2 := x.v2 } } _ (hself _) (by omega) rfl, List.set_set] at h2
  have h3 := h2.slStore (k * 14 + 6) (by omega) (.int .u64 x.v3)
  rw [flat_set Pl.len _ k 6 ({ a with x := { a.x with v0 := x.v0, v1 := x.v1, v2 := x.v2 } } : Pl) { a with x := { a.x with v0 := x.v0, v1 := x.v1, v2 := x.v2, v3 := x.v3 } } _ (hself _) (by omega) rfl, List.set_set] at h3
  have h4 := h3.slStore (k * 14 + 7) (by omega) (.int .u64 x.v4)
  rw [flat_set Pl.len _ k 7 ({ a with x := { a.x with v0 := x.v0, v1 := x.v1, v2 := x.v2, v3 := x.v3 } } : Pl) { a with x := { a.x with v0 := x.v0, v1 := x.v1, v2 := x.v2, v3 := x.v3, v4 := x.v4 } } _ (hself _) (by omega) rfl, List.set_set] at h4
  have h5 := h4.slStore (k * 14 + 8) (by omega) (.int .i64 x.v5)
  rw [flat_set Pl.len _ k 8 ({ a with x := { a.x with v0 := x.v0, v1 := x.v1, v2 := x.v2, v3 := x.v3, v4 := x.v4 } } : Pl) { a with x := { a.x with v0 := x.v0, v1 := x.v1, v2 := x.v2, v3 := x.v3, v4 := x.v4, v5 := x.v5 } } _ (hself _) (by omega) rfl, List.set_set] at h5
  have h6 := h5.slStore (k * 14 + 9) (by omega) (.int .u64 x.v6)
  rw [flat_set Pl.len _ k 9 ({ a with x := { a.x with v0 := x.v0, v1 := x.v1, v2 := x.v2, v3 := x.v3, v4 := x.v4, v5 := x.v5 } } : Pl) { a with x := { a.x with v0 := x.v0, v1 := x.v1, v2 := x.v2, v3 := x.v3, v4 := x.v4, v5 := x.v5, v6 := x.v6 } } _ (hself _) (by omega) rfl, List.set_set] at h6
  have h7 := h6.slStore (k * 14 + 10) (by omega) (.int .i64 x.v7)
  rw [flat_set Pl.len _ k 10 ({ a with x := { a.x with v0 := x.v0, v1 := x.v1, v2 := x.v2, v3 := x.v3, v4 := x.v4, v5 := x.v5, v6 := x.v6 } } : Pl) { a with x := { a.x with v0 := x.v0, v1 := x.v1, v2 := x.v2, v3 := x.v3, v4 := x.v4, v5 := x.v5, v6 := x.v6, v7 := x.v7 } } _ (hself _) (by omega) rfl, List.set_set] at h7
  have h8 := h7.slStore (k * 14 + 11) (by omega) (.int .i64 x.v8)
  rw [flat_set Pl.len _ k 11 ({ a with x := { a.x with v0 := x.v0, v1 := x.v1, v2 := x.v2, v3 := x.v3, v4 := x.v4, v5 := x.v5, v6 := x.v6, v7 := x.v7 } } : Pl) { a with x := { a.x with v0 := x.v0, v1 := x.v1, v2 := x.v2, v3 := x.v3, v4 := x.v4, v5 := x.v5, v6 := x.v6, v7 := x.v7, v8 := x.v8 } } _ (hself _) (by omega) rfl, List.set_set] at h8
  have h9 := h8.slStore (k * 14 + 12) (by omega) (.int .u64 x.v9)
  rw [flat_set Pl.len _ k 12 ({ a with x := { a.x with v0 := x.v0, v1 := x.v1, v2 := x.v2, v3 := x.v3, v4 := x.v4, v5 := x.v5, v6 := x.v6, v7 := x.v7, v8 := x.v8 } } : Pl) { a with x := { a.x with v0 := x.v0, v1 := x.v1, v2 := x.v2, v3 := x.v3, v4 := x.v4, v5 := x.v5, v6 := x.v6, v7 := x.v7, v8 := x.v8, v9 := x.v9 } } _ (hself _) (by omega) rfl, List.set_set] at h9
  have h10 := h9.slStore (k * 14 + 13) (by omega) (.int .i64 x.v10)
  rw [flat_set Pl.len _ k 13 ({ a with x := { a.x with v0 := x.v0, v1 := x.v1, v2 := x.v2, v3 := x.v3, v4 := x.v4, v5 := x.v5, v6 := x.v6, v7 := x.v7, v8 := x.v8, v9 := x.v9 } } : Pl) { a with x := { a.x with v0 := x.v0, v1 := x.v1, v2 := x.v2, v3 := x.v3, v4 := x.v4, v5 := x.v5, v6 := x.v6, v7 := x.v7, v8 := x.v8, v9 := x.v9, v10 := x.v10 } } _ (hself _) (by omega) rfl, List.set_set] at h10
  exact h10
/-- An element in a block of its own. -/
abbrev elC (x : El) : List Value := [(.int .i64 x.v0), (.int .u64 x.v1), (.int .i64 x.v2), (.int .u64 x.v3), (.int .u64 x.v4), (.int .i64 x.v5), (.int .u64 x.v6), (.int .i64 x.v7), (.int .i64 x.v8), (.int .u64 x.v9), (.int .i64 x.v10)]
abbrev elB (b : Nat) (x : El) : Hp := pc b 188 (elC x)
abbrev elO (x : El) : Obj := .cells #[(.int .i64 x.v0), (.int .u64 x.v1), (.int .i64 x.v2), (.int .u64 x.v3), (.int .u64 x.v4), (.int .i64 x.v5), (.int .u64 x.v6), (.int .i64 x.v7), (.int .i64 x.v8), (.int .u64 x.v9), (.int .i64 x.v10)] 188
theorem elOne (x : El) : ∀ u ∈ elC x, u.oneCell' = true := by
  intro u hu
  simp [elC] at hu
  rcases hu with rfl | rfl | rfl | rfl | rfl | rfl | rfl | rfl | rfl | rfl | rfl <;> rfl
theorem there_ {b : Nat} {T : TypeId} {cs : List Value} {F : Hp} {w0 w : World} (h : Sat w0 (pc b T cs * F) w) {n : Nat} (hn : cs.length = n) : w.there b 0 n := fun j hj => by
  rw [Nat.zero_add, h.cell j (List.getElem?_eq_getElem (by omega))]
  exact ⟨rfl, h.free j⟩
theorem range_ {b : Nat} {T : TypeId} {cs : List Value} {F : Hp} {w0 w : World} (h : Sat w0 (pc b T cs * F) w) : w.rangeAt b 0 cs := fun j v hv => by
  rw [Nat.zero_add]
  exact h.cell j hv
theorem einfo : (Tryz.prog.info? 188).map (·.size) = some 11 := by kernel_rfl
theorem results_row {fn : Func} {p u : Tmp} {ty : TypeId} (h : fn.results = #[.cell p ty, .tmp u]) (tmps : Array Value) (P : Program) (w : World) {b : Nat} {cs : List Value} {v : Value} {d : TypeDesc}
    (hp : tmps.getD p undef = .pointer (some ⟨b, 0, none⟩)) (hv : tmps.getD u undef = v) (hc : w.rangeAt b 0 cs) (hu : P.underlying ty = some d) (hd : d.isRow = true) (hi : (P.info? ty).map (·.size) = some cs.length) :
    (results fn tmps).run P w = .ok (.tuple #[.agg cs.toArray, v]) w := by
  rw [results_cell_tmp h, hp, hv]
  have e : (asAddr (.pointer (some ⟨b, 0, none⟩))).run P w = .ok ⟨b, 0, none⟩ w := rfl
  rw [e]
  simp only [Result.andThen]
  rw [run_loadVar_mid w b 0 ty cs d hc hu hd hi]
theorem size1 (w : World) (o : Obj) : (w.alloc o).heap.size = w.heap.size + 1 := by simp
theorem slThere {T : TypeId} {g n cap k : Nat} {ps : List Pl} {a : Pl} {F : Hp} {w0 w : World} (h : Sat w0 (sl T 14 (.slice (some ⟨g, 0, none⟩) n cap) n (flat ps) * F) w) (hk : ps[k]? = some a) (hn : ps.length = n) : w.there g (k * 14 + 3) 11 := fun j hj => by
  have hj' : j < (elC a.x).length := hj
  have hc := h.slCell (k * 14 + (3 + j)) (u := (elC a.x)[j]) (flat_get Pl.len hk (by rw [Nat.add_comm]; exact List.getElem?_eq_getElem hj'))
  rw [← Nat.add_assoc] at hc
  rw [hc]
  exact ⟨rfl, h.slFree _⟩
theorem Einti : SlT Tryz.prog 140 3 1 8 (.int .i64 0) := SlT.mk' Tryz.underlying140 (by kernel_rfl) rfl (by decide)
theorem Epl : SlT Tryz.prog 299 303 14 104 (.agg #[vu 0, .bool false, .bool false, .int .i64 0, .int .u64 0, .int .i64 0, .int .u64 0, .int .u64 0, .int .i64 0, .int .u64 0, .int .i64 0, .int .i64 0, .int .u64 0, .int .i64 0]) := SlT.mk' Tryz.underlying299 (by kernel_rfl) rfl (by decide)

structure TblS where
  a : Nat
  cap : Nat
  fo : Option Addr
  fcap : Nat

abbrev TblS.lv (s : TblS) (n : Nat) : Value := .slice (some ⟨s.a, 0, none⟩) n s.cap
abbrev TblS.fv (s : TblS) (m : Nat) : Value := .slice s.fo m s.fcap
def Pl.busy (a : Pl) : Bool := a.there || a.retired
structure TblOk (ps : List Pl) (free : List Nat) : Prop where
  pos : 0 < ps.length
  small : ps.length ≤ 4096
  gens : ∀ (k : Nat) (a : Pl), ps[k]? = some a → 1 ≤ a.gen ∧ a.gen ≤ 18446744073709551614
  excl : ∀ (k : Nat) (a : Pl), ps[k]? = some a → a.there = true → a.retired = false
  mem : ∀ k : Nat, k ∈ free ↔ ∃ a : Pl, ps[k]? = some a ∧ a.there = false ∧ a.retired = false
  nodup : free.Nodup
  cnt : free.length + ps.countP Pl.busy = ps.length
theorem TblOk.fsmall {ps : List Pl} {free : List Nat} (h : TblOk ps free) : free.length ≤ 4096 := by
  have := h.cnt
  have := h.small
  omega
abbrev tblB (p : Nat) (s : TblS) (n m : Nat) : Hp := pc p 301 [s.lv n, s.fv m]
abbrev tblL (s : TblS) (ps : List Pl) : Hp := sl 303 14 (s.lv ps.length) ps.length (flat ps)
abbrev tblF (s : TblS) (free : List Nat) : Hp := sl 3 1 (s.fv free.length) free.length (free.map fun k : Nat => vi k)
def tblP (p : Nat) (ps : List Pl) (free : List Nat) : Hp := ex fun s : TblS => given (TblOk ps free) (tblB p s ps.length free.length * (tblL s ps * tblF s free))

structure TblIs (w0 : World) (p : Nat) (s : TblS) (ps : List Pl) (free : List Nat) (F : Hp) (w : World) : Prop where
  ok : TblOk ps free
  sat : Sat w0 (tblB p s ps.length free.length * (tblL s ps * (tblF s free * F))) w

section
variable {w0 w : World} {p : Nat} {s : TblS} {ps : List Pl} {free : List Nat} {F : Hp}
theorem open_ (h : Sat w0 (tblP p ps free * F) w) : ∃ s, TblIs w0 p s ps free F w := by
  obtain ⟨s, h⟩ := h.exE
  obtain ⟨ok, h⟩ := h.givenE
  exact ⟨s, ok, h.cast (by rw [sep_assoc, sep_assoc])⟩
theorem TblIs.shut (h : TblIs w0 p s ps free F w) : Sat w0 (tblP p ps free * F) w :=
  Sat.exI s (Sat.givenI h.ok (h.sat.cast (by rw [sep_assoc, sep_assoc])))
theorem TblIs.c0 (h : TblIs w0 p s ps free F w) : w.cell? ⟨p, 0, none⟩ = some (.slice (some ⟨s.a, 0, none⟩) ps.length s.cap) := h.sat.cell 0 rfl
theorem TblIs.c1 (h : TblIs w0 p s ps free F w) : w.cell? ⟨p, 1, none⟩ = some (.slice s.fo free.length s.fcap) := h.sat.cell 1 rfl
theorem TblIs.free_ (h : TblIs w0 p s ps free F w) (i : Nat) : w.frozen? ⟨p, i, none⟩ = false := h.sat.free i
theorem TblIs.lfree (h : TblIs w0 p s ps free F w) (i : Nat) : w.frozen? ⟨s.a, i, none⟩ = false := h.sat.pull2.slFree i
theorem TblIs.at_ (h : TblIs w0 p s ps free F w) {i j : Nat} {a : Pl} {v : Value} (hi : ps[i]? = some a) (hv : a.cells[j]? = some v) : w.cell? ⟨s.a, i * 14 + j, none⟩ = some v :=
  h.sat.pull2.slCell _ (flat_get Pl.len hi hv)
theorem TblIs.rng (h : TblIs w0 p s ps free F w) {k : Nat} {a : Pl} (hk : ps[k]? = some a) : w.rangeAt s.a (k * 14 + 3) (elC a.x) := fun j v hv => by
  have := h.at_ (j := 3 + j) hk (v := v) (by rw [Nat.add_comm]; exact hv)
  rw [← Nat.add_assoc] at this
  exact this
theorem TblIs.thr (h : TblIs w0 p s ps free F w) {k : Nat} {a : Pl} (hk : ps[k]? = some a) : w.there s.a (k * 14 + 3) 11 := fun j hj => by
  have hj' : j < (elC a.x).length := hj
  rw [h.rng hk j _ (List.getElem?_eq_getElem hj')]
  exact ⟨rfl, h.lfree _⟩
theorem TblIs.drewN (h : TblIs w0 p s ps free F w) (k : Nat) : TblIs w0 p s ps free F (w.drewN k) := ⟨h.ok, h.sat.drewN k⟩

theorem none_ (h : TblIs w0 p s ps free F w) : Calls Tryz.prog 162 #[vp p] w fun e w' => e = .returned (.bool false) ∧ w = w' := by
  have hpos := h.ok.pos
  have hsm := h.ok.small
  have h0 : ((ps.length : Int) == 0) = false := beq_eq_false_iff_ne.2 (by omega)
  have c0 := h.c0
  clear h
  go_enter Tryz.func162, Tryz.ntmps162
  go_wp2
  go_ret
  exact ⟨rfl, rfl⟩
/-- The place that a ref names. -/
def isAt (ps : List Pl) (i g : Int) : Option (Nat × Pl) :=
  if i < 0 then none else match ps[i.toNat]? with
    | none => none
    | some a => if a.there && a.gen == g then some (i.toNat, a) else none
def FindPost (w0 : World) (p : Nat) (s : TblS) (ps : List Pl) (free : List Nat) (F : Hp) (i g : Int) (e : Ending) (w' : World) : Prop :=
  TblIs w0 p s ps free F w' ∧ match isAt ps i g with
    | none => e = .returned (.tuple #[.pointer none, vi 11])
    | some (k, _) => e = .returned (.tuple #[.pointer (some ⟨s.a, k * 14, none⟩), vi 0])

set_option maxRecDepth 100000 in
set_option maxHeartbeats 1000000 in
theorem find_ (h : TblIs w0 p s ps free F w) (i g : Int) :
    Calls Tryz.prog 209 #[vp p, vr i g] w (FindPost w0 p s ps free F i g) := by
  have hB : Sat w0 (pc w.heap.size 30 [vi i, vu g] * (tblB p s ps.length free.length * (tblL s ps * (tblF s free * F)))) (w.alloc (.cells #[vi i, vu g] 30)) := h.sat.alloc (.cells #[vi i, vu g] 30)
  have b0 := hB.cell 0 rfl
  have b1 := hB.cell 1 rfl
  have hI : TblIs w0 p s ps free F (w.alloc (.cells #[vi i, vu g] 30)) := ⟨h.ok, hB.dropL⟩
  have c0 := hI.c0
  have H := Lib.hid hI
  have hsm := h.ok.small
  have HN := Lib.hid (none_ hI)
  clear h hB hI
  generalize hwb : w.alloc (.cells #[vi i, vu g] 30) = wb at *
  have HW := Lib.hid hwb
  clear hwb
  generalize hbx : w.heap.size = bx at *
  have HBX := Lib.hid hbx
  clear hbx
  by_cases h1 : i < 0
  · have hfin : ∀ e w', e = .returned (.tuple #[.pointer none, vi 11]) → TblIs w0 p s ps free F w' → FindPost w0 p s ps free F i g e w' := fun e w' he ht => ⟨ht, by rw [isAt, if_pos h1]; exact he⟩
    have HF := Lib.hid hfin
    clear hfin
    go_enter Tryz.func209, Tryz.ntmps209
    go_wp2_with fail
    rw [HW.out, HBX.out]
    refine HN.out.mono ?_
    rintro e w' ⟨rfl, rfl⟩
    go_wp2
    go_quiet (fail)
    go_wp2
    go_ret2
    exact HF.out _ _ rfl (H.out.drewN _)
  · obtain ⟨k, rfl⟩ := Int.eq_ofNat_of_zero_le (show 0 ≤ i by omega)
    by_cases h2 : ps.length ≤ k
    · have h2' : (ps.length : Int) ≤ (k : Int) := by omega
      have hfin : ∀ e w', e = .returned (.tuple #[.pointer none, vi 11]) → TblIs w0 p s ps free F w' → FindPost w0 p s ps free F k g e w' := fun e w' he ht => ⟨ht, by rw [isAt, if_neg (by omega), Int.toNat_natCast, List.getElem?_eq_none h2]; exact he⟩
      have HF := Lib.hid hfin
      clear hfin
      go_enter Tryz.func209, Tryz.ntmps209
      go_wp2_with fail
      rw [HW.out, HBX.out]
      refine HN.out.mono ?_
      rintro e w' ⟨rfl, rfl⟩
      go_wp2
      go_quiet (fail)
      go_wp2
      go_ret2
      exact HF.out _ _ rfl (H.out.drewN _)
    · have h2' : ¬ (ps.length : Int) ≤ (k : Int) := by omega
      have h2i : (k : Int) < (ps.length : Int) := by omega
      obtain ⟨a, ha⟩ : ∃ a, ps[k]? = some a := ⟨ps[k], List.getElem?_eq_getElem (by omega)⟩
      obtain ⟨gen, there, retired, x⟩ := a
      have e0 := H.out.at_ (j := 0) ha rfl
      have e1 := H.out.at_ (j := 1) ha rfl
      rw [Nat.add_zero] at e0
      have hfin : ∀ e w', (if there && gen == g then e = .returned (.tuple #[.pointer (some ⟨s.a, k * 14, none⟩), vi 0]) else e = .returned (.tuple #[.pointer none, vi 11])) → TblIs w0 p s ps free F w' → FindPost w0 p s ps free F k g e w' := fun e w' he ht => ⟨ht, by
        rw [isAt, if_neg (by omega), Int.toNat_natCast, ha]
        by_cases hc : (there && gen == g) = true
        · simp only [hc, if_true] at he ⊢
          exact he
        · simp only [hc] at he ⊢
          exact he⟩
      have HF := Lib.hid hfin
      clear hfin ha
      cases there with
      | false =>
        go_enter Tryz.func209, Tryz.ntmps209
        go_wp2_with fail
        rw [HW.out, HBX.out]
        refine HN.out.mono ?_
        rintro e w' ⟨rfl, rfl⟩
        go_wp2
        go_quiet (fail)
        go_wp2
        go_quiet (fail)
        go_wp2
        go_quiet (fail)
        go_wp2
        go_ret2
        exact HF.out _ _ rfl (((H.out.drewN _).drewN _).drewN _)
      | true =>
        by_cases hg : gen = g
        · subst hg
          go_enter Tryz.func209, Tryz.ntmps209
          go_wp2_with fail
          rw [HW.out, HBX.out]
          refine HN.out.mono ?_
          rintro e w' ⟨rfl, rfl⟩
          go_wp2
          go_quiet (fail)
          go_wp2
          go_quiet (fail)
          go_wp2
          go_quiet (fail)
          go_wp2
          go_ret2
          exact HF.out _ _ (by simp) (((H.out.drewN _).drewN _).drewN _)
        · have hne : (gen != g) = true := by simpa using hg
          go_enter Tryz.func209, Tryz.ntmps209
          go_wp2_with fail
          rw [HW.out, HBX.out]
          refine HN.out.mono ?_
          rintro e w' ⟨rfl, rfl⟩
          go_wp2
          go_quiet (fail)
          go_wp2
          go_quiet (fail)
          go_wp2
          go_quiet (fail)
          go_wp2
          go_ret2
          exact HF.out _ _ (by simp [hg]) (((H.out.drewN _).drewN _).drewN _)
end
end Go.Proofs.YtdbppfcilaajaaaGreat.Ad

namespace Go.Proofs.YtdbppfcilaajaaaGreat.Ad
open Go.RowKit
set_option linter.unusedVariables false

theorem isAt_some {ps : List Pl} {i g : Int} {k : Nat} {a : Pl} (h : isAt ps i g = some (k, a)) : ps[k]? = some a ∧ i = k ∧ a.there = true ∧ a.gen = g := by
  unfold isAt at h
  split at h
  · cases h
  · split at h
    · cases h
    · rename_i h0 _ b hb
      split at h
      · rename_i hc
        simp only [Option.some.injEq, Prod.mk.injEq] at h
        obtain ⟨rfl, rfl⟩ := h
        simp only [Bool.and_eq_true, beq_iff_eq] at hc
        exact ⟨hb, by omega, hc.1, hc.2⟩
      · cases h

section
variable {ps : List Pl} {free : List Nat} {k : Nat} {a : Pl}
theorem get_set (hk : ps[k]? = some a) (a' : Pl) (j : Nat) (b : Pl) (h : (ps.set k a')[j]? = some b) : (j = k ∧ b = a') ∨ (j ≠ k ∧ ps[j]? = some b) := by
  rw [List.getElem?_set] at h
  by_cases hj : k = j
  · rw [if_pos hj] at h
    split at h
    · exact .inl ⟨hj.symm, by simpa using h.symm⟩
    · cases h
  · rw [if_neg hj] at h
    exact .inr ⟨fun e => hj e.symm, h⟩
theorem get_set_self (hk : ps[k]? = some a) (a' : Pl) : (ps.set k a')[k]? = some a' := by
  simp [(List.getElem?_eq_some_iff.1 hk).1]
theorem cnt_set (q : Pl → Bool) (hk : ps[k]? = some a) (a' : Pl) : (ps.set k a').countP q + (if q a then 1 else 0) = ps.countP q + if q a' then 1 else 0 := by
  obtain ⟨hl, hg⟩ := List.getElem?_eq_some_iff.1 hk
  rw [List.countP_set hl, hg]
  have : q a = true → 0 < ps.countP q := fun h => List.countP_pos_iff.2 ⟨a, hg ▸ List.getElem_mem hl, h⟩
  split
  · have := this (by assumption)
    omega
  · omega
theorem TblOk.setX (h : TblOk ps free) (hk : ps[k]? = some a) (x : El) : TblOk (ps.set k { a with x := x }) free := by
  refine ⟨by simpa using h.pos, by simpa using h.small, ?_, ?_, ?_, h.nodup, ?_⟩
  · intro j b hb
    rcases get_set hk _ j b hb with ⟨rfl, rfl⟩ | ⟨_, hb⟩
    · have h5 := h.gens _ _ hk; exact h5
    · exact h.gens _ _ hb
  · intro j b hb
    rcases get_set hk _ j b hb with ⟨rfl, rfl⟩ | ⟨_, hb⟩
    · have h5 := h.excl _ _ hk; exact h5
    · exact h.excl _ _ hb
  · intro j
    rw [h.mem]
    constructor
    · rintro ⟨b, hb, h1, h2⟩
      by_cases hj : j = k
      · subst hj
        rw [hk] at hb
        cases hb
        exact ⟨_, get_set_self hk _, h1, h2⟩
      · exact ⟨b, by rw [List.getElem?_set, if_neg (fun e => hj e.symm)]; exact hb, h1, h2⟩
    · rintro ⟨b, hb, h1, h2⟩
      rcases get_set hk _ j b hb with ⟨rfl, rfl⟩ | ⟨_, hb⟩
      · exact ⟨_, hk, h1, h2⟩
      · exact ⟨_, hb, h1, h2⟩
  · have := cnt_set Pl.busy hk { a with x := x }
    have hc := h.cnt
    rw [show Pl.busy { a with x := x } = Pl.busy a from rfl] at this
    rw [List.length_set]
    omega
/-- Something comes. -/
theorem TblOk.come (h : TblOk ps (free ++ [k])) (hk : ps[k]? = some a) (x : El) : TblOk (ps.set k { a with there := true, x := x }) free := by
  have hnd := List.nodup_append.1 h.nodup
  obtain ⟨b, hb, hth, hre⟩ := (h.mem k).1 (by simp)
  rw [hk] at hb
  cases hb
  refine ⟨by simpa using h.pos, by simpa using h.small, ?_, ?_, ?_, hnd.1, ?_⟩
  · intro j b hb
    rcases get_set hk _ j b hb with ⟨rfl, rfl⟩ | ⟨_, hb⟩
    · have h5 := h.gens _ _ hk; exact h5
    · exact h.gens _ _ hb
  · intro j b hb
    rcases get_set hk _ j b hb with ⟨rfl, rfl⟩ | ⟨_, hb⟩
    · exact fun _ => hre
    · exact h.excl _ _ hb
  · intro j
    by_cases hj : j = k
    · subst hj
      constructor
      · intro hm
        exact absurd rfl (hnd.2.2 j hm j (by simp))
      · rintro ⟨b, hb, h1, h2⟩
        rw [get_set_self hk] at hb
        cases hb
        cases h1
    · have := h.mem j
      rw [List.getElem?_set, if_neg (fun e => hj e.symm), ← this]
      simp [hj]
  · have := cnt_set Pl.busy hk { a with there := true, x := x }
    have hc := h.cnt
    simp only [Pl.busy, hth, hre, Bool.or_self, List.length_append, List.length_cons, List.length_nil, Bool.false_eq_true, if_false, Bool.true_or, if_true] at this hc ⊢
    rw [List.length_set]
    omega
/-- Something goes, for others to come there. -/
theorem TblOk.go (h : TblOk ps free) (hk : ps[k]? = some a) (ht : a.there = true) (hg : a.gen ≠ 18446744073709551614) : TblOk (ps.set k { a with gen := a.gen + 1, there := false, x := ez }) (free ++ [k]) := by
  have hre := h.excl _ _ hk ht
  refine ⟨by simpa using h.pos, by simpa using h.small, ?_, ?_, ?_, ?_, ?_⟩
  · intro j b hb
    rcases get_set hk _ j b hb with ⟨rfl, rfl⟩ | ⟨_, hb⟩
    · have := h.gens _ _ hk
      exact ⟨by show 1 ≤ a.gen + 1; omega, by show a.gen + 1 ≤ _; omega⟩
    · exact h.gens _ _ hb
  · intro j b hb
    rcases get_set hk _ j b hb with ⟨rfl, rfl⟩ | ⟨_, hb⟩
    · exact fun _ => hre
    · exact h.excl _ _ hb
  · intro j
    by_cases hj : j = k
    · subst hj
      exact ⟨fun _ => ⟨_, get_set_self hk _, rfl, hre⟩, fun _ => by simp⟩
    · have := h.mem j
      rw [List.getElem?_set, if_neg (fun e => hj e.symm), ← this]
      simp [hj]
  · refine List.nodup_append.2 ⟨h.nodup, by simp, ?_⟩
    rintro j hj j' hj' rfl
    simp only [List.mem_singleton] at hj'
    subst hj'
    obtain ⟨b, hb, h1, _⟩ := (h.mem j).1 hj
    rw [hk] at hb
    cases hb
    rw [ht] at h1
    cases h1
  · have := cnt_set Pl.busy hk { a with gen := a.gen + 1, there := false, x := ez }
    have hc := h.cnt
    simp only [Pl.busy, ht, hre, Bool.or_self, List.length_append, List.length_cons, List.length_nil, Bool.false_eq_true, if_false, Bool.true_or, if_true] at this hc ⊢
    rw [List.length_set]
    omega
theorem TblOk.fresh (n : Nat) (h1 : 1 ≤ n) (h2 : n ≤ 4096) (g : Int) (hg : 1 ≤ g) (hg' : g ≤ 18446744073709551614) : TblOk (List.replicate n ⟨g, false, false, ez⟩) ((List.range n).map fun i => n - 1 - i) := by
  refine ⟨by simp; omega, by simpa using h2, ?_, ?_, ?_, ?_, ?_⟩
  · intro k a h
    simp only [List.getElem?_replicate] at h
    split at h
    · cases h; exact ⟨hg, hg'⟩
    · cases h
  · intro k a h
    simp only [List.getElem?_replicate] at h
    split at h
    · cases h; exact fun e => by cases e
    · cases h
  · intro k
    simp only [List.mem_map, List.mem_range, List.getElem?_replicate]
    constructor
    · rintro ⟨i, hi, rfl⟩
      exact ⟨_, by rw [if_pos (by omega)], rfl, rfl⟩
    · rintro ⟨a, ha, _⟩
      split at ha
      · exact ⟨n - 1 - k, by omega, by omega⟩
      · cases ha
  · rw [List.nodup_iff_pairwise_ne, List.pairwise_map]
    refine List.Pairwise.imp_of_mem ?_ List.pairwise_lt_range
    intro i j hi hj hij
    simp only [List.mem_range] at hi hj
    omega
  · simp [List.countP_replicate, Pl.busy]
end

section
variable {w0 w : World} {p : Nat} {s : TblS} {ps : List Pl} {free : List Nat} {F : Hp}
theorem find_no (h : TblIs w0 p s ps free F w) {i g : Int} (hA : isAt ps i g = none) :
    Calls Tryz.prog 209 #[vp p, vr i g] w fun e w' => e = .returned (.tuple #[.pointer none, vi 11]) ∧ TblIs w0 p s ps free F w' :=
  (find_ h i g).mono fun e w' ⟨h1, h2⟩ => by
    rw [hA] at h2
    exact ⟨h2, h1⟩
theorem find_yes (h : TblIs w0 p s ps free F w) {i g : Int} {k : Nat} {a : Pl} (hA : isAt ps i g = some (k, a)) :
    Calls Tryz.prog 209 #[vp p, vr i g] w fun e w' => e = .returned (.tuple #[.pointer (some ⟨s.a, k * 14, none⟩), vi 0]) ∧ TblIs w0 p s ps free F w' :=
  (find_ h i g).mono fun e w' ⟨h1, h2⟩ => by
    rw [hA] at h2
    exact ⟨h2, h1⟩

def getX (ps : List Pl) (i g : Int) : El := match isAt ps i g with | none => ez | some (_, a) => a.x
def getE (ps : List Pl) (i g : Int) : Int := match isAt ps i g with | none => 11 | some _ => 0

theorem TblIs.alloc (h : TblIs w0 p s ps free F w) (o : Obj) : TblIs w0 p s ps free F (w.alloc o) := ⟨h.ok, h.sat.alloc' o⟩

set_option maxRecDepth 100000 in
set_option maxHeartbeats 8000000 in
theorem get_at (h : TblIs w0 p s ps free F w) (i g : Int) :
    Calls Tryz.prog 165 #[vp p, vr i g] w fun e w' => e = .returned (.tuple #[ev (getX ps i g), vi (getE ps i g)]) ∧ TblIs w0 p s ps free F w' := by
  have hI : TblIs w0 p s ps free (elB (w.heap.size + 1) ez * F) ((w.alloc (.cells #[vi i, vu g] 30)).alloc (elO ez)) := ⟨h.ok, by
    have hh := (h.sat.alloc' (.cells #[vi i, vu g] 30)).alloc (elO ez)
    rw [size1] at hh
    exact (show Sat w0 (elB (w.heap.size + 1) ez * (tblB p s ps.length free.length * (tblL s ps * (tblF s free * F)))) _ from hh).cast (by ac_rfl)⟩
  unfold getX getE
  cases hA : isAt ps i g with
  | none =>
    have H := Lib.hid (find_no hI hA)
    have hA' := Lib.hid hA
    clear h hI hA
    go_enter Tryz.func165, Tryz.ntmps165
    go_wp2_with (first
      | (go_at_call 209; refine H.out.mono ?_; rintro e w1 ⟨rfl, hT0⟩; have hT := hT0.alloc (elO ez); have HX := Lib.hid hT.sat.pull4; have HTh := Lib.hid (there_ (n := 11) hT.sat.pull4 rfl); have HOK := Lib.hid hT.ok; have HLd := Lib.hid (range_ (hT0.sat.alloc (elO ez))); clear hT hT0)
      | (refine wpList_load_mid rfl 188 _ rfl w1.heap.size 0 (by rfl) (elC ez) _ HLd.out Tryz.underlying188 rfl einfo ?_)
      | (refine wpList_store_mid rfl 188 _ _ rfl (w.heap.size + 1) 0 (elC ez).toArray (by rfl) (by rfl) HTh.out einfo (all_oneCell_toArray (elOne ez)) ?_; have HS := Lib.hid (HX.out.stores (elC ez) 0); have HR := Lib.hid (World.rangeAt_setCells_same _ (w.heap.size + 1) 0 (elC ez) HTh.out); generalize hw2 : World.setCells _ _ _ _ = w2; have HS : Hid (Sat w0 _ w2) := hw2 ▸ HS; have HR : Hid (World.rangeAt w2 _ _ _) := hw2 ▸ HR; clear hw2))
    (try simp only [Exit.inBlock, Exit.then])
    refine bodyPost_ret (v := .tuple #[ev ez, vi 11]) (results_row rfl _ _ _ rfl rfl HR.out Tryz.underlying188 rfl einfo) rfl ?_
    exact ⟨rfl, HOK.out, HS.out.dropL⟩
  | some ka =>
    obtain ⟨k, a⟩ := ka
    have H := Lib.hid (find_yes hI hA)
    have ha := isAt_some hA
    have hlt : k < ps.length := (List.getElem?_eq_some_iff.1 ha.1).1
    have HA := Lib.hid ha
    have hA' := Lib.hid hA
    clear h hI hA ha
    go_enter Tryz.func165, Tryz.ntmps165
    go_wp2_with (first
      | (go_at_call 209; refine H.out.mono ?_; rintro e w1 ⟨rfl, hT⟩; have HLd := Lib.hid (hT.rng HA.out.1); have HX := Lib.hid hT.sat.pull4; have HTh := Lib.hid (there_ (n := 11) hT.sat.pull4 rfl); have HOK := Lib.hid hT.ok; clear hT)
      | (refine wpList_load_mid rfl 188 _ rfl s.a (k * 14 + 3) (by rfl) (elC a.x) _ HLd.out Tryz.underlying188 rfl einfo ?_)
      | (refine wpList_store_mid rfl 188 _ _ rfl (w.heap.size + 1) 0 (elC a.x).toArray (by rfl) (by rfl) HTh.out einfo (all_oneCell_toArray (elOne a.x)) ?_; have HS := Lib.hid (HX.out.stores (elC a.x) 0); have HR := Lib.hid (World.rangeAt_setCells_same _ (w.heap.size + 1) 0 (elC a.x) HTh.out); generalize hw2 : World.setCells _ _ _ _ = w2; have HS : Hid (Sat w0 _ w2) := hw2 ▸ HS; have HR : Hid (World.rangeAt w2 _ _ _) := hw2 ▸ HR; clear hw2))
    (try simp only [Exit.inBlock, Exit.then])
    refine bodyPost_ret (v := .tuple #[ev a.x, vi 0]) (results_row rfl _ _ _ rfl rfl HR.out Tryz.underlying188 rfl einfo) rfl ?_
    exact ⟨rfl, HOK.out, HS.out.dropL⟩

theorem get_ (h : Sat w0 (tblP p ps free * F) w) (i g : Int) :
    Calls Tryz.prog 165 #[vp p, vr i g] w fun e w' => e = .returned (.tuple #[ev (getX ps i g), vi (getE ps i g)]) ∧ Sat w0 (tblP p ps free * F) w' := by
  obtain ⟨s, hs⟩ := open_ h
  exact (get_at hs i g).mono fun e w' ⟨h1, h2⟩ => ⟨h1, h2.shut⟩

end
end Go.Proofs.YtdbppfcilaajaaaGreat.Ad
