/-
  Contracts of the reference of layer 7: Add, Sum; bits.Add64 and num.Add. No statement is proved here.
-/
import Derived.Test.YtknodagcmachiaaProg
import Derived.Test.YtknodagcmachiaaMg2
import Derived.Test.YtknodagcmachiaaOwn
import Derived.Laws.ResultCell
import Derived.Deep.MidRow
namespace Go.Proofs.Ytknodagcmachiaa.Fi
open Go.RowKit
set_option linter.unusedVariables false

abbrev vi (x : Int) : Value := .int .i64 x
abbrev vu (x : Int) : Value := .int .u64 x
structure Rf where
  amount : Int
  at_ : Int
def Rf.cells (r : Rf) : List Value := [vu r.amount, vu r.at_]
theorem Rf.len (r : Rf) : r.cells.length = 2 := rfl
abbrev rflat (l : List Rf) : List Value := l.flatMap Rf.cells
def U64 (x : Int) : Prop := 0 ≤ x ∧ x ≤ 18446744073709551615
/-- A list that can be read: its numbers are such as may be. -/
structure RdF (w : World) (v : Value) (l : List Rf) : Prop where
  rd : Rd w 2 v l.length (rflat l)
  ok : ∀ r ∈ l, U64 r.amount ∧ U64 r.at_

def addP (a b : Int) : Option Int := if 18446744073709551615 < a + b then none else some (a + b)
def addV (o : Option Int) : Value := match o with | none => .tuple #[vu 0, .bool false] | some s => .tuple #[vu s, .bool true]
def sumP (l : List Rf) : Option Int := l.foldl (fun o r => o.bind fun s => addP s r.amount) (some 0)

theorem radd (a b : Int) (ha : U64 a) (hb : U64 b) (w : World) :
    Calls Try.prog 55 #[vu a, vu b] w fun e w' => e = .returned (addV (addP a b)) ∧ w = w' := by
  obtain ⟨a1, a2⟩ := ha
  obtain ⟨b1, b2⟩ := hb
  have hw1 : IntKind.u64.wrap (18446744073709551615 - b) = 18446744073709551615 - b := IntWalk.u64_in _ (by omega)
  unfold addP
  by_cases h : 18446744073709551615 < a + b
  · rw [if_pos h]
    have h1 : 18446744073709551615 - b < a := by omega
    have H := Lib.hid h
    clear h
    go_enter Try.func55, Try.ntmps55
    go_wp2
    go_ret2
    exact ⟨rfl, rfl⟩
  · rw [if_neg h]
    have h1 : ¬ (18446744073709551615 - b < a) := by omega
    have hw2 : IntKind.u64.wrap (a + b) = a + b := IntWalk.u64_in _ (by omega)
    clear h
    go_enter Try.func55, Try.ntmps55
    go_wp2
    go_ret2
    exact ⟨rfl, rfl⟩

theorem sumP_snoc (l : List Rf) (k : Nat) {r : Rf} (h : l[k]? = some r) : sumP (l.take (k + 1)) = (sumP (l.take k)).bind fun s => addP s r.amount := by
  rw [sumP, List.take_add_one, h, List.foldl_append]
  rfl
theorem sumP_none (l : List Rf) (k : Nat) (h : sumP (l.take k) = none) : sumP l = none := by
  have e : sumP l = (l.drop k).foldl (fun o r => o.bind fun s => addP s r.amount) (sumP (l.take k)) := by
    conv => lhs; rw [← List.take_append_drop k l, sumP, List.foldl_append]
    rfl
  rw [e, h]
  generalize l.drop k = m
  induction m with
  | nil => rfl
  | cons r m ih => simpa using ih
theorem addP_u64 {a b s : Int} (ha : U64 a) (hb : U64 b) (h : addP a b = some s) : U64 s := by
  unfold addP at h
  split at h
  · cases h
  · cases h
    unfold U64 at *
    omega

set_option maxRecDepth 100000 in
theorem rsum (l : List Rf) (v : Value) (w : World) (h : RdF w v l) (hl : l.length ≤ 1000000) :
    Calls Try.prog 20 #[v] w fun e w' => e = .returned (addV (sumP l)) ∧ w = w' := by
  obtain ⟨ao, cap, rfl⟩ := h.rd.len
  go_enter Try.func20, Try.ntmps20
  go_wp2
  go_loop [4, 5, 6] (fun s b i => ∃ (k : Nat) (n : Int), k ≤ l.length ∧ i = vi k ∧ s = vu n ∧ U64 n ∧ Hid (sumP (l.take k) = some n)) (fun _ _ i => l.length - (intOf i).toNat)
  case atStart => exact ⟨0, 0, Nat.zero_le _, rfl, rfl, ⟨by omega, by omega⟩, Lib.hid rfl⟩
  case round =>
    obtain ⟨k, n, hk, rfl, rfl, hn, hs⟩ := hrel
    by_cases hlt : k < l.length
    · obtain ⟨r, hr⟩ : ∃ r, l[k]? = some r := ⟨l[k], List.getElem?_eq_getElem hlt⟩
      obtain ⟨b, off, c, hv, hc⟩ := h.rd.pos (by omega)
      cases hv
      have c0 := hc (k * 2 + 0) _ (flat_get Rf.len hr rfl)
      rw [Nat.add_zero] at c0
      have hkl : (k : Int) < (l.length : Int) := by omega
      have hok := (h.ok r (List.mem_of_getElem? hr)).1
      have hsn := sumP_snoc l k hr
      rw [hs.out] at hsn
      have HS := Lib.hid hsn
      have HA := Lib.hid (radd n r.amount hn hok w)
      have HN := Lib.hid hn
      have HO := Lib.hid hok
      clear hc hr hsn hn hok
      cases hp : addP n r.amount with
      | none =>
        have HP := Lib.hid hp
        rw [hp] at HA
        have HB : Hid (Calls Try.prog 55 #[vu n, vu r.amount] w fun e w' => e = .returned (.tuple #[vu 0, .bool false]) ∧ w = w') := HA
        clear hp
        go_wp2_with (go_at_call 55; refine HB.out.mono ?_; rintro e w' ⟨rfl, rfl⟩)
        go_ret2
        exact ⟨by rw [sumP_none l (k + 1) (by rw [HS.out]; exact HP.out)]; rfl, rfl⟩
      | some m =>
        have HP := Lib.hid hp
        rw [hp] at HA
        have HB : Hid (Calls Try.prog 55 #[vu n, vu r.amount] w fun e w' => e = .returned (.tuple #[vu m, .bool true]) ∧ w = w') := HA
        clear hp
        go_wp2_with (go_at_call 55; refine HB.out.mono ?_; rintro e w' ⟨rfl, rfl⟩)
        go_round
        case rel => exact ⟨k + 1, m, by omega, by go_num, rfl, addP_u64 HN.out HO.out HP.out, Lib.hid (by rw [HS.out]; exact HP.out)⟩
        case measure => (simp [intOf]; try omega)
    · obtain rfl : k = l.length := by omega
      go_wp2
      go_ret2
      exact ⟨by rw [← List.take_length (l := l), hs.out]; rfl, rfl⟩
end Go.Proofs.Ytknodagcmachiaa.Fi

namespace Go.Proofs.Ytknodagcmachiaa.Ac
open Go.RowKit
open Fi (vi vu)
set_option linter.unusedVariables false

abbrev vp (p : Nat) : Value := .pointer (some ⟨p, 0, none⟩)
abbrev vr (i g : Int) : Value := .agg #[vi i, vu g]
structure El where
  v0 : Int
  v1 : Int
  a2 : Option Addr
  n2 : Nat
  c2 : Nat
  v3 : Int
abbrev ev (x : El) : Value := .agg #[(.int .u64 x.v0), (.int .u64 x.v1), (.slice x.a2 x.n2 x.c2), (.int .i64 x.v3)]
abbrev ez : El := ⟨0, 0, none, 0, 0, 0⟩

structure Pl where
  gen : Int
  there : Bool
  retired : Bool
  x : El
def Pl.cells (p : Pl) : List Value := [vu p.gen, .bool p.there, .bool p.retired, (.int .u64 p.x.v0), (.int .u64 p.x.v1), (.slice p.x.a2 p.x.n2 p.x.c2), (.int .i64 p.x.v3)]
theorem Pl.len (p : Pl) : p.cells.length = 7 := rfl
theorem Pl.one (p : Pl) : ∀ u ∈ p.cells, u.oneCell' = true := by
  intro u hu
  simp [Pl.cells] at hu
  rcases hu with rfl | rfl | rfl | rfl | rfl | rfl | rfl <;> rfl
abbrev flat (ps : List Pl) : List Value := ps.flatMap Pl.cells

/-- An element laid into a place. -/
abbrev El.st (w : World) (b o : Nat) (x : El) : World := (((w.setCell ⟨b, o, none⟩ (.int .u64 x.v0)).setCell ⟨b, o + 1, none⟩ (.int .u64 x.v1)).setCell ⟨b, o + 2, none⟩ (.slice x.a2 x.n2 x.c2)).setCell ⟨b, o + 3, none⟩ (.int .i64 x.v3)
theorem storeX {T : TypeId} {g n cap k : Nat} {ps : List Pl} {a : Pl} {F : Hp} {w0 w : World} (h : Sat w0 (sl T 7 (.slice (some ⟨g, 0, none⟩) n cap) n (flat ps) * F) w) (hk : ps[k]? = some a) (hn : ps.length = n) (x : El) :
    Sat w0 (sl T 7 (.slice (some ⟨g, 0, none⟩) n cap) n (flat (ps.set k { a with x := x })) * F) (El.st w g (k * 7 + 3) x) := by
  have hlt : k < n := by rw [← hn]; exact (List.getElem?_eq_some_iff.1 hk).1
  have hself : ∀ a' : Pl, (ps.set k a')[k]? = some a' := fun a' => by simp [(List.getElem?_eq_some_iff.1 hk).1]
  have h0 := h.slStore (k * 7 + 3) (by omega) (.int .u64 x.v0)
  rw [flat_set Pl.len ps k 3 a { a with x := { a.x with v0 := x.v0 } } _ hk (by omega) rfl] at h0
  have h1 := h0.slStore (k * 7 + 4) (by omega) (.int .u64 x.v1)
  rw [flat_set Pl.len _ k 4 ({ a with x := { a.x with v0 := x.v0 } } : Pl) { a with x := { a.x with v0 := x.v0, v1 := x.v1 } } _ (hself _) (by omega) rfl, List.set_set] at h1
  have h2 := h1.slStore (k * 7 + 5) (by omega) (.slice x.a2 x.n2 x.c2)
  rw [flat_set Pl.len _ k 5 ({ a with x := { a.x with v0 := x.v0, v1 := x.v1 } } : Pl) { a with x := { a.x with v0 := x.v0, v1 := x.v1, a2 := x.a2, n2 := x.n2, c2 := x.c2 } } _ (hself _) (by omega) rfl, List.set_set] at h2
  have h3 := h2.slStore (k * 7 + 6) (by omega) (.int .i64 x.v3)
  rw [flat_set Pl.len _ k 6 ({ a with x := { a.x with v0 := x.v0, v1 := x.v1, a2 := x.a2, n2 := x.n2, c2 := x.c2 } } : Pl) { a with x := { a.x with v0 := x.v0, v1 := x.v1, a2 := x.a2, n2 := x.n2, c2 := x.c2, v3 := x.v3 } } _ (hself _) (by omega) rfl, List.set_set] at h3
  exact h3
/-- An element in a block of its own. -/
abbrev elC (x : El) : List Value := [(.int .u64 x.v0), (.int .u64 x.v1), (.slice x.a2 x.n2 x.c2), (.int .i64 x.v3)]
abbrev elB (b : Nat) (x : El) : Hp := pc b 49 (elC x)
abbrev elO (x : El) : Obj := .cells #[(.int .u64 x.v0), (.int .u64 x.v1), (.slice x.a2 x.n2 x.c2), (.int .i64 x.v3)] 49
theorem stDrop {b : Nat} {T : TypeId} {cs : List Value} {F : Hp} {w0 w : World} (h : Sat w0 (pc b T cs * F) w) (x : El) : Sat w0 F (El.st w b 0 x) :=
  (((((h.store 0 _).store 1 _).store 2 _).store 3 _)).dropL
theorem elOne (x : El) : ∀ u ∈ elC x, u.oneCell' = true := by
  intro u hu
  simp [elC] at hu
  rcases hu with rfl | rfl | rfl | rfl <;> rfl
theorem there_ {b : Nat} {T : TypeId} {cs : List Value} {F : Hp} {w0 w : World} (h : Sat w0 (pc b T cs * F) w) {n : Nat} (hn : cs.length = n) : w.there b 0 n := fun j hj => by
  rw [Nat.zero_add, h.cell j (List.getElem?_eq_getElem (by omega))]
  exact ⟨rfl, h.free j⟩
theorem range_ {b : Nat} {T : TypeId} {cs : List Value} {F : Hp} {w0 w : World} (h : Sat w0 (pc b T cs * F) w) : w.rangeAt b 0 cs := fun j v hv => by
  rw [Nat.zero_add]
  exact h.cell j hv
theorem einfo : (Try.prog.info? 49).map (·.size) = some 4 := by kernel_rfl
theorem results_row {fn : Func} {p u : Tmp} {ty : TypeId} (h : fn.results = #[.cell p ty, .tmp u]) (tmps : Array Value) (P : Program) (w : World) {b : Nat} {cs : List Value} {v : Value} {d : TypeDesc}
    (hp : tmps.getD p undef = .pointer (some ⟨b, 0, none⟩)) (hv : tmps.getD u undef = v) (hc : w.rangeAt b 0 cs) (hu : P.underlying ty = some d) (hd : d.isRow = true) (hi : (P.info? ty).map (·.size) = some cs.length) :
    (results fn tmps).run P w = .ok (.tuple #[.agg cs.toArray, v]) w := by
  rw [results_cell_tmp h, hp, hv]
  have e : (asAddr (.pointer (some ⟨b, 0, none⟩))).run P w = .ok ⟨b, 0, none⟩ w := rfl
  rw [e]
  simp only [Result.andThen]
  rw [run_loadVar_mid w b 0 ty cs d hc hu hd hi]
theorem size1 (w : World) (o : Obj) : (w.alloc o).heap.size = w.heap.size + 1 := by simp
theorem slThere {T : TypeId} {g n cap k : Nat} {ps : List Pl} {a : Pl} {F : Hp} {w0 w : World} (h : Sat w0 (sl T 7 (.slice (some ⟨g, 0, none⟩) n cap) n (flat ps) * F) w) (hk : ps[k]? = some a) (hn : ps.length = n) : w.there g (k * 7 + 3) 4 := fun j hj => by
  have hj' : j < (elC a.x).length := hj
  have hc := h.slCell (k * 7 + (3 + j)) (u := (elC a.x)[j]) (flat_get Pl.len hk (by rw [Nat.add_comm]; exact List.getElem?_eq_getElem hj'))
  rw [← Nat.add_assoc] at hc
  rw [hc]
  exact ⟨rfl, h.slFree _⟩
theorem Einti : SlT Try.prog 106 3 1 8 (.int .i64 0) := SlT.mk' Try.underlying106 (by kernel_rfl) rfl (by decide)
theorem Epl : SlT Try.prog 105 110 7 64 (.agg #[vu 0, .bool false, .bool false, .int .u64 0, .int .u64 0, .slice none 0 0, .int .i64 0]) := SlT.mk' Try.underlying105 (by kernel_rfl) rfl (by decide)

structure TblS where
  a : Nat
  cap : Nat
  fo : Option Addr
  fcap : Nat

abbrev TblS.lv (s : TblS) (n : Nat) : Value := .slice (some ⟨s.a, 0, none⟩) n s.cap
abbrev TblS.fv (s : TblS) (m : Nat) : Value := .slice s.fo m s.fcap
def Pl.busy (a : Pl) : Bool := a.there || a.retired
structure TblOk (ps : List Pl) (free : List Nat) : Prop where
  pos : 0 < ps.length
  small : ps.length ≤ 4096
  gens : ∀ (k : Nat) (a : Pl), ps[k]? = some a → 1 ≤ a.gen ∧ a.gen ≤ 18446744073709551614
  excl : ∀ (k : Nat) (a : Pl), ps[k]? = some a → a.there = true → a.retired = false
  mem : ∀ k : Nat, k ∈ free ↔ ∃ a : Pl, ps[k]? = some a ∧ a.there = false ∧ a.retired = false
  nodup : free.Nodup
  cnt : free.length + ps.countP Pl.busy = ps.length
theorem TblOk.fsmall {ps : List Pl} {free : List Nat} (h : TblOk ps free) : free.length ≤ 4096 := by
  have := h.cnt
  have := h.small
  omega
abbrev tblB (p : Nat) (s : TblS) (n m : Nat) : Hp := pc p 108 [s.lv n, s.fv m]
abbrev tblL (s : TblS) (ps : List Pl) : Hp := sl 110 7 (s.lv ps.length) ps.length (flat ps)
abbrev tblF (s : TblS) (free : List Nat) : Hp := sl 3 1 (s.fv free.length) free.length (free.map fun k : Nat => vi k)
def tblP (p : Nat) (ps : List Pl) (free : List Nat) : Hp := ex fun s : TblS => given (TblOk ps free) (tblB p s ps.length free.length * (tblL s ps * tblF s free))

structure TblIs (w0 : World) (p : Nat) (s : TblS) (ps : List Pl) (free : List Nat) (F : Hp) (w : World) : Prop where
  ok : TblOk ps free
  sat : Sat w0 (tblB p s ps.length free.length * (tblL s ps * (tblF s free * F))) w

section
variable {w0 w : World} {p : Nat} {s : TblS} {ps : List Pl} {free : List Nat} {F : Hp}
theorem open_ (h : Sat w0 (tblP p ps free * F) w) : ∃ s, TblIs w0 p s ps free F w := by
  obtain ⟨s, h⟩ := h.exE
  obtain ⟨ok, h⟩ := h.givenE
  exact ⟨s, ok, h.cast (by rw [sep_assoc, sep_assoc])⟩
theorem TblIs.shut (h : TblIs w0 p s ps free F w) : Sat w0 (tblP p ps free * F) w :=
  Sat.exI s (Sat.givenI h.ok (h.sat.cast (by rw [sep_assoc, sep_assoc])))
theorem TblIs.c0 (h : TblIs w0 p s ps free F w) : w.cell? ⟨p, 0, none⟩ = some (.slice (some ⟨s.a, 0, none⟩) ps.length s.cap) := h.sat.cell 0 rfl
theorem TblIs.c1 (h : TblIs w0 p s ps free F w) : w.cell? ⟨p, 1, none⟩ = some (.slice s.fo free.length s.fcap) := h.sat.cell 1 rfl
theorem TblIs.free_ (h : TblIs w0 p s ps free F w) (i : Nat) : w.frozen? ⟨p, i, none⟩ = false := h.sat.free i
theorem TblIs.lfree (h : TblIs w0 p s ps free F w) (i : Nat) : w.frozen? ⟨s.a, i, none⟩ = false := h.sat.pull2.slFree i
theorem TblIs.at_ (h : TblIs w0 p s ps free F w) {i j : Nat} {a : Pl} {v : Value} (hi : ps[i]? = some a) (hv : a.cells[j]? = some v) : w.cell? ⟨s.a, i * 7 + j, none⟩ = some v :=
  h.sat.pull2.slCell _ (flat_get Pl.len hi hv)
theorem TblIs.rng (h : TblIs w0 p s ps free F w) {k : Nat} {a : Pl} (hk : ps[k]? = some a) : w.rangeAt s.a (k * 7 + 3) (elC a.x) := fun j v hv => by
  have := h.at_ (j := 3 + j) hk (v := v) (by rw [Nat.add_comm]; exact hv)
  rw [← Nat.add_assoc] at this
  exact this
theorem TblIs.thr (h : TblIs w0 p s ps free F w) {k : Nat} {a : Pl} (hk : ps[k]? = some a) : w.there s.a (k * 7 + 3) 4 := fun j hj => by
  have hj' : j < (elC a.x).length := hj
  rw [h.rng hk j _ (List.getElem?_eq_getElem hj')]
  exact ⟨rfl, h.lfree _⟩
theorem TblIs.drewN (h : TblIs w0 p s ps free F w) (k : Nat) : TblIs w0 p s ps free F (w.drewN k) := ⟨h.ok, h.sat.drewN k⟩

theorem none_ (h : TblIs w0 p s ps free F w) : Calls Try.prog 73 #[vp p] w fun e w' => e = .returned (.bool false) ∧ w = w' := by
  have hpos := h.ok.pos
  have hsm := h.ok.small
  have h0 : ((ps.length : Int) == 0) = false := beq_eq_false_iff_ne.2 (by omega)
  have c0 := h.c0
  clear h
  go_enter Try.func73, Try.ntmps73
  go_wp2
  go_ret
  exact ⟨rfl, rfl⟩
/-- The place that a ref names. -/
def isAt (ps : List Pl) (i g : Int) : Option (Nat × Pl) :=
  if i < 0 then none else match ps[i.toNat]? with
    | none => none
    | some a => if a.there && a.gen == g then some (i.toNat, a) else none
def FindPost (w0 : World) (p : Nat) (s : TblS) (ps : List Pl) (free : List Nat) (F : Hp) (i g : Int) (e : Ending) (w' : World) : Prop :=
  TblIs w0 p s ps free F w' ∧ match isAt ps i g with
    | none => e = .returned (.tuple #[.pointer none, vi 11])
    | some (k, _) => e = .returned (.tuple #[.pointer (some ⟨s.a, k * 7, none⟩), vi 0])

set_option maxRecDepth 100000 in
set_option maxHeartbeats 1000000 in
theorem find_ (h : TblIs w0 p s ps free F w) (i g : Int) :
    Calls Try.prog 81 #[vp p, vr i g] w (FindPost w0 p s ps free F i g) := by
  have hB : Sat w0 (pc w.heap.size 30 [vi i, vu g] * (tblB p s ps.length free.length * (tblL s ps * (tblF s free * F)))) (w.alloc (.cells #[vi i, vu g] 30)) := h.sat.alloc (.cells #[vi i, vu g] 30)
  have b0 := hB.cell 0 rfl
  have b1 := hB.cell 1 rfl
  have hI : TblIs w0 p s ps free F (w.alloc (.cells #[vi i, vu g] 30)) := ⟨h.ok, hB.dropL⟩
  have c0 := hI.c0
  have H := Lib.hid hI
  have hsm := h.ok.small
  have HN := Lib.hid (none_ hI)
  clear h hB hI
  generalize hwb : w.alloc (.cells #[vi i, vu g] 30) = wb at *
  have HW := Lib.hid hwb
  clear hwb
  generalize hbx : w.heap.size = bx at *
  have HBX := Lib.hid hbx
  clear hbx
  by_cases h1 : i < 0
  · have hfin : ∀ e w', e = .returned (.tuple #[.pointer none, vi 11]) → TblIs w0 p s ps free F w' → FindPost w0 p s ps free F i g e w' := fun e w' he ht => ⟨ht, by rw [isAt, if_pos h1]; exact he⟩
    have HF := Lib.hid hfin
    clear hfin
    go_enter Try.func81, Try.ntmps81
    go_wp2_with fail
    rw [HW.out, HBX.out]
    refine HN.out.mono ?_
    rintro e w' ⟨rfl, rfl⟩
    go_wp2
    go_quiet (fail)
    go_wp2
    go_ret2
    exact HF.out _ _ rfl (H.out.drewN _)
  · obtain ⟨k, rfl⟩ := Int.eq_ofNat_of_zero_le (show 0 ≤ i by omega)
    by_cases h2 : ps.length ≤ k
    · have h2' : (ps.length : Int) ≤ (k : Int) := by omega
      have hfin : ∀ e w', e = .returned (.tuple #[.pointer none, vi 11]) → TblIs w0 p s ps free F w' → FindPost w0 p s ps free F k g e w' := fun e w' he ht => ⟨ht, by rw [isAt, if_neg (by omega), Int.toNat_natCast, List.getElem?_eq_none h2]; exact he⟩
      have HF := Lib.hid hfin
      clear hfin
      go_enter Try.func81, Try.ntmps81
      go_wp2_with fail
      rw [HW.out, HBX.out]
      refine HN.out.mono ?_
      rintro e w' ⟨rfl, rfl⟩
      go_wp2
      go_quiet (fail)
      go_wp2
      go_ret2
      exact HF.out _ _ rfl (H.out.drewN _)
    · have h2' : ¬ (ps.length : Int) ≤ (k : Int) := by omega
      have h2i : (k : Int) < (ps.length : Int) := by omega
      obtain ⟨a, ha⟩ : ∃ a, ps[k]? = some a := ⟨ps[k], List.getElem?_eq_getElem (by omega)⟩
      obtain ⟨gen, there, retired, x⟩ := a
      have e0 := H.out.at_ (j := 0) ha rfl
      have e1 := H.out.at_ (j := 1) ha rfl
      rw [Nat.add_zero] at e0
      have hfin : ∀ e w', (if there && gen == g then e = .returned (.tuple #[.pointer (some ⟨s.a, k * 7, none⟩), vi 0]) else e = .returned (.tuple #[.pointer none, vi 11])) → TblIs w0 p s ps free F w' → FindPost w0 p s ps free F k g e w' := fun e w' he ht => ⟨ht, by
        rw [isAt, if_neg (by omega), Int.toNat_natCast, ha]
        by_cases hc : (there && gen == g) = true
        · simp only [hc, if_true] at he ⊢
          exact he
        · simp only [hc] at he ⊢
          exact he⟩
      have HF := Lib.hid hfin
      clear hfin ha
      cases there with
      | false =>
        go_enter Try.func81, Try.ntmps81
        go_wp2_with fail
        rw [HW.out, HBX.out]
        refine HN.out.mono ?_
        rintro e w' ⟨rfl, rfl⟩
        go_wp2
        go_quiet (fail)
        go_wp2
        go_quiet (fail)
        go_wp2
        go_quiet (fail)
        go_wp2
        go_ret2
        exact HF.out _ _ rfl (((H.out.drewN _).drewN _).drewN _)
      | true =>
        by_cases hg : gen = g
        · subst hg
          go_enter Try.func81, Try.ntmps81
          go_wp2_with fail
          rw [HW.out, HBX.out]
          refine HN.out.mono ?_
          rintro e w' ⟨rfl, rfl⟩
          go_wp2
          go_quiet (fail)
          go_wp2
          go_quiet (fail)
          go_wp2
          go_quiet (fail)
          go_wp2
          go_ret2
          exact HF.out _ _ (by simp) (((H.out.drewN _).drewN _).drewN _)
        · have hne : (gen != g) = true := by simpa using hg
          go_enter Try.func81, Try.ntmps81
          go_wp2_with fail
          rw [HW.out, HBX.out]
          refine HN.out.mono ?_
          rintro e w' ⟨rfl, rfl⟩
          go_wp2
          go_quiet (fail)
          go_wp2
          go_quiet (fail)
          go_wp2
          go_quiet (fail)
          go_wp2
          go_ret2
          exact HF.out _ _ (by simp [hg]) (((H.out.drewN _).drewN _).drewN _)
end
end Go.Proofs.Ytknodagcmachiaa.Ac
