/-
  Contracts of package arena at T = helmsman/api.G: none, find. No statement is proved here.
-/
import Derived.Test.YtdbppfcilaajaaaGreatProg
import Derived.Test.YtdbppfcilaajaaaGreatMg3
import Derived.Laws.ResultCell
import Derived.Deep.MidRow
namespace Go.Proofs.YtdbppfcilaajaaaGreat.Ag
open Go.RowKit
set_option linter.unusedVariables false

abbrev vi (x : Int) : Value := .int .i64 x
abbrev vu (x : Int) : Value := .int .u64 x
abbrev vp (p : Nat) : Value := .pointer (some ⟨p, 0, none⟩)
abbrev vr (i g : Int) : Value := .agg #[vi i, vu g]
structure El where
  v0 : Int
  v1 : Bool
  v2 : Int
  v3 : Int
  v4 : Int
  v5 : Int
  v6 : Int
  v7 : Int
  v8 : Int
  v9 : Int
  v10 : Int
  v11 : Int
  v12 : Int
  v13 : Int
  v14 : Int
  v15 : Int
  v16 : Int
  v17 : Int
  v18 : Int
abbrev ev (x : El) : Value := .agg #[(.int .i64 x.v0), (.bool x.v1), (.int .i64 x.v2), (.int .u64 x.v3), (.int .i64 x.v4), (.int .u64 x.v5), (.int .u8 x.v6), (.int .i64 x.v7), (.int .i64 x.v8), (.int .u64 x.v9), (.int .u64 x.v10), (.int .u64 x.v11), (.int .u64 x.v12), (.int .u64 x.v13), (.int .u64 x.v14), (.int .u64 x.v15), (.int .u64 x.v16), (.int .i64 x.v17), (.int .u64 x.v18)]
abbrev ez : El := ⟨0, false, 0, 0, 0, 0, 0, 0, 0, 0, 0, 0, 0, 0, 0, 0, 0, 0, 0⟩

structure Pl where
  gen : Int
  there : Bool
  retired : Bool
  x : El
def Pl.cells (p : Pl) : List Value := [vu p.gen, .bool p.there, .bool p.retired, (.int .i64 p.x.v0), (.bool p.x.v1), (.int .i64 p.x.v2), (.int .u64 p.x.v3), (.int .i64 p.x.v4), (.int .u64 p.x.v5), (.int .u8 p.x.v6), (.int .i64 p.x.v7), (.int .i64 p.x.v8), (.int .u64 p.x.v9), (.int .u64 p.x.v10), (.int .u64 p.x.v11), (.int .u64 p.x.v12), (.int .u64 p.x.v13), (.int .u64 p.x.v14), (.int .u64 p.x.v15), (.int .u64 p.x.v16), (.int .i64 p.x.v17), (.int .u64 p.x.v18)]
theorem Pl.len (p : Pl) : p.cells.length = 22 := rfl
theorem Pl.one (p : Pl) : ∀ u ∈ p.cells, u.oneCell' = true := by
  intro u hu
  simp [Pl.cells] at hu
  rcases hu with rfl | rfl | rfl | rfl | rfl | rfl | rfl | rfl | rfl | rfl | rfl | rfl | rfl | rfl | rfl | rfl | rfl | rfl | rfl | rfl | rfl | rfl <;> rfl
abbrev flat (ps : List Pl) : List Value := ps.flatMap Pl.cells

/-- An element laid into a place. -/
abbrev El.st (w : World) (b o : Nat) (x : El) : World := ((((((((((((((((((w.setCell ⟨b, o, none⟩ (.int .i64 x.v0)).setCell ⟨b, o + 1, none⟩ (.bool x.v1)).setCell ⟨b, o + 2, none⟩ (.int .i64 x.v2)).setCell ⟨b, o + 3, none⟩ (.int .u64 x.v3)).setCell ⟨b, o + 4, none⟩ (.int .i64 x.v4)).setCell ⟨b, o + 5, none⟩ (.int .u64 x.v5)).setCell ⟨b, o + 6, none⟩ (.int .u8 x.v6)).setCell ⟨b, o + 7, none⟩ (.int .i64 x.v7)).setCell ⟨b, o + 8, none⟩ (.int .i64 x.v8)).setCell ⟨b, o + 9, none⟩ (.int .u64 x.v9)).setCell ⟨b, o + 10, none⟩ (.int .u64 x.v10)).setCell ⟨b, o + 11, none⟩ (.int .u64 x.v11)).setCell ⟨b, o + 12, none⟩ (.int .u64 x.v12)).setCell ⟨b, o + 13, none⟩ (.int .u64 x.v13)).setCell ⟨b, o + 14, none⟩ (.int .u64 x.v14)).setCell ⟨b, o + 15, none⟩ (.int .u64 x.v15)).setCell ⟨b, o + 16, none⟩ (.int .u64 x.v16)).setCell ⟨b, o + 17, none⟩ (.int .i64 x.v17)).setCell ⟨b, o + 18, none⟩ (.int .u64 x.v18)
theorem storeX {T : TypeId} {g n cap k : Nat} {ps : List Pl} {a : Pl} {F : Hp} {w0 w : World} (h : Sat w0 (sl T 22 (.slice (some ⟨g, 0, none⟩) n cap) n (flat ps) * F) w) (hk : ps[k]? = some a) (hn : ps.length = n) (x : El) :
    Sat w0 (sl T 22 (.slice (some ⟨g, 0, none⟩) n cap) n (flat (ps.set k { a with x := x })) * F) (El.st w g (k * 22 + 3) x) := by
  have hlt : k < n := by rw [← hn]; exact (List.getElem?_eq_some_iff.1 hk).1
  have hself : ∀ a' : Pl, (ps.set k a')[k]? = some a' := fun a' => by simp [(List.getElem?_eq_some_iff.1 hk).1]
  have h0 := h.slStore (k * 22 + 3) (by omega) (.int .i64 x.v0)
  rw [flat_set Pl.len ps k 3 a { a with x := { a.x with v0 := x.v0 } } _ hk (by omega) rfl] at h0
  have h1 := h0.slStore (k * 22 + 4) (by omega) (.bool x.v1)
  rw [flat_set Pl.len _ k 4 ({ a with x := { a.x with v0 := x.v0 } } : Pl) { a with x := { a.x with v0 := x.v0, v1 := x.v1 } } _ (hself _) (by omega) rfl, List.set_set] at h1
  have h2 := h1.slStore (k * 22 + 5) (by omega) (.int .i64 x.v2)
  rw [flat_set Pl.len _ k 5 ({ a with x := { a.x with v0 := x.v0, v1 := x.v1 } } : Pl) { a with x := { a.x with v0 := x.v0, v1 := x.v1, v2 := x.v2 } } _ (hself _) (by omega) rfl, List.set_set] at h2
  have h3 := h2.slStore (k * 22 + 6) (by omega) (.int .u64 x.v3)
  rw [flat_set Pl.len _ k 6 ({ a with x := { a.x with v0 := x.v0, v1 := x.v1, v2 := x.v2 } } : Pl) { a with x := { a.x with v0 := x.v0, v1 := x.v1, v2 := x.v2, v3 := x.v3 } } _ (hself _) (by omega) rfl, List.set_set] at h3
  have h4 := h3.slStore (k * 22 + 7) (by omega) (.int .i64 x.v4)
  rw [flat_set Pl.len _ k 7 ({ a with x := { a.x with v0 := x.v0, v1 := x.v1, v2 := x.v2, v3 := x.v3 } } : Pl) { a with x := { a.x with v0 := x.v0, v1 := x.v1, v2 := x.v2, v3 := x.v3, v4 := x.v4 } } _ (hself _) (by omega) rfl, List.set_set] at h4
  have h5 := h4.slStore (k * 22 + 8) (by omega) (.int .u64 x.v5)
  rw [flat_set Pl.len _ k 8 ({ a with x := { a.x with v0 := x.v0, v1 := x.v1, v2 := x.v2, v3 := x.v3, v4 := x.v4 } } : Pl) { a with x := { a.x with v0 := x.v0, v1 := x.v1, v2 := x.v2, v3 := x.v3, v4 := x.v4, v5 := x.v5 } } _ (hself _) (by omega) rfl, List.set_set] at h5
  have h6 := h5.slStore (k * 22 + 9) (by omega) (.int .u8 x.v6)
  rw [flat_set Pl.len _ k 9 ({ a with x := { a.x with v0 := x.v0, v1 := x.v1, v2 := x.v2, v3 := x.v3, v4 := x.v4, v5 := x.v5 } } : Pl) { a with x := { a.x with v0 := x.v0, v1 := x.v1, v2 := x.v2, v3 := x.v3, v4 := x.v4, v5 := x.v5, v6 := x.v6 } } _ (hself _) (by omega) rfl, List.set_set] at h6
  have h7 := h6.slStore (k * 22 + 10) (by omega) (.int .i64 x.v7)
  rw [flat_set Pl.len _ k 10 ({ a with x := { a.x with v0 := x.v0, v1 := x.v1, v2 := x.v2, v3 := x.v3, v4 := x.v4, v5 := x.v5, v6 := x.v6 } } : Pl) { a with x := { a.x with v0 := x.v0, v1 := x.v1, v2 := x.v2, v3 := x.v3, v4 := x.v4, v5 := x.v5, v6 := x.v6, v7 := x.v7 } } _ (hself _) (by omega) rfl, List.set_set] at h7
  have h8 := h7.slStore (k * 22 + 11) (by omega) (.int .i64 x.v8)
  rw [flat_set Pl.len _ k 11 ({ a with x := { a.x with v0 := x.v0, v1 := x.v1, v2 := x.v2, v3 := x.v3, v4 := x.v4, v5 := x.v5, v6 := x.v6, v7 := x.v7 } } : Pl) { a with x := { a.x with v0 := x.v0, v1 := x.v1, v2 := x.v2, v3 := x.v3, v4 := x.v4, v5 := x.v5, v6 := x.v6, v7 := x.v7, v8 := x.v8 } } _ (hself _) (by omega) rfl, List.set_set] at h8
  have h9 := h8.slStore (k * 22 + 12) (by omega) (.int .u64 x.v9)
  rw [flat_set Pl.len _ k 12 ({ a with x := { a.x with v0 := x.v0, v1 := x.v1, v2 := x.v2, v3 := x.v3, v4 := x.v4, v5 := x.v5, v6 := x.v6, v7 := x.v7, v8 := x.v8 } } : Pl) { a with x := { a.x with v0 := x.v0, v1 := x.v1, v2 := x.v2, v3 := x.v3, v4 := x.v4, v5 := x.v5, v6 := x.v6, v7 := x.v7, v8 := x.v8, v9 := x.v9 } } _ (hself _) (by omega) rfl, List.set_set] at h9
  have h10 := h9.slStore (k * 22 + 13) (by omega) (.int .u64 x.v10)
  rw [flat_set Pl.len _ k 13 ({ a with x := { a.x with v0 := x.v0, v1 := x.v1, v2 := x.v2, v3 := x.v3, v4 := x.v4, v5 := x.v5, v6 := x.v6, v7 := x.v7, v8 := x.v8, v9 := x.v9 } } : Pl) { a with x := { a.x with v0 := x.v0, v1 := x.v1, v2 := x.v2, v3 := x.v3, v4 := x.v4, v5 := x.v5, v6 := x.v6, v7 := x.v7, v8 := x.v8, v9 := x.v9, v10 := x.v10 } } _ (hself _) (by omega) rfl, List.set_set] at h10
  have h11 := h10.slStore (k * 22 + 14) (by omega) (.int .u64 x.v11)
  rw [flat_set Pl.len _ k 14 ({ a with x := { a.x with v0 := x.v0, v1 := x.v1, v2 := x.v2, v3 := x.v3, v4 := x.v4, v5 := x.v5, v6 := x.v6, v7 := x.v7, v8 := x.v8, v9 := x.v9, v10 := x.v10 } } : Pl) { a with x := { a.x with v0 := x.v0, v1 := x.v1, v2 := x.v2, v3 := x.v3, v4 := x.v4, v5 := x.v5, v6 := x.v6, v7 := x.v7, v8 := x.v8, v9 := x.v9, v10 := x.v10, v11 := x.v11 } } _ (hself _) (by omega) rfl, List.set_set] at h11
  have h12 := h11.slStore (k * 22 + 15) (by omega) (.int .u64 x.v12)
  rw [flat_set Pl.len _ k 15 ({ a with x := { a.x with v0 := x.v0, v1 := x.v1, v2 := x.v2, v3 := x.v3, v4 := x.v4, v5 := x.v5, v6 := x.v6, v7 := x.v7, v8 := x.v8, v9 := x.v9, v10 := x.v10, v11 := x.v11 } } : Pl) { a with x := { a.x with v0 := x.v0, v1 := x.v1, v2 := x.v2, v3 := x.v3, v4 := x.v4, v5 := x.v5, v6 := x.v6, v7 := x.v7, v8 := x.v8, v9 := x.v9, v10 := x.v10, v11 := x.v11, v12 := x.v12 } } _ (hself _) (by omega) rfl, List.set_set] at h12
  have h13 := h12.slStore (k * 22 + 16) (by omega) (.int .u64 x.v13)
  rw [flat_set Pl.len _ k 16 ({ a with x := { a.x with v0 := x.v0, v1 := x.v1, v2 := x.v2, v3 := x.v3, v4 := x.v4, v5 := x.v5, v6 := x.v6, v7 := x.v7, v8 := x.v8, v9 := x.v9, v10 := x.v10, v11 := x.v11, v12 := x.v12 } } : Pl) { a with x := { a.x with v0 := x.v0, v1 := x.v1, v2 := x.v2, v3 := x.v3, v4 := x.v4, v5 := x.v5, v6 := x.v6, v7 := x.v7, v8 := x.v8, v9 := x.v9, v10 := x.v10, v11 := x.v11, v12 := x.v12, v13 := x.v13 } } _ (hself _) (by omega) rfl, List.set_set] at h13
  have h14 := h13.slStore (k * 22 + 17) (by omega) (.int .u64 x.v14)
  rw [flat_set Pl.len _ k 17 ({ a with x := { a.x with v0 := x.v0, v1 := x.v1, v2 := x.v2, v3 := x.v3, v4 := x.v4, v5 := x.v5, v6 := x.v6, v7 := x.v7, v8 := x.v8, v9 := x.v9, v10 := x.v10, v11 := x.v11, v12 := x.v12, v13 := x.v13 } } : Pl) { a with x := { a.x with v0 := x.v0, v1 := x.v1, v2 := x.v2, v3 := x.v3, v4 := x.v4, v5 := x.v5, v6 := x.v6, v7 := x.v7, v8 := x.v8, v9 := x.v9, v10 := x.v10, v11 := x.v11, v12 := x.v12, v13 := x.v13, v14 := x.v14 } } _ (hself _) (by omega) rfl, List.set_set] at h14
  have h15 := h14.slStore (k * 22 + 18) (by omega) (.int .u64 x.v15)
  rw [flat_set Pl.len _ k 18 ({ a with x := { a.x with v0 := x.v0, v1 := x.v1, v2 := x.v2, v3 := x.v3, v4 := x.v4, v5 := x.v5, v6 := x.v6, v7 := x.v7, v8 := x.v8, v9 := x.v9, v10 := x.v10, v11 := x.v11, v12 := x.v12, v13 := x.v13, v14 := x.v14 } } : Pl) { a with x := { a.x with v0 := x.v0, v1 := x.v1, v2 := x.v2, v3 := x.v3, v4 := x.v4, v5 := x.v5, v6 := x.v6, v7 := x.v7, v8 := x.v8, v9 := x.v9, v10 := x.v10, v11 := x.v11, v12 := x.v12, v13 := x.v13, v14 := x.v14, v15 := x.v15 } } _ (hself _) (by omega) rfl, List.set_set] at h15
  have h16 := h15.slStore (k * 22 + 19) (by omega) (.int .u64 x.v16)
  rw [flat_set Pl.len _ k 19 ({ a with x := { a.x with v0 := x.v0, v1 := x.v1, v2 := x.v2, v3 := x.v3, v4 := x.v4, v5 := x.v5, v6 := x.v6, v7 := x.v7, v8 := x.v8, v9 := x.v9, v10 := x.v10, v11 := x.v11, v12 := x.v12, v13 := x.v13, v14 := x.v14, v15 := x.v15 } } : Pl) { a with x := { a.x with v0 := x.v0, v1 := x.v1, v2 := x.v2, v3 := x.v3, v4 := x.v4, v5 := x.v5, v6 := x.v6, v7 := x.v7, v8 := x.v8, v9 := x.v9, v10 := x.v10, v11 := x.v11, v12 := x.v12, v13 := x.v13, v14 := x.v14, v15 := x.v15, v16 := x.v16 } } _ (hself _) (by omega) rfl, List.set_set] at h16
  have h17 := h16.slStore (k * 22 + 20) (by omega) (.int .i64 x.v17)
  rw [flat_set Pl.len _ k 20 ({ a with x := { a.x with v0 := x.v0, v1 := x.v1, v2 := x.v2, v3 := x.v3, v4 := x.v4, v5 := x.v5, v6 := x.v6, v7 := x.v7, v8 := x.v8, v9 := x.v9, v10 := x.v10, v11 := x.v11, v12 := x.v12, v13 := x.v13, v14 := x.v14, v15 := x.v15, v16 := x.v16 } } : Pl) { a with x := { a.x with v0 := x.v0, v1 := x.v1, v2 := x.v2, v3 := x.v3, v4 := x.v4, v5 := x.v5, v6 := x.v6, v7 := x.v7, v8 := x.v8, v9 := x.v9, v10 := x.v10, v11 := x.v11, v12 := x.v12, v13 := x.v13, v14 := x.v14, v15 := x.v15, v16 := x.v16, v17 := x.v17 } } _ (hself _) (by omega) rfl, List.set_set] at h17
  have h18 := h17.slStore (k * 22 + 21) (by omega) (.int .u64 x.v18)
  rw [flat_set Pl.len _ k 21 ({ a with x := { a.x with v0 := x.v0, v1 := x.v1, v2 := x.v2, v3 := x.v3, v4 := x.v4, v5 := x.v5, v6 := x.v6, v7 := x.v7, v8 := x.v8, v9 := x.v9, v10 := x.v10, v11 := x.v11, v12 := x.v12, v13 := x.v13, v14 := x.v14, v15 := x.v15, v16 := x.v16, v17 := x.v17 } } : Pl) { a with x := { a.x with v0 := x.v0, v1 := x.v1, v2 := x.v2, v3 := x.v3, v4 := x.v4, v5 := x.v5, v6 := x.v6, v7 := x.v7, v8 := x.v8, v9 := x.v9, v10 := x.v10, v11 := x.v11, v12 := x.v12, v13 := x.v13, v14 := x.v14, v15 := x.v15, v16 := x.v16, v17 := x.v17, v18 := x.v18 } } _ (hself _) (by omega) rfl, List.set_set] at h18
  exact h18
/-- An element in a block of its own. -/
abbrev elC (x : El) : List Value := [(.int .i64 x.v0), (.bool x.v1), (.int .i64 x.v2), (.int .u64 x.v3), (.int .i64 x.v4), (.int .u64 x.v5), (.int .u8 x.v6), (.int .i64 x.v7), (.int .i64 x.v8), (.int .u64 x.v9), (.int .u64 x.v10), (.int .u64 x.v11), (.int .u64 x.v12), (.int .u64 x.v13), (.int .u64 x.v14), (.int .u64 x.v15), (.int .u64 x.v16), (.int .i64 x.v17), (.int .u64 x.v18)]
abbrev elB (b : Nat) (x : El) : Hp := pc b 134 (elC x)
abbrev elO (x : El) : Obj := .cells #[(.int .i64 x.v0), (.bool x.v1), (.int .i64 x.v2), (.int .u64 x.v3), (.int .i64 x.v4), (.int .u64 x.v5), (.int .u8 x.v6), (.int .i64 x.v7), (.int .i64 x.v8), (.int .u64 x.v9), (.int .u64 x.v10), (.int .u64 x.v11), (.int .u64 x.v12), (.int .u64 x.v13), (.int .u64 x.v14), (.int .u64 x.v15), (.int .u64 x.v16), (.int .i64 x.v17), (.int .u64 x.v18)] 134
theorem elOne (x : El) : ∀ u ∈ elC x, u.oneCell' = true := by
  intro u hu
  simp [elC] at hu
  rcases hu with rfl | rfl | rfl | rfl | rfl | rfl | rfl | rfl | rfl | rfl | rfl | rfl | rfl | rfl | rfl | rfl | rfl | rfl | rfl <;> rfl
theorem there_ {b : Nat} {T : TypeId} {cs : List Value} {F : Hp} {w0 w : World} (h : Sat w0 (pc b T cs * F) w) {n : Nat} (hn : cs.length = n) : w.there b 0 n := fun j hj => by
  rw [Nat.zero_add, h.cell j (List.getElem?_eq_getElem (by omega))]
  exact ⟨rfl, h.free j⟩
theorem range_ {b : Nat} {T : TypeId} {cs : List Value} {F : Hp} {w0 w : World} (h : Sat w0 (pc b T cs * F) w) : w.rangeAt b 0 cs := fun j v hv => by
  rw [Nat.zero_add]
  exact h.cell j hv
theorem einfo : (Tryz.prog.info? 134).map (·.size) = some 19 := by kernel_rfl
theorem results_row {fn : Func} {p u : Tmp} {ty : TypeId} (h : fn.results = #[.cell p ty, .tmp u]) (tmps : Array Value) (P : Program) (w : World) {b : Nat} {cs : List Value} {v : Value} {d : TypeDesc}
    (hp : tmps.getD p undef = .pointer (some ⟨b, 0, none⟩)) (hv : tmps.getD u undef = v) (hc : w.rangeAt b 0 cs) (hu : P.underlying ty = some d) (hd : d.isRow = true) (hi : (P.info? ty).map (·.size) = some cs.length) :
    (results fn tmps).run P w = .ok (.tuple #[.agg cs.toArray, v]) w := by
  rw [results_cell_tmp h, hp, hv]
  have e : (asAddr (.pointer (some ⟨b, 0, none⟩))).run P w = .ok ⟨b, 0, none⟩ w := rfl
  rw [e]
  simp only [Result.andThen]
  rw [run_loadVar_mid w b 0 ty cs d hc hu hd hi]
theorem size1 (w : World) (o : Obj) : (w.alloc o).heap.size = w.heap.size + 1 := by simp
theorem slThere {T : TypeId} {g n cap k : Nat} {ps : List Pl} {a : Pl} {F : Hp} {w0 w : World} (h : Sat w0 (sl T 22 (.slice (some ⟨g, 0, none⟩) n cap) n (flat ps) * F) w) (hk : ps[k]? = some a) (hn : ps.length = n) : w.there g (k * 22 + 3) 19 := fun j hj => by
  have hj' : j < (elC a.x).length := hj
  have hc := h.slCell (k * 22 + (3 + j)) (u := (elC a.x)[j]) (flat_get Pl.len hk (by rw [Nat.add_comm]; exact List.getElem?_eq_getElem hj'))
  rw [← Nat.add_assoc] at hc
  rw [hc]
  exact ⟨rfl, h.slFree _⟩
theorem Einti : SlT Tryz.prog 140 3 1 8 (.int .i64 0) := SlT.mk' Tryz.underlying140 (by kernel_rfl) rfl (by decide)
theorem Epl : SlT Tryz.prog 261 265 22 168 (.agg #[vu 0, .bool false, .bool false, .int .i64 0, .bool false, .int .i64 0, .int .u64 0, .int .i64 0, .int .u64 0, .int .u8 0, .int .i64 0, .int .i64 0, .int .u64 0, .int .u64 0, .int .u64 0, .int .u64 0, .int .u64 0, .int .u64 0, .int .u64 0, .int .u64 0, .int .i64 0, .int .u64 0]) := SlT.mk' Tryz.underlying261 (by kernel_rfl) rfl (by decide)

structure TblS where
  a : Nat
  cap : Nat
  fo : Option Addr
  fcap : Nat

abbrev TblS.lv (s : TblS) (n : Nat) : Value := .slice (some ⟨s.a, 0, none⟩) n s.cap
abbrev TblS.fv (s : TblS) (m : Nat) : Value := .slice s.fo m s.fcap
def Pl.busy (a : Pl) : Bool := a.there || a.retired
structure TblOk (ps : List Pl) (free : List Nat) : Prop where
  pos : 0 < ps.length
  small : ps.length ≤ 4096
  gens : ∀ (k : Nat) (a : Pl), ps[k]? = some a → 1 ≤ a.gen ∧ a.gen ≤ 18446744073709551614
  excl : ∀ (k : Nat) (a : Pl), ps[k]? = some a → a.there = true → a.retired = false
  mem : ∀ k : Nat, k ∈ free ↔ ∃ a : Pl, ps[k]? = some a ∧ a.there = false ∧ a.retired = false
  nodup : free.Nodup
  cnt : free.length + ps.countP Pl.busy = ps.length
theorem TblOk.fsmall {ps : List Pl} {free : List Nat} (h : TblOk ps free) : free.length ≤ 4096 := by
  have := h.cnt
  have := h.small
  omega
abbrev tblB (p : Nat) (s : TblS) (n m : Nat) : Hp := pc p 263 [s.lv n, s.fv m]
abbrev tblL (s : TblS) (ps : List Pl) : Hp := sl 265 22 (s.lv ps.length) ps.length (flat ps)
abbrev tblF (s : TblS) (free : List Nat) : Hp := sl 3 1 (s.fv free.length) free.length (free.map fun k : Nat => vi k)
def tblP (p : Nat) (ps : List Pl) (free : List Nat) : Hp := ex fun s : TblS => given (TblOk ps free) (tblB p s ps.length free.length * (tblL s ps * tblF s free))

structure TblIs (w0 : World) (p : Nat) (s : TblS) (ps : List Pl) (free : List Nat) (F : Hp) (w : World) : Prop where
  ok : TblOk ps free
  sat : Sat w0 (tblB p s ps.length free.length * (tblL s ps * (tblF s free * F))) w

section
variable {w0 w : World} {p : Nat} {s : TblS} {ps : List Pl} {free : List Nat} {F : Hp}
theorem open_ (h : Sat w0 (tblP p ps free * F) w) : ∃ s, TblIs w0 p s ps free F w := by
  obtain ⟨s, h⟩ := h.exE
  obtain ⟨ok, h⟩ := h.givenE
  exact ⟨s, ok, h.cast (by rw [sep_assoc, sep_assoc])⟩
theorem TblIs.shut (h : TblIs w0 p s ps free F w) : Sat w0 (tblP p ps free * F) w :=
  Sat.exI s (Sat.givenI h.ok (h.sat.cast (by rw [sep_assoc, sep_assoc])))
theorem TblIs.c0 (h : TblIs w0 p s ps free F w) : w.cell? ⟨p, 0, none⟩ = some (.slice (some ⟨s.a, 0, none⟩) ps.length s.cap) := h.sat.cell 0 rfl
theorem TblIs.c1 (h : TblIs w0 p s ps free F w) : w.cell? ⟨p, 1, none⟩ = some (.slice s.fo free.length s.fcap) := h.sat.cell 1 rfl
theorem TblIs.free_ (h : TblIs w0 p s ps free F w) (i : Nat) : w.frozen? ⟨p, i, none⟩ = false := h.sat.free i
theorem TblIs.lfree (h : TblIs w0 p s ps free F w) (i : Nat) : w.frozen? ⟨s.a, i, none⟩ = false := h.sat.pull2.slFree i
theorem TblIs.at_ (h : TblIs w0 p s ps free F w) {i j : Nat} {a : Pl} {v : Value} (hi : ps[i]? = some a) (hv : a.cells[j]? = some v) : w.cell? ⟨s.a, i * 22 + j, none⟩ = some v :=
  h.sat.pull2.slCell _ (flat_get Pl.len hi hv)
theorem TblIs.rng (h : TblIs w0 p s ps free F w) {k : Nat} {a : Pl} (hk : ps[k]? = some a) : w.rangeAt s.a (k * 22 + 3) (elC a.x) := fun j v hv => by
  have := h.at_ (j := 3 + j) hk (v := v) (by rw [Nat.add_comm]; exact hv)
  rw [← Nat.add_assoc] at this
  exact this
theorem TblIs.thr (h : TblIs w0 p s ps free F w) {k : Nat} {a : Pl} (hk : ps[k]? = some a) : w.there s.a (k * 22 + 3) 19 := fun j hj => by
  have hj' : j < (elC a.x).length := hj
  rw [h.rng hk j _ (List.getElem?_eq_getElem hj')]
  exact ⟨rfl, h.lfree _⟩
theorem TblIs.drewN (h : TblIs w0 p s ps free F w) (k : Nat) : TblIs w0 p s ps free F (w.drewN k) := ⟨h.ok, h.sat.drewN k⟩

theorem none_ (h : TblIs w0 p s ps free F w) : Calls Tryz.prog 139 #[vp p] w fun e w' => e = .returned (.bool false) ∧ w = w' := by
  have hpos := h.ok.pos
  have hsm := h.ok.small
  have h0 : ((ps.length : Int) == 0) = false := beq_eq_false_iff_ne.2 (by omega)
  have c0 := h.c0
  clear h
  go_enter Tryz.func139, Tryz.ntmps139
  go_wp2
  go_ret
  exact ⟨rfl, rfl⟩
/-- The place that a ref names. -/
def isAt (ps : List Pl) (i g : Int) : Option (Nat × Pl) :=
  if i < 0 then none else match ps[i.toNat]? with
    | none => none
    | some a => if a.there && a.gen == g then some (i.toNat, a) else none
def FindPost (w0 : World) (p : Nat) (s : TblS) (ps : List Pl) (free : List Nat) (F : Hp) (i g : Int) (e : Ending) (w' : World) : Prop :=
  TblIs w0 p s ps free F w' ∧ match isAt ps i g with
    | none => e = .returned (.tuple #[.pointer none, vi 11])
    | some (k, _) => e = .returned (.tuple #[.pointer (some ⟨s.a, k * 22, none⟩), vi 0])

set_option maxRecDepth 100000 in
set_option maxHeartbeats 1000000 in
theorem find_ (h : TblIs w0 p s ps free F w) (i g : Int) :
    Calls Tryz.prog 150 #[vp p, vr i g] w (FindPost w0 p s ps free F i g) := by
  have hB : Sat w0 (pc w.heap.size 30 [vi i, vu g] * (tblB p s ps.length free.length * (tblL s ps * (tblF s free * F)))) (w.alloc (.cells #[vi i, vu g] 30)) := h.sat.alloc (.cells #[vi i, vu g] 30)
  have b0 := hB.cell 0 rfl
  have b1 := hB.cell 1 rfl
  have hI : TblIs w0 p s ps free F (w.alloc (.cells #[vi i, vu g] 30)) := ⟨h.ok, hB.dropL⟩
  have c0 := hI.c0
  have H := Lib.hid hI
  have hsm := h.ok.small
  have HN := Lib.hid (none_ hI)
  clear h hB hI
  generalize hwb : w.alloc (.cells #[vi i, vu g] 30) = wb at *
  have HW := Lib.hid hwb
  clear hwb
  generalize hbx : w.heap.size = bx at *
  have HBX := Lib.hid hbx
  clear hbx
  by_cases h1 : i < 0
  · have hfin : ∀ e w', e = .returned (.tuple #[.pointer none, vi 11]) → TblIs w0 p s ps free F w' → FindPost w0 p s ps free F i g e w' := fun e w' he ht => ⟨ht, by rw [isAt, if_pos h1]; exact he⟩
    have HF := Lib.hid hfin
    clear hfin
    go_enter Tryz.func150, Tryz.ntmps150
    go_wp2_with fail
    rw [HW.out, HBX.out]
    refine HN.out.mono ?_
    rintro e w' ⟨rfl, rfl⟩
    go_wp2
    go_quiet (fail)
    go_wp2
    go_ret2
    exact HF.out _ _ rfl (H.out.drewN _)
  · obtain ⟨k, rfl⟩ := Int.eq_ofNat_of_zero_le (show 0 ≤ i by omega)
    by_cases h2 : ps.length ≤ k
    · have h2' : (ps.length : Int) ≤ (k : Int) := by omega
      have hfin : ∀ e w', e = .returned (.tuple #[.pointer none, vi 11]) → TblIs w0 p s ps free F w' → FindPost w0 p s ps free F k g e w' := fun e w' he ht => ⟨ht, by rw [isAt, if_neg (by omega), Int.toNat_natCast, List.getElem?_eq_none h2]; exact he⟩
      have HF := Lib.hid hfin
      clear hfin
      go_enter Tryz.func150, Tryz.ntmps150
      go_wp2_with fail
      rw [HW.out, HBX.out]
      refine HN.out.mono ?_
      rintro e w' ⟨rfl, rfl⟩
      go_wp2
      go_quiet (fail)
      go_wp2
      go_ret2
      exact HF.out _ _ rfl (H.out.drewN _)
    · have h2' : ¬ (ps.length : Int) ≤ (k : Int) := by omega
      have h2i : (k : Int) < (ps.length : Int) := by omega
      obtain ⟨a, ha⟩ : ∃ a, ps[k]? = some a := ⟨ps[k], List.getElem?_eq_getElem (by omega)⟩
      obtain ⟨gen, there, retired, x⟩ := a
      have e0 := H.out.at_ (j := 0) ha rfl
      have e1 := H.out.at_ (j := 1) ha rfl
      rw [Nat.add_zero] at e0
      have hfin : ∀ e w', (if there && gen == g then e = .returned (.tuple #[.pointer (some ⟨s.a, k * 22, none⟩), vi 0]) else e = .returned (.tuple #[.pointer none, vi 11])) → TblIs w0 p s ps free F w' → FindPost w0 p s ps free F k g e w' := fun e w' he ht => ⟨ht, by
        rw [isAt, if_neg (by omega), Int.toNat_natCast, ha]
        by_cases hc : (there && gen == g) = true
        · simp only [hc, if_true] at he ⊢
          exact he
        · simp only [hc] at he ⊢
          exact he⟩
      have HF := Lib.hid hfin
      clear hfin ha
      cases there with
      | false =>
        go_enter Tryz.func150, Tryz.ntmps150
        go_wp2_with fail
        rw [HW.out, HBX.out]
        refine HN.out.mono ?_
        rintro e w' ⟨rfl, rfl⟩
        go_wp2
        go_quiet (fail)
        go_wp2
        go_quiet (fail)
        go_wp2
        go_quiet (fail)
        go_wp2
        go_ret2
        exact HF.out _ _ rfl (((H.out.drewN _).drewN _).drewN _)
      | true =>
        by_cases hg : gen = g
        · subst hg
          go_enter Tryz.func150, Tryz.ntmps150
          go_wp2_with fail
          rw [HW.out, HBX.out]
          refine HN.out.mono ?_
          rintro e w' ⟨rfl, rfl⟩
          go_wp2
          go_quiet (fail)
          go_wp2
          go_quiet (fail)
          go_wp2
          go_quiet (fail)
          go_wp2
          go_ret2
          exact HF.out _ _ (by simp) (((H.out.drewN _).drewN _).drewN _)
        · have hne : (gen != g) = true := by simpa using hg
          go_enter Tryz.func150, Tryz.ntmps150
          go_wp2_with fail
          rw [HW.out, HBX.out]
          refine HN.out.mono ?_
          rintro e w' ⟨rfl, rfl⟩
          go_wp2
          go_quiet (fail)
          go_wp2
          go_quiet (fail)
          go_wp2
          go_quiet (fail)
          go_wp2
          go_ret2
          exact HF.out _ _ (by simp [hg]) (((H.out.drewN _).drewN _).drewN _)
end
end Go.Proofs.YtdbppfcilaajaaaGreat.Ag
