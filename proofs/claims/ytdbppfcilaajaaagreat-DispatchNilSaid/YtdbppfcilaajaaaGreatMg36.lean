/-
  Chapter 16: states' names; known. No statement is proved here.
-/
import Derived.Test.YtdbppfcilaajaaaGreatMg35
import Derived.Test.YtdbppfcilaajaaaGreatMg28
import Derived.Test.YtdbppfcilaajaaaGreatGt4
import Derived.Test.YtdbppfcilaajaaaGreatMg17
import Derived.Test.YtdbppfcilaajaaaGreatMg18
namespace Go.Proofs.YtdbppfcilaajaaaGreat.Gt
open Go.RowKit Ag
set_option linter.unusedVariables false

section
variable {w0 w : World} {F : Hp} {h p : Nat}
abbrev x1 : El := { ez with v0 := 1 }
abbrev x2 : El := { ez with v0 := 2 }
abbrev x4 : El := { ez with v0 := 4 }
end
end Go.Proofs.YtdbppfcilaajaaaGreat.Gt

namespace Go.Proofs.YtdbppfcilaajaaaGreat.Gt
open Go.RowKit Ag
set_option linter.unusedVariables false
set_option linter.unusedSimpArgs false

/-- A place, as the reference has it. -/
def pcl (a : Pl) : List Value := [vu a.gen, .bool a.there, .int .i64 a.x.v0, .bool a.x.v1, .int .i64 a.x.v2, .int .u64 a.x.v3, .int .i64 a.x.v4, .int .u64 a.x.v5, .int .u8 a.x.v6, .int .i64 a.x.v7, .int .i64 a.x.v8, .int .u64 a.x.v9, .int .u64 a.x.v10, .int .u64 a.x.v11, .int .u64 a.x.v12, .int .u64 a.x.v13, .int .u64 a.x.v14, .int .u64 a.x.v15, .int .u64 a.x.v16, .int .i64 a.x.v17, .int .u64 a.x.v18]
theorem pcl_len (a : Pl) : (pcl a).length = 21 := rfl
theorem pcl_one (a : Pl) : ∀ u ∈ pcl a, u.oneCell' = true := by
  intro u hu
  simp [pcl] at hu
  rcases hu with rfl | rfl | rfl | rfl | rfl | rfl | rfl | rfl | rfl | rfl | rfl | rfl | rfl | rfl | rfl | rfl | rfl | rfl | rfl | rfl | rfl <;> rfl
abbrev pfl (ps : List Pl) : List Value := ps.flatMap pcl
theorem Epc : SlT Tryz.prog 217 221 21 168 (.agg #[vu 0, .bool false, .int .i64 0, .bool false, .int .i64 0, .int .u64 0, .int .i64 0, .int .u64 0, .int .u8 0, .int .i64 0, .int .i64 0, .int .u64 0, .int .u64 0, .int .u64 0, .int .u64 0, .int .u64 0, .int .u64 0, .int .u64 0, .int .u64 0, .int .i64 0, .int .u64 0]) := SlT.mk' Tryz.underlying217 (by kernel_rfl) rfl (by decide)
theorem Eint : SlT Tryz.prog 140 3 1 8 (vi 0) := SlT.mk' Tryz.underlying140 (by kernel_rfl) rfl (by decide)
abbrev nats (l : List Nat) : List Value := l.map fun k : Nat => vi k
abbrev rtB (q b n cap : Nat) (vF : Value) : Hp := pc q 219 [.slice (some ⟨b, 0, none⟩) n cap, vF]
abbrev rtL (b cap : Nat) (ps : List Pl) : Hp := sl 221 21 (.slice (some ⟨b, 0, none⟩) ps.length cap) ps.length (pfl ps)
theorem slTherePl {T : TypeId} {g n cap k : Nat} {ps : List Pl} {a : Pl} {F : Hp} {w0 w : World} (h : Sat w0 (sl T 21 (.slice (some ⟨g, 0, none⟩) n cap) n (pfl ps) * F) w) (hk : ps[k]? = some a) (o m : Nat) (ho : o + m ≤ 21) : w.there g (k * 21 + o) m := fun j hj => by
  have e := h.slCell (k * 21 + (o + j)) (flat_get (j := o + j) pcl_len hk (List.getElem?_eq_getElem (by rw [pcl_len]; omega)))
  rw [← Nat.add_assoc] at e
  rw [e]
  exact ⟨rfl, h.slFree _⟩
theorem storeG {T : TypeId} {g n cap k : Nat} {ps : List Pl} {a : Pl} {F : Hp} {w0 w : World} (h : Sat w0 (sl T 21 (.slice (some ⟨g, 0, none⟩) n cap) n (pfl ps) * F) w) (hk : ps[k]? = some a) (hn : ps.length = n) (x : El) :
    Sat w0 (sl T 21 (.slice (some ⟨g, 0, none⟩) n cap) n (pfl (ps.set k { a with x := x })) * F) (w.setCells g (k * 21 + 2) (elC x)) := by
  have hlt : k < n := by rw [← hn]; exact (List.getElem?_eq_some_iff.1 hk).1
  have hself : ∀ a' : Pl, (ps.set k a')[k]? = some a' := fun a' => by simp [(List.getElem?_eq_some_iff.1 hk).1]
  have h0 := h.slStore (k * 21 + 2) (by omega) (.int .i64 x.v0)
  rw [flat_set pcl_len ps k 2 a ({ a with x := { a.x with v0 := x.v0 } } : Pl) _ hk (by omega) rfl] at h0
  have h1 := h0.slStore (k * 21 + 3) (by omega) (.bool x.v1)
  rw [flat_set pcl_len _ k 3 ({ a with x := { a.x with v0 := x.v0 } } : Pl) ({ a with x := { a.x with v0 := x.v0, v1 := x.v1 } } : Pl) _ (hself _) (by omega) rfl, List.set_set] at h1
  have h2 := h1.slStore (k * 21 + 4) (by omega) (.int .i64 x.v2)
  rw [flat_set pcl_len _ k 4 ({ a with x := { a.x with v0 := x.v0, v1 := x.v1 } } : Pl) ({ a with x := { a.x with v0 := x.v0, v1 := x.v1, v2 := x.v2 } } : Pl) _ (hself _) (by omega) rfl, List.set_set] at h2
  have h3 := h2.slStore (k * 21 + 5) (by omega) (.int .u64 x.v3)
  rw [flat_set pcl_len _ k 5 ({ a with x := { a.x with v0 := x.v0, v1 := x.v1, v2 := x.v2 } } : Pl) ({ a with x := { a.x with v0 := x.v0, v1 := x.v1, v2 := x.v2, v3 := x.v3 } } : Pl) _ (hself _) (by omega) rfl, List.set_set] at h3
  have h4 := h3.slStore (k * 21 + 6) (by omega) (.int .i64 x.v4)
  rw [flat_set pcl_len _ k 6 ({ a with x := { a.x with v0 := x.v0, v1 := x.v1, v2 := x.v2, v3 := x.v3 } } : Pl) ({ a with x := { a.x with v0 := x.v0, v1 := x.v1, v2 := x.v2, v3 := x.v3, v4 := x.v4 } } : Pl) _ (hself _) (by omega) rfl, List.set_set] at h4
  have h5 := h4.slStore (k * 21 + 7) (by omega) (.int .u64 x.v5)
  rw [flat_set pcl_len _ k 7 ({ a with x := { a.x with v0 := x.v0, v1 := x.v1, v2 := x.v2, v3 := x.v3, v4 := x.v4 } } : Pl) ({ a with x := { a.x with v0 := x.v0, v1 := x.v1, v2 := x.v2, v3 := x.v3, v4 := x.v4, v5 := x.v5 } } : Pl) _ (hself _) (by omega) rfl, List.set_set] at h5
  have h6 := h5.slStore (k * 21 + 8) (by omega) (.int .u8 x.v6)
  rw [flat_set pcl_len _ k 8 ({ a with x := { a.x with v0 := x.v0, v1 := x.v1, v2 := x.v2, v3 := x.v3, v4 := x.v4, v5 := x.v5 } } : Pl) ({ a with x := { a.x with v0 := x.v0, v1 := x.v1, v2 := x.v2, v3 := x.v3, v4 := x.v4, v5 := x.v5, v6 := x.v6 } } : Pl) _ (hself _) (by omega) rfl, List.set_set] at h6
  have h7 := h6.slStore (k * 21 + 9) (by omega) (.int .i64 x.v7)
  rw [flat_set pcl_len _ k 9 ({ a with x := { a.x with v0 := x.v0, v1 := x.v1, v2 := x.v2, v3 := x.v3, v4 := x.v4, v5 := x.v5, v6 := x.v6 } } : Pl) ({ a with x := { a.x with v0 := x.v0, v1 := x.v1, v2 := x.v2, v3 := x.v3, v4 := x.v4, v5 := x.v5, v6 := x.v6, v7 := x.v7 } } : Pl) _ (hself _) (by omega) rfl, List.set_set] at h7
  have h8 := h7.slStore (k * 21 + 10) (by omega) (.int .i64 x.v8)
  rw [flat_set pcl_len _ k 10 ({ a with x := { a.x with v0 := x.v0, v1 := x.v1, v2 := x.v2, v3 := x.v3, v4 := x.v4, v5 := x.v5, v6 := x.v6, v7 := x.v7 } } : Pl) ({ a with x := { a.x with v0 := x.v0, v1 := x.v1, v2 := x.v2, v3 := x.v3, v4 := x.v4, v5 := x.v5, v6 := x.v6, v7 := x.v7, v8 := x.v8 } } : Pl) _ (hself _) (by omega) rfl, List.set_set] at h8
  have h9 := h8.slStore (k * 21 + 11) (by omega) (.int .u64 x.v9)
  rw [flat_set pcl_len _ k 11 ({ a with x := { a.x with v0 := x.v0, v1 := x.v1, v2 := x.v2, v3 := x.v3, v4 := x.v4, v5 := x.v5, v6 := x.v6, v7 := x.v7, v8 := x.v8 } } : Pl) ({ a with x := { a.x with v0 := x.v0, v1 := x.v1, v2 := x.v2, v3 := x.v3, v4 := x.v4, v5 := x.v5, v6 := x.v6, v7 := x.v7, v8 := x.v8, v9 := x.v9 } } : Pl) _ (hself _) (by omega) rfl, List.set_set] at h9
  have h10 := h9.slStore (k * 21 + 12) (by omega) (.int .u64 x.v10)
  rw [flat_set pcl_len _ k 12 ({ a with x := { a.x with v0 := x.v0, v1 := x.v1, v2 := x.v2, v3 := x.v3, v4 := x.v4, v5 := x.v5, v6 := x.v6, v7 := x.v7, v8 := x.v8, v9 := x.v9 } } : Pl) ({ a with x := { a.x with v0 := x.v0, v1 := x.v1, v2 := x.v2, v3 := x.v3, v4 := x.v4, v5 := x.v5, v6 := x.v6, v7 := x.v7, v8 := x.v8, v9 := x.v9, v10 := x.v10 } } : Pl) _ (hself _) (by omega) rfl, List.set_set] at h10
  have h11 := h10.slStore (k * 21 + 13) (by omega) (.int .u64 x.v11)
  rw [flat_set pcl_len _ k 13 ({ a with x := { a.x with v0 := x.v0, v1 := x.v1, v2 := x.v2, v3 := x.v3, v4 := x.v4, v5 := x.v5, v6 := x.v6, v7 := x.v7, v8 := x.v8, v9 := x.v9, v10 := x.v10 } } : Pl) ({ a with x := { a.x with v0 := x.v0, v1 := x.v1, v2 := x.v2, v3 := x.v3, v4 := x.v4, v5 := x.v5, v6 := x.v6, v7 := x.v7, v8 := x.v8, v9 := x.v9, v10 := x.v10, v11 := x.v11 } } : Pl) _ (hself _) (by omega) rfl, List.set_set] at h11
  have h12 := h11.slStore (k * 21 + 14) (by omega) (.int .u64 x.v12)
  rw [flat_set pcl_len _ k 14 ({ a with x := { a.x with v0 := x.v0, v1 := x.v1, v2 := x.v2, v3 := x.v3, v4 := x.v4, v5 := x.v5, v6 := x.v6, v7 := x.v7, v8 := x.v8, v9 := x.v9, v10 := x.v10, v11 := x.v11 } } : Pl) ({ a with x := { a.x with v0 := x.v0, v1 := x.v1, v2 := x.v2, v3 := x.v3, v4 := x.v4, v5 := x.v5, v6 := x.v6, v7 := x.v7, v8 := x.v8, v9 := x.v9, v10 := x.v10, v11 := x.v11, v12 := x.v12 } } : Pl) _ (hself _) (by omega) rfl, List.set_set] at h12
  have h13 := h12.slStore (k * 21 + 15) (by omega) (.int .u64 x.v13)
  rw [flat_set pcl_len _ k 15 ({ a with x := { a.x with v0 := x.v0, v1 := x.v1, v2 := x.v2, v3 := x.v3, v4 := x.v4, v5 := x.v5, v6 := x.v6, v7 := x.v7, v8 := x.v8, v9 := x.v9, v10 := x.v10, v11 := x.v11, v12 := x.v12 } } : Pl) ({ a with x := { a.x with v0 := x.v0, v1 := x.v1, v2 := x.v2, v3 := x.v3, v4 := x.v4, v5 := x.v5, v6 := x.v6, v7 := x.v7, v8 := x.v8, v9 := x.v9, v10 := x.v10, v11 := x.v11, v12 := x.v12, v13 := x.v13 } } : Pl) _ (hself _) (by omega) rfl, List.set_set] at h13
  have h14 := h13.slStore (k * 21 + 16) (by omega) (.int .u64 x.v14)
  rw [flat_set pcl_len _ k 16 ({ a with x := { a.x with v0 := x.v0, v1 := x.v1, v2 := x.v2, v3 := x.v3, v4 := x.v4, v5 := x.v5, v6 := x.v6, v7 := x.v7, v8 := x.v8, v9 := x.v9, v10 := x.v10, v11 := x.v11, v12 := x.v12, v13 := x.v13 } } : Pl) ({ a with x := { a.x with v0 := x.v0, v1 := x.v1, v2 := x.v2, v3 := x.v3, v4 := x.v4, v5 := x.v5, v6 := x.v6, v7 := x.v7, v8 := x.v8, v9 := x.v9, v10 := x.v10, v11 := x.v11, v12 := x.v12, v13 := x.v13, v14 := x.v14 } } : Pl) _ (hself _) (by omega) rfl, List.set_set] at h14
  have h15 := h14.slStore (k * 21 + 17) (by omega) (.int .u64 x.v15)
  rw [flat_set pcl_len _ k 17 ({ a with x := { a.x with v0 := x.v0, v1 := x.v1, v2 := x.v2, v3 := x.v3, v4 := x.v4, v5 := x.v5, v6 := x.v6, v7 := x.v7, v8 := x.v8, v9 := x.v9, v10 := x.v10, v11 := x.v11, v12 := x.v12, v13 := x.v13, v14 := x.v14 } } : Pl) ({ a with x := { a.x with v0 := x.v0, v1 := x.v1, v2 := x.v2, v3 := x.v3, v4 := x.v4, v5 := x.v5, v6 := x.v6, v7 := x.v7, v8 := x.v8, v9 := x.v9, v10 := x.v10, v11 := x.v11, v12 := x.v12, v13 := x.v13, v14 := x.v14, v15 := x.v15 } } : Pl) _ (hself _) (by omega) rfl, List.set_set] at h15
  have h16 := h15.slStore (k * 21 + 18) (by omega) (.int .u64 x.v16)
  rw [flat_set pcl_len _ k 18 ({ a with x := { a.x with v0 := x.v0, v1 := x.v1, v2 := x.v2, v3 := x.v3, v4 := x.v4, v5 := x.v5, v6 := x.v6, v7 := x.v7, v8 := x.v8, v9 := x.v9, v10 := x.v10, v11 := x.v11, v12 := x.v12, v13 := x.v13, v14 := x.v14, v15 := x.v15 } } : Pl) ({ a with x := { a.x with v0 := x.v0, v1 := x.v1, v2 := x.v2, v3 := x.v3, v4 := x.v4, v5 := x.v5, v6 := x.v6, v7 := x.v7, v8 := x.v8, v9 := x.v9, v10 := x.v10, v11 := x.v11, v12 := x.v12, v13 := x.v13, v14 := x.v14, v15 := x.v15, v16 := x.v16 } } : Pl) _ (hself _) (by omega) rfl, List.set_set] at h16
  have h17 := h16.slStore (k * 21 + 19) (by omega) (.int .i64 x.v17)
  rw [flat_set pcl_len _ k 19 ({ a with x := { a.x with v0 := x.v0, v1 := x.v1, v2 := x.v2, v3 := x.v3, v4 := x.v4, v5 := x.v5, v6 := x.v6, v7 := x.v7, v8 := x.v8, v9 := x.v9, v10 := x.v10, v11 := x.v11, v12 := x.v12, v13 := x.v13, v14 := x.v14, v15 := x.v15, v16 := x.v16 } } : Pl) ({ a with x := { a.x with v0 := x.v0, v1 := x.v1, v2 := x.v2, v3 := x.v3, v4 := x.v4, v5 := x.v5, v6 := x.v6, v7 := x.v7, v8 := x.v8, v9 := x.v9, v10 := x.v10, v11 := x.v11, v12 := x.v12, v13 := x.v13, v14 := x.v14, v15 := x.v15, v16 := x.v16, v17 := x.v17 } } : Pl) _ (hself _) (by omega) rfl, List.set_set] at h17
  have h18 := h17.slStore (k * 21 + 20) (by omega) (.int .u64 x.v18)
  rw [flat_set pcl_len _ k 20 ({ a with x := { a.x with v0 := x.v0, v1 := x.v1, v2 := x.v2, v3 := x.v3, v4 := x.v4, v5 := x.v5, v6 := x.v6, v7 := x.v7, v8 := x.v8, v9 := x.v9, v10 := x.v10, v11 := x.v11, v12 := x.v12, v13 := x.v13, v14 := x.v14, v15 := x.v15, v16 := x.v16, v17 := x.v17 } } : Pl) ({ a with x := { a.x with v0 := x.v0, v1 := x.v1, v2 := x.v2, v3 := x.v3, v4 := x.v4, v5 := x.v5, v6 := x.v6, v7 := x.v7, v8 := x.v8, v9 := x.v9, v10 := x.v10, v11 := x.v11, v12 := x.v12, v13 := x.v13, v14 := x.v14, v15 := x.v15, v16 := x.v16, v17 := x.v17, v18 := x.v18 } } : Pl) _ (hself _) (by omega) rfl, List.set_set] at h18
  exact h18
section
variable {w0 w : World} {F : Hp} {q b cap : Nat} {ps : List Pl} {vF : Value} {fr : List Nat}
end
end Go.Proofs.YtdbppfcilaajaaaGreat.Gt

namespace Go.Proofs.YtdbppfcilaajaaaGreat.Gt
open Go.RowKit Ag
set_option linter.unusedVariables false
set_option linter.unusedSimpArgs false

abbrev p1 : Pl := ⟨1, false, false, ez⟩
def ntAt (q : Nat) (n k : Nat) (F : Hp) : Hp := ex fun v : Value × Value => pc q 219 [v.1, v.2] * (sl 221 21 v.1 k (pfl (List.replicate k p1)) * (sl 3 1 v.2 k (nats (newF n k)) * F))
theorem rdPl (a : Pl) (w : World) (T : TypeId) {b : Nat} (hb : b = w.heap.size) : Rd (w.alloc (.cells (pcl a).toArray T)) 21 (.slice (some ⟨b, 0, none⟩) 1 1) 1 (pcl a) := by
  subst hb
  have h : Sat w (pc w.heap.size T (pcl a) * emp) (w.alloc (.cells (pcl a).toArray T)) := (Sat.start w).alloc _
  exact (h.slI (n := 1) (cap := 1) (size := 21) (xs := pcl a) (Nat.le_refl _) (by unfold maxLen; omega) (by simp [pcl_len]) rfl).rd
theorem rdI1 (x : Value) (w : World) (T : TypeId) {b : Nat} (hb : b = w.heap.size) : Rd (w.alloc (.cells #[x] T)) 1 (.slice (some ⟨b, 0, none⟩) 1 1) 1 [x] := by
  subst hb
  have h : Sat w (pc w.heap.size T [x] * emp) (w.alloc (.cells #[x] T)) := (Sat.start w).alloc _
  exact (h.slI (n := 1) (cap := 1) (size := 1) (xs := [x]) (Nat.le_refl _) (by unfold maxLen; omega) (by simp) rfl).rd
section
variable {w0 w : World} {F : Hp} {q b cap : Nat} {ps : List Pl} {vF : Value} {fr : List Nat}
set_option maxRecDepth 100000 in
set_option maxHeartbeats 4000000 in
theorem rt_new (n : Nat) (hn : 1 ≤ n) (hn' : n ≤ 64) (hS : Sat w0 F w) :
    Calls Tryz.prog 53 #[vi n] w fun e w' => ∃ q b cap vF, e = .returned (vp q) ∧ Sat w0 (rtB q b n cap vF * (sl 221 21 (.slice (some ⟨b, 0, none⟩) n cap) n (pfl (List.replicate n p1)) * (sl 3 1 vF n (nats (newF n n)) * F))) w' := by
  have hB0 : Sat w0 (pc w.heap.size 219 [.slice none 0 0, .slice none 0 0] * F) (w.alloc (.cells #[.slice none 0 0, .slice none 0 0] 219)) := hS.alloc _
  have hB : Sat w0 (ntAt w.heap.size n 0 F * emp) (w.alloc (.cells #[.slice none 0 0, .slice none 0 0] 219)) := by
    have h7 := (hB0.addNil 3 1).addNil 221 21
    exact (Sat.exI (f := fun v : Value × Value => pc w.heap.size 219 [v.1, v.2] * (sl 221 21 v.1 0 (pfl (List.replicate 0 p1)) * (sl 3 1 v.2 0 (nats (newF n 0)) * F))) (F := emp) (.slice none 0 0, .slice none 0 0) (h7.cast (by rw [sep_emp]; simp only [newF, List.range_zero, List.map_nil, List.replicate_zero, nats, pfl, List.flatMap_nil]; ac_rfl)))
  have HB := Lib.hid hB
  have hw1 : IntKind.i64.wrap ((n : Int) - 1) = (n : Int) - 1 := IntWalk.i64_in _ (by omega)
  clear hB hB0 hS
  go_enter Tryz.func53, Tryz.ntmps53
  go_wp2
  generalize w.alloc (.cells #[.slice none 0 0, .slice none 0 0] 219) = w2 at *
  generalize w.heap.size = q at *
  go_loopw [4] (fun i wr => ∃ k : Nat, k ≤ n ∧ i = vi k ∧ Sat w0 (ntAt q n k F * emp) wr) (fun i _ => n - (intOf i).toNat)
  case atStart => exact ⟨0, Nat.zero_le _, rfl, HB.out⟩
  case round =>
    obtain ⟨k, hk, rfl, hS⟩ := hrel
    obtain ⟨⟨v1, v2⟩, hS⟩ := hS.exE
    have hS := hS.cast (sep_emp _)
    dsimp only at hS
    by_cases hlt : k < n
    · obtain ⟨lo, lcap, rfl⟩ := hS.pull2.rd.len
      obtain ⟨fo, fcap, rfl⟩ := hS.pull3.rd.len
      have c0 := hS.cell 0 rfl
      have c1 := hS.cell 1 rfl
      have f0 := hS.free 0
      have f1 := hS.free 1
      have H := Lib.hid hS
      obtain ⟨j, hj⟩ : ∃ j, j = n - 1 - k := ⟨_, rfl⟩
      have hw2 : IntKind.i64.wrap ((n : Int) - 1 - (k : Int)) = (n : Int) - 1 - (k : Int) := IntWalk.i64_in _ (by omega)
      have Hj : Hid ((n : Int) - 1 - (k : Int) = (j : Int)) := Lib.hid (by omega)
      have HJ := Lib.hid hj
      have hone : Hid (∀ u ∈ pcl p1, u.oneCell' = true) := Lib.hid (pcl_one p1)
      have hkn : (k : Int) < (n : Int) := by omega
      clear hS hj
      go_wp2_with (first
        | (at_builtin; refine wpList_append_sl Epc rfl (.tmp 16) (.tmp 18) rfl rfl (H.out.pull2.alloc' _) (by rfl) (rdPl p1 _ _ rfl) hone.out (by unfold maxLen; omega) (by omega) ?_; intro ao1 cap1 w3 hS1; have hP := hS1.pull2; have z0 := hP.cell 0 rfl; have z1 := hP.cell 1 rfl; have g0 := hP.free 0; have hP2 := hP.store 0 (.slice ao1 (k + 1) cap1); have y0 := hP2.cell 0 rfl; have y1 := hP2.cell 1 rfl; have u1 := hP2.free 1; have H1 := Lib.hid hP2; clear hS1 hP hP2)
        | (at_builtin; refine wpList_append_sl Eint rfl (.tmp 26) (.tmp 31) rfl rfl (H1.out.pull3.alloc' _) (by rfl) (rdI1 (.int .i64 ((n : Int) - 1 - (k : Int))) _ _ (b := w3.heap.size) (by simp)) (by simp [Value.oneCell']) (by unfold maxLen; omega) (by omega) ?_; intro ao2 cap2 w4 hS2; rw [Hj.out] at hS2; have hP := hS2.pull2; have z0 := hP.cell 0 rfl; have z1 := hP.cell 1 rfl; have g1 := hP.free 1; have H2 := Lib.hid (hP.store 1 (.slice ao2 (k + 1) cap2)); clear hS2 hP))
      go_roundw
      case rel =>
        refine ⟨k + 1, by omega, by go_num, Sat.exI (.slice ao1 (k + 1) cap1, .slice ao2 (k + 1) cap2) ((H2.out.cast ?_))⟩
        rw [sep_emp, newF_succ, ← HJ.out, List.replicate_succ']
        simp only [nats, List.map_append, List.map_cons, List.map_nil, List.set_cons_zero, List.set_cons_succ, pfl, List.flatMap_append, List.flatMap_cons, List.flatMap_nil, List.append_nil]
        ac_rfl
      case measure => (simp [intOf]; try omega)
    · obtain rfl : k = n := by omega
      have H := Lib.hid hS
      clear hS
      go_wp2
      go_ret
      rcases H.out.pull2.slE.2 with ⟨_, h0, _⟩ | ⟨g, c, cur, hv, _⟩
      · omega
      · subst hv
        first | exact ⟨q, g, c, v2, rfl, H.out⟩ | exact ⟨q, rfl, g, c, v2, H.out⟩ | exact ⟨q, by simp, g, c, v2, H.out⟩
end
end Go.Proofs.YtdbppfcilaajaaaGreat.Gt

namespace Go.Proofs.YtdbppfcilaajaaaGreat.Gt
open Go.RowKit Ag
set_option linter.unusedVariables false
set_option linter.unusedSimpArgs false

theorem rdCut {w0 w : World} {F : Hp} {T : TypeId} {g m c n : Nat} {xs ys : List Value} (h : Sat w0 (sl T 1 (.slice (some ⟨g, 0, none⟩) m c) m xs * F) w) (hn : n ≤ m) (he : xs.take n = ys) (hl : ys.length = n) : Rd w 1 (.slice (some ⟨g, 0, none⟩) n c) n ys := by
  refine ⟨by omega, .inr ⟨g, 0, c, rfl, fun j u hj => ?_⟩⟩
  rw [Nat.zero_add]
  refine h.slCell j ?_
  rw [← he, List.getElem?_take] at hj
  split at hj
  · exact hj
  · cases hj
theorem nats_one (l : List Nat) : ∀ u ∈ nats l, u.oneCell' = true := by
  intro u hu
  obtain ⟨x, _, rfl⟩ := List.mem_map.1 hu
  rfl
section
variable {w0 w : World} {F : Hp} {q b cap : Nat} {ps : List Pl} {vF : Value} {fr : List Nat} {vo : Option Addr} {vc : Nat}
set_option maxRecDepth 100000 in
set_option maxHeartbeats 4000000 in
theorem rt_make {k : Nat} {a : Pl} {fa : Nat} {m : Nat} (hmm : m = fr.length + 1) (hS : Sat w0 (rtB q b ps.length cap (.slice (some ⟨fa, 0, none⟩) m vc) * (rtL b cap ps * (sl 3 1 (.slice (some ⟨fa, 0, none⟩) m vc) m (nats (fr ++ [k])) * F))) w) (hk : ps[k]? = some a) (hfl : fr.length ≤ 1000) (x : El) (hx : 0 ≤ x.v18) (hm : mayB x = true) :
    Calls Tryz.prog 61 #[vp q, ev x] w fun e w' => ∃ vG, e = .returned (.tuple #[vr k a.gen, vi 0]) ∧ Sat w0 (rtB q b (ps.set k { a with there := true, x := x }).length cap vG * (rtL b cap (ps.set k { a with there := true, x := x }) * (sl 3 1 vG fr.length (nats fr) * F))) w' := by
  have hk2 : k < ps.length := (List.getElem?_eq_some_iff.1 hk).1
  have hki : (k : Int) < (ps.length : Int) := by omega
  have HK := Lib.hid hk
  obtain ⟨n, hn⟩ : ∃ n, n = fr.length := ⟨_, rfl⟩
  have hmn : m = n + 1 := by omega
  have Hn := Lib.hid hn
  have hw : IntKind.i64.wrap ((m : Int) - 1) = (n : Int) := by rw [IntWalk.i64_in _ (by omega)]; omega
  have hnm : (n : Int) < (m : Int) := by omega
  have hn0 : ¬ (n : Int) < 0 := by omega
  have hcap := hS.pull3.slCap
  have hnc : (n : Int) ≤ (vc : Int) := by omega
  have hnl : n ≤ 1000 := by omega
  have hone := Lib.hid (nats_one fr)
  clear hk hn hmm hfl
  have hB0 := (hS.alloc (elO x)).alloc (.cells #[vi 0, vu 0] 30)
  rw [size1] at hB0
  have hB : Sat w0 (pc (w.heap.size + 1) 30 [vi 0, vu 0] * (elB w.heap.size x * (rtB q b ps.length cap (.slice (some ⟨fa, 0, none⟩) m vc) * (rtL b cap ps * (sl 3 1 (.slice (some ⟨fa, 0, none⟩) m vc) m (nats (fr ++ [k])) * F))))) ((w.alloc (elO x)).alloc (.cells #[vi 0, vu 0] 30)) := hB0
  have HM := r_may hB x hx
  rw [hm] at HM
  have HM := Lib.hid HM
  have HLd := Lib.hid (range_ hB.pull2)
  clear hB hB0 hS hm hx
  go_enter Tryz.func61, Tryz.ntmps61
  go_wp2_with (refine wpList_load_mid rfl 134 _ rfl w.heap.size 0 (by rfl) (elC x) _ HLd.out Tryz.underlying134 rfl einfo ?_)
  generalize hb1 : w.heap.size + 1 = bx at *
  generalize hb2 : w.heap.size = b2 at *
  have HB1 := Lib.hid hb1
  have HB2 := Lib.hid hb2
  clear hb1 hb2 HLd
  refine HM.out.mono ?_
  rintro e w1 ⟨rfl, hS1⟩
  have q1 := hS1.pull3.cell 1 rfl
  have q0 := hS1.pull3.cell 0 rfl
  have hF := hS1.dropL.dropL.dropL.dropL
  have fk := hF.slCell n (u := vi k) (by rw [List.getElem?_map, Hn.out]; simp)
  have q2 := hS1.pull3.free 1
  have H1 := Lib.hid hS1
  clear hS1 hF
  go_wp2_with (first
    | (at_builtin; refine wpList_append_sl Eint rfl (.const (.slice none 0 0)) (.tmp 34) rfl (by rfl) (H1.out.addNil 3 1) (by rfl) (rdCut (H1.out.dropL.dropL.dropL.dropL) (n := n) (by omega) (ys := nats fr) (by rw [Hn.out]; simp [nats]) (by rw [Hn.out]; simp)) hone.out (by unfold maxLen; omega) (by omega) ?_; intro ao1 cap1 w2 hS2; simp only [Nat.zero_add, List.nil_append] at hS2; have hP := hS2.pull4; have z0 := hP.cell 0 rfl; have z1 := hP.cell 1 rfl; have zf := hP.free 1; have hP2 := hP.store 1 (.slice ao1 n cap1); have y0 := hP2.cell 0 rfl; have hL := hP2.pull5; have l1 := hL.slCell _ (flat_get (j := 1) pcl_len HK.out rfl); have lf1 := hL.slFree (k * 21 + 1); have hL2 := hL.slStore (k * 21 + 1) (by omega) (.bool true); rw [flat_set pcl_len ps k 1 a ({ a with there := true } : Pl) _ HK.out (by omega) rfl] at hL2; have H3 := Lib.hid hL2; clear hS2 hP hP2 hL hL2))
  have hz := H3.out
  generalize (World.setCell (World.setCell w2 ⟨q, 1, none⟩ (.slice ao1 n cap1)) ⟨b, k * 21 + 1, none⟩ (.bool true)) = W at *
  clear q1 q0 fk q2 z0 z1 zf y0 l1 lf1 H3 H1 HM
  have hk' : (ps.set k ({ a with there := true } : Pl))[k]? = some ({ a with there := true } : Pl) := get_set_self HK.out _
  have q0 := hz.pull2.cell 0 rfl
  have HTh := Lib.hid (slTherePl hz.drew hk' 2 19 (by omega))
  have hst := storeG hz.drew hk' (by simp) x
  rw [List.set_set] at hst
  have HST : Hid (Sat w0 _ (W.drew.setCells b (k * 21 + 2) (elC x).toArray.toList)) := Lib.hid hst
  have HZ := Lib.hid hz
  clear hz hst
  refine wp_quiet_tail 6 (by kernel_rfl) (by kernel_rfl) ?_
  simp only [List.take_succ_cons, List.take_zero, List.drop_succ_cons, List.drop_zero]
  iterate 5 (go_big_quiet_step (fail))
  refine wpQuiet_load_row (by rfl) 134 _ rfl b2 0 (by rfl) (elC x) _ (fun w' hw' => by subst hw'; exact range_ HZ.out.drew.pull5) Tryz.underlying134 rfl einfo ?_
  refine wpQuiet_nil ?_
  go_wp2_with (refine wpList_store_mid rfl 134 _ _ rfl b (k * 21 + 2) (elC x).toArray (by rfl) (by rfl) HTh.out einfo (all_oneCell_toArray (elOne x)) ?_; generalize World.setCells _ _ _ _ = W2 at *; have hS5 := HST.out; have q0' := hS5.pull2.cell 0 rfl; have e0 := hS5.slCell _ (flat_get (j := 0) pcl_len (get_set_self HK.out ({ a with there := true, x := x } : Pl)) rfl); rw [Nat.add_zero] at e0; have s0 := hS5.pull4.cell 0 rfl; have s1 := hS5.pull4.cell 1 rfl; have t0 := hS5.pull4.free 0; have t1 := hS5.pull4.free 1; have H5 := Lib.hid ((hS5.pull4.store 0 (vi k)).store 1 (vu a.gen)); clear hS5)
  (try simp only [Exit.inBlock, Exit.then])
  refine bodyPost_ret (v := .tuple #[vr k a.gen, vi 0]) (by rw [results_cell_tmp rfl]; go_simp) rfl ?_
  first | refine ⟨.slice ao1 n cap1, rfl, ?_⟩ | refine ⟨rfl, .slice ao1 n cap1, ?_⟩
  have hl : (ps.set k ({ a with there := true, x := x } : Pl)).length = ps.length := List.length_set
  unfold rtL
  rw [hl, ← Hn.out]
  refine Sat.dropL (A := elB b2 x * (sl 3 1 (.slice (some ⟨fa, 0, none⟩) m vc) m (nats (fr ++ [k])))) (H5.out.dropL.cast ?_)
  simp only [List.set_cons_zero, List.set_cons_succ]
  ac_rfl
end
end Go.Proofs.YtdbppfcilaajaaaGreat.Gt
