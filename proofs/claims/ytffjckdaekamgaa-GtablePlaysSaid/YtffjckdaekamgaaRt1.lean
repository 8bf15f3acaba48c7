/-
  The reference of layer 16: what it has; Is. No statement is proved here.
-/
import Derived.Test.YtffjckdaekamgaaGt5
import Derived.Test.YtffjckdaekamgaaGa3
import Derived.Test.YtffjckdaekamgaaRowQ
namespace Go.Proofs.Ytffjckdaekamgaa.Gt
open Go.RowKit Ag
set_option linter.unusedVariables false
set_option linter.unusedSimpArgs false

/-- A place, as the reference has it. -/
def pcl (a : Pl) : List Value := [vu a.gen, .bool a.there, .int .i64 a.x.v0, .bool a.x.v1, .int .i64 a.x.v2, .int .u64 a.x.v3, .int .i64 a.x.v4, .int .u64 a.x.v5, .int .u8 a.x.v6, .int .i64 a.x.v7, .int .i64 a.x.v8, .int .u64 a.x.v9, .int .u64 a.x.v10, .int .u64 a.x.v11, .int .u64 a.x.v12, .int .u64 a.x.v13, .int .u64 a.x.v14, .int .u64 a.x.v15, .int .u64 a.x.v16, .int .i64 a.x.v17, .int .u64 a.x.v18]
theorem pcl_len (a : Pl) : (pcl a).length = 21 := rfl
theorem pcl_one (a : Pl) : ∀ u ∈ pcl a, u.oneCell' = true := by
  intro u hu
  simp [pcl] at hu
  rcases hu with rfl | rfl | rfl | rfl | rfl | rfl | rfl | rfl | rfl | rfl | rfl | rfl | rfl | rfl | rfl | rfl | rfl | rfl | rfl | rfl | rfl <;> rfl
abbrev pfl (ps : List Pl) : List Value := ps.flatMap pcl
theorem Epc : SlT Try.prog 70 69 21 168 (.agg #[vu 0, .bool false, .int .i64 0, .bool false, .int .i64 0, .int .u64 0, .int .i64 0, .int .u64 0, .int .u8 0, .int .i64 0, .int .i64 0, .int .u64 0, .int .u64 0, .int .u64 0, .int .u64 0, .int .u64 0, .int .u64 0, .int .u64 0, .int .u64 0, .int .i64 0, .int .u64 0]) := SlT.mk' Try.underlying70 (by kernel_rfl) rfl (by decide)
theorem Eint : SlT Try.prog 71 3 1 8 (vi 0) := SlT.mk' Try.underlying71 (by kernel_rfl) rfl (by decide)
theorem pinfo : (Try.prog.info? 69).map (·.size) = some 21 := by kernel_rfl
abbrev nats (l : List Nat) : List Value := l.map fun k : Nat => vi k
abbrev rtB (q b n cap : Nat) (vF : Value) : Hp := pc q 73 [.slice (some ⟨b, 0, none⟩) n cap, vF]
abbrev rtL (b cap : Nat) (ps : List Pl) : Hp := sl 69 21 (.slice (some ⟨b, 0, none⟩) ps.length cap) ps.length (pfl ps)
theorem slTherePl {T : TypeId} {g n cap k : Nat} {ps : List Pl} {a : Pl} {F : Hp} {w0 w : World} (h : Sat w0 (sl T 21 (.slice (some ⟨g, 0, none⟩) n cap) n (pfl ps) * F) w) (hk : ps[k]? = some a) (o m : Nat) (ho : o + m ≤ 21) : w.there g (k * 21 + o) m := fun j hj => by
  have e := h.slCell (k * 21 + (o + j)) (flat_get (j := o + j) pcl_len hk (List.getElem?_eq_getElem (by rw [pcl_len]; omega)))
  rw [← Nat.add_assoc] at e
  rw [e]
  exact ⟨rfl, h.slFree _⟩
theorem slRangeG {T : TypeId} {g n cap k : Nat} {ps : List Pl} {a : Pl} {F : Hp} {w0 w : World} (h : Sat w0 (sl T 21 (.slice (some ⟨g, 0, none⟩) n cap) n (pfl ps) * F) w) (hk : ps[k]? = some a) : w.rangeAt g (k * 21 + 2) (elC a.x) := fun j v hv => by
  have e := h.slCell (k * 21 + (2 + j)) (flat_get (j := 2 + j) pcl_len hk (v := v) (by rw [Nat.add_comm]; exact hv))
  rw [← Nat.add_assoc] at e
  exact e
theorem storeG {T : TypeId} {g n cap k : Nat} {ps : List Pl} {a : Pl} {F : Hp} {w0 w : World} (h : Sat w0 (sl T 21 (.slice (some ⟨g, 0, none⟩) n cap) n (pfl ps) * F) w) (hk : ps[k]? = some a) (hn : ps.length = n) (x : El) :
    Sat w0 (sl T 21 (.slice (some ⟨g, 0, none⟩) n cap) n (pfl (ps.set k { a with x := x })) * F) (w.setCells g (k * 21 + 2) (elC x)) := by
  have hlt : k < n := by rw [← hn]; exact (List.getElem?_eq_some_iff.1 hk).1
  have hself : ∀ a' : Pl, (ps.set k a')[k]? = some a' := fun a' => by simp [(List.getElem?_eq_some_iff.1 hk).1]
  have h0 := h.slStore (k * 21 + 2) (by omega) (.int .i64 x.v0)
  rw [flat_set pcl_len ps k 2 a ({ a with x := { a.x with v0 := x.v0 } } : Pl) _ hk (by omega) rfl] at h0
  have h1 := h0.slStore (k * 21 + 3) (by omega) (.bool x.v1)
  rw [flat_set pcl_len _ k 3 ({ a with x := { a.x with v0 := x.v0 } } : Pl) ({ a with x := { a.x with v0 := x.v0, v1 := x.v1 } } : Pl) _ (hself _) (by omega) rfl, List.set_set] at h1
  have h2 := h1.slStore (k * 21 + 4) (by omega) (.int .i64 x.v2)
  rw [flat_set pcl_len _ k 4 ({ a with x := { a.x with v0 := x.v0, v1 := x.v1 } } : Pl) ({ a with x := { a.x with v0 := x.v0, v1 := x.v1, v2 := x.v2 } } : Pl) _ (hself _) (by omega) rfl, List.set_set] at h2
  have h3 := h2.slStore (k * 21 + 5) (by omega) (.int .u64 x.v3)
  rw [flat_set pcl_len _ k 5 ({ a with x := { a.x with v0 := x.v0, v1 := x.v1, v2 := x.v2 } } : Pl) ({ a with x := { a.x with v0 := x.v0, v1 := x.v1, v2 := x.v2, v3 := x.v3 } } : Pl) _ (hself _) (by omega) rfl, List.set_set] at h3
  have h4 := h3.slStore (k * 21 + 6) (by omega) (.int .i64 x.v4)
  rw [flat_set pcl_len _ k 6 ({ a with x := { a.x with v0 := x.v0, v1 := x.v1, v2 := x.v2, v3 := x.v3 } } : Pl) ({ a with x := { a.x with v0 := x.v0, v1 := x.v1, v2 := x.v2, v3 := x.v3, v4 := x.v4 } } : Pl) _ (hself _) (by omega) rfl, List.set_set] at h4
  have h5 := h4.slStore (k * 21 + 7) (by omega) (.int .u64 x.v5)
  rw [flat_set pcl_len _ k 7 ({ a with x := { a.x with v0 := x.v0, v1 := x.v1, v2 := x.v2, v3 := x.v3, v4 := x.v4 } } : Pl) ({ a with x := { a.x with v0 := x.v0, v1 := x.v1, v2 := x.v2, v3 := x.v3, v4 := x.v4, v5 := x.v5 } } : Pl) _ (hself _) (by omega) rfl, List.set_set] at h5
  have h6 := h5.slStore (k * 21 + 8) (by omega) (.int .u8 x.v6)
  rw [flat_set pcl_len _ k 8 ({ a with x := { a.x with v0 := x.v0, v1 := x.v1, v2 := x.v2, v3 := x.v3, v4 := x.v4, v5 := x.v5 } } : Pl) ({ a with x := { a.x with v0 := x.v0, v1 := x.v1, v2 := x.v2, v3 := x.v3, v4 := x.v4, v5 := x.v5, v6 := x.v6 } } : Pl) _ (hself _) (by omega) rfl, List.set_set] at h6
  have h7 := h6.slStore (k * 21 + 9) (by omega) (.int .i64 x.v7)
  rw [flat_set pcl_len _ k 9 ({ a with x := { a.x with v0 := x.v0, v1 := x.v1, v2 := x.v2, v3 := x.v3, v4 := x.v4, v5 := x.v5, v6 := x.v6 } } : Pl) ({ a with x := { a.x with v0 := x.v0, v1 := x.v1, v2 := x.v2, v3 := x.v3, v4 := x.v4, v5 := x.v5, v6 := x.v6, v7 := x.v7 } } : Pl) _ (hself _) (by omega) rfl, List.set_set] at h7
  have h8 := h7.slStore (k * 21 + 10) (by omega) (.int .i64 x.v8)
  rw [flat_set pcl_len _ k 10 ({ a with x := { a.x with v0 := x.v0, v1 := x.v1, v2 := x.v2, v3 := x.v3, v4 := x.v4, v5 := x.v5, v6 := x.v6, v7 := x.v7 } } : Pl) ({ a with x := { a.x with v0 := x.v0, v1 := x.v1, v2 := x.v2, v3 := x.v3, v4 := x.v4, v5 := x.v5, v6 := x.v6, v7 := x.v7, v8 := x.v8 } } : Pl) _ (hself _) (by omega) rfl, List.set_set] at h8
  have h9 := h8.slStore (k * 21 + 11) (by omega) (.int .u64 x.v9)
  rw [flat_set pcl_len _ k 11 ({ a with x := { a.x with v0 := x.v0, v1 := x.v1, v2 := x.v2, v3 := x.v3, v4 := x.v4, v5 := x.v5, v6 := x.v6, v7 := x.v7, v8 := x.v8 } } : Pl) ({ a with x := { a.x with v0 := x.v0, v1 := x.v1, v2 := x.v2, v3 := x.v3, v4 := x.v4, v5 := x.v5, v6 := x.v6, v7 := x.v7, v8 := x.v8, v9 := x.v9 } } : Pl) _ (hself _) (by omega) rfl, List.set_set] at h9
  have h10 := h9.slStore (k * 21 + 12) (by omega) (.int .u64 x.v10)
  rw [flat_set pcl_len _ k 12 ({ a with x := { a.x with v0 := x.v0, v1 := x.v1, v2 := x.v2, v3 := x.v3, v4 := x.v4, v5 := x.v5, v6 := x.v6, v7 := x.v7, v8 := x.v8, v9 := x.v9 } } : Pl) ({ a with x := { a.x with v0 := x.v0, v1 := x.v1, v2 := x.v2, v3 := x.v3, v4 := x.v4, v5 := x.v5, v6 := x.v6, v7 := x.v7, v8 := x.v8, v9 := x.v9, v10 := x.v10 } } : Pl) _ (hself _) (by omega) rfl, List.set_set] at h10
  have h11 := h10.slStore (k * 21 + 13) (by omega) (.int .u64 x.v11)
  rw [flat_set pcl_len _ k 13 ({ a with x := { a.x with v0 := x.v0, v1 := x.v1, v2 := x.v2, v3 := x.v3, v4 := x.v4, v5 := x.v5, v6 := x.v6, v7 := x.v7, v8 := x.v8, v9 := x.v9, v10 := x.v10 } } : Pl) ({ a with x := { a.x with v0 := x.v0, v1 := x.v1, v2 := x.v2, v3 := x.v3, v4 := x.v4, v5 := x.v5, v6 := x.v6, v7 := x.v7, v8 := x.v8, v9 := x.v9, v10 := x.v10, v11 := x.v11 } } : Pl) _ (hself _) (by omega) rfl, List.set_set] at h11
  have h12 := h11.slStore (k * 21 + 14) (by omega) (.int .u64 x.v12)
  rw [flat_set pcl_len _ k 14 ({ a with x := { a.x with v0 := x.v0, v1 := x.v1, v2 := x.v2, v3 := x.v3, v4 := x.v4, v5 := x.v5, v6 := x.v6, v7 := x.v7, v8 := x.v8, v9 := x.v9, v10 := x.v10, v11 := x.v11 } } : Pl) ({ a with x := { a.x with v0 := x.v0, v1 := x.v1, v2 := x.v2, v3 := x.v3, v4 := x.v4, v5 := x.v5, v6 := x.v6, v7 := x.v7, v8 := x.v8, v9 := x.v9, v10 := x.v10, v11 := x.v11, v12 := x.v12 } } : Pl) _ (hself _) (by omega) rfl, List.set_set] at h12
  have h13 := h12.slStore (k * 21 + 15) (by omega) (.int .u64 x.v13)
  rw [flat_set pcl_len _ k 15 ({ a with x := { a.x with v0 := x.v0, v1 := x.v1, v2 := x.v2, v3 := x.v3, v4 := x.v4, v5 := x.v5, v6 := x.v6, v7 := x.v7, v8 := x.v8, v9 := x.v9, v10 := x.v10, v11 := x.v11, v12 := x.v12 } } : Pl) ({ a with x := { a.x with v0 := x.v0, v1 := x.v1, v2 := x.v2, v3 := x.v3, v4 := x.v4, v5 := x.v5, v6 := x.v6, v7 := x.v7, v8 := x.v8, v9 := x.v9, v10 := x.v10, v11 := x.v11, v12 := x.v12, v13 := x.v13 } } : Pl) _ (hself _) (by omega) rfl, List.set_set] at h13
  have h14 := h13.slStore (k * 21 + 16) (by omega) (.int .u64 x.v14)
  rw [flat_set pcl_len _ k 16 ({ a with x := { a.x with v0 := x.v0, v1 := x.v1, v2 := x.v2, v3 := x.v3, v4 := x.v4, v5 := x.v5, v6 := x.v6, v7 := x.v7, v8 := x.v8, v9 := x.v9, v10 := x.v10, v11 := x.v11, v12 := x.v12, v13 := x.v13 } } : Pl) ({ a with x := { a.x with v0 := x.v0, v1 := x.v1, v2 := x.v2, v3 := x.v3, v4 := x.v4, v5 := x.v5, v6 := x.v6, v7 := x.v7, v8 := x.v8, v9 := x.v9, v10 := x.v10, v11 := x.v11, v12 := x.v12, v13 := x.v13, v14 := x.v14 } } : Pl) _ (hself _) (by omega) rfl, List.set_set] at h14
  have h15 := h14.slStore (k * 21 + 17) (by omega) (.int .u64 x.v15)
  rw [flat_set pcl_len _ k 17 ({ a with x := { a.x with v0 := x.v0, v1 := x.v1, v2 := x.v2, v3 := x.v3, v4 := x.v4, v5 := x.v5, v6 := x.v6, v7 := x.v7, v8 := x.v8, v9 := x.v9, v10 := x.v10, v11 := x.v11, v12 := x.v12, v13 := x.v13, v14 := x.v14 } } : Pl) ({ a with x := { a.x with v0 := x.v0, v1 := x.v1, v2 := x.v2, v3 := x.v3, v4 := x.v4, v5 := x.v5, v6 := x.v6, v7 := x.v7, v8 := x.v8, v9 := x.v9, v10 := x.v10, v11 := x.v11, v12 := x.v12, v13 := x.v13, v14 := x.v14, v15 := x.v15 } } : Pl) _ (hself _) (by omega) rfl, List.set_set] at h15
  have h16 := h15.slStore (k * 21 + 18) (by omega) (.int .u64 x.v16)
  rw [flat_set pcl_len _ k 18 ({ a with x := { a.x with v0 := x.v0, v1 := x.v1, v2 := x.v2, v3 := x.v3, v4 := x.v4, v5 := x.v5, v6 := x.v6, v7 := x.v7, v8 := x.v8, v9 := x.v9, v10 := x.v10, v11 := x.v11, v12 := x.v12, v13 := x.v13, v14 := x.v14, v15 := x.v15 } } : Pl) ({ a with x := { a.x with v0 := x.v0, v1 := x.v1, v2 := x.v2, v3 := x.v3, v4 := x.v4, v5 := x.v5, v6 := x.v6, v7 := x.v7, v8 := x.v8, v9 := x.v9, v10 := x.v10, v11 := x.v11, v12 := x.v12, v13 := x.v13, v14 := x.v14, v15 := x.v15, v16 := x.v16 } } : Pl) _ (hself _) (by omega) rfl, List.set_set] at h16
  have h17 := h16.slStore (k * 21 + 19) (by omega) (.int .i64 x.v17)
  rw [flat_set pcl_len _ k 19 ({ a with x := { a.x with v0 := x.v0, v1 := x.v1, v2 := x.v2, v3 := x.v3, v4 := x.v4, v5 := x.v5, v6 := x.v6, v7 := x.v7, v8 := x.v8, v9 := x.v9, v10 := x.v10, v11 := x.v11, v12 := x.v12, v13 := x.v13, v14 := x.v14, v15 := x.v15, v16 := x.v16 } } : Pl) ({ a with x := { a.x with v0 := x.v0, v1 := x.v1, v2 := x.v2, v3 := x.v3, v4 := x.v4, v5 := x.v5, v6 := x.v6, v7 := x.v7, v8 := x.v8, v9 := x.v9, v10 := x.v10, v11 := x.v11, v12 := x.v12, v13 := x.v13, v14 := x.v14, v15 := x.v15, v16 := x.v16, v17 := x.v17 } } : Pl) _ (hself _) (by omega) rfl, List.set_set] at h17
  have h18 := h17.slStore (k * 21 + 20) (by omega) (.int .u64 x.v18)
  rw [flat_set pcl_len _ k 20 ({ a with x := { a.x with v0 := x.v0, v1 := x.v1, v2 := x.v2, v3 := x.v3, v4 := x.v4, v5 := x.v5, v6 := x.v6, v7 := x.v7, v8 := x.v8, v9 := x.v9, v10 := x.v10, v11 := x.v11, v12 := x.v12, v13 := x.v13, v14 := x.v14, v15 := x.v15, v16 := x.v16, v17 := x.v17 } } : Pl) ({ a with x := { a.x with v0 := x.v0, v1 := x.v1, v2 := x.v2, v3 := x.v3, v4 := x.v4, v5 := x.v5, v6 := x.v6, v7 := x.v7, v8 := x.v8, v9 := x.v9, v10 := x.v10, v11 := x.v11, v12 := x.v12, v13 := x.v13, v14 := x.v14, v15 := x.v15, v16 := x.v16, v17 := x.v17, v18 := x.v18 } } : Pl) _ (hself _) (by omega) rfl, List.set_set] at h18
  exact h18
theorem setCells_two (w : World) (g o : Nat) (v1 v2 : Value) (l : List Value) : w.setCells g o (v1 :: v2 :: l) = ((w.setCell ⟨g, o + 0, none⟩ v1).setCell ⟨g, o + 1, none⟩ v2).setCells g (o + 2) l := rfl
set_option maxRecDepth 100000 in
set_option maxHeartbeats 4000000 in
theorem storePl {T : TypeId} {g n cap k : Nat} {ps : List Pl} {a : Pl} {F : Hp} {w0 w : World} (h : Sat w0 (sl T 21 (.slice (some ⟨g, 0, none⟩) n cap) n (pfl ps) * F) w) (hk : ps[k]? = some a) (hn : ps.length = n) (a' : Pl) (hr : a'.retired = a.retired) :
    Sat w0 (sl T 21 (.slice (some ⟨g, 0, none⟩) n cap) n (pfl (ps.set k a')) * F) (w.setCells g (k * 21) (pcl a')) := by
  have hlt : k < n := by rw [← hn]; exact (List.getElem?_eq_some_iff.1 hk).1
  have hself : ∀ a' : Pl, (ps.set k a')[k]? = some a' := fun a' => by simp [(List.getElem?_eq_some_iff.1 hk).1]
  have h0 := h.slStore (k * 21 + 0) (by omega) (vu a'.gen)
  rw [flat_set pcl_len ps k 0 a ({ a with gen := a'.gen } : Pl) _ hk (by omega) rfl] at h0
  have h1 := h0.slStore (k * 21 + 1) (by omega) (.bool a'.there)
  rw [flat_set pcl_len _ k 1 ({ a with gen := a'.gen } : Pl) ({ a with gen := a'.gen, there := a'.there } : Pl) _ (hself _) (by omega) rfl, List.set_set] at h1
  have h2 := storeG h1 (hself _) (by rw [List.length_set]; exact hn) a'.x
  rw [List.set_set] at h2
  have e : ({ a with gen := a'.gen, there := a'.there, x := a'.x } : Pl) = a' := by
    obtain ⟨g1, t1, r1, x1⟩ := a'
    simp only at hr
    rw [hr]
  rw [e] at h2
  have e2 : w.setCells g (k * 21) (pcl a') = ((w.setCell ⟨g, k * 21 + 0, none⟩ (vu a'.gen)).setCell ⟨g, k * 21 + 1, none⟩ (.bool a'.there)).setCells g (k * 21 + 2) (elC a'.x) := by
    rw [show pcl a' = vu a'.gen :: .bool a'.there :: elC a'.x from rfl]
    exact setCells_two _ _ _ _ _ _
  rw [e2]
  exact h2
section
variable {w0 w : World} {F : Hp} {q b cap : Nat} {ps : List Pl} {vF : Value} {fr : List Nat}
set_option maxRecDepth 100000 in
set_option maxHeartbeats 4000000 in
theorem rt_is (hS : Sat w0 (rtB q b ps.length cap vF * (rtL b cap ps * F)) w) (i g : Int) :
    Calls Try.prog 24 #[vp q, vr i g] w fun e w' => e = .returned (.bool (isAt ps i g).isSome) ∧ Sat w0 (rtB q b ps.length cap vF * (rtL b cap ps * F)) w' := by
  have hB : Sat w0 (pc w.heap.size 25 [vi i, vu g] * (rtB q b ps.length cap vF * (rtL b cap ps * F))) (w.alloc (.cells #[vi i, vu g] 25)) := hS.alloc _
  have b0 := hB.cell 0 rfl
  have b1 := hB.cell 1 rfl
  have q0 := hB.pull2.cell 0 rfl
  have HB := Lib.hid hB
  clear hS
  by_cases hi : 0 ≤ i
  · obtain ⟨k, rfl⟩ := Int.eq_ofNat_of_zero_le hi
    by_cases hk : k < ps.length
    · obtain ⟨a, ha⟩ : ∃ a, ps[k]? = some a := ⟨ps[k], List.getElem?_eq_getElem hk⟩
      have hki : (k : Int) < (ps.length : Int) := by omega
      have e0 := hB.pull3.slCell _ (flat_get (j := 0) pcl_len ha rfl)
      rw [Nat.add_zero] at e0
      have e1 := hB.pull3.slCell _ (flat_get (j := 1) pcl_len ha rfl)
      have hv : (isAt ps k g).isSome = (a.there && a.gen == g) := by
        unfold isAt
        rw [if_neg (by omega), Int.toNat_natCast, ha]
        cases h : (a.there && a.gen == g) <;> simp [h]
      rw [hv]
      clear hv hB ha
      obtain ⟨gen, is, _, _⟩ := a
      dsimp only at e0 e1 ⊢
      cases is with
      | false =>
        go_enter Try.func24, Try.ntmps24
        go_wp2
        go_quiet (fail)
        go_wp2
        go_ret
        exact ⟨by simp, (HB.out.dropL).drewN _⟩
      | true =>
        by_cases hg : gen = g
        · subst hg
          go_enter Try.func24, Try.ntmps24
          go_wp2
          go_quiet (fail)
          go_wp2
          go_ret
          exact ⟨by simp, (HB.out.dropL).drewN _⟩
        · have hg2 : (gen == g) = false := beq_eq_false_iff_ne.2 hg
          rw [hg2]
          go_enter Try.func24, Try.ntmps24
          go_wp2
          go_quiet (fail)
          go_wp2
          go_ret
          exact ⟨by simp, (HB.out.dropL).drewN _⟩
    · have hki : ¬ ((k : Int) < (ps.length : Int)) := by omega
      have hv : (isAt ps k g).isSome = false := by
        unfold isAt
        rw [if_neg (by omega), Int.toNat_natCast, List.getElem?_eq_none (by omega)]
        rfl
      rw [hv]
      clear hv hB
      go_enter Try.func24, Try.ntmps24
      go_wp2
      go_quiet (fail)
      go_wp2
      go_ret
      exact ⟨by simp, (HB.out.dropL).drewN _⟩
  · have hv : (isAt ps i g).isSome = false := by
      unfold isAt
      rw [if_pos (by omega)]
      rfl
    rw [hv]
    have hi2 : decide (0 ≤ i) = false := decide_eq_false hi
    have hi3 : i < 0 := by omega
    clear hv hB hi
    go_enter Try.func24, Try.ntmps24
    go_wp2
    go_quiet (fail)
    go_wp2
    go_ret
    exact ⟨by simp, (HB.out.dropL).drewN _⟩
end
end Go.Proofs.Ytffjckdaekamgaa.Gt
