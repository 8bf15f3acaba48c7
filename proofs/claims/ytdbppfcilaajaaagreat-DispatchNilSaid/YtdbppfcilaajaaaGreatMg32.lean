/-
  Chapter 08: reference's Same and SameOne. No statement is proved here.
-/
import Derived.Test.YtdbppfcilaajaaaGreatMg27
import Derived.Test.YtdbppfcilaajaaaGreatMg4
namespace Go.Proofs.YtdbppfcilaajaaaGreat.Cn
open Go.RowKit Ac Fi
set_option linter.unusedVariables false
set_option linter.unusedSimpArgs false

theorem Rf.ext' {r s : Rf} (h1 : r.amount = s.amount) (h2 : r.at_ = s.at_) : r = s := by
  cases r
  cases s
  simp at h1 h2
  rw [h1, h2]
/-- A Bool that says whether P is so; nothing of old is written. -/
def BoolOut (P : Prop) (w : World) (e : Ending) (w' : World) : Prop := ∃ b, e = .returned (.bool b) ∧ (b = true ↔ P) ∧ Below w.heap.size w w'
theorem BoolOut.t {P : Prop} {w w' : World} {e : Ending} (he : e = .returned (.bool true)) (h : P) (hb : Below w.heap.size w w') : BoolOut P w e w' := ⟨true, he, by simp [h], hb⟩
theorem BoolOut.f {P : Prop} {w w' : World} {e : Ending} (he : e = .returned (.bool false)) (h : ¬ P) (hb : Below w.heap.size w w') : BoolOut P w e w' := ⟨false, he, by simp [h], hb⟩
theorem BoolOut.b {P Q : Prop} {w w' : World} {e : Ending} {b : Bool} (he : e = .returned (.bool b)) (h : b = true ↔ Q) (hq : Q ↔ P) (hb : Below w.heap.size w w') : BoolOut P w e w' := ⟨b, he, h.trans hq, hb⟩
end Go.Proofs.YtdbppfcilaajaaaGreat.Cn

namespace Go.Proofs.YtdbppfcilaajaaaGreat.Cn
open Go.RowKit Ac Fi
set_option linter.unusedVariables false

structure RPl where
  gen : Int
  there : Bool
  x : El
  freed : Int
def RPl.cells (r : RPl) : List Value := [vu r.gen, .bool r.there, vu r.x.v0, vu r.x.v1, .slice r.x.a2 r.x.n2 r.x.c2, vi r.x.v3, vi r.freed]
theorem RPl.len (r : RPl) : r.cells.length = 7 := rfl
theorem RPl.one (r : RPl) : ∀ u ∈ r.cells, u.oneCell' = true := by
  intro u hu
  simp [RPl.cells] at hu
  rcases hu with rfl | rfl | rfl | rfl | rfl | rfl | rfl <;> rfl
abbrev rflatP (rs : List RPl) : List Value := rs.flatMap RPl.cells
abbrev rxB (q b n cap : Nat) (times most : Int) : Hp := pc q 224 [.slice (some ⟨b, 0, none⟩) n cap, vi times, vi most]
abbrev rxL (b cap : Nat) (rs : List RPl) : Hp := sl 226 7 (.slice (some ⟨b, 0, none⟩) rs.length cap) rs.length (rflatP rs)
structure RM (L : Blks) (rs : List RPl) (cs : List CP) : Prop where
  len : rs.length = cs.length
  at_ : ∀ (k : Nat) (a : RPl) (c : CP), rs[k]? = some a → cs[k]? = some c → a.gen = c.gen ∧ a.there = c.there ∧ EM L a.x c.cx ∧ a.freed = c.freed
theorem RM.mono {L L' : Blks} {rs : List RPl} {cs : List CP} (h : RM L rs cs) (hs : ∀ y ∈ L, y ∈ L') : RM L' rs cs :=
  ⟨h.len, fun k a c ha hc => by obtain ⟨h1, h2, h3, h4⟩ := h.at_ k a c ha hc; exact ⟨h1, h2, h3.mono hs, h4⟩⟩
theorem RM.set {L : Blks} {rs : List RPl} {cs : List CP} (h : RM L rs cs) (k : Nat) {a : RPl} {c : CP} (h1 : a.gen = c.gen) (h2 : a.there = c.there) (h3 : EM L a.x c.cx) (h4 : a.freed = c.freed) : RM L (rs.set k a) (cs.set k c) := by
  refine ⟨by rw [List.length_set, List.length_set]; exact h.len, fun j b d hb hd => ?_⟩
  rw [List.getElem?_set] at hb hd
  by_cases hj : k = j
  · subst hj
    rw [if_pos rfl] at hb hd
    split at hb
    · split at hd
      · cases hb
        cases hd
        exact ⟨h1, h2, h3, h4⟩
      · cases hd
    · cases hb
  · rw [if_neg hj] at hb hd
    exact h.at_ j b d hb hd
/-- The place that a ref names. -/
def isR (rs : List RPl) (i g : Int) : Option (Nat × RPl) :=
  if i < 0 then none else match rs[i.toNat]? with
    | none => none
    | some a => if a.there && a.gen == g then some (i.toNat, a) else none
theorem isR_some {rs : List RPl} {i g : Int} {k : Nat} {a : RPl} (h : isR rs i g = some (k, a)) : rs[k]? = some a ∧ i = k ∧ a.there = true ∧ a.gen = g := by
  unfold isR at h
  split at h
  · cases h
  · split at h
    · cases h
    · rename_i hi c' hc
      split at h
      · rename_i ht
        cases h
        simp only [Bool.and_eq_true, beq_iff_eq] at ht
        exact ⟨hc, by omega, ht.1, ht.2⟩
      · cases h
theorem isR_of {rs : List RPl} {k : Nat} {a : RPl} (h : rs[k]? = some a) (ht : a.there = true) : isR rs k a.gen = some (k, a) := by
  unfold isR
  rw [if_neg (by omega), Int.toNat_natCast, h]
  simp [ht]
theorem RM.yes {L : Blks} {rs : List RPl} {cs : List CP} (h : RM L rs cs) {i g : Int} (he : eC cs i g = 0) : ∃ k a c, isC cs i g = some (k, c) ∧ isR rs i g = some (k, a) ∧ rs[k]? = some a ∧ cs[k]? = some c ∧ i = k ∧ a.there = true ∧ a.gen = g ∧ c.gen = g ∧ c.there = true ∧ gC cs i g = c.cx ∧ EM L a.x (gC cs i g) ∧ a.freed = c.freed := by
  obtain ⟨k, c, hc⟩ := eC_yes he
  obtain ⟨h1, rfl, ht, hg⟩ := isC_some hc
  have hk : k < rs.length := by rw [h.len]; exact (List.getElem?_eq_some_iff.1 h1).1
  obtain ⟨a, ha⟩ : ∃ a, rs[k]? = some a := ⟨rs[k], List.getElem?_eq_getElem hk⟩
  obtain ⟨e1, e2, e3, e4⟩ := h.at_ k a c ha h1
  have := isR_of ha (e2.trans ht)
  rw [e1, hg] at this
  exact ⟨k, a, c, hc, this, ha, h1, rfl, e2.trans ht, e1.trans hg, hg, ht, (isC_gC hc).1, by rw [(isC_gC hc).1]; exact e3, e4⟩
theorem RM.no {L : Blks} {rs : List RPl} {cs : List CP} (h : RM L rs cs) {i g : Int} (he : eC cs i g = 11) : isR rs i g = none := by
  have hn := eC_no (cs := cs) (i := i) (g := g) (by omega)
  cases hA : isR rs i g with
  | none => rfl
  | some x =>
    obtain ⟨k, a⟩ := x
    obtain ⟨ha, rfl, ht, hg⟩ := isR_some hA
    have hk : k < cs.length := by rw [← h.len]; exact (List.getElem?_eq_some_iff.1 ha).1
    obtain ⟨c, hc⟩ : ∃ c, cs[k]? = some c := ⟨cs[k], List.getElem?_eq_getElem hk⟩
    obtain ⟨h1, h2, _⟩ := h.at_ k a c ha hc
    have := isC_of hc (h2 ▸ ht)
    rw [← h1, hg] at this
    rw [this] at hn
    cases hn
section
variable {w0 w : World} {F : Hp} {q b n cap : Nat} {times most : Int} {rs : List RPl} {k : Nat} {a : RPl}
theorem rx_at (h : Sat w0 (rxL b cap rs * F) w) {j : Nat} {v : Value} (hk : rs[k]? = some a) (hv : a.cells[j]? = some v) : w.cell? ⟨b, k * 7 + j, none⟩ = some v := h.slCell _ (flat_get RPl.len hk hv)
theorem rx_store (h : Sat w0 (rxL b cap rs * F) w) (hk : rs[k]? = some a) (j : Nat) (hj : j < 7) (v : Value) (a' : RPl) (ha' : a'.cells = a.cells.set j v) : Sat w0 (rxL b cap (rs.set k a') * F) (w.setCell ⟨b, k * 7 + j, none⟩ v) := by
  have hlt : k < rs.length := (List.getElem?_eq_some_iff.1 hk).1
  have h1 := h.slStore (k * 7 + j) (by omega) v
  rw [flat_set RPl.len rs k j a a' v hk hj ha'] at h1
  unfold rxL
  rw [List.length_set]
  exact h1
theorem rx_get {a' : RPl} (hk : rs[k]? = some a) : (rs.set k a')[k]? = some a' := by rw [List.getElem?_set_self (List.getElem?_eq_some_iff.1 hk).1]
/-- A whole element laid into a place. -/
theorem rx_storeX (h : Sat w0 (rxL b cap rs * F) w) (hk : rs[k]? = some a) (x : El) :
    Sat w0 (rxL b cap (rs.set k { a with x := x }) * F) ((((w.setCell ⟨b, k * 7 + 2, none⟩ (.int .u64 x.v0)).setCell ⟨b, k * 7 + 2 + 1, none⟩ (.int .u64 x.v1)).setCell ⟨b, k * 7 + 2 + 2, none⟩ (.slice x.a2 x.n2 x.c2)).setCell ⟨b, k * 7 + 2 + 3, none⟩ (.int .i64 x.v3)) := by
  have h0 := rx_store h hk 2 (by omega) (.int .u64 x.v0) { a with x := { a.x with v0 := x.v0 } } rfl
  have h1 := rx_store h0 (rx_get hk) 3 (by omega) (.int .u64 x.v1) { a with x := { a.x with v0 := x.v0, v1 := x.v1 } } rfl
  have h2 := rx_store h1 (rx_get (rx_get hk)) 4 (by omega) (.slice x.a2 x.n2 x.c2) { a with x := { a.x with v0 := x.v0, v1 := x.v1, a2 := x.a2, n2 := x.n2, c2 := x.c2 } } rfl
  have h3 := rx_store h2 (rx_get (rx_get (rx_get hk))) 5 (by omega) (.int .i64 x.v3) { a with x := x } rfl
  rw [List.set_set, List.set_set, List.set_set] at h3
  exact h3
theorem rx_free (h : Sat w0 (rxL b cap rs * F) w) (j : Nat) : w.frozen? ⟨b, j, none⟩ = false := h.slFree j
end
section
variable {w0 w : World} {F : Hp} {q b cap : Nat} {times most : Int} {rs : List RPl}
set_option maxRecDepth 100000 in
set_option maxHeartbeats 2000000 in
theorem rx_is (hS : Sat w0 (rxB q b rs.length cap times most * (rxL b cap rs * F)) w) (i g : Int) :
    Calls Tryz.prog 126 #[vp q, vr i g] w fun e w' => e = .returned (.bool (isR rs i g).isSome) ∧ Sat w0 (rxB q b rs.length cap times most * (rxL b cap rs * F)) w' := by
  have hB0 : Sat w0 (pc w.heap.size 30 [vi i, vu g] * (rxB q b rs.length cap times most * (rxL b cap rs * F))) (w.alloc (.cells #[vi i, vu g] 30)) := hS.alloc (.cells #[vi i, vu g] 30)
  have b0 := hB0.cell 0 rfl
  have b1 := hB0.cell 1 rfl
  have q0 := hB0.pull2.cell 0 rfl
  have HB := Lib.hid hB0
  clear hS
  by_cases h1 : i < 0
  · have hR : isR rs i g = none := by rw [isR, if_pos h1]
    have h1' : ¬ 0 ≤ i := by omega
    have hd : decide (0 ≤ i) = false := decide_eq_false h1'
    rw [hR]
    clear hB0 hR h1 h1'
    go_enter Tryz.func126, Tryz.ntmps126
    go_wp2
    go_quiet (fail)
    go_wp2
    go_ret
    exact ⟨rfl, (HB.out.drewN _).dropL⟩
  · obtain ⟨k, rfl⟩ := Int.eq_ofNat_of_zero_le (show 0 ≤ i by omega)
    have hd0 : decide ((0 : Int) ≤ (k : Int)) = true := decide_eq_true (by omega)
    by_cases h2 : rs.length ≤ k
    · have hR : isR rs k g = none := by rw [isR, if_neg (by omega), Int.toNat_natCast, List.getElem?_eq_none h2]
      have hd : decide (k < rs.length) = false := decide_eq_false (by omega)
      have hdi : decide ((k : Int) < (rs.length : Int)) = false := decide_eq_false (by omega)
      rw [hR]
      clear hB0 hR h1 h2
      go_enter Tryz.func126, Tryz.ntmps126
      go_wp2
      go_quiet (fail)
      go_wp2
      go_ret
      exact ⟨rfl, (HB.out.drewN _).dropL⟩
    · obtain ⟨a, ha⟩ : ∃ a, rs[k]? = some a := ⟨rs[k], List.getElem?_eq_getElem (by omega)⟩
      have c1 := rx_at hB0.dropL.dropL (j := 1) ha rfl
      have c0 := rx_at hB0.dropL.dropL (j := 0) ha rfl
      rw [Nat.add_zero] at c0
      have hd : decide (k < rs.length) = true := decide_eq_true (by omega)
      have hdi : decide ((k : Int) < (rs.length : Int)) = true := decide_eq_true (by omega)
      have hki : (k : Int) < (rs.length : Int) := by omega
      have hR : isR rs k g = if a.there && a.gen == g then some (k, a) else none := by rw [isR, if_neg (by omega), Int.toNat_natCast, ha]
      obtain ⟨gen, th, x, fr⟩ := a
      rw [hR]
      dsimp only at c0 c1 ⊢
      clear hB0 hR h1 h2 ha
      cases th with
      | false =>
        have HF : Hid ((if (false && gen == g) = true then some (k, (⟨gen, false, x, fr⟩ : RPl)) else none).isSome = false) := Lib.hid (by simp)
        rw [HF.out]
        clear HF
        go_enter Tryz.func126, Tryz.ntmps126
        go_wp2
        go_quiet (fail)
        go_wp2
        go_ret
        exact ⟨rfl, (HB.out.drewN _).dropL⟩
      | true =>
        have HF : Hid ((if (true && gen == g) = true then some (k, (⟨gen, true, x, fr⟩ : RPl)) else none).isSome = (gen == g)) := Lib.hid (by by_cases hg : gen = g <;> simp [hg])
        rw [HF.out]
        clear HF
        generalize hgg : (gen == g) = gg at *
        go_enter Tryz.func126, Tryz.ntmps126
        go_wp2
        go_quiet (fail)
        go_wp2
        go_ret
        exact ⟨rfl, (HB.out.drewN _).dropL⟩
end
end Go.Proofs.YtdbppfcilaajaaaGreat.Cn

namespace Go.Proofs.YtdbppfcilaajaaaGreat.Cn
open Go.RowKit Ac Fi
set_option linter.unusedVariables false
set_option linter.unusedSimpArgs false

section
variable {w0 w : World} {F : Hp} {q b cap : Nat} {times most : Int} {rs : List RPl} {L : Blks} {l m : List Rf}
end
end Go.Proofs.YtdbppfcilaajaaaGreat.Cn

namespace Go.Proofs.YtdbppfcilaajaaaGreat.Cn
open Go.RowKit Ac Fi
set_option linter.unusedVariables false
set_option linter.unusedSimpArgs false

section
variable {w0 w : World} {F : Hp} {q b cap : Nat} {times most : Int} {rs : List RPl} {L : Blks} {l m : List Rf}
set_option maxRecDepth 100000 in
set_option maxHeartbeats 4000000 in
theorem rx_bind_no (hS : Sat w0 (rxB q b rs.length cap times most * (rxL b cap rs * (plB L * (F)))) w) (i g : Int) (hi : isR rs i g = none) (d : Int) :
    Calls Tryz.prog 60 #[vp q, vr i g, vi d] w fun e w' => e = .returned (vi 11) ∧ Sat w0 (rxB q b rs.length cap times most * (rxL b cap rs * (plB L * (F)))) w' := by
  have hB : Sat w0 (pc w.heap.size 30 [vi i, vu g] * (rxB q b rs.length cap times most * (rxL b cap rs * (plB L * (F))))) (w.alloc (.cells #[vi i, vu g] 30)) := hS.alloc (.cells #[vi i, vu g] 30)
  have b0 := hB.cell 0 rfl
  have b1 := hB.cell 1 rfl
  have HB := Lib.hid hB
  have HI := Lib.hid (rx_is ((hB).cast (show _ = rxB q b rs.length cap times most * (rxL b cap rs * (pc w.heap.size 30 [vi i, vu g] * (plB L * (F)))) by ac_rfl)) i g)
  rw [hi, show (none : Option (Nat × RPl)).isSome = false from rfl] at HI
  clear hS hB hi
  go_enter Tryz.func60, Tryz.ntmps60
  go_wp2_with (go_at_call 126; refine HI.out.mono ?_; rintro e w1 ⟨rfl, hS1⟩; have H1 := Lib.hid ((hS1).cast (show _ = pc w.heap.size 30 [vi i, vu g] * (rxB q b rs.length cap times most * (rxL b cap rs * (plB L * (F)))) by ac_rfl)); clear hS1)
  go_ret
  exact ⟨rfl, H1.out.dropL⟩
set_option maxRecDepth 100000 in
set_option maxHeartbeats 4000000 in
theorem rx_bind_neg (hS : Sat w0 (rxB q b rs.length cap times most * (rxL b cap rs * (plB L * (F)))) w) {k : Nat} {a : RPl} (ha : rs[k]? = some a) (ht : a.there = true) (d : Int) (hd : -1 ≤ d ∧ d ≤ 1) (hb : -10 ≤ a.x.v3 ∧ a.x.v3 ≤ 1000000) (hn : a.x.v3 + d < 0) :
    Calls Tryz.prog 60 #[vp q, vr k a.gen, vi d] w fun e w' => e = .returned (vi 5) ∧ Sat w0 (rxB q b rs.length cap times most * (rxL b cap rs * (plB L * (F)))) w' := by
  obtain ⟨gen, th, ⟨v0, v1, a2, n2, c2, v3⟩, fr⟩ := a
  have hi := isR_of ha ht
  (try dsimp only at *)
  have hB : Sat w0 (pc w.heap.size 30 [vi k, vu gen] * (rxB q b rs.length cap times most * (rxL b cap rs * (plB L * (F))))) (w.alloc (.cells #[vi k, vu gen] 30)) := hS.alloc (.cells #[vi k, vu gen] 30)
  have b0 := hB.cell 0 rfl
  have b1 := hB.cell 1 rfl
  have hkl : (k : Int) < (rs.length : Int) := by have := (List.getElem?_eq_some_iff.1 ha).1; omega
  have hk0 : (0 : Int) ≤ (k : Int) := by omega
  have HB := Lib.hid hB
  have HI : Hid (∀ (w1 : World) (G : Hp), Sat w0 (rxB q b rs.length cap times most * (rxL b cap rs * (G))) w1 → Calls Tryz.prog 126 #[vp q, vr k gen] w1 fun e w' => e = .returned (.bool true) ∧ Sat w0 (rxB q b rs.length cap times most * (rxL b cap rs * (G))) w') := Lib.hid (fun w1 G h1 => by
    have := rx_is h1 k gen
    rw [hi] at this
    exact this)
  have HA := Lib.hid ha
  clear hS hB hi ha
  (try dsimp only at hb hn)
  have hwr : IntKind.i64.wrap (v3 + d) = v3 + d := IntWalk.i64_in _ (by omega)
  go_enter Tryz.func60, Tryz.ntmps60
  go_wp2_with (go_at_call 126; refine (HI.out _ _ ((HB.out).cast (show _ = rxB q b rs.length cap times most * (rxL b cap rs * (pc w.heap.size 30 [vi k, vu gen] * (plB L * (F)))) by ac_rfl))).mono ?_; rintro e w1 ⟨rfl, hS1⟩; have H1 := Lib.hid ((hS1).cast (show _ = pc w.heap.size 30 [vi k, vu gen] * (rxB q b rs.length cap times most * (rxL b cap rs * (plB L * (F)))) by ac_rfl)); clear hS1; have i0 := H1.out.cell 0 rfl; have i1 := H1.out.cell 1 rfl; have q0 := H1.out.dropL.cell 0 rfl; have q1 := H1.out.dropL.cell 1 rfl; have q2 := H1.out.dropL.cell 2 rfl; have x0 := rx_at ((H1.out).dropL.dropL) (j := 0) HA.out rfl; have x1 := rx_at ((H1.out).dropL.dropL) (j := 1) HA.out rfl; have x2 := rx_at ((H1.out).dropL.dropL) (j := 2) HA.out rfl; have x3 := rx_at ((H1.out).dropL.dropL) (j := 3) HA.out rfl; have x4 := rx_at ((H1.out).dropL.dropL) (j := 4) HA.out rfl; have x5 := rx_at ((H1.out).dropL.dropL) (j := 5) HA.out rfl; have x6 := rx_at ((H1.out).dropL.dropL) (j := 6) HA.out rfl; rw [Nat.add_zero] at x0; have x5' := x5; rw [show k * 7 + 5 = k * 7 + 2 + 3 by omega] at x5')
  go_quiet (fail)
  go_wp2
  go_ret
  exact ⟨rfl, (H1.out.drewN _).dropL⟩
set_option maxRecDepth 100000 in
set_option maxHeartbeats 4000000 in
theorem rx_bind_yes (hS : Sat w0 (rxB q b rs.length cap times most * (rxL b cap rs * (plB L * (F)))) w) {k : Nat} {a : RPl} (ha : rs[k]? = some a) (ht : a.there = true) (d : Int) (hd : -1 ≤ d ∧ d ≤ 1) (hb : -10 ≤ a.x.v3 ∧ a.x.v3 ≤ 1000000) (hn : 0 ≤ a.x.v3 + d) :
    Calls Tryz.prog 60 #[vp q, vr k a.gen, vi d] w fun e w' => e = .returned (vi 0) ∧ Sat w0 (rxB q b rs.length cap times most * (rxL b cap (rs.set k { a with x := { a.x with v3 := a.x.v3 + d } }) * (plB L * (F)))) w' := by
  obtain ⟨gen, th, ⟨v0, v1, a2, n2, c2, v3⟩, fr⟩ := a
  have hi := isR_of ha ht
  (try dsimp only at *)
  have hB : Sat w0 (pc w.heap.size 30 [vi k, vu gen] * (rxB q b rs.length cap times most * (rxL b cap rs * (plB L * (F))))) (w.alloc (.cells #[vi k, vu gen] 30)) := hS.alloc (.cells #[vi k, vu gen] 30)
  have b0 := hB.cell 0 rfl
  have b1 := hB.cell 1 rfl
  have hkl : (k : Int) < (rs.length : Int) := by have := (List.getElem?_eq_some_iff.1 ha).1; omega
  have hk0 : (0 : Int) ≤ (k : Int) := by omega
  have HB := Lib.hid hB
  have HI : Hid (∀ (w1 : World) (G : Hp), Sat w0 (rxB q b rs.length cap times most * (rxL b cap rs * (G))) w1 → Calls Tryz.prog 126 #[vp q, vr k gen] w1 fun e w' => e = .returned (.bool true) ∧ Sat w0 (rxB q b rs.length cap times most * (rxL b cap rs * (G))) w') := Lib.hid (fun w1 G h1 => by
    have := rx_is h1 k gen
    rw [hi] at this
    exact this)
  have HA := Lib.hid ha
  clear hS hB hi ha
  (try dsimp only at hb hn)
  have hwr : IntKind.i64.wrap (v3 + d) = v3 + d := IntWalk.i64_in _ (by omega)
  have hnn : ¬ v3 + d < 0 := by omega
  go_enter Tryz.func60, Tryz.ntmps60
  go_wp2_with (go_at_call 126; refine (HI.out _ _ ((HB.out).cast (show _ = rxB q b rs.length cap times most * (rxL b cap rs * (pc w.heap.size 30 [vi k, vu gen] * (plB L * (F)))) by ac_rfl))).mono ?_; rintro e w1 ⟨rfl, hS1⟩; have H1 := Lib.hid ((hS1).cast (show _ = pc w.heap.size 30 [vi k, vu gen] * (rxB q b rs.length cap times most * (rxL b cap rs * (plB L * (F)))) by ac_rfl)); clear hS1; have i0 := H1.out.cell 0 rfl; have i1 := H1.out.cell 1 rfl; have q0 := H1.out.dropL.cell 0 rfl; have q1 := H1.out.dropL.cell 1 rfl; have q2 := H1.out.dropL.cell 2 rfl; have x0 := rx_at ((H1.out).dropL.dropL) (j := 0) HA.out rfl; have x1 := rx_at ((H1.out).dropL.dropL) (j := 1) HA.out rfl; have x2 := rx_at ((H1.out).dropL.dropL) (j := 2) HA.out rfl; have x3 := rx_at ((H1.out).dropL.dropL) (j := 3) HA.out rfl; have x4 := rx_at ((H1.out).dropL.dropL) (j := 4) HA.out rfl; have x5 := rx_at ((H1.out).dropL.dropL) (j := 5) HA.out rfl; have x6 := rx_at ((H1.out).dropL.dropL) (j := 6) HA.out rfl; rw [Nat.add_zero] at x0; have x5' := x5; rw [show k * 7 + 5 = k * 7 + 2 + 3 by omega] at x5'; have xf := rx_free H1.out.dropL.dropL (k * 7 + 2 + 3); have HS := Lib.hid (fun N : Nat => rx_store (((H1.out.drewN N)).cast (show _ = rxL b cap rs * (pc w.heap.size 30 [vi k, vu gen] * (rxB q b rs.length cap times most * (plB L * (F)))) by ac_rfl)) HA.out 5 (by omega) (vi (v3 + d)) ⟨gen, th, ⟨v0, v1, a2, n2, c2, v3 + d⟩, fr⟩ rfl))
  go_quiet (fail)
  go_wp2
  refine wp_quiet_tail 21 (by kernel_rfl) (by kernel_rfl) ?_
  simp only [List.take_succ_cons, List.take_zero, List.drop_succ_cons, List.drop_zero]
  repeat (go_big_quiet_step (fail))
  refine wpQuiet_nil ?_
  go_wp2
  go_ret
  have hs := HS.out (nq + 1)
  rw [show k * 7 + 5 = k * 7 + 2 + 3 by omega] at hs
  exact ⟨rfl, ((hs).cast (show _ = pc w.heap.size 30 [vi k, vu gen] * (rxB q b rs.length cap times most * (rxL b cap (rs.set k ⟨gen, th, ⟨v0, v1, a2, n2, c2, v3 + d⟩, fr⟩) * (plB L * (F)))) by ac_rfl)).dropL⟩
end
end Go.Proofs.YtdbppfcilaajaaaGreat.Cn

namespace Go.Proofs.YtdbppfcilaajaaaGreat.Cn
open Go.RowKit Ac Fi
set_option linter.unusedVariables false
set_option linter.unusedSimpArgs false

section
variable {w0 w : World} {F : Hp} {q b cap : Nat} {times most : Int} {rs : List RPl} {L : Blks} {l m : List Rf}
end
end Go.Proofs.YtdbppfcilaajaaaGreat.Cn

namespace Go.Proofs.YtdbppfcilaajaaaGreat.Cn
open Go.RowKit Ac Fi
set_option linter.unusedVariables false
set_option linter.unusedSimpArgs false

section
variable {w0 w : World} {F : Hp} {q b cap : Nat} {times most : Int} {rs : List RPl} {L : Blks} {l m : List Rf}
set_option maxRecDepth 100000 in
set_option maxHeartbeats 4000000 in
theorem rx_put_full (hS : Sat w0 (rxB q b rs.length cap times most * (rxL b cap rs * (F))) w) (x : El) (hl : rs.length ≤ 32) (hf : ∀ (k : Nat) (a : RPl), rs[k]? = some a → a.there = true) :
    Calls Tryz.prog 123 #[vp q, ev x] w fun e w' => e = .returned (.tuple #[vr 0 0, vi 3]) ∧ Sat w0 (rxB q b rs.length cap times most * (rxL b cap rs * (F))) w' := by
  obtain ⟨v0, v1, a2, n2, c2, v3⟩ := x
  have hB0 := (hS.alloc (elO ⟨v0, v1, a2, n2, c2, v3⟩)).alloc (.cells #[vi 0, vu 0] 30)
  rw [size1] at hB0
  have hB : Sat w0 (pc (w.heap.size + 1) 30 [vi 0, vu 0] * (pc w.heap.size 180 (elC ⟨v0, v1, a2, n2, c2, v3⟩) * (rxB q b rs.length cap times most * (rxL b cap rs * (F))))) _ := hB0
  have HB := Lib.hid hB
  have hlen : (rs.length : Int) ≤ 32 := by omega
  clear hS hB hB0
  have HF := Lib.hid hf
  clear hf
  go_enter Tryz.func123, Tryz.ntmps123
  go_wp2
  go_loopw [6, 7] (fun at_ i wr => ∃ (j : Nat), j ≤ rs.length ∧ i = vi j ∧ at_ = vi (-1) ∧ Sat w0 (pc (w.heap.size + 1) 30 [vi 0, vu 0] * (pc w.heap.size 180 (elC ⟨v0, v1, a2, n2, c2, v3⟩) * (rxB q b rs.length cap times most * (rxL b cap rs * (F))))) wr) (fun _ i _ => rs.length - (intOf i).toNat)
  case atStart => exact ⟨0, Nat.zero_le _, rfl, rfl, HB.out⟩
  case round =>
    clear HB
    obtain ⟨j, hj, rfl, rfl, hS⟩ := hrel
    have HS := Lib.hid hS
    have q0 := hS.dropL.dropL.cell 0 rfl
    clear hS
    by_cases hlt : j < rs.length
    · have hji : (j : Int) < (rs.length : Int) := by omega
      obtain ⟨a, ha⟩ : ∃ a, rs[j]? = some a := ⟨rs[j], List.getElem?_eq_getElem hlt⟩
      have c1 := rx_at HS.out.dropL.dropL.dropL (j := 1) ha rfl
      rw [HF.out j a ha] at c1
      clear ha
      go_wp2
      go_quiet (fail)
      go_wp2
      go_roundw
      case rel => exact ⟨j + 1, by omega, by go_num, rfl, HS.out.drewN _⟩
      case measure => (simp [intOf]; try omega)
    · obtain rfl : j = rs.length := by omega
      have z0 := HS.out.cell 0 rfl
      have z1 := HS.out.cell 1 rfl
      have zf := HS.out.free 0
      have zg := HS.out.free 1
      go_wp2
      refine bodyPost_ret (v := .tuple #[vr 0 0, vi 3]) (by rw [results_cell_tmp rfl]; go_simp) rfl ?_
      first | exact ⟨rfl, HS.out.dropL.dropL⟩ | exact ⟨rfl, ((HS.out.store 0 (vi 0)).store 1 (vu 0)).dropL.dropL⟩
set_option maxRecDepth 100000 in
set_option maxHeartbeats 4000000 in
theorem rx_put_ok (hS : Sat w0 (rxB q b rs.length cap times most * (rxL b cap rs * (F))) w) {k : Nat} {a : RPl} (x : El) (hl : rs.length ≤ 32) (hk : rs[k]? = some a) (ht : a.there = false) (hm : ∀ (j : Nat) (d : RPl), rs[j]? = some d → d.there = false → j ≠ k → d.freed < a.freed) :
    Calls Tryz.prog 123 #[vp q, ev x] w fun e w' => e = .returned (.tuple #[vr k a.gen, vi 0]) ∧ Sat w0 (rxB q b rs.length cap times most * (rxL b cap (rs.set k { a with there := true, x := x }) * (F))) w' := by
  obtain ⟨v0, v1, a2, n2, c2, v3⟩ := x
  have hB0 := (hS.alloc (elO ⟨v0, v1, a2, n2, c2, v3⟩)).alloc (.cells #[vi 0, vu 0] 30)
  rw [size1] at hB0
  have hB : Sat w0 (pc (w.heap.size + 1) 30 [vi 0, vu 0] * (pc w.heap.size 180 (elC ⟨v0, v1, a2, n2, c2, v3⟩) * (rxB q b rs.length cap times most * (rxL b cap rs * (F))))) _ := hB0
  have HB := Lib.hid hB
  have hlen : (rs.length : Int) ≤ 32 := by omega
  clear hS hB hB0
  obtain ⟨gen, th, ax, fr⟩ := a
  have ht : th = false := ht
  subst ht
  (try dsimp only at hm)
  have HM := Lib.hid hm
  have HA := Lib.hid hk
  have hkl : k < rs.length := (List.getElem?_eq_some_iff.1 hk).1
  clear hm hk
  go_enter Tryz.func123, Tryz.ntmps123
  go_wp2
  go_loopw [6, 7] (fun at_ i wr => ∃ (j : Nat) (z : Int), j ≤ rs.length ∧ i = vi j ∧ at_ = vi z ∧ Hid ((z = -1 ∨ ∃ (m : Nat) (d : RPl), z = m ∧ m < j ∧ rs[m]? = some d ∧ d.there = false) ∧ (k < j → z = k)) ∧ Sat w0 (pc (w.heap.size + 1) 30 [vi 0, vu 0] * (pc w.heap.size 180 (elC ⟨v0, v1, a2, n2, c2, v3⟩) * (rxB q b rs.length cap times most * (rxL b cap rs * (F))))) wr) (fun _ i _ => rs.length - (intOf i).toNat)
  case atStart => exact ⟨0, -1, Nat.zero_le _, rfl, rfl, Lib.hid ⟨.inl rfl, fun h => by omega⟩, HB.out⟩
  case round =>
    clear HB
    obtain ⟨j, z, hj, rfl, rfl, hz, hS⟩ := hrel
    have HS := Lib.hid hS
    have q0 := hS.dropL.dropL.cell 0 rfl
    clear hS
    by_cases hlt : j < rs.length
    · have hji : (j : Int) < (rs.length : Int) := by omega
      obtain ⟨c, hc⟩ : ∃ c, rs[j]? = some c := ⟨rs[j], List.getElem?_eq_getElem hlt⟩
      have c1 := rx_at HS.out.dropL.dropL.dropL (j := 1) hc rfl
      have c6 := rx_at HS.out.dropL.dropL.dropL (j := 6) hc rfl
      have HC := Lib.hid hc
      clear hc
      cases hth : c.there with
      | true =>
        rw [hth] at c1
        have HNX : Hid ((z = -1 ∨ ∃ (m : Nat) (d : RPl), z = m ∧ m < j + 1 ∧ rs[m]? = some d ∧ d.there = false) ∧ (k < j + 1 → z = k)) := Lib.hid ⟨by
          rcases hz.out.1 with h | ⟨m, d, h1, h2, h3⟩
          · exact .inl h
          · exact .inr ⟨m, d, h1, by omega, h3⟩, fun h => by
          by_cases e : k = j
          · subst e
            have := HC.out
            rw [HA.out] at this
            cases this
            cases hth
          · exact hz.out.2 (by omega)⟩
        clear hth hz
        go_wp2
        go_quiet (fail)
        go_wp2
        go_roundw
        case rel => exact ⟨j + 1, z, by omega, by go_num, rfl, HNX, HS.out.drewN _⟩
        case measure => (simp [intOf]; try omega)
      | false =>
        rw [hth] at c1
        by_cases hz0 : z < 0
        · have HNX : Hid (((j : Int) = -1 ∨ ∃ (m : Nat) (d : RPl), (j : Int) = m ∧ m < j + 1 ∧ rs[m]? = some d ∧ d.there = false) ∧ (k < j + 1 → (j : Int) = k)) := Lib.hid ⟨.inr ⟨j, c, rfl, by omega, HC.out, hth⟩, fun h => by
            by_cases e : k = j
            · omega
            · have := hz.out.2 (by omega)
              omega⟩
          have hd : decide (z < 0) = true := decide_eq_true hz0
          clear hth hz
          go_wp2
          go_quiet (fail)
          go_wp2
          go_roundw
          case rel => exact ⟨j + 1, j, by omega, by go_num, rfl, HNX, HS.out.drewN _⟩
          case measure => (simp [intOf]; try omega)
        · obtain ⟨m, d, rfl, hmj, hd1, hd2⟩ : ∃ (m : Nat) (d : RPl), z = m ∧ m < j ∧ rs[m]? = some d ∧ d.there = false := by
            rcases hz.out.1 with h | h
            · omega
            · exact h
          have hmi : (m : Int) < (rs.length : Int) := by omega
          have hm0 : (0 : Int) ≤ (m : Int) := by omega
          have d6 := rx_at HS.out.dropL.dropL.dropL (j := 6) hd1 rfl
          have hdz : decide ((m : Int) < 0) = false := decide_eq_false hz0
          by_cases hfr : d.freed < c.freed
          · have HNX : Hid (((j : Int) = -1 ∨ ∃ (m : Nat) (d : RPl), (j : Int) = m ∧ m < j + 1 ∧ rs[m]? = some d ∧ d.there = false) ∧ (k < j + 1 → (j : Int) = k)) := Lib.hid ⟨.inr ⟨j, c, rfl, by omega, HC.out, hth⟩, fun h => by
              by_cases e : k = j
              · omega
              · have h1 := hz.out.2 (by omega)
                have h2 : m = k := by omega
                subst h2
                rw [HA.out] at hd1
                cases hd1
                have := HM.out j c HC.out hth (by omega)
                dsimp only at hfr
                omega⟩
            have hdf : decide (d.freed < c.freed) = true := decide_eq_true hfr
            clear hth hz hd1 hd2
            generalize d.freed = df at *
            generalize c.freed = cf at *
            go_wp2
            go_quiet (fail)
            go_wp2
            go_roundw
            case rel => exact ⟨j + 1, j, by omega, by go_num, rfl, HNX, HS.out.drewN _⟩
            case measure => (simp [intOf]; try omega)
          · have HNX : Hid (((m : Int) = -1 ∨ ∃ (m' : Nat) (d : RPl), (m : Int) = m' ∧ m' < j + 1 ∧ rs[m']? = some d ∧ d.there = false) ∧ (k < j + 1 → (m : Int) = k)) := Lib.hid ⟨.inr ⟨m, d, rfl, by omega, hd1, hd2⟩, fun h => by
              by_cases e : k = j
              · subst e
                have h3 := HC.out
                rw [HA.out] at h3
                cases h3
                have := HM.out m d hd1 hd2 (by omega)
                dsimp only at hfr
                omega
              · exact hz.out.2 (by omega)⟩
            have hdf : decide (d.freed < c.freed) = false := decide_eq_false hfr
            clear hth hz hd1 hd2
            generalize d.freed = df at *
            generalize c.freed = cf at *
            go_wp2
            go_quiet (fail)
            go_wp2
            go_roundw
            case rel => exact ⟨j + 1, m, by omega, by go_num, rfl, HNX, HS.out.drewN _⟩
            case measure => (simp [intOf]; try omega)
    · obtain rfl : j = rs.length := by omega
      have hzk : z = k := hz.out.2 hkl
      subst hzk
      clear hz
      have hki : (k : Int) < (rs.length : Int) := by omega
      have hk0 : (0 : Int) ≤ (k : Int) := by omega
      have c1 := rx_at HS.out.dropL.dropL.dropL (j := 1) HA.out rfl
      have cf := rx_free HS.out.dropL.dropL.dropL (k * 7 + 1)
      have hs1 : Sat w0 (rxL b cap (rs.set k ⟨gen, true, ax, fr⟩) * (pc (w.heap.size + 1) 30 [vi 0, vu 0] * (pc w.heap.size 180 (elC ⟨v0, v1, a2, n2, c2, v3⟩) * (rxB q b rs.length cap times most * (F))))) (wr.setCell ⟨b, k * 7 + 1, none⟩ (.bool true)) := rx_store ((HS.out).cast (show _ = rxL b cap rs * (pc (w.heap.size + 1) 30 [vi 0, vu 0] * (pc w.heap.size 180 (elC ⟨v0, v1, a2, n2, c2, v3⟩) * (rxB q b rs.length cap times most * (F)))) by ac_rfl)) HA.out 1 (by omega) (.bool true) ⟨gen, true, ax, fr⟩ rfl
      have hs2 : Sat w0 (rxL b cap (rs.set k ⟨gen, true, ⟨v0, v1, a2, n2, c2, v3⟩, fr⟩) * (pc (w.heap.size + 1) 30 [vi 0, vu 0] * (pc w.heap.size 180 (elC ⟨v0, v1, a2, n2, c2, v3⟩) * (rxB q b rs.length cap times most * (F))))) _ := (rx_storeX hs1.drew (rx_get HA.out) ⟨v0, v1, a2, n2, c2, v3⟩).cast (by rw [List.set_set])
      have H1 := Lib.hid hs1
      have hs2' : Sat w0 (rxL b cap (rs.set k ⟨gen, true, ⟨v0, v1, a2, n2, c2, v3⟩, fr⟩) * (pc (w.heap.size + 1) 30 [vi 0, vu 0] * (pc w.heap.size 180 (elC ⟨v0, v1, a2, n2, c2, v3⟩) * (rxB q b rs.length cap times most * (F))))) ((wr.setCell ⟨b, k * 7 + 1, none⟩ (.bool true)).drew.setCells b (k * 7 + 2) (elC ⟨v0, v1, a2, n2, c2, v3⟩).toArray.toList) := hs2
      have H2 := Lib.hid hs2'
      clear hs1 hs2 hs2'
      go_wp2
      clear c1 cf q0 HM
      generalize World.setCell wr _ _ = w5 at *
      have q0 := H1.out.dropL.dropL.dropL.cell 0 rfl
      have e0 := H1.out.dropL.dropL.cell 0 rfl
      have e1 := H1.out.dropL.dropL.cell 1 rfl
      have e2 := H1.out.dropL.dropL.cell 2 rfl
      have e3 := H1.out.dropL.dropL.cell 3 rfl
      have HTH : Hid (w5.drew.there b (k * 7 + 2) 4) := Lib.hid (fun j hj => by
        have hj' : j < (elC ax).length := hj
        have h3 := rx_at H1.out.drew (rx_get HA.out) (j := 2 + j) (v := (elC ax)[j]) (by
          rcases j with _ | _ | _ | _ | j
          all_goals first | rfl | (exfalso; simp at hj'; omega))
        rw [← Nat.add_assoc] at h3
        rw [h3]
        exact ⟨rfl, rx_free H1.out.drew _⟩)
      refine wp_quiet_tail 8 (by kernel_rfl) (by kernel_rfl) ?_
      simp only [List.take_succ_cons, List.take_zero, List.drop_succ_cons, List.drop_zero]
      repeat (go_big_quiet_step (fail))
      refine wpQuiet_nil ?_
      go_wp2_with (refine wpList_store_mid rfl 180 _ _ rfl b (k * 7 + 2) (elC ⟨v0, v1, a2, n2, c2, v3⟩).toArray (by rfl) (by rfl) HTH.out einfo (all_oneCell_toArray (elOne ⟨v0, v1, a2, n2, c2, v3⟩)) ?_; generalize hw6 : World.setCells _ _ _ _ = w6; have H3 : Hid (Sat w0 (rxL b cap (rs.set k ⟨gen, true, ⟨v0, v1, a2, n2, c2, v3⟩, fr⟩) * (pc (w.heap.size + 1) 30 [vi 0, vu 0] * (pc w.heap.size 180 (elC ⟨v0, v1, a2, n2, c2, v3⟩) * (rxB q b rs.length cap times most * (F))))) w6) := hw6 ▸ H2; clear hw6; have y0 := rx_at H3.out (rx_get HA.out) (j := 0) rfl; rw [Nat.add_zero] at y0; have y1 := H3.out.dropL.dropL.dropL.cell 0 rfl; have y2 := H3.out.dropL.cell 0 rfl; have y3 := H3.out.dropL.cell 1 rfl; have yf := H3.out.dropL.free 0; have yg := H3.out.dropL.free 1)
      refine bodyPost_ret (v := .tuple #[vr k gen, vi 0]) (by rw [results_cell_tmp rfl]; go_simp) rfl ?_
      have h7 : Sat w0 (pc (w.heap.size + 1) 30 [vi k, vu gen] * (rxL b cap (rs.set k ⟨gen, true, ⟨v0, v1, a2, n2, c2, v3⟩, fr⟩) * (pc w.heap.size 180 (elC ⟨v0, v1, a2, n2, c2, v3⟩) * (rxB q b rs.length cap times most * (F))))) _ := (((H3.out).cast (show _ = pc (w.heap.size + 1) 30 [vi 0, vu 0] * (rxL b cap (rs.set k ⟨gen, true, ⟨v0, v1, a2, n2, c2, v3⟩, fr⟩) * (pc w.heap.size 180 (elC ⟨v0, v1, a2, n2, c2, v3⟩) * (rxB q b rs.length cap times most * (F)))) by ac_rfl)).store 0 (vi k)).store 1 (vu gen)
      exact ⟨rfl, ((h7).cast (show _ = pc (w.heap.size + 1) 30 [vi k, vu gen] * (pc w.heap.size 180 (elC ⟨v0, v1, a2, n2, c2, v3⟩) * (rxB q b rs.length cap times most * (rxL b cap (rs.set k ⟨gen, true, ⟨v0, v1, a2, n2, c2, v3⟩, fr⟩) * (F)))) by ac_rfl)).dropL.dropL⟩
end
end Go.Proofs.YtdbppfcilaajaaaGreat.Cn
