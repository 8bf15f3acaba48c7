/-
  The reference of layer 8: what it has. No statement is proved here.
-/
import Derived.Test.YtknodagcmachiaaMg14
import Derived.Test.YtknodagcmachiaaMg9
namespace Go.Proofs.Ytknodagcmachiaa.Cn
open Go.RowKit Ac Fi
set_option linter.unusedVariables false

structure RPl where
  gen : Int
  there : Bool
  x : El
  freed : Int
def RPl.cells (r : RPl) : List Value := [vu r.gen, .bool r.there, vu r.x.v0, vu r.x.v1, .slice r.x.a2 r.x.n2 r.x.c2, vi r.x.v3, vi r.freed]
theorem RPl.len (r : RPl) : r.cells.length = 7 := rfl
theorem RPl.one (r : RPl) : ∀ u ∈ r.cells, u.oneCell' = true := by
  intro u hu
  simp [RPl.cells] at hu
  rcases hu with rfl | rfl | rfl | rfl | rfl | rfl | rfl <;> rfl
abbrev rflatP (rs : List RPl) : List Value := rs.flatMap RPl.cells
abbrev rxB (q b n cap : Nat) (times most : Int) : Hp := pc q 56 [.slice (some ⟨b, 0, none⟩) n cap, vi times, vi most]
abbrev rxL (b cap : Nat) (rs : List RPl) : Hp := sl 58 7 (.slice (some ⟨b, 0, none⟩) rs.length cap) rs.length (rflatP rs)
structure RM (L : Blks) (rs : List RPl) (cs : List CP) : Prop where
  len : rs.length = cs.length
  at_ : ∀ (k : Nat) (a : RPl) (c : CP), rs[k]? = some a → cs[k]? = some c → a.gen = c.gen ∧ a.there = c.there ∧ EM L a.x c.cx ∧ a.freed = c.freed
theorem RM.mono {L L' : Blks} {rs : List RPl} {cs : List CP} (h : RM L rs cs) (hs : ∀ y ∈ L, y ∈ L') : RM L' rs cs :=
  ⟨h.len, fun k a c ha hc => by obtain ⟨h1, h2, h3, h4⟩ := h.at_ k a c ha hc; exact ⟨h1, h2, h3.mono hs, h4⟩⟩
theorem RM.set {L : Blks} {rs : List RPl} {cs : List CP} (h : RM L rs cs) (k : Nat) {a : RPl} {c : CP} (h1 : a.gen = c.gen) (h2 : a.there = c.there) (h3 : EM L a.x c.cx) (h4 : a.freed = c.freed) : RM L (rs.set k a) (cs.set k c) := by
  refine ⟨by rw [List.length_set, List.length_set]; exact h.len, fun j b d hb hd => ?_⟩
  rw [List.getElem?_set] at hb hd
  by_cases hj : k = j
  · subst hj
    rw [if_pos rfl] at hb hd
    split at hb
    · split at hd
      · cases hb
        cases hd
        exact ⟨h1, h2, h3, h4⟩
      · cases hd
    · cases hb
  · rw [if_neg hj] at hb hd
    exact h.at_ j b d hb hd
/-- The place that a ref names. -/
def isR (rs : List RPl) (i g : Int) : Option (Nat × RPl) :=
  if i < 0 then none else match rs[i.toNat]? with
    | none => none
    | some a => if a.there && a.gen == g then some (i.toNat, a) else none
theorem isR_some {rs : List RPl} {i g : Int} {k : Nat} {a : RPl} (h : isR rs i g = some (k, a)) : rs[k]? = some a ∧ i = k ∧ a.there = true ∧ a.gen = g := by
  unfold isR at h
  split at h
  · cases h
  · split at h
    · cases h
    · rename_i hi c' hc
      split at h
      · rename_i ht
        cases h
        simp only [Bool.and_eq_true, beq_iff_eq] at ht
        exact ⟨hc, by omega, ht.1, ht.2⟩
      · cases h
theorem isR_of {rs : List RPl} {k : Nat} {a : RPl} (h : rs[k]? = some a) (ht : a.there = true) : isR rs k a.gen = some (k, a) := by
  unfold isR
  rw [if_neg (by omega), Int.toNat_natCast, h]
  simp [ht]
theorem RM.yes {L : Blks} {rs : List RPl} {cs : List CP} (h : RM L rs cs) {i g : Int} (he : eC cs i g = 0) : ∃ k a c, isC cs i g = some (k, c) ∧ isR rs i g = some (k, a) ∧ rs[k]? = some a ∧ cs[k]? = some c ∧ i = k ∧ a.there = true ∧ a.gen = g ∧ c.gen = g ∧ c.there = true ∧ gC cs i g = c.cx ∧ EM L a.x (gC cs i g) ∧ a.freed = c.freed := by
  obtain ⟨k, c, hc⟩ := eC_yes he
  obtain ⟨h1, rfl, ht, hg⟩ := isC_some hc
  have hk : k < rs.length := by rw [h.len]; exact (List.getElem?_eq_some_iff.1 h1).1
  obtain ⟨a, ha⟩ : ∃ a, rs[k]? = some a := ⟨rs[k], List.getElem?_eq_getElem hk⟩
  obtain ⟨e1, e2, e3, e4⟩ := h.at_ k a c ha h1
  have := isR_of ha (e2.trans ht)
  rw [e1, hg] at this
  exact ⟨k, a, c, hc, this, ha, h1, rfl, e2.trans ht, e1.trans hg, hg, ht, (isC_gC hc).1, by rw [(isC_gC hc).1]; exact e3, e4⟩
theorem RM.no {L : Blks} {rs : List RPl} {cs : List CP} (h : RM L rs cs) {i g : Int} (he : eC cs i g = 11) : isR rs i g = none := by
  have hn := eC_no (cs := cs) (i := i) (g := g) (by omega)
  cases hA : isR rs i g with
  | none => rfl
  | some x =>
    obtain ⟨k, a⟩ := x
    obtain ⟨ha, rfl, ht, hg⟩ := isR_some hA
    have hk : k < cs.length := by rw [← h.len]; exact (List.getElem?_eq_some_iff.1 ha).1
    obtain ⟨c, hc⟩ : ∃ c, cs[k]? = some c := ⟨cs[k], List.getElem?_eq_getElem hk⟩
    obtain ⟨h1, h2, _⟩ := h.at_ k a c ha hc
    have := isC_of hc (h2 ▸ ht)
    rw [← h1, hg] at this
    rw [this] at hn
    cases hn
section
variable {w0 w : World} {F : Hp} {q b n cap : Nat} {times most : Int} {rs : List RPl} {k : Nat} {a : RPl}
theorem rx_at (h : Sat w0 (rxL b cap rs * F) w) {j : Nat} {v : Value} (hk : rs[k]? = some a) (hv : a.cells[j]? = some v) : w.cell? ⟨b, k * 7 + j, none⟩ = some v := h.slCell _ (flat_get RPl.len hk hv)
theorem rx_store (h : Sat w0 (rxL b cap rs * F) w) (hk : rs[k]? = some a) (j : Nat) (hj : j < 7) (v : Value) (a' : RPl) (ha' : a'.cells = a.cells.set j v) : Sat w0 (rxL b cap (rs.set k a') * F) (w.setCell ⟨b, k * 7 + j, none⟩ v) := by
  have hlt : k < rs.length := (List.getElem?_eq_some_iff.1 hk).1
  have h1 := h.slStore (k * 7 + j) (by omega) v
  rw [flat_set RPl.len rs k j a a' v hk hj ha'] at h1
  unfold rxL
  rw [List.length_set]
  exact h1
theorem rx_get {a' : RPl} (hk : rs[k]? = some a) : (rs.set k a')[k]? = some a' := by rw [List.getElem?_set_self (List.getElem?_eq_some_iff.1 hk).1]
/-- A whole element laid into a place. -/
theorem rx_storeX (h : Sat w0 (rxL b cap rs * F) w) (hk : rs[k]? = some a) (x : El) :
    Sat w0 (rxL b cap (rs.set k { a with x := x }) * F) ((((w.setCell ⟨b, k * 7 + 2, none⟩ (.int .u64 x.v0)).setCell ⟨b, k * 7 + 2 + 1, none⟩ (.int .u64 x.v1)).setCell ⟨b, k * 7 + 2 + 2, none⟩ (.slice x.a2 x.n2 x.c2)).setCell ⟨b, k * 7 + 2 + 3, none⟩ (.int .i64 x.v3)) := by
  have h0 := rx_store h hk 2 (by omega) (.int .u64 x.v0) { a with x := { a.x with v0 := x.v0 } } rfl
  have h1 := rx_store h0 (rx_get hk) 3 (by omega) (.int .u64 x.v1) { a with x := { a.x with v0 := x.v0, v1 := x.v1 } } rfl
  have h2 := rx_store h1 (rx_get (rx_get hk)) 4 (by omega) (.slice x.a2 x.n2 x.c2) { a with x := { a.x with v0 := x.v0, v1 := x.v1, a2 := x.a2, n2 := x.n2, c2 := x.c2 } } rfl
  have h3 := rx_store h2 (rx_get (rx_get (rx_get hk))) 5 (by omega) (.int .i64 x.v3) { a with x := x } rfl
  rw [List.set_set, List.set_set, List.set_set] at h3
  exact h3
theorem rx_storeP (h : Sat w0 (rxL b cap rs * F) w) (hk : rs[k]? = some a) (a' : RPl) :
    Sat w0 (rxL b cap (rs.set k a') * F) (w.setCells b (k * 7) a'.cells) := by
  have h0 := rx_store h hk 0 (by omega) (vu a'.gen) { a with gen := a'.gen } rfl
  have h1 := rx_store h0 (rx_get hk) 1 (by omega) (.bool a'.there) { a with gen := a'.gen, there := a'.there } rfl
  have h2 := rx_storeX h1 (rx_get (rx_get hk)) a'.x
  have h3 := rx_store h2 (rx_get (rx_get (rx_get hk))) 6 (by omega) (vi a'.freed) a' rfl
  rw [List.set_set, List.set_set, List.set_set] at h3
  exact h3
theorem rx_free (h : Sat w0 (rxL b cap rs * F) w) (j : Nat) : w.frozen? ⟨b, j, none⟩ = false := h.slFree j
end
section
variable {w0 w : World} {F : Hp} {q b cap : Nat} {times most : Int} {rs : List RPl}
set_option maxRecDepth 100000 in
set_option maxHeartbeats 2000000 in
theorem rx_is (hS : Sat w0 (rxB q b rs.length cap times most * (rxL b cap rs * F)) w) (i g : Int) :
    Calls Try.prog 86 #[vp q, vr i g] w fun e w' => e = .returned (.bool (isR rs i g).isSome) ∧ Sat w0 (rxB q b rs.length cap times most * (rxL b cap rs * F)) w' := by
  have hB0 : Sat w0 (pc w.heap.size 30 [vi i, vu g] * (rxB q b rs.length cap times most * (rxL b cap rs * F))) (w.alloc (.cells #[vi i, vu g] 30)) := hS.alloc (.cells #[vi i, vu g] 30)
  have b0 := hB0.cell 0 rfl
  have b1 := hB0.cell 1 rfl
  have q0 := hB0.pull2.cell 0 rfl
  have HB := Lib.hid hB0
  clear hS
  by_cases h1 : i < 0
  · have hR : isR rs i g = none := by rw [isR, if_pos h1]
    have h1' : ¬ 0 ≤ i := by omega
    have hd : decide (0 ≤ i) = false := decide_eq_false h1'
    rw [hR]
    clear hB0 hR h1 h1'
    go_enter Try.func86, Try.ntmps86
    go_wp2
    go_quiet (fail)
    go_wp2
    go_ret
    exact ⟨rfl, (HB.out.drewN _).dropL⟩
  · obtain ⟨k, rfl⟩ := Int.eq_ofNat_of_zero_le (show 0 ≤ i by omega)
    have hd0 : decide ((0 : Int) ≤ (k : Int)) = true := decide_eq_true (by omega)
    by_cases h2 : rs.length ≤ k
    · have hR : isR rs k g = none := by rw [isR, if_neg (by omega), Int.toNat_natCast, List.getElem?_eq_none h2]
      have hd : decide (k < rs.length) = false := decide_eq_false (by omega)
      have hdi : decide ((k : Int) < (rs.length : Int)) = false := decide_eq_false (by omega)
      rw [hR]
      clear hB0 hR h1 h2
      go_enter Try.func86, Try.ntmps86
      go_wp2
      go_quiet (fail)
      go_wp2
      go_ret
      exact ⟨rfl, (HB.out.drewN _).dropL⟩
    · obtain ⟨a, ha⟩ : ∃ a, rs[k]? = some a := ⟨rs[k], List.getElem?_eq_getElem (by omega)⟩
      have c1 := rx_at hB0.dropL.dropL (j := 1) ha rfl
      have c0 := rx_at hB0.dropL.dropL (j := 0) ha rfl
      rw [Nat.add_zero] at c0
      have hd : decide (k < rs.length) = true := decide_eq_true (by omega)
      have hdi : decide ((k : Int) < (rs.length : Int)) = true := decide_eq_true (by omega)
      have hki : (k : Int) < (rs.length : Int) := by omega
      have hR : isR rs k g = if a.there && a.gen == g then some (k, a) else none := by rw [isR, if_neg (by omega), Int.toNat_natCast, ha]
      obtain ⟨gen, th, x, fr⟩ := a
      rw [hR]
      dsimp only at c0 c1 ⊢
      clear hB0 hR h1 h2 ha
      cases th with
      | false =>
        have HF : Hid ((if (false && gen == g) = true then some (k, (⟨gen, false, x, fr⟩ : RPl)) else none).isSome = false) := Lib.hid (by simp)
        rw [HF.out]
        clear HF
        go_enter Try.func86, Try.ntmps86
        go_wp2
        go_quiet (fail)
        go_wp2
        go_ret
        exact ⟨rfl, (HB.out.drewN _).dropL⟩
      | true =>
        have HF : Hid ((if (true && gen == g) = true then some (k, (⟨gen, true, x, fr⟩ : RPl)) else none).isSome = (gen == g)) := Lib.hid (by by_cases hg : gen = g <;> simp [hg])
        rw [HF.out]
        clear HF
        generalize hgg : (gen == g) = gg at *
        go_enter Try.func86, Try.ntmps86
        go_wp2
        go_quiet (fail)
        go_wp2
        go_ret
        exact ⟨rfl, (HB.out.drewN _).dropL⟩
end
end Go.Proofs.Ytknodagcmachiaa.Cn

namespace Go.Proofs.Ytknodagcmachiaa.Cn
open Go.RowKit Ac Fi
set_option linter.unusedVariables false
set_option linter.unusedSimpArgs false

section
variable {w0 w : World} {F : Hp} {q b cap : Nat} {times most : Int} {rs : List RPl} {L : Blks} {l m : List Rf}
theorem rx_may (n most : Int) (w : World) : Calls Try.prog 16 #[vi n, vi most] w fun e w' => e = .returned (.bool (decide (1 ≤ n ∧ n ≤ 32 ∧ 2 ≤ most ∧ most ≤ 16))) ∧ w = w' := by
  by_cases h0 : 1 ≤ n
  · by_cases h1 : n ≤ 32
    · by_cases h2 : 2 ≤ most
      · by_cases h3 : most ≤ 16
        · rw [decide_eq_true (show 1 ≤ n ∧ n ≤ 32 ∧ 2 ≤ most ∧ most ≤ 16 from ⟨by omega, by omega, by omega, by omega⟩)]
          go_enter Try.func16, Try.ntmps16
          go_wp2
          go_ret
          exact ⟨rfl, rfl⟩
        · rw [decide_eq_false (show ¬ (1 ≤ n ∧ n ≤ 32 ∧ 2 ≤ most ∧ most ≤ 16) from fun h => h3 (by omega))]
          go_enter Try.func16, Try.ntmps16
          go_wp2
          go_ret
          exact ⟨rfl, rfl⟩
      · rw [decide_eq_false (show ¬ (1 ≤ n ∧ n ≤ 32 ∧ 2 ≤ most ∧ most ≤ 16) from fun h => h2 (by omega))]
        go_enter Try.func16, Try.ntmps16
        go_wp2
        go_ret
        exact ⟨rfl, rfl⟩
    · rw [decide_eq_false (show ¬ (1 ≤ n ∧ n ≤ 32 ∧ 2 ≤ most ∧ most ≤ 16) from fun h => h1 (by omega))]
      go_enter Try.func16, Try.ntmps16
      go_wp2
      go_ret
      exact ⟨rfl, rfl⟩
  · rw [decide_eq_false (show ¬ (1 ≤ n ∧ n ≤ 32 ∧ 2 ≤ most ∧ most ≤ 16) from fun h => h0 (by omega))]
    go_enter Try.func16, Try.ntmps16
    go_wp2
    go_ret
    exact ⟨rfl, rfl⟩
set_option maxRecDepth 100000 in
set_option maxHeartbeats 4000000 in
theorem rx_get_no (hS : Sat w0 (rxB q b rs.length cap times most * (rxL b cap rs * (plB L * (F)))) w) (i g : Int) (hi : isR rs i g = none) :
    Calls Try.prog 58 #[vp q, vr i g] w fun e w' => e = .returned (.tuple #[ev ez, vi 11]) ∧ Sat w0 (rxB q b rs.length cap times most * (rxL b cap rs * (plB L * (F)))) w' := by
  have hB0 := (hS.alloc (.cells #[vi i, vu g] 30)).alloc (elO ez)
  rw [size1] at hB0
  have hB : Sat w0 (pc (w.heap.size + 1) 49 (elC ez) * (pc w.heap.size 30 [vi i, vu g] * (rxB q b rs.length cap times most * (rxL b cap rs * (plB L * (F)))))) _ := hB0
  have b0 := hB.dropL.cell 0 rfl
  have b1 := hB.dropL.cell 1 rfl
  have HI := Lib.hid (rx_is ((hB).cast (show _ = rxB q b rs.length cap times most * (rxL b cap rs * (pc (w.heap.size + 1) 49 (elC ez) * (pc w.heap.size 30 [vi i, vu g] * (plB L * (F))))) by ac_rfl)) i g)
  rw [hi, show (none : Option (Nat × RPl)).isSome = false from rfl] at HI
  clear hS hB hB0 hi
  go_enter Try.func58, Try.ntmps58
  go_wp2_with (first
    | (go_at_call 86; refine HI.out.mono ?_; rintro e w1 ⟨rfl, hS1⟩; have H1 := Lib.hid ((hS1).cast (show _ = pc (w.heap.size + 1) 49 (elC ez) * (pc w.heap.size 30 [vi i, vu g] * (rxB q b rs.length cap times most * (rxL b cap rs * (plB L * (F))))) by ac_rfl)); clear hS1)
    | (refine wpList_store_mid rfl 49 _ _ rfl (w.heap.size + 1) 0 (elC ez).toArray (by rfl) (by rfl) (Sat.thereN (n := 4) H1.out rfl) einfo (all_oneCell_toArray (elOne _)) ?_; have hs := Sat.rowAll H1.out (elC ez) rfl; have HS := Lib.hid hs; clear hs; generalize World.setCells _ _ _ _ = w2 at *))
  refine bodyPost_ret (v := .tuple #[ev ez, vi 11]) (results_row rfl _ _ _ rfl rfl HS.out.rangeN Try.underlying49 rfl einfo) rfl ?_
  exact ⟨rfl, HS.out.dropL.dropL⟩
set_option maxRecDepth 100000 in
set_option maxHeartbeats 4000000 in
theorem rx_get_yes (hS : Sat w0 (rxB q b rs.length cap times most * (rxL b cap rs * (plB L * (F)))) w) {k : Nat} {a : RPl} (ha : rs[k]? = some a) (ht : a.there = true) :
    Calls Try.prog 58 #[vp q, vr k a.gen] w fun e w' => e = .returned (.tuple #[ev a.x, vi 0]) ∧ Sat w0 (rxB q b rs.length cap times most * (rxL b cap rs * (plB L * (F)))) w' := by
  obtain ⟨gen, th, ⟨v0, v1, a2, n2, c2, v3⟩, fr⟩ := a
  have hi := isR_of ha ht
  (try dsimp only at *)
  have hB0 := (hS.alloc (.cells #[vi k, vu gen] 30)).alloc (elO ez)
  rw [size1] at hB0
  have hB : Sat w0 (pc (w.heap.size + 1) 49 (elC ez) * (pc w.heap.size 30 [vi k, vu gen] * (rxB q b rs.length cap times most * (rxL b cap rs * (plB L * (F)))))) _ := hB0
  have b0 := hB.dropL.cell 0 rfl
  have b1 := hB.dropL.cell 1 rfl
  have hkl : (k : Int) < (rs.length : Int) := by have := (List.getElem?_eq_some_iff.1 ha).1; omega
  have hk0 : (0 : Int) ≤ (k : Int) := by omega
  have HI : Hid (∀ (w1 : World) (G : Hp), Sat w0 (rxB q b rs.length cap times most * (rxL b cap rs * (G))) w1 → Calls Try.prog 86 #[vp q, vr k gen] w1 fun e w' => e = .returned (.bool true) ∧ Sat w0 (rxB q b rs.length cap times most * (rxL b cap rs * (G))) w') := Lib.hid (fun w1 G h1 => by
    have := rx_is h1 k gen
    rw [hi] at this
    exact this)
  have HA := Lib.hid ha
  have HB := Lib.hid ((hB).cast (show _ = rxB q b rs.length cap times most * (rxL b cap rs * (pc (w.heap.size + 1) 49 (elC ez) * (pc w.heap.size 30 [vi k, vu gen] * (plB L * (F))))) by ac_rfl))
  clear hS hB hB0 hi ha
  go_enter Try.func58, Try.ntmps58
  go_wp2_with (go_at_call 86; refine (HI.out _ _ HB.out).mono ?_; rintro e w1 ⟨rfl, hS1⟩; have H1 := Lib.hid ((hS1).cast (show _ = pc (w.heap.size + 1) 49 (elC ez) * (pc w.heap.size 30 [vi k, vu gen] * (rxB q b rs.length cap times most * (rxL b cap rs * (plB L * (F))))) by ac_rfl)); clear hS1)
  have ka0 := (H1.out).dropL.dropL.cell 0 rfl; have ka1 := (H1.out).dropL.cell 0 rfl; have ka2 := rx_at ((H1.out).dropL.dropL.dropL) (j := 2) HA.out rfl; have ka3 := rx_at ((H1.out).dropL.dropL.dropL) (j := 3) HA.out rfl; have ka4 := rx_at ((H1.out).dropL.dropL.dropL) (j := 4) HA.out rfl; have ka5 := rx_at ((H1.out).dropL.dropL.dropL) (j := 5) HA.out rfl; rw [show k * 7 + 3 = k * 7 + 2 + 1 by omega] at ka3; rw [show k * 7 + 4 = k * 7 + 2 + 2 by omega] at ka4; rw [show k * 7 + 5 = k * 7 + 2 + 3 by omega] at ka5
  have z0 := H1.out.cell 0 rfl
  have z1 := H1.out.cell 1 rfl
  have z2 := H1.out.cell 2 rfl
  have z3 := H1.out.cell 3 rfl
  have zf := fun j => H1.out.free j
  have hs : Sat w0 (pc (w.heap.size + 1) 49 (elC ⟨v0, v1, a2, n2, c2, v3⟩) * (pc w.heap.size 30 [vi k, vu gen] * (rxB q b rs.length cap times most * (rxL b cap rs * (plB L * (F)))))) _ := ((((H1.out.drew).store 0 (vu v0)).store 1 (vu v1)).store 2 (.slice a2 n2 c2)).store 3 (vi v3)
  have HS := Lib.hid hs
  clear hs
  have kb0 := (HS.out).dropL.dropL.cell 0 rfl; have kb1 := (HS.out).dropL.cell 0 rfl; have kb2 := rx_at ((HS.out).dropL.dropL.dropL) (j := 2) HA.out rfl; have kb3 := rx_at ((HS.out).dropL.dropL.dropL) (j := 3) HA.out rfl; have kb4 := rx_at ((HS.out).dropL.dropL.dropL) (j := 4) HA.out rfl; have kb5 := rx_at ((HS.out).dropL.dropL.dropL) (j := 5) HA.out rfl; rw [show k * 7 + 3 = k * 7 + 2 + 1 by omega] at kb3; rw [show k * 7 + 4 = k * 7 + 2 + 2 by omega] at kb4; rw [show k * 7 + 5 = k * 7 + 2 + 3 by omega] at kb5
  go_region_held3 (fun w' : World => w'.cell? ⟨q, 0, none⟩ = some (.slice (some ⟨b, 0, none⟩) rs.length cap) ∧ w'.cell? ⟨w.heap.size, 0, none⟩ = some (vi k) ∧ w'.cell? ⟨b, k * 7 + 2, none⟩ = some (vu v0) ∧ w'.cell? ⟨b, k * 7 + 2 + 1, none⟩ = some (vu v1) ∧ w'.cell? ⟨b, k * 7 + 2 + 2, none⟩ = some (.slice a2 n2 c2) ∧ w'.cell? ⟨b, k * 7 + 2 + 3, none⟩ = some (vi v3))
    (first | exact ⟨ka0, ka1, ka2, ka3, ka4, ka5⟩ | exact ⟨kb0, kb1, kb2, kb3, kb4, kb5⟩ | go_keep)
    (fail)
  go_wp2
  refine bodyPost_ret (v := .tuple #[ev ⟨v0, v1, a2, n2, c2, v3⟩, vi 0]) (results_row rfl _ _ _ rfl rfl HS.out.rangeN Try.underlying49 rfl einfo) rfl ?_
  exact ⟨rfl, HS.out.dropL.dropL⟩
set_option maxRecDepth 100000 in
set_option maxHeartbeats 4000000 in
theorem rx_can_yes (hS : Sat w0 (rxB q b rs.length cap times most * (rxL b cap rs * (plB L * (F)))) w) {k : Nat} {a : RPl} (ha : rs[k]? = some a) (ht : a.there = true) (hi8 : InP L (.slice a.x.a2 a.x.n2 a.x.c2) l) (hl : l.length ≤ 1000) (now : Int) :
    Calls Try.prog 46 #[vp q, vr k a.gen, vu now] w fun e w' => e = .returned (.bool (decide (0 < thereV l now))) ∧ Sat w0 (rxB q b rs.length cap times most * (rxL b cap rs * (plB L * (F)))) w' := by
  obtain ⟨gen, th, ⟨v0, v1, a2, n2, c2, v3⟩, fr⟩ := a
  have hi := isR_of ha ht
  (try dsimp only at *)
  have hB : Sat w0 (pc w.heap.size 30 [vi k, vu gen] * (rxB q b rs.length cap times most * (rxL b cap rs * (plB L * (F))))) (w.alloc (.cells #[vi k, vu gen] 30)) := hS.alloc (.cells #[vi k, vu gen] 30)
  have b0 := hB.cell 0 rfl
  have b1 := hB.cell 1 rfl
  have hkl : (k : Int) < (rs.length : Int) := by have := (List.getElem?_eq_some_iff.1 ha).1; omega
  have hk0 : (0 : Int) ≤ (k : Int) := by omega
  have HB := Lib.hid hB
  have HI : Hid (∀ (w1 : World) (G : Hp), Sat w0 (rxB q b rs.length cap times most * (rxL b cap rs * (G))) w1 → Calls Try.prog 86 #[vp q, vr k gen] w1 fun e w' => e = .returned (.bool true) ∧ Sat w0 (rxB q b rs.length cap times most * (rxL b cap rs * (G))) w') := Lib.hid (fun w1 G h1 => by
    have := rx_is h1 k gen
    rw [hi] at this
    exact this)
  have HA := Lib.hid ha
  have HJ := Lib.hid hi8
  clear hi8
  clear hS hB hi ha
  have HT := Lib.hid (fun w h => rthere l now (.slice a2 n2 c2) w h (by omega))
  obtain ⟨tv, htv⟩ : ∃ tv, tv = thereV l now := ⟨_, rfl⟩
  rw [← htv] at HT ⊢
  clear htv
  have ka0 := (HB.out).dropL.cell 0 rfl; have ka1 := (HB.out).cell 0 rfl; have ka2 := rx_at ((HB.out).dropL.dropL) (j := 4) HA.out rfl; rw [show k * 7 + 4 = k * 7 + 2 + 2 by omega] at ka2; have ka3 := (HB.out).cell 1 rfl
  go_enter Try.func46, Try.ntmps46
  go_wp2
  go_region_held3 (fun w' : World => w'.cell? ⟨q, 0, none⟩ = some (.slice (some ⟨b, 0, none⟩) rs.length cap) ∧ w'.cell? ⟨w.heap.size, 0, none⟩ = some (vi k) ∧ w'.cell? ⟨b, k * 7 + 2 + 2, none⟩ = some (.slice a2 n2 c2) ∧ w'.cell? ⟨w.heap.size, 1, none⟩ = some (vu gen))
    (first | exact ⟨ka0, ka1, ka2, ka3⟩ | exact ⟨kb0, kb1, kb2, kb3⟩ | exact ⟨kc0, kc1, kc2, kc3⟩ | go_keep)
    (first
      | (go_at_call 86; refine (HI.out _ _ ((HB.out.drew).cast (show _ = rxB q b rs.length cap times most * (rxL b cap rs * (pc w.heap.size 30 [vi k, vu gen] * (plB L * (F)))) by ac_rfl))).mono ?_; rintro e w1 ⟨rfl, hS1⟩; have H1 := Lib.hid ((hS1).cast (show _ = pc w.heap.size 30 [vi k, vu gen] * (rxB q b rs.length cap times most * (rxL b cap rs * (plB L * (F)))) by ac_rfl)); clear hS1; have kb0 := (H1.out).dropL.cell 0 rfl; have kb1 := (H1.out).cell 0 rfl; have kb2 := rx_at ((H1.out).dropL.dropL) (j := 4) HA.out rfl; rw [show k * 7 + 4 = k * 7 + 2 + 2 by omega] at kb2; have kb3 := (H1.out).cell 1 rfl)
      | (go_at_call 87; refine (HT.out _ (Sat.plRd ((H1.out).cast (show _ = plB L * (pc w.heap.size 30 [vi k, vu gen] * (rxB q b rs.length cap times most * (rxL b cap rs * (F)))) by ac_rfl)) HJ.out)).mono ?_; rintro e w2 ⟨rfl, rfl⟩; have H2 := Lib.hid H1.out; have kc0 := (H2.out).dropL.cell 0 rfl; have kc1 := (H2.out).cell 0 rfl; have kc2 := rx_at ((H2.out).dropL.dropL) (j := 4) HA.out rfl; rw [show k * 7 + 4 = k * 7 + 2 + 2 by omega] at kc2; have kc3 := (H2.out).cell 1 rfl))
  go_wp2
  go_ret
  exact ⟨rfl, H2.out.dropL⟩
end
end Go.Proofs.Ytknodagcmachiaa.Cn
