/-
  The reference of layer 8: Donate. No statement is proved here.
-/
import Derived.Test.YtknodagcmachiaaCr7
namespace Go.Proofs.Ytknodagcmachiaa.Cn
open Go.RowKit Ac Fi
set_option linter.unusedVariables false
set_option linter.unusedSimpArgs false

section
variable {w0 w : World} {F : Hp} {q b cap : Nat} {times most : Int} {rs : List RPl} {L : Blks} {l m : List Rf}
set_option maxRecDepth 100000 in
set_option maxHeartbeats 4000000 in
theorem rx_don_st1 (hS : Sat w0 (rxB q b rs.length cap times most * (rxL b cap rs * (plB L * (F)))) w) (i g j t : Int)  (amount now : Int) (hi : isR rs i g = none) :
    Calls Try.prog 49 #[vp q, vr i g, vr j t, vu amount, vu now] w fun e w' => e = .returned (vi 11) ∧ Sat w0 (rxB q b rs.length cap times most * (rxL b cap rs * (plB L * (F)))) w' := by
  have hB0 := (hS.alloc (.cells #[vi i, vu g] 30)).alloc (.cells #[vi j, vu t] 30)
  rw [size1] at hB0
  have hB : Sat w0 (pc (w.heap.size + 1) 30 [vi j, vu t] * (pc w.heap.size 30 [vi i, vu g] * (rxB q b rs.length cap times most * (rxL b cap rs * (plB L * (F)))))) _ := hB0
  have b0 := hB.dropL.cell 0 rfl
  have b1 := hB.dropL.cell 1 rfl
  have HB := Lib.hid hB
  have HI : Hid (∀ (w1 : World) (G : Hp), Sat w0 (rxB q b rs.length cap times most * (rxL b cap rs * (G))) w1 → Calls Try.prog 86 #[vp q, vr i g] w1 fun e w' => e = .returned (.bool false) ∧ Sat w0 (rxB q b rs.length cap times most * (rxL b cap rs * (G))) w') := Lib.hid (fun w1 G h1 => by
    have := rx_is h1 i g
    rw [hi] at this
    exact this)
  clear hS hB hB0 hi
  go_enter Try.func49, Try.ntmps49
  go_wp2_with (go_at_call 86; (with_reducible refine (HI.out _ _ ((HB.out).cast (show _ = rxB q b rs.length cap times most * (rxL b cap rs * (pc (w.heap.size + 1) 30 [vi j, vu t] * (pc w.heap.size 30 [vi i, vu g] * (plB L * (F))))) by ac_rfl))).mono ?_); rintro e w_H1 ⟨rfl, hS1⟩; have H1 := Lib.hid ((hS1).cast (show _ = pc (w.heap.size + 1) 30 [vi j, vu t] * (pc w.heap.size 30 [vi i, vu g] * (rxB q b rs.length cap times most * (rxL b cap rs * (plB L * (F))))) by ac_rfl)); have t0 := H1.out.cell 0 rfl; have t1 := H1.out.cell 1 rfl; have s0 := H1.out.dropL.cell 0 rfl; have s1 := H1.out.dropL.cell 1 rfl; clear hS1)
  go_ret
  exact ⟨rfl, H1.out.dropL.dropL⟩
set_option maxRecDepth 100000 in
set_option maxHeartbeats 4000000 in
theorem rx_don_st2 (hS : Sat w0 (rxB q b rs.length cap times most * (rxL b cap rs * (plB L * (F)))) w) {k : Nat} {a : RPl} (j t : Int)  (amount now : Int) (ha : rs[k]? = some a) (ht : a.there = true) (hj : isR rs j t = none) :
    Calls Try.prog 49 #[vp q, vr k a.gen, vr j t, vu amount, vu now] w fun e w' => e = .returned (vi 11) ∧ Sat w0 (rxB q b rs.length cap times most * (rxL b cap rs * (plB L * (F)))) w' := by
  have hB0 := (hS.alloc (.cells #[vi k, vu a.gen] 30)).alloc (.cells #[vi j, vu t] 30)
  rw [size1] at hB0
  have hB : Sat w0 (pc (w.heap.size + 1) 30 [vi j, vu t] * (pc w.heap.size 30 [vi k, vu a.gen] * (rxB q b rs.length cap times most * (rxL b cap rs * (plB L * (F)))))) _ := hB0
  have b0 := hB.dropL.cell 0 rfl
  have b1 := hB.dropL.cell 1 rfl
  have HB := Lib.hid hB
  have hi := isR_of ha ht
  have HI : Hid (∀ (w1 : World) (G : Hp), Sat w0 (rxB q b rs.length cap times most * (rxL b cap rs * (G))) w1 → Calls Try.prog 86 #[vp q, vr k a.gen] w1 fun e w' => e = .returned (.bool true) ∧ Sat w0 (rxB q b rs.length cap times most * (rxL b cap rs * (G))) w') := Lib.hid (fun w1 G h1 => by
    have := rx_is h1 k a.gen
    rw [hi] at this
    exact this)
  have HJ : Hid (∀ (w1 : World) (G : Hp), Sat w0 (rxB q b rs.length cap times most * (rxL b cap rs * (G))) w1 → Calls Try.prog 86 #[vp q, vr j t] w1 fun e w' => e = .returned (.bool false) ∧ Sat w0 (rxB q b rs.length cap times most * (rxL b cap rs * (G))) w') := Lib.hid (fun w1 G h1 => by
    have := rx_is h1 j t
    rw [hj] at this
    exact this)
  clear hS hB hB0 hi hj ha ht
  generalize a.gen = gen at *
  go_enter Try.func49, Try.ntmps49
  go_wp2_with (first
    | (go_at_call 86; (with_reducible refine (HI.out _ _ ((HB.out).cast (show _ = rxB q b rs.length cap times most * (rxL b cap rs * (pc (w.heap.size + 1) 30 [vi j, vu t] * (pc w.heap.size 30 [vi k, vu gen] * (plB L * (F))))) by ac_rfl))).mono ?_); rintro e w_H1 ⟨rfl, hS1⟩; have H1 := Lib.hid ((hS1).cast (show _ = pc (w.heap.size + 1) 30 [vi j, vu t] * (pc w.heap.size 30 [vi k, vu gen] * (rxB q b rs.length cap times most * (rxL b cap rs * (plB L * (F))))) by ac_rfl)); have t0 := H1.out.cell 0 rfl; have t1 := H1.out.cell 1 rfl; have s0 := H1.out.dropL.cell 0 rfl; have s1 := H1.out.dropL.cell 1 rfl; clear hS1)
    | (go_at_call 86; (with_reducible refine (HJ.out _ _ ((H1.out).cast (show _ = rxB q b rs.length cap times most * (rxL b cap rs * (pc (w.heap.size + 1) 30 [vi j, vu t] * (pc w.heap.size 30 [vi k, vu gen] * (plB L * (F))))) by ac_rfl))).mono ?_); rintro e w_H2 ⟨rfl, hS1⟩; have H2 := Lib.hid ((hS1).cast (show _ = pc (w.heap.size + 1) 30 [vi j, vu t] * (pc w.heap.size 30 [vi k, vu gen] * (rxB q b rs.length cap times most * (rxL b cap rs * (plB L * (F))))) by ac_rfl)); have t0 := H2.out.cell 0 rfl; have t1 := H2.out.cell 1 rfl; have s0 := H2.out.dropL.cell 0 rfl; have s1 := H2.out.dropL.cell 1 rfl; clear hS1))
  go_ret
  exact ⟨rfl, H2.out.dropL.dropL⟩
set_option maxRecDepth 100000 in
set_option maxHeartbeats 4000000 in
theorem rx_don_same (hS : Sat w0 (rxB q b rs.length cap times most * (rxL b cap rs * (plB L * (F)))) w) {k j : Nat} {a d : RPl} (ha : rs[k]? = some a) (ht : a.there = true) (hd : rs[j]? = some d) (htd : d.there = true) (amount now : Int) (hkj : k = j) :
    Calls Try.prog 49 #[vp q, vr k a.gen, vr j d.gen, vu amount, vu now] w fun e w' => e = .returned (vi 2) ∧ Sat w0 (rxB q b rs.length cap times most * (rxL b cap rs * (plB L * (F)))) w' := by
  obtain ⟨gen, th, ⟨v0, v1, a2, n2, c2, v3⟩, fr⟩ := a
  obtain ⟨gen2, th2, ⟨y0, y1, b2, m2, d2, y3⟩, fr2⟩ := d
  have hi := isR_of ha ht
  have hj := isR_of hd htd
  (try dsimp only at *)
  have hB0 := (hS.alloc (.cells #[vi k, vu gen] 30)).alloc (.cells #[vi j, vu gen2] 30)
  rw [size1] at hB0
  have hB : Sat w0 (pc (w.heap.size + 1) 30 [vi j, vu gen2] * (pc w.heap.size 30 [vi k, vu gen] * (rxB q b rs.length cap times most * (rxL b cap rs * (plB L * (F)))))) _ := hB0
  have b0 := hB.dropL.cell 0 rfl
  have b1 := hB.dropL.cell 1 rfl
  have HB := Lib.hid hB
  have HI : Hid (∀ (w1 : World) (G : Hp), Sat w0 (rxB q b rs.length cap times most * (rxL b cap rs * (G))) w1 → Calls Try.prog 86 #[vp q, vr k gen] w1 fun e w' => e = .returned (.bool true) ∧ Sat w0 (rxB q b rs.length cap times most * (rxL b cap rs * (G))) w') := Lib.hid (fun w1 G h1 => by
    have := rx_is h1 k gen
    rw [hi] at this
    exact this)
  have HJ : Hid (∀ (w1 : World) (G : Hp), Sat w0 (rxB q b rs.length cap times most * (rxL b cap rs * (G))) w1 → Calls Try.prog 86 #[vp q, vr j gen2] w1 fun e w' => e = .returned (.bool true) ∧ Sat w0 (rxB q b rs.length cap times most * (rxL b cap rs * (G))) w') := Lib.hid (fun w1 G h1 => by
    have := rx_is h1 j gen2
    rw [hj] at this
    exact this)
  have hb : ((k : Int) == (j : Int)) = true := by simp [hkj]
  clear hS hB hB0 hi hj ha ht hd htd hkj
  go_enter Try.func49, Try.ntmps49
  go_wp2_with (first
    | (go_at_call 86; (with_reducible refine (HI.out _ _ ((HB.out).cast (show _ = rxB q b rs.length cap times most * (rxL b cap rs * (pc (w.heap.size + 1) 30 [vi j, vu gen2] * (pc w.heap.size 30 [vi k, vu gen] * (plB L * (F))))) by ac_rfl))).mono ?_); rintro e w_H1 ⟨rfl, hS1⟩; have H1 := Lib.hid ((hS1).cast (show _ = pc (w.heap.size + 1) 30 [vi j, vu gen2] * (pc w.heap.size 30 [vi k, vu gen] * (rxB q b rs.length cap times most * (rxL b cap rs * (plB L * (F))))) by ac_rfl)); have t0 := H1.out.cell 0 rfl; have t1 := H1.out.cell 1 rfl; have s0 := H1.out.dropL.cell 0 rfl; have s1 := H1.out.dropL.cell 1 rfl; clear hS1)
    | (go_at_call 86; (with_reducible refine (HJ.out _ _ ((H1.out).cast (show _ = rxB q b rs.length cap times most * (rxL b cap rs * (pc (w.heap.size + 1) 30 [vi j, vu gen2] * (pc w.heap.size 30 [vi k, vu gen] * (plB L * (F))))) by ac_rfl))).mono ?_); rintro e w_H2 ⟨rfl, hS1⟩; have H2 := Lib.hid ((hS1).cast (show _ = pc (w.heap.size + 1) 30 [vi j, vu gen2] * (pc w.heap.size 30 [vi k, vu gen] * (rxB q b rs.length cap times most * (rxL b cap rs * (plB L * (F))))) by ac_rfl)); have t0 := H2.out.cell 0 rfl; have t1 := H2.out.cell 1 rfl; have s0 := H2.out.dropL.cell 0 rfl; have s1 := H2.out.dropL.cell 1 rfl; clear hS1))
  go_ret
  exact ⟨rfl, H2.out.dropL.dropL⟩
set_option maxRecDepth 100000 in
set_option maxHeartbeats 4000000 in
theorem rx_don_part (hS : Sat w0 (rxB q b rs.length cap times most * (rxL b cap rs * (plB L * (F)))) w) {k j : Nat} {a d : RPl} (ha : rs[k]? = some a) (ht : a.there = true) (hd : rs[j]? = some d) (htd : d.there = true) (hi8 : InP L (.slice a.x.a2 a.x.n2 a.x.c2) l) (hl : l.length ≤ 1000) (amount now er : Int) (hkj : k ≠ j) (hp : partC a.x.v0 l amount now = er) (hne : er ≠ 0) :
    Calls Try.prog 49 #[vp q, vr k a.gen, vr j d.gen, vu amount, vu now] w fun e w' => e = .returned (vi er) ∧ Sat w0 (rxB q b rs.length cap times most * (rxL b cap rs * (plB L * (F)))) w' := by
  obtain ⟨gen, th, ⟨v0, v1, a2, n2, c2, v3⟩, fr⟩ := a
  obtain ⟨gen2, th2, ⟨y0, y1, b2, m2, d2, y3⟩, fr2⟩ := d
  have hi := isR_of ha ht
  have hj := isR_of hd htd
  (try dsimp only at *)
  have hB0 := (hS.alloc (.cells #[vi k, vu gen] 30)).alloc (.cells #[vi j, vu gen2] 30)
  rw [size1] at hB0
  have hB : Sat w0 (pc (w.heap.size + 1) 30 [vi j, vu gen2] * (pc w.heap.size 30 [vi k, vu gen] * (rxB q b rs.length cap times most * (rxL b cap rs * (plB L * (F)))))) _ := hB0
  have b0 := hB.dropL.cell 0 rfl
  have b1 := hB.dropL.cell 1 rfl
  have HB := Lib.hid hB
  have HI : Hid (∀ (w1 : World) (G : Hp), Sat w0 (rxB q b rs.length cap times most * (rxL b cap rs * (G))) w1 → Calls Try.prog 86 #[vp q, vr k gen] w1 fun e w' => e = .returned (.bool true) ∧ Sat w0 (rxB q b rs.length cap times most * (rxL b cap rs * (G))) w') := Lib.hid (fun w1 G h1 => by
    have := rx_is h1 k gen
    rw [hi] at this
    exact this)
  have HJ : Hid (∀ (w1 : World) (G : Hp), Sat w0 (rxB q b rs.length cap times most * (rxL b cap rs * (G))) w1 → Calls Try.prog 86 #[vp q, vr j gen2] w1 fun e w' => e = .returned (.bool true) ∧ Sat w0 (rxB q b rs.length cap times most * (rxL b cap rs * (G))) w') := Lib.hid (fun w1 G h1 => by
    have := rx_is h1 j gen2
    rw [hj] at this
    exact this)
  have HPT : Hid (∀ (w1 : World) (G : Hp), Sat w0 (rxB q b rs.length cap times most * (rxL b cap rs * (plB L * (G)))) w1 → Calls Try.prog 89 #[vp q, vr k gen, vu amount, vu now] w1 fun e w' => e = .returned (vi er) ∧ Sat w0 (rxB q b rs.length cap times most * (rxL b cap rs * (plB L * (G)))) w') := Lib.hid (fun w1 G h1 => by
    have := rx_part h1 ha hi8 hl gen amount now
    rw [hp] at this
    exact this)
  have hb : ((k : Int) == (j : Int)) = false := beq_eq_false_iff_ne.2 (by omega)
  have hnc : (er != 0) = true := by simpa using hne
  clear hS hB hB0 hi hj ha ht hd htd hkj hi8 hp hne
  go_enter Try.func49, Try.ntmps49
  go_wp2_with (first
    | (go_at_call 86; (with_reducible refine (HI.out _ _ ((HB.out).cast (show _ = rxB q b rs.length cap times most * (rxL b cap rs * (pc (w.heap.size + 1) 30 [vi j, vu gen2] * (pc w.heap.size 30 [vi k, vu gen] * (plB L * (F))))) by ac_rfl))).mono ?_); rintro e w_H1 ⟨rfl, hS1⟩; have H1 := Lib.hid ((hS1).cast (show _ = pc (w.heap.size + 1) 30 [vi j, vu gen2] * (pc w.heap.size 30 [vi k, vu gen] * (rxB q b rs.length cap times most * (rxL b cap rs * (plB L * (F))))) by ac_rfl)); have t0 := H1.out.cell 0 rfl; have t1 := H1.out.cell 1 rfl; have s0 := H1.out.dropL.cell 0 rfl; have s1 := H1.out.dropL.cell 1 rfl; clear hS1)
    | (go_at_call 86; (with_reducible refine (HJ.out _ _ ((H1.out).cast (show _ = rxB q b rs.length cap times most * (rxL b cap rs * (pc (w.heap.size + 1) 30 [vi j, vu gen2] * (pc w.heap.size 30 [vi k, vu gen] * (plB L * (F))))) by ac_rfl))).mono ?_); rintro e w_H2 ⟨rfl, hS1⟩; have H2 := Lib.hid ((hS1).cast (show _ = pc (w.heap.size + 1) 30 [vi j, vu gen2] * (pc w.heap.size 30 [vi k, vu gen] * (rxB q b rs.length cap times most * (rxL b cap rs * (plB L * (F))))) by ac_rfl)); have t0 := H2.out.cell 0 rfl; have t1 := H2.out.cell 1 rfl; have s0 := H2.out.dropL.cell 0 rfl; have s1 := H2.out.dropL.cell 1 rfl; clear hS1)
    | (go_at_call 89; refine (HPT.out _ _ ((H2.out).cast (show _ = rxB q b rs.length cap times most * (rxL b cap rs * (plB L * (pc (w.heap.size + 1) 30 [vi j, vu gen2] * (pc w.heap.size 30 [vi k, vu gen] * (F))))) by ac_rfl))).mono ?_; rintro e w3 ⟨rfl, hS3⟩; have H3 := Lib.hid ((hS3).cast (show _ = pc (w.heap.size + 1) 30 [vi j, vu gen2] * (pc w.heap.size 30 [vi k, vu gen] * (rxB q b rs.length cap times most * (rxL b cap rs * (plB L * (F))))) by ac_rfl)); clear hS3))
  go_ret
  exact ⟨rfl, H3.out.dropL.dropL⟩
set_option maxRecDepth 100000 in
set_option maxHeartbeats 4000000 in
theorem rx_don_over (hS : Sat w0 (rxB q b rs.length cap times most * (rxL b cap rs * (plB L * (F)))) w) {k j : Nat} {a d : RPl} (ha : rs[k]? = some a) (ht : a.there = true) (hd : rs[j]? = some d) (htd : d.there = true) (hi8 : InP L (.slice a.x.a2 a.x.n2 a.x.c2) l) (hl : l.length ≤ 1000) (amount now : Int) (hkj : k ≠ j) (hp : partC a.x.v0 l amount now = 0) (hw : 0 ≤ d.x.v0 + amount ∧ d.x.v0 + amount ≤ 18446744073709551615) (ho : 4294967296 < d.x.v0 + amount) :
    Calls Try.prog 49 #[vp q, vr k a.gen, vr j d.gen, vu amount, vu now] w fun e w' => e = .returned (vi 6) ∧ Sat w0 (rxB q b rs.length cap times most * (rxL b cap rs * (plB L * (F)))) w' := by
  obtain ⟨gen, th, ⟨v0, v1, a2, n2, c2, v3⟩, fr⟩ := a
  obtain ⟨gen2, th2, ⟨y0, y1, b2, m2, d2, y3⟩, fr2⟩ := d
  have hi := isR_of ha ht
  have hj := isR_of hd htd
  (try dsimp only at *)
  have hB0 := (hS.alloc (.cells #[vi k, vu gen] 30)).alloc (.cells #[vi j, vu gen2] 30)
  rw [size1] at hB0
  have hB : Sat w0 (pc (w.heap.size + 1) 30 [vi j, vu gen2] * (pc w.heap.size 30 [vi k, vu gen] * (rxB q b rs.length cap times most * (rxL b cap rs * (plB L * (F)))))) _ := hB0
  have b0 := hB.dropL.cell 0 rfl
  have b1 := hB.dropL.cell 1 rfl
  have HB := Lib.hid hB
  have HI : Hid (∀ (w1 : World) (G : Hp), Sat w0 (rxB q b rs.length cap times most * (rxL b cap rs * (G))) w1 → Calls Try.prog 86 #[vp q, vr k gen] w1 fun e w' => e = .returned (.bool true) ∧ Sat w0 (rxB q b rs.length cap times most * (rxL b cap rs * (G))) w') := Lib.hid (fun w1 G h1 => by
    have := rx_is h1 k gen
    rw [hi] at this
    exact this)
  have HJ : Hid (∀ (w1 : World) (G : Hp), Sat w0 (rxB q b rs.length cap times most * (rxL b cap rs * (G))) w1 → Calls Try.prog 86 #[vp q, vr j gen2] w1 fun e w' => e = .returned (.bool true) ∧ Sat w0 (rxB q b rs.length cap times most * (rxL b cap rs * (G))) w') := Lib.hid (fun w1 G h1 => by
    have := rx_is h1 j gen2
    rw [hj] at this
    exact this)
  have HPT : Hid (∀ (w1 : World) (G : Hp), Sat w0 (rxB q b rs.length cap times most * (rxL b cap rs * (plB L * (G)))) w1 → Calls Try.prog 89 #[vp q, vr k gen, vu amount, vu now] w1 fun e w' => e = .returned (vi 0) ∧ Sat w0 (rxB q b rs.length cap times most * (rxL b cap rs * (plB L * (G)))) w') := Lib.hid (fun w1 G h1 => by
    have := rx_part h1 ha hi8 hl gen amount now
    rw [hp] at this
    exact this)
  have hb : ((k : Int) == (j : Int)) = false := beq_eq_false_iff_ne.2 (by omega)
  have hjl : (j : Int) < (rs.length : Int) := by have := (List.getElem?_eq_some_iff.1 hd).1; omega
  have hj0 : (0 : Int) ≤ (j : Int) := by omega
  have HD := Lib.hid hd
  clear hd
  have hwy : IntKind.u64.wrap (y0 + amount) = y0 + amount := IntWalk.u64_in _ (by omega)
  clear hS hB hB0 hi hj ha ht htd hkj hi8 hp
  go_enter Try.func49, Try.ntmps49
  go_wp2_with (first
    | (go_at_call 86; (with_reducible refine (HI.out _ _ ((HB.out).cast (show _ = rxB q b rs.length cap times most * (rxL b cap rs * (pc (w.heap.size + 1) 30 [vi j, vu gen2] * (pc w.heap.size 30 [vi k, vu gen] * (plB L * (F))))) by ac_rfl))).mono ?_); rintro e w_H1 ⟨rfl, hS1⟩; have H1 := Lib.hid ((hS1).cast (show _ = pc (w.heap.size + 1) 30 [vi j, vu gen2] * (pc w.heap.size 30 [vi k, vu gen] * (rxB q b rs.length cap times most * (rxL b cap rs * (plB L * (F))))) by ac_rfl)); have t0 := H1.out.cell 0 rfl; have t1 := H1.out.cell 1 rfl; have s0 := H1.out.dropL.cell 0 rfl; have s1 := H1.out.dropL.cell 1 rfl; clear hS1)
    | (go_at_call 86; (with_reducible refine (HJ.out _ _ ((H1.out).cast (show _ = rxB q b rs.length cap times most * (rxL b cap rs * (pc (w.heap.size + 1) 30 [vi j, vu gen2] * (pc w.heap.size 30 [vi k, vu gen] * (plB L * (F))))) by ac_rfl))).mono ?_); rintro e w_H2 ⟨rfl, hS1⟩; have H2 := Lib.hid ((hS1).cast (show _ = pc (w.heap.size + 1) 30 [vi j, vu gen2] * (pc w.heap.size 30 [vi k, vu gen] * (rxB q b rs.length cap times most * (rxL b cap rs * (plB L * (F))))) by ac_rfl)); have t0 := H2.out.cell 0 rfl; have t1 := H2.out.cell 1 rfl; have s0 := H2.out.dropL.cell 0 rfl; have s1 := H2.out.dropL.cell 1 rfl; clear hS1)
    | (go_at_call 89; refine (HPT.out _ _ ((H2.out).cast (show _ = rxB q b rs.length cap times most * (rxL b cap rs * (plB L * (pc (w.heap.size + 1) 30 [vi j, vu gen2] * (pc w.heap.size 30 [vi k, vu gen] * (F))))) by ac_rfl))).mono ?_; rintro e w3 ⟨rfl, hS3⟩; have H3 := Lib.hid ((hS3).cast (show _ = pc (w.heap.size + 1) 30 [vi j, vu gen2] * (pc w.heap.size 30 [vi k, vu gen] * (rxB q b rs.length cap times most * (rxL b cap rs * (plB L * (F))))) by ac_rfl)); clear hS3))
  have hx : Sat w0 (pc w3.heap.size 49 (elC ⟨y0, y1, b2, m2, d2, y3⟩) * (pc (w.heap.size + 1) 30 [vi j, vu gen2] * (pc w.heap.size 30 [vi k, vu gen] * (rxB q b rs.length cap times most * (rxL b cap rs * (plB L * (F))))))) _ := (H3.out.alloc (elO ⟨y0, y1, b2, m2, d2, y3⟩)).drew
  have HX := Lib.hid hx
  have hz : Sat w0 (pc w3.heap.size 49 (elC ez) * (pc (w.heap.size + 1) 30 [vi j, vu gen2] * (pc w.heap.size 30 [vi k, vu gen] * (rxB q b rs.length cap times most * (rxL b cap rs * (plB L * (F))))))) _ := (H3.out.alloc (elO ez)).drew
  have HZ := Lib.hid hz
  clear hx hz
  have ka0 := (H3.out.drew).dropL.dropL.cell 0 rfl; have ka1 := (H3.out.drew).cell 0 rfl; have ka2 := rx_at ((H3.out.drew).dropL.dropL.dropL) (j := 2) HD.out rfl; have ka3 := rx_at ((H3.out.drew).dropL.dropL.dropL) (j := 3) HD.out rfl; have ka4 := rx_at ((H3.out.drew).dropL.dropL.dropL) (j := 4) HD.out rfl; have ka5 := rx_at ((H3.out.drew).dropL.dropL.dropL) (j := 5) HD.out rfl; rw [show j * 7 + 3 = j * 7 + 2 + 1 by omega] at ka3; rw [show j * 7 + 4 = j * 7 + 2 + 2 by omega] at ka4; rw [show j * 7 + 5 = j * 7 + 2 + 3 by omega] at ka5
  have kb0 := (HX.out).dropL.dropL.dropL.cell 0 rfl; have kb1 := (HX.out).dropL.cell 0 rfl; have kb2 := rx_at ((HX.out).dropL.dropL.dropL.dropL) (j := 2) HD.out rfl; have kb3 := rx_at ((HX.out).dropL.dropL.dropL.dropL) (j := 3) HD.out rfl; have kb4 := rx_at ((HX.out).dropL.dropL.dropL.dropL) (j := 4) HD.out rfl; have kb5 := rx_at ((HX.out).dropL.dropL.dropL.dropL) (j := 5) HD.out rfl; rw [show j * 7 + 3 = j * 7 + 2 + 1 by omega] at kb3; rw [show j * 7 + 4 = j * 7 + 2 + 2 by omega] at kb4; rw [show j * 7 + 5 = j * 7 + 2 + 3 by omega] at kb5
  have kz0 := (HZ.out).dropL.dropL.dropL.cell 0 rfl; have kz1 := (HZ.out).dropL.cell 0 rfl; have kz2 := rx_at ((HZ.out).dropL.dropL.dropL.dropL) (j := 2) HD.out rfl; have kz3 := rx_at ((HZ.out).dropL.dropL.dropL.dropL) (j := 3) HD.out rfl; have kz4 := rx_at ((HZ.out).dropL.dropL.dropL.dropL) (j := 4) HD.out rfl; have kz5 := rx_at ((HZ.out).dropL.dropL.dropL.dropL) (j := 5) HD.out rfl; rw [show j * 7 + 3 = j * 7 + 2 + 1 by omega] at kz3; rw [show j * 7 + 4 = j * 7 + 2 + 2 by omega] at kz4; rw [show j * 7 + 5 = j * 7 + 2 + 3 by omega] at kz5
  go_region_held3 (fun w' : World => w'.cell? ⟨q, 0, none⟩ = some (.slice (some ⟨b, 0, none⟩) rs.length cap) ∧ w'.cell? ⟨(w.heap.size + 1), 0, none⟩ = some (vi j) ∧ w'.cell? ⟨b, j * 7 + 2, none⟩ = some (vu y0) ∧ w'.cell? ⟨b, j * 7 + 2 + 1, none⟩ = some (vu y1) ∧ w'.cell? ⟨b, j * 7 + 2 + 2, none⟩ = some (.slice b2 m2 d2) ∧ w'.cell? ⟨b, j * 7 + 2 + 3, none⟩ = some (vi y3))
    (first | exact ⟨ka0, ka1, ka2, ka3, ka4, ka5⟩ | exact ⟨kb0, kb1, kb2, kb3, kb4, kb5⟩ | exact ⟨kz0, kz1, kz2, kz3, kz4, kz5⟩ | go_keep)
    (fail)
  clear ka0 kb0 kz0 ka1 kb1 kz1 ka2 kb2 kz2 ka3 kb3 kz3 ka4 kb4 kz4 ka5 kb5 kz5 HZ
  have z0 := HX.out.cell 0 rfl
  have z1 := HX.out.cell 1 rfl
  have z2 := HX.out.cell 2 rfl
  have z3 := HX.out.cell 3 rfl
  go_wp2
  go_ret
  exact ⟨rfl, HX.out.dropL.dropL.dropL⟩
set_option maxRecDepth 100000 in
set_option maxHeartbeats 4000000 in
theorem rx_don_full (hS : Sat w0 (rxB q b rs.length cap times most * (rxL b cap rs * (plB L * (F)))) w) {k j : Nat} {a d : RPl} (ha : rs[k]? = some a) (ht : a.there = true) (hd : rs[j]? = some d) (htd : d.there = true) (hi8 : InP L (.slice a.x.a2 a.x.n2 a.x.c2) l) (hl : l.length ≤ 1000) (amount now : Int) (hkj : k ≠ j) (hp : partC a.x.v0 l amount now = 0) (hw : 0 ≤ d.x.v0 + amount ∧ d.x.v0 + amount ≤ 18446744073709551615) (hi9 : InP L (.slice d.x.a2 d.x.n2 d.x.c2) m) (hml : m.length ≤ 1000) (hua : U64 amount) (hun : U64 now) (hgv : GvOk m amount most) (htot : tot m + amount ≤ 18446744073709551615) (ho : ¬ 4294967296 < d.x.v0 + amount) (hf : thN m now = 0 ∧ (m.length : Int) = most) :
    Calls Try.prog 49 #[vp q, vr k a.gen, vr j d.gen, vu amount, vu now] w fun e w' => e = .returned (vi 3) ∧ Sat w0 (rxB q b rs.length cap times most * (rxL b cap rs * (plB L * (F)))) w' := by
  obtain ⟨gen, th, ⟨v0, v1, a2, n2, c2, v3⟩, fr⟩ := a
  obtain ⟨gen2, th2, ⟨y0, y1, b2, m2, d2, y3⟩, fr2⟩ := d
  have hi := isR_of ha ht
  have hj := isR_of hd htd
  (try dsimp only at *)
  have hB0 := (hS.alloc (.cells #[vi k, vu gen] 30)).alloc (.cells #[vi j, vu gen2] 30)
  rw [size1] at hB0
  have hB : Sat w0 (pc (w.heap.size + 1) 30 [vi j, vu gen2] * (pc w.heap.size 30 [vi k, vu gen] * (rxB q b rs.length cap times most * (rxL b cap rs * (plB L * (F)))))) _ := hB0
  have b0 := hB.dropL.cell 0 rfl
  have b1 := hB.dropL.cell 1 rfl
  have HB := Lib.hid hB
  have HI : Hid (∀ (w1 : World) (G : Hp), Sat w0 (rxB q b rs.length cap times most * (rxL b cap rs * (G))) w1 → Calls Try.prog 86 #[vp q, vr k gen] w1 fun e w' => e = .returned (.bool true) ∧ Sat w0 (rxB q b rs.length cap times most * (rxL b cap rs * (G))) w') := Lib.hid (fun w1 G h1 => by
    have := rx_is h1 k gen
    rw [hi] at this
    exact this)
  have HJ : Hid (∀ (w1 : World) (G : Hp), Sat w0 (rxB q b rs.length cap times most * (rxL b cap rs * (G))) w1 → Calls Try.prog 86 #[vp q, vr j gen2] w1 fun e w' => e = .returned (.bool true) ∧ Sat w0 (rxB q b rs.length cap times most * (rxL b cap rs * (G))) w') := Lib.hid (fun w1 G h1 => by
    have := rx_is h1 j gen2
    rw [hj] at this
    exact this)
  have HPT : Hid (∀ (w1 : World) (G : Hp), Sat w0 (rxB q b rs.length cap times most * (rxL b cap rs * (plB L * (G)))) w1 → Calls Try.prog 89 #[vp q, vr k gen, vu amount, vu now] w1 fun e w' => e = .returned (vi 0) ∧ Sat w0 (rxB q b rs.length cap times most * (rxL b cap rs * (plB L * (G)))) w') := Lib.hid (fun w1 G h1 => by
    have := rx_part h1 ha hi8 hl gen amount now
    rw [hp] at this
    exact this)
  have hb : ((k : Int) == (j : Int)) = false := beq_eq_false_iff_ne.2 (by omega)
  have HGV : Hid (∀ (w' : World), RdF w' (.slice b2 m2 d2) m → Calls Try.prog 91 #[.slice b2 m2 d2, vu now, vu amount, vi most] w' fun e w'' => e = .returned (.tuple #[.slice none 0 0, vi 3]) ∧ Below w'.heap.size w' w'') := Lib.hid (fun w' hr => (rgive_ hr hml hua hun hgv).mono fun e w2 hh => by
    unfold GiveOut at hh
    rw [if_neg (by omega), if_pos hf] at hh
    exact hh)
  have HK := Lib.hid hi9
  clear hi9 hml hua hun hgv htot hf
  have hjl : (j : Int) < (rs.length : Int) := by have := (List.getElem?_eq_some_iff.1 hd).1; omega
  have hj0 : (0 : Int) ≤ (j : Int) := by omega
  have HD := Lib.hid hd
  clear hd
  have hwy : IntKind.u64.wrap (y0 + amount) = y0 + amount := IntWalk.u64_in _ (by omega)
  clear hS hB hB0 hi hj ha ht htd hkj hi8 hp
  go_enter Try.func49, Try.ntmps49
  go_wp2_with (first
    | (go_at_call 86; (with_reducible refine (HI.out _ _ ((HB.out).cast (show _ = rxB q b rs.length cap times most * (rxL b cap rs * (pc (w.heap.size + 1) 30 [vi j, vu gen2] * (pc w.heap.size 30 [vi k, vu gen] * (plB L * (F))))) by ac_rfl))).mono ?_); rintro e w_H1 ⟨rfl, hS1⟩; have H1 := Lib.hid ((hS1).cast (show _ = pc (w.heap.size + 1) 30 [vi j, vu gen2] * (pc w.heap.size 30 [vi k, vu gen] * (rxB q b rs.length cap times most * (rxL b cap rs * (plB L * (F))))) by ac_rfl)); have t0 := H1.out.cell 0 rfl; have t1 := H1.out.cell 1 rfl; have s0 := H1.out.dropL.cell 0 rfl; have s1 := H1.out.dropL.cell 1 rfl; clear hS1)
    | (go_at_call 86; (with_reducible refine (HJ.out _ _ ((H1.out).cast (show _ = rxB q b rs.length cap times most * (rxL b cap rs * (pc (w.heap.size + 1) 30 [vi j, vu gen2] * (pc w.heap.size 30 [vi k, vu gen] * (plB L * (F))))) by ac_rfl))).mono ?_); rintro e w_H2 ⟨rfl, hS1⟩; have H2 := Lib.hid ((hS1).cast (show _ = pc (w.heap.size + 1) 30 [vi j, vu gen2] * (pc w.heap.size 30 [vi k, vu gen] * (rxB q b rs.length cap times most * (rxL b cap rs * (plB L * (F))))) by ac_rfl)); have t0 := H2.out.cell 0 rfl; have t1 := H2.out.cell 1 rfl; have s0 := H2.out.dropL.cell 0 rfl; have s1 := H2.out.dropL.cell 1 rfl; clear hS1)
    | (go_at_call 89; refine (HPT.out _ _ ((H2.out).cast (show _ = rxB q b rs.length cap times most * (rxL b cap rs * (plB L * (pc (w.heap.size + 1) 30 [vi j, vu gen2] * (pc w.heap.size 30 [vi k, vu gen] * (F))))) by ac_rfl))).mono ?_; rintro e w3 ⟨rfl, hS3⟩; have H3 := Lib.hid ((hS3).cast (show _ = pc (w.heap.size + 1) 30 [vi j, vu gen2] * (pc w.heap.size 30 [vi k, vu gen] * (rxB q b rs.length cap times most * (rxL b cap rs * (plB L * (F))))) by ac_rfl)); clear hS3))
  have hx : Sat w0 (pc w3.heap.size 49 (elC ⟨y0, y1, b2, m2, d2, y3⟩) * (pc (w.heap.size + 1) 30 [vi j, vu gen2] * (pc w.heap.size 30 [vi k, vu gen] * (rxB q b rs.length cap times most * (rxL b cap rs * (plB L * (F))))))) _ := (H3.out.alloc (elO ⟨y0, y1, b2, m2, d2, y3⟩)).drew
  have HX := Lib.hid hx
  have hz : Sat w0 (pc w3.heap.size 49 (elC ez) * (pc (w.heap.size + 1) 30 [vi j, vu gen2] * (pc w.heap.size 30 [vi k, vu gen] * (rxB q b rs.length cap times most * (rxL b cap rs * (plB L * (F))))))) _ := (H3.out.alloc (elO ez)).drew
  have HZ := Lib.hid hz
  clear hx hz
  have ka0 := (H3.out.drew).dropL.dropL.cell 0 rfl; have ka1 := (H3.out.drew).cell 0 rfl; have ka2 := rx_at ((H3.out.drew).dropL.dropL.dropL) (j := 2) HD.out rfl; have ka3 := rx_at ((H3.out.drew).dropL.dropL.dropL) (j := 3) HD.out rfl; have ka4 := rx_at ((H3.out.drew).dropL.dropL.dropL) (j := 4) HD.out rfl; have ka5 := rx_at ((H3.out.drew).dropL.dropL.dropL) (j := 5) HD.out rfl; rw [show j * 7 + 3 = j * 7 + 2 + 1 by omega] at ka3; rw [show j * 7 + 4 = j * 7 + 2 + 2 by omega] at ka4; rw [show j * 7 + 5 = j * 7 + 2 + 3 by omega] at ka5
  have kb0 := (HX.out).dropL.dropL.dropL.cell 0 rfl; have kb1 := (HX.out).dropL.cell 0 rfl; have kb2 := rx_at ((HX.out).dropL.dropL.dropL.dropL) (j := 2) HD.out rfl; have kb3 := rx_at ((HX.out).dropL.dropL.dropL.dropL) (j := 3) HD.out rfl; have kb4 := rx_at ((HX.out).dropL.dropL.dropL.dropL) (j := 4) HD.out rfl; have kb5 := rx_at ((HX.out).dropL.dropL.dropL.dropL) (j := 5) HD.out rfl; rw [show j * 7 + 3 = j * 7 + 2 + 1 by omega] at kb3; rw [show j * 7 + 4 = j * 7 + 2 + 2 by omega] at kb4; rw [show j * 7 + 5 = j * 7 + 2 + 3 by omega] at kb5
  have kz0 := (HZ.out).dropL.dropL.dropL.cell 0 rfl; have kz1 := (HZ.out).dropL.cell 0 rfl; have kz2 := rx_at ((HZ.out).dropL.dropL.dropL.dropL) (j := 2) HD.out rfl; have kz3 := rx_at ((HZ.out).dropL.dropL.dropL.dropL) (j := 3) HD.out rfl; have kz4 := rx_at ((HZ.out).dropL.dropL.dropL.dropL) (j := 4) HD.out rfl; have kz5 := rx_at ((HZ.out).dropL.dropL.dropL.dropL) (j := 5) HD.out rfl; rw [show j * 7 + 3 = j * 7 + 2 + 1 by omega] at kz3; rw [show j * 7 + 4 = j * 7 + 2 + 2 by omega] at kz4; rw [show j * 7 + 5 = j * 7 + 2 + 3 by omega] at kz5
  go_region_held3 (fun w' : World => w'.cell? ⟨q, 0, none⟩ = some (.slice (some ⟨b, 0, none⟩) rs.length cap) ∧ w'.cell? ⟨(w.heap.size + 1), 0, none⟩ = some (vi j) ∧ w'.cell? ⟨b, j * 7 + 2, none⟩ = some (vu y0) ∧ w'.cell? ⟨b, j * 7 + 2 + 1, none⟩ = some (vu y1) ∧ w'.cell? ⟨b, j * 7 + 2 + 2, none⟩ = some (.slice b2 m2 d2) ∧ w'.cell? ⟨b, j * 7 + 2 + 3, none⟩ = some (vi y3))
    (first | exact ⟨ka0, ka1, ka2, ka3, ka4, ka5⟩ | exact ⟨kb0, kb1, kb2, kb3, kb4, kb5⟩ | exact ⟨kz0, kz1, kz2, kz3, kz4, kz5⟩ | go_keep)
    (fail)
  clear ka0 kb0 kz0 ka1 kb1 kz1 ka2 kb2 kz2 ka3 kb3 kz3 ka4 kb4 kz4 ka5 kb5 kz5 HZ
  have z0 := HX.out.cell 0 rfl
  have z1 := HX.out.cell 1 rfl
  have z2 := HX.out.cell 2 rfl
  have z3 := HX.out.cell 3 rfl
  go_wp2
  have ya0 := (HX.out).dropL.dropL.dropL.cell 2 rfl; have ya1 := (HX.out).cell 2 rfl
  go_region_held3 (fun w' : World => w'.cell? ⟨q, 2, none⟩ = some (vi most) ∧ w'.cell? ⟨w3.heap.size, 2, none⟩ = some (.slice b2 m2 d2))
    (first | exact ⟨ya0, ya1⟩ | exact ⟨yb0, yb1⟩ | go_keep)
    ((go_at_call 91; refine (HGV.out _ (Sat.plRd ((HX.out.drew).cast (show _ = plB L * (pc w3.heap.size 49 (elC ⟨y0, y1, b2, m2, d2, y3⟩) * (pc (w.heap.size + 1) 30 [vi j, vu gen2] * (pc w.heap.size 30 [vi k, vu gen] * (rxB q b rs.length cap times most * (rxL b cap rs * (F)))))) by ac_rfl)) HK.out)).mono ?_; rintro e w5 ⟨rfl, hb5⟩; have H5 := Lib.hid (Sat.after HX.out.drew hb5); clear hb5; have yb0 := (H5.out).dropL.dropL.dropL.cell 2 rfl; have yb1 := (H5.out).cell 2 rfl))
  go_wp2
  go_ret
  exact ⟨rfl, H5.out.dropL.dropL.dropL⟩
set_option maxRecDepth 100000 in
set_option maxHeartbeats 8000000 in
theorem rx_don_ok_ (hS : Sat w0 (rxB q b rs.length cap times most * (rxL b cap rs * (plB L * (F)))) w) {k j : Nat} {a d : RPl} (ha : rs[k]? = some a) (ht : a.there = true) (hd : rs[j]? = some d) (htd : d.there = true) (hi8 : InP L (.slice a.x.a2 a.x.n2 a.x.c2) l) (hl : l.length ≤ 1000) (amount now : Int) (hkj : k ≠ j) (hp : partC a.x.v0 l amount now = 0) (hw : 0 ≤ d.x.v0 + amount ∧ d.x.v0 + amount ≤ 18446744073709551615) (hi9 : InP L (.slice d.x.a2 d.x.n2 d.x.c2) m) (hml : m.length ≤ 1000) (hua : U64 amount) (hun : U64 now) (hgv : GvOk m amount most) (htot : tot m + amount ≤ 18446744073709551615) (ho : ¬ 4294967296 < d.x.v0 + amount) (hf : ¬ (thN m now = 0 ∧ (m.length : Int) = most)) (hpu : PuOk l amount) (hle : amount ≤ thereV l now) (hv2 : amount ≤ a.x.v0 ∧ a.x.v0 ≤ 18446744073709551615) (hok1 : OkL (giveL m now amount)) (hok2 : OkL (lessL (dueL l now) amount)) (P : World → Prop) (hP : ∀ w', (∃ ao lc ao2 lc2 L3, (∀ x ∈ L, x ∈ L3) ∧ InP L3 (.slice ao (giveL m now amount).length lc) (giveL m now amount) ∧ InP L3 (.slice ao2 (lessL (dueL l now) amount).length lc2) (lessL (dueL l now) amount) ∧ Sat w0 (rxB q b rs.length cap times most * (rxL b cap ((rs.set j { d with x := ⟨d.x.v0 + amount, d.x.v1, ao, (giveL m now amount).length, lc, d.x.v3⟩ }).set k { a with x := ⟨a.x.v0 - amount, a.x.v1, ao2, (lessL (dueL l now) amount).length, lc2, a.x.v3⟩ }) * (plB L3 * (F)))) w') → P w') :
    Calls Try.prog 49 #[vp q, vr k a.gen, vr j d.gen, vu amount, vu now] w fun e w' => e = .returned (vi 0) ∧ P w' := by
  have HP2 := Lib.hid hP
  clear hP
  obtain ⟨gen, th, ⟨v0, v1, a2, n2, c2, v3⟩, fr⟩ := a
  obtain ⟨gen2, th2, ⟨y0, y1, b2, m2, d2, y3⟩, fr2⟩ := d
  have hi := isR_of ha ht
  have hj := isR_of hd htd
  (try dsimp only at *)
  have hB0 := (hS.alloc (.cells #[vi k, vu gen] 30)).alloc (.cells #[vi j, vu gen2] 30)
  rw [size1] at hB0
  have hB : Sat w0 (pc (w.heap.size + 1) 30 [vi j, vu gen2] * (pc w.heap.size 30 [vi k, vu gen] * (rxB q b rs.length cap times most * (rxL b cap rs * (plB L * (F)))))) _ := hB0
  have b0 := hB.dropL.cell 0 rfl
  have b1 := hB.dropL.cell 1 rfl
  have HB := Lib.hid hB
  have HI : Hid (∀ (w1 : World) (G : Hp), Sat w0 (rxB q b rs.length cap times most * (rxL b cap rs * (G))) w1 → Calls Try.prog 86 #[vp q, vr k gen] w1 fun e w' => e = .returned (.bool true) ∧ Sat w0 (rxB q b rs.length cap times most * (rxL b cap rs * (G))) w') := Lib.hid (fun w1 G h1 => by
    have := rx_is h1 k gen
    rw [hi] at this
    exact this)
  have HJ : Hid (∀ (w1 : World) (G : Hp), Sat w0 (rxB q b rs.length cap times most * (rxL b cap rs * (G))) w1 → Calls Try.prog 86 #[vp q, vr j gen2] w1 fun e w' => e = .returned (.bool true) ∧ Sat w0 (rxB q b rs.length cap times most * (rxL b cap rs * (G))) w') := Lib.hid (fun w1 G h1 => by
    have := rx_is h1 j gen2
    rw [hj] at this
    exact this)
  have HPT : Hid (∀ (w1 : World) (G : Hp), Sat w0 (rxB q b rs.length cap times most * (rxL b cap rs * (plB L * (G)))) w1 → Calls Try.prog 89 #[vp q, vr k gen, vu amount, vu now] w1 fun e w' => e = .returned (vi 0) ∧ Sat w0 (rxB q b rs.length cap times most * (rxL b cap rs * (plB L * (G)))) w') := Lib.hid (fun w1 G h1 => by
    have := rx_part h1 ha hi8 hl gen amount now
    rw [hp] at this
    exact this)
  have hb : ((k : Int) == (j : Int)) = false := beq_eq_false_iff_ne.2 (by omega)
  (try dsimp only at HP2)
  have HGV : Hid (∀ (w' : World), RdF w' (.slice b2 m2 d2) m → Calls Try.prog 91 #[.slice b2 m2 d2, vu now, vu amount, vi most] w' fun e w'' => ∃ v', e = .returned (.tuple #[v', vi 0]) ∧ Sat w' (fiS v' (giveL m now amount) * emp) w'') := Lib.hid (fun w' hr => (rgive_ hr hml hua hun hgv).mono fun e w2 hh => by
    unfold GiveOut at hh
    rw [if_neg (by omega), if_neg hf] at hh
    exact hh)
  have HPU : Hid (∀ (x : El) (L2 : Blks) (w1 : World) (G : Hp), (∀ x ∈ L, x ∈ L2) → Sat w0 (rxB q b rs.length cap times most * (rxL b cap (rs.set j ⟨gen2, th2, x, fr2⟩) * (plB L2 * (G)))) w1 → Calls Try.prog 90 #[vp q, vr k gen, vu amount, vu now] w1 fun e w' => ∃ ao2 lc2 L3, (∃ v, e = .returned v) ∧ (∀ x ∈ L2, x ∈ L3) ∧ InP L3 (.slice ao2 (lessL (dueL l now) amount).length lc2) (lessL (dueL l now) amount) ∧ Sat w0 (rxB q b rs.length cap times most * (rxL b cap ((rs.set j ⟨gen2, th2, x, fr2⟩).set k ⟨gen, th, ⟨v0 - amount, v1, ao2, (lessL (dueL l now) amount).length, lc2, v3⟩, fr⟩) * (plB L3 * (G)))) w') := Lib.hid (fun x L2 w1 G hsub h1 => by
    have h2 := rx_pull (rs := rs.set j ⟨gen2, th2, x, fr2⟩) (F := G) (L := L2) (by rw [List.length_set]; exact h1) (by rw [List.getElem?_set_ne (fun e => hkj e.symm)]; exact ha) (hi8.mono hsub) hl gen amount now hua hpu hle hv2 hok2
    rw [List.length_set] at h2
    exact h2)
  have HK := Lib.hid hi9
  have HOK1 := Lib.hid hok1
  generalize giveL m now amount = gn at *
  generalize lessL (dueL l now) amount = ln at *
  clear hi9 hml hua hun hgv htot hf hok1 hok2 hpu hle hv2
  have hjl : (j : Int) < (rs.length : Int) := by have := (List.getElem?_eq_some_iff.1 hd).1; omega
  have hj0 : (0 : Int) ≤ (j : Int) := by omega
  have HD := Lib.hid hd
  clear hd
  have hwy : IntKind.u64.wrap (y0 + amount) = y0 + amount := IntWalk.u64_in _ (by omega)
  clear hS hB hB0 hi hj ha ht htd hkj hi8 hp
  go_enter Try.func49, Try.ntmps49
  go_wp2_with (first
    | (go_at_call 86; (with_reducible refine (HI.out _ _ ((HB.out).cast (show _ = rxB q b rs.length cap times most * (rxL b cap rs * (pc (w.heap.size + 1) 30 [vi j, vu gen2] * (pc w.heap.size 30 [vi k, vu gen] * (plB L * (F))))) by ac_rfl))).mono ?_); rintro e w_H1 ⟨rfl, hS1⟩; have H1 := Lib.hid ((hS1).cast (show _ = pc (w.heap.size + 1) 30 [vi j, vu gen2] * (pc w.heap.size 30 [vi k, vu gen] * (rxB q b rs.length cap times most * (rxL b cap rs * (plB L * (F))))) by ac_rfl)); have t0 := H1.out.cell 0 rfl; have t1 := H1.out.cell 1 rfl; have s0 := H1.out.dropL.cell 0 rfl; have s1 := H1.out.dropL.cell 1 rfl; clear hS1)
    | (go_at_call 86; (with_reducible refine (HJ.out _ _ ((H1.out).cast (show _ = rxB q b rs.length cap times most * (rxL b cap rs * (pc (w.heap.size + 1) 30 [vi j, vu gen2] * (pc w.heap.size 30 [vi k, vu gen] * (plB L * (F))))) by ac_rfl))).mono ?_); rintro e w_H2 ⟨rfl, hS1⟩; have H2 := Lib.hid ((hS1).cast (show _ = pc (w.heap.size + 1) 30 [vi j, vu gen2] * (pc w.heap.size 30 [vi k, vu gen] * (rxB q b rs.length cap times most * (rxL b cap rs * (plB L * (F))))) by ac_rfl)); have t0 := H2.out.cell 0 rfl; have t1 := H2.out.cell 1 rfl; have s0 := H2.out.dropL.cell 0 rfl; have s1 := H2.out.dropL.cell 1 rfl; clear hS1)
    | (go_at_call 89; refine (HPT.out _ _ ((H2.out).cast (show _ = rxB q b rs.length cap times most * (rxL b cap rs * (plB L * (pc (w.heap.size + 1) 30 [vi j, vu gen2] * (pc w.heap.size 30 [vi k, vu gen] * (F))))) by ac_rfl))).mono ?_; rintro e w3 ⟨rfl, hS3⟩; have H3 := Lib.hid ((hS3).cast (show _ = pc (w.heap.size + 1) 30 [vi j, vu gen2] * (pc w.heap.size 30 [vi k, vu gen] * (rxB q b rs.length cap times most * (rxL b cap rs * (plB L * (F))))) by ac_rfl)); clear hS3))
  have hx : Sat w0 (pc w3.heap.size 49 (elC ⟨y0, y1, b2, m2, d2, y3⟩) * (pc (w.heap.size + 1) 30 [vi j, vu gen2] * (pc w.heap.size 30 [vi k, vu gen] * (rxB q b rs.length cap times most * (rxL b cap rs * (plB L * (F))))))) _ := (H3.out.alloc (elO ⟨y0, y1, b2, m2, d2, y3⟩)).drew
  have HX := Lib.hid hx
  have hz : Sat w0 (pc w3.heap.size 49 (elC ez) * (pc (w.heap.size + 1) 30 [vi j, vu gen2] * (pc w.heap.size 30 [vi k, vu gen] * (rxB q b rs.length cap times most * (rxL b cap rs * (plB L * (F))))))) _ := (H3.out.alloc (elO ez)).drew
  have HZ := Lib.hid hz
  clear hx hz
  have ka0 := (H3.out.drew).dropL.dropL.cell 0 rfl; have ka1 := (H3.out.drew).cell 0 rfl; have ka2 := rx_at ((H3.out.drew).dropL.dropL.dropL) (j := 2) HD.out rfl; have ka3 := rx_at ((H3.out.drew).dropL.dropL.dropL) (j := 3) HD.out rfl; have ka4 := rx_at ((H3.out.drew).dropL.dropL.dropL) (j := 4) HD.out rfl; have ka5 := rx_at ((H3.out.drew).dropL.dropL.dropL) (j := 5) HD.out rfl; rw [show j * 7 + 3 = j * 7 + 2 + 1 by omega] at ka3; rw [show j * 7 + 4 = j * 7 + 2 + 2 by omega] at ka4; rw [show j * 7 + 5 = j * 7 + 2 + 3 by omega] at ka5
  have kb0 := (HX.out).dropL.dropL.dropL.cell 0 rfl; have kb1 := (HX.out).dropL.cell 0 rfl; have kb2 := rx_at ((HX.out).dropL.dropL.dropL.dropL) (j := 2) HD.out rfl; have kb3 := rx_at ((HX.out).dropL.dropL.dropL.dropL) (j := 3) HD.out rfl; have kb4 := rx_at ((HX.out).dropL.dropL.dropL.dropL) (j := 4) HD.out rfl; have kb5 := rx_at ((HX.out).dropL.dropL.dropL.dropL) (j := 5) HD.out rfl; rw [show j * 7 + 3 = j * 7 + 2 + 1 by omega] at kb3; rw [show j * 7 + 4 = j * 7 + 2 + 2 by omega] at kb4; rw [show j * 7 + 5 = j * 7 + 2 + 3 by omega] at kb5
  have kz0 := (HZ.out).dropL.dropL.dropL.cell 0 rfl; have kz1 := (HZ.out).dropL.cell 0 rfl; have kz2 := rx_at ((HZ.out).dropL.dropL.dropL.dropL) (j := 2) HD.out rfl; have kz3 := rx_at ((HZ.out).dropL.dropL.dropL.dropL) (j := 3) HD.out rfl; have kz4 := rx_at ((HZ.out).dropL.dropL.dropL.dropL) (j := 4) HD.out rfl; have kz5 := rx_at ((HZ.out).dropL.dropL.dropL.dropL) (j := 5) HD.out rfl; rw [show j * 7 + 3 = j * 7 + 2 + 1 by omega] at kz3; rw [show j * 7 + 4 = j * 7 + 2 + 2 by omega] at kz4; rw [show j * 7 + 5 = j * 7 + 2 + 3 by omega] at kz5
  go_region_held3 (fun w' : World => w'.cell? ⟨q, 0, none⟩ = some (.slice (some ⟨b, 0, none⟩) rs.length cap) ∧ w'.cell? ⟨(w.heap.size + 1), 0, none⟩ = some (vi j) ∧ w'.cell? ⟨b, j * 7 + 2, none⟩ = some (vu y0) ∧ w'.cell? ⟨b, j * 7 + 2 + 1, none⟩ = some (vu y1) ∧ w'.cell? ⟨b, j * 7 + 2 + 2, none⟩ = some (.slice b2 m2 d2) ∧ w'.cell? ⟨b, j * 7 + 2 + 3, none⟩ = some (vi y3))
    (first | exact ⟨ka0, ka1, ka2, ka3, ka4, ka5⟩ | exact ⟨kb0, kb1, kb2, kb3, kb4, kb5⟩ | exact ⟨kz0, kz1, kz2, kz3, kz4, kz5⟩ | go_keep)
    (fail)
  clear ka0 kb0 kz0 ka1 kb1 kz1 ka2 kb2 kz2 ka3 kb3 kz3 ka4 kb4 kz4 ka5 kb5 kz5 HZ
  have z0 := HX.out.cell 0 rfl
  have z1 := HX.out.cell 1 rfl
  have z2 := HX.out.cell 2 rfl
  have z3 := HX.out.cell 3 rfl
  go_wp2
  have ya0 := (HX.out).dropL.dropL.dropL.cell 2 rfl; have ya1 := (HX.out).cell 2 rfl
  go_region_held3 (fun w' : World => w'.cell? ⟨q, 2, none⟩ = some (vi most) ∧ w'.cell? ⟨w3.heap.size, 2, none⟩ = some (.slice b2 m2 d2))
    (first | exact ⟨ya0, ya1⟩ | exact ⟨yb0, yb1⟩ | go_keep)
    ((go_at_call 91; refine (HGV.out _ (Sat.plRd ((HX.out.drew).cast (show _ = plB L * (pc w3.heap.size 49 (elC ⟨y0, y1, b2, m2, d2, y3⟩) * (pc (w.heap.size + 1) 30 [vi j, vu gen2] * (pc w.heap.size 30 [vi k, vu gen] * (rxB q b rs.length cap times most * (rxL b cap rs * (F)))))) by ac_rfl)) HK.out)).mono ?_; rintro e w5 ⟨vn, rfl, hS5⟩; have h5 := (Sat.link HX.out.drew hS5).cast (show _ = fiS vn gn * (plB L * (pc w3.heap.size 49 (elC ⟨y0, y1, b2, m2, d2, y3⟩) * (pc (w.heap.size + 1) 30 [vi j, vu gen2] * (pc w.heap.size 30 [vi k, vu gen] * (rxB q b rs.length cap times most * (rxL b cap rs * (F))))))) by ac_rfl); obtain ⟨L2, hsub, hin, h6⟩ := h5.plIn HOK1.out; obtain ⟨ao, lc, rfl⟩ := hin.form; have HSUB := Lib.hid hsub; have HIN := Lib.hid hin; have H5 := Lib.hid ((h6).cast (show _ = pc w3.heap.size 49 (elC ⟨y0, y1, b2, m2, d2, y3⟩) * (pc (w.heap.size + 1) 30 [vi j, vu gen2] * (pc w.heap.size 30 [vi k, vu gen] * (rxB q b rs.length cap times most * (rxL b cap rs * (plB L2 * (F)))))) by ac_rfl)); clear hS5 h5 h6 hsub hin; have yb0 := (H5.out).dropL.dropL.dropL.cell 2 rfl; have yb1 := (H5.out).cell 2 rfl))
  have e0 := H5.out.cell 0 rfl
  have e1 := H5.out.cell 1 rfl
  have e2 := H5.out.cell 2 rfl
  have e3 := H5.out.cell 3 rfl
  have f2 := H5.out.free 2
  have f0 := H5.out.free 0
  have h6 : Sat w0 (pc w3.heap.size 49 (elC ⟨y0, y1, ao, gn.length, lc, y3⟩) * (pc (w.heap.size + 1) 30 [vi j, vu gen2] * (pc w.heap.size 30 [vi k, vu gen] * (rxB q b rs.length cap times most * (rxL b cap rs * (plB L2 * (F))))))) _ := H5.out.store 2 (.slice ao gn.length lc)
  have f0' := h6.free 0
  have h7 : Sat w0 (pc w3.heap.size 49 (elC ⟨y0 + amount, y1, ao, gn.length, lc, y3⟩) * (pc (w.heap.size + 1) 30 [vi j, vu gen2] * (pc w.heap.size 30 [vi k, vu gen] * (rxB q b rs.length cap times most * (rxL b cap rs * (plB L2 * (F))))))) _ := h6.store 0 (vu (y0 + amount))
  have H7 := Lib.hid h7
  clear h6 h7
  go_wp2
  clear e0 e1 e2 e3 f2 f0 f0' z0 z1 z2 z3 ya0 ya1 yb0 yb1
  generalize World.setCell (World.setCell _ _ _) _ _ = w7 at *
  have u0 := H7.out.dropL.dropL.dropL.cell 0 rfl
  have u1 := H7.out.dropL.cell 0 rfl
  have u2 := H7.out.dropL.cell 1 rfl
  have s0 := H7.out.dropL.dropL.cell 0 rfl
  have s1 := H7.out.dropL.dropL.cell 1 rfl
  have e0 := H7.out.cell 0 rfl
  have e1 := H7.out.cell 1 rfl
  have e2 := H7.out.cell 2 rfl
  have e3 := H7.out.cell 3 rfl
  have HTH : Hid (w7.drew.there b (j * 7 + 2) 4) := Lib.hid (fun i hi => by
    have h3 := rx_at H7.out.drew.dropL.dropL.dropL.dropL HD.out (j := 2 + i) (v := (elC ⟨y0, y1, b2, m2, d2, y3⟩)[i]'hi) (by
      rcases i with _ | _ | _ | _ | i
      all_goals first | rfl | (exfalso; omega))
    rw [← Nat.add_assoc] at h3
    rw [h3]
    exact ⟨rfl, rx_free H7.out.drew.dropL.dropL.dropL.dropL _⟩)
  have hs2 : Sat w0 (rxL b cap (rs.set j ⟨gen2, th2, ⟨y0 + amount, y1, ao, gn.length, lc, y3⟩, fr2⟩) * (pc w3.heap.size 49 (elC ⟨y0 + amount, y1, ao, gn.length, lc, y3⟩) * (pc (w.heap.size + 1) 30 [vi j, vu gen2] * (pc w.heap.size 30 [vi k, vu gen] * (rxB q b rs.length cap times most * (plB L2 * (F))))))) (w7.drew.setCells b (j * 7 + 2) (elC ⟨y0 + amount, y1, ao, gn.length, lc, y3⟩).toArray.toList) := rx_storeX ((H7.out.drew).cast (show _ = rxL b cap rs * (pc w3.heap.size 49 (elC ⟨y0 + amount, y1, ao, gn.length, lc, y3⟩) * (pc (w.heap.size + 1) 30 [vi j, vu gen2] * (pc w.heap.size 30 [vi k, vu gen] * (rxB q b rs.length cap times most * (plB L2 * (F)))))) by ac_rfl)) HD.out ⟨y0 + amount, y1, ao, gn.length, lc, y3⟩
  have HS2 := Lib.hid hs2
  clear hs2
  refine wp_quiet_tail 9 (by kernel_rfl) (by kernel_rfl) ?_
  simp only [List.take_succ_cons, List.take_zero, List.drop_succ_cons, List.drop_zero]
  repeat (go_big_quiet_step (fail))
  refine wpQuiet_nil ?_
  go_wp2_with (first
    | (refine wpList_store_mid rfl 49 _ _ rfl b (j * 7 + 2) (elC ⟨y0 + amount, y1, ao, gn.length, lc, y3⟩).toArray (by rfl) (by rfl) HTH.out einfo (all_oneCell_toArray (elOne ⟨y0 + amount, y1, ao, gn.length, lc, y3⟩)) ?_; generalize hw8 : World.setCells _ _ _ _ = w8; have H8 : Hid (Sat w0 (pc w3.heap.size 49 (elC ⟨y0 + amount, y1, ao, gn.length, lc, y3⟩) * (pc (w.heap.size + 1) 30 [vi j, vu gen2] * (pc w.heap.size 30 [vi k, vu gen] * (rxB q b rs.length cap times most * (rxL b cap (rs.set j ⟨gen2, th2, ⟨y0 + amount, y1, ao, gn.length, lc, y3⟩, fr2⟩) * (plB L2 * (F))))))) w8) := Lib.hid ((hw8 ▸ HS2.out : Sat w0 (rxL b cap (rs.set j ⟨gen2, th2, ⟨y0 + amount, y1, ao, gn.length, lc, y3⟩, fr2⟩) * (pc w3.heap.size 49 (elC ⟨y0 + amount, y1, ao, gn.length, lc, y3⟩) * (pc (w.heap.size + 1) 30 [vi j, vu gen2] * (pc w.heap.size 30 [vi k, vu gen] * (rxB q b rs.length cap times most * (plB L2 * (F))))))) w8).cast (show _ = pc w3.heap.size 49 (elC ⟨y0 + amount, y1, ao, gn.length, lc, y3⟩) * (pc (w.heap.size + 1) 30 [vi j, vu gen2] * (pc w.heap.size 30 [vi k, vu gen] * (rxB q b rs.length cap times most * (rxL b cap (rs.set j ⟨gen2, th2, ⟨y0 + amount, y1, ao, gn.length, lc, y3⟩, fr2⟩) * (plB L2 * (F)))))) by ac_rfl)); clear hw8; have p0 := H8.out.dropL.dropL.cell 0 rfl; have p1 := H8.out.dropL.dropL.cell 1 rfl)
    | (go_at_call 90; refine (HPU.out ⟨y0 + amount, y1, ao, gn.length, lc, y3⟩ L2 _ _ HSUB.out ((H8.out).cast (show _ = rxB q b rs.length cap times most * (rxL b cap (rs.set j ⟨gen2, th2, ⟨y0 + amount, y1, ao, gn.length, lc, y3⟩, fr2⟩) * (plB L2 * (pc w3.heap.size 49 (elC ⟨y0 + amount, y1, ao, gn.length, lc, y3⟩) * (pc (w.heap.size + 1) 30 [vi j, vu gen2] * (pc w.heap.size 30 [vi k, vu gen] * (F)))))) by ac_rfl))).mono ?_; rintro e w9 ⟨ao2, lc2, L3, ⟨vv, rfl⟩, hsub3, hin3, hS9⟩; have HSUB3 := Lib.hid hsub3; have HIN3 := Lib.hid hin3; have H9 := Lib.hid ((hS9).cast (show _ = pc w3.heap.size 49 (elC ⟨y0 + amount, y1, ao, gn.length, lc, y3⟩) * (pc (w.heap.size + 1) 30 [vi j, vu gen2] * (pc w.heap.size 30 [vi k, vu gen] * (rxB q b rs.length cap times most * (rxL b cap ((rs.set j ⟨gen2, th2, ⟨y0 + amount, y1, ao, gn.length, lc, y3⟩, fr2⟩).set k ⟨gen, th, ⟨v0 - amount, v1, ao2, ln.length, lc2, v3⟩, fr⟩) * (plB L3 * (F)))))) by ac_rfl)); clear hS9 hsub3 hin3))
  go_ret
  exact ⟨rfl, HP2.out _ ⟨ao, lc, ao2, lc2, L3, fun x hx => HSUB3.out x (HSUB.out x hx), HIN.out.mono HSUB3.out, HIN3.out, H9.out.dropL.dropL.dropL⟩⟩
set_option maxRecDepth 100000 in
set_option maxHeartbeats 4000000 in
theorem rx_don_ok (hS : Sat w0 (rxB q b rs.length cap times most * (rxL b cap rs * (plB L * (F)))) w) {k j : Nat} {a d : RPl} (ha : rs[k]? = some a) (ht : a.there = true) (hd : rs[j]? = some d) (htd : d.there = true) (hi8 : InP L (.slice a.x.a2 a.x.n2 a.x.c2) l) (hl : l.length ≤ 1000) (amount now : Int) (hkj : k ≠ j) (hp : partC a.x.v0 l amount now = 0) (hw : 0 ≤ d.x.v0 + amount ∧ d.x.v0 + amount ≤ 18446744073709551615) (hi9 : InP L (.slice d.x.a2 d.x.n2 d.x.c2) m) (hml : m.length ≤ 1000) (hua : U64 amount) (hun : U64 now) (hgv : GvOk m amount most) (htot : tot m + amount ≤ 18446744073709551615) (ho : ¬ 4294967296 < d.x.v0 + amount) (hf : ¬ (thN m now = 0 ∧ (m.length : Int) = most)) (hpu : PuOk l amount) (hle : amount ≤ thereV l now) (hv2 : amount ≤ a.x.v0 ∧ a.x.v0 ≤ 18446744073709551615) (hok1 : OkL (giveL m now amount)) (hok2 : OkL (lessL (dueL l now) amount)) :
    Calls Try.prog 49 #[vp q, vr k a.gen, vr j d.gen, vu amount, vu now] w fun e w' => ∃ ao lc ao2 lc2 L3, e = .returned (vi 0) ∧ (∀ x ∈ L, x ∈ L3) ∧ InP L3 (.slice ao (giveL m now amount).length lc) (giveL m now amount) ∧ InP L3 (.slice ao2 (lessL (dueL l now) amount).length lc2) (lessL (dueL l now) amount) ∧ Sat w0 (rxB q b rs.length cap times most * (rxL b cap ((rs.set j { d with x := ⟨d.x.v0 + amount, d.x.v1, ao, (giveL m now amount).length, lc, d.x.v3⟩ }).set k { a with x := ⟨a.x.v0 - amount, a.x.v1, ao2, (lessL (dueL l now) amount).length, lc2, a.x.v3⟩ }) * (plB L3 * (F)))) w' := by
  exact (rx_don_ok_ hS ha ht hd htd hi8 hl amount now hkj hp hw hi9 hml hua hun hgv htot ho hf hpu hle hv2 hok1 hok2 _ (fun _ h => h)).mono fun e w' ⟨h1, ao, lc, ao2, lc2, L3, h2, h3, h4, h5⟩ => ⟨ao, lc, ao2, lc2, L3, h1, h2, h3, h4, h5⟩
end
end Go.Proofs.Ytknodagcmachiaa.Cn
