/-
  The reference of layer 8: Can of none, Next, part, Bind. No statement is proved here.
-/
import Derived.Test.YtknodagcmachiaaMg15
namespace Go.Proofs.Ytknodagcmachiaa.Cn
open Go.RowKit Ac Fi
set_option linter.unusedVariables false
set_option linter.unusedSimpArgs false

section
variable {w0 w : World} {F : Hp} {q b cap : Nat} {times most : Int} {rs : List RPl} {L : Blks} {l m : List Rf}
set_option maxRecDepth 100000 in
set_option maxHeartbeats 4000000 in
theorem rx_can_no (hS : Sat w0 (rxB q b rs.length cap times most * (rxL b cap rs * (plB L * (F)))) w) (i g : Int) (hi : isR rs i g = none) (now : Int) :
    Calls Try.prog 46 #[vp q, vr i g, vu now] w fun e w' => e = .returned (.bool false) ∧ Sat w0 (rxB q b rs.length cap times most * (rxL b cap rs * (plB L * (F)))) w' := by
  have hB : Sat w0 (pc w.heap.size 30 [vi i, vu g] * (rxB q b rs.length cap times most * (rxL b cap rs * (plB L * (F))))) (w.alloc (.cells #[vi i, vu g] 30)) := hS.alloc (.cells #[vi i, vu g] 30)
  have b0 := hB.cell 0 rfl
  have b1 := hB.cell 1 rfl
  have HB := Lib.hid hB
  have HI := Lib.hid (rx_is (Sat.drew <| (hB).cast (show _ = rxB q b rs.length cap times most * (rxL b cap rs * (pc w.heap.size 30 [vi i, vu g] * (plB L * (F)))) by ac_rfl)) i g)
  rw [hi, show (none : Option (Nat × RPl)).isSome = false from rfl] at HI
  clear hS hB hi
  obtain ⟨wb, hwb⟩ : ∃ wb, wb = (w.alloc (.cells #[vi i, vu g] 30)) := ⟨_, rfl⟩
  go_enter Try.func46, Try.ntmps46
  go_wp2
  have hS0 : (fun w' : World => w'.cell? ⟨w.heap.size, 0, none⟩ = some (vi i) ∧ w'.cell? ⟨w.heap.size, 1, none⟩ = some (vu g)) (World.drew (w.alloc (.cells #[vi i, vu g] 30))) := ⟨b0, b1⟩
  refine wp_region_held (S := (fun w' : World => w'.cell? ⟨w.heap.size, 0, none⟩ = some (vi i) ∧ w'.cell? ⟨w.heap.size, 1, none⟩ = some (vu g))) (by kernel_rfl) ?_
  change wpAnyH _ _ _ _ _ _ _ _ (World.drew _)
  refine wpAnyH_take (i := 0) (v := vp q) rfl (by kernel_rfl) (by kernel_rfl) (by kernel_rfl) (fun _ _ _ h => h) (Or.inl ⟨by rfl, fun w' hw' => by go_simp⟩) hS0 ?_
  simp only [Act.put, List.setIfInBounds_toArray, List.set_cons_zero, List.set_cons_succ]
  refine wpAnyH_take (i := 1) (v := vr i g) rfl (by kernel_rfl) (by kernel_rfl) (by kernel_rfl) (fun _ _ _ h => h) (Or.inl ⟨by rfl, fun w' hw' => by (have h1 := hw'.1; have h2 := hw'.2; go_simp)⟩) hS0 ?_
  simp only [Act.put, List.setIfInBounds_toArray, List.set_cons_zero, List.set_cons_succ]
  refine wpAnyH_ready (rs := [2]) (by kernel_rfl) (by simp) ?_
  refine AllReadyH.cons rfl (fun K1 hK1 => ?_) AllReadyH.nil
  go_simp
  refine HI.out.mono ?_
  rintro e w1 ⟨rfl, hS1⟩
  have H1 := Lib.hid ((hS1).cast (show _ = pc w.heap.size 30 [vi i, vu g] * (rxB q b rs.length cap times most * (rxL b cap rs * (plB L * (F)))) by ac_rfl))
  clear hS1
  have hS1 : (fun w' : World => w'.cell? ⟨w.heap.size, 0, none⟩ = some (vi i) ∧ w'.cell? ⟨w.heap.size, 1, none⟩ = some (vu g)) w1 := ⟨H1.out.cell 0 rfl, H1.out.cell 1 rfl⟩
  refine hK1.out _ _ hS1 (fun _ => ?_)
  try simp only [Act.put, List.setIfInBounds_toArray, List.set_cons_zero, List.set_cons_succ]
  refine wpAnyH_take (i := 3) (v := (.bool false)) rfl (by kernel_rfl) (by kernel_rfl) (by kernel_rfl) (fun _ _ _ h => h) (Or.inl ⟨by rfl, fun w' hw' => by go_simp⟩) hS1 ?_
  simp only [Act.put, List.setIfInBounds_toArray, List.set_cons_zero, List.set_cons_succ]
  refine wpAnyH_take (i := 4) (v := undef) rfl (by kernel_rfl) (by kernel_rfl) (by kernel_rfl) (fun _ _ _ h => h) (Or.inr ⟨by kernel_rfl, rfl⟩) hS1 ?_
  simp only [Act.put, List.getElem_toArray, List.getElem_cons_succ, List.getElem_cons_zero, List.setIfInBounds_toArray, List.set_cons_zero, List.set_cons_succ]
  refine wpAnyH_take (i := 5) (v := undef) rfl (by kernel_rfl) (by kernel_rfl) (by kernel_rfl) (fun _ _ _ h => h) (Or.inr ⟨by kernel_rfl, rfl⟩) hS1 ?_
  simp only [Act.put, List.getElem_toArray, List.getElem_cons_succ, List.getElem_cons_zero, List.setIfInBounds_toArray, List.set_cons_zero, List.set_cons_succ]
  refine wpAnyH_take (i := 6) (v := undef) rfl (by kernel_rfl) (by kernel_rfl) (by kernel_rfl) (fun _ _ _ h => h) (Or.inr ⟨by kernel_rfl, rfl⟩) hS1 ?_
  simp only [Act.put, List.getElem_toArray, List.getElem_cons_succ, List.getElem_cons_zero, List.setIfInBounds_toArray, List.set_cons_zero, List.set_cons_succ]
  refine wpAnyH_take (i := 7) (v := undef) rfl (by kernel_rfl) (by kernel_rfl) (by kernel_rfl) (fun _ _ _ h => h) (Or.inr ⟨by kernel_rfl, rfl⟩) hS1 ?_
  simp only [Act.put, List.getElem_toArray, List.getElem_cons_succ, List.getElem_cons_zero, List.setIfInBounds_toArray, List.set_cons_zero, List.set_cons_succ]
  refine wpAnyH_take (i := 8) (v := undef) rfl (by kernel_rfl) (by kernel_rfl) (by kernel_rfl) (fun _ _ _ h => h) (Or.inr ⟨by kernel_rfl, rfl⟩) hS1 ?_
  simp only [Act.put, List.getElem_toArray, List.getElem_cons_succ, List.getElem_cons_zero, List.setIfInBounds_toArray, List.set_cons_zero, List.set_cons_succ]
  refine wpAnyH_take (i := 9) (v := undef) rfl (by kernel_rfl) (by kernel_rfl) (by kernel_rfl) (fun _ _ _ h => h) (Or.inr ⟨by kernel_rfl, rfl⟩) hS1 ?_
  simp only [Act.put, List.getElem_toArray, List.getElem_cons_succ, List.getElem_cons_zero, List.setIfInBounds_toArray, List.set_cons_zero, List.set_cons_succ]
  refine wpAnyH_take (i := 10) (v := undef) rfl (by kernel_rfl) (by kernel_rfl) (by kernel_rfl) (fun _ _ _ h => h) (Or.inr ⟨by kernel_rfl, rfl⟩) hS1 ?_
  simp only [Act.put, List.getElem_toArray, List.getElem_cons_succ, List.getElem_cons_zero, List.setIfInBounds_toArray, List.set_cons_zero, List.set_cons_succ]
  refine wpAnyH_take (i := 11) (v := undef) rfl (by kernel_rfl) (by kernel_rfl) (by kernel_rfl) (fun _ _ _ h => h) (Or.inr ⟨by kernel_rfl, rfl⟩) hS1 ?_
  simp only [Act.put, List.getElem_toArray, List.getElem_cons_succ, List.getElem_cons_zero, List.setIfInBounds_toArray, List.set_cons_zero, List.set_cons_succ]
  refine wpAnyH_take (i := 12) (v := undef) rfl (by kernel_rfl) (by kernel_rfl) (by kernel_rfl) (fun _ _ _ h => h) (Or.inr ⟨by kernel_rfl, rfl⟩) hS1 ?_
  simp only [Act.put, List.getElem_toArray, List.getElem_cons_succ, List.getElem_cons_zero, List.setIfInBounds_toArray, List.set_cons_zero, List.set_cons_succ]
  refine wpAnyH_take (i := 13) (v := undef) rfl (by kernel_rfl) (by kernel_rfl) (by kernel_rfl) (fun _ _ _ h => h) (Or.inr ⟨by kernel_rfl, rfl⟩) hS1 ?_
  simp only [Act.put, List.getElem_toArray, List.getElem_cons_succ, List.getElem_cons_zero, List.setIfInBounds_toArray, List.set_cons_zero, List.set_cons_succ]
  refine wpAnyH_take (i := 14) (v := undef) rfl (by kernel_rfl) (by kernel_rfl) (by kernel_rfl) (fun _ _ _ h => h) (Or.inr ⟨by kernel_rfl, rfl⟩) hS1 ?_
  simp only [Act.put, List.getElem_toArray, List.getElem_cons_succ, List.getElem_cons_zero, List.setIfInBounds_toArray, List.set_cons_zero, List.set_cons_succ]
  refine wpAnyH_take (i := 15) (v := undef) rfl (by kernel_rfl) (by kernel_rfl) (by kernel_rfl) (fun _ _ _ h => h) (Or.inr ⟨by kernel_rfl, rfl⟩) hS1 ?_
  simp only [Act.put, List.getElem_toArray, List.getElem_cons_succ, List.getElem_cons_zero, List.setIfInBounds_toArray, List.set_cons_zero, List.set_cons_succ]
  refine wpAnyH_take (i := 16) (v := undef) rfl (by kernel_rfl) (by kernel_rfl) (by kernel_rfl) (fun _ _ _ h => h) (Or.inr ⟨by kernel_rfl, rfl⟩) hS1 ?_
  simp only [Act.put, List.getElem_toArray, List.getElem_cons_succ, List.getElem_cons_zero, List.setIfInBounds_toArray, List.set_cons_zero, List.set_cons_succ]
  refine wpAnyH_take (i := 17) (v := (.bool false)) rfl (by kernel_rfl) (by kernel_rfl) (by kernel_rfl) (fun _ _ _ h => h) (Or.inl ⟨by rfl, fun w' hw' => by go_simp⟩) hS1 ?_
  simp only [Act.put, List.getElem_toArray, List.getElem_cons_succ, List.getElem_cons_zero, List.setIfInBounds_toArray, List.set_cons_zero, List.set_cons_succ]
  refine wpAnyH_take (i := 18) (v := (.bool false)) rfl (by kernel_rfl) (by kernel_rfl) (by kernel_rfl) (fun _ _ _ h => h) (Or.inl ⟨by rfl, fun w' hw' => by go_simp⟩) hS1 ?_
  simp only [Act.put, List.getElem_toArray, List.getElem_cons_succ, List.getElem_cons_zero, List.setIfInBounds_toArray, List.set_cons_zero, List.set_cons_succ]
  refine wpAnyH_done (by kernel_rfl) ?_ _
  clear hS0 hS1 hK1
  go_wp2
  go_ret
  exact ⟨rfl, H1.out.dropL⟩
set_option maxRecDepth 100000 in
set_option maxHeartbeats 4000000 in
theorem rx_next_no (hS : Sat w0 (rxB q b rs.length cap times most * (rxL b cap rs * (plB L * (F)))) w) (i g : Int) (hi : isR rs i g = none) (now : Int) :
    Calls Try.prog 59 #[vp q, vr i g, vu now] w fun e w' => e = .returned (addV none) ∧ Sat w0 (rxB q b rs.length cap times most * (rxL b cap rs * (plB L * (F)))) w' := by
  have hB : Sat w0 (pc w.heap.size 30 [vi i, vu g] * (rxB q b rs.length cap times most * (rxL b cap rs * (plB L * (F))))) (w.alloc (.cells #[vi i, vu g] 30)) := hS.alloc (.cells #[vi i, vu g] 30)
  have b0 := hB.cell 0 rfl
  have b1 := hB.cell 1 rfl
  have HB := Lib.hid hB
  have HI := Lib.hid (rx_is ((hB).cast (show _ = rxB q b rs.length cap times most * (rxL b cap rs * (pc w.heap.size 30 [vi i, vu g] * (plB L * (F)))) by ac_rfl)) i g)
  rw [hi, show (none : Option (Nat × RPl)).isSome = false from rfl] at HI
  clear hS hB hi
  go_enter Try.func59, Try.ntmps59
  go_wp2_with (go_at_call 86; refine HI.out.mono ?_; rintro e w1 ⟨rfl, hS1⟩; have H1 := Lib.hid ((hS1).cast (show _ = pc w.heap.size 30 [vi i, vu g] * (rxB q b rs.length cap times most * (rxL b cap rs * (plB L * (F)))) by ac_rfl)); clear hS1)
  go_ret2
  exact ⟨rfl, H1.out.dropL⟩
set_option maxRecDepth 100000 in
set_option maxHeartbeats 4000000 in
theorem rx_next_yes (hS : Sat w0 (rxB q b rs.length cap times most * (rxL b cap rs * (plB L * (F)))) w) {k : Nat} {a : RPl} (ha : rs[k]? = some a) (ht : a.there = true) (hi8 : InP L (.slice a.x.a2 a.x.n2 a.x.c2) l) (hl : l.length ≤ 1000) (now : Int) :
    Calls Try.prog 59 #[vp q, vr k a.gen, vu now] w fun e w' => e = .returned (addV (nextP l now)) ∧ Sat w0 (rxB q b rs.length cap times most * (rxL b cap rs * (plB L * (F)))) w' := by
  obtain ⟨gen, th, ⟨v0, v1, a2, n2, c2, v3⟩, fr⟩ := a
  have hi := isR_of ha ht
  (try dsimp only at *)
  have hB : Sat w0 (pc w.heap.size 30 [vi k, vu gen] * (rxB q b rs.length cap times most * (rxL b cap rs * (plB L * (F))))) (w.alloc (.cells #[vi k, vu gen] 30)) := hS.alloc (.cells #[vi k, vu gen] 30)
  have b0 := hB.cell 0 rfl
  have b1 := hB.cell 1 rfl
  have hkl : (k : Int) < (rs.length : Int) := by have := (List.getElem?_eq_some_iff.1 ha).1; omega
  have hk0 : (0 : Int) ≤ (k : Int) := by omega
  have HB := Lib.hid hB
  have HI : Hid (∀ (w1 : World) (G : Hp), Sat w0 (rxB q b rs.length cap times most * (rxL b cap rs * (G))) w1 → Calls Try.prog 86 #[vp q, vr k gen] w1 fun e w' => e = .returned (.bool true) ∧ Sat w0 (rxB q b rs.length cap times most * (rxL b cap rs * (G))) w') := Lib.hid (fun w1 G h1 => by
    have := rx_is h1 k gen
    rw [hi] at this
    exact this)
  have HA := Lib.hid ha
  have HJ := Lib.hid hi8
  clear hi8
  clear hS hB hi ha
  have HT := Lib.hid (fun w h => rnext l now (.slice a2 n2 c2) w h (by omega))
  obtain ⟨nx, nb, hnx, _⟩ := addV_form (nextP l now)
  rw [hnx] at HT ⊢
  clear hnx
  go_enter Try.func59, Try.ntmps59
  go_wp2_with (go_at_call 86; refine (HI.out _ _ ((HB.out).cast (show _ = rxB q b rs.length cap times most * (rxL b cap rs * (pc w.heap.size 30 [vi k, vu gen] * (plB L * (F)))) by ac_rfl))).mono ?_; rintro e w1 ⟨rfl, hS1⟩; have H1 := Lib.hid ((hS1).cast (show _ = pc w.heap.size 30 [vi k, vu gen] * (rxB q b rs.length cap times most * (rxL b cap rs * (plB L * (F)))) by ac_rfl)); clear hS1; have i0 := H1.out.cell 0 rfl; have i1 := H1.out.cell 1 rfl; have q0 := H1.out.dropL.cell 0 rfl; have q1 := H1.out.dropL.cell 1 rfl; have q2 := H1.out.dropL.cell 2 rfl; have x0 := rx_at ((H1.out).dropL.dropL) (j := 0) HA.out rfl; have x1 := rx_at ((H1.out).dropL.dropL) (j := 1) HA.out rfl; have x2 := rx_at ((H1.out).dropL.dropL) (j := 2) HA.out rfl; have x3 := rx_at ((H1.out).dropL.dropL) (j := 3) HA.out rfl; have x4 := rx_at ((H1.out).dropL.dropL) (j := 4) HA.out rfl; have x5 := rx_at ((H1.out).dropL.dropL) (j := 5) HA.out rfl; have x6 := rx_at ((H1.out).dropL.dropL) (j := 6) HA.out rfl; rw [Nat.add_zero] at x0)
  have kb0 := (H1.out).dropL.cell 0 rfl; have kb1 := (H1.out).cell 0 rfl; have kb2 := rx_at ((H1.out).dropL.dropL) (j := 4) HA.out rfl; rw [show k * 7 + 4 = k * 7 + 2 + 2 by omega] at kb2; have kb3 := (H1.out).cell 1 rfl
  go_region_held3 (fun w' : World => w'.cell? ⟨q, 0, none⟩ = some (.slice (some ⟨b, 0, none⟩) rs.length cap) ∧ w'.cell? ⟨w.heap.size, 0, none⟩ = some (vi k) ∧ w'.cell? ⟨b, k * 7 + 2 + 2, none⟩ = some (.slice a2 n2 c2) ∧ w'.cell? ⟨w.heap.size, 1, none⟩ = some (vu gen))
    (first | exact ⟨kb0, kb1, kb2, kb3⟩ | exact ⟨kc0, kc1, kc2, kc3⟩ | go_keep)
    ((go_at_call 95; refine (HT.out _ (Sat.plRd ((H1.out.drew).cast (show _ = plB L * (pc w.heap.size 30 [vi k, vu gen] * (rxB q b rs.length cap times most * (rxL b cap rs * (F)))) by ac_rfl)) HJ.out)).mono ?_; rintro e w2 ⟨rfl, hb⟩; have H2 := Lib.hid (Sat.after H1.out.drew hb); clear hb; have kc0 := (H2.out).dropL.cell 0 rfl; have kc1 := (H2.out).cell 0 rfl; have kc2 := rx_at ((H2.out).dropL.dropL) (j := 4) HA.out rfl; rw [show k * 7 + 4 = k * 7 + 2 + 2 by omega] at kc2; have kc3 := (H2.out).cell 1 rfl))
  go_wp2
  go_ret2
  exact ⟨rfl, H2.out.dropL⟩
set_option maxRecDepth 100000 in
set_option maxHeartbeats 4000000 in
theorem rx_part (hS : Sat w0 (rxB q b rs.length cap times most * (rxL b cap rs * (plB L * (F)))) w) {k : Nat} {a : RPl} (ha : rs[k]? = some a) (hi8 : InP L (.slice a.x.a2 a.x.n2 a.x.c2) l) (hl : l.length ≤ 1000) (g amount now : Int) :
    Calls Try.prog 89 #[vp q, vr k g, vu amount, vu now] w fun e w' => e = .returned (vi (partC a.x.v0 l amount now)) ∧ Sat w0 (rxB q b rs.length cap times most * (rxL b cap rs * (plB L * (F)))) w' := by
  have hB : Sat w0 (pc w.heap.size 30 [vi k, vu g] * (rxB q b rs.length cap times most * (rxL b cap rs * (plB L * (F))))) (w.alloc (.cells #[vi k, vu g] 30)) := hS.alloc (.cells #[vi k, vu g] 30)
  have hkl : (k : Int) < (rs.length : Int) := by have := (List.getElem?_eq_some_iff.1 ha).1; omega
  have hk0 : (0 : Int) ≤ (k : Int) := by omega
  have HB := Lib.hid hB
  have HA := Lib.hid ha
  have HJ := Lib.hid hi8
  clear hS ha hi8
  obtain ⟨gen, th, ⟨v0, v1, a2, n2, c2, v3⟩, fr⟩ := a
  have HA : Hid (rs[k]? = some ⟨gen, th, ⟨v0, v1, a2, n2, c2, v3⟩, fr⟩) := HA
  have HJ : Hid (InP L (.slice a2 n2 c2) l) := HJ
  have hx0 := hB.alloc (elO ⟨v0, v1, a2, n2, c2, v3⟩)
  rw [size1] at hx0
  have hx : Sat w0 (pc (w.heap.size + 1) 49 (elC ⟨v0, v1, a2, n2, c2, v3⟩) * (pc w.heap.size 30 [vi k, vu g] * (rxB q b rs.length cap times most * (rxL b cap rs * (plB L * (F)))))) _ := hx0.drew
  have HX := Lib.hid hx
  have hz0 := hB.alloc (elO ez)
  rw [size1] at hz0
  have hz : Sat w0 (pc (w.heap.size + 1) 49 (elC ez) * (pc w.heap.size 30 [vi k, vu g] * (rxB q b rs.length cap times most * (rxL b cap rs * (plB L * (F)))))) _ := hz0.drew
  have HZ := Lib.hid hz
  clear hB hx0 hx hz0 hz
  have ka0 := (HB.out.drew).dropL.cell 0 rfl; have ka1 := (HB.out.drew).cell 0 rfl; have ka2 := rx_at ((HB.out.drew).dropL.dropL) (j := 2) HA.out rfl; have ka3 := rx_at ((HB.out.drew).dropL.dropL) (j := 3) HA.out rfl; have ka4 := rx_at ((HB.out.drew).dropL.dropL) (j := 4) HA.out rfl; have ka5 := rx_at ((HB.out.drew).dropL.dropL) (j := 5) HA.out rfl; rw [show k * 7 + 3 = k * 7 + 2 + 1 by omega] at ka3; rw [show k * 7 + 4 = k * 7 + 2 + 2 by omega] at ka4; rw [show k * 7 + 5 = k * 7 + 2 + 3 by omega] at ka5
  have kb0 := (HX.out).dropL.dropL.cell 0 rfl; have kb1 := (HX.out).dropL.cell 0 rfl; have kb2 := rx_at ((HX.out).dropL.dropL.dropL) (j := 2) HA.out rfl; have kb3 := rx_at ((HX.out).dropL.dropL.dropL) (j := 3) HA.out rfl; have kb4 := rx_at ((HX.out).dropL.dropL.dropL) (j := 4) HA.out rfl; have kb5 := rx_at ((HX.out).dropL.dropL.dropL) (j := 5) HA.out rfl; rw [show k * 7 + 3 = k * 7 + 2 + 1 by omega] at kb3; rw [show k * 7 + 4 = k * 7 + 2 + 2 by omega] at kb4; rw [show k * 7 + 5 = k * 7 + 2 + 3 by omega] at kb5
  have kz0 := (HZ.out).dropL.dropL.cell 0 rfl; have kz1 := (HZ.out).dropL.cell 0 rfl; have kz2 := rx_at ((HZ.out).dropL.dropL.dropL) (j := 2) HA.out rfl; have kz3 := rx_at ((HZ.out).dropL.dropL.dropL) (j := 3) HA.out rfl; have kz4 := rx_at ((HZ.out).dropL.dropL.dropL) (j := 4) HA.out rfl; have kz5 := rx_at ((HZ.out).dropL.dropL.dropL) (j := 5) HA.out rfl; rw [show k * 7 + 3 = k * 7 + 2 + 1 by omega] at kz3; rw [show k * 7 + 4 = k * 7 + 2 + 2 by omega] at kz4; rw [show k * 7 + 5 = k * 7 + 2 + 3 by omega] at kz5
  have HT := Lib.hid (fun w h => rthere l now (.slice a2 n2 c2) w h (by omega))
  go_enter Try.func89, Try.ntmps89
  go_wp2
  go_region_held3 (fun w' : World => w'.cell? ⟨q, 0, none⟩ = some (.slice (some ⟨b, 0, none⟩) rs.length cap) ∧ w'.cell? ⟨w.heap.size, 0, none⟩ = some (vi k) ∧ w'.cell? ⟨b, k * 7 + 2, none⟩ = some (vu v0) ∧ w'.cell? ⟨b, k * 7 + 2 + 1, none⟩ = some (vu v1) ∧ w'.cell? ⟨b, k * 7 + 2 + 2, none⟩ = some (.slice a2 n2 c2) ∧ w'.cell? ⟨b, k * 7 + 2 + 3, none⟩ = some (vi v3))
    (first | exact ⟨ka0, ka1, ka2, ka3, ka4, ka5⟩ | exact ⟨kb0, kb1, kb2, kb3, kb4, kb5⟩ | exact ⟨kz0, kz1, kz2, kz3, kz4, kz5⟩ | go_keep)
    (fail)
  have z0 := HX.out.cell 0 rfl
  have z2 := HX.out.cell 2 rfl
  have HJ2 := Lib.hid (Sat.plRd ((HX.out).cast (show _ = plB L * (pc (w.heap.size + 1) 49 (elC ⟨v0, v1, a2, n2, c2, v3⟩) * (pc w.heap.size 30 [vi k, vu g] * (rxB q b rs.length cap times most * (rxL b cap rs * (F))))) by ac_rfl)) HJ.out)
  clear ka0 kb0 kz0 ka1 kb1 kz1 ka2 kb2 kz2 ka3 kb3 kz3 ka4 kb4 kz4 ka5 kb5 kz5
  by_cases h1 : amount = 0
  · have HPC : Hid (partC v0 l amount now = 2) := Lib.hid (by unfold partC; rw [if_pos (.inl h1)])
    have h1b : (amount == 0) = true := by simpa using h1
    clear h1
    go_wp2
    go_ret
    exact ⟨by rw [HPC.out]; rfl, HX.out.dropL.dropL⟩
  · have h1b : (amount == 0) = false := beq_eq_false_iff_ne.2 h1
    by_cases h2 : 1152921504606846976 < now
    · have HPC : Hid (partC v0 l amount now = 2) := Lib.hid (by unfold partC; rw [if_pos (.inr h2)])
      clear h1
      go_wp2
      go_ret
      exact ⟨by rw [HPC.out]; rfl, HX.out.dropL.dropL⟩
    · by_cases h3 : v0 ≤ amount
      · have HPC : Hid (partC v0 l amount now = 15) := Lib.hid (by unfold partC; rw [if_neg (by omega), if_pos (.inl h3)])
        clear h1
        go_wp2
        go_ret
        exact ⟨by rw [HPC.out]; rfl, HX.out.dropL.dropL⟩
      · by_cases h4 : thereV l now < amount
        · have HPC : Hid (partC v0 l amount now = 15) := Lib.hid (by unfold partC; rw [if_neg (by omega), if_pos (.inr h4)])
          clear h1
          generalize thereV l now = tv at *
          go_wp2_with (go_at_call 87; refine (HT.out _ HJ2.out).mono ?_; rintro e w2 ⟨rfl, rfl⟩)
          go_ret
          exact ⟨by rw [HPC.out]; rfl, HX.out.dropL.dropL⟩
        · have HPC : Hid (partC v0 l amount now = 0) := Lib.hid (by unfold partC; rw [if_neg (by omega), if_neg (by omega)])
          clear h1
          generalize thereV l now = tv at *
          go_wp2_with (go_at_call 87; refine (HT.out _ HJ2.out).mono ?_; rintro e w2 ⟨rfl, rfl⟩)
          go_ret
          exact ⟨by rw [HPC.out]; rfl, HX.out.dropL.dropL⟩
set_option maxRecDepth 100000 in
set_option maxHeartbeats 4000000 in
theorem rx_bind_no (hS : Sat w0 (rxB q b rs.length cap times most * (rxL b cap rs * (plB L * (F)))) w) (i g : Int) (hi : isR rs i g = none) (d : Int) :
    Calls Try.prog 45 #[vp q, vr i g, vi d] w fun e w' => e = .returned (vi 11) ∧ Sat w0 (rxB q b rs.length cap times most * (rxL b cap rs * (plB L * (F)))) w' := by
  have hB : Sat w0 (pc w.heap.size 30 [vi i, vu g] * (rxB q b rs.length cap times most * (rxL b cap rs * (plB L * (F))))) (w.alloc (.cells #[vi i, vu g] 30)) := hS.alloc (.cells #[vi i, vu g] 30)
  have b0 := hB.cell 0 rfl
  have b1 := hB.cell 1 rfl
  have HB := Lib.hid hB
  have HI := Lib.hid (rx_is ((hB).cast (show _ = rxB q b rs.length cap times most * (rxL b cap rs * (pc w.heap.size 30 [vi i, vu g] * (plB L * (F)))) by ac_rfl)) i g)
  rw [hi, show (none : Option (Nat × RPl)).isSome = false from rfl] at HI
  clear hS hB hi
  go_enter Try.func45, Try.ntmps45
  go_wp2_with (go_at_call 86; refine HI.out.mono ?_; rintro e w1 ⟨rfl, hS1⟩; have H1 := Lib.hid ((hS1).cast (show _ = pc w.heap.size 30 [vi i, vu g] * (rxB q b rs.length cap times most * (rxL b cap rs * (plB L * (F)))) by ac_rfl)); clear hS1)
  go_ret
  exact ⟨rfl, H1.out.dropL⟩
set_option maxRecDepth 100000 in
set_option maxHeartbeats 4000000 in
theorem rx_bind_neg (hS : Sat w0 (rxB q b rs.length cap times most * (rxL b cap rs * (plB L * (F)))) w) {k : Nat} {a : RPl} (ha : rs[k]? = some a) (ht : a.there = true) (d : Int) (hd : -1 ≤ d ∧ d ≤ 1) (hb : -10 ≤ a.x.v3 ∧ a.x.v3 ≤ 1000000) (hn : a.x.v3 + d < 0) :
    Calls Try.prog 45 #[vp q, vr k a.gen, vi d] w fun e w' => e = .returned (vi 5) ∧ Sat w0 (rxB q b rs.length cap times most * (rxL b cap rs * (plB L * (F)))) w' := by
  obtain ⟨gen, th, ⟨v0, v1, a2, n2, c2, v3⟩, fr⟩ := a
  have hi := isR_of ha ht
  (try dsimp only at *)
  have hB : Sat w0 (pc w.heap.size 30 [vi k, vu gen] * (rxB q b rs.length cap times most * (rxL b cap rs * (plB L * (F))))) (w.alloc (.cells #[vi k, vu gen] 30)) := hS.alloc (.cells #[vi k, vu gen] 30)
  have b0 := hB.cell 0 rfl
  have b1 := hB.cell 1 rfl
  have hkl : (k : Int) < (rs.length : Int) := by have := (List.getElem?_eq_some_iff.1 ha).1; omega
  have hk0 : (0 : Int) ≤ (k : Int) := by omega
  have HB := Lib.hid hB
  have HI : Hid (∀ (w1 : World) (G : Hp), Sat w0 (rxB q b rs.length cap times most * (rxL b cap rs * (G))) w1 → Calls Try.prog 86 #[vp q, vr k gen] w1 fun e w' => e = .returned (.bool true) ∧ Sat w0 (rxB q b rs.length cap times most * (rxL b cap rs * (G))) w') := Lib.hid (fun w1 G h1 => by
    have := rx_is h1 k gen
    rw [hi] at this
    exact this)
  have HA := Lib.hid ha
  clear hS hB hi ha
  (try dsimp only at hb hn)
  have hwr : IntKind.i64.wrap (v3 + d) = v3 + d := IntWalk.i64_in _ (by omega)
  go_enter Try.func45, Try.ntmps45
  go_wp2_with (go_at_call 86; refine (HI.out _ _ ((HB.out).cast (show _ = rxB q b rs.length cap times most * (rxL b cap rs * (pc w.heap.size 30 [vi k, vu gen] * (plB L * (F)))) by ac_rfl))).mono ?_; rintro e w1 ⟨rfl, hS1⟩; have H1 := Lib.hid ((hS1).cast (show _ = pc w.heap.size 30 [vi k, vu gen] * (rxB q b rs.length cap times most * (rxL b cap rs * (plB L * (F)))) by ac_rfl)); clear hS1; have i0 := H1.out.cell 0 rfl; have i1 := H1.out.cell 1 rfl; have q0 := H1.out.dropL.cell 0 rfl; have q1 := H1.out.dropL.cell 1 rfl; have q2 := H1.out.dropL.cell 2 rfl; have x0 := rx_at ((H1.out).dropL.dropL) (j := 0) HA.out rfl; have x1 := rx_at ((H1.out).dropL.dropL) (j := 1) HA.out rfl; have x2 := rx_at ((H1.out).dropL.dropL) (j := 2) HA.out rfl; have x3 := rx_at ((H1.out).dropL.dropL) (j := 3) HA.out rfl; have x4 := rx_at ((H1.out).dropL.dropL) (j := 4) HA.out rfl; have x5 := rx_at ((H1.out).dropL.dropL) (j := 5) HA.out rfl; have x6 := rx_at ((H1.out).dropL.dropL) (j := 6) HA.out rfl; rw [Nat.add_zero] at x0; have x5' := x5; rw [show k * 7 + 5 = k * 7 + 2 + 3 by omega] at x5')
  go_quiet (fail)
  go_wp2
  go_ret
  exact ⟨rfl, (H1.out.drewN _).dropL⟩
set_option maxRecDepth 100000 in
set_option maxHeartbeats 4000000 in
theorem rx_bind_yes (hS : Sat w0 (rxB q b rs.length cap times most * (rxL b cap rs * (plB L * (F)))) w) {k : Nat} {a : RPl} (ha : rs[k]? = some a) (ht : a.there = true) (d : Int) (hd : -1 ≤ d ∧ d ≤ 1) (hb : -10 ≤ a.x.v3 ∧ a.x.v3 ≤ 1000000) (hn : 0 ≤ a.x.v3 + d) :
    Calls Try.prog 45 #[vp q, vr k a.gen, vi d] w fun e w' => e = .returned (vi 0) ∧ Sat w0 (rxB q b rs.length cap times most * (rxL b cap (rs.set k { a with x := { a.x with v3 := a.x.v3 + d } }) * (plB L * (F)))) w' := by
  obtain ⟨gen, th, ⟨v0, v1, a2, n2, c2, v3⟩, fr⟩ := a
  have hi := isR_of ha ht
  (try dsimp only at *)
  have hB : Sat w0 (pc w.heap.size 30 [vi k, vu gen] * (rxB q b rs.length cap times most * (rxL b cap rs * (plB L * (F))))) (w.alloc (.cells #[vi k, vu gen] 30)) := hS.alloc (.cells #[vi k, vu gen] 30)
  have b0 := hB.cell 0 rfl
  have b1 := hB.cell 1 rfl
  have hkl : (k : Int) < (rs.length : Int) := by have := (List.getElem?_eq_some_iff.1 ha).1; omega
  have hk0 : (0 : Int) ≤ (k : Int) := by omega
  have HB := Lib.hid hB
  have HI : Hid (∀ (w1 : World) (G : Hp), Sat w0 (rxB q b rs.length cap times most * (rxL b cap rs * (G))) w1 → Calls Try.prog 86 #[vp q, vr k gen] w1 fun e w' => e = .returned (.bool true) ∧ Sat w0 (rxB q b rs.length cap times most * (rxL b cap rs * (G))) w') := Lib.hid (fun w1 G h1 => by
    have := rx_is h1 k gen
    rw [hi] at this
    exact this)
  have HA := Lib.hid ha
  clear hS hB hi ha
  (try dsimp only at hb hn)
  have hwr : IntKind.i64.wrap (v3 + d) = v3 + d := IntWalk.i64_in _ (by omega)
  have hnn : ¬ v3 + d < 0 := by omega
  go_enter Try.func45, Try.ntmps45
  go_wp2_with (go_at_call 86; refine (HI.out _ _ ((HB.out).cast (show _ = rxB q b rs.length cap times most * (rxL b cap rs * (pc w.heap.size 30 [vi k, vu gen] * (plB L * (F)))) by ac_rfl))).mono ?_; rintro e w1 ⟨rfl, hS1⟩; have H1 := Lib.hid ((hS1).cast (show _ = pc w.heap.size 30 [vi k, vu gen] * (rxB q b rs.length cap times most * (rxL b cap rs * (plB L * (F)))) by ac_rfl)); clear hS1; have i0 := H1.out.cell 0 rfl; have i1 := H1.out.cell 1 rfl; have q0 := H1.out.dropL.cell 0 rfl; have q1 := H1.out.dropL.cell 1 rfl; have q2 := H1.out.dropL.cell 2 rfl; have x0 := rx_at ((H1.out).dropL.dropL) (j := 0) HA.out rfl; have x1 := rx_at ((H1.out).dropL.dropL) (j := 1) HA.out rfl; have x2 := rx_at ((H1.out).dropL.dropL) (j := 2) HA.out rfl; have x3 := rx_at ((H1.out).dropL.dropL) (j := 3) HA.out rfl; have x4 := rx_at ((H1.out).dropL.dropL) (j := 4) HA.out rfl; have x5 := rx_at ((H1.out).dropL.dropL) (j := 5) HA.out rfl; have x6 := rx_at ((H1.out).dropL.dropL) (j := 6) HA.out rfl; rw [Nat.add_zero] at x0; have x5' := x5; rw [show k * 7 + 5 = k * 7 + 2 + 3 by omega] at x5'; have xf := rx_free H1.out.dropL.dropL (k * 7 + 2 + 3); have HS := Lib.hid (fun N : Nat => rx_store (((H1.out.drewN N)).cast (show _ = rxL b cap rs * (pc w.heap.size 30 [vi k, vu gen] * (rxB q b rs.length cap times most * (plB L * (F)))) by ac_rfl)) HA.out 5 (by omega) (vi (v3 + d)) ⟨gen, th, ⟨v0, v1, a2, n2, c2, v3 + d⟩, fr⟩ rfl))
  go_quiet (fail)
  go_wp2
  refine wp_quiet_tail 21 (by kernel_rfl) (by kernel_rfl) ?_
  simp only [List.take_succ_cons, List.take_zero, List.drop_succ_cons, List.drop_zero]
  repeat (go_big_quiet_step (fail))
  refine wpQuiet_nil ?_
  go_wp2
  go_ret
  have hs := HS.out (nq + 1)
  rw [show k * 7 + 5 = k * 7 + 2 + 3 by omega] at hs
  exact ⟨rfl, ((hs).cast (show _ = pc w.heap.size 30 [vi k, vu gen] * (rxB q b rs.length cap times most * (rxL b cap (rs.set k ⟨gen, th, ⟨v0, v1, a2, n2, c2, v3 + d⟩, fr⟩) * (plB L * (F)))) by ac_rfl)).dropL⟩
end
end Go.Proofs.Ytknodagcmachiaa.Cn
