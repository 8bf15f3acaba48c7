/-
  The reference of layer 8: Charge, Drop. No statement is proved here.
-/
import Derived.Test.YtknodagcmachiaaCr3
namespace Go.Proofs.Ytknodagcmachiaa.Cn
open Go.RowKit Ac Fi
set_option linter.unusedVariables false
set_option linter.unusedSimpArgs false

section
variable {w0 w : World} {F : Hp} {q b cap : Nat} {times most : Int} {rs : List RPl} {L : Blks} {l m : List Rf}
theorem pinfo8 : (Try.prog.info? 58).map (·.size) = some 7 := by kernel_rfl
theorem rx_there {k : Nat} {a : RPl} (h : Sat w0 (rxL b cap rs * F) w) (hk : rs[k]? = some a) : w.there b (k * 7) 7 := fun j hj => by
  have hj' : j < a.cells.length := hj
  rw [rx_at h hk (List.getElem?_eq_getElem hj')]
  exact ⟨rfl, rx_free h _⟩
set_option maxRecDepth 100000 in
set_option maxHeartbeats 4000000 in
theorem rx_charge_stale (hS : Sat w0 (rxB q b rs.length cap times most * (rxL b cap rs * (plB L * (F)))) w) (i g : Int) (hi : isR rs i g = none) (now : Int) :
    Calls Try.prog 47 #[vp q, vr i g, vu now] w fun e w' => e = .returned (.bool false) ∧ Sat w0 (rxB q b rs.length cap times most * (rxL b cap rs * (plB L * (F)))) w' := by
  have hB : Sat w0 (pc w.heap.size 30 [vi i, vu g] * (rxB q b rs.length cap times most * (rxL b cap rs * (plB L * (F))))) (w.alloc (.cells #[vi i, vu g] 30)) := hS.alloc (.cells #[vi i, vu g] 30)
  have b0 := hB.cell 0 rfl
  have b1 := hB.cell 1 rfl
  have HB := Lib.hid hB
  have HI := Lib.hid (rx_is ((hB).cast (show _ = rxB q b rs.length cap times most * (rxL b cap rs * (pc w.heap.size 30 [vi i, vu g] * (plB L * (F)))) by ac_rfl)) i g)
  rw [hi, show (none : Option (Nat × RPl)).isSome = false from rfl] at HI
  clear hS hB hi
  go_enter Try.func47, Try.ntmps47
  go_wp2_with (go_at_call 86; refine HI.out.mono ?_; rintro e w1 ⟨rfl, hS1⟩; have H1 := Lib.hid ((hS1).cast (show _ = pc w.heap.size 30 [vi i, vu g] * (rxB q b rs.length cap times most * (rxL b cap rs * (plB L * (F)))) by ac_rfl)); clear hS1)
  go_ret
  exact ⟨rfl, H1.out.dropL⟩
set_option maxRecDepth 100000 in
set_option maxHeartbeats 4000000 in
theorem rx_charge_not (hS : Sat w0 (rxB q b rs.length cap times most * (rxL b cap rs * (plB L * (F)))) w) {k : Nat} {a : RPl} (ha : rs[k]? = some a) (ht : a.there = true) (hi8 : InP L (.slice a.x.a2 a.x.n2 a.x.c2) l) (hl : l.length ≤ 1000) (now : Int) (hn : U64 now) (hp : U64 a.x.v1) (hc : ¬ ChOk l now a.x.v1 most) :
    Calls Try.prog 47 #[vp q, vr k a.gen, vu now] w fun e w' => e = .returned (.bool false) ∧ Sat w0 (rxB q b rs.length cap times most * (rxL b cap rs * (plB L * (F)))) w' := by
  obtain ⟨gen, th, ⟨v0, v1, a2, n2, c2, v3⟩, fr⟩ := a
  have hi := isR_of ha ht
  (try dsimp only at *)
  have hB : Sat w0 (pc w.heap.size 30 [vi k, vu gen] * (rxB q b rs.length cap times most * (rxL b cap rs * (plB L * (F))))) (w.alloc (.cells #[vi k, vu gen] 30)) := hS.alloc (.cells #[vi k, vu gen] 30)
  have b0 := hB.cell 0 rfl
  have b1 := hB.cell 1 rfl
  have hkl : (k : Int) < (rs.length : Int) := by have := (List.getElem?_eq_some_iff.1 ha).1; omega
  have hk0 : (0 : Int) ≤ (k : Int) := by omega
  have HB := Lib.hid hB
  have HI : Hid (∀ (w1 : World) (G : Hp), Sat w0 (rxB q b rs.length cap times most * (rxL b cap rs * (G))) w1 → Calls Try.prog 86 #[vp q, vr k gen] w1 fun e w' => e = .returned (.bool true) ∧ Sat w0 (rxB q b rs.length cap times most * (rxL b cap rs * (G))) w') := Lib.hid (fun w1 G h1 => by
    have := rx_is h1 k gen
    rw [hi] at this
    exact this)
  have HA := Lib.hid ha
  have HJ := Lib.hid hi8
  have HN := Lib.hid (fun v w (h : RdF w v l) => rcharge_no (w := w) (v := v) h (by omega) hn hp hc)
  clear hi8 hn hp hc
  clear hS hB hi ha
  go_enter Try.func47, Try.ntmps47
  go_wp2_with (go_at_call 86; refine (HI.out _ _ ((HB.out).cast (show _ = rxB q b rs.length cap times most * (rxL b cap rs * (pc w.heap.size 30 [vi k, vu gen] * (plB L * (F)))) by ac_rfl))).mono ?_; rintro e w1 ⟨rfl, hS1⟩; have H1 := Lib.hid ((hS1).cast (show _ = pc w.heap.size 30 [vi k, vu gen] * (rxB q b rs.length cap times most * (rxL b cap rs * (plB L * (F)))) by ac_rfl)); clear hS1; have i0 := H1.out.cell 0 rfl; have i1 := H1.out.cell 1 rfl; have q0 := H1.out.dropL.cell 0 rfl; have q1 := H1.out.dropL.cell 1 rfl; have q2 := H1.out.dropL.cell 2 rfl; have x0 := rx_at ((H1.out).dropL.dropL) (j := 0) HA.out rfl; have x1 := rx_at ((H1.out).dropL.dropL) (j := 1) HA.out rfl; have x2 := rx_at ((H1.out).dropL.dropL) (j := 2) HA.out rfl; have x3 := rx_at ((H1.out).dropL.dropL) (j := 3) HA.out rfl; have x4 := rx_at ((H1.out).dropL.dropL) (j := 4) HA.out rfl; have x5 := rx_at ((H1.out).dropL.dropL) (j := 5) HA.out rfl; have x6 := rx_at ((H1.out).dropL.dropL) (j := 6) HA.out rfl; rw [Nat.add_zero] at x0)
  have hx : Sat w0 (pc w1.heap.size 49 (elC ⟨v0, v1, a2, n2, c2, v3⟩) * (pc w.heap.size 30 [vi k, vu gen] * (rxB q b rs.length cap times most * (rxL b cap rs * (plB L * (F)))))) _ := ((H1.out).alloc (elO ⟨v0, v1, a2, n2, c2, v3⟩)).drew
  have HX := Lib.hid hx
  have hz : Sat w0 (pc w1.heap.size 49 (elC ez) * (pc w.heap.size 30 [vi k, vu gen] * (rxB q b rs.length cap times most * (rxL b cap rs * (plB L * (F)))))) _ := ((H1.out).alloc (elO ez)).drew
  have HZ := Lib.hid hz
  clear hx hz
  have ka0 := (H1.out.drew).dropL.cell 0 rfl; have ka1 := (H1.out.drew).cell 0 rfl; have ka2 := rx_at ((H1.out.drew).dropL.dropL) (j := 2) HA.out rfl; have ka3 := rx_at ((H1.out.drew).dropL.dropL) (j := 3) HA.out rfl; have ka4 := rx_at ((H1.out.drew).dropL.dropL) (j := 4) HA.out rfl; have ka5 := rx_at ((H1.out.drew).dropL.dropL) (j := 5) HA.out rfl; rw [show k * 7 + 3 = k * 7 + 2 + 1 by omega] at ka3; rw [show k * 7 + 4 = k * 7 + 2 + 2 by omega] at ka4; rw [show k * 7 + 5 = k * 7 + 2 + 3 by omega] at ka5
  have kb0 := (HX.out).dropL.dropL.cell 0 rfl; have kb1 := (HX.out).dropL.cell 0 rfl; have kb2 := rx_at ((HX.out).dropL.dropL.dropL) (j := 2) HA.out rfl; have kb3 := rx_at ((HX.out).dropL.dropL.dropL) (j := 3) HA.out rfl; have kb4 := rx_at ((HX.out).dropL.dropL.dropL) (j := 4) HA.out rfl; have kb5 := rx_at ((HX.out).dropL.dropL.dropL) (j := 5) HA.out rfl; rw [show k * 7 + 3 = k * 7 + 2 + 1 by omega] at kb3; rw [show k * 7 + 4 = k * 7 + 2 + 2 by omega] at kb4; rw [show k * 7 + 5 = k * 7 + 2 + 3 by omega] at kb5
  have kz0 := (HZ.out).dropL.dropL.cell 0 rfl; have kz1 := (HZ.out).dropL.cell 0 rfl; have kz2 := rx_at ((HZ.out).dropL.dropL.dropL) (j := 2) HA.out rfl; have kz3 := rx_at ((HZ.out).dropL.dropL.dropL) (j := 3) HA.out rfl; have kz4 := rx_at ((HZ.out).dropL.dropL.dropL) (j := 4) HA.out rfl; have kz5 := rx_at ((HZ.out).dropL.dropL.dropL) (j := 5) HA.out rfl; rw [show k * 7 + 3 = k * 7 + 2 + 1 by omega] at kz3; rw [show k * 7 + 4 = k * 7 + 2 + 2 by omega] at kz4; rw [show k * 7 + 5 = k * 7 + 2 + 3 by omega] at kz5
  go_region_held3 (fun w' : World => w'.cell? ⟨q, 0, none⟩ = some (.slice (some ⟨b, 0, none⟩) rs.length cap) ∧ w'.cell? ⟨w.heap.size, 0, none⟩ = some (vi k) ∧ w'.cell? ⟨b, k * 7 + 2, none⟩ = some (vu v0) ∧ w'.cell? ⟨b, k * 7 + 2 + 1, none⟩ = some (vu v1) ∧ w'.cell? ⟨b, k * 7 + 2 + 2, none⟩ = some (.slice a2 n2 c2) ∧ w'.cell? ⟨b, k * 7 + 2 + 3, none⟩ = some (vi v3))
    (first | exact ⟨ka0, ka1, ka2, ka3, ka4, ka5⟩ | exact ⟨kb0, kb1, kb2, kb3, kb4, kb5⟩ | exact ⟨kz0, kz1, kz2, kz3, kz4, kz5⟩ | go_keep)
    (fail)
  clear ka0 kb0 kz0 ka1 kb1 kz1 ka2 kb2 kz2 ka3 kb3 kz3 ka4 kb4 kz4 ka5 kb5 kz5 HZ
  have z0 := HX.out.cell 0 rfl
  have z1 := HX.out.cell 1 rfl
  have z2 := HX.out.cell 2 rfl
  have z3 := HX.out.cell 3 rfl
  go_wp2
  have ya0 := (HX.out).dropL.dropL.cell 2 rfl; have ya1 := (HX.out).cell 1 rfl; have ya2 := (HX.out).cell 2 rfl
  go_region_held3 (fun w' : World => w'.cell? ⟨q, 2, none⟩ = some (vi most) ∧ w'.cell? ⟨w1.heap.size, 1, none⟩ = some (vu v1) ∧ w'.cell? ⟨w1.heap.size, 2, none⟩ = some (.slice a2 n2 c2))
    (first | exact ⟨ya0, ya1, ya2⟩ | exact ⟨yb0, yb1, yb2⟩ | go_keep)
    ((go_at_call 88; refine (HN.out _ _ (Sat.plRd ((HX.out.drew).cast (show _ = plB L * (pc w1.heap.size 49 (elC ⟨v0, v1, a2, n2, c2, v3⟩) * (pc w.heap.size 30 [vi k, vu gen] * (rxB q b rs.length cap times most * (rxL b cap rs * (F))))) by ac_rfl)) HJ.out)).mono ?_; rintro e w2 ⟨rfl, hb⟩; have H2 := Lib.hid (Sat.after HX.out.drew hb); clear hb; have yb0 := (H2.out).dropL.dropL.cell 2 rfl; have yb1 := (H2.out).cell 1 rfl; have yb2 := (H2.out).cell 2 rfl))
  go_wp2
  go_ret
  exact ⟨rfl, H2.out.dropL.dropL⟩
set_option maxRecDepth 100000 in
set_option maxHeartbeats 4000000 in
theorem rx_charge_ok_ (hS : Sat w0 (rxB q b rs.length cap times most * (rxL b cap rs * (plB L * (F)))) w) {k : Nat} {a : RPl} (ha : rs[k]? = some a) (ht : a.there = true) (hi8 : InP L (.slice a.x.a2 a.x.n2 a.x.c2) l) (hl : l.length ≤ 1000) (now : Int) (hn : U64 now) (hp : U64 a.x.v1) (hc : ChOk l now a.x.v1 most) (hok : OkL (chargeL l now a.x.v1 most)) (P : World → Prop) (hP : ∀ w', (∃ ao lc L2, (∀ x ∈ L, x ∈ L2) ∧ InP L2 (.slice ao (chargeL l now a.x.v1 most).length lc) (chargeL l now a.x.v1 most) ∧ Sat w0 (rxB q b rs.length cap times most * (rxL b cap (rs.set k { a with x := { a.x with a2 := ao, n2 := (chargeL l now a.x.v1 most).length, c2 := lc } }) * (plB L2 * (F)))) w') → P w') :
    Calls Try.prog 47 #[vp q, vr k a.gen, vu now] w fun e w' => e = .returned (.bool true) ∧ P w' := by
  obtain ⟨gen, th, ⟨v0, v1, a2, n2, c2, v3⟩, fr⟩ := a
  have hi := isR_of ha ht
  (try dsimp only at *)
  have hB : Sat w0 (pc w.heap.size 30 [vi k, vu gen] * (rxB q b rs.length cap times most * (rxL b cap rs * (plB L * (F))))) (w.alloc (.cells #[vi k, vu gen] 30)) := hS.alloc (.cells #[vi k, vu gen] 30)
  have b0 := hB.cell 0 rfl
  have b1 := hB.cell 1 rfl
  have hkl : (k : Int) < (rs.length : Int) := by have := (List.getElem?_eq_some_iff.1 ha).1; omega
  have hk0 : (0 : Int) ≤ (k : Int) := by omega
  have HB := Lib.hid hB
  have HI : Hid (∀ (w1 : World) (G : Hp), Sat w0 (rxB q b rs.length cap times most * (rxL b cap rs * (G))) w1 → Calls Try.prog 86 #[vp q, vr k gen] w1 fun e w' => e = .returned (.bool true) ∧ Sat w0 (rxB q b rs.length cap times most * (rxL b cap rs * (G))) w') := Lib.hid (fun w1 G h1 => by
    have := rx_is h1 k gen
    rw [hi] at this
    exact this)
  have HA := Lib.hid ha
  have HP2 := Lib.hid hP
  clear hP
  have HJ := Lib.hid hi8
  have HN := Lib.hid (fun v w (h : RdF w v l) => rcharge_yes (w := w) (v := v) h (by omega) hn hp hc)
  generalize chargeL l now v1 most = ln at *
  have HOK := Lib.hid hok
  clear hi8 hn hp hc hok
  clear hS hB hi ha
  go_enter Try.func47, Try.ntmps47
  go_wp2_with (go_at_call 86; refine (HI.out _ _ ((HB.out).cast (show _ = rxB q b rs.length cap times most * (rxL b cap rs * (pc w.heap.size 30 [vi k, vu gen] * (plB L * (F)))) by ac_rfl))).mono ?_; rintro e w1 ⟨rfl, hS1⟩; have H1 := Lib.hid ((hS1).cast (show _ = pc w.heap.size 30 [vi k, vu gen] * (rxB q b rs.length cap times most * (rxL b cap rs * (plB L * (F)))) by ac_rfl)); clear hS1; have i0 := H1.out.cell 0 rfl; have i1 := H1.out.cell 1 rfl; have q0 := H1.out.dropL.cell 0 rfl; have q1 := H1.out.dropL.cell 1 rfl; have q2 := H1.out.dropL.cell 2 rfl; have x0 := rx_at ((H1.out).dropL.dropL) (j := 0) HA.out rfl; have x1 := rx_at ((H1.out).dropL.dropL) (j := 1) HA.out rfl; have x2 := rx_at ((H1.out).dropL.dropL) (j := 2) HA.out rfl; have x3 := rx_at ((H1.out).dropL.dropL) (j := 3) HA.out rfl; have x4 := rx_at ((H1.out).dropL.dropL) (j := 4) HA.out rfl; have x5 := rx_at ((H1.out).dropL.dropL) (j := 5) HA.out rfl; have x6 := rx_at ((H1.out).dropL.dropL) (j := 6) HA.out rfl; rw [Nat.add_zero] at x0)
  have hx : Sat w0 (pc w1.heap.size 49 (elC ⟨v0, v1, a2, n2, c2, v3⟩) * (pc w.heap.size 30 [vi k, vu gen] * (rxB q b rs.length cap times most * (rxL b cap rs * (plB L * (F)))))) _ := ((H1.out).alloc (elO ⟨v0, v1, a2, n2, c2, v3⟩)).drew
  have HX := Lib.hid hx
  have hz : Sat w0 (pc w1.heap.size 49 (elC ez) * (pc w.heap.size 30 [vi k, vu gen] * (rxB q b rs.length cap times most * (rxL b cap rs * (plB L * (F)))))) _ := ((H1.out).alloc (elO ez)).drew
  have HZ := Lib.hid hz
  clear hx hz
  have ka0 := (H1.out.drew).dropL.cell 0 rfl; have ka1 := (H1.out.drew).cell 0 rfl; have ka2 := rx_at ((H1.out.drew).dropL.dropL) (j := 2) HA.out rfl; have ka3 := rx_at ((H1.out.drew).dropL.dropL) (j := 3) HA.out rfl; have ka4 := rx_at ((H1.out.drew).dropL.dropL) (j := 4) HA.out rfl; have ka5 := rx_at ((H1.out.drew).dropL.dropL) (j := 5) HA.out rfl; rw [show k * 7 + 3 = k * 7 + 2 + 1 by omega] at ka3; rw [show k * 7 + 4 = k * 7 + 2 + 2 by omega] at ka4; rw [show k * 7 + 5 = k * 7 + 2 + 3 by omega] at ka5
  have kb0 := (HX.out).dropL.dropL.cell 0 rfl; have kb1 := (HX.out).dropL.cell 0 rfl; have kb2 := rx_at ((HX.out).dropL.dropL.dropL) (j := 2) HA.out rfl; have kb3 := rx_at ((HX.out).dropL.dropL.dropL) (j := 3) HA.out rfl; have kb4 := rx_at ((HX.out).dropL.dropL.dropL) (j := 4) HA.out rfl; have kb5 := rx_at ((HX.out).dropL.dropL.dropL) (j := 5) HA.out rfl; rw [show k * 7 + 3 = k * 7 + 2 + 1 by omega] at kb3; rw [show k * 7 + 4 = k * 7 + 2 + 2 by omega] at kb4; rw [show k * 7 + 5 = k * 7 + 2 + 3 by omega] at kb5
  have kz0 := (HZ.out).dropL.dropL.cell 0 rfl; have kz1 := (HZ.out).dropL.cell 0 rfl; have kz2 := rx_at ((HZ.out).dropL.dropL.dropL) (j := 2) HA.out rfl; have kz3 := rx_at ((HZ.out).dropL.dropL.dropL) (j := 3) HA.out rfl; have kz4 := rx_at ((HZ.out).dropL.dropL.dropL) (j := 4) HA.out rfl; have kz5 := rx_at ((HZ.out).dropL.dropL.dropL) (j := 5) HA.out rfl; rw [show k * 7 + 3 = k * 7 + 2 + 1 by omega] at kz3; rw [show k * 7 + 4 = k * 7 + 2 + 2 by omega] at kz4; rw [show k * 7 + 5 = k * 7 + 2 + 3 by omega] at kz5
  go_region_held3 (fun w' : World => w'.cell? ⟨q, 0, none⟩ = some (.slice (some ⟨b, 0, none⟩) rs.length cap) ∧ w'.cell? ⟨w.heap.size, 0, none⟩ = some (vi k) ∧ w'.cell? ⟨b, k * 7 + 2, none⟩ = some (vu v0) ∧ w'.cell? ⟨b, k * 7 + 2 + 1, none⟩ = some (vu v1) ∧ w'.cell? ⟨b, k * 7 + 2 + 2, none⟩ = some (.slice a2 n2 c2) ∧ w'.cell? ⟨b, k * 7 + 2 + 3, none⟩ = some (vi v3))
    (first | exact ⟨ka0, ka1, ka2, ka3, ka4, ka5⟩ | exact ⟨kb0, kb1, kb2, kb3, kb4, kb5⟩ | exact ⟨kz0, kz1, kz2, kz3, kz4, kz5⟩ | go_keep)
    (fail)
  clear ka0 kb0 kz0 ka1 kb1 kz1 ka2 kb2 kz2 ka3 kb3 kz3 ka4 kb4 kz4 ka5 kb5 kz5 HZ
  have z0 := HX.out.cell 0 rfl
  have z1 := HX.out.cell 1 rfl
  have z2 := HX.out.cell 2 rfl
  have z3 := HX.out.cell 3 rfl
  go_wp2
  have ya0 := (HX.out).dropL.dropL.cell 2 rfl; have ya1 := (HX.out).cell 1 rfl; have ya2 := (HX.out).cell 2 rfl
  go_region_held3 (fun w' : World => w'.cell? ⟨q, 2, none⟩ = some (vi most) ∧ w'.cell? ⟨w1.heap.size, 1, none⟩ = some (vu v1) ∧ w'.cell? ⟨w1.heap.size, 2, none⟩ = some (.slice a2 n2 c2))
    (first | exact ⟨ya0, ya1, ya2⟩ | exact ⟨yb0, yb1, yb2⟩ | go_keep)
    ((go_at_call 88; refine (HN.out _ _ (Sat.plRd ((HX.out.drew).cast (show _ = plB L * (pc w1.heap.size 49 (elC ⟨v0, v1, a2, n2, c2, v3⟩) * (pc w.heap.size 30 [vi k, vu gen] * (rxB q b rs.length cap times most * (rxL b cap rs * (F))))) by ac_rfl)) HJ.out)).mono ?_; rintro e w2 ⟨vn, rfl, hS2⟩; have h2 := (Sat.link HX.out.drew hS2).cast (show _ = fiS vn ln * (plB L * (pc w1.heap.size 49 (elC ⟨v0, v1, a2, n2, c2, v3⟩) * (pc w.heap.size 30 [vi k, vu gen] * (rxB q b rs.length cap times most * (rxL b cap rs * (F)))))) by ac_rfl); obtain ⟨L2, hsub, hin, h3⟩ := h2.plIn HOK.out; obtain ⟨ao, lc, rfl⟩ := hin.form; have HSUB := Lib.hid hsub; have HIN := Lib.hid hin; have H2 := Lib.hid ((h3).cast (show _ = pc w1.heap.size 49 (elC ⟨v0, v1, a2, n2, c2, v3⟩) * (pc w.heap.size 30 [vi k, vu gen] * (rxB q b rs.length cap times most * (rxL b cap rs * (plB L2 * (F))))) by ac_rfl)); clear hS2 h2 h3 hsub hin; have yb0 := (H2.out).dropL.dropL.cell 2 rfl; have yb1 := (H2.out).cell 1 rfl; have yb2 := (H2.out).cell 2 rfl))
  go_wp2
  have u0 := H2.out.dropL.dropL.cell 0 rfl
  have u1 := H2.out.dropL.cell 0 rfl
  have u2 := rx_at H2.out.dropL.dropL.dropL (j := 4) HA.out rfl
  rw [show k * 7 + 4 = k * 7 + 2 + 2 by omega] at u2
  have uf := rx_free H2.out.dropL.dropL.dropL (k * 7 + 2 + 2)
  have HS := Lib.hid (fun N : Nat => rx_store (((H2.out.drewN N)).cast (show _ = rxL b cap rs * (pc w1.heap.size 49 (elC ⟨v0, v1, a2, n2, c2, v3⟩) * (pc w.heap.size 30 [vi k, vu gen] * (rxB q b rs.length cap times most * (plB L2 * (F))))) by ac_rfl)) HA.out 4 (by omega) (.slice ao ln.length lc) ⟨gen, th, ⟨v0, v1, ao, ln.length, lc, v3⟩, fr⟩ rfl)
  refine wp_quiet_tail 10 (by kernel_rfl) (by kernel_rfl) ?_
  simp only [List.take_succ_cons, List.take_zero, List.drop_succ_cons, List.drop_zero]
  repeat (go_big_quiet_step (fail))
  refine wpQuiet_nil ?_
  go_wp2
  go_ret
  have hs := HS.out 1
  rw [show k * 7 + 4 = k * 7 + 2 + 2 by omega] at hs
  have hfin := ((hs).cast (show _ = pc w1.heap.size 49 (elC ⟨v0, v1, a2, n2, c2, v3⟩) * (pc w.heap.size 30 [vi k, vu gen] * (rxB q b rs.length cap times most * (rxL b cap (rs.set k ⟨gen, th, ⟨v0, v1, ao, ln.length, lc, v3⟩, fr⟩) * (plB L2 * (F))))) by ac_rfl)).dropL.dropL
  exact ⟨rfl, HP2.out _ ⟨ao, lc, L2, HSUB.out, HIN.out, hfin⟩⟩
set_option maxRecDepth 100000 in
set_option maxHeartbeats 4000000 in
theorem rx_charge_ok (hS : Sat w0 (rxB q b rs.length cap times most * (rxL b cap rs * (plB L * (F)))) w) {k : Nat} {a : RPl} (ha : rs[k]? = some a) (ht : a.there = true) (hi8 : InP L (.slice a.x.a2 a.x.n2 a.x.c2) l) (hl : l.length ≤ 1000) (now : Int) (hn : U64 now) (hp : U64 a.x.v1) (hc : ChOk l now a.x.v1 most) (hok : OkL (chargeL l now a.x.v1 most)) :
    Calls Try.prog 47 #[vp q, vr k a.gen, vu now] w fun e w' => ∃ ao lc L2, e = .returned (.bool true) ∧ (∀ x ∈ L, x ∈ L2) ∧ InP L2 (.slice ao (chargeL l now a.x.v1 most).length lc) (chargeL l now a.x.v1 most) ∧ Sat w0 (rxB q b rs.length cap times most * (rxL b cap (rs.set k { a with x := { a.x with a2 := ao, n2 := (chargeL l now a.x.v1 most).length, c2 := lc } }) * (plB L2 * (F)))) w' := by
  exact (rx_charge_ok_ hS ha ht hi8 hl now hn hp hc hok _ (fun _ h => h)).mono fun e w' ⟨h1, ao, lc, L2, h2, h3, h4⟩ => ⟨ao, lc, L2, h1, h2, h3, h4⟩
set_option maxRecDepth 100000 in
set_option maxHeartbeats 4000000 in
theorem rx_drop_no (hS : Sat w0 (rxB q b rs.length cap times most * (rxL b cap rs * (plB L * (F)))) w) (i g : Int) (hi : isR rs i g = none) :
    Calls Try.prog 50 #[vp q, vr i g] w fun e w' => e = .returned (vi 11) ∧ Sat w0 (rxB q b rs.length cap times most * (rxL b cap rs * (plB L * (F)))) w' := by
  have hB : Sat w0 (pc w.heap.size 30 [vi i, vu g] * (rxB q b rs.length cap times most * (rxL b cap rs * (plB L * (F))))) (w.alloc (.cells #[vi i, vu g] 30)) := hS.alloc (.cells #[vi i, vu g] 30)
  have b0 := hB.cell 0 rfl
  have b1 := hB.cell 1 rfl
  have HB := Lib.hid hB
  have HI := Lib.hid (rx_is ((hB).cast (show _ = rxB q b rs.length cap times most * (rxL b cap rs * (pc w.heap.size 30 [vi i, vu g] * (plB L * (F)))) by ac_rfl)) i g)
  rw [hi, show (none : Option (Nat × RPl)).isSome = false from rfl] at HI
  clear hS hB hi
  go_enter Try.func50, Try.ntmps50
  go_wp2_with (go_at_call 86; refine HI.out.mono ?_; rintro e w1 ⟨rfl, hS1⟩; have H1 := Lib.hid ((hS1).cast (show _ = pc w.heap.size 30 [vi i, vu g] * (rxB q b rs.length cap times most * (rxL b cap rs * (plB L * (F)))) by ac_rfl)); clear hS1)
  go_ret
  exact ⟨rfl, H1.out.dropL⟩
set_option maxRecDepth 100000 in
set_option maxHeartbeats 4000000 in
theorem rx_drop_busy (hS : Sat w0 (rxB q b rs.length cap times most * (rxL b cap rs * (plB L * (F)))) w) {k : Nat} {a : RPl} (ha : rs[k]? = some a) (ht : a.there = true) (hb : 0 < a.x.v3) :
    Calls Try.prog 50 #[vp q, vr k a.gen] w fun e w' => e = .returned (vi 14) ∧ Sat w0 (rxB q b rs.length cap times most * (rxL b cap rs * (plB L * (F)))) w' := by
  obtain ⟨gen, th, ⟨v0, v1, a2, n2, c2, v3⟩, fr⟩ := a
  have hi := isR_of ha ht
  (try dsimp only at *)
  have hB : Sat w0 (pc w.heap.size 30 [vi k, vu gen] * (rxB q b rs.length cap times most * (rxL b cap rs * (plB L * (F))))) (w.alloc (.cells #[vi k, vu gen] 30)) := hS.alloc (.cells #[vi k, vu gen] 30)
  have b0 := hB.cell 0 rfl
  have b1 := hB.cell 1 rfl
  have hkl : (k : Int) < (rs.length : Int) := by have := (List.getElem?_eq_some_iff.1 ha).1; omega
  have hk0 : (0 : Int) ≤ (k : Int) := by omega
  have HB := Lib.hid hB
  have HI : Hid (∀ (w1 : World) (G : Hp), Sat w0 (rxB q b rs.length cap times most * (rxL b cap rs * (G))) w1 → Calls Try.prog 86 #[vp q, vr k gen] w1 fun e w' => e = .returned (.bool true) ∧ Sat w0 (rxB q b rs.length cap times most * (rxL b cap rs * (G))) w') := Lib.hid (fun w1 G h1 => by
    have := rx_is h1 k gen
    rw [hi] at this
    exact this)
  have HA := Lib.hid ha
  clear hS hB hi ha
  go_enter Try.func50, Try.ntmps50
  go_wp2_with (go_at_call 86; refine (HI.out _ _ ((HB.out).cast (show _ = rxB q b rs.length cap times most * (rxL b cap rs * (pc w.heap.size 30 [vi k, vu gen] * (plB L * (F)))) by ac_rfl))).mono ?_; rintro e w1 ⟨rfl, hS1⟩; have H1 := Lib.hid ((hS1).cast (show _ = pc w.heap.size 30 [vi k, vu gen] * (rxB q b rs.length cap times most * (rxL b cap rs * (plB L * (F)))) by ac_rfl)); clear hS1; have i0 := H1.out.cell 0 rfl; have i1 := H1.out.cell 1 rfl; have q0 := H1.out.dropL.cell 0 rfl; have q1 := H1.out.dropL.cell 1 rfl; have q2 := H1.out.dropL.cell 2 rfl; have x0 := rx_at ((H1.out).dropL.dropL) (j := 0) HA.out rfl; have x1 := rx_at ((H1.out).dropL.dropL) (j := 1) HA.out rfl; have x2 := rx_at ((H1.out).dropL.dropL) (j := 2) HA.out rfl; have x3 := rx_at ((H1.out).dropL.dropL) (j := 3) HA.out rfl; have x4 := rx_at ((H1.out).dropL.dropL) (j := 4) HA.out rfl; have x5 := rx_at ((H1.out).dropL.dropL) (j := 5) HA.out rfl; have x6 := rx_at ((H1.out).dropL.dropL) (j := 6) HA.out rfl; rw [Nat.add_zero] at x0; have x5' := x5; rw [show k * 7 + 5 = k * 7 + 2 + 3 by omega] at x5')
  go_quiet (fail)
  go_wp2
  go_ret
  exact ⟨rfl, (H1.out.drewN _).dropL⟩
set_option maxRecDepth 100000 in
set_option maxHeartbeats 4000000 in
theorem rx_drop_yes (hS : Sat w0 (rxB q b rs.length cap times most * (rxL b cap rs * (plB L * (F)))) w) {k : Nat} {a : RPl} (ha : rs[k]? = some a) (ht : a.there = true) (hb : a.x.v3 = 0) (hg : 0 ≤ a.gen ∧ a.gen ≤ 1000000) (htm : 0 ≤ times ∧ times ≤ 1000000) :
    Calls Try.prog 50 #[vp q, vr k a.gen] w fun e w' => e = .returned (vi 0) ∧ Sat w0 (rxB q b rs.length cap (times + 1) most * (rxL b cap (rs.set k ⟨a.gen + 1, false, ez, times + 1⟩) * (plB L * (F)))) w' := by
  obtain ⟨gen, th, ⟨v0, v1, a2, n2, c2, v3⟩, fr⟩ := a
  have hi := isR_of ha ht
  (try dsimp only at *)
  have hB : Sat w0 (pc w.heap.size 30 [vi k, vu gen] * (rxB q b rs.length cap times most * (rxL b cap rs * (plB L * (F))))) (w.alloc (.cells #[vi k, vu gen] 30)) := hS.alloc (.cells #[vi k, vu gen] 30)
  have b0 := hB.cell 0 rfl
  have b1 := hB.cell 1 rfl
  have hkl : (k : Int) < (rs.length : Int) := by have := (List.getElem?_eq_some_iff.1 ha).1; omega
  have hk0 : (0 : Int) ≤ (k : Int) := by omega
  have HB := Lib.hid hB
  have HI : Hid (∀ (w1 : World) (G : Hp), Sat w0 (rxB q b rs.length cap times most * (rxL b cap rs * (G))) w1 → Calls Try.prog 86 #[vp q, vr k gen] w1 fun e w' => e = .returned (.bool true) ∧ Sat w0 (rxB q b rs.length cap times most * (rxL b cap rs * (G))) w') := Lib.hid (fun w1 G h1 => by
    have := rx_is h1 k gen
    rw [hi] at this
    exact this)
  have HA := Lib.hid ha
  clear hS hB hi ha
  (try dsimp only at hb hg)
  have hbb : ¬ 0 < v3 := by omega
  clear hb
  have hwg : IntKind.u64.wrap (gen + 1) = gen + 1 := IntWalk.u64_in _ (by omega)
  have hwt : IntKind.i64.wrap (times + 1) = times + 1 := IntWalk.i64_in _ (by omega)
  go_enter Try.func50, Try.ntmps50
  go_wp2_with (go_at_call 86; refine (HI.out _ _ ((HB.out).cast (show _ = rxB q b rs.length cap times most * (rxL b cap rs * (pc w.heap.size 30 [vi k, vu gen] * (plB L * (F)))) by ac_rfl))).mono ?_; rintro e w1 ⟨rfl, hS1⟩; have H1 := Lib.hid ((hS1).cast (show _ = pc w.heap.size 30 [vi k, vu gen] * (rxB q b rs.length cap times most * (rxL b cap rs * (plB L * (F)))) by ac_rfl)); clear hS1; have i0 := H1.out.cell 0 rfl; have i1 := H1.out.cell 1 rfl; have q0 := H1.out.dropL.cell 0 rfl; have q1 := H1.out.dropL.cell 1 rfl; have q2 := H1.out.dropL.cell 2 rfl; have x0 := rx_at ((H1.out).dropL.dropL) (j := 0) HA.out rfl; have x1 := rx_at ((H1.out).dropL.dropL) (j := 1) HA.out rfl; have x2 := rx_at ((H1.out).dropL.dropL) (j := 2) HA.out rfl; have x3 := rx_at ((H1.out).dropL.dropL) (j := 3) HA.out rfl; have x4 := rx_at ((H1.out).dropL.dropL) (j := 4) HA.out rfl; have x5 := rx_at ((H1.out).dropL.dropL) (j := 5) HA.out rfl; have x6 := rx_at ((H1.out).dropL.dropL) (j := 6) HA.out rfl; rw [Nat.add_zero] at x0; have x5' := x5; rw [show k * 7 + 5 = k * 7 + 2 + 3 by omega] at x5'; have qf := H1.out.dropL.free 1)
  go_quiet (fail)
  go_wp2
  have h5 : Sat w0 (rxB q b rs.length cap (times + 1) most * (pc w.heap.size 30 [vi k, vu gen] * (rxL b cap rs * (plB L * (F))))) ((w1.drewN nq).setCell ⟨q, 1, none⟩ (vi (times + 1))) := (((H1.out.drewN nq)).cast (show _ = rxB q b rs.length cap times most * (pc w.heap.size 30 [vi k, vu gen] * (rxL b cap rs * (plB L * (F)))) by ac_rfl)).store 1 (vi (times + 1))
  have H5 := Lib.hid ((h5).cast (show _ = rxL b cap rs * (rxB q b rs.length cap (times + 1) most * (pc w.heap.size 30 [vi k, vu gen] * (plB L * (F)))) by ac_rfl))
  clear h5 b0 b1 i0 i1 q0 q1 q2 x0 x1 x2 x3 x4 x5 x6 x5' qf
  generalize World.setCell _ _ _ = w5 at *
  have i0 := H5.out.dropL.dropL.cell 0 rfl
  have i1 := H5.out.dropL.dropL.cell 1 rfl
  have q0 := H5.out.dropL.cell 0 rfl
  have q1 := H5.out.dropL.cell 1 rfl
  have HTH := Lib.hid (rx_there H5.out.drew HA.out)
  have HS : Hid (Sat w0 (rxL b cap (rs.set k ⟨gen + 1, false, ez, times + 1⟩) * (rxB q b rs.length cap (times + 1) most * (pc w.heap.size 30 [vi k, vu gen] * (plB L * (F))))) (w5.drew.setCells b (k * 7) (⟨gen + 1, false, ez, times + 1⟩ : RPl).cells.toArray.toList)) := Lib.hid (rx_storeP H5.out.drew HA.out ⟨gen + 1, false, ez, times + 1⟩)
  refine wp_quiet_tail 15 (by kernel_rfl) (by kernel_rfl) ?_
  simp only [List.take_succ_cons, List.take_zero, List.drop_succ_cons, List.drop_zero]
  repeat (go_big_quiet_step (fail))
  refine wpQuiet_nil ?_
  go_wp2_with (refine wpList_store_mid rfl 58 _ _ rfl b (k * 7) (⟨gen + 1, false, ez, times + 1⟩ : RPl).cells.toArray (by rfl) (by rfl) HTH.out pinfo8 (all_oneCell_toArray (RPl.one ⟨gen + 1, false, ez, times + 1⟩)) ?_; generalize World.setCells _ _ _ _ = w6 at *)
  go_ret
  exact ⟨rfl, ((HS.out).cast (show _ = pc w.heap.size 30 [vi k, vu gen] * (rxB q b rs.length cap (times + 1) most * (rxL b cap (rs.set k ⟨gen + 1, false, ez, times + 1⟩) * (plB L * (F)))) by ac_rfl)).dropL⟩
end
end Go.Proofs.Ytknodagcmachiaa.Cn
