/-
  The reference of layer 8: Split. No statement is proved here.
-/
import Derived.Test.YtknodagcmachiaaCr6
namespace Go.Proofs.Ytknodagcmachiaa.Cn
open Go.RowKit Ac Fi
set_option linter.unusedVariables false
set_option linter.unusedSimpArgs false

section
variable {w0 w : World} {F : Hp} {q b cap : Nat} {times most : Int} {rs : List RPl} {L : Blks} {l m : List Rf}
set_option maxRecDepth 100000 in
set_option maxHeartbeats 4000000 in
theorem rx_split_stale (hS : Sat w0 (rxB q b rs.length cap times most * (rxL b cap rs * (plB L * (F)))) w) (i g : Int) (hi : isR rs i g = none) (amount now : Int) :
    Calls Try.prog 48 #[vp q, vr i g, vu amount, vu now] w fun e w' => e = .returned (.tuple #[vr 0 0, vi 11]) ∧ Sat w0 (rxB q b rs.length cap times most * (rxL b cap rs * (plB L * (F)))) w' := by
  have hB0 := (hS.alloc (.cells #[vi i, vu g] 30)).alloc (.cells #[vi 0, vu 0] 30)
  rw [size1] at hB0
  have hB : Sat w0 (pc (w.heap.size + 1) 30 [vi 0, vu 0] * (pc w.heap.size 30 [vi i, vu g] * (rxB q b rs.length cap times most * (rxL b cap rs * (plB L * (F)))))) _ := hB0
  have b0 := hB.dropL.cell 0 rfl
  have b1 := hB.dropL.cell 1 rfl
  have HI := Lib.hid (rx_is ((hB).cast (show _ = rxB q b rs.length cap times most * (rxL b cap rs * (pc (w.heap.size + 1) 30 [vi 0, vu 0] * (pc w.heap.size 30 [vi i, vu g] * (plB L * (F))))) by ac_rfl)) i g)
  rw [hi, show (none : Option (Nat × RPl)).isSome = false from rfl] at HI
  clear hS hB hB0 hi
  go_enter Try.func48, Try.ntmps48
  go_wp2_with (go_at_call 86; refine HI.out.mono ?_; rintro e w1 ⟨rfl, hS1⟩; have H1 := Lib.hid ((hS1).cast (show _ = pc (w.heap.size + 1) 30 [vi 0, vu 0] * (pc w.heap.size 30 [vi i, vu g] * (rxB q b rs.length cap times most * (rxL b cap rs * (plB L * (F))))) by ac_rfl)); have z0 := H1.out.cell 0 rfl; have z1 := H1.out.cell 1 rfl; have f0 := H1.out.free 0; have f1 := H1.out.free 1; clear hS1)
  refine bodyPost_ret (v := .tuple #[vr 0 0, vi 11]) (by rw [results_cell_tmp rfl]; go_simp) rfl ?_
  first | exact ⟨rfl, H1.out.dropL.dropL⟩ | exact ⟨rfl, ((H1.out.store 0 (vi 0)).store 1 (vu 0)).dropL.dropL⟩
set_option maxRecDepth 100000 in
set_option maxHeartbeats 4000000 in
theorem rx_split_part (hS : Sat w0 (rxB q b rs.length cap times most * (rxL b cap rs * (plB L * (F)))) w) {k : Nat} {a : RPl} (ha : rs[k]? = some a) (ht : a.there = true) (hi8 : InP L (.slice a.x.a2 a.x.n2 a.x.c2) l) (hl : l.length ≤ 1000) (amount now er : Int) (hp : partC a.x.v0 l amount now = er) (hne : er ≠ 0) :
    Calls Try.prog 48 #[vp q, vr k a.gen, vu amount, vu now] w fun e w' => e = .returned (.tuple #[vr 0 0, vi er]) ∧ Sat w0 (rxB q b rs.length cap times most * (rxL b cap rs * (plB L * (F)))) w' := by
  obtain ⟨gen, th, ⟨v0, v1, a2, n2, c2, v3⟩, fr⟩ := a
  have hi := isR_of ha ht
  (try dsimp only at *)
  have hB0 := (hS.alloc (.cells #[vi k, vu gen] 30)).alloc (.cells #[vi 0, vu 0] 30)
  rw [size1] at hB0
  have hB : Sat w0 (pc (w.heap.size + 1) 30 [vi 0, vu 0] * (pc w.heap.size 30 [vi k, vu gen] * (rxB q b rs.length cap times most * (rxL b cap rs * (plB L * (F)))))) _ := hB0
  have b0 := hB.dropL.cell 0 rfl
  have b1 := hB.dropL.cell 1 rfl
  have hkl : (k : Int) < (rs.length : Int) := by have := (List.getElem?_eq_some_iff.1 ha).1; omega
  have hk0 : (0 : Int) ≤ (k : Int) := by omega
  have HB := Lib.hid hB
  have HI : Hid (∀ (w1 : World) (G : Hp), Sat w0 (rxB q b rs.length cap times most * (rxL b cap rs * (G))) w1 → Calls Try.prog 86 #[vp q, vr k gen] w1 fun e w' => e = .returned (.bool true) ∧ Sat w0 (rxB q b rs.length cap times most * (rxL b cap rs * (G))) w') := Lib.hid (fun w1 G h1 => by
    have := rx_is h1 k gen
    rw [hi] at this
    exact this)
  have HPT : Hid (∀ (w1 : World) (G : Hp), Sat w0 (rxB q b rs.length cap times most * (rxL b cap rs * (plB L * (G)))) w1 → Calls Try.prog 89 #[vp q, vr k gen, vu amount, vu now] w1 fun e w' => e = .returned (vi er) ∧ Sat w0 (rxB q b rs.length cap times most * (rxL b cap rs * (plB L * (G)))) w') := Lib.hid (fun w1 G h1 => by
    have := rx_part h1 ha hi8 hl gen amount now
    rw [hp] at this
    exact this)
  have HA := Lib.hid ha
  have hnb : (er == 0) = false := beq_eq_false_iff_ne.2 hne
  have hnc : (er != 0) = true := by simpa using hne
  clear hS hB hB0 hi ha hi8 hp hne
  go_enter Try.func48, Try.ntmps48
  go_wp2_with (first
    | (go_at_call 86; refine (HI.out _ _ ((HB.out).cast (show _ = rxB q b rs.length cap times most * (rxL b cap rs * (pc (w.heap.size + 1) 30 [vi 0, vu 0] * (pc w.heap.size 30 [vi k, vu gen] * (plB L * (F))))) by ac_rfl))).mono ?_; rintro e w1 ⟨rfl, hS1⟩; have H1 := Lib.hid ((hS1).cast (show _ = pc (w.heap.size + 1) 30 [vi 0, vu 0] * (pc w.heap.size 30 [vi k, vu gen] * (rxB q b rs.length cap times most * (rxL b cap rs * (plB L * (F))))) by ac_rfl)); have i0 := H1.out.dropL.cell 0 rfl; have i1 := H1.out.dropL.cell 1 rfl; clear hS1)
    | (go_at_call 89; refine (HPT.out _ _ ((H1.out).cast (show _ = rxB q b rs.length cap times most * (rxL b cap rs * (plB L * (pc (w.heap.size + 1) 30 [vi 0, vu 0] * (pc w.heap.size 30 [vi k, vu gen] * (F))))) by ac_rfl))).mono ?_; rintro e w2 ⟨rfl, hS2⟩; have H2 := Lib.hid ((hS2).cast (show _ = pc (w.heap.size + 1) 30 [vi 0, vu 0] * (pc w.heap.size 30 [vi k, vu gen] * (rxB q b rs.length cap times most * (rxL b cap rs * (plB L * (F))))) by ac_rfl)); have z0 := H2.out.cell 0 rfl; have z1 := H2.out.cell 1 rfl; have f0 := H2.out.free 0; have f1 := H2.out.free 1; clear hS2))
  refine bodyPost_ret (v := .tuple #[vr 0 0, vi er]) (by rw [results_cell_tmp rfl]; go_simp) rfl ?_
  first | exact ⟨rfl, H2.out.dropL.dropL⟩ | exact ⟨rfl, ((H2.out.store 0 (vi 0)).store 1 (vu 0)).dropL.dropL⟩
set_option maxRecDepth 100000 in
set_option maxHeartbeats 4000000 in
theorem rx_split_full (hS : Sat w0 (rxB q b rs.length cap times most * (rxL b cap rs * (plB L * (F)))) w) {k : Nat} {a : RPl} (ha : rs[k]? = some a) (ht : a.there = true) (hi8 : InP L (.slice a.x.a2 a.x.n2 a.x.c2) l) (hl : l.length ≤ 1000) (amount now : Int) (hp : partC a.x.v0 l amount now = 0) (hm : MkOk amount a.x.v1 now) (hn0 : 0 ≤ now) (hlen : rs.length ≤ 32) (hf : ∀ (k : Nat) (a : RPl), rs[k]? = some a → a.there = true) :
    Calls Try.prog 48 #[vp q, vr k a.gen, vu amount, vu now] w fun e w' => ∃ L2, e = .returned (.tuple #[vr 0 0, vi 3]) ∧ (∀ x ∈ L, x ∈ L2) ∧ Sat w0 (rxB q b rs.length cap times most * (rxL b cap rs * (plB L2 * (F)))) w' := by
  obtain ⟨gen, th, ⟨v0, v1, a2, n2, c2, v3⟩, fr⟩ := a
  have hi := isR_of ha ht
  (try dsimp only at *)
  have hB0 := (hS.alloc (.cells #[vi k, vu gen] 30)).alloc (.cells #[vi 0, vu 0] 30)
  rw [size1] at hB0
  have hB : Sat w0 (pc (w.heap.size + 1) 30 [vi 0, vu 0] * (pc w.heap.size 30 [vi k, vu gen] * (rxB q b rs.length cap times most * (rxL b cap rs * (plB L * (F)))))) _ := hB0
  have b0 := hB.dropL.cell 0 rfl
  have b1 := hB.dropL.cell 1 rfl
  have hkl : (k : Int) < (rs.length : Int) := by have := (List.getElem?_eq_some_iff.1 ha).1; omega
  have hk0 : (0 : Int) ≤ (k : Int) := by omega
  have HB := Lib.hid hB
  have HI : Hid (∀ (w1 : World) (G : Hp), Sat w0 (rxB q b rs.length cap times most * (rxL b cap rs * (G))) w1 → Calls Try.prog 86 #[vp q, vr k gen] w1 fun e w' => e = .returned (.bool true) ∧ Sat w0 (rxB q b rs.length cap times most * (rxL b cap rs * (G))) w') := Lib.hid (fun w1 G h1 => by
    have := rx_is h1 k gen
    rw [hi] at this
    exact this)
  have HPT : Hid (∀ (w1 : World) (G : Hp), Sat w0 (rxB q b rs.length cap times most * (rxL b cap rs * (plB L * (G)))) w1 → Calls Try.prog 89 #[vp q, vr k gen, vu amount, vu now] w1 fun e w' => e = .returned (vi 0) ∧ Sat w0 (rxB q b rs.length cap times most * (rxL b cap rs * (plB L * (G)))) w') := Lib.hid (fun w1 G h1 => by
    have := rx_part h1 ha hi8 hl gen amount now
    rw [hp] at this
    exact this)
  have HA := Lib.hid ha
  have HMK : Hid (∀ (w1 : World) (G : Hp), Sat w0 (rxB q b rs.length cap times most * (rxL b cap rs * (plB L * (G)))) w1 → Calls Try.prog 44 #[vp q, vu amount, vu v1, vu now] w1 fun e w' => ∃ L2, e = .returned (.tuple #[vr 0 0, vi 3]) ∧ (∀ x ∈ L, x ∈ L2) ∧ Sat w0 (rxB q b rs.length cap times most * (rxL b cap rs * (plB L2 * (G)))) w') := Lib.hid (fun w1 G h1 => rx_make_full h1 amount v1 now hm hn0 hlen hf)
  clear hS hB hB0 hi ha hi8 hp hm hn0 hf
  go_enter Try.func48, Try.ntmps48
  go_wp2_with (first
    | (go_at_call 86; refine (HI.out _ _ ((HB.out).cast (show _ = rxB q b rs.length cap times most * (rxL b cap rs * (pc (w.heap.size + 1) 30 [vi 0, vu 0] * (pc w.heap.size 30 [vi k, vu gen] * (plB L * (F))))) by ac_rfl))).mono ?_; rintro e w1 ⟨rfl, hS1⟩; have H1 := Lib.hid ((hS1).cast (show _ = pc (w.heap.size + 1) 30 [vi 0, vu 0] * (pc w.heap.size 30 [vi k, vu gen] * (rxB q b rs.length cap times most * (rxL b cap rs * (plB L * (F))))) by ac_rfl)); have i0 := H1.out.dropL.cell 0 rfl; have i1 := H1.out.dropL.cell 1 rfl; clear hS1)
    | (go_at_call 89; refine (HPT.out _ _ ((H1.out).cast (show _ = rxB q b rs.length cap times most * (rxL b cap rs * (plB L * (pc (w.heap.size + 1) 30 [vi 0, vu 0] * (pc w.heap.size 30 [vi k, vu gen] * (F))))) by ac_rfl))).mono ?_; rintro e w2 ⟨rfl, hS2⟩; have H2 := Lib.hid ((hS2).cast (show _ = pc (w.heap.size + 1) 30 [vi 0, vu 0] * (pc w.heap.size 30 [vi k, vu gen] * (rxB q b rs.length cap times most * (rxL b cap rs * (plB L * (F))))) by ac_rfl)); have z0 := H2.out.cell 0 rfl; have z1 := H2.out.cell 1 rfl; have f0 := H2.out.free 0; have f1 := H2.out.free 1; clear hS2))
  have hz0 := (H2.out.alloc (.cells #[vi 0, vu 0] 30)).drew
  have hz : Sat w0 (pc w2.heap.size 30 [vi 0, vu 0] * (pc (w.heap.size + 1) 30 [vi 0, vu 0] * (pc w.heap.size 30 [vi k, vu gen] * (rxB q b rs.length cap times most * (rxL b cap rs * (plB L * (F))))))) _ := hz0
  have HZ := Lib.hid hz
  clear hz hz0
  have ka0 := (H2.out).dropL.dropL.cell 0 rfl; have ka1 := (H2.out).dropL.cell 0 rfl; have ka2 := rx_at ((H2.out).dropL.dropL.dropL) (j := 3) HA.out rfl; rw [show k * 7 + 3 = k * 7 + 2 + 1 by omega] at ka2
  have kz0 := (HZ.out).dropL.dropL.dropL.cell 0 rfl; have kz1 := (HZ.out).dropL.dropL.cell 0 rfl; have kz2 := rx_at ((HZ.out).dropL.dropL.dropL.dropL) (j := 3) HA.out rfl; rw [show k * 7 + 3 = k * 7 + 2 + 1 by omega] at kz2
  go_region_held3 (fun w' : World => w'.cell? ⟨q, 0, none⟩ = some (.slice (some ⟨b, 0, none⟩) rs.length cap) ∧ w'.cell? ⟨w.heap.size, 0, none⟩ = some (vi k) ∧ w'.cell? ⟨b, k * 7 + 2 + 1, none⟩ = some (vu v1))
    (first | exact ⟨ka0, ka1, ka2⟩ | exact ⟨kz0, kz1, kz2⟩ | exact ⟨kb0, kb1, kb2⟩ | exact ⟨kc0, kc1, kc2⟩ | exact ⟨kd0, kd1, kd2⟩ | go_keep)
    (first
      | (go_at_call 44; (with_reducible refine (HMK.out _ _ ((H2.out.drew).cast (show _ = rxB q b rs.length cap times most * (rxL b cap rs * (plB L * (pc (w.heap.size + 1) 30 [vi 0, vu 0] * (pc w.heap.size 30 [vi k, vu gen] * (F))))) by ac_rfl))).mono ?_); rintro e w3 ⟨L2, rfl, hsub, hS3⟩; have HSUB := Lib.hid hsub; have H3 := Lib.hid ((hS3).cast (show _ = pc (w.heap.size + 1) 30 [vi 0, vu 0] * (pc w.heap.size 30 [vi k, vu gen] * (rxB q b rs.length cap times most * (rxL b cap rs * (plB L2 * (F))))) by ac_rfl)); clear hS3 hsub; have kb0 := (H3.out).dropL.dropL.cell 0 rfl; have kb1 := (H3.out).dropL.cell 0 rfl; have kb2 := rx_at ((H3.out).dropL.dropL.dropL) (j := 3) HA.out rfl; rw [show k * 7 + 3 = k * 7 + 2 + 1 by omega] at kb2; have h4 : Sat w0 (pc w3.heap.size 30 [vi 0, vu 0] * (pc (w.heap.size + 1) 30 [vi 0, vu 0] * (pc w.heap.size 30 [vi k, vu gen] * (rxB q b rs.length cap times most * (rxL b cap rs * (plB L2 * (F))))))) _ := H3.out.alloc (.cells #[vi 0, vu 0] 30); have H4 := Lib.hid h4; have kc0 := (H4.out).dropL.dropL.dropL.cell 0 rfl; have kc1 := (H4.out).dropL.dropL.cell 0 rfl; have kc2 := rx_at ((H4.out).dropL.dropL.dropL.dropL) (j := 3) HA.out rfl; rw [show k * 7 + 3 = k * 7 + 2 + 1 by omega] at kc2; have h5 : Sat w0 (pc w3.heap.size 30 [vi 0, vu 0] * (pc (w.heap.size + 1) 30 [vi 0, vu 0] * (pc w.heap.size 30 [vi k, vu gen] * (rxB q b rs.length cap times most * (rxL b cap rs * (plB L2 * (F))))))) _ := H3.out.alloc (.cells #[vi 0, vu 0] 30); have H5 := Lib.hid h5; have kd0 := (H5.out).dropL.dropL.dropL.cell 0 rfl; have kd1 := (H5.out).dropL.dropL.cell 0 rfl; have kd2 := rx_at ((H5.out).dropL.dropL.dropL.dropL) (j := 3) HA.out rfl; rw [show k * 7 + 3 = k * 7 + 2 + 1 by omega] at kd2; clear h4 h5)
      | (go_at_call 44; (with_reducible refine (HMK.out _ _ ((HZ.out).cast (show _ = rxB q b rs.length cap times most * (rxL b cap rs * (plB L * (pc w2.heap.size 30 [vi 0, vu 0] * (pc (w.heap.size + 1) 30 [vi 0, vu 0] * (pc w.heap.size 30 [vi k, vu gen] * (F)))))) by ac_rfl))).mono ?_); rintro e w3 ⟨L2, rfl, hsub, hS3⟩; have HSUB := Lib.hid hsub; have H4 := Lib.hid ((hS3).cast (show _ = pc w2.heap.size 30 [vi 0, vu 0] * (pc (w.heap.size + 1) 30 [vi 0, vu 0] * (pc w.heap.size 30 [vi k, vu gen] * (rxB q b rs.length cap times most * (rxL b cap rs * (plB L2 * (F)))))) by ac_rfl)); clear hS3 hsub; have kc0 := (H4.out).dropL.dropL.dropL.cell 0 rfl; have kc1 := (H4.out).dropL.dropL.cell 0 rfl; have kc2 := rx_at ((H4.out).dropL.dropL.dropL.dropL) (j := 3) HA.out rfl; rw [show k * 7 + 3 = k * 7 + 2 + 1 by omega] at kc2; have ef0 := H4.out.free 0; have ef1 := H4.out.free 1; have h5 : Sat w0 (pc w2.heap.size 30 [vi 0, vu 0] * (pc (w.heap.size + 1) 30 [vi 0, vu 0] * (pc w.heap.size 30 [vi k, vu gen] * (rxB q b rs.length cap times most * (rxL b cap rs * (plB L2 * (F))))))) _ := (H4.out.store 0 (vi 0)).store 1 (vu 0); have H5 := Lib.hid h5; have kd0 := (H5.out).dropL.dropL.dropL.cell 0 rfl; have kd1 := (H5.out).dropL.dropL.cell 0 rfl; have kd2 := rx_at ((H5.out).dropL.dropL.dropL.dropL) (j := 3) HA.out rfl; rw [show k * 7 + 3 = k * 7 + 2 + 1 by omega] at kd2; have ee0 := H4.out.cell 0 rfl; have ee1 := H4.out.cell 1 rfl; clear h5))
  all_goals
    have y0 := H5.out.dropL.cell 0 rfl
    have y1 := H5.out.dropL.cell 1 rfl
    have g0 := H5.out.dropL.free 0
    have g1 := H5.out.dropL.free 1
    go_wp2
    (try simp only [Exit.inBlock, Exit.then])
    refine bodyPost_ret (v := .tuple #[vr 0 0, vi 3]) (by rw [results_cell_tmp rfl]; go_simp) rfl ?_
    first | exact ⟨L2, rfl, HSUB.out, H5.out.dropL.dropL.dropL⟩ | exact ⟨L2, rfl, HSUB.out, ((H5.out.dropL.store 0 (vi 0)).store 1 (vu 0)).dropL.dropL⟩ | exact ⟨L2, rfl, HSUB.out, H5.out.drew.dropL.dropL.dropL⟩
set_option maxRecDepth 100000 in
set_option maxHeartbeats 8000000 in
theorem rx_split_ok_ (hS : Sat w0 (rxB q b rs.length cap times most * (rxL b cap rs * (plB L * (F)))) w) {k k' : Nat} {a a' : RPl} (ha : rs[k]? = some a) (ht : a.there = true) (hi8 : InP L (.slice a.x.a2 a.x.n2 a.x.c2) l) (hl : l.length ≤ 1000) (amount now : Int) (hp : partC a.x.v0 l amount now = 0) (hm : MkOk amount a.x.v1 now) (hn0 : 0 ≤ now) (hlen : rs.length ≤ 32) (hk : rs[k']? = some a') (ht' : a'.there = false) (hmx : ∀ (j : Nat) (d : RPl), rs[j]? = some d → d.there = false → j ≠ k' → d.freed < a'.freed) (hpu : PuOk l amount) (hle : amount ≤ thereV l now) (hb : amount ≤ a.x.v0 ∧ a.x.v0 ≤ 18446744073709551615) (hua : U64 amount) (hok : OkL (lessL (dueL l now) amount)) (P : World → Prop) (hP : ∀ w', (∃ ao lc ao2 lc2 L3, (∀ x ∈ L, x ∈ L3) ∧ InP L3 (.slice ao 1 lc) [⟨amount, now⟩] ∧ InP L3 (.slice ao2 (lessL (dueL l now) amount).length lc2) (lessL (dueL l now) amount) ∧ Sat w0 (rxB q b rs.length cap times most * (rxL b cap ((rs.set k' { a' with there := true, x := ⟨amount, a.x.v1, ao, 1, lc, 0⟩ }).set k { a with x := ⟨a.x.v0 - amount, a.x.v1, ao2, (lessL (dueL l now) amount).length, lc2, a.x.v3⟩ }) * (plB L3 * (F)))) w') → P w') :
    Calls Try.prog 48 #[vp q, vr k a.gen, vu amount, vu now] w fun e w' => e = .returned (.tuple #[vr k' a'.gen, vi 0]) ∧ P w' := by
  have hne : k' ≠ k := fun e => by
    subst e
    rw [ha] at hk
    cases hk
    rw [ht] at ht'
    cases ht'
  have HP2 := Lib.hid hP
  clear hP
  obtain ⟨gen, th, ⟨v0, v1, a2, n2, c2, v3⟩, fr⟩ := a
  have hi := isR_of ha ht
  (try dsimp only at *)
  have hB0 := (hS.alloc (.cells #[vi k, vu gen] 30)).alloc (.cells #[vi 0, vu 0] 30)
  rw [size1] at hB0
  have hB : Sat w0 (pc (w.heap.size + 1) 30 [vi 0, vu 0] * (pc w.heap.size 30 [vi k, vu gen] * (rxB q b rs.length cap times most * (rxL b cap rs * (plB L * (F)))))) _ := hB0
  have b0 := hB.dropL.cell 0 rfl
  have b1 := hB.dropL.cell 1 rfl
  have hkl : (k : Int) < (rs.length : Int) := by have := (List.getElem?_eq_some_iff.1 ha).1; omega
  have hk0 : (0 : Int) ≤ (k : Int) := by omega
  have HB := Lib.hid hB
  have HI : Hid (∀ (w1 : World) (G : Hp), Sat w0 (rxB q b rs.length cap times most * (rxL b cap rs * (G))) w1 → Calls Try.prog 86 #[vp q, vr k gen] w1 fun e w' => e = .returned (.bool true) ∧ Sat w0 (rxB q b rs.length cap times most * (rxL b cap rs * (G))) w') := Lib.hid (fun w1 G h1 => by
    have := rx_is h1 k gen
    rw [hi] at this
    exact this)
  have HPT : Hid (∀ (w1 : World) (G : Hp), Sat w0 (rxB q b rs.length cap times most * (rxL b cap rs * (plB L * (G)))) w1 → Calls Try.prog 89 #[vp q, vr k gen, vu amount, vu now] w1 fun e w' => e = .returned (vi 0) ∧ Sat w0 (rxB q b rs.length cap times most * (rxL b cap rs * (plB L * (G)))) w') := Lib.hid (fun w1 G h1 => by
    have := rx_part h1 ha hi8 hl gen amount now
    rw [hp] at this
    exact this)
  have HA := Lib.hid ha
  (try dsimp only at HP2)
  have HMK : Hid (∀ (w1 : World) (G : Hp), Sat w0 (rxB q b rs.length cap times most * (rxL b cap rs * (plB L * (G)))) w1 → Calls Try.prog 44 #[vp q, vu amount, vu v1, vu now] w1 fun e w' => ∃ ao lc L2, e = .returned (.tuple #[vr k' a'.gen, vi 0]) ∧ (∀ x ∈ L, x ∈ L2) ∧ InP L2 (.slice ao 1 lc) [⟨amount, now⟩] ∧ Sat w0 (rxB q b rs.length cap times most * (rxL b cap (rs.set k' { a' with there := true, x := ⟨amount, v1, ao, 1, lc, 0⟩ }) * (plB L2 * (G)))) w') := Lib.hid (fun w1 G h1 => rx_make_ok h1 amount v1 now hm hn0 hlen hk ht' hmx)
  have HA2 : Hid (∀ (ao : Option Addr) (lc : Nat), (rs.set k' { a' with there := true, x := ⟨amount, v1, ao, 1, lc, 0⟩ })[k]? = some ⟨gen, th, ⟨v0, v1, a2, n2, c2, v3⟩, fr⟩) := Lib.hid (fun ao lc => by rw [List.getElem?_set_ne hne]; exact ha)
  have HPU : Hid (∀ (ao : Option Addr) (lc : Nat) (L2 : Blks) (w1 : World) (G : Hp), (∀ x ∈ L, x ∈ L2) → Sat w0 (rxB q b rs.length cap times most * (rxL b cap (rs.set k' { a' with there := true, x := ⟨amount, v1, ao, 1, lc, 0⟩ }) * (plB L2 * (G)))) w1 → Calls Try.prog 90 #[vp q, vr k gen, vu amount, vu now] w1 fun e w' => ∃ ao2 lc2 L3, (∃ v, e = .returned v) ∧ (∀ x ∈ L2, x ∈ L3) ∧ InP L3 (.slice ao2 (lessL (dueL l now) amount).length lc2) (lessL (dueL l now) amount) ∧ Sat w0 (rxB q b rs.length cap times most * (rxL b cap ((rs.set k' { a' with there := true, x := ⟨amount, v1, ao, 1, lc, 0⟩ }).set k ⟨gen, th, ⟨v0 - amount, v1, ao2, (lessL (dueL l now) amount).length, lc2, v3⟩, fr⟩) * (plB L3 * (G)))) w') := Lib.hid (fun ao lc L2 w1 G hsub h1 => by
    have h2 := rx_pull (rs := rs.set k' { a' with there := true, x := ⟨amount, v1, ao, 1, lc, 0⟩ }) (F := G) (L := L2) (by rw [List.length_set]; exact h1) (HA2.out ao lc) (hi8.mono hsub) hl gen amount now hua hpu hle hb hok
    rw [List.length_set] at h2
    exact h2)
  generalize lessL (dueL l now) amount = ln at *
  clear hS hB hB0 hi ha hi8 hp hm hn0 hk ht' hmx hne hpu hle hb hua hok
  go_enter Try.func48, Try.ntmps48
  go_wp2_with (first
    | (go_at_call 86; refine (HI.out _ _ ((HB.out).cast (show _ = rxB q b rs.length cap times most * (rxL b cap rs * (pc (w.heap.size + 1) 30 [vi 0, vu 0] * (pc w.heap.size 30 [vi k, vu gen] * (plB L * (F))))) by ac_rfl))).mono ?_; rintro e w1 ⟨rfl, hS1⟩; have H1 := Lib.hid ((hS1).cast (show _ = pc (w.heap.size + 1) 30 [vi 0, vu 0] * (pc w.heap.size 30 [vi k, vu gen] * (rxB q b rs.length cap times most * (rxL b cap rs * (plB L * (F))))) by ac_rfl)); have i0 := H1.out.dropL.cell 0 rfl; have i1 := H1.out.dropL.cell 1 rfl; clear hS1)
    | (go_at_call 89; refine (HPT.out _ _ ((H1.out).cast (show _ = rxB q b rs.length cap times most * (rxL b cap rs * (plB L * (pc (w.heap.size + 1) 30 [vi 0, vu 0] * (pc w.heap.size 30 [vi k, vu gen] * (F))))) by ac_rfl))).mono ?_; rintro e w2 ⟨rfl, hS2⟩; have H2 := Lib.hid ((hS2).cast (show _ = pc (w.heap.size + 1) 30 [vi 0, vu 0] * (pc w.heap.size 30 [vi k, vu gen] * (rxB q b rs.length cap times most * (rxL b cap rs * (plB L * (F))))) by ac_rfl)); have z0 := H2.out.cell 0 rfl; have z1 := H2.out.cell 1 rfl; have f0 := H2.out.free 0; have f1 := H2.out.free 1; clear hS2))
  have hz0 := (H2.out.alloc (.cells #[vi 0, vu 0] 30)).drew
  have hz : Sat w0 (pc w2.heap.size 30 [vi 0, vu 0] * (pc (w.heap.size + 1) 30 [vi 0, vu 0] * (pc w.heap.size 30 [vi k, vu gen] * (rxB q b rs.length cap times most * (rxL b cap rs * (plB L * (F))))))) _ := hz0
  have HZ := Lib.hid hz
  clear hz hz0
  have ka0 := (H2.out).dropL.dropL.cell 0 rfl; have ka1 := (H2.out).dropL.cell 0 rfl; have ka2 := rx_at ((H2.out).dropL.dropL.dropL) (j := 3) HA.out rfl; rw [show k * 7 + 3 = k * 7 + 2 + 1 by omega] at ka2
  have kz0 := (HZ.out).dropL.dropL.dropL.cell 0 rfl; have kz1 := (HZ.out).dropL.dropL.cell 0 rfl; have kz2 := rx_at ((HZ.out).dropL.dropL.dropL.dropL) (j := 3) HA.out rfl; rw [show k * 7 + 3 = k * 7 + 2 + 1 by omega] at kz2
  go_region_held3 (fun w' : World => w'.cell? ⟨q, 0, none⟩ = some (.slice (some ⟨b, 0, none⟩) rs.length cap) ∧ w'.cell? ⟨w.heap.size, 0, none⟩ = some (vi k) ∧ w'.cell? ⟨b, k * 7 + 2 + 1, none⟩ = some (vu v1))
    (first | exact ⟨ka0, ka1, ka2⟩ | exact ⟨kz0, kz1, kz2⟩ | exact ⟨kb0, kb1, kb2⟩ | exact ⟨kc0, kc1, kc2⟩ | exact ⟨kd0, kd1, kd2⟩ | go_keep)
    (first
      | (go_at_call 44; (with_reducible refine (HMK.out _ _ ((H2.out.drew).cast (show _ = rxB q b rs.length cap times most * (rxL b cap rs * (plB L * (pc (w.heap.size + 1) 30 [vi 0, vu 0] * (pc w.heap.size 30 [vi k, vu gen] * (F))))) by ac_rfl))).mono ?_); rintro e w3 ⟨ao, lc, L2, rfl, hsub, hin, hS3⟩; have HSUB := Lib.hid hsub; have HIN := Lib.hid hin; have H3 := Lib.hid ((hS3).cast (show _ = pc (w.heap.size + 1) 30 [vi 0, vu 0] * (pc w.heap.size 30 [vi k, vu gen] * (rxB q b rs.length cap times most * (rxL b cap (rs.set k' { a' with there := true, x := ⟨amount, v1, ao, 1, lc, 0⟩ }) * (plB L2 * (F))))) by ac_rfl)); clear hS3 hsub; have kb0 := (H3.out).dropL.dropL.cell 0 rfl; have kb1 := (H3.out).dropL.cell 0 rfl; have kb2 := rx_at ((H3.out).dropL.dropL.dropL) (j := 3) (HA2.out ao lc) rfl; rw [show k * 7 + 3 = k * 7 + 2 + 1 by omega] at kb2; have h4 : Sat w0 (pc w3.heap.size 30 [vi 0, vu 0] * (pc (w.heap.size + 1) 30 [vi 0, vu 0] * (pc w.heap.size 30 [vi k, vu gen] * (rxB q b rs.length cap times most * (rxL b cap (rs.set k' { a' with there := true, x := ⟨amount, v1, ao, 1, lc, 0⟩ }) * (plB L2 * (F))))))) _ := H3.out.alloc (.cells #[vi 0, vu 0] 30); have H4 := Lib.hid h4; have kc0 := (H4.out).dropL.dropL.dropL.cell 0 rfl; have kc1 := (H4.out).dropL.dropL.cell 0 rfl; have kc2 := rx_at ((H4.out).dropL.dropL.dropL.dropL) (j := 3) (HA2.out ao lc) rfl; rw [show k * 7 + 3 = k * 7 + 2 + 1 by omega] at kc2; have h5 : Sat w0 (pc w3.heap.size 30 [vi k', vu a'.gen] * (pc (w.heap.size + 1) 30 [vi 0, vu 0] * (pc w.heap.size 30 [vi k, vu gen] * (rxB q b rs.length cap times most * (rxL b cap (rs.set k' { a' with there := true, x := ⟨amount, v1, ao, 1, lc, 0⟩ }) * (plB L2 * (F))))))) _ := H3.out.alloc (.cells #[vi k', vu a'.gen] 30); have H5 := Lib.hid h5; have kd0 := (H5.out).dropL.dropL.dropL.cell 0 rfl; have kd1 := (H5.out).dropL.dropL.cell 0 rfl; have kd2 := rx_at ((H5.out).dropL.dropL.dropL.dropL) (j := 3) (HA2.out ao lc) rfl; rw [show k * 7 + 3 = k * 7 + 2 + 1 by omega] at kd2; clear h4 h5)
      | (go_at_call 44; (with_reducible refine (HMK.out _ _ ((HZ.out).cast (show _ = rxB q b rs.length cap times most * (rxL b cap rs * (plB L * (pc w2.heap.size 30 [vi 0, vu 0] * (pc (w.heap.size + 1) 30 [vi 0, vu 0] * (pc w.heap.size 30 [vi k, vu gen] * (F)))))) by ac_rfl))).mono ?_); rintro e w3 ⟨ao, lc, L2, rfl, hsub, hin, hS3⟩; have HSUB := Lib.hid hsub; have HIN := Lib.hid hin; have H4 := Lib.hid ((hS3).cast (show _ = pc w2.heap.size 30 [vi 0, vu 0] * (pc (w.heap.size + 1) 30 [vi 0, vu 0] * (pc w.heap.size 30 [vi k, vu gen] * (rxB q b rs.length cap times most * (rxL b cap (rs.set k' { a' with there := true, x := ⟨amount, v1, ao, 1, lc, 0⟩ }) * (plB L2 * (F)))))) by ac_rfl)); clear hS3 hsub; have kc0 := (H4.out).dropL.dropL.dropL.cell 0 rfl; have kc1 := (H4.out).dropL.dropL.cell 0 rfl; have kc2 := rx_at ((H4.out).dropL.dropL.dropL.dropL) (j := 3) (HA2.out ao lc) rfl; rw [show k * 7 + 3 = k * 7 + 2 + 1 by omega] at kc2; have ef0 := H4.out.free 0; have ef1 := H4.out.free 1; have h5 : Sat w0 (pc w2.heap.size 30 [vi k', vu a'.gen] * (pc (w.heap.size + 1) 30 [vi 0, vu 0] * (pc w.heap.size 30 [vi k, vu gen] * (rxB q b rs.length cap times most * (rxL b cap (rs.set k' { a' with there := true, x := ⟨amount, v1, ao, 1, lc, 0⟩ }) * (plB L2 * (F))))))) _ := (H4.out.store 0 (vi k')).store 1 (vu a'.gen); have H5 := Lib.hid h5; have kd0 := (H5.out).dropL.dropL.dropL.cell 0 rfl; have kd1 := (H5.out).dropL.dropL.cell 0 rfl; have kd2 := rx_at ((H5.out).dropL.dropL.dropL.dropL) (j := 3) (HA2.out ao lc) rfl; rw [show k * 7 + 3 = k * 7 + 2 + 1 by omega] at kd2; have ee0 := H4.out.cell 0 rfl; have ee1 := H4.out.cell 1 rfl; clear h5))
  · 
    have i0 := H5.out.dropL.dropL.cell 0 rfl
    have i1 := H5.out.dropL.dropL.cell 1 rfl
    have HF5 := Lib.hid H5.out
    go_wp2_with (go_at_call 90; refine (HPU.out ao lc L2 _ _ HSUB.out ((H5.out).cast (show _ = rxB q b rs.length cap times most * (rxL b cap (rs.set k' { a' with there := true, x := ⟨amount, v1, ao, 1, lc, 0⟩ }) * (plB L2 * (pc w3.heap.size 30 [vi k', vu a'.gen] * (pc (w.heap.size + 1) 30 [vi 0, vu 0] * (pc w.heap.size 30 [vi k, vu gen] * (F)))))) by ac_rfl))).mono ?_; rintro e w7 ⟨ao2, lc2, L3, ⟨vv, rfl⟩, hsub3, hin3, hS7⟩; have HSUB3 := Lib.hid hsub3; have HIN3 := Lib.hid hin3; have H7 := Lib.hid ((hS7).cast (show _ = pc w3.heap.size 30 [vi k', vu a'.gen] * (pc (w.heap.size + 1) 30 [vi 0, vu 0] * (pc w.heap.size 30 [vi k, vu gen] * (rxB q b rs.length cap times most * (rxL b cap ((rs.set k' { a' with there := true, x := ⟨amount, v1, ao, 1, lc, 0⟩ }).set k ⟨gen, th, ⟨v0 - amount, v1, ao2, ln.length, lc2, v3⟩, fr⟩) * (plB L3 * (F)))))) by ac_rfl)); have y0 := H7.out.dropL.cell 0 rfl; have y1 := H7.out.dropL.cell 1 rfl; have g0 := H7.out.dropL.free 0; have g1 := H7.out.dropL.free 1; have t0 := H7.out.cell 0 rfl; have t1 := H7.out.cell 1 rfl; have h8 : Sat w0 (pc (w.heap.size + 1) 30 [vi k', vu a'.gen] * (pc w3.heap.size 30 [vi k', vu a'.gen] * (pc w.heap.size 30 [vi k, vu gen] * (rxB q b rs.length cap times most * (rxL b cap ((rs.set k' { a' with there := true, x := ⟨amount, v1, ao, 1, lc, 0⟩ }).set k ⟨gen, th, ⟨v0 - amount, v1, ao2, ln.length, lc2, v3⟩, fr⟩) * (plB L3 * (F))))))) _ := (((H7.out).cast (show _ = pc (w.heap.size + 1) 30 [vi 0, vu 0] * (pc w3.heap.size 30 [vi k', vu a'.gen] * (pc w.heap.size 30 [vi k, vu gen] * (rxB q b rs.length cap times most * (rxL b cap ((rs.set k' { a' with there := true, x := ⟨amount, v1, ao, 1, lc, 0⟩ }).set k ⟨gen, th, ⟨v0 - amount, v1, ao2, ln.length, lc2, v3⟩, fr⟩) * (plB L3 * (F)))))) by ac_rfl)).store 0 (vi k')).store 1 (vu a'.gen); have H8 := Lib.hid h8; clear h8 hS7 hsub3 hin3)
    (try simp only [Exit.inBlock, Exit.then])
    refine bodyPost_ret (v := .tuple #[vr k' a'.gen, vi 0]) (by rw [results_cell_tmp rfl]; go_simp) rfl ?_
    exact ⟨rfl, HP2.out _ ⟨ao, lc, ao2, lc2, L3, fun x hx => HSUB3.out x (HSUB.out x hx), HIN.out.mono HSUB3.out, HIN3.out, ((H8.out).cast (show _ = pc (w.heap.size + 1) 30 [vi k', vu a'.gen] * (pc w3.heap.size 30 [vi k', vu a'.gen] * (pc w.heap.size 30 [vi k, vu gen] * (rxB q b rs.length cap times most * (rxL b cap ((rs.set k' { a' with there := true, x := ⟨amount, v1, ao, 1, lc, 0⟩ }).set k ⟨gen, th, ⟨v0 - amount, v1, ao2, ln.length, lc2, v3⟩, fr⟩) * (plB L3 * (F)))))) by ac_rfl)).dropL.dropL.dropL⟩⟩
  · 
    have i0 := H5.out.dropL.dropL.cell 0 rfl
    have i1 := H5.out.dropL.dropL.cell 1 rfl
    have HF5 := Lib.hid H5.out
    go_wp2_with (go_at_call 90; refine (HPU.out ao lc L2 _ _ HSUB.out ((H5.out).cast (show _ = rxB q b rs.length cap times most * (rxL b cap (rs.set k' { a' with there := true, x := ⟨amount, v1, ao, 1, lc, 0⟩ }) * (plB L2 * (pc w2.heap.size 30 [vi k', vu a'.gen] * (pc (w.heap.size + 1) 30 [vi 0, vu 0] * (pc w.heap.size 30 [vi k, vu gen] * (F)))))) by ac_rfl))).mono ?_; rintro e w7 ⟨ao2, lc2, L3, ⟨vv, rfl⟩, hsub3, hin3, hS7⟩; have HSUB3 := Lib.hid hsub3; have HIN3 := Lib.hid hin3; have H7 := Lib.hid ((hS7).cast (show _ = pc w2.heap.size 30 [vi k', vu a'.gen] * (pc (w.heap.size + 1) 30 [vi 0, vu 0] * (pc w.heap.size 30 [vi k, vu gen] * (rxB q b rs.length cap times most * (rxL b cap ((rs.set k' { a' with there := true, x := ⟨amount, v1, ao, 1, lc, 0⟩ }).set k ⟨gen, th, ⟨v0 - amount, v1, ao2, ln.length, lc2, v3⟩, fr⟩) * (plB L3 * (F)))))) by ac_rfl)); have y0 := H7.out.dropL.cell 0 rfl; have y1 := H7.out.dropL.cell 1 rfl; have g0 := H7.out.dropL.free 0; have g1 := H7.out.dropL.free 1; have t0 := H7.out.cell 0 rfl; have t1 := H7.out.cell 1 rfl; have h8 : Sat w0 (pc (w.heap.size + 1) 30 [vi k', vu a'.gen] * (pc w2.heap.size 30 [vi k', vu a'.gen] * (pc w.heap.size 30 [vi k, vu gen] * (rxB q b rs.length cap times most * (rxL b cap ((rs.set k' { a' with there := true, x := ⟨amount, v1, ao, 1, lc, 0⟩ }).set k ⟨gen, th, ⟨v0 - amount, v1, ao2, ln.length, lc2, v3⟩, fr⟩) * (plB L3 * (F))))))) _ := (((H7.out).cast (show _ = pc (w.heap.size + 1) 30 [vi 0, vu 0] * (pc w2.heap.size 30 [vi k', vu a'.gen] * (pc w.heap.size 30 [vi k, vu gen] * (rxB q b rs.length cap times most * (rxL b cap ((rs.set k' { a' with there := true, x := ⟨amount, v1, ao, 1, lc, 0⟩ }).set k ⟨gen, th, ⟨v0 - amount, v1, ao2, ln.length, lc2, v3⟩, fr⟩) * (plB L3 * (F)))))) by ac_rfl)).store 0 (vi k')).store 1 (vu a'.gen); have H8 := Lib.hid h8; clear h8 hS7 hsub3 hin3)
    (try simp only [Exit.inBlock, Exit.then])
    refine bodyPost_ret (v := .tuple #[vr k' a'.gen, vi 0]) (by rw [results_cell_tmp rfl]; go_simp) rfl ?_
    exact ⟨rfl, HP2.out _ ⟨ao, lc, ao2, lc2, L3, fun x hx => HSUB3.out x (HSUB.out x hx), HIN.out.mono HSUB3.out, HIN3.out, ((H8.out).cast (show _ = pc (w.heap.size + 1) 30 [vi k', vu a'.gen] * (pc w2.heap.size 30 [vi k', vu a'.gen] * (pc w.heap.size 30 [vi k, vu gen] * (rxB q b rs.length cap times most * (rxL b cap ((rs.set k' { a' with there := true, x := ⟨amount, v1, ao, 1, lc, 0⟩ }).set k ⟨gen, th, ⟨v0 - amount, v1, ao2, ln.length, lc2, v3⟩, fr⟩) * (plB L3 * (F)))))) by ac_rfl)).dropL.dropL.dropL⟩⟩
set_option maxRecDepth 100000 in
set_option maxHeartbeats 4000000 in
theorem rx_split_ok (hS : Sat w0 (rxB q b rs.length cap times most * (rxL b cap rs * (plB L * (F)))) w) {k k' : Nat} {a a' : RPl} (ha : rs[k]? = some a) (ht : a.there = true) (hi8 : InP L (.slice a.x.a2 a.x.n2 a.x.c2) l) (hl : l.length ≤ 1000) (amount now : Int) (hp : partC a.x.v0 l amount now = 0) (hm : MkOk amount a.x.v1 now) (hn0 : 0 ≤ now) (hlen : rs.length ≤ 32) (hk : rs[k']? = some a') (ht' : a'.there = false) (hmx : ∀ (j : Nat) (d : RPl), rs[j]? = some d → d.there = false → j ≠ k' → d.freed < a'.freed) (hpu : PuOk l amount) (hle : amount ≤ thereV l now) (hb : amount ≤ a.x.v0 ∧ a.x.v0 ≤ 18446744073709551615) (hua : U64 amount) (hok : OkL (lessL (dueL l now) amount)) :
    Calls Try.prog 48 #[vp q, vr k a.gen, vu amount, vu now] w fun e w' => ∃ ao lc ao2 lc2 L3, e = .returned (.tuple #[vr k' a'.gen, vi 0]) ∧ (∀ x ∈ L, x ∈ L3) ∧ InP L3 (.slice ao 1 lc) [⟨amount, now⟩] ∧ InP L3 (.slice ao2 (lessL (dueL l now) amount).length lc2) (lessL (dueL l now) amount) ∧ Sat w0 (rxB q b rs.length cap times most * (rxL b cap ((rs.set k' { a' with there := true, x := ⟨amount, a.x.v1, ao, 1, lc, 0⟩ }).set k { a with x := ⟨a.x.v0 - amount, a.x.v1, ao2, (lessL (dueL l now) amount).length, lc2, a.x.v3⟩ }) * (plB L3 * (F)))) w' := by
  exact (rx_split_ok_ hS ha ht hi8 hl amount now hp hm hn0 hlen hk ht' hmx hpu hle hb hua hok _ (fun _ h => h)).mono fun e w' ⟨h1, ao, lc, ao2, lc2, L3, h2, h3, h4, h5⟩ => ⟨ao, lc, ao2, lc2, L3, h1, h2, h3, h4, h5⟩
end
end Go.Proofs.Ytknodagcmachiaa.Cn
