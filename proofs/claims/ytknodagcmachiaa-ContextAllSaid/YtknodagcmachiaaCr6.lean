/-
  The reference of layer 8: Make, pull. No statement is proved here.
-/
import Derived.Test.YtknodagcmachiaaCr5
namespace Go.Proofs.Ytknodagcmachiaa.Cn
open Go.RowKit Ac Fi
set_option linter.unusedVariables false
set_option linter.unusedSimpArgs false

section
variable {w0 w : World} {F : Hp} {q b cap : Nat} {times most : Int} {rs : List RPl} {L : Blks} {l m : List Rf}
set_option maxRecDepth 100000 in
set_option maxHeartbeats 4000000 in
theorem rx_make_arg (hS : Sat w0 (rxB q b rs.length cap times most * (rxL b cap rs * (plB L * (F)))) w)  (bu per now : Int) (hc : ¬ MkOk bu per now) :
    Calls Try.prog 44 #[vp q, vu bu, vu per, vu now] w fun e w' => e = .returned (.tuple #[vr 0 0, vi 2]) ∧ Sat w0 (rxB q b rs.length cap times most * (rxL b cap rs * (plB L * (F)))) w' := by
  have hB : Sat w0 (pc w.heap.size 30 [vi 0, vu 0] * (rxB q b rs.length cap times most * (rxL b cap rs * (plB L * (F))))) (w.alloc (.cells #[vi 0, vu 0] 30)) := hS.alloc (.cells #[vi 0, vu 0] 30)
  have z0 := hB.cell 0 rfl
  have z1 := hB.cell 1 rfl
  have f0 := hB.free 0
  have f1 := hB.free 1
  have HB := Lib.hid hB
  clear hS hB
  by_cases h1 : bu < 1
  · clear hc
    go_enter Try.func44, Try.ntmps44
    go_wp2
    refine bodyPost_ret (v := .tuple #[vr 0 0, vi 2]) (by rw [results_cell_tmp rfl]; go_simp) rfl ?_
    first | exact ⟨rfl, HB.out.dropL⟩ | exact ⟨rfl, ((HB.out.store 0 (vi 0)).store 1 (vu 0)).dropL⟩
  · by_cases h2 : 4294967296 < bu
    · clear hc
      go_enter Try.func44, Try.ntmps44
      go_wp2
      refine bodyPost_ret (v := .tuple #[vr 0 0, vi 2]) (by rw [results_cell_tmp rfl]; go_simp) rfl ?_
      first | exact ⟨rfl, HB.out.dropL⟩ | exact ⟨rfl, ((HB.out.store 0 (vi 0)).store 1 (vu 0)).dropL⟩
    · by_cases h3 : per < 1
      · clear hc
        go_enter Try.func44, Try.ntmps44
        go_wp2
        refine bodyPost_ret (v := .tuple #[vr 0 0, vi 2]) (by rw [results_cell_tmp rfl]; go_simp) rfl ?_
        first | exact ⟨rfl, HB.out.dropL⟩ | exact ⟨rfl, ((HB.out.store 0 (vi 0)).store 1 (vu 0)).dropL⟩
      · by_cases h4 : 4294967296 < per
        · clear hc
          go_enter Try.func44, Try.ntmps44
          go_wp2
          refine bodyPost_ret (v := .tuple #[vr 0 0, vi 2]) (by rw [results_cell_tmp rfl]; go_simp) rfl ?_
          first | exact ⟨rfl, HB.out.dropL⟩ | exact ⟨rfl, ((HB.out.store 0 (vi 0)).store 1 (vu 0)).dropL⟩
        · have h5 : 1152921504606846976 < now := by unfold MkOk at hc; omega
          clear hc
          go_enter Try.func44, Try.ntmps44
          go_wp2
          refine bodyPost_ret (v := .tuple #[vr 0 0, vi 2]) (by rw [results_cell_tmp rfl]; go_simp) rfl ?_
          first | exact ⟨rfl, HB.out.dropL⟩ | exact ⟨rfl, ((HB.out.store 0 (vi 0)).store 1 (vu 0)).dropL⟩
set_option maxRecDepth 100000 in
set_option maxHeartbeats 4000000 in
theorem rx_make_full (hS : Sat w0 (rxB q b rs.length cap times most * (rxL b cap rs * (plB L * (F)))) w)  (bu per now : Int) (hc : MkOk bu per now) (hn0 : 0 ≤ now) (hl : rs.length ≤ 32) (hf : ∀ (k : Nat) (a : RPl), rs[k]? = some a → a.there = true) :
    Calls Try.prog 44 #[vp q, vu bu, vu per, vu now] w fun e w' => ∃ L2, e = .returned (.tuple #[vr 0 0, vi 3]) ∧ (∀ x ∈ L, x ∈ L2) ∧ Sat w0 (rxB q b rs.length cap times most * (rxL b cap rs * (plB L2 * (F)))) w' := by
  have hB : Sat w0 (pc w.heap.size 30 [vi 0, vu 0] * (rxB q b rs.length cap times most * (rxL b cap rs * (plB L * (F))))) (w.alloc (.cells #[vi 0, vu 0] 30)) := hS.alloc (.cells #[vi 0, vu 0] 30)
  have z0 := hB.cell 0 rfl
  have z1 := hB.cell 1 rfl
  have f0 := hB.free 0
  have f1 := hB.free 1
  have HB := Lib.hid hB
  have HOK : OkL [⟨bu, now⟩] := ok1 bu now ⟨by unfold MkOk at hc; omega, by unfold MkOk at hc; omega⟩ ⟨hn0, by unfold MkOk at hc; omega⟩
  have hc0 := hB.sloOne (size := 2) 61 [vu bu, vu now] rfl
  rw [size1] at hc0
  have hc1 : Sat w0 (fiS (.slice (some ⟨w.heap.size + 1, 0, none⟩) 1 1) [⟨bu, now⟩] * (plB L * (pc w.heap.size 30 [vi 0, vu 0] * (rxB q b rs.length cap times most * (rxL b cap rs * (F)))))) _ := hc0.cast (show _ = fiS (.slice (some ⟨w.heap.size + 1, 0, none⟩) 1 1) [⟨bu, now⟩] * (plB L * (pc w.heap.size 30 [vi 0, vu 0] * (rxB q b rs.length cap times most * (rxL b cap rs * (F))))) by (show slo 61 2 (.slice (some ⟨w.heap.size + 1, 0, none⟩) 1 1) 1 [vu bu, vu now] * _ = slo 61 2 (.slice (some ⟨w.heap.size + 1, 0, none⟩) 1 1) 1 [vu bu, vu now] * _; ac_rfl))
  obtain ⟨L2, hsub, hin, h3⟩ := hc1.plIn HOK
  have HSUB := Lib.hid hsub
  have HIN := Lib.hid hin
  have HPUT := Lib.hid (rx_put_full ((h3).cast (show _ = rxB q b rs.length cap times most * (rxL b cap rs * (pc w.heap.size 30 [vi 0, vu 0] * (plB L2 * (F)))) by ac_rfl)) ⟨bu, per, some ⟨w.heap.size + 1, 0, none⟩, 1, 1, 0⟩ hl hf)
  obtain ⟨h1, h2, h3', h4, h5⟩ := hc
  have h1' : ¬ (bu < 1) := by omega
  have h2' : ¬ (4294967296 < bu) := by omega
  have h3'' : ¬ (per < 1) := by omega
  have h4' : ¬ (4294967296 < per) := by omega
  have h5' : ¬ (1152921504606846976 < now) := by omega
  clear h1 h2 h3' h4 h5 hn0 hS hB hc0 hc1 h3 hsub hin HOK hf
  go_enter Try.func44, Try.ntmps44
  go_wp2_with (go_at_call 85; refine HPUT.out.mono ?_; rintro e w3 ⟨rfl, hS3⟩; have H3 := Lib.hid ((hS3).cast (show _ = pc w.heap.size 30 [vi 0, vu 0] * (rxB q b rs.length cap times most * (rxL b cap rs * (plB L2 * (F)))) by ac_rfl)); clear hS3; have y0 := H3.out.cell 0 rfl; have y1 := H3.out.cell 1 rfl; have yf := H3.out.free 0; have yg := H3.out.free 1; have h4 : Sat w0 (pc w.heap.size 30 [vi 0, vu 0] * (rxB q b rs.length cap times most * (rxL b cap rs * (plB L2 * (F))))) _ := (H3.out.store 0 (vi 0)).store 1 (vu 0); have H4 := Lib.hid h4; clear h4)
  refine bodyPost_ret (v := .tuple #[vr 0 0, vi 3]) (by rw [results_cell_tmp rfl]; go_simp) rfl ?_
  exact ⟨L2, rfl, HSUB.out, ((H4.out).cast (show _ = pc w.heap.size 30 [vi 0, vu 0] * (rxB q b rs.length cap times most * (rxL b cap rs * (plB L2 * (F)))) by ac_rfl)).dropL⟩
set_option maxRecDepth 100000 in
set_option maxHeartbeats 4000000 in
theorem rx_make_ok (hS : Sat w0 (rxB q b rs.length cap times most * (rxL b cap rs * (plB L * (F)))) w) {k : Nat} {a : RPl} (bu per now : Int) (hc : MkOk bu per now) (hn0 : 0 ≤ now) (hl : rs.length ≤ 32) (hk : rs[k]? = some a) (ht : a.there = false) (hm : ∀ (j : Nat) (d : RPl), rs[j]? = some d → d.there = false → j ≠ k → d.freed < a.freed) :
    Calls Try.prog 44 #[vp q, vu bu, vu per, vu now] w fun e w' => ∃ ao lc L2, e = .returned (.tuple #[vr k a.gen, vi 0]) ∧ (∀ x ∈ L, x ∈ L2) ∧ InP L2 (.slice ao 1 lc) [⟨bu, now⟩] ∧ Sat w0 (rxB q b rs.length cap times most * (rxL b cap (rs.set k { a with there := true, x := ⟨bu, per, ao, 1, lc, 0⟩ }) * (plB L2 * (F)))) w' := by
  have hB : Sat w0 (pc w.heap.size 30 [vi 0, vu 0] * (rxB q b rs.length cap times most * (rxL b cap rs * (plB L * (F))))) (w.alloc (.cells #[vi 0, vu 0] 30)) := hS.alloc (.cells #[vi 0, vu 0] 30)
  have z0 := hB.cell 0 rfl
  have z1 := hB.cell 1 rfl
  have f0 := hB.free 0
  have f1 := hB.free 1
  have HB := Lib.hid hB
  have HOK : OkL [⟨bu, now⟩] := ok1 bu now ⟨by unfold MkOk at hc; omega, by unfold MkOk at hc; omega⟩ ⟨hn0, by unfold MkOk at hc; omega⟩
  have hc0 := hB.sloOne (size := 2) 61 [vu bu, vu now] rfl
  rw [size1] at hc0
  have hc1 : Sat w0 (fiS (.slice (some ⟨w.heap.size + 1, 0, none⟩) 1 1) [⟨bu, now⟩] * (plB L * (pc w.heap.size 30 [vi 0, vu 0] * (rxB q b rs.length cap times most * (rxL b cap rs * (F)))))) _ := hc0.cast (show _ = fiS (.slice (some ⟨w.heap.size + 1, 0, none⟩) 1 1) [⟨bu, now⟩] * (plB L * (pc w.heap.size 30 [vi 0, vu 0] * (rxB q b rs.length cap times most * (rxL b cap rs * (F))))) by (show slo 61 2 (.slice (some ⟨w.heap.size + 1, 0, none⟩) 1 1) 1 [vu bu, vu now] * _ = slo 61 2 (.slice (some ⟨w.heap.size + 1, 0, none⟩) 1 1) 1 [vu bu, vu now] * _; ac_rfl))
  obtain ⟨L2, hsub, hin, h3⟩ := hc1.plIn HOK
  have HSUB := Lib.hid hsub
  have HIN := Lib.hid hin
  have HPUT := Lib.hid (rx_put_ok ((h3).cast (show _ = rxB q b rs.length cap times most * (rxL b cap rs * (pc w.heap.size 30 [vi 0, vu 0] * (plB L2 * (F)))) by ac_rfl)) ⟨bu, per, some ⟨w.heap.size + 1, 0, none⟩, 1, 1, 0⟩ hl hk ht hm)
  obtain ⟨h1, h2, h3', h4, h5⟩ := hc
  have h1' : ¬ (bu < 1) := by omega
  have h2' : ¬ (4294967296 < bu) := by omega
  have h3'' : ¬ (per < 1) := by omega
  have h4' : ¬ (4294967296 < per) := by omega
  have h5' : ¬ (1152921504606846976 < now) := by omega
  clear h1 h2 h3' h4 h5 hn0 hS hB hc0 hc1 h3 hsub hin HOK hk ht hm
  go_enter Try.func44, Try.ntmps44
  go_wp2_with (go_at_call 85; refine HPUT.out.mono ?_; rintro e w3 ⟨rfl, hS3⟩; have H3 := Lib.hid ((hS3).cast (show _ = pc w.heap.size 30 [vi 0, vu 0] * (rxB q b rs.length cap times most * (rxL b cap (rs.set k { a with there := true, x := ⟨bu, per, some ⟨w.heap.size + 1, 0, none⟩, 1, 1, 0⟩ }) * (plB L2 * (F)))) by ac_rfl)); clear hS3; have y0 := H3.out.cell 0 rfl; have y1 := H3.out.cell 1 rfl; have yf := H3.out.free 0; have yg := H3.out.free 1; have h4 : Sat w0 (pc w.heap.size 30 [vi k, vu a.gen] * (rxB q b rs.length cap times most * (rxL b cap (rs.set k { a with there := true, x := ⟨bu, per, some ⟨w.heap.size + 1, 0, none⟩, 1, 1, 0⟩ }) * (plB L2 * (F))))) _ := (H3.out.store 0 (vi k)).store 1 (vu a.gen); have H4 := Lib.hid h4; clear h4)
  refine bodyPost_ret (v := .tuple #[vr k a.gen, vi 0]) (by rw [results_cell_tmp rfl]; go_simp) rfl ?_
  exact ⟨some ⟨w.heap.size + 1, 0, none⟩, 1, L2, rfl, HSUB.out, HIN.out, ((H4.out).cast (show _ = pc w.heap.size 30 [vi k, vu a.gen] * (rxB q b rs.length cap times most * (rxL b cap (rs.set k { a with there := true, x := ⟨bu, per, some ⟨w.heap.size + 1, 0, none⟩, 1, 1, 0⟩ }) * (plB L2 * (F)))) by ac_rfl)).dropL⟩
set_option maxRecDepth 100000 in
set_option maxHeartbeats 4000000 in
theorem rx_pull_ (hS : Sat w0 (rxB q b rs.length cap times most * (rxL b cap rs * (plB L * (F)))) w) {k : Nat} {a : RPl} (ha : rs[k]? = some a) (hi8 : InP L (.slice a.x.a2 a.x.n2 a.x.c2) l) (hl : l.length ≤ 1000) (g amount now : Int) (hua : U64 amount) (hp : PuOk l amount) (hth : amount ≤ thereV l now) (hw : amount ≤ a.x.v0 ∧ a.x.v0 ≤ 18446744073709551615) (hok : OkL (lessL (dueL l now) amount)) (P : World → Prop) (hP : ∀ w', (∃ ao lc L2, (∀ x ∈ L, x ∈ L2) ∧ InP L2 (.slice ao (lessL (dueL l now) amount).length lc) (lessL (dueL l now) amount) ∧ Sat w0 (rxB q b rs.length cap times most * (rxL b cap (rs.set k { a with x := ⟨a.x.v0 - amount, a.x.v1, ao, (lessL (dueL l now) amount).length, lc, a.x.v3⟩ }) * (plB L2 * (F)))) w') → P w') :
    Calls Try.prog 90 #[vp q, vr k g, vu amount, vu now] w fun e w' => (∃ v, e = .returned v) ∧ P w' := by
  have hB : Sat w0 (pc w.heap.size 30 [vi k, vu g] * (rxB q b rs.length cap times most * (rxL b cap rs * (plB L * (F))))) (w.alloc (.cells #[vi k, vu g] 30)) := hS.alloc (.cells #[vi k, vu g] 30)
  have hkl : (k : Int) < (rs.length : Int) := by have := (List.getElem?_eq_some_iff.1 ha).1; omega
  have hk0 : (0 : Int) ≤ (k : Int) := by omega
  have HB := Lib.hid hB
  have HP2 := Lib.hid hP
  obtain ⟨gen, th, ⟨v0, v1, a2, n2, c2, v3⟩, fr⟩ := a
  have HA := Lib.hid ha
  have HJ := Lib.hid hi8
  have HP : Hid (∀ w, RdF w (.slice a2 n2 c2) l → Calls Try.prog 103 #[.slice a2 n2 c2, vu now, vu amount] w fun e w' => ∃ v', e = .returned (.tuple #[v', vi 0]) ∧ Sat w (fiS v' (lessL (dueL l now) amount) * emp) w') := Lib.hid (fun w h => (rpull_ (w := w) h hl hua hp).mono fun e w' hh => by
    unfold PullOut at hh
    rw [if_neg (by omega)] at hh
    exact hh)
  have hwr : IntKind.u64.wrap (v0 - amount) = v0 - amount := IntWalk.u64_in _ (by have := hua.1; dsimp only at hw; omega)
  generalize lessL (dueL l now) amount = ln at *
  have HOK := Lib.hid hok
  (try dsimp only at HP2)
  clear hS hB ha hi8 hP hp hth hw hua hok
  go_enter Try.func90, Try.ntmps90
  go_wp2
  have hx0 := (HB.out).alloc (elO ⟨v0, v1, a2, n2, c2, v3⟩)
  rw [size1] at hx0
  have hx : Sat w0 (pc (w.heap.size + 1) 49 (elC ⟨v0, v1, a2, n2, c2, v3⟩) * (pc w.heap.size 30 [vi k, vu g] * (rxB q b rs.length cap times most * (rxL b cap rs * (plB L * (F)))))) _ := hx0.drew
  have HX := Lib.hid hx
  have hz0 := (HB.out).alloc (elO ez)
  rw [size1] at hz0
  have hz : Sat w0 (pc (w.heap.size + 1) 49 (elC ez) * (pc w.heap.size 30 [vi k, vu g] * (rxB q b rs.length cap times most * (rxL b cap rs * (plB L * (F)))))) _ := hz0.drew
  have HZ := Lib.hid hz
  clear hx hz hx0 hz0
  have ka0 := (HB.out.drew).dropL.cell 0 rfl; have ka1 := (HB.out.drew).cell 0 rfl; have ka2 := rx_at ((HB.out.drew).dropL.dropL) (j := 2) HA.out rfl; have ka3 := rx_at ((HB.out.drew).dropL.dropL) (j := 3) HA.out rfl; have ka4 := rx_at ((HB.out.drew).dropL.dropL) (j := 4) HA.out rfl; have ka5 := rx_at ((HB.out.drew).dropL.dropL) (j := 5) HA.out rfl; rw [show k * 7 + 3 = k * 7 + 2 + 1 by omega] at ka3; rw [show k * 7 + 4 = k * 7 + 2 + 2 by omega] at ka4; rw [show k * 7 + 5 = k * 7 + 2 + 3 by omega] at ka5
  have kb0 := (HX.out).dropL.dropL.cell 0 rfl; have kb1 := (HX.out).dropL.cell 0 rfl; have kb2 := rx_at ((HX.out).dropL.dropL.dropL) (j := 2) HA.out rfl; have kb3 := rx_at ((HX.out).dropL.dropL.dropL) (j := 3) HA.out rfl; have kb4 := rx_at ((HX.out).dropL.dropL.dropL) (j := 4) HA.out rfl; have kb5 := rx_at ((HX.out).dropL.dropL.dropL) (j := 5) HA.out rfl; rw [show k * 7 + 3 = k * 7 + 2 + 1 by omega] at kb3; rw [show k * 7 + 4 = k * 7 + 2 + 2 by omega] at kb4; rw [show k * 7 + 5 = k * 7 + 2 + 3 by omega] at kb5
  have kz0 := (HZ.out).dropL.dropL.cell 0 rfl; have kz1 := (HZ.out).dropL.cell 0 rfl; have kz2 := rx_at ((HZ.out).dropL.dropL.dropL) (j := 2) HA.out rfl; have kz3 := rx_at ((HZ.out).dropL.dropL.dropL) (j := 3) HA.out rfl; have kz4 := rx_at ((HZ.out).dropL.dropL.dropL) (j := 4) HA.out rfl; have kz5 := rx_at ((HZ.out).dropL.dropL.dropL) (j := 5) HA.out rfl; rw [show k * 7 + 3 = k * 7 + 2 + 1 by omega] at kz3; rw [show k * 7 + 4 = k * 7 + 2 + 2 by omega] at kz4; rw [show k * 7 + 5 = k * 7 + 2 + 3 by omega] at kz5
  go_region_held3 (fun w' : World => w'.cell? ⟨q, 0, none⟩ = some (.slice (some ⟨b, 0, none⟩) rs.length cap) ∧ w'.cell? ⟨w.heap.size, 0, none⟩ = some (vi k) ∧ w'.cell? ⟨b, k * 7 + 2, none⟩ = some (vu v0) ∧ w'.cell? ⟨b, k * 7 + 2 + 1, none⟩ = some (vu v1) ∧ w'.cell? ⟨b, k * 7 + 2 + 2, none⟩ = some (.slice a2 n2 c2) ∧ w'.cell? ⟨b, k * 7 + 2 + 3, none⟩ = some (vi v3))
    (first | exact ⟨ka0, ka1, ka2, ka3, ka4, ka5⟩ | exact ⟨kb0, kb1, kb2, kb3, kb4, kb5⟩ | exact ⟨kz0, kz1, kz2, kz3, kz4, kz5⟩ | go_keep)
    (fail)
  clear ka0 kb0 kz0 ka1 kb1 kz1 ka2 kb2 kz2 ka3 kb3 kz3 ka4 kb4 kz4 ka5 kb5 kz5 HZ
  have z0 := HX.out.cell 0 rfl
  have z1 := HX.out.cell 1 rfl
  have z2 := HX.out.cell 2 rfl
  have z3 := HX.out.cell 3 rfl
  go_wp2_with (go_at_call 103; refine (HP.out _ (Sat.plRd ((HX.out).cast (show _ = plB L * (pc (w.heap.size + 1) 49 (elC ⟨v0, v1, a2, n2, c2, v3⟩) * (pc w.heap.size 30 [vi k, vu g] * (rxB q b rs.length cap times most * (rxL b cap rs * (F))))) by ac_rfl)) HJ.out)).mono ?_; rintro e w1 ⟨v1', rfl, hS1⟩; have h2 := (Sat.link HX.out hS1).cast (show _ = fiS v1' ln * (plB L * (pc (w.heap.size + 1) 49 (elC ⟨v0, v1, a2, n2, c2, v3⟩) * (pc w.heap.size 30 [vi k, vu g] * (rxB q b rs.length cap times most * (rxL b cap rs * (F)))))) by ac_rfl); obtain ⟨L2, hsub, hin, h3⟩ := h2.plIn HOK.out; obtain ⟨ao, lc, rfl⟩ := hin.form; have HSUB := Lib.hid hsub; have HIN := Lib.hid hin; have h1 := (h3).cast (show _ = pc (w.heap.size + 1) 49 (elC ⟨v0, v1, a2, n2, c2, v3⟩) * (plB L2 * (pc w.heap.size 30 [vi k, vu g] * (rxB q b rs.length cap times most * (rxL b cap rs * (F))))) by ac_rfl); have p0 := h1.cell 0 rfl; have p1 := h1.cell 1 rfl; have p2 := h1.cell 2 rfl; have p3 := h1.cell 3 rfl; have fz := h1.free 2; have fz0 := h1.free 0; have h4 : Sat w0 (pc (w.heap.size + 1) 49 (elC ⟨v0, v1, ao, ln.length, lc, v3⟩) * (plB L2 * (pc w.heap.size 30 [vi k, vu g] * (rxB q b rs.length cap times most * (rxL b cap rs * (F)))))) _ := h1.store 2 (.slice ao ln.length lc); have h5 : Sat w0 (pc (w.heap.size + 1) 49 (elC ⟨v0 - amount, v1, ao, ln.length, lc, v3⟩) * (plB L2 * (pc w.heap.size 30 [vi k, vu g] * (rxB q b rs.length cap times most * (rxL b cap rs * (F)))))) _ := h4.store 0 (vu (v0 - amount)); have fz3 := h4.free 0; have H2 := Lib.hid h5; clear hS1 h1 h2 h3 h4 h5 hsub hin)
  clear z0 z1 z2 z3
  generalize World.setCell (World.setCell _ _ _) _ _ = w5 at *
  have u0 := H2.out.dropL.dropL.dropL.cell 0 rfl
  have u1 := H2.out.dropL.dropL.cell 0 rfl
  have z0 := H2.out.cell 0 rfl
  have z1 := H2.out.cell 1 rfl
  have z2 := H2.out.cell 2 rfl
  have z3 := H2.out.cell 3 rfl
  have HTH : Hid (w5.drew.there b (k * 7 + 2) 4) := Lib.hid (fun j hj => by
    have h3 := rx_at H2.out.drew.dropL.dropL.dropL.dropL HA.out (j := 2 + j) (v := (elC ⟨v0, v1, a2, n2, c2, v3⟩)[j]'hj) (by
      rcases j with _ | _ | _ | _ | j
      all_goals first | rfl | (exfalso; omega))
    rw [← Nat.add_assoc] at h3
    rw [h3]
    exact ⟨rfl, rx_free H2.out.drew.dropL.dropL.dropL.dropL _⟩)
  have hs2 : Sat w0 (rxL b cap (rs.set k ⟨gen, th, ⟨v0 - amount, v1, ao, ln.length, lc, v3⟩, fr⟩) * (pc (w.heap.size + 1) 49 (elC ⟨v0 - amount, v1, ao, ln.length, lc, v3⟩) * (plB L2 * (pc w.heap.size 30 [vi k, vu g] * (rxB q b rs.length cap times most * (F)))))) (w5.drew.setCells b (k * 7 + 2) (elC ⟨v0 - amount, v1, ao, ln.length, lc, v3⟩).toArray.toList) := rx_storeX ((H2.out.drew).cast (show _ = rxL b cap rs * (pc (w.heap.size + 1) 49 (elC ⟨v0 - amount, v1, ao, ln.length, lc, v3⟩) * (plB L2 * (pc w.heap.size 30 [vi k, vu g] * (rxB q b rs.length cap times most * (F))))) by ac_rfl)) HA.out ⟨v0 - amount, v1, ao, ln.length, lc, v3⟩
  have HS2 := Lib.hid hs2
  clear hs2
  refine wp_quiet_tail 9 (by kernel_rfl) (by kernel_rfl) ?_
  simp only [List.take_succ_cons, List.take_zero, List.drop_succ_cons, List.drop_zero]
  repeat (go_big_quiet_step (fail))
  refine wpQuiet_nil ?_
  go_wp2_with (refine wpList_store_mid rfl 49 _ _ rfl b (k * 7 + 2) (elC ⟨v0 - amount, v1, ao, ln.length, lc, v3⟩).toArray (by rfl) (by rfl) HTH.out einfo (all_oneCell_toArray (elOne ⟨v0 - amount, v1, ao, ln.length, lc, v3⟩)) ?_; generalize hw6 : World.setCells _ _ _ _ = w6; have H3 : Hid (Sat w0 (rxL b cap (rs.set k ⟨gen, th, ⟨v0 - amount, v1, ao, ln.length, lc, v3⟩, fr⟩) * (pc (w.heap.size + 1) 49 (elC ⟨v0 - amount, v1, ao, ln.length, lc, v3⟩) * (plB L2 * (pc w.heap.size 30 [vi k, vu g] * (rxB q b rs.length cap times most * (F)))))) w6) := hw6 ▸ HS2; clear hw6)
  go_end0
  exact ⟨⟨_, rfl⟩, HP2.out _ ⟨ao, lc, L2, HSUB.out, HIN.out, ((H3.out).cast (show _ = pc (w.heap.size + 1) 49 (elC ⟨v0 - amount, v1, ao, ln.length, lc, v3⟩) * (pc w.heap.size 30 [vi k, vu g] * (rxB q b rs.length cap times most * (rxL b cap (rs.set k ⟨gen, th, ⟨v0 - amount, v1, ao, ln.length, lc, v3⟩, fr⟩) * (plB L2 * (F))))) by ac_rfl)).dropL.dropL⟩⟩
set_option maxRecDepth 100000 in
set_option maxHeartbeats 4000000 in
theorem rx_pull (hS : Sat w0 (rxB q b rs.length cap times most * (rxL b cap rs * (plB L * (F)))) w) {k : Nat} {a : RPl} (ha : rs[k]? = some a) (hi8 : InP L (.slice a.x.a2 a.x.n2 a.x.c2) l) (hl : l.length ≤ 1000) (g amount now : Int) (hua : U64 amount) (hp : PuOk l amount) (hth : amount ≤ thereV l now) (hw : amount ≤ a.x.v0 ∧ a.x.v0 ≤ 18446744073709551615) (hok : OkL (lessL (dueL l now) amount)) :
    Calls Try.prog 90 #[vp q, vr k g, vu amount, vu now] w fun e w' => ∃ ao lc L2, (∃ v, e = .returned v) ∧ (∀ x ∈ L, x ∈ L2) ∧ InP L2 (.slice ao (lessL (dueL l now) amount).length lc) (lessL (dueL l now) amount) ∧ Sat w0 (rxB q b rs.length cap times most * (rxL b cap (rs.set k { a with x := ⟨a.x.v0 - amount, a.x.v1, ao, (lessL (dueL l now) amount).length, lc, a.x.v3⟩ }) * (plB L2 * (F)))) w' := by
  exact (rx_pull_ hS ha hi8 hl g amount now hua hp hth hw hok _ (fun _ h => h)).mono fun e w' ⟨h1, ao, lc, L2, h2, h3, h4⟩ => ⟨ao, lc, L2, h1, h2, h3, h4⟩
end
end Go.Proofs.Ytknodagcmachiaa.Cn
