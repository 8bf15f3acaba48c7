/-
  The reference of layer 8: put. No statement is proved here.
-/
import Derived.Test.YtknodagcmachiaaCr4
namespace Go.Proofs.Ytknodagcmachiaa.Cn
open Go.RowKit Ac Fi
set_option linter.unusedVariables false
set_option linter.unusedSimpArgs false

section
variable {w0 w : World} {F : Hp} {q b cap : Nat} {times most : Int} {rs : List RPl} {L : Blks} {l m : List Rf}
set_option maxRecDepth 100000 in
set_option maxHeartbeats 4000000 in
theorem rx_put_full (hS : Sat w0 (rxB q b rs.length cap times most * (rxL b cap rs * (F))) w) (x : El) (hl : rs.length ≤ 32) (hf : ∀ (k : Nat) (a : RPl), rs[k]? = some a → a.there = true) :
    Calls Try.prog 85 #[vp q, ev x] w fun e w' => e = .returned (.tuple #[vr 0 0, vi 3]) ∧ Sat w0 (rxB q b rs.length cap times most * (rxL b cap rs * (F))) w' := by
  obtain ⟨v0, v1, a2, n2, c2, v3⟩ := x
  have hB0 := (hS.alloc (elO ⟨v0, v1, a2, n2, c2, v3⟩)).alloc (.cells #[vi 0, vu 0] 30)
  rw [size1] at hB0
  have hB : Sat w0 (pc (w.heap.size + 1) 30 [vi 0, vu 0] * (pc w.heap.size 49 (elC ⟨v0, v1, a2, n2, c2, v3⟩) * (rxB q b rs.length cap times most * (rxL b cap rs * (F))))) _ := hB0
  have HB := Lib.hid hB
  have hlen : (rs.length : Int) ≤ 32 := by omega
  clear hS hB hB0
  have HF := Lib.hid hf
  clear hf
  go_enter Try.func85, Try.ntmps85
  go_wp2
  go_loopw [6, 7] (fun at_ i wr => ∃ (j : Nat), j ≤ rs.length ∧ i = vi j ∧ at_ = vi (-1) ∧ Sat w0 (pc (w.heap.size + 1) 30 [vi 0, vu 0] * (pc w.heap.size 49 (elC ⟨v0, v1, a2, n2, c2, v3⟩) * (rxB q b rs.length cap times most * (rxL b cap rs * (F))))) wr) (fun _ i _ => rs.length - (intOf i).toNat)
  case atStart => exact ⟨0, Nat.zero_le _, rfl, rfl, HB.out⟩
  case round =>
    clear HB
    obtain ⟨j, hj, rfl, rfl, hS⟩ := hrel
    have HS := Lib.hid hS
    have q0 := hS.dropL.dropL.cell 0 rfl
    clear hS
    by_cases hlt : j < rs.length
    · have hji : (j : Int) < (rs.length : Int) := by omega
      obtain ⟨a, ha⟩ : ∃ a, rs[j]? = some a := ⟨rs[j], List.getElem?_eq_getElem hlt⟩
      have c1 := rx_at HS.out.dropL.dropL.dropL (j := 1) ha rfl
      rw [HF.out j a ha] at c1
      clear ha
      go_wp2
      go_quiet (fail)
      go_wp2
      go_roundw
      case rel => exact ⟨j + 1, by omega, by go_num, rfl, HS.out.drewN _⟩
      case measure => (simp [intOf]; try omega)
    · obtain rfl : j = rs.length := by omega
      have z0 := HS.out.cell 0 rfl
      have z1 := HS.out.cell 1 rfl
      have zf := HS.out.free 0
      have zg := HS.out.free 1
      go_wp2
      refine bodyPost_ret (v := .tuple #[vr 0 0, vi 3]) (by rw [results_cell_tmp rfl]; go_simp) rfl ?_
      first | exact ⟨rfl, HS.out.dropL.dropL⟩ | exact ⟨rfl, ((HS.out.store 0 (vi 0)).store 1 (vu 0)).dropL.dropL⟩
set_option maxRecDepth 100000 in
set_option maxHeartbeats 4000000 in
theorem rx_put_ok (hS : Sat w0 (rxB q b rs.length cap times most * (rxL b cap rs * (F))) w) {k : Nat} {a : RPl} (x : El) (hl : rs.length ≤ 32) (hk : rs[k]? = some a) (ht : a.there = false) (hm : ∀ (j : Nat) (d : RPl), rs[j]? = some d → d.there = false → j ≠ k → d.freed < a.freed) :
    Calls Try.prog 85 #[vp q, ev x] w fun e w' => e = .returned (.tuple #[vr k a.gen, vi 0]) ∧ Sat w0 (rxB q b rs.length cap times most * (rxL b cap (rs.set k { a with there := true, x := x }) * (F))) w' := by
  obtain ⟨v0, v1, a2, n2, c2, v3⟩ := x
  have hB0 := (hS.alloc (elO ⟨v0, v1, a2, n2, c2, v3⟩)).alloc (.cells #[vi 0, vu 0] 30)
  rw [size1] at hB0
  have hB : Sat w0 (pc (w.heap.size + 1) 30 [vi 0, vu 0] * (pc w.heap.size 49 (elC ⟨v0, v1, a2, n2, c2, v3⟩) * (rxB q b rs.length cap times most * (rxL b cap rs * (F))))) _ := hB0
  have HB := Lib.hid hB
  have hlen : (rs.length : Int) ≤ 32 := by omega
  clear hS hB hB0
  obtain ⟨gen, th, ax, fr⟩ := a
  have ht : th = false := ht
  subst ht
  (try dsimp only at hm)
  have HM := Lib.hid hm
  have HA := Lib.hid hk
  have hkl : k < rs.length := (List.getElem?_eq_some_iff.1 hk).1
  clear hm hk
  go_enter Try.func85, Try.ntmps85
  go_wp2
  go_loopw [6, 7] (fun at_ i wr => ∃ (j : Nat) (z : Int), j ≤ rs.length ∧ i = vi j ∧ at_ = vi z ∧ Hid ((z = -1 ∨ ∃ (m : Nat) (d : RPl), z = m ∧ m < j ∧ rs[m]? = some d ∧ d.there = false) ∧ (k < j → z = k)) ∧ Sat w0 (pc (w.heap.size + 1) 30 [vi 0, vu 0] * (pc w.heap.size 49 (elC ⟨v0, v1, a2, n2, c2, v3⟩) * (rxB q b rs.length cap times most * (rxL b cap rs * (F))))) wr) (fun _ i _ => rs.length - (intOf i).toNat)
  case atStart => exact ⟨0, -1, Nat.zero_le _, rfl, rfl, Lib.hid ⟨.inl rfl, fun h => by omega⟩, HB.out⟩
  case round =>
    clear HB
    obtain ⟨j, z, hj, rfl, rfl, hz, hS⟩ := hrel
    have HS := Lib.hid hS
    have q0 := hS.dropL.dropL.cell 0 rfl
    clear hS
    by_cases hlt : j < rs.length
    · have hji : (j : Int) < (rs.length : Int) := by omega
      obtain ⟨c, hc⟩ : ∃ c, rs[j]? = some c := ⟨rs[j], List.getElem?_eq_getElem hlt⟩
      have c1 := rx_at HS.out.dropL.dropL.dropL (j := 1) hc rfl
      have c6 := rx_at HS.out.dropL.dropL.dropL (j := 6) hc rfl
      have HC := Lib.hid hc
      clear hc
      cases hth : c.there with
      | true =>
        rw [hth] at c1
        have HNX : Hid ((z = -1 ∨ ∃ (m : Nat) (d : RPl), z = m ∧ m < j + 1 ∧ rs[m]? = some d ∧ d.there = false) ∧ (k < j + 1 → z = k)) := Lib.hid ⟨by
          rcases hz.out.1 with h | ⟨m, d, h1, h2, h3⟩
          · exact .inl h
          · exact .inr ⟨m, d, h1, by omega, h3⟩, fun h => by
          by_cases e : k = j
          · subst e
            have := HC.out
            rw [HA.out] at this
            cases this
            cases hth
          · exact hz.out.2 (by omega)⟩
        clear hth hz
        go_wp2
        go_quiet (fail)
        go_wp2
        go_roundw
        case rel => exact ⟨j + 1, z, by omega, by go_num, rfl, HNX, HS.out.drewN _⟩
        case measure => (simp [intOf]; try omega)
      | false =>
        rw [hth] at c1
        by_cases hz0 : z < 0
        · have HNX : Hid (((j : Int) = -1 ∨ ∃ (m : Nat) (d : RPl), (j : Int) = m ∧ m < j + 1 ∧ rs[m]? = some d ∧ d.there = false) ∧ (k < j + 1 → (j : Int) = k)) := Lib.hid ⟨.inr ⟨j, c, rfl, by omega, HC.out, hth⟩, fun h => by
            by_cases e : k = j
            · omega
            · have := hz.out.2 (by omega)
              omega⟩
          have hd : decide (z < 0) = true := decide_eq_true hz0
          clear hth hz
          go_wp2
          go_quiet (fail)
          go_wp2
          go_roundw
          case rel => exact ⟨j + 1, j, by omega, by go_num, rfl, HNX, HS.out.drewN _⟩
          case measure => (simp [intOf]; try omega)
        · obtain ⟨m, d, rfl, hmj, hd1, hd2⟩ : ∃ (m : Nat) (d : RPl), z = m ∧ m < j ∧ rs[m]? = some d ∧ d.there = false := by
            rcases hz.out.1 with h | h
            · omega
            · exact h
          have hmi : (m : Int) < (rs.length : Int) := by omega
          have hm0 : (0 : Int) ≤ (m : Int) := by omega
          have d6 := rx_at HS.out.dropL.dropL.dropL (j := 6) hd1 rfl
          have hdz : decide ((m : Int) < 0) = false := decide_eq_false hz0
          by_cases hfr : d.freed < c.freed
          · have HNX : Hid (((j : Int) = -1 ∨ ∃ (m : Nat) (d : RPl), (j : Int) = m ∧ m < j + 1 ∧ rs[m]? = some d ∧ d.there = false) ∧ (k < j + 1 → (j : Int) = k)) := Lib.hid ⟨.inr ⟨j, c, rfl, by omega, HC.out, hth⟩, fun h => by
              by_cases e : k = j
              · omega
              · have h1 := hz.out.2 (by omega)
                have h2 : m = k := by omega
                subst h2
                rw [HA.out] at hd1
                cases hd1
                have := HM.out j c HC.out hth (by omega)
                dsimp only at hfr
                omega⟩
            have hdf : decide (d.freed < c.freed) = true := decide_eq_true hfr
            clear hth hz hd1 hd2
            generalize d.freed = df at *
            generalize c.freed = cf at *
            go_wp2
            go_quiet (fail)
            go_wp2
            go_roundw
            case rel => exact ⟨j + 1, j, by omega, by go_num, rfl, HNX, HS.out.drewN _⟩
            case measure => (simp [intOf]; try omega)
          · have HNX : Hid (((m : Int) = -1 ∨ ∃ (m' : Nat) (d : RPl), (m : Int) = m' ∧ m' < j + 1 ∧ rs[m']? = some d ∧ d.there = false) ∧ (k < j + 1 → (m : Int) = k)) := Lib.hid ⟨.inr ⟨m, d, rfl, by omega, hd1, hd2⟩, fun h => by
              by_cases e : k = j
              · subst e
                have h3 := HC.out
                rw [HA.out] at h3
                cases h3
                have := HM.out m d hd1 hd2 (by omega)
                dsimp only at hfr
                omega
              · exact hz.out.2 (by omega)⟩
            have hdf : decide (d.freed < c.freed) = false := decide_eq_false hfr
            clear hth hz hd1 hd2
            generalize d.freed = df at *
            generalize c.freed = cf at *
            go_wp2
            go_quiet (fail)
            go_wp2
            go_roundw
            case rel => exact ⟨j + 1, m, by omega, by go_num, rfl, HNX, HS.out.drewN _⟩
            case measure => (simp [intOf]; try omega)
    · obtain rfl : j = rs.length := by omega
      have hzk : z = k := hz.out.2 hkl
      subst hzk
      clear hz
      have hki : (k : Int) < (rs.length : Int) := by omega
      have hk0 : (0 : Int) ≤ (k : Int) := by omega
      have c1 := rx_at HS.out.dropL.dropL.dropL (j := 1) HA.out rfl
      have cf := rx_free HS.out.dropL.dropL.dropL (k * 7 + 1)
      have hs1 : Sat w0 (rxL b cap (rs.set k ⟨gen, true, ax, fr⟩) * (pc (w.heap.size + 1) 30 [vi 0, vu 0] * (pc w.heap.size 49 (elC ⟨v0, v1, a2, n2, c2, v3⟩) * (rxB q b rs.length cap times most * (F))))) (wr.setCell ⟨b, k * 7 + 1, none⟩ (.bool true)) := rx_store ((HS.out).cast (show _ = rxL b cap rs * (pc (w.heap.size + 1) 30 [vi 0, vu 0] * (pc w.heap.size 49 (elC ⟨v0, v1, a2, n2, c2, v3⟩) * (rxB q b rs.length cap times most * (F)))) by ac_rfl)) HA.out 1 (by omega) (.bool true) ⟨gen, true, ax, fr⟩ rfl
      have hs2 : Sat w0 (rxL b cap (rs.set k ⟨gen, true, ⟨v0, v1, a2, n2, c2, v3⟩, fr⟩) * (pc (w.heap.size + 1) 30 [vi 0, vu 0] * (pc w.heap.size 49 (elC ⟨v0, v1, a2, n2, c2, v3⟩) * (rxB q b rs.length cap times most * (F))))) _ := (rx_storeX hs1.drew (rx_get HA.out) ⟨v0, v1, a2, n2, c2, v3⟩).cast (by rw [List.set_set])
      have H1 := Lib.hid hs1
      have hs2' : Sat w0 (rxL b cap (rs.set k ⟨gen, true, ⟨v0, v1, a2, n2, c2, v3⟩, fr⟩) * (pc (w.heap.size + 1) 30 [vi 0, vu 0] * (pc w.heap.size 49 (elC ⟨v0, v1, a2, n2, c2, v3⟩) * (rxB q b rs.length cap times most * (F))))) ((wr.setCell ⟨b, k * 7 + 1, none⟩ (.bool true)).drew.setCells b (k * 7 + 2) (elC ⟨v0, v1, a2, n2, c2, v3⟩).toArray.toList) := hs2
      have H2 := Lib.hid hs2'
      clear hs1 hs2 hs2'
      go_wp2
      clear c1 cf q0 HM
      generalize World.setCell wr _ _ = w5 at *
      have q0 := H1.out.dropL.dropL.dropL.cell 0 rfl
      have e0 := H1.out.dropL.dropL.cell 0 rfl
      have e1 := H1.out.dropL.dropL.cell 1 rfl
      have e2 := H1.out.dropL.dropL.cell 2 rfl
      have e3 := H1.out.dropL.dropL.cell 3 rfl
      have HTH : Hid (w5.drew.there b (k * 7 + 2) 4) := Lib.hid (fun j hj => by
        have hj' : j < (elC ax).length := hj
        have h3 := rx_at H1.out.drew (rx_get HA.out) (j := 2 + j) (v := (elC ax)[j]) (by
          rcases j with _ | _ | _ | _ | j
          all_goals first | rfl | (exfalso; simp at hj'; omega))
        rw [← Nat.add_assoc] at h3
        rw [h3]
        exact ⟨rfl, rx_free H1.out.drew _⟩)
      refine wp_quiet_tail 8 (by kernel_rfl) (by kernel_rfl) ?_
      simp only [List.take_succ_cons, List.take_zero, List.drop_succ_cons, List.drop_zero]
      repeat (go_big_quiet_step (fail))
      refine wpQuiet_nil ?_
      go_wp2_with (refine wpList_store_mid rfl 49 _ _ rfl b (k * 7 + 2) (elC ⟨v0, v1, a2, n2, c2, v3⟩).toArray (by rfl) (by rfl) HTH.out einfo (all_oneCell_toArray (elOne ⟨v0, v1, a2, n2, c2, v3⟩)) ?_; generalize hw6 : World.setCells _ _ _ _ = w6; have H3 : Hid (Sat w0 (rxL b cap (rs.set k ⟨gen, true, ⟨v0, v1, a2, n2, c2, v3⟩, fr⟩) * (pc (w.heap.size + 1) 30 [vi 0, vu 0] * (pc w.heap.size 49 (elC ⟨v0, v1, a2, n2, c2, v3⟩) * (rxB q b rs.length cap times most * (F))))) w6) := hw6 ▸ H2; clear hw6; have y0 := rx_at H3.out (rx_get HA.out) (j := 0) rfl; rw [Nat.add_zero] at y0; have y1 := H3.out.dropL.dropL.dropL.cell 0 rfl; have y2 := H3.out.dropL.cell 0 rfl; have y3 := H3.out.dropL.cell 1 rfl; have yf := H3.out.dropL.free 0; have yg := H3.out.dropL.free 1)
      refine bodyPost_ret (v := .tuple #[vr k gen, vi 0]) (by rw [results_cell_tmp rfl]; go_simp) rfl ?_
      have h7 : Sat w0 (pc (w.heap.size + 1) 30 [vi k, vu gen] * (rxL b cap (rs.set k ⟨gen, true, ⟨v0, v1, a2, n2, c2, v3⟩, fr⟩) * (pc w.heap.size 49 (elC ⟨v0, v1, a2, n2, c2, v3⟩) * (rxB q b rs.length cap times most * (F))))) _ := (((H3.out).cast (show _ = pc (w.heap.size + 1) 30 [vi 0, vu 0] * (rxL b cap (rs.set k ⟨gen, true, ⟨v0, v1, a2, n2, c2, v3⟩, fr⟩) * (pc w.heap.size 49 (elC ⟨v0, v1, a2, n2, c2, v3⟩) * (rxB q b rs.length cap times most * (F)))) by ac_rfl)).store 0 (vi k)).store 1 (vu gen)
      exact ⟨rfl, ((h7).cast (show _ = pc (w.heap.size + 1) 30 [vi k, vu gen] * (pc w.heap.size 49 (elC ⟨v0, v1, a2, n2, c2, v3⟩) * (rxB q b rs.length cap times most * (rxL b cap (rs.set k ⟨gen, true, ⟨v0, v1, a2, n2, c2, v3⟩, fr⟩) * (F)))) by ac_rfl)).dropL.dropL⟩
end
end Go.Proofs.Ytknodagcmachiaa.Cn
