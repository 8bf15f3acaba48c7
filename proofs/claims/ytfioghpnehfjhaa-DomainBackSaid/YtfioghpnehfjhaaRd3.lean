/-
  The reference of layer 9: Chain, in. No statement is proved here.
-/
import Derived.Test.YtfioghpnehfjhaaRd2
namespace Go.Proofs.Ytfioghpnehfjhaa.Dm
open Go.RowKit Ad
set_option linter.unusedVariables false

section
variable {w0 w : World} {F : Hp} {q b cap : Nat} {vF : Value} {rs : List One}
set_option maxRecDepth 100000 in
set_option maxHeartbeats 4000000 in
theorem rd_chain (hS : Sat w0 (rdB q b rs.length cap vF * (rdL b cap rs * F)) w) (i g : Int) (l : List (Int × Int)) (hC : ChR rs (i, g) l) (hl : l.length ≤ 1000) :
    Calls Try.prog 81 #[vp q, vr i g] w fun e w' => ∃ v, e = .returned v ∧ Sat w0 (sl 32 2 v l.length (frefs l) * (rdB q b rs.length cap vF * (rdL b cap rs * F))) w' := by
  have hB : Sat w0 (pc w.heap.size 32 [vi i, vu g] * (rdB q b rs.length cap vF * (rdL b cap rs * F))) (w.alloc (.cells #[vi i, vu g] 32)) := hS.alloc _
  have HB := Lib.hid (hB.addNil 32 2)
  have HC := Lib.hid hC
  clear hS hB hC
  generalize hbr : w.heap.size = br at *
  have HBR := Lib.hid hbr
  clear hbr
  go_enter Try.func81, Try.ntmps81
  go_wp2_with fail
  rw [HBR.out]
  go_loopg [5] l.length (fun gk v wr => ∃ (dn rest : List (Int × Int)) (c : Int × Int), l = dn ++ rest ∧ rest.length = gk ∧ ChR rs c rest ∧ Sat w0 (sl 32 2 v dn.length (frefs dn) * (pc br 32 [vi c.1, vu c.2] * (rdB q b rs.length cap vF * (rdL b cap rs * F)))) wr)
  case atStart => exact ⟨[], l, (i, g), rfl, rfl, HC.out, HB.out⟩
  case round =>
    obtain ⟨dn, rest, ⟨ci, cg⟩, hl2, hgk, hCr, hS⟩ := hrel
    dsimp only at hS
    obtain ⟨vo, vc, rfl⟩ := hS.rd.len
    have b0 := hS.pull2.cell 0 rfl
    have b1 := hS.pull2.cell 1 rfl
    have HI := Lib.hid (rd_is (hS.cast (show _ = rdB q b rs.length cap vF * (rdL b cap rs * (sl 32 2 (.slice vo dn.length vc) dn.length (frefs dn) * (pc br 32 [vi ci, vu cg] * F))) by ac_rfl)) ci cg)
    have hdl : dn.length + rest.length = l.length := by rw [hl2, List.length_append]
    have HL2 := Lib.hid hl2
    clear hl2
    cases rest with
    | nil =>
      have hn : isR rs ci cg = false := hCr
      rw [hn] at HI
      clear hS hCr hn
      go_wp2_with (go_at_call 63; refine HI.out.mono ?_; rintro e w1 ⟨rfl, hS1⟩; have H1 := Lib.hid hS1; clear hS1)
      go_ret
      have e : dn = l := by rw [HL2.out, List.append_nil]
      subst e
      exact ⟨_, rfl, (H1.out.cast (show _ = pc br 32 [vi ci, vu cg] * (sl 32 2 (.slice vo dn.length vc) dn.length (frefs dn) * (rdB q b rs.length cap vF * (rdL b cap rs * F))) by ac_rfl)).dropL⟩
    | cons x rest =>
      obtain ⟨hx, hy, hCn⟩ := hCr
      obtain ⟨k, a, rfl, ha, _, _⟩ := isR_some hy
      have hk : k < rs.length := (List.getElem?_eq_some_iff.1 ha).1
      have hki : (k : Int) < (rs.length : Int) := by omega
      rw [hy] at HI
      have hup : upO rs ((k : Int), cg) = (a.pi, a.pg) := by
        unfold upO
        rw [Int.toNat_natCast, ha]
      rw [hup] at hCn
      have HX := Lib.hid hx
      have HCn := Lib.hid hCn
      have HA := Lib.hid ha
      simp only [List.length_cons] at hdl hgk
      clear hS hx hy hCn hup ha
      go_wp2_with (first
        | (go_at_call 63; refine HI.out.mono ?_; rintro e w1 ⟨rfl, hS1⟩; have hT : Sat w0 (sl 32 2 (.slice vo dn.length vc) dn.length (frefs dn) * (pc br 32 [vi (k : Int), vu cg] * (rdB q b rs.length cap vF * (rdL b cap rs * F)))) w1 := hS1.cast (by ac_rfl); clear b0 b1; have b0 := hT.pull2.cell 0 rfl; have b1 := hT.pull2.cell 1 rfl; have HT := Lib.hid hT; clear hS1 hT)
        | (at_builtin; refine wpList_append_sl Eref rfl (.tmp 9) (.tmp 11) rfl rfl (HT.out.alloc' _) (by rfl) (rdTwo _ _ (vi (k : Int)) (vu cg) rfl) (by simp [Value.oneCell']) (by unfold maxLen; omega) (by omega) ?_; intro ao6 cap6 w6 hS6; clear b0 b1; have b0 := hS6.pull2.cell 0 rfl; have b1 := hS6.pull2.cell 1 rfl; have f0 := hS6.pull2.free 0; have f1 := hS6.pull2.free 1; have q0 := hS6.pull3.cell 0 rfl; have e5 := hS6.pull4.slCell _ (flat_get (j := 5) One.len HA.out rfl); have e6 := hS6.pull4.slCell _ (flat_get (j := 6) One.len HA.out rfl); have H6 := Lib.hid hS6; clear hS6))
      refine wp_quiet_tail 9 (by kernel_rfl) (by kernel_rfl) ?_
      simp only [List.take_succ_cons, List.take_zero, List.drop_succ_cons, List.drop_zero]
      repeat (go_big_quiet_step (fail))
      refine wpQuiet_nil ?_
      go_wp2
      go_roundg (gk - 1)
      case measure => omega
      case rel =>
        refine ⟨dn ++ [((k : Int), cg)], rest, (a.pi, a.pg), ?_, by omega, HCn.out, ?_⟩
        · rw [HL2.out, HX.out, List.append_assoc]
          rfl
        · rw [List.length_append, frefs_snoc]
          have h7 := ((H6.out.pull2.store 0 (vi a.pi)).store 1 (vu a.pg)).pull2
          first | exact h7 | exact h7.drew | exact h7.drewN _
set_option maxRecDepth 100000 in
set_option maxHeartbeats 4000000 in
theorem rd_in (hS : Sat w0 (rdB q b rs.length cap vF * (rdL b cap rs * F)) w) (k : Nat) (a : One) (ha : rs[k]? = some a) (l : List (Int × Int)) (hC : ChR rs (k, a.gen) l) (hl : l.length ≤ 1000) (i g : Int) :
    Calls Try.prog 78 #[vp q, vi k, vr i g] w fun e w' => e = .returned (.bool (decide ((i, g) ∈ l))) ∧ Sat w0 (rdB q b rs.length cap vF * (rdL b cap rs * F)) w' := by
  have hB : Sat w0 (pc w.heap.size 32 [vi i, vu g] * (rdB q b rs.length cap vF * (rdL b cap rs * F))) (w.alloc (.cells #[vi i, vu g] 32)) := hS.alloc _
  have hk : k < rs.length := (List.getElem?_eq_some_iff.1 ha).1
  have hki : (k : Int) < (rs.length : Int) := by omega
  have q0 := hB.pull2.cell 0 rfl
  have e0 := hB.pull3.slCell _ (flat_get (j := 0) One.len ha rfl)
  rw [Nat.add_zero] at e0
  have HC := Lib.hid (rd_chain (hB.cast (show _ = rdB q b rs.length cap vF * (rdL b cap rs * (pc w.heap.size 32 [vi i, vu g] * F)) by ac_rfl)) k a.gen l hC hl)
  clear hS hB hC ha
  generalize a.gen = ag at *
  generalize hbr : w.heap.size = br at *
  have HBR := Lib.hid hbr
  clear hbr
  go_enter Try.func78, Try.ntmps78
  go_wp2_with fail
  rw [HBR.out]
  refine HC.out.mono ?_
  rintro e w1 ⟨v, rfl, hS1⟩
  obtain ⟨vo, vc, rfl⟩ := hS1.rd.len
  have H1 := Lib.hid (hS1.cast (show _ = sl 32 2 (.slice vo l.length vc) l.length (frefs l) * (pc br 32 [vi i, vu g] * (rdB q b rs.length cap vF * (rdL b cap rs * F))) by ac_rfl))
  clear hS1 q0 e0
  go_wp2
  go_loopw [8] (fun ix wr => ∃ j : Nat, j ≤ l.length ∧ ix = vi j ∧ (∀ x ∈ l.take j, x ≠ (i, g)) ∧ Sat w0 (sl 32 2 (.slice vo l.length vc) l.length (frefs l) * (pc br 32 [vi i, vu g] * (rdB q b rs.length cap vF * (rdL b cap rs * F)))) wr) (fun ix _ => l.length - (intOf ix).toNat)
  case atStart => exact ⟨0, Nat.zero_le _, rfl, by simp, H1.out⟩
  case round =>
    obtain ⟨j, hj, rfl, hno, hS⟩ := hrel
    have HNo := Lib.hid hno
    clear hno
    by_cases hlt : j < l.length
    · have hji : (j : Int) < (l.length : Int) := by omega
      obtain ⟨r, hr⟩ : ∃ r, l[j]? = some r := ⟨l[j], List.getElem?_eq_getElem hlt⟩
      have HLK := Lib.hid hr
      obtain ⟨g', rfl⟩ : ∃ g', vo = some ⟨g', 0, none⟩ := by
        rcases hS.slE.2 with ⟨_, h0, _⟩ | ⟨g', c, cur, hv, _⟩
        · omega
        · injection hv with h1 h2 h3
          exact ⟨g', h1⟩
      have c0 := hS.slCell _ (frefs_at hr).1
      have c1 := hS.slCell _ (frefs_at hr).2
      have b0 := hS.pull2.cell 0 rfl
      have b1 := hS.pull2.cell 1 rfl
      have HS := Lib.hid hS
      clear hr hS
      obtain ⟨r1, r2⟩ := r
      dsimp only at c0 c1
      by_cases h1 : r1 = i
      · by_cases h2 : r2 = g
        · subst h1
          subst h2
          have hd : Hid (decide ((r1, r2) ∈ l) = true) := Lib.hid (decide_eq_true (List.mem_of_getElem? HLK.out))
          go_wp2
          go_quiet (fail)
          go_wp2
          go_ret
          exact ⟨by rw [hd.out]; rfl, HS.out.dropL.dropL.drewN _⟩
        · have h3 : (r2 == g) = false := beq_eq_false_iff_ne.2 h2
          subst h1
          have HN : Hid (∀ x ∈ l.take (j + 1), x ≠ (r1, g)) := Lib.hid (by
            rw [List.take_add_one, HLK.out]
            intro x hx
            rcases List.mem_append.1 hx with hx | hx
            · exact HNo.out x hx
            · simp at hx
              subst hx
              intro e
              injection e with _ e
              exact h2 e)
          clear h2
          go_wp2
          go_quiet (fail)
          go_wp2
          go_roundw
          case rel => exact ⟨j + 1, by omega, by go_num, HN.out, HS.out.drewN _⟩
          case measure => (simp [intOf]; try omega)
      · have h3 : (r1 == i) = false := beq_eq_false_iff_ne.2 h1
        have HN : Hid (∀ x ∈ l.take (j + 1), x ≠ (i, g)) := Lib.hid (by
          rw [List.take_add_one, HLK.out]
          intro x hx
          rcases List.mem_append.1 hx with hx | hx
          · exact HNo.out x hx
          · simp at hx
            subst hx
            intro e
            injection e with e _
            exact h1 e)
        clear h1
        go_wp2
        go_quiet (fail)
        go_wp2
        go_roundw
        case rel => exact ⟨j + 1, by omega, by go_num, HN.out, HS.out.drewN _⟩
        case measure => (simp [intOf]; try omega)
    · obtain rfl : j = l.length := by omega
      have hd : Hid (decide ((i, g) ∈ l) = false) := Lib.hid (decide_eq_false (fun h => by
        have := HNo.out (i, g) (by rw [List.take_length]; exact h)
        exact this rfl))
      have HS := Lib.hid hS
      clear hS
      go_wp2
      go_ret
      exact ⟨by rw [hd.out]; rfl, HS.out.dropL.dropL⟩
end
end Go.Proofs.Ytfioghpnehfjhaa.Dm
