/-
  Package quota: least, Next. No statement is proved here.
-/
import Derived.Test.YtfioghpnehfjhaaDl5
namespace Go.Proofs.Ytfioghpnehfjhaa.Dm
open Go.RowKit Ad
set_option linter.unusedVariables false

section
variable {w0 w : World} {F : Hp} {h p : Nat} {ps : List Pl} {free : List Nat}
set_option maxRecDepth 100000 in
set_option maxHeartbeats 4000000 in
theorem q_leastP {bn : Nat} (n : Int) (hn : 0 ≤ n ∧ n ≤ 1152921504606846976) (l : List (Nat × Int × El)) (v : Value) (hS : Sat w0 (sl 69 13 v l.length (fpd l) * (pc bn 22 [vu n] * F)) w) (hper : ∀ x ∈ l, 1 ≤ x.2.2.v4 ∧ x.2.2.v4 ≤ 4294967296) (hlen : l.length ≤ 4096) :
    Calls Try.prog 47 #[v, .func (.func 48) #[] #[vp bn]] w fun e w' => e = .returned (.tuple #[vu (minP (l.map (nxt n))), .bool (decide (0 < l.length))]) ∧ Sat w0 (sl 69 13 v l.length (fpd l) * (pc bn 22 [vu n] * F)) w' := by
  obtain ⟨vo, vc, rfl⟩ := hS.rd.len
  have H := Lib.hid hS
  have HP := Lib.hid hper
  clear hS hper
  go_enter Try.func47, Try.ntmps47
  go_wp2
  go_loopw [4, 5, 12] (fun m is i wr => ∃ k : Nat, k ≤ l.length ∧ i = vi k ∧ m = vu (minP ((l.take k).map (nxt n))) ∧ is = .bool (decide (0 < k)) ∧ Sat w0 (sl 69 13 (.slice vo l.length vc) l.length (fpd l) * (pc bn 22 [vu n] * F)) wr) (fun _ _ i _ => l.length - (intOf i).toNat)
  case atStart => exact ⟨0, Nat.zero_le _, rfl, rfl, rfl, H.out⟩
  case round =>
    obtain ⟨k, hk, rfl, rfl, rfl, hS⟩ := hrel
    by_cases hlt : k < l.length
    · have hki : (k : Int) < (l.length : Int) := by omega
      obtain ⟨x, hr⟩ : ∃ r, l[k]? = some r := ⟨l[k], List.getElem?_eq_getElem hlt⟩
      have hp4 := HP.out x (List.mem_of_getElem? hr)
      have HLK := Lib.hid hr
      obtain ⟨g, rfl⟩ : ∃ g, vo = some ⟨g, 0, none⟩ := by
        rcases hS.slE.2 with ⟨_, h0, _⟩ | ⟨g, c, cur, hv, _⟩
        · omega
        · injection hv with h1 h2 h3
          exact ⟨g, h1⟩
      have e0 := hS.slCell _ (fpd_at hr (j := 0) rfl)
      have e1 := hS.slCell _ (fpd_at hr (j := 1) rfl)
      have e2 := hS.slCell _ (fpd_at hr (j := 2) rfl)
      have e3 := hS.slCell _ (fpd_at hr (j := 3) rfl)
      have e4 := hS.slCell _ (fpd_at hr (j := 4) rfl)
      have e5 := hS.slCell _ (fpd_at hr (j := 5) rfl)
      have e6 := hS.slCell _ (fpd_at hr (j := 6) rfl)
      have e7 := hS.slCell _ (fpd_at hr (j := 7) rfl)
      have e8 := hS.slCell _ (fpd_at hr (j := 8) rfl)
      have e9 := hS.slCell _ (fpd_at hr (j := 9) rfl)
      have e10 := hS.slCell _ (fpd_at hr (j := 10) rfl)
      have e11 := hS.slCell _ (fpd_at hr (j := 11) rfl)
      have e12 := hS.slCell _ (fpd_at hr (j := 12) rfl)
      have HM := Lib.hid (show minP ((l.take (k + 1)).map (nxt n)) = if (l.take k).map (nxt n) = [] then nxt n x else if nxt n x < minP ((l.take k).map (nxt n)) then nxt n x else minP ((l.take k).map (nxt n)) by rw [List.take_add_one, HLK.out, Option.toList_some, List.map_append, List.map_cons, List.map_nil, minP_snoc])
      clear hr HLK
      obtain ⟨i, gen, ⟨v0, v1, v2, v3, v4, v5, v6, v7, v8, v9, v10⟩⟩ := x
      dsimp only at hp4 e0 e1 e2 e3 e4 e5 e6 e7 e8 e9 e10 e11 e12
      rw [Nat.add_zero] at e0
      have hB : Sat w0 (pc wr.heap.size 69 [.int .i64 i, .int .u64 gen, .int .i64 v0, .int .u64 v1, .int .i64 v2, .int .u64 v3, .int .u64 v4, .int .i64 v5, .int .u64 v6, .int .i64 v7, .int .i64 v8, .int .u64 v9, .int .i64 v10] * _) (wr.alloc (.cells #[.int .i64 i, .int .u64 gen, .int .i64 v0, .int .u64 v1, .int .i64 v2, .int .u64 v3, .int .u64 v4, .int .i64 v5, .int .u64 v6, .int .i64 v7, .int .i64 v8, .int .u64 v9, .int .i64 v10] 69)) := hS.alloc _
      have q0 := hB.cell 0 rfl
      have q1 := hB.cell 1 rfl
      have q2 := hB.cell 2 rfl
      have q3 := hB.cell 3 rfl
      have q4 := hB.cell 4 rfl
      have q5 := hB.cell 5 rfl
      have q6 := hB.cell 6 rfl
      have q7 := hB.cell 7 rfl
      have q8 := hB.cell 8 rfl
      have q9 := hB.cell 9 rfl
      have q10 := hB.cell 10 rfl
      have q11 := hB.cell 11 rfl
      have q12 := hB.cell 12 rfl
      have HL := Lib.hid (q_next1 n i gen ⟨v0, v1, v2, v3, v4, v5, v6, v7, v8, v9, v10⟩ hn hp4 (hB.dropL.cast (show _ = pc bn 22 [vu n] * (sl 69 13 (.slice (some ⟨g, 0, none⟩) l.length vc) l.length (fpd l) * F) by ac_rfl)))
      clear hS hB hp4
      generalize nxt n (i, gen, ⟨v0, v1, v2, v3, v4, v5, v6, v7, v8, v9, v10⟩) = m at *
      by_cases hk0 : k = 0
      · subst hk0
        rw [List.take_zero, List.map_nil, if_pos rfl] at HM
        rw [show minP (List.map (nxt n) (List.take 0 l)) = 0 from rfl, show decide (0 < 0) = false from rfl]
        go_wp2_with (go_at_call 48; refine HL.out.mono ?_; rintro e w1 ⟨rfl, hS1⟩; have H1 := Lib.hid hS1; clear hS1)
        go_roundw
        case rel =>
          refine ⟨0 + 1, by omega, by go_num, ?_, ?_, H1.out.cast (by ac_rfl)⟩
          · rw [HM.out]
          · rfl
        case measure => (simp [intOf]; try omega)
      · have hd : decide (0 < k) = true := decide_eq_true (by omega)
        have hd2 : decide (0 < k + 1) = true := decide_eq_true (by omega)
        have HD2 := Lib.hid hd2
        rw [hd]
        clear hd hd2
        have hne : (l.take k).map (nxt n) ≠ [] := by
          intro e
          have := congrArg List.length e
          rw [List.length_map, List.length_take, List.length_nil] at this
          omega
        rw [if_neg hne] at HM
        clear hne
        generalize hn2 : minP ((l.take k).map (nxt n)) = n2 at *
        clear hn2
        by_cases hmn : m < n2
        · rw [if_pos hmn] at HM
          go_wp2_with (go_at_call 48; refine HL.out.mono ?_; rintro e w1 ⟨rfl, hS1⟩; have H1 := Lib.hid hS1; clear hS1)
          go_roundw
          case rel =>
            refine ⟨k + 1, by omega, by go_num, ?_, ?_, H1.out.cast (by ac_rfl)⟩
            · rw [HM.out]
            · rw [HD2.out]
          case measure => (simp [intOf]; try omega)
        · rw [if_neg hmn] at HM
          go_wp2_with (go_at_call 48; refine HL.out.mono ?_; rintro e w1 ⟨rfl, hS1⟩; have H1 := Lib.hid hS1; clear hS1)
          go_roundw
          case rel =>
            refine ⟨k + 1, by omega, by go_num, ?_, ?_, H1.out.cast (by ac_rfl)⟩
            · rw [HM.out]
            · rw [HD2.out]
          case measure => (simp [intOf]; try omega)
    · obtain rfl : k = l.length := by omega
      have HS := Lib.hid hS
      clear hS
      rw [List.take_length]
      generalize hm : minP (l.map (nxt n)) = m at *
      generalize hbb : decide (0 < l.length) = bb at *
      have HM := Lib.hid hm
      have HBB := Lib.hid hbb
      clear hm hbb
      go_wp2
      go_ret2
      refine ⟨?_, HS.out⟩
      rw [HM.out, HBB.out]
      rfl
set_option maxRecDepth 100000 in
set_option maxHeartbeats 4000000 in
theorem q_next_l (n : Int) (hn : 0 ≤ n ∧ n ≤ 1152921504606846976) (l : List (Nat × Int × El)) (hall : ∀ (w : World) (F : Hp), Sat w0 (domB h p * (tblP p ps free * F)) w → Calls Try.prog 25 #[vp h] w fun e w' => ∃ v, e = .returned v ∧ Sat w0 (sl 69 13 v l.length (fpd l) * (domB h p * (tblP p ps free * F))) w')
    (hper : ∀ x ∈ l, 1 ≤ x.2.2.v4 ∧ x.2.2.v4 ≤ 4294967296) (hlen : l.length ≤ 4096) (hS : Sat w0 (domB h p * (tblP p ps free * F)) w) :
    Calls Try.prog 20 #[vp h, vu n] w fun e w' => e = .returned (.tuple #[vu (minP (l.map (nxt n))), .bool (decide (0 < l.length))]) ∧ Sat w0 (domB h p * (tblP p ps free * F)) w' := by
  have hB : Sat w0 (pc w.heap.size 22 [vu n] * (domB h p * (tblP p ps free * F))) (w.alloc (.cells #[vu n] 22)) := hS.alloc _
  have HA := Lib.hid (hall _ _ (hB.cast (show _ = domB h p * (tblP p ps free * (pc w.heap.size 22 [vu n] * F)) by ac_rfl)))
  have HL : Hid (∀ (v : Value) (w1 : World), Sat w0 (sl 69 13 v l.length (fpd l) * (domB h p * (tblP p ps free * (pc w.heap.size 22 [vu n] * F)))) w1 → Calls Try.prog 47 #[v, .func (.func 48) #[] #[vp w.heap.size]] w1 fun e w' => e = .returned (.tuple #[vu (minP (l.map (nxt n))), .bool (decide (0 < l.length))]) ∧ Sat w0 (sl 69 13 v l.length (fpd l) * (pc w.heap.size 22 [vu n] * (domB h p * (tblP p ps free * F)))) w') :=
    Lib.hid fun v w1 h1 => q_leastP n hn l v (h1.cast (by ac_rfl)) hper hlen
  clear hS hB hall hper
  generalize minP (l.map (nxt n)) = m at *
  generalize decide (0 < l.length) = bb at *
  go_enter Try.func20, Try.ntmps20
  go_wp2_with (first
    | (go_at_call 25; refine HA.out.mono ?_; rintro e w1 ⟨v, rfl, hS1⟩; have H1 := Lib.hid hS1; clear hS1)
    | (go_at_call 47; refine (HL.out _ _ H1.out).mono ?_; rintro e w2 ⟨rfl, hS2⟩; have H2 := Lib.hid hS2; clear hS2))
  go_ret2
  exact ⟨rfl, H2.out.dropL.dropL⟩
end
end Go.Proofs.Ytfioghpnehfjhaa.Dm
