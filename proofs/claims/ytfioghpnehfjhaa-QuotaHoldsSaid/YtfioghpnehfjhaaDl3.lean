/-
  Package quota: Reset. No statement is proved here.
-/
import Derived.Test.YtfioghpnehfjhaaDl2
import Derived.Test.YtfioghpnehfjhaaQn2
namespace Go.Proofs.Ytfioghpnehfjhaa.Dm
open Go.RowKit Ad
set_option linter.unusedVariables false

theorem fpd_at {l : List (Nat × Int × El)} {k j : Nat} {x : Nat × Int × El} {v : Value} (h : l[k]? = some x) (hj : (pdC x)[j]? = some v) : (fpd l)[k * 13 + j]? = some v := flat_get (f := pdC) (N := 13) (fun _ => rfl) (j := j) h hj
/-- Which periods begin; and what is cleared then. -/
def rsF (n : Int) (x : Nat × Int × El) : Bool := decide (n.tmod x.2.2.v4 = 0)
def rsL (n : Int) (l : List (Nat × Int × El)) : List (Int × Int) := (l.filter (rsF n)).map fun x => ((x.1 : Int), x.2.1)
def clrP (ps : List Pl) (r : Int × Int) : List Pl := setP ps r.1 r.2 { getX ps r.1 r.2 with v9 := 0 }
def resetP (ps : List Pl) (L : List (Int × Int)) : List Pl := L.foldl clrP ps
theorem resetP_snoc (ps : List Pl) (L : List (Int × Int)) (r : Int × Int) : resetP ps (L ++ [r]) = clrP (resetP ps L) r := by simp [resetP]
theorem rsL_yes {n : Int} {l : List (Nat × Int × El)} {k : Nat} {x : Nat × Int × El} (h : l[k]? = some x) (hz : n.tmod x.2.2.v4 = 0) : rsL n (l.take (k + 1)) = rsL n (l.take k) ++ [((x.1 : Int), x.2.1)] := by
  rw [List.take_add_one, h, Option.toList_some]
  simp [rsL, rsF, hz]
theorem rsL_no {n : Int} {l : List (Nat × Int × El)} {k : Nat} {x : Nat × Int × El} (h : l[k]? = some x) (hz : ¬ n.tmod x.2.2.v4 = 0) : rsL n (l.take (k + 1)) = rsL n (l.take k) := by
  rw [List.take_add_one, h, Option.toList_some]
  simp [rsL, rsF, hz]
theorem rsL_len (n : Int) (l : List (Nat × Int × El)) (k : Nat) : (rsL n (l.take k)).length ≤ k := by
  unfold rsL
  rw [List.length_map]
  exact Nat.le_trans (List.length_filter_le _ _) (by rw [List.length_take]; omega)
section
variable {w0 w : World} {F : Hp} {h p : Nat} {ps : List Pl} {free : List Nat}
set_option maxRecDepth 100000 in
set_option maxHeartbeats 4000000 in
theorem q_reset_l (n : Int) (l : List (Nat × Int × El)) (hall : ∀ (w : World), Sat w0 (domB h p * (tblP p ps free * F)) w → Calls Try.prog 25 #[vp h] w fun e w' => ∃ v, e = .returned v ∧ Sat w0 (sl 69 13 v l.length (fpd l) * (domB h p * (tblP p ps free * F))) w')
    (hper : ∀ x ∈ l, x.2.2.v4 ≠ 0) (hlen : l.length ≤ 4096) (hS : Sat w0 (domB h p * (tblP p ps free * F)) w) :
    Calls Try.prog 15 #[vp h, vu n] w fun e w' => ∃ v, e = .returned v ∧ Sat w0 (sl 32 2 v (rsL n l).length (frefs (rsL n l)) * (domB h p * (tblP p (resetP ps (rsL n l)) free * F))) w' := by
  have HA := Lib.hid (hall w hS)
  have HP := Lib.hid hper
  clear hS hall hper
  go_enter Try.func15, Try.ntmps15
  go_wp2
  refine wp_scope_straight (wp_seq (wp_label ?_))
  go_wp2_with (go_at_call 25; refine HA.out.mono ?_; rintro e w1 ⟨v, rfl, hS1⟩; obtain ⟨vo, vc, rfl⟩ := hS1.rd.len; have H1 := Lib.hid hS1; clear hS1)
  go_loopw [4, 10] (fun o i wr => ∃ k : Nat, k ≤ l.length ∧ i = vi k ∧ Sat w0 (sl 32 2 o (rsL n (l.take k)).length (frefs (rsL n (l.take k))) * (sl 69 13 (.slice vo l.length vc) l.length (fpd l) * (domB h p * (tblP p (resetP ps (rsL n (l.take k))) free * F)))) wr) (fun _ i _ => l.length - (intOf i).toNat)
  case atStart => exact ⟨0, Nat.zero_le _, rfl, (H1.out.addNil 32 2).cast (by ac_rfl)⟩
  case round =>
    obtain ⟨k, hk, rfl, hS⟩ := hrel
    by_cases hlt : k < l.length
    · have hki : (k : Int) < (l.length : Int) := by omega
      obtain ⟨x, hr⟩ : ∃ r, l[k]? = some r := ⟨l[k], List.getElem?_eq_getElem hlt⟩
      have hp4 : x.2.2.v4 ≠ 0 := HP.out x (List.mem_of_getElem? hr)
      have h2 := hS.pull2
      obtain ⟨g, rfl⟩ : ∃ g, vo = some ⟨g, 0, none⟩ := by
        rcases h2.slE.2 with ⟨_, h0, _⟩ | ⟨g, c, cur, hv, _⟩
        · omega
        · injection hv with h1 h2 h3
          exact ⟨g, h1⟩
      have HY := Lib.hid (rsL_yes (n := n) hr)
      have HNo := Lib.hid (rsL_no (n := n) hr)
      have HLen := Lib.hid (rsL_len n l k)
      have e0 := h2.slCell _ (fpd_at hr (j := 0) rfl)
      have e1 := h2.slCell _ (fpd_at hr (j := 1) rfl)
      have e2 := h2.slCell _ (fpd_at hr (j := 2) rfl)
      have e3 := h2.slCell _ (fpd_at hr (j := 3) rfl)
      have e4 := h2.slCell _ (fpd_at hr (j := 4) rfl)
      have e5 := h2.slCell _ (fpd_at hr (j := 5) rfl)
      have e6 := h2.slCell _ (fpd_at hr (j := 6) rfl)
      have e7 := h2.slCell _ (fpd_at hr (j := 7) rfl)
      have e8 := h2.slCell _ (fpd_at hr (j := 8) rfl)
      have e9 := h2.slCell _ (fpd_at hr (j := 9) rfl)
      have e10 := h2.slCell _ (fpd_at hr (j := 10) rfl)
      have e11 := h2.slCell _ (fpd_at hr (j := 11) rfl)
      have e12 := h2.slCell _ (fpd_at hr (j := 12) rfl)
      obtain ⟨i, gen, ⟨v0, v1, v2, v3, v4, v5, v6, v7, v8, v9, v10⟩⟩ := x
      dsimp only at hp4 e0 e1 e2 e3 e4 e5 e6 e7 e8 e9 e10 e11 e12 HY HNo
      rw [Nat.add_zero] at e0
      have hB : Sat w0 (pc wr.heap.size 69 [.int .i64 i, .int .u64 gen, .int .i64 v0, .int .u64 v1, .int .i64 v2, .int .u64 v3, .int .u64 v4, .int .i64 v5, .int .u64 v6, .int .i64 v7, .int .i64 v8, .int .u64 v9, .int .i64 v10] * _) (wr.alloc (.cells #[.int .i64 i, .int .u64 gen, .int .i64 v0, .int .u64 v1, .int .i64 v2, .int .u64 v3, .int .u64 v4, .int .i64 v5, .int .u64 v6, .int .i64 v7, .int .i64 v8, .int .u64 v9, .int .i64 v10] 69)) := hS.alloc _
      have q0 := hB.cell 0 rfl
      have q1 := hB.cell 1 rfl
      have q2 := hB.cell 2 rfl
      have q3 := hB.cell 3 rfl
      have q4 := hB.cell 4 rfl
      have q5 := hB.cell 5 rfl
      have q6 := hB.cell 6 rfl
      have q7 := hB.cell 7 rfl
      have q8 := hB.cell 8 rfl
      have q9 := hB.cell 9 rfl
      have q10 := hB.cell 10 rfl
      have q11 := hB.cell 11 rfl
      have q12 := hB.cell 12 rfl
      have HB := Lib.hid hB
      clear hS h2 hr hB
      by_cases hz : n.tmod v4 = 0
      · have HR := Lib.hid (HY.out hz)
        clear HY HNo
        generalize hL2 : rsL n (l.take (k + 1)) = L2 at *
        have HL2 := Lib.hid hL2
        clear hL2
        generalize rsL n (l.take k) = L at *
        have HC := Lib.hid (dm_clear (HB.out.cast (show _ = domB h p * (tblP p (resetP ps L) free * (pc wr.heap.size 69 [.int .i64 i, .int .u64 gen, .int .i64 v0, .int .u64 v1, .int .i64 v2, .int .u64 v3, .int .u64 v4, .int .i64 v5, .int .u64 v6, .int .i64 v7, .int .i64 v8, .int .u64 v9, .int .i64 v10] * (sl 32 2 u4 L.length (frefs L) * (sl 69 13 (.slice (some ⟨g, 0, none⟩) l.length vc) l.length (fpd l) * F)))) by ac_rfl)) i gen)
        have HRP := Lib.hid (resetP_snoc ps L (i, gen))
        rw [← HR.out] at HRP
        generalize hps2 : clrP (resetP ps L) (i, gen) = psn at *
        have hps3 : setP (resetP ps L) i gen { getX (resetP ps L) i gen with v9 := 0 } = psn := hps2
        rw [hps3] at HC
        clear hps2 hps3
        generalize getE (resetP ps L) i gen = er at *
        obtain ⟨ro, rc, hu4⟩ := HB.out.pull2.rd.len
        subst hu4
        go_wp2_with (first
          | (go_at_call 40; refine HC.out.mono ?_; rintro e w3 ⟨rfl, hS3⟩; have hb : Sat w0 (pc wr.heap.size 69 [.int .i64 i, .int .u64 gen, .int .i64 v0, .int .u64 v1, .int .i64 v2, .int .u64 v3, .int .u64 v4, .int .i64 v5, .int .u64 v6, .int .i64 v7, .int .i64 v8, .int .u64 v9, .int .i64 v10] * (sl 32 2 (.slice ro L.length rc) L.length (frefs L) * (sl 69 13 (.slice (some ⟨g, 0, none⟩) l.length vc) l.length (fpd l) * (domB h p * (tblP p psn free * F))))) w3 := hS3.cast (by ac_rfl); clear q0 q1 q2 q3 q4 q5 q6 q7 q8 q9 q10 q11 q12; have q0 := hb.cell 0 rfl; have q1 := hb.cell 1 rfl; have H3 := Lib.hid hb; clear hS3 hb)
          | (at_builtin; refine wpList_append_sl Eref rfl (.tmp 24) (.tmp 27) rfl (by rfl) (H3.out.pull2.alloc' _) (by rfl) (rdTwo _ _ (vi i) (vu gen) rfl) (by simp [Value.oneCell']) (by unfold maxLen; (have := HLen.out); omega) (by (have := HLen.out); omega) ?_; intro ao6 cap6 w6 hS6; have H6 := Lib.hid hS6; clear hS6))
        go_roundw
        case rel =>
          refine ⟨k + 1, by omega, by go_num, ?_⟩
          rw [HL2.out, HRP.out, HR.out, frefs_snoc, List.length_append, List.length_singleton]
          exact (H6.out.cast (show _ = pc wr.heap.size 69 [.int .i64 i, .int .u64 gen, .int .i64 v0, .int .u64 v1, .int .i64 v2, .int .u64 v3, .int .u64 v4, .int .i64 v5, .int .u64 v6, .int .i64 v7, .int .i64 v8, .int .u64 v9, .int .i64 v10] * (sl 32 2 (.slice ao6 (L.length + 1) cap6) (L.length + 1) (frefs L ++ [vi i, vu gen]) * (sl 69 13 (.slice (some ⟨g, 0, none⟩) l.length vc) l.length (fpd l) * (domB h p * (tblP p psn free * F)))) by ac_rfl)).dropL
        case measure => (simp [intOf]; try omega)
      · have HR := Lib.hid (HNo.out hz)
        clear HY HNo
        go_wp2
        go_roundw
        case rel => exact ⟨k + 1, by omega, by go_num, by rw [HR.out]; exact HB.out.dropL⟩
        case measure => (simp [intOf]; try omega)
    · obtain rfl : k = l.length := by omega
      rw [List.take_length] at hS
      have HS := Lib.hid (hS.pull2.dropL)
      clear hS
      go_wp2
      simp only [Exit.noGoto]
      go_ret
      exact ⟨_, rfl, HS.out⟩
end
end Go.Proofs.Ytfioghpnehfjhaa.Dm
