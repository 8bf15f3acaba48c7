/-
  The arena's All at api.Domain, and its iterator. No statement is proved here.
-/
import Derived.Test.YtfioghpnehfjhaaDn5
namespace Go.Proofs.Ytfioghpnehfjhaa.Dm
open Go.RowKit Go.Shelf Ad
attribute [local go_sem] Oper.semAt_some
set_option linter.unusedVariables false

/-- What the iterator has of its own: its list. -/
def itP (bx : Nat) (v : Value) (ps : List Pl) : Hp := pc bx 124 [v] * sl 122 14 v ps.length (flat ps)

section
variable {w0 w : World} {p : Nat} {ps : List Pl} {free : List Nat} {F : Hp}
theorem clone_places {v : Value} {ps : List Pl} (h : Sat w0 F w) (hR : ∀ w', Sat w0 F w' → Rd w' 14 v ps.length (flat ps)) (hl : ps.length ≤ 4096) (hp : 0 < ps.length) :
    Calls Try.prog 74 #[v] w fun e w' => ∃ g cap, e = .returned (.slice (some ⟨g, 0, none⟩) ps.length cap) ∧ Sat w0 (sl 122 14 (.slice (some ⟨g, 0, none⟩) ps.length cap) ps.length (flat ps) * F) w' := by
  obtain ⟨b, off, cap, rfl, _⟩ := (hR w h).pos (by omega)
  have hone := Lib.hid (flat_one Pl.one ps)
  have HR := Lib.hid hR
  have H := Lib.hid h
  clear hR h
  have hn := @Lib.run_eql_slice_nil Try.prog
  go_enter Try.func74, Try.ntmps74
  go_wp2_with (at_builtin; refine wpList_append_sl Epl rfl (.tmp 5) (.tmp 6) rfl (by rfl) (H.out.sl0 122 14) (by rfl) (HR.out _ (H.out.alloc' _)) hone.out (by unfold maxLen; omega) (by omega) ?_; intro ao1 cap1 w1 hS1; simp only [Nat.zero_add, List.nil_append] at hS1)
  go_ret
  rcases hS1.slE.2 with ⟨_, h0, _⟩ | ⟨g, c, cur, hv, _⟩
  · omega
  · cases hv
    exact ⟨g, cap1, by simp, hS1⟩
set_option maxRecDepth 100000 in
set_option maxHeartbeats 1000000 in
theorem da_all (h : Sat w0 (tblP p ps free * F) w) :
    Calls Try.prog 57 #[vp p] w fun e w' => ∃ bx g cap, e = .returned (.func (.func 75) #[] #[vp bx]) ∧ Sat w0 (itP bx (.slice (some ⟨g, 0, none⟩) ps.length cap) ps * (tblP p ps free * F)) w' := by
  obtain ⟨s, hs⟩ := open_ h
  have hok := hs.ok
  have hpos := hok.pos
  have hsm := hok.small
  have hB : Sat w0 (pc w.heap.size 124 [.slice none 0 0] * (tblB p s ps.length free.length * (tblL s ps * (tblF s free * F)))) (w.alloc (.cells #[.slice none 0 0] 124)) := hs.sat.alloc _
  have hI : TblIs w0 p s ps free (pc w.heap.size 124 [.slice none 0 0] * F) (w.alloc (.cells #[.slice none 0 0] 124)) := ⟨hok, hB.cast (by ac_rfl)⟩
  have c0 := hI.c0
  have b0 := hB.cell 0 rfl
  have f0 := hB.free 0
  have HN := Lib.hid (none_ hI)
  have HOK := Lib.hid hok
  have HB := Lib.hid hB
  have HC := Lib.hid (clone_places hB (fun w2 h2 => h2.pull3.rd) hsm hpos)
  clear h hs hok hI hB
  generalize hwb : w.alloc (.cells #[.slice none 0 0] 124) = wb at *
  have HW := Lib.hid hwb
  generalize hbx : w.heap.size = bx at *
  have HBX := Lib.hid hbx
  clear hwb hbx
  go_enter Try.func57, Try.ntmps57
  go_wp2_with fail
  rw [HW.out, HBX.out]
  refine HN.out.mono ?_
  rintro e w' ⟨rfl, rfl⟩
  go_wp2_with (go_at_call 74; refine HC.out.mono ?_; rintro e w1 ⟨g, cap, rfl, hS⟩; have b1 := hS.pull2.cell 0 rfl; have f1 := hS.pull2.free 0; have HS := Lib.hid hS; clear hS)
  go_ret
  refine ⟨bx, g, cap, rfl, ?_⟩
  have h1 := HS.out.pull2.store 0 (.slice (some ⟨g, 0, none⟩) ps.length cap)
  have h2 : Sat w0 (tblB p s ps.length free.length * (tblL s ps * (tblF s free * (itP bx (.slice (some ⟨g, 0, none⟩) ps.length cap) ps * F)))) _ := h1.cast (by
    unfold itP
    simp only [List.set_cons_zero]
    ac_rfl)
  exact (TblIs.shut (s := s) ⟨HOK.out, h2⟩).pull2

/-- What has come when k places are over. -/
def seenO (ps : List Pl) (i : Nat) : Option (Nat × Int × El) := match ps[i]? with
  | none => none
  | some a => if a.there then some (i, a.gen, a.x) else none
def seen (ps : List Pl) (k : Nat) : List (Nat × Int × El) := (List.range k).filterMap (seenO ps)
theorem seen_succ (ps : List Pl) (k : Nat) : seen ps (k + 1) = seen ps k ++ (seenO ps k).toList := by
  unfold seen
  rw [List.range_succ, List.filterMap_append]
  cases h : seenO ps k <;> simp [h]
theorem seen_yes {k : Nat} {a : Pl} (h : ps[k]? = some a) (ht : a.there = true) : seen ps (k + 1) = seen ps k ++ [(k, a.gen, a.x)] := by
  rw [seen_succ, seenO, h]
  simp [ht]
theorem seen_no {k : Nat} {a : Pl} (h : ps[k]? = some a) (ht : a.there = false) : seen ps (k + 1) = seen ps k := by
  rw [seen_succ, seenO, h]
  simp [ht]
theorem seen_len (ps : List Pl) (k : Nat) : (seen ps k).length ≤ k := by
  unfold seen
  exact Nat.le_trans (List.length_filterMap_le _ _) (by simp)

set_option maxRecDepth 100000 in
set_option maxHeartbeats 2000000 in
theorem da_all1 (n : Nat) (hn : 1 ≤ n) (hsm : ps.length ≤ 4096) (H : List (Nat × Int × El) → Hp) (bx g cap l : Nat)
    (hY : ∀ k a W (F : Hp), ps[k]? = some a → a.there = true → Sat w0 (itP bx (.slice (some ⟨g, 0, none⟩) ps.length cap) ps * (H (seen ps k) * F)) W → YieldAt Fence.wide (n - 1) Try.prog l #[vr k a.gen, ev a.x] W fun e W' => e = .returned (.bool true) ∧ Sat w0 (itP bx (.slice (some ⟨g, 0, none⟩) ps.length cap) ps * (H (seen ps k ++ [(k, a.gen, a.x)]) * F)) W')
    (h0 : Sat w0 (itP bx (.slice (some ⟨g, 0, none⟩) ps.length cap) ps * H []) w) :
    CallsIn Fence.wide n Try.prog 75 #[.func (.yield l) #[] #[], vp bx] w fun e W' => (∃ v, e = .returned v) ∧ Sat w0 (itP bx (.slice (some ⟨g, 0, none⟩) ps.length cap) ps * H (seen ps ps.length)) W' := by
  have c0 := (h0.cast (show _ = pc bx 124 [.slice (some ⟨g, 0, none⟩) ps.length cap] * (sl 122 14 (.slice (some ⟨g, 0, none⟩) ps.length cap) ps.length (flat ps) * H []) by unfold itP; ac_rfl)).cell 0 rfl
  have HY := Lib.hid hY
  have HS0 := Lib.hid h0
  clear hY h0
  refine callsIn_of_wp Try.func75 rfl trivial ?_ rfl
  simp only [Try.ntmps75, List.size_toArray, List.length_cons, List.length_nil, Nat.reduceAdd, Nat.reduceSub, Array.replicate_succ, Array.replicate_zero, List.push_toArray, List.append_toArray, List.nil_append, List.cons_append]
  gi_wp2
  clear c0
  gi_loopw [7] (fun i wr => ∃ k : Nat, k ≤ ps.length ∧ i = .int .i64 k ∧ Sat w0 (itP bx (.slice (some ⟨g, 0, none⟩) ps.length cap) ps * H (seen ps k)) wr) (fun i _ => ps.length - (intOf i).toNat)
  case atStart => exact ⟨0, Nat.zero_le _, rfl, HS0.out⟩
  case round =>
    obtain ⟨k, hk, rfl, hS⟩ := hrel
    by_cases hlt : k < ps.length
    · obtain ⟨a, ha⟩ : ∃ a, ps[k]? = some a := ⟨ps[k], List.getElem?_eq_getElem hlt⟩
      obtain ⟨gen, there, retired, ⟨v0, v1, v2, v3, v4, v5, v6, v7, v8, v9, v10⟩⟩ := a
      have hkl : (k : Int) < (ps.length : Int) := by omega
      have h2 := hS.cast (show _ = sl 122 14 (.slice (some ⟨g, 0, none⟩) ps.length cap) ps.length (flat ps) * (pc bx 124 [.slice (some ⟨g, 0, none⟩) ps.length cap] * H (seen ps k)) by unfold itP; ac_rfl)
      have hcs : ∀ j u, (flat ps)[j]? = some u → wr.cell? ⟨g, j, none⟩ = some u := fun j u hj => h2.slCell j hj
      have e0 := hcs _ _ (flat_get (j := 0) Pl.len ha rfl)
      have e1 := hcs _ _ (flat_get (j := 1) Pl.len ha rfl)
      have e2 := hcs _ _ (flat_get (j := 2) Pl.len ha rfl)
      have e3 := hcs _ _ (flat_get (j := 3) Pl.len ha rfl)
      have e4 := hcs _ _ (flat_get (j := 4) Pl.len ha rfl)
      have e5 := hcs _ _ (flat_get (j := 5) Pl.len ha rfl)
      have e6 := hcs _ _ (flat_get (j := 6) Pl.len ha rfl)
      have e7 := hcs _ _ (flat_get (j := 7) Pl.len ha rfl)
      have e8 := hcs _ _ (flat_get (j := 8) Pl.len ha rfl)
      have e9 := hcs _ _ (flat_get (j := 9) Pl.len ha rfl)
      have e10 := hcs _ _ (flat_get (j := 10) Pl.len ha rfl)
      have e11 := hcs _ _ (flat_get (j := 11) Pl.len ha rfl)
      have e12 := hcs _ _ (flat_get (j := 12) Pl.len ha rfl)
      have e13 := hcs _ _ (flat_get (j := 13) Pl.len ha rfl)
      rw [Nat.add_zero] at e0
      clear hcs h2
      have hT : Sat w0 (pc wr.heap.size 122 [vu gen, .bool there, .bool retired, .int .i64 v0, .int .u64 v1, .int .i64 v2, .int .u64 v3, .int .u64 v4, .int .i64 v5, .int .u64 v6, .int .i64 v7, .int .i64 v8, .int .u64 v9, .int .i64 v10] * (itP bx (.slice (some ⟨g, 0, none⟩) ps.length cap) ps * H (seen ps k))) (wr.alloc (.cells #[vu gen, .bool there, .bool retired, .int .i64 v0, .int .u64 v1, .int .i64 v2, .int .u64 v3, .int .u64 v4, .int .i64 v5, .int .u64 v6, .int .i64 v7, .int .i64 v8, .int .u64 v9, .int .i64 v10] 122)) := hS.alloc _
      cases there with
      | false =>
        have HSE := Lib.hid (seen_no ha rfl)
        have HT := Lib.hid hT
        clear hS hT ha
        gi_wp2
        refine ⟨fun _ h => (by cases h), ?_⟩
        gi_wp2
        go_roundw
        case rel => exact ⟨k + 1, by omega, by go_num, by rw [HSE.out]; exact HT.out.dropL⟩
        case measure => simp [intOf]; omega
      | true =>
        have HSE := Lib.hid (seen_yes ha rfl)
        have q0 := hT.cell 0 rfl
        have q1 := hT.cell 1 rfl
        have q2 := hT.cell 2 rfl
        have q3 := hT.cell 3 rfl
        have q4 := hT.cell 4 rfl
        have q5 := hT.cell 5 rfl
        have q6 := hT.cell 6 rfl
        have q7 := hT.cell 7 rfl
        have q8 := hT.cell 8 rfl
        have q9 := hT.cell 9 rfl
        have q10 := hT.cell 10 rfl
        have q11 := hT.cell 11 rfl
        have q12 := hT.cell 12 rfl
        have q13 := hT.cell 13 rfl
        obtain ⟨fn, tmps, assign, body, hy, hR⟩ := HY.out k _ _ (pc wr.heap.size 122 [vu gen, .bool true, .bool retired, .int .i64 v0, .int .u64 v1, .int .i64 v2, .int .u64 v3, .int .u64 v4, .int .i64 v5, .int .u64 v6, .int .i64 v7, .int .i64 v8, .int .u64 v9, .int .i64 v10]) ha rfl (hT.cast (by ac_rfl))
        dsimp only at hy hR
        clear hS hT ha
        gi_wp2
        refine hR.mono ?_
        rintro e W3 ⟨rfl, hS3⟩
        have HT := Lib.hid ((hS3.cast (show _ = pc wr.heap.size 122 [vu gen, .bool true, .bool retired, .int .i64 v0, .int .u64 v1, .int .i64 v2, .int .u64 v3, .int .u64 v4, .int .i64 v5, .int .u64 v6, .int .i64 v7, .int .i64 v8, .int .u64 v9, .int .i64 v10] * (itP bx (.slice (some ⟨g, 0, none⟩) ps.length cap) ps * H (seen ps k ++ [(k, gen, ⟨v0, v1, v2, v3, v4, v5, v6, v7, v8, v9, v10⟩)])) by ac_rfl)).dropL)
        clear hR hS3 hy
        gi_wp2
        go_roundw
        case rel => exact ⟨k + 1, by omega, by go_num, by rw [HSE.out]; exact HT.out⟩
        case measure => simp [intOf]; omega
    · obtain rfl : k = ps.length := by omega
      have HT := Lib.hid hS
      clear hS
      gi_wp2
      go_end0
      exact ⟨⟨_, rfl⟩, HT.out⟩
end
end Go.Proofs.Ytfioghpnehfjhaa.Dm
