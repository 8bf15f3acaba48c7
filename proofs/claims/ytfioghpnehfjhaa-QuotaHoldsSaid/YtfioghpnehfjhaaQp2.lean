/-
  helmsmanlaw10.made. No statement is proved here.
-/
import Derived.Test.YtfioghpnehfjhaaQp1
import Derived.Test.YtfioghpnehfjhaaArgs
namespace Go.Proofs.Ytfioghpnehfjhaa.Dm
open Go.RowKit Ad
set_option linter.unusedVariables false
set_option linter.unusedSimpArgs false

theorem results_tmp4 {fn : Func} {t u v x : Tmp} (h : fn.results = #[.tmp t, .tmp u, .tmp v, .tmp x]) (tmps : Array Value) (P : Program) (w : World) :
    (results fn tmps).run P w = .ok (.tuple #[tmps.getD t undef, tmps.getD u undef, tmps.getD v undef, tmps.getD x undef]) w := by
  simp [results, h]
def kC : Nat → IntKind := fun j => if j = 0 then .i64 else if j = 1 then .i64 else if j = 2 then .u64 else .u64
/-- What is carved at a place of a list that came in. -/
theorem c_act {w0 : World} {ao : Option Addr} {cap n : Nat} {A : Nat → Int} (h : ArgK w0 4 kC (.slice ao n cap) n A) {k : Nat} (hk : k < n) :
    ∃ b off, ao = some ⟨b, off, none⟩ ∧ ∃ x0 x1 x2 x3, (0 ≤ x2 ∧ x2 ≤ 18446744073709551615) ∧ ∀ (w : World) (F : Hp), Sat w0 F w → w.cell? ⟨b, off + k * 4, none⟩ = some (vi x0) ∧ w.cell? ⟨b, off + k * 4 + 1, none⟩ = some (vi x1) ∧ w.cell? ⟨b, off + k * 4 + 2, none⟩ = some (vu x2) ∧ w.cell? ⟨b, off + k * 4 + 3, none⟩ = some (vu x3) := by
  have hw := h.wf (k * 4 + 2) (by omega)
  rcases h.form with ⟨h0, _⟩ | ⟨b, off, c, hv, hb, hc⟩
  · omega
  · cases hv
    refine ⟨b, off, rfl, A (k * 4 + 0), A (k * 4 + 1), A (k * 4 + 2), A (k * 4 + 3), ?_, fun w F hS => ?_⟩
    · rw [show (k * 4 + 2) % 4 = 2 by omega] at hw
      have hw : (Lit.int .u64 (A (k * 4 + 2))).wf = true := hw
      simp only [Lit.wf, Bool.and_eq_true, decide_eq_true_eq] at hw
      exact ⟨hw.1, hw.2⟩
    · have g : ∀ j, j < n * 4 → w.cell? ⟨b, off + j, none⟩ = some (.int (kC (j % 4)) (A j)) := fun j hj => (hS.old (by exact hb)).trans (hc j hj)
      refine ⟨?_, ?_, ?_, ?_⟩
      · rw [g (k * 4) (by omega), show k * 4 % 4 = 0 by omega]; rfl
      · rw [Nat.add_assoc, g (k * 4 + 1) (by omega), show (k * 4 + 1) % 4 = 1 by omega]; rfl
      · rw [Nat.add_assoc, g (k * 4 + 2) (by omega), show (k * 4 + 2) % 4 = 2 by omega]; rfl
      · rw [Nat.add_assoc, g (k * 4 + 3) (by omega), show (k * 4 + 3) % 4 = 3 by omega]; rfl
theorem idx_fact (x : Int) (m : Nat) (hm : 0 < m) (hm2 : m ≤ 1000) : ∃ idx : Nat, idx < m ∧ wrap64 ((IntKind.u64.wrap x).tmod (m : Int)) = (idx : Int) := by
  have hu0 : 0 ≤ IntKind.u64.wrap x := by rw [IntKind.wrap_u64]; omega
  have hm0 : 0 ≤ (IntKind.u64.wrap x) % (m : Int) := Int.emod_nonneg _ (by omega)
  have hm1 : (IntKind.u64.wrap x) % (m : Int) < (m : Int) := Int.emod_lt_of_pos _ (by omega)
  refine ⟨((IntKind.u64.wrap x) % (m : Int)).toNat, by omega, ?_⟩
  rw [Int.tmod_eq_emod_of_nonneg hu0, IntWalk.wrap64_in _ (by omega)]
  omega
def Made (w0 : World) (F : Hp) (e : Ending) (w' : World) : Prop :=
  (e = .returned (.tuple #[.pointer none, .pointer none, .slice none 0 0, .bool false]) ∧ Sat w0 F w') ∨
  ∃ d p q vR ps m, DInv ps m ∧ e = .returned (.tuple #[vp d, vp q, vR, .bool true]) ∧ Sat w0 (domB d p * (tblP p ps (newF 32 (32 - m)) * (sl 32 2 vR m (frefs (refsL m)) * F))) w'
set_option maxRecDepth 100000 in
set_option maxHeartbeats 4000000 in
theorem made_ {w0 w : World} {F : Hp} (hS : Sat w0 F w) (cpu per : Int) (hc : 0 ≤ cpu) (v : Value) (len : Nat) (A : Nat → Int) (h : ArgK w0 4 kC v len A) :
    Calls Try.prog 9 #[vu cpu, vu per, v] w (Made w0 F) := by
  have hv : ∃ ao cap, v = .slice ao len cap := by
    rcases h.form with ⟨rfl, ao, cap, rfl⟩ | ⟨b, off, cap, rfl, _⟩
    · exact ⟨_, _, rfl⟩
    · exact ⟨_, _, rfl⟩
  obtain ⟨ao, cap, rfl⟩ := hv
  have H := Lib.hid hS
  have HMy := Lib.hid (fun w => rd_may 64 cpu per w)
  by_cases hl : 40 < len
  · have hli : (40 : Int) < (len : Int) := by omega
    clear hS h
    go_enter Try.func9, Try.ntmps9
    go_wp2
    (try simp only [Exit.inBlock, Exit.then])
    refine bodyPost_ret (results_tmp4 rfl _ _ _) rfl ?_
    exact .inl ⟨rfl, H.out⟩
  have hli : ¬ (40 : Int) < (len : Int) := by omega
  by_cases hm : MayD 64 cpu per
  · rw [decide_eq_true hm] at HMy
    have HNew := Lib.hid (dm_new 32 (by omega) (by omega) 64 cpu per hm hS)
    have HRN : Hid (∀ (G : Hp) (w1 : World), Sat w0 G w1 → Calls Try.prog 30 #[vi 32, vi 64, vu cpu, vu per] w1 fun e w' => ∃ q, e = .returned (vp q) ∧ Sat w0 (RQ q * G) w') := Lib.hid fun G w1 h1 => r_new_any hm hc h1
    have HA := Lib.hid h
    have HRoot := Lib.hid (DInv.root hm hc)
    clear hS h hm
    go_enter Try.func9, Try.ntmps9
    go_wp2_with (first
      | (go_at_call 29; refine (HMy.out _).mono ?_; rintro e w' ⟨rfl, rfl⟩)
      | (go_at_call 18; refine HNew.out.mono ?_; rintro e w1 ⟨d, p, rfl, hS1⟩; have H1 := Lib.hid hS1; clear hS1)
      | (go_at_call 30; refine (HRN.out _ _ H1.out).mono ?_; rintro e w2 ⟨q, rfl, hS2⟩; have H2 := Lib.hid hS2; clear hS2)
      | (go_at_call 31; refine (dm_root H2.out.pull2).mono ?_; rintro e w3 ⟨rfl, hS3⟩; have H3 := Lib.hid hS3; clear hS3))
    go_loopw [13, 14] (fun rv ix wr => ∃ (k m : Nat) (ps : List Pl), k ≤ len ∧ m ≤ k + 1 ∧ ix = vi k ∧ DInv ps m ∧ Sat w0 (sl 32 2 rv m (frefs (refsL m)) * (domB d p * (tblP p ps (newF 32 (32 - m)) * (RQ q * F)))) wr) (fun _ ix _ => len - (intOf ix).toNat)
    case atStart =>
      refine ⟨0, 1, _, Nat.zero_le _, Nat.le_refl _, rfl, HRoot.out, ?_⟩
      have h4 : Sat w0 (pc w3.heap.size 32 [vi 0, vu 1] * _) (w3.alloc (.cells #[vi 0, vu 1] 32)) := H3.out.alloc _
      have h5 := h4.slI (n := 1) (cap := 1) (size := 2) (xs := frefs (refsL 1)) (Nat.le_refl _) (by unfold maxLen; omega) (by simp) rfl
      exact h5.cast (by ac_rfl)
    case round =>
      obtain ⟨k, m, ps, hk, hmk, rfl, hi, hS⟩ := hrel
      have hpos := hi.pos
      have hmle := hi.le
      have HI := Lib.hid hi
      clear hi
      obtain ⟨gro, rcap, rfl⟩ := hS.rd.len
      obtain ⟨gr, rfl⟩ : ∃ gr, gro = some ⟨gr, 0, none⟩ := by
        rcases hS.slE.2 with ⟨_, h0, _⟩ | ⟨g', c', cur, hv, _⟩
        · omega
        · injection hv with h1 h2 h3
          exact ⟨g', h1⟩
      by_cases hlt : k < len
      · have hki : (k : Int) < (len : Int) := by omega
        obtain ⟨b, off, rfl, x0, x1, x2, x3, hx2, hc⟩ := c_act HA.out hlt
        obtain ⟨a0, a1, a2, a3⟩ := hc _ _ hS
        have HC := Lib.hid hc
        obtain ⟨idx, hix, hw64⟩ := idx_fact x0 m (by omega) (by omega)
        have hixi : (idx : Int) < (m : Int) := by omega
        have g0 := hS.slCell _ (frefs_at (refsL_at hix)).1
        have g1 := hS.slCell _ (frefs_at (refsL_at hix)).2
        dsimp only at g0 g1
        have hB : Sat w0 (pc wr.heap.size 32 [vi idx, vu 1] * (sl 32 2 (.slice (some ⟨gr, 0, none⟩) m rcap) m (frefs (refsL m)) * (domB d p * (tblP p ps (newF 32 (32 - m)) * (RQ q * F))))) (wr.alloc (.cells #[vi idx, vu 1] 32)) := hS.alloc _
        have HB := Lib.hid hB
        clear hS hB hc
        go_wp2
        clear g0 g1 a0 a1 a2 a3 hw64
        generalize hb15 : wr.heap.size = b15 at *
        generalize wr.alloc (.cells #[vi idx, vu 1] 32) = W1 at *
        have e0 := HB.out.cell 0 rfl
        have e1 := HB.out.cell 1 rfl
        obtain ⟨_, e2, e3, e4⟩ := HC.out _ _ HB.out
        have hA1 := (HB.out.alloc (.cells #[vi 0, vu 0] 32)).drew
        have hA1 : Sat w0 (pc W1.heap.size 32 [vi 0, vu 0] * (pc b15 32 [vi idx, vu 1] * (sl 32 2 (.slice (some ⟨gr, 0, none⟩) m rcap) m (frefs (refsL m)) * (domB d p * (tblP p ps (newF 32 (32 - m)) * (RQ q * F)))))) _ := hA1
        have HC1 := Lib.hid (d_carve_any (hA1.cast (show _ = domB d p * (tblP p ps (newF 32 (32 - m)) * (pc W1.heap.size 32 [vi 0, vu 0] * (pc b15 32 [vi idx, vu 1] * (sl 32 2 (.slice (some ⟨gr, 0, none⟩) m rcap) m (frefs (refsL m)) * (RQ q * F))))) by ac_rfl)) HI.out idx hix x1 x2 x3 hx2.1)
        have HC2 := Lib.hid (d_carve_any (HB.out.drew.cast (show _ = domB d p * (tblP p ps (newF 32 (32 - m)) * (pc b15 32 [vi idx, vu 1] * (sl 32 2 (.slice (some ⟨gr, 0, none⟩) m rcap) m (frefs (refsL m)) * (RQ q * F)))) by ac_rfl)) HI.out idx hix x1 x2 x3 hx2.1)
        clear hA1
        go_region_held3 (fun w' => w'.cell? ⟨b15, 0, none⟩ = some (vi idx) ∧ w'.cell? ⟨b15, 1, none⟩ = some (vu 1) ∧ w'.cell? ⟨b, off + k * 4 + 1, none⟩ = some (vi x1) ∧ w'.cell? ⟨b, off + k * 4 + 2, none⟩ = some (vu x2) ∧ w'.cell? ⟨b, off + k * 4 + 3, none⟩ = some (vu x3))
          (first | exact ⟨e0, e1, e2, e3, e4⟩ | exact ⟨d0, d1, d2, d3, d4⟩ | exact ⟨c0, c1, c2, c3, c4⟩ | go_keep)
          (first
            | (go_at_call 32; (with_reducible refine HC1.out.mono ?_); rintro e w5 ⟨er, ri, rg, ps', m', rfl, hi', hcs, hS5⟩; have hV : Sat w0 (pc W1.heap.size 32 [vi 0, vu 0] * (pc b15 32 [vi idx, vu 1] * (sl 32 2 (.slice (some ⟨gr, 0, none⟩) m rcap) m (frefs (refsL m)) * (domB d p * (tblP p ps' (newF 32 (32 - m')) * (RQ q * F)))))) w5 := hS5.cast (by ac_rfl); have d0 := hV.pull2.cell 0 rfl; have d1 := hV.pull2.cell 1 rfl; obtain ⟨_, d2, d3, d4⟩ := HC.out _ _ hV; have p0 := hV.cell 0 rfl; have p1 := hV.cell 1 rfl; have pf0 := hV.free 0; have pf1 := hV.free 1; have hW := (hV.store 0 (vi ri)).store 1 (vu rg); have c0 := hW.pull2.cell 0 rfl; have c1 := hW.pull2.cell 1 rfl; obtain ⟨_, c2, c3, c4⟩ := HC.out _ _ hW; have t0 := hW.cell 0 rfl; have t1 := hW.cell 1 rfl; have HI' := Lib.hid hi'; have HCs := Lib.hid hcs; have HW := Lib.hid hW; clear hS5 hV hW hi' hcs)
            | (go_at_call 32; (with_reducible refine HC2.out.mono ?_); rintro e w5 ⟨er, ri, rg, ps', m', rfl, hi', hcs, hS5⟩; have hV : Sat w0 (pc b15 32 [vi idx, vu 1] * (sl 32 2 (.slice (some ⟨gr, 0, none⟩) m rcap) m (frefs (refsL m)) * (domB d p * (tblP p ps' (newF 32 (32 - m')) * (RQ q * F))))) w5 := hS5.cast (by ac_rfl); have d0 := hV.cell 0 rfl; have d1 := hV.cell 1 rfl; obtain ⟨_, d2, d3, d4⟩ := HC.out _ _ hV; have hW := hV.alloc (.cells #[vi ri, vu rg] 32); have hW : Sat w0 (pc w5.heap.size 32 [vi ri, vu rg] * _) _ := hW; have c0 := hW.pull2.cell 0 rfl; have c1 := hW.pull2.cell 1 rfl; obtain ⟨_, c2, c3, c4⟩ := HC.out _ _ hW; have t0 := hW.cell 0 rfl; have t1 := hW.cell 1 rfl; have HI' := Lib.hid hi'; have HCs := Lib.hid hcs; have HW := Lib.hid hW; clear hS5 hV hW hi' hcs))
        · go_wp2_with fail
          have HR := Lib.hid (r_carve_any (HW.out.drew.cast (show _ = RQ q * (pc (w5.heap.size) 32 [vi ri, vu rg] * (pc b15 32 [vi idx, vu 1] * (sl 32 2 (.slice (some ⟨gr, 0, none⟩) m rcap) m (frefs (refsL m)) * (domB d p * (tblP p ps' (newF 32 (32 - m')) * F))))) by (try simp only [List.set_cons_zero, List.set_cons_succ]); ac_rfl)) idx x1 x2 x3 hx2.1)
          go_region_held3 (fun w' => w'.cell? ⟨b15, 0, none⟩ = some (vi idx) ∧ w'.cell? ⟨b15, 1, none⟩ = some (vu 1) ∧ w'.cell? ⟨b, off + k * 4 + 1, none⟩ = some (vi x1) ∧ w'.cell? ⟨b, off + k * 4 + 2, none⟩ = some (vu x2) ∧ w'.cell? ⟨b, off + k * 4 + 3, none⟩ = some (vu x3) ∧ w'.cell? ⟨w5.heap.size, 0, none⟩ = some (vi ri) ∧ w'.cell? ⟨w5.heap.size, 1, none⟩ = some (vu rg))
            (first | exact ⟨f0, f1, f2, f3, f4, f5, f6⟩ | exact ⟨c0, c1, c2, c3, c4, t0, t1⟩ | go_keep)
            (first | (go_at_call 33; refine HR.out.mono ?_; rintro e w7 ⟨v7, rfl, hS7⟩; have hT : Sat w0 (sl 32 2 (.slice (some ⟨gr, 0, none⟩) m rcap) m (frefs (refsL m)) * (pc (w5.heap.size) 32 [vi ri, vu rg] * (pc b15 32 [vi idx, vu 1] * (domB d p * (tblP p ps' (newF 32 (32 - m')) * (RQ q * F)))))) w7 := hS7.cast (by ac_rfl); have f0 := hT.pull3.cell 0 rfl; have f1 := hT.pull3.cell 1 rfl; obtain ⟨_, f2, f3, f4⟩ := HC.out _ _ hT; have f5 := hT.pull2.cell 0 rfl; have f6 := hT.pull2.cell 1 rfl; have HT := Lib.hid hT; clear hS7 hT))
          rcases HCs.out with ⟨her, hm'⟩ | ⟨her, hm', hri, hrg⟩
          · have her2 : (er == 0) = false := beq_eq_false_iff_ne.2 her
            subst hm'
            clear her
            go_wp2
            go_roundw
            case rel => exact ⟨k + 1, m', ps', by omega, by omega, by go_num, HI'.out, (HT.out.cast (show _ = pc (w5.heap.size) 32 [vi ri, vu rg] * (pc b15 32 [vi idx, vu 1] * (sl 32 2 (.slice (some ⟨gr, 0, none⟩) m' rcap) m' (frefs (refsL m')) * (domB d p * (tblP p ps' (newF 32 (32 - m')) * (RQ q * F))))) by ac_rfl)).dropL.dropL⟩
            case measure => (simp [intOf]; try omega)
          · subst her
            subst hm'
            subst hri
            subst hrg
            go_wp2_with (at_builtin; refine wpList_append_sl Eref rfl (.tmp 106) (.tmp 108) rfl rfl (HT.out.alloc' _) (by rfl) (rdTwo _ _ (vi (m : Int)) (vu 1) rfl) (by simp [Value.oneCell']) (by unfold maxLen; omega) (by omega) ?_; intro ao9 cap9 w9 hS9; have H9 := Lib.hid hS9; clear hS9)
            go_roundw
            case rel =>
              refine ⟨k + 1, m + 1, ps', by omega, by omega, by go_num, HI'.out, ?_⟩
              rw [refsL_succ, frefs_snoc]
              exact (H9.out.cast (show _ = pc (w5.heap.size) 32 [vi (m : Int), vu 1] * (pc b15 32 [vi idx, vu 1] * (sl 32 2 (.slice ao9 (m + 1) cap9) (m + 1) (frefs (refsL m) ++ [vi (m : Int), vu 1]) * (domB d p * (tblP p ps' (newF 32 (32 - (m + 1))) * (RQ q * F))))) by ac_rfl)).dropL.dropL
            case measure => (simp [intOf]; try omega)
        · go_wp2_with fail
          have HR := Lib.hid (r_carve_any (HW.out.drew.cast (show _ = RQ q * (pc (W1.heap.size) 32 [vi ri, vu rg] * (pc b15 32 [vi idx, vu 1] * (sl 32 2 (.slice (some ⟨gr, 0, none⟩) m rcap) m (frefs (refsL m)) * (domB d p * (tblP p ps' (newF 32 (32 - m')) * F))))) by (try simp only [List.set_cons_zero, List.set_cons_succ]); ac_rfl)) idx x1 x2 x3 hx2.1)
          go_region_held3 (fun w' => w'.cell? ⟨b15, 0, none⟩ = some (vi idx) ∧ w'.cell? ⟨b15, 1, none⟩ = some (vu 1) ∧ w'.cell? ⟨b, off + k * 4 + 1, none⟩ = some (vi x1) ∧ w'.cell? ⟨b, off + k * 4 + 2, none⟩ = some (vu x2) ∧ w'.cell? ⟨b, off + k * 4 + 3, none⟩ = some (vu x3) ∧ w'.cell? ⟨W1.heap.size, 0, none⟩ = some (vi ri) ∧ w'.cell? ⟨W1.heap.size, 1, none⟩ = some (vu rg))
            (first | exact ⟨f0, f1, f2, f3, f4, f5, f6⟩ | exact ⟨c0, c1, c2, c3, c4, t0, t1⟩ | go_keep)
            (first | (go_at_call 33; refine HR.out.mono ?_; rintro e w7 ⟨v7, rfl, hS7⟩; have hT : Sat w0 (sl 32 2 (.slice (some ⟨gr, 0, none⟩) m rcap) m (frefs (refsL m)) * (pc (W1.heap.size) 32 [vi ri, vu rg] * (pc b15 32 [vi idx, vu 1] * (domB d p * (tblP p ps' (newF 32 (32 - m')) * (RQ q * F)))))) w7 := hS7.cast (by ac_rfl); have f0 := hT.pull3.cell 0 rfl; have f1 := hT.pull3.cell 1 rfl; obtain ⟨_, f2, f3, f4⟩ := HC.out _ _ hT; have f5 := hT.pull2.cell 0 rfl; have f6 := hT.pull2.cell 1 rfl; have HT := Lib.hid hT; clear hS7 hT))
          rcases HCs.out with ⟨her, hm'⟩ | ⟨her, hm', hri, hrg⟩
          · have her2 : (er == 0) = false := beq_eq_false_iff_ne.2 her
            subst hm'
            clear her
            go_wp2
            go_roundw
            case rel => exact ⟨k + 1, m', ps', by omega, by omega, by go_num, HI'.out, (HT.out.cast (show _ = pc (W1.heap.size) 32 [vi ri, vu rg] * (pc b15 32 [vi idx, vu 1] * (sl 32 2 (.slice (some ⟨gr, 0, none⟩) m' rcap) m' (frefs (refsL m')) * (domB d p * (tblP p ps' (newF 32 (32 - m')) * (RQ q * F))))) by ac_rfl)).dropL.dropL⟩
            case measure => (simp [intOf]; try omega)
          · subst her
            subst hm'
            subst hri
            subst hrg
            go_wp2_with (at_builtin; refine wpList_append_sl Eref rfl (.tmp 106) (.tmp 108) rfl rfl (HT.out.alloc' _) (by rfl) (rdTwo _ _ (vi (m : Int)) (vu 1) rfl) (by simp [Value.oneCell']) (by unfold maxLen; omega) (by omega) ?_; intro ao9 cap9 w9 hS9; have H9 := Lib.hid hS9; clear hS9)
            go_roundw
            case rel =>
              refine ⟨k + 1, m + 1, ps', by omega, by omega, by go_num, HI'.out, ?_⟩
              rw [refsL_succ, frefs_snoc]
              exact (H9.out.cast (show _ = pc (W1.heap.size) 32 [vi (m : Int), vu 1] * (pc b15 32 [vi idx, vu 1] * (sl 32 2 (.slice ao9 (m + 1) cap9) (m + 1) (frefs (refsL m) ++ [vi (m : Int), vu 1]) * (domB d p * (tblP p ps' (newF 32 (32 - (m + 1))) * (RQ q * F))))) by ac_rfl)).dropL.dropL
            case measure => (simp [intOf]; try omega)
      · obtain rfl : k = len := by omega
        have HS := Lib.hid hS
        clear hS
        go_wp2
        (try simp only [Exit.inBlock, Exit.then])
        refine bodyPost_ret (results_tmp4 rfl _ _ _) rfl ?_
        exact .inr ⟨d, p, q, _, ps, m, HI.out, rfl, (HS.out.cast (show _ = RQ q * (domB d p * (tblP p ps (newF 32 (32 - m)) * (sl 32 2 (.slice (some ⟨gr, 0, none⟩) m rcap) m (frefs (refsL m)) * F))) by ac_rfl)).dropL⟩
  · rw [decide_eq_false hm] at HMy
    clear hS h hm
    go_enter Try.func9, Try.ntmps9
    go_wp2_with (go_at_call 29; refine (HMy.out _).mono ?_; rintro e w' ⟨rfl, rfl⟩)
    (try simp only [Exit.inBlock, Exit.then])
    refine bodyPost_ret (results_tmp4 rfl _ _ _) rfl ?_
    exact .inl ⟨rfl, H.out⟩
end Go.Proofs.Ytfioghpnehfjhaa.Dm
