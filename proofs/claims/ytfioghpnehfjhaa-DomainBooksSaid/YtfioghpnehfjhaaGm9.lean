/-
  Law 09: DomainBooks, the walk. No statement is proved here.
-/
import Derived.Test.YtfioghpnehfjhaaGm8
import Derived.Test.YtfioghpnehfjhaaArgs2
namespace Go.Proofs.Ytfioghpnehfjhaa.Dm
open Go.RowKit Ad
set_option linter.unusedVariables false
set_option linter.unusedSimpArgs false

def kA9 : Nat → IntKind := fun j => if j = 0 then .i64 else if j = 1 then .i64 else if j = 2 then .u64 else if j = 3 then .i64 else if j = 4 then .i64 else if j = 5 then .u64 else .u64
def QT9 (w0 : World) (e : Ending) (w' : World) : Prop := e = .returned (.bool true) ∧ Below w0.heap.size w0 w'
theorem a_act9 {w0 : World} {ao : Option Addr} {cap n : Nat} {A : Nat → Int} (h : ArgK w0 7 kA9 (.slice ao n cap) n A) {k : Nat} (hk : k < n) :
    ∃ b off, ao = some ⟨b, off, none⟩ ∧ ∃ x0 x1 x2 x3 x4 x5 x6, x3 ≤ 9223372036854775807 ∧ U64 x5 ∧ ∀ (w : World) (F : Hp), Sat w0 F w → w.cell? ⟨b, off + k * 7, none⟩ = some (vi x0) ∧ w.cell? ⟨b, off + k * 7 + 1, none⟩ = some (vi x1) ∧ w.cell? ⟨b, off + k * 7 + 2, none⟩ = some (vu x2) ∧ w.cell? ⟨b, off + k * 7 + 3, none⟩ = some (vi x3) ∧ w.cell? ⟨b, off + k * 7 + 4, none⟩ = some (vi x4) ∧ w.cell? ⟨b, off + k * 7 + 5, none⟩ = some (vu x5) ∧ w.cell? ⟨b, off + k * 7 + 6, none⟩ = some (vu x6) := by
  have hw := h.wf (k * 7 + 5) (by omega)
  have hw3 := h.wf (k * 7 + 3) (by omega)
  rcases h.form with ⟨h0, _⟩ | ⟨b, off, c, hv, hb, hc⟩
  · omega
  · cases hv
    refine ⟨b, off, rfl, A (k * 7 + 0), A (k * 7 + 1), A (k * 7 + 2), A (k * 7 + 3), A (k * 7 + 4), A (k * 7 + 5), A (k * 7 + 6), ?_, ?_, fun w F hS => ?_⟩
    · rw [show (k * 7 + 3) % 7 = 3 by omega] at hw3
      have hw3 : (Lit.int .i64 (A (k * 7 + 3))).wf = true := hw3
      simp only [Lit.wf, Bool.and_eq_true, decide_eq_true_eq] at hw3
      exact hw3.2
    · rw [show (k * 7 + 5) % 7 = 5 by omega] at hw
      have hw : (Lit.int .u64 (A (k * 7 + 5))).wf = true := hw
      simp only [Lit.wf, Bool.and_eq_true, decide_eq_true_eq] at hw
      exact ⟨hw.1, hw.2⟩
    · have g : ∀ j, j < n * 7 → w.cell? ⟨b, off + j, none⟩ = some (.int (kA9 (j % 7)) (A j)) := fun j hj => (hS.old (by exact hb)).trans (hc j hj)
      refine ⟨?_, ?_, ?_, ?_, ?_, ?_, ?_⟩
      · rw [g (k * 7) (by omega), show k * 7 % 7 = 0 by omega]; rfl
      · rw [Nat.add_assoc, g (k * 7 + 1) (by omega), show (k * 7 + 1) % 7 = 1 by omega]; rfl
      · rw [Nat.add_assoc, g (k * 7 + 2) (by omega), show (k * 7 + 2) % 7 = 2 by omega]; rfl
      · rw [Nat.add_assoc, g (k * 7 + 3) (by omega), show (k * 7 + 3) % 7 = 3 by omega]; rfl
      · rw [Nat.add_assoc, g (k * 7 + 4) (by omega), show (k * 7 + 4) % 7 = 4 by omega]; rfl
      · rw [Nat.add_assoc, g (k * 7 + 5) (by omega), show (k * 7 + 5) % 7 = 5 by omega]; rfl
      · rw [Nat.add_assoc, g (k * 7 + 6) (by omega), show (k * 7 + 6) % 7 = 6 by omega]; rfl
theorem fpd_at9 {l : List (Nat × Int × El)} {k j : Nat} {x : Nat × Int × El} {v : Value} (h : l[k]? = some x) (hv : (pdC x)[j]? = some v) : (fpd l)[k * 13 + j]? = some v :=
  flat_get (f := pdC) (N := 13) (fun _ => rfl) h hv
theorem kidL_next (f : El → Int) {l : List (Nat × Int × El)} {m : Nat} {y : Nat × Int × El} (h : l[m]? = some y) (i g : Int) : kidL f (l.take (m + 1)) i g = kidL f (l.take m) i g + if y.2.2.v0 = i ∧ y.2.2.v1 = g then f y.2.2 else 0 := by
  rw [show l.take (m + 1) = l.take m ++ [y] by rw [List.take_add_one, h]; rfl, kidL_snoc]
set_option maxRecDepth 100000 in
set_option maxHeartbeats 16000000 in
theorem books_walk (w0 : World) (sz gs cpu per : Int) (hc : 0 ≤ cpu) (v : Value) (len : Nat) (A : Nat → Int) (hA : ArgK w0 7 kA9 v len A) :
    Calls Try.prog 6 #[vi sz, vi gs, vu cpu, vu per, v] w0 (QT9 w0) := by
  have hv : ∃ ao cap, v = .slice ao len cap := by
    rcases hA.form with ⟨rfl, ao, cap, rfl⟩ | ⟨b, off, cap, rfl, _⟩
    · exact ⟨_, _, rfl⟩
    · exact ⟨_, _, rfl⟩
  obtain ⟨ao, acap, rfl⟩ := hv
  have HA := Lib.hid hA
  have HMay := Lib.hid (fun w => may09 sz gs cpu per w)
  have H0 := Lib.hid (Sat.start w0)
  clear hA
  by_cases hl : 80 < len
  · have hli : (80 : Int) < (len : Int) := by omega
    go_enter Try.func6, Try.ntmps6
    go_wp2_with (go_at_call 22; (with_reducible refine (known09 H0.out).mono ?_); rintro e w9 ⟨rfl, hS9⟩; have H9 := Lib.hid hS9; clear hS9)
    go_ret
    exact ⟨rfl, H9.out.below⟩
  · have hli : ¬ (80 : Int) < (len : Int) := by omega
    by_cases hm : 1 ≤ sz ∧ sz ≤ 32 ∧ MayD gs cpu per
    · rw [decide_eq_true hm] at HMay
      obtain ⟨n, rfl⟩ := Int.eq_ofNat_of_zero_le (show 0 ≤ sz by omega)
      have HBeg := Lib.hid (begin09 (Sat.start w0) n (by omega) (by omega) gs cpu per hm.2.2 hc)
      have HRel := Lib.hid (Rel.rootL n (by omega) (by omega) hm.2.2 hc)
      clear hm hc
      go_enter Try.func6, Try.ntmps6
      go_wp2_with (first
        | (go_at_call 21; (with_reducible refine (HMay.out _).mono ?_); rintro e w' ⟨rfl, rfl⟩)
        | (go_at_call 23; (with_reducible refine HBeg.out.mono ?_); rintro e w1 ⟨g, d, p, q, b, cap, vF, vR, rfl, hS1⟩; have H1 := Lib.hid hS1; clear hS1))
      go_loopw [12] (fun ix wr => ∃ (k : Nat) (ps : List Pl) (free : List Nat) (rl : List (Int × Int)) (vF vR : Value), k ≤ len ∧ ix = vi k ∧ Rel n (1 + k) ps free ∧ 0 < rl.length ∧ rl.length ≤ 1 + k ∧ Sat w0 (gameC g d p q b cap vF vR ps free rl emp) wr) (fun ix _ => len - (intOf ix).toNat)
      case atStart => exact ⟨0, _, _, _, vF, vR, Nat.zero_le _, rfl, HRel.out, by simp, by simp, H1.out⟩
      case round =>
        clear H1 HBeg HMay HRel
        obtain ⟨k, ps, free, rl, vF, vR, hk, rfl, hR, hrl, hrl2, hS⟩ := hrel
        by_cases hlt : k < len
        · have hki : (k : Int) < (len : Int) := by omega
          obtain ⟨ab, aoff, rfl, x0, x1, x2, x3, x4, x5, x6, hx3, hx5, hca⟩ := a_act9 HA.out hlt
          obtain ⟨a0, a1, a2, a3, a4, a5, a6⟩ := hca _ _ hS
          have HDo := Lib.hid (do_any hR (by omega) hS hrl (by omega) x1 x2 x3 x4 x5 x6 x0 hx3 hx5)
          have hlen2 : rl.length ≤ 1 + k := hrl2
          clear hS hca hR hrl hx5
          go_wp2_with (first
            | (go_at_call 24; (with_reducible refine HDo.out.mono ?_); rintro e w2 ⟨ps2, free2, rl2, vF2, vR2, rfl, hR2, hrl3, hrl4, hS2⟩; have d0 := hS2.cell 0 rfl; have HAl := Lib.hid (dm_all (hS2.cast (show _ = domB d p * (tblP p ps2 free2 * (pc g 66 [vp d, vp q, vR2] * (sl 32 2 vR2 rl2.length (frefs rl2) * refD q b cap vF2 ps2 free2 emp))) by unfold gameC; ac_rfl)) (by have := hR2.len; have := hR2.n32; omega)); have HR2 := Lib.hid hR2; clear hS2 hR2)
            | (go_at_call 25; (with_reducible refine HAl.out.mono ?_); rintro e w3 ⟨vA, rfl, hS3⟩; obtain ⟨vo, vc, rfl⟩ := hS3.rd.len; have H3 := Lib.hid hS3; clear hS3))
          obtain ⟨hl32, hbook⟩ := HR2.out.bookX
          have HBook := Lib.hid hbook
          clear hbook HAl HDo
          generalize seen ps2 ps2.length = l at *
          obtain ⟨R, hRR⟩ : ∃ R, R = (domB d p * (tblP p ps2 free2 * (pc g 66 [vp d, vp q, vR2] * (sl 32 2 vR2 rl2.length (frefs rl2) * refD q b cap vF2 ps2 free2 emp)))) := ⟨_, rfl⟩
          rw [← hRR] at H3
          have HRR := Lib.hid hRR
          clear hRR d0
          go_loopw [14] (fun ix wr => ∃ j : Nat, j ≤ l.length ∧ ix = vi j ∧ Sat w0 (sl 69 13 (.slice vo l.length vc) l.length (fpd l) * R) wr) (fun ix _ => l.length - (intOf ix).toNat)
          case atStart => exact ⟨0, Nat.zero_le _, rfl, H3.out⟩
          case round =>
            obtain ⟨j, hj, rfl, hS⟩ := hrel
            clear H3
            by_cases hjl : j < l.length
            · have hji : (j : Int) < (l.length : Int) := by omega
              obtain ⟨ga, rfl⟩ : ∃ ga, vo = some ⟨ga, 0, none⟩ := by
                rcases hS.slE.2 with ⟨_, h0, _⟩ | ⟨g', c', cur, hv, _⟩
                · omega
                · injection hv with h1 h2 h3
                  exact ⟨g', h1⟩
              obtain ⟨x, hx⟩ : ∃ x, l[j]? = some x := ⟨l[j], List.getElem?_eq_getElem hjl⟩
              have hb := HBook.out x (List.mem_of_getElem? hx)
              obtain ⟨i, gen, ⟨v0, v1, v2, v3, v4, v5, v6, v7, v8, v9, v10⟩⟩ := x
              have r0 : wr.cell? ⟨ga, j * 13, none⟩ = some (vi i) := hS.slCell (j * 13 + 0) (fpd_at9 hx rfl)
              have r1 : wr.cell? ⟨ga, j * 13 + 1, none⟩ = some (vu gen) := hS.slCell (j * 13 + 1) (fpd_at9 hx rfl)
              have c0 : wr.cell? ⟨ga, j * 13 + 2, none⟩ = some (.int .i64 v0) := hS.slCell (j * 13 + 2) (fpd_at9 hx rfl)
              have c1 : wr.cell? ⟨ga, j * 13 + 2 + 1, none⟩ = some (.int .u64 v1) := hS.slCell (j * 13 + 3) (fpd_at9 hx rfl)
              have c2 : wr.cell? ⟨ga, j * 13 + 2 + 2, none⟩ = some (.int .i64 v2) := hS.slCell (j * 13 + 4) (fpd_at9 hx rfl)
              have c3 : wr.cell? ⟨ga, j * 13 + 2 + 3, none⟩ = some (.int .u64 v3) := hS.slCell (j * 13 + 5) (fpd_at9 hx rfl)
              have c4 : wr.cell? ⟨ga, j * 13 + 2 + 4, none⟩ = some (.int .u64 v4) := hS.slCell (j * 13 + 6) (fpd_at9 hx rfl)
              have c5 : wr.cell? ⟨ga, j * 13 + 2 + 5, none⟩ = some (.int .i64 v5) := hS.slCell (j * 13 + 7) (fpd_at9 hx rfl)
              have c6 : wr.cell? ⟨ga, j * 13 + 2 + 6, none⟩ = some (.int .u64 v6) := hS.slCell (j * 13 + 8) (fpd_at9 hx rfl)
              have c7 : wr.cell? ⟨ga, j * 13 + 2 + 7, none⟩ = some (.int .i64 v7) := hS.slCell (j * 13 + 9) (fpd_at9 hx rfl)
              have c8 : wr.cell? ⟨ga, j * 13 + 2 + 8, none⟩ = some (.int .i64 v8) := hS.slCell (j * 13 + 10) (fpd_at9 hx rfl)
              have c9 : wr.cell? ⟨ga, j * 13 + 2 + 9, none⟩ = some (.int .u64 v9) := hS.slCell (j * 13 + 11) (fpd_at9 hx rfl)
              have c10 : wr.cell? ⟨ga, j * 13 + 2 + 10, none⟩ = some (.int .i64 v10) := hS.slCell (j * 13 + 12) (fpd_at9 hx rfl)
              have hB : Sat w0 (pc wr.heap.size 45 [(.int .i64 v0), (.int .u64 v1), (.int .i64 v2), (.int .u64 v3), (.int .u64 v4), (.int .i64 v5), (.int .u64 v6), (.int .i64 v7), (.int .i64 v8), (.int .u64 v9), (.int .i64 v10)] * (sl 69 13 (.slice (some ⟨ga, 0, none⟩) l.length vc) l.length (fpd l) * R)) (wr.alloc (.cells #[(.int .i64 v0), (.int .u64 v1), (.int .i64 v2), (.int .u64 v3), (.int .u64 v4), (.int .i64 v5), (.int .u64 v6), (.int .i64 v7), (.int .i64 v8), (.int .u64 v9), (.int .i64 v10)] 45)) := hS.alloc _
              have q7 := hB.cell 7 rfl
              have HB := Lib.hid hB
              have HX := Lib.hid hx
              have HBk := Lib.hid hb
              clear hS hB hb hx
              go_wp2_with fail
              go_quiet (fail)
              go_wp2_with fail
              clear c0 c1 c2 c3 c4 c5 c6 c7 c8 c9 c10 q7 r0 r1
              have HB2 : Hid (∀ N : Nat, Sat w0 (pc wr.heap.size 45 [(.int .i64 v0), (.int .u64 v1), (.int .i64 v2), (.int .u64 v3), (.int .u64 v4), (.int .i64 v5), (.int .u64 v6), (.int .i64 v7), (.int .i64 v8), (.int .u64 v9), (.int .i64 v10)] * (sl 69 13 (.slice (some ⟨ga, 0, none⟩) l.length vc) l.length (fpd l) * R)) ((wr.alloc (.cells #[(.int .i64 v0), (.int .u64 v1), (.int .i64 v2), (.int .u64 v3), (.int .u64 v4), (.int .i64 v5), (.int .u64 v6), (.int .i64 v7), (.int .i64 v8), (.int .u64 v9), (.int .i64 v10)] 45)).drewN N)) := Lib.hid fun N => HB.out.drewN N
              clear HB
              generalize wr.heap.size = bx at *
              go_loopw [16, 17, 18, 19, 20] (fun c t lv ch ix wr => ∃ m : Nat, m ≤ l.length ∧ ix = vi m ∧ c = vi (kidL El.v2 (l.take m) i gen) ∧ t = vu (kidL El.v3 (l.take m) i gen) ∧ lv = vi (v7 + kidL El.v8 (l.take m) i gen) ∧ ch = vi (kidL (fun _ => 1) (l.take m) i gen) ∧ Sat w0 (pc bx 45 [(.int .i64 v0), (.int .u64 v1), (.int .i64 v2), (.int .u64 v3), (.int .u64 v4), (.int .i64 v5), (.int .u64 v6), (.int .i64 v7), (.int .i64 v8), (.int .u64 v9), (.int .i64 v10)] * (sl 69 13 (.slice (some ⟨ga, 0, none⟩) l.length vc) l.length (fpd l) * R)) wr) (fun _ _ _ _ ix _ => l.length - (intOf ix).toNat)
              case atStart => exact ⟨0, Nat.zero_le _, rfl, rfl, rfl, by simp [kidL], rfl, HB2.out _⟩
              case round =>
                obtain ⟨m, hm, rfl, rfl, rfl, rfl, rfl, hS⟩ := hrel
                clear HB2
                have hc1 := kidL_bd El.v2 64 (by omega) (fun x hx => ⟨(HBook.out x hx).v2.1, (HBook.out x hx).v2.2⟩) i gen m
                have hc2 := kidL_bd El.v3 4294967296 (by omega) (fun x hx => ⟨(HBook.out x hx).v3.1, (HBook.out x hx).v3.2⟩) i gen m
                have hc3 := kidL_bd El.v8 64 (by omega) (fun x hx => ⟨(HBook.out x hx).v8.1, by have := (HBook.out x hx).v8; have := (HBook.out x hx).v2; omega⟩) i gen m
                have hc4 := kidL_bd (l := l) (fun _ => 1) 1 (by omega) (fun x hx => ⟨by omega, by omega⟩) i gen m
                by_cases hml : m < l.length
                · have hmi : (m : Int) < (l.length : Int) := by omega
                  obtain ⟨y, hy⟩ : ∃ y, l[m]? = some y := ⟨l[m], List.getElem?_eq_getElem hml⟩
                  have hby := HBook.out y (List.mem_of_getElem? hy)
                  have HN1 := Lib.hid (kidL_next El.v2 hy i gen)
                  have HN2 := Lib.hid (kidL_next El.v3 hy i gen)
                  have HN3 := Lib.hid (kidL_next El.v8 hy i gen)
                  have HN4 := Lib.hid (kidL_next (fun _ => 1) hy i gen)
                  obtain ⟨yi, yg, ⟨y0, y1, y2, y3, y4, y5, y6, y7, y8, y9, y10⟩⟩ := y
                  have b2 := hby.v2
                  have b3 := hby.v3
                  have b8 := hby.v8
                  have w7 := HBk.out.v7
                  have w2 := HBk.out.v2
                  dsimp only at HN1 HN2 HN3 HN4 b2 b3 b8 w7 w2
                  have w5 := HBk.out.v5
                  dsimp only at w5
                  clear hby
                  have r0 : wr.cell? ⟨ga, j * 13, none⟩ = some (vi i) := hS.pull2.slCell (j * 13 + 0) (fpd_at9 HX.out rfl)
                  have r1 : wr.cell? ⟨ga, j * 13 + 1, none⟩ = some (vu gen) := hS.pull2.slCell (j * 13 + 1) (fpd_at9 HX.out rfl)
                  have p0 : wr.cell? ⟨ga, m * 13 + 2, none⟩ = some (vi y0) := hS.pull2.slCell (m * 13 + 2) (fpd_at9 hy rfl)
                  have p1 : wr.cell? ⟨ga, m * 13 + 2 + 1, none⟩ = some (vu y1) := hS.pull2.slCell (m * 13 + 3) (fpd_at9 hy rfl)
                  have p2 : wr.cell? ⟨ga, m * 13 + 2 + 2, none⟩ = some (vi y2) := hS.pull2.slCell (m * 13 + 4) (fpd_at9 hy rfl)
                  have p3 : wr.cell? ⟨ga, m * 13 + 2 + 3, none⟩ = some (vu y3) := hS.pull2.slCell (m * 13 + 5) (fpd_at9 hy rfl)
                  have p8 : wr.cell? ⟨ga, m * 13 + 2 + 8, none⟩ = some (vi y8) := hS.pull2.slCell (m * 13 + 10) (fpd_at9 hy rfl)
                  have p2' : wr.cell? ⟨ga, m * 13 + 4, none⟩ = some (vi y2) := p2
                  have p3' : wr.cell? ⟨ga, m * 13 + 5, none⟩ = some (vu y3) := p3
                  have p8' : wr.cell? ⟨ga, m * 13 + 10, none⟩ = some (vi y8) := p8
                  have HS := Lib.hid hS
                  clear hS hy
                  generalize kidL El.v2 (l.take m) i gen = s2 at *
                  generalize kidL El.v3 (l.take m) i gen = s3 at *
                  generalize kidL El.v8 (l.take m) i gen = s8 at *
                  generalize kidL (fun _ => 1) (l.take m) i gen = s1 at *
                  generalize hN2 : kidL El.v2 (l.take (m + 1)) i gen = t2 at *
                  generalize hN3 : kidL El.v3 (l.take (m + 1)) i gen = t3 at *
                  generalize hN8 : kidL El.v8 (l.take (m + 1)) i gen = t8 at *
                  generalize hN1 : kidL (fun _ => 1) (l.take (m + 1)) i gen = t1 at *
                  have HE2 := Lib.hid hN2
                  have HE3 := Lib.hid hN3
                  have HE8 := Lib.hid hN8
                  have HE1 := Lib.hid hN1
                  clear hN2 hN3 hN8 hN1
                  by_cases hk0 : y0 = (i : Int)
                  · by_cases hk1 : y1 = gen
                    · subst hk0 hk1
                      rw [if_pos ⟨rfl, rfl⟩] at HN1 HN2 HN3 HN4
                      have z1 : IntKind.i64.wrap (s2 + y2) = s2 + y2 := IntWalk.i64_in _ (by omega)
                      have z2 : IntKind.u64.wrap (s3 + y3) = s3 + y3 := IntWalk.u64_in _ (by omega)
                      have z3 : IntKind.i64.wrap (v7 + s8 + y8) = v7 + s8 + y8 := IntWalk.i64_in _ (by omega)
                      have z4 : IntKind.i64.wrap (s1 + 1) = s1 + 1 := IntWalk.i64_in _ (by omega)
                      clear hc1 hc2 hc3 hc4 b2 b3 b8 w7 w2 w5
                      go_wp2_with fail
                      go_quiet (fail)
                      go_wp2
                      go_roundw
                      case rel => exact ⟨m + 1, by omega, by go_num, by rw [HE2.out, HN1.out], by rw [HE3.out, HN2.out], by rw [HE8.out, HN3.out]; congr 1; omega, by rw [HE1.out, HN4.out], HS.out.drewN _⟩
                      case measure => (simp [intOf]; try omega)
                    · subst hk0
                      have hb1 : (y1 == gen) = false := beq_eq_false_iff_ne.2 hk1
                      rw [if_neg (fun e => hk1 e.2)] at HN1 HN2 HN3 HN4
                      clear hc1 hc2 hc3 hc4 b2 b3 b8 w7 w2 w5 hk1
                      go_wp2_with fail
                      go_quiet (fail)
                      go_wp2
                      go_roundw
                      case rel => exact ⟨m + 1, by omega, by go_num, by rw [HE2.out, HN1.out, Int.add_zero], by rw [HE3.out, HN2.out, Int.add_zero], by rw [HE8.out, HN3.out, Int.add_zero], by rw [HE1.out, HN4.out, Int.add_zero], HS.out.drewN _⟩
                      case measure => (simp [intOf]; try omega)
                  · have hb1 : (y0 == (i : Int)) = false := beq_eq_false_iff_ne.2 hk0
                    rw [if_neg (fun e => hk0 e.1)] at HN1 HN2 HN3 HN4
                    clear hc1 hc2 hc3 hc4 b2 b3 b8 w7 w2 w5 hk0
                    go_wp2_with fail
                    go_quiet (fail)
                    go_wp2
                    go_roundw
                    case rel => exact ⟨m + 1, by omega, by go_num, by rw [HE2.out, HN1.out, Int.add_zero], by rw [HE3.out, HN2.out, Int.add_zero], by rw [HE8.out, HN3.out, Int.add_zero], by rw [HE1.out, HN4.out, Int.add_zero], HS.out.drewN _⟩
                    case measure => (simp [intOf]; try omega)
                · obtain rfl : m = l.length := by omega
                  rw [List.take_length] at *
                  have hb := HBk.out
                  have e5 := hb.s5
                  have e6 := hb.s6
                  have e8 := hb.s8
                  have e10 := hb.s10
                  dsimp only at e5 e6 e8 e10
                  rw [e5, e6, e8, e10]
                  have w7 := hb.v7
                  have w8 := hb.v8
                  have w5 := hb.v5
                  have w6 := hb.v6
                  have w2 := hb.v2
                  dsimp only at w7 w8 w5 w6 w2
                  have z1 : IntKind.i64.wrap (v2 - v5) = v2 - v5 := IntWalk.i64_in _ (by omega)
                  have n1 : ¬ v2 < v8 := by omega
                  have n2 : ¬ v2 - v5 < v7 := by omega
                  have n3 : ¬ v3 < v6 := by omega
                  have q2 := hS.cell 2 rfl
                  have q3 := hS.cell 3 rfl
                  have q5 := hS.cell 5 rfl
                  have q6 := hS.cell 6 rfl
                  have q7 := hS.cell 7 rfl
                  have q8 := hS.cell 8 rfl
                  have q10 := hS.cell 10 rfl
                  have HS := Lib.hid hS
                  clear hS hb e5 e6 e8 e10 hc1 hc2 hc3 hc4 w7 w8 w5 w6 w2
                  go_wp2_with fail
                  go_roundw
                  case rel => exact ⟨j + 1, by omega, by go_num, HS.out.dropL⟩
                  case measure => (simp [intOf]; try omega)
            · obtain rfl : j = l.length := by omega
              have HS := Lib.hid hS
              clear hS
              go_wp2_with fail
              go_roundw
              case rel =>
                have h9 := HS.out.dropL
                rw [HRR.out] at h9
                exact ⟨k + 1, ps2, free2, rl2, vF2, vR2, by omega, by go_num, by rw [show 1 + (k + 1) = 1 + k + 1 by omega]; exact HR2.out, hrl3, by omega, h9.cast (by unfold gameC; ac_rfl)⟩
              case measure => (simp [intOf]; try omega)
        · obtain rfl : k = len := by omega
          have HS := Lib.hid hS
          clear hS hR
          go_wp2_with (go_at_call 22; (with_reducible refine (known09 HS.out).mono ?_); rintro e w9 ⟨rfl, hS9⟩; have H9 := Lib.hid hS9; clear hS9)
          go_ret
          exact ⟨rfl, H9.out.below⟩
    · rw [decide_eq_false hm] at HMay
      clear hm
      go_enter Try.func6, Try.ntmps6
      go_wp2_with (first
        | (go_at_call 21; (with_reducible refine (HMay.out _).mono ?_); rintro e w' ⟨rfl, rfl⟩)
        | (go_at_call 22; (with_reducible refine (known09 H0.out).mono ?_); rintro e w9 ⟨rfl, hS9⟩; have H9 := Lib.hid hS9; clear hS9))
      go_ret
      exact ⟨rfl, H9.out.below⟩
theorem books_row (w0 : World) (sz : Int) (_ : (Lit.int .i64 sz).wf = true) (gs : Int) (_ : (Lit.int .i64 gs).wf = true) (cpu : Int) (wc : (Lit.int .u64 cpu).wf = true) (per : Int) (_ : (Lit.int .u64 per).wf = true) (v : Value) (len : Nat) (A : Nat → Int) (hA : ArgK w0 7 kA9 v len A) :
    Calls Try.prog 6 #[vi sz, vi gs, vu cpu, vu per, v] w0 (QT9 w0) := by
  simp only [Lit.wf, Bool.and_eq_true, decide_eq_true_eq] at wc
  exact books_walk w0 sz gs cpu per wc.1 v len A hA
end Go.Proofs.Ytfioghpnehfjhaa.Dm
