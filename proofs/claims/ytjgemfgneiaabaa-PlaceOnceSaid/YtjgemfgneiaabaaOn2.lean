/-
  The walk of PlaceOnce: the loop. No statement is proved here.
-/
import Derived.Test.YtjgemfgneiaabaaMg18
import Derived.Test.YtjgemfgneiaabaaLo3
namespace Go.Proofs.Ytjgemfgneiaabaa.Pc
open Go.RowKit Rq Gq Nu
set_option linter.unusedVariables false
set_option linter.unusedSimpArgs false
theorem fin_take {l l' : List Int} {x : Int} {t : Bool} (hG : Good30 l) (hp : (l' ++ if t = true then [x] else []).Perm l) : Good30 (l' ++ if t = true then [x] else []) ∧ thN 31 (l' ++ if t = true then [x] else []) = thN 31 l := ⟨hG.perm hp, thN_congr fun y => hp.mem_iff⟩
theorem fin_none {l l' : List Int} (x : Int) (hG : Good30 l) (hp : l'.Perm l) : Good30 (l' ++ if false = true then [x] else []) ∧ thN 31 (l' ++ if false = true then [x] else []) = thN 31 l := fin_take hG (by simpa using hp)
theorem good_cons {l : List Int} {g : Int} (hG : Good30 l) (hm : g ∉ l) (h0 : 0 ≤ g ∧ g ≤ 30) : Good30 (g :: l) := ⟨List.nodup_cons.2 ⟨hm, hG.1⟩, fun x hx => (List.mem_cons.1 hx).elim (fun e => e ▸ h0) (hG.2 x)⟩
theorem fin_put {l l' : List Int} {g : Int} (x : Int) (hG : Good30 l) (hm : g ∉ l) (h0 : 0 ≤ g ∧ g ≤ 30) (hp : l'.Perm (l ++ [g])) : Good30 (l' ++ if false = true then [x] else []) ∧ thN 31 (l' ++ if false = true then [x] else []) = thN 31 (g :: l) :=
  fin_none x (good_cons hG hm h0) (hp.trans List.perm_append_comm)
section
variable {w0 : World} {v : Value} {n : Nat} {A : Nat → Ac}
set_option maxRecDepth 100000 in
set_option maxHeartbeats 16000000 in
theorem once_yes (ps ring : Nat) (h : Acts w0 v n A) (h1 : 1 ≤ ps) (h8 : ps ≤ 8) (h2 : 2 ≤ ring) (h32 : ring ≤ 32) (hf : (fewB n 120 fun i => (A i).af.length) = true) : Calls Try.prog 3 #[vi ps, vi ring, v] w0 (TrueB w0) := by
  obtain ⟨ao, cap, rfl⟩ := h.len
  have hsm := h.small
  unfold maxLen at hsm
  have hn120 := (fewB_yes hf).1
  have HF : Hid (∀ w', Below w0.heap.size w0 w' → Calls Try.prog 5 #[.slice ao n cap, vi 120] w' fun e w'' => e = .returned (.bool true) ∧ w' = w'') := Lib.hid fun w' hb => by
    have := few19 h hb 120 (by omega)
    rw [hf] at this
    exact this
  have HM : Hid (∀ w', Calls Try.prog 6 #[vi ps, vi ring] w' fun e w'' => e = .returned (.bool true) ∧ w' = w'') := Lib.hid fun w' => by
    have := may_19 ps ring w'
    rw [show may19 ps ring = true by unfold may19; rw [decide_eq_true_eq]; omega] at this
    exact this
  have HN := Lib.hid (pl_new ps ring h1 h8 h2 h32 (Sat.start w0))
  clear hf
  go_enter Try.func3, Try.ntmps3
  go_wp2_with (first
    | (go_at_call 4; refine HN.out.mono ?_; rintro e w1 ⟨D, hdn, hdm, rfl, hS⟩; have HO := Lib.hid (show D.Ok from ⟨by omega, by omega, by omega, by omega⟩); have H1 := Lib.hid hS; clear hS hdn hdm)
    | (go_at_call 5; refine (HF.out _ H1.out.below).mono ?_; rintro e w' ⟨rfl, rfl⟩)
    | (go_at_call 6; refine (HM.out _).mono ?_; rintro e w' ⟨rfl, rfl⟩)
    | (at_make; refine wpList_make_sl Einton rfl _ _ rfl .i64 .i64 31 31 31 31 rfl rfl rfl rfl (by omega) (by omega) (by omega) H1.out ?_; intro gt w2 hM; rw [madeCells_int] at hM; have hM2 := hM.slI (n := 31) (cap := 31) (size := 1) (xs := (thN 31 (allP (fun _ => pl0) D.n [])).map vi) (Nat.le_refl _) (by unfold maxLen; omega) (by simp) (by rw [Nat.mul_one, List.take_of_length_le (by simp), all_zero, thN_zero]); have H2 := Lib.hid hM2; clear hM hM2))
  go_loopw [10] (fun i wy => ∃ (k : Nat) (p : Nat → Pl) (gx : List Int), k ≤ n ∧ i = vi k ∧ Hid (Good30 (allP p D.n gx)) ∧ gx.length ≤ k * 2000 ∧ Sat w0 (sl 3 1 (.slice (some ⟨gt, 0, none⟩) 31 31) 31 ((thN 31 (allP p D.n gx)).map vi) * (plB D p gx * emp)) wy) (fun i _ => n - (intOf i).toNat)
  case atStart => exact ⟨0, fun _ => pl0, [], Nat.zero_le _, rfl, Lib.hid (by rw [all_zero]; exact ⟨List.nodup_nil, by simp⟩), by simp, H2.out⟩
  case round =>
    clear H1 H2 HF HM HN
    obtain ⟨i, p, gx, hi, rfl, HGD, hgl, hS⟩ := hrel
    by_cases hlt : i < n
    · have hii : (i : Int) < (n : Int) := by omega
      obtain ⟨bx, off, rfl, c0, c1, c2, c3, c4, c5⟩ := h.at_ hS.below i hlt
      obtain ⟨a5, p5, hv5⟩ := ((h.aff i hlt).1 _ hS.below).1.len
      have hA : Hid (∀ w', Sat w0 emp w' → RdA w' (.slice a5 (A i).af.length p5) (A i).af) := Lib.hid fun w' h' => hv5 ▸ (h.aff i hlt).1 w' h'.below
      have hset := h.set i hlt
      rw [hv5] at c5
      generalize (A i).k = kd at *
      generalize (A i).g = g at *
      generalize (A i).p = pp at *
      generalize (A i).n = nn at *
      generalize (A i).set = st at *
      generalize (A i).af = al at *
      have hB : Sat w0 (pc wr.heap.size 33 [vi kd, vi g, vi pp, vi nn, .int .u8 st, .slice a5 al.length p5] * (sl 3 1 (.slice (some ⟨gt, 0, none⟩) 31 31) 31 ((thN 31 (allP p D.n gx)).map vi) * (plB D p gx * emp))) (wr.alloc (.cells #[vi kd, vi g, vi pp, vi nn, .int .u8 st, .slice a5 al.length p5] 33)) := hS.alloc _
      have H3 := Lib.hid hB
      have d0 := hB.cell 0 rfl
      have d1 := hB.cell 1 rfl
      have d2 := hB.cell 2 rfl
      have d3 := hB.cell 3 rfl
      have d4 := hB.cell 4 rfl
      have d5 := hB.cell 5 rfl
      clear hB hv5 hS
      generalize al.length = ln at *
      by_cases hg0 : g < 0
      · go_wp2_with fail
        go_roundw
        case rel => exact ⟨i + 1, p, gx, by omega, by go_num, HGD, by omega, H3.out.dropL⟩
        case measure => simp [intOf]; omega
      · by_cases hg30 : 30 < g
        · go_wp2_with fail
          go_roundw
          case rel => exact ⟨i + 1, p, gx, by omega, by go_num, HGD, by omega, H3.out.dropL⟩
          case measure => simp [intOf]; omega
        · obtain ⟨gN, rfl⟩ := Int.eq_ofNat_of_zero_le (show 0 ≤ g by omega)
          have hgN3 : (gN : Int) < 31 := by omega
          have hgN2 : gN < 31 := by omega
          have ct := H3.out.pull2.slCell gN (u := vi (ind (allP p D.n gx) gN)) (by rw [List.getElem?_map, thN_at _ (by omega)]; rfl)
          have cf := H3.out.pull2.slFree gN
          go_upto_block 2 with fail
          go_cut [12, 13] (fun vg vs wx => ∃ (g' : Int) (is : Bool) (p' : Nat → Pl) (gx' : List Int), vg = vi g' ∧ vs = .bool is ∧ Hid (Good30 (allP p' D.n gx' ++ if is = true then [g'] else [])) ∧ gx'.length ≤ i * 2000 + 1000 ∧ Sat w0 (sl 3 1 (.slice (some ⟨gt, 0, none⟩) 31 31) 31 ((thN 31 (allP p' D.n gx' ++ if is = true then [g'] else [])).map vi) * (plB D p' gx' * emp)) wx)
          case rest =>
            obtain ⟨g', is, p', gx', rfl, rfl, hG, hgl', hS9⟩ := hcut
            as_aux_lemma =>
              have HGL' := Lib.hid hgl'
              have hgl2 : gx'.length ≤ 250000 := by omega
              have hxl : ∀ j, j < D.n → (p' j).xs.length ≤ 32 := fun j hj => by
                have h1 := (pl_ring (hS9.pull2) hj).1
                have h2 := HO.out.m32
                omega
              have HXL := Lib.hid hxl
              have HDN := Lib.hid (show D.n ≠ 0 by have := HO.out.n1; omega)
              have hd8 : D.n ≤ 8 := HO.out.n8
              clear hxl
              have HGP : Hid (Good30 (allP p' D.n gx')) := Lib.hid (by
                have h1 := hG.out
                cases is
                · simpa using h1
                · rw [if_pos rfl] at h1
                  exact ⟨(List.nodup_append.1 h1.1).1, fun x hx => h1.2 x (List.mem_append_left _ hx)⟩)
              clear ct cf
              go_upto_if 182 with fail
              go_cut [] (fun wx => Sat w0 (sl 3 1 (.slice (some ⟨gt, 0, none⟩) 31 31) 31 ((thN 31 (allP p' D.n gx')).map vi) * (plB D p' gx' * emp)) wx)
              case rest =>
                have HV := Lib.hid hcut
                have HG := HGP
                clear hS9 hG hcut HGP
                go_wp2_with (go_at_call 17; refine (pl_view (F := sl 3 1 (.slice (some ⟨gt, 0, none⟩) 31 31) 31 ((thN 31 (allP p' D.n gx')).map vi) * emp) (HV.out.pull2) HO.out (by omega)).mono ?_; rintro e w10 ⟨v1, v2, v3, v4, v5, v6, rv, rfl, hS10⟩; have hfl := lay_flat hS10; obtain ⟨a1, q1, rfl⟩ := hfl.rd.len; obtain ⟨a2, q2, rfl⟩ := hfl.dropL.rd.len; obtain ⟨a3, q3, rfl⟩ := hfl.dropL.dropL.rd.len; obtain ⟨a4, q4, rfl⟩ := hfl.dropL.dropL.dropL.dropL.rd.len; obtain ⟨a6, q6, rfl⟩ := hfl.dropL.dropL.dropL.dropL.dropL.rd.len; obtain ⟨a7, q7, rfl⟩ := hfl.dropL.dropL.dropL.dropL.dropL.dropL.rd.len; have h11 : Sat w0 (pc w10.heap.size 48 [.slice a1 D.n q1, .slice a2 D.n q2, .slice a3 D.n q3, .slice a4 D.n q4, .slice a6 D.n q6, .slice a7 gx'.length q7] * (layB D.n p' gx' (.slice a1 D.n q1) (.slice a2 D.n q2) (.slice a3 D.n q3) (.slice a4 D.n q4) (.slice a6 D.n q6) (.slice a7 gx'.length q7) rv * (plB D p' gx' * (sl 3 1 (.slice (some ⟨gt, 0, none⟩) 31 31) 31 ((thN 31 (allP p' D.n gx')).map vi) * emp)))) (w10.alloc (.cells #[.slice a1 D.n q1, .slice a2 D.n q2, .slice a3 D.n q3, .slice a4 D.n q4, .slice a6 D.n q6, .slice a7 gx'.length q7] 48)) := hS10.alloc _; have H11 := Lib.hid h11; clear hS10 hfl h11)
                go_loopw [15] (fun x wy => ∃ j : Nat, j ≤ 31 ∧ x = vi j ∧ Sat w0 (pc w10.heap.size 48 [.slice a1 D.n q1, .slice a2 D.n q2, .slice a3 D.n q3, .slice a4 D.n q4, .slice a6 D.n q6, .slice a7 gx'.length q7] * (layB D.n p' gx' (.slice a1 D.n q1) (.slice a2 D.n q2) (.slice a3 D.n q3) (.slice a4 D.n q4) (.slice a6 D.n q6) (.slice a7 gx'.length q7) rv * (plB D p' gx' * (sl 3 1 (.slice (some ⟨gt, 0, none⟩) 31 31) 31 ((thN 31 (allP p' D.n gx')).map vi) * emp)))) wy) (fun x _ => 31 - (intOf x).toNat)
                case atStart => exact ⟨0, by omega, rfl, H11.out⟩
                case round =>
                  obtain ⟨j, hj, rfl, hS⟩ := hrel
                  by_cases hj31 : j < 31
                  · have hji : (j : Int) < 31 := by omega
                    have y0 := hS.cell 0 rfl
                    have y1 := hS.cell 1 rfl
                    have y2 := hS.cell 2 rfl
                    have y3 := hS.cell 3 rfl
                    have y4 := hS.cell 4 rfl
                    have y5 := hS.cell 5 rfl
                    have yt := hS.pull4.slCell j (u := vi (ind (allP p' D.n gx') j)) (by rw [List.getElem?_map, thN_at _ hj31]; rfl)
                    have hcv : ((cntV p' D.n gx' (j : Int) : Nat) : Int) = ind (allP p' D.n gx') j := by
                      rw [cntV_count _ _ _ (by omega)]
                      exact ind_count HG.out.1 j
                    have hcc := count_ (F := pc w10.heap.size 48 [.slice a1 D.n q1, .slice a2 D.n q2, .slice a3 D.n q3, .slice a4 D.n q4, .slice a6 D.n q6, .slice a7 gx'.length q7] * (plB D p' gx' * (sl 3 1 (.slice (some ⟨gt, 0, none⟩) 31 31) 31 ((thN 31 (allP p' D.n gx')).map vi) * emp))) ((hS.drew).pull2) HDN.out hd8 HXL.out (by omega) (j : Int)
                    rw [hcv] at hcc
                    obtain ⟨t, ht⟩ : ∃ t, (ind (allP p' D.n gx') j == 1) = t := ⟨_, rfl⟩
                    have hw1 : ((whereV p' D.n gx' (j : Int)).1 != 0) = t := by
                      rw [← ht, Bool.eq_iff_iff]
                      have hm := where_mem p' D.n gx' (j : Int)
                      simp only [bne_iff_ne, ne_eq, beq_iff_eq]
                      rw [show ¬(whereV p' D.n gx' (j : Int)).1 = 0 ↔ _ from hm]
                      unfold ind
                      split <;> simp_all
                    have hww : ∀ w', Sat w0 (layB D.n p' gx' (.slice a1 D.n q1) (.slice a2 D.n q2) (.slice a3 D.n q3) (.slice a4 D.n q4) (.slice a6 D.n q6) (.slice a7 gx'.length q7) rv * (pc w10.heap.size 48 [.slice a1 D.n q1, .slice a2 D.n q2, .slice a3 D.n q3, .slice a4 D.n q4, .slice a6 D.n q6, .slice a7 gx'.length q7] * (plB D p' gx' * (sl 3 1 (.slice (some ⟨gt, 0, none⟩) 31 31) 31 ((thN 31 (allP p' D.n gx')).map vi) * emp)))) w' → Calls Try.prog 19 #[vp D.s, vi j] w' fun e w'' => ∃ a b, (a != 0) = t ∧ e = .returned (.agg #[vi a, vi b]) ∧ Sat w0 (pc w10.heap.size 48 [.slice a1 D.n q1, .slice a2 D.n q2, .slice a3 D.n q3, .slice a4 D.n q4, .slice a6 D.n q6, .slice a7 gx'.length q7] * (layB D.n p' gx' (.slice a1 D.n q1) (.slice a2 D.n q2) (.slice a3 D.n q3) (.slice a4 D.n q4) (.slice a6 D.n q6) (.slice a7 gx'.length q7) rv * (plB D p' gx' * (sl 3 1 (.slice (some ⟨gt, 0, none⟩) 31 31) 31 ((thN 31 (allP p' D.n gx')).map vi) * emp)))) w'' := fun w' h' =>
                      (pl_where (F := layB D.n p' gx' (.slice a1 D.n q1) (.slice a2 D.n q2) (.slice a3 D.n q3) (.slice a4 D.n q4) (.slice a6 D.n q6) (.slice a7 gx'.length q7) rv * (pc w10.heap.size 48 [.slice a1 D.n q1, .slice a2 D.n q2, .slice a3 D.n q3, .slice a4 D.n q4, .slice a6 D.n q6, .slice a7 gx'.length q7] * (sl 3 1 (.slice (some ⟨gt, 0, none⟩) 31 31) 31 ((thN 31 (allP p' D.n gx')).map vi) * emp))) (h'.cast (by ac_rfl)) HO.out (j : Int) (by omega)).mono fun e w'' hh => ⟨_, _, hw1, hh.1, hh.2.cast (by ac_rfl)⟩
                    have HCC := Lib.hid hcc
                    have HWW := Lib.hid hww
                    have HS := Lib.hid hS
                    have hxt : ((thN 31 (allP p' D.n gx')).map vi)[j]? = some (vi (ind (allP p' D.n gx') j)) := by rw [List.getElem?_map, thN_at _ hj31]; rfl
                    obtain ⟨x, hx⟩ : ∃ x, ind (allP p' D.n gx') j = x := ⟨_, rfl⟩
                    rw [hx] at hxt yt ht HCC
                    have HXT := Lib.hid hxt
                    clear hx hxt
                    have hxx : (x != x) = false := by simp
                    have hfd : ∀ (a b : Int) (w : World), (Instr.field 53 (.agg #[vi a, vi b]) 0).run Try.prog w = .ok (vi a) w := fun _ _ _ => rfl
                    clear hS hcv hcc hww hw1
                    cases t
                    all_goals
                      go_wp2
                      go_region_held3 (fun w' => w'.cell? ⟨w10.heap.size, 0, none⟩ = some (.slice a1 D.n q1) ∧ w'.cell? ⟨w10.heap.size, 1, none⟩ = some (.slice a2 D.n q2) ∧ w'.cell? ⟨w10.heap.size, 2, none⟩ = some (.slice a3 D.n q3) ∧ w'.cell? ⟨w10.heap.size, 3, none⟩ = some (.slice a4 D.n q4) ∧ w'.cell? ⟨w10.heap.size, 4, none⟩ = some (.slice a6 D.n q6) ∧ w'.cell? ⟨w10.heap.size, 5, none⟩ = some (.slice a7 gx'.length q7) ∧ w'.cell? ⟨gt, j, none⟩ = some (vi x))
                        (first | (with_reducible exact ⟨k0, k1, k2, k3, k4, k5, kt⟩) | (with_reducible exact ⟨m0, m1, m2, m3, m4, m5, mt⟩) | exact ⟨y0, y1, y2, y3, y4, y5, yt⟩)
                        (first
                          | (go_at_call 18; refine HCC.out.mono ?_; rintro e w12 ⟨rfl, hS12⟩; have m0 := hS12.pull2.cell 0 rfl; have m1 := hS12.pull2.cell 1 rfl; have m2 := hS12.pull2.cell 2 rfl; have m3 := hS12.pull2.cell 3 rfl; have m4 := hS12.pull2.cell 4 rfl; have m5 := hS12.pull2.cell 5 rfl; have mt := hS12.pull4.slCell j (u := vi x) (HXT.out); have HW := Lib.hid (HWW.out _ hS12); clear hS12)
                          | (go_at_call 19; refine HW.out.mono ?_; rintro e w13 ⟨a, b, hab, rfl, hS13⟩; have k0 := hS13.cell 0 rfl; have k1 := hS13.cell 1 rfl; have k2 := hS13.cell 2 rfl; have k3 := hS13.cell 3 rfl; have k4 := hS13.cell 4 rfl; have k5 := hS13.cell 5 rfl; have kt := hS13.pull4.slCell j (u := vi x) (HXT.out); have H13 := Lib.hid hS13; clear hS13))
                      all_goals go_wp2
                      all_goals go_roundw
                      case rel => exact ⟨j + 1, by omega, by go_num, H13.out⟩
                      case measure => simp [intOf]; omega
                  · obtain rfl : j = 31 := by omega
                    have HS := Lib.hid hS
                    clear hS
                    go_wp2
                    go_roundw
                    case rel => exact ⟨i + 1, p', gx', by omega, by go_num, HG, by omega, (HS.out.dropL.dropL).cast (by ac_rfl)⟩
                    case measure => simp [intOf]; omega
              case first =>
                cases is with
                | false =>
                  rw [show (allP p' D.n gx' ++ if false = true then [g'] else []) = allP p' D.n gx' by simp] at hG hS9
                  have HV := Lib.hid hS9
                  clear hS9 hG
                  go_wp2_with fail
                  go_meet
                  exact HV.out
                | true =>
                  have hgr := hG.out.2 g' (by simp)
                  obtain ⟨gE, rfl⟩ := Int.eq_ofNat_of_zero_le hgr.1
                  have hgE : gE < 31 := by omega
                  have hgE2 : (gE : Int) < 31 := by omega
                  have hgE3 : ¬ (30 : Int) < (gE : Int) := by omega
                  have hgE4 : decide ((30 : Int) < (gE : Int)) = false := decide_eq_false hgE3
                  have hgE5 : decide (30 < gE) = false := decide_eq_false (by omega)
                  have hnm : (gE : Int) ∉ allP p' D.n gx' := by
                    have h1 := hG.out.1
                    rw [if_pos rfl, List.nodup_append] at h1
                    intro hm
                    exact h1.2.2 _ hm _ (by simp) rfl
                  have hG2 : Good30 (allP p' D.n gx') := ⟨(List.nodup_append.1 hG.out.1).1, fun x hx => hG.out.2 x (List.mem_append_left _ hx)⟩
                  rw [if_pos rfl] at hS9
                  have st := hS9.slCell gE (u := vi 1) (by rw [List.getElem?_map, thN_at _ hgE]; simp [ind])
                  have sf := hS9.slFree gE
                  have hs := hS9.slStore gE (by omega) (vi 0)
                  rw [← List.map_set, ← thN_clr (l := allP p' D.n gx' ++ [(gE : Int)]) (l' := allP p' D.n gx') (fun y => by simp [or_comm]) hnm] at hs
                  have HV := Lib.hid hs
                  have HG := Lib.hid hG2
                  clear hS9 hs hG hnm hG2 hgr
                  go_wp2_with fail
                  go_meet
                  exact HV.out
          case first =>
            have HT : Hid (∀ (G : Hp) (w' : World), Sat w0 (plB D p gx * G) w' → True) := Lib.hid fun _ _ _ => trivial
            have hpl := H3.out.cast (show _ = plB D p gx * (pc wr.heap.size 33 [vi kd, vi gN, vi pp, vi nn, .int .u8 st, .slice a5 ln p5] * (sl 3 1 (.slice (some ⟨gt, 0, none⟩) 31 31) 31 ((thN 31 (allP p D.n gx)).map vi) * emp)) by ac_rfl)
            have hkd : kd = 1 ∨ kd = 2 ∨ kd = 4 ∨ kd = 3 ∨ kd = 5 ∨ kd = 7 ∨ kd = 8 ∨ kd = 9 ∨ kd = 10 ∨ (kd ≠ 1 ∧ kd ≠ 2 ∧ kd ≠ 4 ∧ kd ≠ 3 ∧ kd ≠ 5 ∧ kd ≠ 7 ∧ kd ≠ 8 ∧ kd ≠ 9 ∧ kd ≠ 10) := by omega
            have HG0 := Lib.hid (show (0 : Int) ≤ (gN : Int) ∧ (gN : Int) ≤ 30 by omega)
            have hA2 : ∀ w', Sat w0 (pc wr.heap.size 33 [vi kd, vi gN, vi pp, vi nn, .int .u8 st, .slice a5 ln p5] * (sl 3 1 (.slice (some ⟨gt, 0, none⟩) 31 31) 31 ((thN 31 (allP p D.n gx)).map vi) * emp)) w' → RdA w' (.slice a5 ln p5) al := fun w' h' => hA.out w' h'.dropL.dropL
            have hgl1 : gx.length ≤ 250000 := by omega
            rcases hkd with rfl | rfl | rfl | rfl | rfl | rfl | rfl | rfl | rfl | ⟨n1, n2, n4, n3, n5, n7, n8, n9, n10⟩
            · as_aux_lemma =>
                by_cases hmem : (gN : Int) ∈ allP p D.n gx
                · rw [show ind (allP p D.n gx) gN = 1 from if_pos hmem] at ct
                  go_wp2_with fail
                  go_roundw
                  case rel => exact ⟨i + 1, p, gx, by omega, by go_num, HGD, by omega, H3.out.dropL⟩
                  case measure => simp [intOf]; omega
                · rw [show ind (allP p D.n gx) gN = 0 from if_neg hmem] at ct
                  have hst := H3.out.pull2.slStore gN (by omega) (vi 1)
                  rw [← List.map_set, ← thN_set (l := (gN : Int) :: allP p D.n gx) (l' := allP p D.n gx) (fun y => List.mem_cons)] at hst
                  have e0 := hst.pull2.cell 0 rfl
                  have e1 := hst.pull2.cell 1 rfl
                  have e2 := hst.pull2.cell 2 rfl
                  have e3 := hst.pull2.cell 3 rfl
                  have e4 := hst.pull2.cell 4 rfl
                  have HNM := Lib.hid hmem
                  have HST := Lib.hid (hst.cast (show _ = plB D p gx * (pc wr.heap.size 33 [vi 1, vi gN, vi pp, vi nn, .int .u8 st, .slice a5 ln p5] * (sl 3 1 (.slice (some ⟨gt, 0, none⟩) 31 31) 31 ((thN 31 ((gN : Int) :: allP p D.n gx)).map vi) * emp)) by ac_rfl))
                  clear hst hmem
                  have HP := Lib.hid (o_put HST.out HO.out (gN : Int) hset pp nn (by omega))
                  go_wp2_with (go_at_call 8; refine HP.out.mono ?_; rintro e w9 ⟨rfl, p', gx', hp, hl9, hS9⟩; have z0 := hS9.pull2.cell 0 rfl; have H9 := Lib.hid hS9; clear hS9)
                  go_meet
                  have hf := fin_put 0 HGD.out HNM.out HG0.out hp
                  exact ⟨0, false, p', gx', rfl, rfl, Lib.hid hf.1, by omega, by rw [hf.2]; exact (H9.out.pull2.dropL).cast (by ac_rfl)⟩
            · as_aux_lemma =>
                by_cases hmem : (gN : Int) ∈ allP p D.n gx
                · rw [show ind (allP p D.n gx) gN = 1 from if_pos hmem] at ct
                  go_wp2_with fail
                  go_roundw
                  case rel => exact ⟨i + 1, p, gx, by omega, by go_num, HGD, by omega, H3.out.dropL⟩
                  case measure => simp [intOf]; omega
                · rw [show ind (allP p D.n gx) gN = 0 from if_neg hmem] at ct
                  have hst := H3.out.pull2.slStore gN (by omega) (vi 1)
                  rw [← List.map_set, ← thN_set (l := (gN : Int) :: allP p D.n gx) (l' := allP p D.n gx) (fun y => List.mem_cons)] at hst
                  have e0 := hst.pull2.cell 0 rfl
                  have e1 := hst.pull2.cell 1 rfl
                  have e2 := hst.pull2.cell 2 rfl
                  have e3 := hst.pull2.cell 3 rfl
                  have e4 := hst.pull2.cell 4 rfl
                  have HNM := Lib.hid hmem
                  have HST := Lib.hid (hst.cast (show _ = plB D p gx * (pc wr.heap.size 33 [vi 2, vi gN, vi pp, vi nn, .int .u8 st, .slice a5 ln p5] * (sl 3 1 (.slice (some ⟨gt, 0, none⟩) 31 31) 31 ((thN 31 ((gN : Int) :: allP p D.n gx)).map vi) * emp)) by ac_rfl))
                  clear hst hmem
                  have hb2 := HST.out.alloc (.cells #[vi gN] 3)
                  simp only [World.size_setCell, World.size_alloc] at hb2
                  have HP := Lib.hid (pl_back (p := p) (gx := gx) (ys := [(gN : Int)]) (F := pc (wr.heap.size + 1) 3 [vi gN] * (pc wr.heap.size 33 [vi 2, vi gN, vi pp, vi nn, .int .u8 st, .slice a5 ln p5] * (sl 3 1 (.slice (some ⟨gt, 0, none⟩) 31 31) 31 ((thN 31 ((gN : Int) :: allP p D.n gx)).map vi) * emp))) (hb2.cast (show _ = plB D p gx * (pc (wr.heap.size + 1) 3 [vi gN] * (pc wr.heap.size 33 [vi 2, vi gN, vi pp, vi nn, .int .u8 st, .slice a5 ln p5] * (sl 3 1 (.slice (some ⟨gt, 0, none⟩) 31 31) 31 ((thN 31 ((gN : Int) :: allP p D.n gx)).map vi) * emp))) by show pc (wr.heap.size + 1) 3 [vi gN] * _ = _; ac_rfl)) HO.out (fun w' h' => rdI_pc h') (by simp; omega))
                  clear hb2
                  go_wp2_with (go_at_call 9; refine HP.out.mono ?_; rintro e w9 ⟨rfl, hS9⟩; have z0 := hS9.pull3.cell 0 rfl; have H9 := Lib.hid hS9.drop2; clear hS9)
                  go_meet
                  have hf := fin_put (l' := allP p D.n (gx ++ [(gN : Int)])) 0 HGD.out HNM.out HG0.out (by unfold allP; rw [List.append_assoc])
                  exact ⟨0, false, p, (gx ++ [(gN : Int)]), rfl, rfl, Lib.hid hf.1, by simp; omega, by rw [hf.2]; exact (H9.out.pull2.dropL).cast (by ac_rfl)⟩
            · as_aux_lemma =>
                by_cases hmem : (gN : Int) ∈ allP p D.n gx
                · rw [show ind (allP p D.n gx) gN = 1 from if_pos hmem] at ct
                  go_wp2_with fail
                  go_roundw
                  case rel => exact ⟨i + 1, p, gx, by omega, by go_num, HGD, by omega, H3.out.dropL⟩
                  case measure => simp [intOf]; omega
                · rw [show ind (allP p D.n gx) gN = 0 from if_neg hmem] at ct
                  have hst := H3.out.pull2.slStore gN (by omega) (vi 1)
                  rw [← List.map_set, ← thN_set (l := (gN : Int) :: allP p D.n gx) (l' := allP p D.n gx) (fun y => List.mem_cons)] at hst
                  have e0 := hst.pull2.cell 0 rfl
                  have e1 := hst.pull2.cell 1 rfl
                  have e2 := hst.pull2.cell 2 rfl
                  have e3 := hst.pull2.cell 3 rfl
                  have e4 := hst.pull2.cell 4 rfl
                  have HNM := Lib.hid hmem
                  have HST := Lib.hid (hst.cast (show _ = plB D p gx * (pc wr.heap.size 33 [vi 4, vi gN, vi pp, vi nn, .int .u8 st, .slice a5 ln p5] * (sl 3 1 (.slice (some ⟨gt, 0, none⟩) 31 31) 31 ((thN 31 ((gN : Int) :: allP p D.n gx)).map vi) * emp)) by ac_rfl))
                  clear hst hmem
                  have HP := Lib.hid (o_start HST.out HO.out pp (gN : Int) nn)
                  go_wp2_with (go_at_call 10; refine HP.out.mono ?_; rintro e w9 ⟨c, p', rfl, hc, hS9⟩; have z0 := hS9.pull2.cell 0 rfl; have z1 := hS9.pull2.cell 1 rfl; have zt := hS9.pull3.slCell gN (u := vi 1) (by rw [List.getElem?_map, thN_at _ (by omega)]; simp [ind]); have zf := hS9.pull3.slFree gN; have H9 := Lib.hid hS9; clear hS9)
                  · go_meet
                    rename_i hcn
                    have hpp : p' = p := by
                      rcases hc with ⟨hc, _⟩ | ⟨_, hpp⟩
                      · simp [bne, hc] at hcn
                      · exact hpp
                    have hs := H9.out.pull3.slStore gN (by omega) (vi 0)
                    rw [← List.map_set, ← thN_clr (l := (gN : Int) :: allP p D.n gx) (l' := allP p D.n gx) (fun y => List.mem_cons) HNM.out, hpp] at hs
                    have hf := fin_none 0 HGD.out (List.Perm.refl _)
                    exact ⟨0, false, p, gx, rfl, rfl, Lib.hid hf.1, by omega, by rw [hf.2]; exact (hs.cast (show _ = pc wr.heap.size 33 [vi 4, vi gN, vi pp, vi nn, .int .u8 st, .slice a5 ln p5] * (sl 3 1 (.slice (some ⟨gt, 0, none⟩) 31 31) 31 ((thN 31 (allP p D.n gx)).map vi) * (plB D p gx * emp)) by ac_rfl)).dropL⟩
                  · go_meet
                    rename_i hcn
                    have hp : (allP p' D.n gx).Perm (allP p D.n gx ++ [(gN : Int)]) := by
                      rcases hc with ⟨_, hp⟩ | ⟨hc, _⟩
                      · exact hp
                      · simp [bne, hc] at hcn
                    have hf := fin_put 0 HGD.out HNM.out HG0.out hp
                    exact ⟨0, false, p', gx, rfl, rfl, Lib.hid hf.1, by omega, by rw [hf.2]; exact (H9.out.pull2.dropL).cast (by ac_rfl)⟩
            · as_aux_lemma =>
                have HP := Lib.hid (o_remove hpl.drew HO.out (gN : Int) (by omega))
                clear ct cf
                go_wp2_with fail
                go_region_held3 (fun w' => w'.cell? ⟨wr.heap.size, 1, none⟩ = some (vi gN)) (first | (with_reducible exact z1) | exact d1) ((go_at_call 11; refine HP.out.mono ?_; rintro e w9 ⟨p', gx', t, rfl, hp, hl9, hS9⟩; have z1 := hS9.pull2.cell 1 rfl; have H9 := Lib.hid hS9; clear hS9))
                all_goals go_wp2_with fail
                all_goals go_meet
                all_goals have hf := fin_take HGD.out hp
                all_goals exact ⟨(gN : Int), t, p', gx', rfl, rfl, Lib.hid hf.1, by omega, by rw [hf.2]; exact (H9.out.pull2.dropL).cast (by ac_rfl)⟩
            · as_aux_lemma =>
                have HP := Lib.hid (o_stop hpl pp)
                clear ct cf
                go_wp2_with (go_at_call 12; refine HP.out.mono ?_; rintro e w9 ⟨p', x, t, rfl, hp, hS9⟩; have H9 := Lib.hid hS9; clear hS9)
                go_meet
                have hf := fin_take HGD.out hp
                exact ⟨x, t, p', gx, rfl, rfl, Lib.hid hf.1, by omega, by rw [hf.2]; exact (H9.out.pull2.dropL).cast (by ac_rfl)⟩
            · as_aux_lemma =>
                have HP := Lib.hid (o_own hpl HO.out pp (by omega))
                clear ct cf
                go_wp2_with (go_at_call 13; refine HP.out.mono ?_; rintro e w9 ⟨p', gx', x, nx, t, rfl, hp, hl9, hS9⟩; have H9 := Lib.hid hS9; clear hS9)
                go_meet
                have hf := fin_take HGD.out hp
                exact ⟨x, t, p', gx', rfl, rfl, Lib.hid hf.1, by omega, by rw [hf.2]; exact (H9.out.pull2.dropL).cast (by ac_rfl)⟩
            · as_aux_lemma =>
                have HP := Lib.hid (o_shared hpl pp (by omega) hA2)
                clear ct cf
                go_wp2_with (go_at_call 14; refine HP.out.mono ?_; rintro e w9 ⟨gx', x, t, rfl, hp, hl9, hS9⟩; have H9 := Lib.hid hS9; clear hS9)
                go_meet
                have hf := fin_take HGD.out hp
                exact ⟨x, t, p, gx', rfl, rfl, Lib.hid hf.1, by omega, by rw [hf.2]; exact (H9.out.pull2.dropL).cast (by ac_rfl)⟩
            · as_aux_lemma =>
                have HP := Lib.hid (o_steal hpl HO.out pp nn (by omega) hA2)
                clear ct cf
                go_wp2_with (go_at_call 15; refine HP.out.mono ?_; rintro e w9 ⟨p', gx', x, t, rfl, hp, hl9, hS9⟩; have H9 := Lib.hid hS9; clear hS9)
                go_meet
                have hf := fin_take HGD.out hp
                exact ⟨x, t, p', gx', rfl, rfl, Lib.hid hf.1, by omega, by rw [hf.2]; exact (H9.out.pull2.dropL).cast (by ac_rfl)⟩
            · as_aux_lemma =>
                have HP := Lib.hid (o_kick hpl HO.out pp (by omega))
                clear ct cf
                go_wp2_with (go_at_call 16; refine HP.out.mono ?_; rintro e w9 ⟨rfl, p', gx', hp, hl9, hS9⟩; have H9 := Lib.hid hS9; clear hS9)
                go_meet
                have hf := fin_none 0 HGD.out hp
                exact ⟨0, false, p', gx', rfl, rfl, Lib.hid hf.1, by omega, by rw [hf.2]; exact (H9.out.pull2.dropL).cast (by ac_rfl)⟩
            · as_aux_lemma =>
                have q1 : (kd == 1) = false := by simpa using n1
                have q2 : (kd == 2) = false := by simpa using n2
                have q4 : (kd == 4) = false := by simpa using n4
                have q3 : (kd == 3) = false := by simpa using n3
                have q5 : (kd == 5) = false := by simpa using n5
                have q7 : (kd == 7) = false := by simpa using n7
                have q8 : (kd == 8) = false := by simpa using n8
                have q9 : (kd == 9) = false := by simpa using n9
                have q10 : (kd == 10) = false := by simpa using n10
                have H9 := Lib.hid hpl
                clear ct cf n1 n2 n4 n3 n5 n7 n8 n9 n10
                go_wp2_with fail
                go_meet
                have hf := fin_none 0 HGD.out (List.Perm.refl _)
                exact ⟨0, false, p, gx, rfl, rfl, Lib.hid hf.1, by omega, by rw [hf.2]; exact (H9.out.pull2.dropL).cast (by ac_rfl)⟩
    · obtain rfl : i = n := by omega
      have H9 := Lib.hid hS
      clear hS
      go_wp2_with (go_at_call 7; refine (known19 _).mono ?_; rintro e w3 ⟨rfl, hb⟩)
      go_ret
      exact ⟨rfl, H9.out.below.trans (hb.mono H9.out.below.size)⟩
end
end Go.Proofs.Ytjgemfgneiaabaa.Pc
