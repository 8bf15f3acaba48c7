/-
  Law 10: QuotaHolds, the walk. No statement is proved here.
-/
import Derived.Test.YtfioghpnehfjhaaQy3b
namespace Go.Proofs.Ytfioghpnehfjhaa.Dm
open Go.RowKit Ad
set_option linter.unusedVariables false

set_option maxRecDepth 100000 in
set_option maxHeartbeats 8000000 in
theorem holds_walk (w0 : World) (cpu per : Int) (hc : 0 ≤ cpu) (v : Value) (len : Nat) (A : Nat → Int) (hA : ArgK w0 4 kC v len A) (v2 : Value) (len2 : Nat) (A2 : Nat → Value) (hA2 : ArgS w0 1 (fun _ => IsInts w0 .i64) v2 len2 A2) :
    Calls Try.prog 4 #[vu cpu, vu per, v, v2] w0 (QTrue w0) := by
  have hv : ∃ ao cap, v2 = .slice ao len2 cap := by
    rcases hA2.form with ⟨rfl, ao, cap, rfl⟩ | ⟨b, off, cap, rfl, _⟩
    · exact ⟨_, _, rfl⟩
    · exact ⟨_, _, rfl⟩
  obtain ⟨ao, cap, rfl⟩ := hv
  have HMd := Lib.hid (made_ (Sat.start w0) cpu per hc v len A hA)
  have HA := Lib.hid hA2
  clear hA hA2
  go_enter Try.func4, Try.ntmps4
  go_wp2_with fail
  refine HMd.out.mono ?_
  rintro e w1 (⟨rfl, hS⟩ | ⟨d, p, q, vR, ps, m, hi, rfl, hS⟩)
  · have H1 := Lib.hid hS
    clear hS
    go_wp2_with (go_at_call 10; refine (known10 H1.out).mono ?_; rintro e w9 ⟨rfl, hS9⟩; have H9 := Lib.hid hS9; clear hS9)
    go_ret
    exact ⟨rfl, H9.out.below⟩
  · have hpos := hi.pos
    have hmle := hi.le
    obtain ⟨cn, hcn⟩ := hi.cn
    rw [← hi.wu0] at hS
    have H1 := Lib.hid hS
    have HI := Lib.hid hi
    have HCn := Lib.hid hcn
    obtain ⟨gro, rcap, rfl⟩ := hS.pull3.rd.len
    obtain ⟨gr, rfl⟩ : ∃ gr, gro = some ⟨gr, 0, none⟩ := by
      rcases hS.pull3.slE.2 with ⟨_, h0, _⟩ | ⟨g', c', cur, hv, _⟩
      · omega
      · injection hv with h1 h2 h3
        exact ⟨g', h1⟩
    clear hS hi hcn
    generalize newF 32 (32 - m) = fr at *
    by_cases hl : 60 < len2
    · have hli : (60 : Int) < (len2 : Int) := by omega
      go_wp2_with (go_at_call 10; refine (known10 H1.out).mono ?_; rintro e w9 ⟨rfl, hS9⟩; have H9 := Lib.hid hS9; clear hS9)
      go_ret
      exact ⟨rfl, H9.out.below⟩
    · have hli : ¬ (60 : Int) < (len2 : Int) := by omega
      go_wp2_with (at_make; refine wpList_make_sl Eu64 rfl _ _ rfl .i64 .i64 m m m m rfl rfl rfl rfl (by omega) (by omega) (by omega) H1.out ?_; intro gw w2 hM; have HM := Lib.hid hM; clear hM)
      have h0 : Sat w0 (sl 32 2 (.slice (some ⟨gr, 0, none⟩) m rcap) m (frefs (refsL m)) * (sl 22 1 (.slice (some ⟨gw, 0, none⟩) m m) m (usL (fun _ => 0) m) * (domB d p * (tblP p (wu ps (fun _ => 0)) fr * emp)))) w2 := by
        have h5 := HM.out
        rw [flat_made (f := fun x : Int => [vu x]) (N := 1) (fun _ => rfl) (by omega) (vu 0) 0 rfl m] at h5
        have hl2 : (List.replicate m (0 : Int)).flatMap (fun x : Int => [vu x]) = List.replicate m (vu 0) := by
          rw [← List.map_eq_flatMap, List.map_replicate]
        rw [hl2] at h5
        have h6 := h5.slI (n := m) (cap := m) (size := 1) (xs := List.replicate m (vu 0)) (Nat.le_refl _) (by unfold maxLen; omega) (by simp) (List.take_of_length_le (by simp))
        have e : usL (fun _ => 0) m = List.replicate m (vu 0) := by unfold usL; rw [List.map_const']; simp
        rw [e]
        exact h6.cast (by ac_rfl)
      have H0 := Lib.hid h0
      clear h0 HM H1
      go_loopw [14] (fun ix wr => ∃ (k : Nat) (u : Nat → Int), k ≤ len2 ∧ ix = vi (k + 1) ∧ HoldOk ps m u ∧ Sat w0 (sl 32 2 (.slice (some ⟨gr, 0, none⟩) m rcap) m (frefs (refsL m)) * (sl 22 1 (.slice (some ⟨gw, 0, none⟩) m m) m (usL u m) * (domB d p * (tblP p (wu ps u) fr * emp)))) wr) (fun ix _ => len2 + 1 - (intOf ix).toNat)
      case atStart => exact ⟨0, fun _ => 0, Nat.zero_le _, rfl, HoldOk.zero HI.out, H0.out⟩
      case round =>
        obtain ⟨k, u, hk, rfl, hu, hS⟩ := hrel
        have HU := Lib.hid hu
        clear hu
        by_cases hlt : k < len2
        · have hki : (k : Int) + 1 ≤ (len2 : Int) := by omega
          have hwk : IntKind.u64.wrap ((k : Int) + 1) = (k : Int) + 1 := by rw [IntKind.wrap_u64]; omega
          have HR := Lib.hid (w_reset HI.out ((k : Int) + 1) u (hS.cast (show _ = domB d p * (tblP p (wu ps u) fr * (sl 32 2 (.slice (some ⟨gr, 0, none⟩) m rcap) m (frefs (refsL m)) * (sl 22 1 (.slice (some ⟨gw, 0, none⟩) m m) m (usL u m) * emp))) by ac_rfl)))
          clear hS
          generalize hu2 : rsU ps m ((k : Int) + 1) u = u' at *
          have HU2 := Lib.hid hu2
          clear hu2
          go_wp2_with (go_at_call 15; refine HR.out.mono ?_; rintro e w3 ⟨⟨v3, rfl⟩, hS3⟩; have H3 := Lib.hid (hS3.cast (show _ = (sl 32 2 (.slice (some ⟨gr, 0, none⟩) m rcap) m (frefs (refsL m)) * (sl 22 1 (.slice (some ⟨gw, 0, none⟩) m m) m (usL u m) * (domB d p * (tblP p (wu ps u') fr * emp)))) by ac_rfl)); clear hS3)
          go_loopw [15] (fun ix wr => ∃ i : Nat, i ≤ m ∧ ix = vi i ∧ Sat w0 (sl 32 2 (.slice (some ⟨gr, 0, none⟩) m rcap) m (frefs (refsL m)) * (sl 22 1 (.slice (some ⟨gw, 0, none⟩) m m) m (usL (mixU i u' u) m) * (domB d p * (tblP p (wu ps u') fr * emp)))) wr) (fun ix _ => m - (intOf ix).toNat)
          case atStart => exact ⟨0, Nat.zero_le _, rfl, by rw [mixU_0]; exact H3.out⟩
          case round =>
            obtain ⟨i, hile, rfl, hS⟩ := hrel
            by_cases hi2 : i < m
            · have hii : (i : Int) < (m : Int) := by omega
              have g0 := hS.slCell _ (frefs_at (refsL_at hi2)).1
              have g1 := hS.slCell _ (frefs_at (refsL_at hi2)).2
              dsimp only at g0 g1
              have hru := rsU_at (ps := ps) hi2 ((k : Int) + 1) u
              rw [HU2.out] at hru
              obtain ⟨v0, v1, v2, v3, v4, v5, v6, v7, v8, v10, h3, h4, h4b, h3b, hG⟩ := w_get2 HI.out u' hi2 (hS.cast (show _ = domB d p * (tblP p (wu ps u') fr * (sl 32 2 (.slice (some ⟨gr, 0, none⟩) m rcap) m (frefs (refsL m)) * (sl 22 1 (.slice (some ⟨gw, 0, none⟩) m m) m (usL (mixU i u' u) m) * emp))) by ac_rfl))
              rw [← h4] at hru
              have HG := Lib.hid hG
              have hne4 : ¬ v4 = 0 := by omega
              clear hG hS h3 h4 h3b
              by_cases hz : ((k : Int) + 1).tmod v4 = 0
              · rw [if_pos hz] at hru
                have HRU := Lib.hid hru
                generalize u' i = un at HG
                clear hru
                go_wp2_with (first
                  | (go_at_call 16; refine HG.out.mono ?_; rintro e w4 ⟨rfl, hS4⟩; have hA := hS4.alloc (elO ez); have HTh := Lib.hid (there_ (n := 11) hA rfl); have HA := Lib.hid hA; clear hA hS4) | (refine wpList_store_mid rfl 45 _ _ rfl w4.heap.size 0 (elC ⟨v0, v1, v2, v3, v4, v5, v6, v7, v8, un, v10⟩).toArray (by rfl) (by rfl) HTh.out einfo (all_oneCell_toArray (elOne _)) ?_; have hs := HA.out.stores (elC ⟨v0, v1, v2, v3, v4, v5, v6, v7, v8, un, v10⟩) 0; rw [setL_full (elC ez) (elC ⟨v0, v1, v2, v3, v4, v5, v6, v7, v8, un, v10⟩) rfl] at hs; have HS := Lib.hid hs; have HS : Hid (Sat w0 _ ((w4.alloc (elO ez)).setCells w4.heap.size 0 (elC ⟨v0, v1, v2, v3, v4, v5, v6, v7, v8, un, v10⟩).toArray.toList)) := HS; clear hs; generalize World.setCells _ _ _ _ = w2 at *; have hT4 := HS.out.cast (show _ = elB w4.heap.size ⟨v0, v1, v2, v3, v4, v5, v6, v7, v8, un, v10⟩ * (sl 32 2 (.slice (some ⟨gr, 0, none⟩) m rcap) m (frefs (refsL m)) * (sl 22 1 (.slice (some ⟨gw, 0, none⟩) m m) m (usL (mixU i u' u) m) * (domB d p * (tblP p (wu ps u') fr * emp)))) by unfold elB; ac_rfl); have c4 := hT4.cell 4 rfl; have wc := hT4.pull3.slCell i (usL_at hi2); have wf := hT4.pull3.slFree i; have HT := Lib.hid (hT4.pull3.slStore i (by omega) (vu 0)); clear hT4 HS))
                go_roundw
                case rel =>
                  refine ⟨i + 1, by omega, by go_num, ?_⟩
                  have h9 := HT.out
                  rw [show (usL (mixU i u' u) m).set i (vu 0) = usL (mixU (i + 1) u' u) m by rw [← mixU_set hi2 u' u, HRU.out]] at h9
                  exact (h9.cast (show _ = elB w4.heap.size ⟨v0, v1, v2, v3, v4, v5, v6, v7, v8, un, v10⟩ * (sl 32 2 (.slice (some ⟨gr, 0, none⟩) m rcap) m (frefs (refsL m)) * (sl 22 1 (.slice (some ⟨gw, 0, none⟩) m m) m (usL (mixU (i + 1) u' u) m) * (domB d p * (tblP p (wu ps u') fr * emp)))) by unfold elB; ac_rfl)).dropL
                case measure => (simp [intOf]; try omega)
              · rw [if_neg hz] at hru
                have hzb : (((k : Int) + 1) % v4 == 0) = false := beq_eq_false_iff_ne.2 (by rw [← Int.tmod_eq_emod_of_nonneg (by omega)]; exact hz)
                have HRU := Lib.hid hru
                generalize u' i = un at HG
                clear hru
                go_wp2_with (first
                  | (go_at_call 16; refine HG.out.mono ?_; rintro e w4 ⟨rfl, hS4⟩; have hA := hS4.alloc (elO ez); have HTh := Lib.hid (there_ (n := 11) hA rfl); have HA := Lib.hid hA; clear hA hS4) | (refine wpList_store_mid rfl 45 _ _ rfl w4.heap.size 0 (elC ⟨v0, v1, v2, v3, v4, v5, v6, v7, v8, un, v10⟩).toArray (by rfl) (by rfl) HTh.out einfo (all_oneCell_toArray (elOne _)) ?_; have hs := HA.out.stores (elC ⟨v0, v1, v2, v3, v4, v5, v6, v7, v8, un, v10⟩) 0; rw [setL_full (elC ez) (elC ⟨v0, v1, v2, v3, v4, v5, v6, v7, v8, un, v10⟩) rfl] at hs; have HS := Lib.hid hs; have HS : Hid (Sat w0 _ ((w4.alloc (elO ez)).setCells w4.heap.size 0 (elC ⟨v0, v1, v2, v3, v4, v5, v6, v7, v8, un, v10⟩).toArray.toList)) := HS; clear hs; generalize World.setCells _ _ _ _ = w2 at *; have hT4 := HS.out.cast (show _ = elB w4.heap.size ⟨v0, v1, v2, v3, v4, v5, v6, v7, v8, un, v10⟩ * (sl 32 2 (.slice (some ⟨gr, 0, none⟩) m rcap) m (frefs (refsL m)) * (sl 22 1 (.slice (some ⟨gw, 0, none⟩) m m) m (usL (mixU i u' u) m) * (domB d p * (tblP p (wu ps u') fr * emp)))) by unfold elB; ac_rfl); have c4 := hT4.cell 4 rfl; have HT := Lib.hid hT4; clear hT4 HS))
                go_roundw
                case rel =>
                  refine ⟨i + 1, by omega, by go_num, ?_⟩
                  rw [← mixU_same HRU.out]
                  exact HT.out.dropL
                case measure => (simp [intOf]; try omega)
            · obtain rfl : m = i := by omega
              rw [mixU_m] at hS
              have H4 := Lib.hid hS
              have HUr := Lib.hid (HU2.out ▸ HU.out.reset HI.out ((k : Int) + 1))
              clear hS HR HU
              obtain ⟨b, off, rfl, ao3, n3, cap3, B, hB3, hn3, hca⟩ := a_time HA.out hlt
              have HC := Lib.hid hca
              have HB3 := Lib.hid hB3
              unfold maxLen at hn3
              clear hca hB3
              go_wp2_with fail
              go_loopw [18] (fun ix wr => ∃ (j : Nat) (u : Nat → Int), j ≤ n3 ∧ j ≤ 10 ∧ ix = vi j ∧ HoldOk ps m u ∧ Sat w0 (sl 32 2 (.slice (some ⟨gr, 0, none⟩) m rcap) m (frefs (refsL m)) * (sl 22 1 (.slice (some ⟨gw, 0, none⟩) m m) m (usL u m) * (domB d p * (tblP p (wu ps u) fr * emp)))) wr) (fun ix _ => 10 - (intOf ix).toNat)
              case atStart => exact ⟨0, u', Nat.zero_le _, Nat.zero_le _, rfl, HUr.out, H4.out⟩
              case round =>
                clear HU2 HUr H4 H3
                obtain ⟨j, u, hj1, hj2, rfl, hu, hS⟩ := hrel
                have HU := Lib.hid hu
                clear hu
                have ct := HC.out _ _ hS
                by_cases hj : j < n3 ∧ j < 10
                · have hjn : (j : Int) < (n3 : Int) := by omega
                  have hj10 : (j : Int) < 10 := by omega
                  obtain ⟨b3, off3, rfl, hc3⟩ := HB3.out.resolve_left (by omega)
                  have cx := hc3 _ _ hS j hj.1
                  clear hc3
                  generalize B j = xj at *
                  obtain ⟨idx, hix, hw64⟩ := idx_fact xj m (by omega) (by omega)
                  have hixi : (idx : Int) < (m : Int) := by omega
                  have g0 := hS.slCell _ (frefs_at (refsL_at hix)).1
                  have g1 := hS.slCell _ (frefs_at (refsL_at hix)).2
                  dsimp only at g0 g1
                  have hch := w_charge HI.out HCn.out HU.out.1 hix (hS.cast (show _ = domB d p * (tblP p (wu ps u) fr * (sl 32 2 (.slice (some ⟨gr, 0, none⟩) m rcap) m (frefs (refsL m)) * (sl 22 1 (.slice (some ⟨gw, 0, none⟩) m m) m (usL u m) * emp))) by ac_rfl))
                  have hchD : chD ps cn idx u = if 0 < lf ps u (cn idx) then chU (cn idx) u else u := rfl
                  clear hS
                  by_cases hp : 0 < lf ps u (cn idx)
                  · rw [if_pos hp] at hchD
                    rw [hchD, decide_eq_true hp] at hch
                    have HChg := Lib.hid hch
                    have hcp := HU.out.charge HI.out HCn.out hix hp
                    have HCP := Lib.hid hcp
                    have HCh := Lib.hid (fun (w1 : World) (h1 : Sat w0 (domB d p * (tblP p (wu ps (chU (cn idx) u)) fr * (sl 32 2 (.slice (some ⟨gr, 0, none⟩) m rcap) m (frefs (refsL m)) * (sl 22 1 (.slice (some ⟨gw, 0, none⟩) m m) m (usL u m) * emp)))) w1) => w_chain HI.out HCn.out (chU (cn idx) u) hix h1)
                    have hself := HCn.out.self idx hix
                    have hcle := HCn.out.len hix
                    rw [List.length_map] at hcle
                    have HNd := Lib.hid (HCn.out.nd idx hix)
                    have hcpos : 0 < (cn idx).length := List.length_pos_of_mem hself
                    have HUb : Hid (∀ i, i < m → 0 ≤ u i ∧ u i ≤ 4294967296) := Lib.hid fun i hi => ⟨(HU.out.1 i).1, Int.le_trans (HU.out.2 i hi) (HI.out.v3_le hi).1⟩
                    clear hch hp hchD hcp hself
                    generalize hc0 : cn idx = c at *
                    have HC0 := Lib.hid hc0
                    clear hc0
                    go_wp2_with (first
                      | (go_at_call 11; refine HChg.out.mono ?_; rintro e w5 ⟨rfl, hS5⟩; clear g0 g1; have g0 := hS5.pull3.slCell _ (frefs_at (refsL_at hix)).1; have g1 := hS5.pull3.slCell _ (frefs_at (refsL_at hix)).2; dsimp only at g0 g1; have H5 := Lib.hid hS5; clear hS5)
                      | (go_at_call 17; refine (HCh.out _ H5.out).mono ?_; rintro e w6 ⟨vC, rfl, hS6⟩; obtain ⟨vo6, vc6, rfl⟩ := hS6.rd.len; have H6 := Lib.hid (hS6.cast (show _ = (sl 32 2 (.slice vo6 c.length vc6) c.length (frefs (c.map rf)) * (sl 32 2 (.slice (some ⟨gr, 0, none⟩) m rcap) m (frefs (refsL m)) * (sl 22 1 (.slice (some ⟨gw, 0, none⟩) m m) m (usL u m) * (domB d p * (tblP p (wu ps (chU c u)) fr * emp))))) by ac_rfl)); clear hS6))
                    obtain ⟨gc, rfl⟩ : ∃ g, vo6 = some ⟨g, 0, none⟩ := by
                      rcases H6.out.slE.2 with ⟨_, h0, _⟩ | ⟨g', c', cur, hv, _⟩
                      · omega
                      · injection hv with h1 h2 h3
                        exact ⟨g', h1⟩
                    go_loopw [21] (fun ix wr => ∃ i : Nat, i ≤ m ∧ ix = vi i ∧ Sat w0 (sl 32 2 (.slice (some ⟨gc, 0, none⟩) c.length vc6) c.length (frefs (c.map rf)) * (sl 32 2 (.slice (some ⟨gr, 0, none⟩) m rcap) m (frefs (refsL m)) * (sl 22 1 (.slice (some ⟨gw, 0, none⟩) m m) m (usL (mixU i (chU c u) u) m) * (domB d p * (tblP p (wu ps (chU c u)) fr * emp))))) wr) (fun ix _ => m - (intOf ix).toNat)
                    case atStart => exact ⟨0, Nat.zero_le _, rfl, by rw [mixU_0]; exact H6.out⟩
                    case round =>
                      obtain ⟨i, hile, rfl, hS⟩ := hrel
                      by_cases hi2 : i < m
                      · have hii : (i : Int) < (m : Int) := by omega
                        rw [← hitU_0] at hS
                        have H7 := Lib.hid hS
                        clear hS
                        go_wp2_with fail
                        go_loopw [22] (fun ix wr => ∃ n : Nat, n ≤ c.length ∧ ix = vi n ∧ Sat w0 (sl 32 2 (.slice (some ⟨gc, 0, none⟩) c.length vc6) c.length (frefs (c.map rf)) * (sl 32 2 (.slice (some ⟨gr, 0, none⟩) m rcap) m (frefs (refsL m)) * (sl 22 1 (.slice (some ⟨gw, 0, none⟩) m m) m (usL (hitU c n i u) m) * (domB d p * (tblP p (wu ps (chU c u)) fr * emp))))) wr) (fun ix _ => c.length - (intOf ix).toNat)
                        case atStart => exact ⟨0, Nat.zero_le _, rfl, H7.out⟩
                        case round =>
                          obtain ⟨n, hnle, rfl, hS⟩ := hrel
                          by_cases hn2 : n < c.length
                          · have hni : (n : Int) < (c.length : Int) := by omega
                            obtain ⟨x, hx⟩ : ∃ x, c[n]? = some x := ⟨c[n], List.getElem?_eq_getElem hn2⟩
                            have hx2 : (c.map rf)[n]? = some (rf x) := by rw [List.getElem?_map, hx]; rfl
                            have g0 := hS.pull2.slCell _ (frefs_at (refsL_at hi2)).1
                            have g1 := hS.pull2.slCell _ (frefs_at (refsL_at hi2)).2
                            dsimp only at g0 g1
                            have k0 : wr.cell? ⟨gc, n * 2, none⟩ = some (vi x) := hS.slCell _ (frefs_at hx2).1
                            have k1 : wr.cell? ⟨gc, n * 2 + 1, none⟩ = some (vu 1) := hS.slCell _ (frefs_at hx2).2
                            have HX := Lib.hid hx
                            clear hx hx2
                            by_cases hxi : x = i
                            · subst hxi
                              have hub := HUb.out x hi2
                              have hwr : IntKind.u64.wrap (u x + 1) = u x + 1 := IntWalk.u64_in _ (by omega)
                              have HW := Lib.hid (fun (N : Nat) => (((hS.drewN N).pull3).slStore x (by omega) (vu (u x + 1))))
                              have wc := hS.pull3.slCell x (hitU_at HNd.out HX.out hi2 u)
                              have wf := hS.pull3.slFree x
                              clear hS
                              generalize hux : u x = ux at *
                              have HUx := Lib.hid hux
                              clear hux
                              go_wp2_with fail
                              go_quiet (fail)
                              go_wp2
                              go_roundw
                              case rel =>
                                have h9 : ∀ N : Nat, Sat w0 (sl 32 2 (.slice (some ⟨gc, 0, none⟩) c.length vc6) c.length (frefs (c.map rf)) * (sl 32 2 (.slice (some ⟨gr, 0, none⟩) m rcap) m (frefs (refsL m)) * (sl 22 1 (.slice (some ⟨gw, 0, none⟩) m m) m (usL (hitU c (n + 1) x u) m) * (domB d p * (tblP p (wu ps (chU c u)) fr * emp))))) ((wr.drewN N).setCell ⟨gw, x, none⟩ (vu (ux + 1))) := fun N => by
                                  have h9 := HW.out N
                                  rw [show (usL (hitU c n x u) m).set x (vu (ux + 1)) = usL (hitU c (n + 1) x u) m by rw [← hitU_set HX.out hi2 u, HUx.out]] at h9
                                  exact h9.cast (by ac_rfl)
                                exact ⟨n + 1, by omega, by go_num, h9 _⟩
                              case measure => (simp [intOf]; try omega)
                            · have hne : ((x : Int) == (i : Int)) = false := beq_eq_false_iff_ne.2 (by omega)
                              rw [hitU_ne HX.out hxi u m] at hS
                              have HT := Lib.hid hS
                              clear hS hxi
                              go_wp2_with fail
                              go_quiet (fail)
                              go_wp2
                              go_roundw
                              case rel => exact ⟨n + 1, by omega, by go_num, HT.out.drewN _⟩
                              case measure => (simp [intOf]; try omega)
                          · obtain rfl : n = c.length := by omega
                            rw [hitU_len HCP.out.2] at hS
                            have HT := Lib.hid hS
                            clear hS
                            go_wp2_with fail
                            go_roundw
                            case rel => exact ⟨i + 1, by omega, by go_num, HT.out⟩
                            case measure => (simp [intOf]; try omega)
                      · obtain rfl : m = i := by omega
                        rw [mixU_m] at hS
                        have HT := Lib.hid hS
                        clear hS
                        go_wp2_with fail
                        go_roundw
                        case rel => exact ⟨j + 1, chU c u, by omega, by omega, by go_num, HCP.out.1, HT.out.dropL⟩
                        case measure => (simp [intOf]; try omega)
                  · rw [if_neg hp] at hchD
                    rw [hchD, decide_eq_false hp] at hch
                    have HChg := Lib.hid hch
                    clear hch hp hchD
                    go_wp2_with (go_at_call 11; refine HChg.out.mono ?_; rintro e w5 ⟨rfl, hS5⟩; have H5 := Lib.hid hS5; clear hS5)
                    go_roundw
                    case rel => exact ⟨j + 1, u, by omega, by omega, by go_num, HU.out, H5.out.cast (by ac_rfl)⟩
                    case measure => (simp [intOf]; try omega)
                · have HS := Lib.hid hS
                  clear hS
                  have hdone : (¬ (j : Int) < (n3 : Int)) ∨ ((j : Int) < (n3 : Int) ∧ ¬ (j : Int) < 10) := by omega
                  clear hj
                  rcases hdone with hnj | ⟨hnj, hnj2⟩
                  all_goals
                    go_wp2_with fail
                    go_loopw [23] (fun ix wr => ∃ i : Nat, i ≤ m ∧ ix = vi i ∧ Sat w0 (sl 32 2 (.slice (some ⟨gr, 0, none⟩) m rcap) m (frefs (refsL m)) * (sl 22 1 (.slice (some ⟨gw, 0, none⟩) m m) m (usL u m) * (domB d p * (tblP p (wu ps u) fr * emp)))) wr) (fun ix _ => m - (intOf ix).toNat)
                    case atStart => exact ⟨0, Nat.zero_le _, rfl, HS.out⟩
                    case round =>
                      clear ct
                      obtain ⟨i, hile, rfl, hS⟩ := hrel
                      by_cases hi2 : i < m
                      · have hii : (i : Int) < (m : Int) := by omega
                        have g0 := hS.slCell _ (frefs_at (refsL_at hi2)).1
                        have g1 := hS.slCell _ (frefs_at (refsL_at hi2)).2
                        dsimp only at g0 g1
                        have hle := HU.out.2 i hi2
                        obtain ⟨v0, v1, v2, v3, v4, v5, v6, v7, v8, v10, h3, h4, h4b, h3b, hG⟩ := w_get2 HI.out u hi2 (hS.cast (show _ = domB d p * (tblP p (wu ps u) fr * (sl 32 2 (.slice (some ⟨gr, 0, none⟩) m rcap) m (frefs (refsL m)) * (sl 22 1 (.slice (some ⟨gw, 0, none⟩) m m) m (usL u m) * emp))) by ac_rfl))
                        rw [← h3] at hle
                        have HG := Lib.hid hG
                        clear hG hS h3 h4 h3b h4b
                        have HUI : Hid (∃ un, u i = un) := Lib.hid ⟨_, rfl⟩
                        obtain ⟨un, hun⟩ := HUI.out
                        rw [hun] at HG hle
                        have HUN := Lib.hid hun
                        clear HUI hun
                        have hnlt : ¬ v3 < un := by omega
                        go_wp2_with (first
                          | (go_at_call 16; refine HG.out.mono ?_; rintro e w4 ⟨rfl, hS4⟩; have hA := hS4.alloc (elO ez); have HTh := Lib.hid (there_ (n := 11) hA rfl); have HA := Lib.hid hA; clear hA hS4) | (refine wpList_store_mid rfl 45 _ _ rfl w4.heap.size 0 (elC ⟨v0, v1, v2, v3, v4, v5, v6, v7, v8, un, v10⟩).toArray (by rfl) (by rfl) HTh.out einfo (all_oneCell_toArray (elOne _)) ?_; have hs := HA.out.stores (elC ⟨v0, v1, v2, v3, v4, v5, v6, v7, v8, un, v10⟩) 0; rw [setL_full (elC ez) (elC ⟨v0, v1, v2, v3, v4, v5, v6, v7, v8, un, v10⟩) rfl] at hs; have HS := Lib.hid hs; have HS : Hid (Sat w0 _ ((w4.alloc (elO ez)).setCells w4.heap.size 0 (elC ⟨v0, v1, v2, v3, v4, v5, v6, v7, v8, un, v10⟩).toArray.toList)) := HS; clear hs; generalize World.setCells _ _ _ _ = w2 at *; have hT4 := HS.out.cast (show _ = elB w4.heap.size ⟨v0, v1, v2, v3, v4, v5, v6, v7, v8, un, v10⟩ * (sl 32 2 (.slice (some ⟨gr, 0, none⟩) m rcap) m (frefs (refsL m)) * (sl 22 1 (.slice (some ⟨gw, 0, none⟩) m m) m (usL u m) * (domB d p * (tblP p (wu ps u) fr * emp)))) by unfold elB; ac_rfl); have c9 := hT4.cell 9 rfl; have c3 := hT4.cell 3 rfl; have wc := hT4.pull3.slCell i (usL_at hi2); rw [HUN.out] at wc; have HT := Lib.hid hT4; clear hT4 HS))
                        go_quiet (fail)
                        go_wp2
                        go_roundw
                        case rel => exact ⟨i + 1, by omega, by go_num, HT.out.dropL.drewN _⟩
                        case measure => (simp [intOf]; try omega)
                      · obtain rfl : m = i := by omega
                        have HT := Lib.hid hS
                        clear hS
                        go_wp2_with fail
                        go_roundw
                        case rel => exact ⟨k + 1, u, by omega, by go_num, HU.out, HT.out⟩
                        case measure => (simp [intOf]; try omega)
        · obtain rfl : k = len2 := by omega
          have HS := Lib.hid hS
          clear hS
          go_wp2_with (go_at_call 10; refine (known10 HS.out).mono ?_; rintro e w9 ⟨rfl, hS9⟩; have H9 := Lib.hid hS9; clear hS9)
          go_ret
          exact ⟨rfl, H9.out.below⟩
theorem holds_row (w0 : World) (cpu : Int) (wc : (Lit.int .u64 cpu).wf = true) (per : Int) (_ : (Lit.int .u64 per).wf = true) (v : Value) (len : Nat) (A : Nat → Int) (hA : ArgK w0 4 kC v len A) (v2 : Value) (len2 : Nat) (A2 : Nat → Value) (hA2 : ArgS w0 1 (fun _ => IsInts w0 .i64) v2 len2 A2) :
    Calls Try.prog 4 #[vu cpu, vu per, v, v2] w0 (QTrue w0) := by
  simp only [Lit.wf, Bool.and_eq_true, decide_eq_true_eq] at wc
  exact holds_walk w0 cpu per wc.1 v len A hA v2 len2 A2 hA2
end Go.Proofs.Ytfioghpnehfjhaa.Dm
