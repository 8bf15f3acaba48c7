/-
  The walk of HeapDrains. No statement is proved here.
-/
import Derived.Test.YtcchfdoeacgapaaHm27
namespace Go.Proofs.Ytcchfdoeacgapaa.Hm
open Go.RowKit
set_option linter.unusedVariables false

theorem Nd.map {A : List Tm} (h : Nd A) : (A.map fun t => t.2.1).Nodup := by
  refine List.pairwise_iff_getElem.2 fun i j hi hj hij => ?_
  simp only [List.length_map] at hi hj
  simp only [List.getElem_map]
  intro e
  have e1 := gt_eq hi
  have e2 := gt_eq hj
  rw [List.getElem?_eq_getElem hi] at e1
  rw [List.getElem?_eq_getElem hj] at e2
  have := h i j hi hj (by rw [← Option.some.inj e1, ← Option.some.inj e2]; exact e)
  omega
theorem Nd.gone {A A' : List Tm} {t : Tm} (h : Nd A) (hp : (t :: A').Perm A) : hasT A' t.2.1 = false := by
  have h1 := ((hp.map fun t => t.2.1).nodup_iff).2 h.map
  rw [List.map_cons, List.nodup_cons] at h1
  unfold hasT
  rw [List.any_eq_false]
  intro x hx e
  exact h1.1 (List.mem_map.2 ⟨x, hx, by simpa using e⟩)
section
variable {w0 w : World} {F : Hp} {h q k n : Nat}
/-- What the draining holds. -/
def DrS (w0 : World) (h q : Nat) (v u : Value) (L : List Tr) (A : List Tm) (p : Int) (w : World) : Prop :=
  Sat w0 (sl 68 2 u L.length (trsV L) * (heapP h A p * (rfB q v * (rl v L * emp)))) w
set_option maxRecDepth 100000 in
set_option maxHeartbeats 8000000 in
theorem drains4_row (w0 : World) (v0 : Value) (n : Nat) (A0 : Nat → Int) (h : ArgK w0 3 actK4 v0 n A0) (now : Int) (wn : (Lit.int .u64 now).wf = true) : Calls Try.prog 10 #[v0, vu now] w0 (TrueBelow w0) := by
  obtain ⟨ao, cap, rfl⟩ := ArgK.len h
  have hsm := h.small
  unfold maxLen at hsm
  have HA := Lib.hid h
  clear h wn
  by_cases hbig : 150 < n
  · have hb2 : (150 : Int) < (n : Int) := by omega
    go_enter Try.func10, Try.ntmps10
    go_wp2_with (go_at_call 14; refine (known4 _).mono ?_; rintro e w1 ⟨rfl, hb⟩)
    go_ret
    exact ⟨rfl, hb⟩
  · have hb2 : ¬ (150 : Int) < (n : Int) := by omega
    go_enter Try.func10, Try.ntmps10
    go_wp2_with (go_at_call 15; refine (h_new (Sat.start w0)).mono ?_; rintro e w1 ⟨h, rfl, hS1⟩; have H1 := Lib.hid (Bal.fresh hS1); clear hS1)
    generalize w1.heap.size = q at *
    generalize w1.alloc (.cells #[.slice none 0 0] 61) = w2 at *
    go_loopw [7] (fun i wr => ∃ k : Nat, k ≤ n ∧ i = vi k ∧ Bal w0 h q emp k wr) (fun i _ => n - (intOf i).toNat)
    case atStart => exact ⟨0, Nat.zero_le _, rfl, H1.out⟩
    case round =>
      obtain ⟨k, hk, rfl, hS⟩ := hrel
      clear H1
      by_cases hlt : k < n
      · obtain ⟨b, off, rfl, x0, x1, x2, c0, c1, c2⟩ := act_at HA.out hS.sat.below hlt
        have hki : (k : Int) < (n : Int) := by omega
        have HS := Lib.hid hS
        clear hS
        go_wp2_with (go_at_call 39; refine (do4 HS.out (by omega) x0 x1 x2).mono ?_; rintro e w5 ⟨rfl, hS5⟩; have H5 := Lib.hid hS5; clear hS5)
        go_roundw
        case rel => exact ⟨k + 1, by omega, by go_num, H5.out⟩
        case measure => (simp [intOf]; try omega)
      · obtain rfl : k = n := by omega
        clear hlt
        obtain ⟨A, p, S, hI, hp0, hp1, hA, hS⟩ := hS
        obtain ⟨v, hS⟩ := refP_open hS.pull2
        have hll := hI.len
        have HAll := Lib.hid (all_same hI (hS.cast (show _ = heapP h A p * (rfB q v * (rl v (S.map trOf) * emp)) by ac_rfl)) (by omega))
        obtain ⟨av, cv, rfl⟩ := hS.pull2.rd.len
        obtain ⟨L, hL⟩ : ∃ L, S.map trOf = L := ⟨_, rfl⟩
        rw [hL] at HAll hll hS
        obtain ⟨z, hz⟩ : ∃ z, L.length = z := ⟨_, rfl⟩
        have hz150 : z ≤ 150 := by omega
        have HL := Lib.hid hL
        have HZ := Lib.hid hz
        have HI := Lib.hid hI
        have HV := Lib.hid hS.pull2.slE.2
        clear hS hI hL hll hz
        go_wp2_with (first
          | (go_at_call 40; refine HAll.out.mono ?_; rintro e w3 ⟨u, rfl, hS3⟩; obtain ⟨au, cu, rfl⟩ := hS3.rd.len; have c0 := hS3.pull3.cell 0 rfl; have hsame := r_same4 L L _ _ w3 hS3.rd hS3.pull4.rd (by rw [HZ.out]; omega) (by rw [HZ.out]; omega); rw [show decide (L = L) = true by simp] at hsame; have HSame := Lib.hid hsame; have H3 := Lib.hid hS3; clear hS3 hsame)
          | (go_at_call 41; refine HSame.out.mono ?_; rintro e w4 ⟨rfl, N, rfl⟩))
        have H4 : Hid (DrS w0 h q (.slice av L.length cv) (.slice au L.length cu) L A p (w3.drewN N)) := Lib.hid (H3.out.drewN N)
        clear H3 HAll HSame c0
        generalize w3.drewN N = w4 at *
        rw [HZ.out] at H4
        rw [HZ.out]
        go_loopw [9] (fun i wr => ∃ (m : Nat) (A : List Tm), m ≤ z ∧ i = vi m ∧ Hid (Inv A p (S.drop m)) ∧ Hid (DrS w0 h q (.slice av z cv) (.slice au z cu) L A p wr)) (fun i _ => z - (intOf i).toNat)
        case atStart => exact ⟨0, A, Nat.zero_le _, rfl, HI, H4⟩
        case round =>
          clear HI H4 hA HA
          obtain ⟨m, A, hm, rfl, HI, HS⟩ := hrel
          have hm0 : (0 : Int) ≤ (m : Int) := by omega
          have hSl : S.length = z := by rw [← HZ.out, ← HL.out, List.length_map]
          have hS := HS.out
          unfold DrS at hS
          have hAl : A.length = z - m := by rw [HI.out.len', List.length_drop]; omega
          have c0 := hS.pull3.cell 0 rfl
          have hcell : ∀ wx (A : List Tm), Sat w0 (sl 68 2 (.slice au z cu) L.length (trsV L) * (heapP h A p * (rfB q (.slice av z cv) * (rl (.slice av z cv) L * emp)))) wx → m < z → ∃ b off, au = some ⟨b, off, none⟩ ∧ wx.cell? ⟨b, off + m * 2, none⟩ = some (vu (gr L m).1) ∧ wx.cell? ⟨b, off + m * 2 + 1, none⟩ = some (vi (gr L m).2) := fun wx A hx hmz => by
            obtain ⟨b, off, e, hc⟩ := RdT.at_ (L := L) hx.rd (by rw [HZ.out]; omega)
            exact ⟨b, off, e, hc m (by rw [HZ.out]; omega)⟩
          have HCell := Lib.hid hcell
          clear hcell
          by_cases hlt : m < z ∧ (gr L m).1 ≤ now
          · obtain ⟨hlt, hat⟩ := hlt
            obtain ⟨b, off, rfl, c1, c2⟩ := HCell.out wr A hS hlt
            have hmi : (m : Int) < (z : Int) := by omega
            have hdr : S.drop m = gt S m :: S.drop (m + 1) := by
              rw [List.drop_eq_getElem_cons (by omega)]
              congr 1
              have := gt_eq (show m < S.length by omega)
              rw [List.getElem?_eq_getElem (by omega)] at this
              exact Option.some.inj this
            have hgr : gr L m = trOf (gt S m) := by rw [← HL.out]; exact gr_map S m (by omega)
            have hI := HI.out
            rw [hdr] at hI
            have hg : gt A 0 = gt S m := hI.head (heapP_least hS.pull2)
            have hgr1 : (gt S m).1 = (gr L m).1 := by rw [hgr]; rfl
            have hgr2 : (gt S m).2.1 = (gr L m).2 := by rw [hgr]; rfl
            have hpop := h_pop hS.pull2 (fun e => by rw [e] at hAl; simp at hAl; omega) (by omega) now (by rw [hg, hgr1]; omega)
            rw [hg, hgr2] at hpop
            have HP := Lib.hid hpop
            have HN : Hid (∀ A', (gt S m :: A').Perm A → Inv A' p (S.drop (m + 1)) ∧ hasT A' (gr L m).2 = false) := Lib.hid fun A' hp' => ⟨hI.pop hp', by rw [← hgr2]; exact (heapP_nd hS.pull2).gone hp'⟩
            clear hpop hI hg hgr hgr1 hgr2 hdr hS HS HI hAl hSl c0
            generalize gt S m = t at *
            generalize gr L m = y at *
            obtain ⟨y1, y2⟩ := y
            have hat : y1 ≤ now := hat
            have hyy : (y2 != y2) = false := by simp
            go_wp2_with (first
              | (go_at_call 17; refine HP.out.mono ?_; rintro e w5 ⟨rfl, A2, hp2, hS5⟩; have hS5 := hS5.pull2; obtain ⟨b', off', e', d1, d2⟩ := HCell.out _ _ hS5 hlt; cases e'; have hN2 := HN.out A2 hp2; have HI2 := Lib.hid hN2.1; have hhas := h_has hS5.pull2 y2; rw [hN2.2] at hhas; have HH := Lib.hid hhas; have H5 := Lib.hid hS5; clear hS5 hp2 hN2 hhas)
              | (go_at_call 42; refine HH.out.mono ?_; rintro e w' ⟨rfl, rfl⟩))
            go_roundw
            case rel => exact ⟨m + 1, A2, by omega, by go_num, HI2, H5⟩
            case measure => (simp [intOf]; try omega)
          · have hlast : m < z → now < (gr L m).1 := fun hmz => by
              have : ¬ (gr L m).1 ≤ now := fun h => hlt ⟨hmz, h⟩
              omega
            have hpn : Calls Try.prog 17 #[vp h, vu now] wr fun e w' => e = .returned (.tuple #[vi 0, .bool false]) ∧ wr = w' := by
              by_cases hmz : m < z
              · have hdr : S.drop m = gt S m :: S.drop (m + 1) := by
                  rw [List.drop_eq_getElem_cons (by omega)]
                  congr 1
                  have := gt_eq (show m < S.length by omega)
                  rw [List.getElem?_eq_getElem (by omega)] at this
                  exact Option.some.inj this
                have hI := HI.out
                rw [hdr] at hI
                have hg : gt A 0 = gt S m := hI.head (heapP_least hS.pull2)
                have hgr : gr L m = trOf (gt S m) := by rw [← HL.out]; exact gr_map S m (by omega)
                have hgr1 : (gt S m).1 = (gr L m).1 := by rw [hgr]; rfl
                exact h_pop_no hS.pull2 (fun e => by rw [e] at hAl; simp at hAl; omega) (by omega) now (by rw [hg, hgr1]; exact hlast hmz)
              · obtain rfl : A = [] := List.eq_nil_of_length_eq_zero (by omega)
                exact h_pop_nil hS.pull2 now
            have HPN := Lib.hid hpn
            have hmap : (S.drop m).map trOf = L.drop m := by rw [List.map_drop, HL.out]
            have hlen := h_len hS.pull2.drew
            rw [hAl] at hlen
            have HLen := Lib.hid hlen
            have hall := all_ hS.pull2.drew (by omega)
            have HAll2 : Hid (Calls Try.prog 40 #[vp h] wr.drew fun e w' => ∃ u, e = .returned u ∧ Sat w0 (sl 68 2 u (z - m) (trsV (L.drop m)) * (heapP h A p * (sl 68 2 (.slice au z cu) L.length (trsV L) * (rfB q (.slice av z cv) * (rl (.slice av z cv) L * emp))))) w') := Lib.hid (hall.mono (by
              rintro e w' ⟨u, S', rfl, hp', hs', h'⟩
              obtain rfl := HI.out.sorted hp' hs'
              refine ⟨u, rfl, ?_⟩
              rw [hmap, List.length_drop, hSl] at h'
              exact h'))
            have HSm : Hid (∀ (u : Value) (w1 : World), Sat w0 (sl 68 2 u (z - m) (trsV (L.drop m)) * (heapP h A p * (sl 68 2 (.slice au z cu) L.length (trsV L) * (rfB q (.slice av z cv) * (rl (.slice av z cv) L * emp))))) w1 →
                w1.cell? ⟨q, 0, none⟩ = some (.slice av z cv) ∧ ∀ y, (Rd w1 2 (.slice av z cv) z (trsV L) → Rd w1 2 y (z - m) (trsV (L.drop m))) → Calls Try.prog 41 #[u, y] w1 fun e w' => e = .returned (.bool true) ∧ w'.cell? ⟨q, 0, none⟩ = some (.slice av z cv) ∧ Below w0.heap.size w0 w') := Lib.hid fun u w1 h1 => by
              have hdl : (L.drop m).length = z - m := by rw [List.length_drop, HZ.out]
              refine ⟨h1.pull4.cell 0 rfl, fun y hy => ?_⟩
              have hy2 := hy (by have := h1.cast (show _ = rl (.slice av z cv) L * (sl 68 2 u (z - m) (trsV (L.drop m)) * (heapP h A p * (sl 68 2 (.slice au z cu) L.length (trsV L) * (rfB q (.slice av z cv) * emp)))) by ac_rfl)
                                 have := this.rd
                                 rwa [HZ.out] at this)
              have hu := h1.rd
              rw [← hdl] at hu hy2
              have := r_same4 (L.drop m) (L.drop m) u y w1 hu hy2 (by omega) (by omega)
              rw [show decide (L.drop m = L.drop m) = true by simp] at this
              refine this.mono ?_
              rintro e w' ⟨rfl, N, rfl⟩
              exact ⟨rfl, h1.pull4.cell 0 rfl, (h1.drewN N).below⟩
            have hsub : IntKind.i64.wrap ((z : Int) - (m : Int)) = ((z - m : Nat) : Int) := by
              rw [show ((z - m : Nat) : Int) = (z : Int) - (m : Int) by omega]
              exact IntWalk.i64_in _ (by omega)
            have hcl : m < z → ∃ b off, au = some ⟨b, off, none⟩ ∧ wr.cell? ⟨b, off + m * 2, none⟩ = some (vu (gr L m).1) := fun hmz => by
              obtain ⟨b, off, e, c1, _⟩ := HCell.out wr A hS hmz
              exact ⟨b, off, e, c1⟩
            have HCl := Lib.hid hcl
            have HRd : Hid (∀ (w1 : World) (g : Nat) (a' : Addr) (c2 : Nat), av = some ⟨g, 0, none⟩ → (m < z → a' = ⟨g, 0 + m * 2, none⟩) → Rd w1 2 (.slice av z cv) z (trsV L) → Rd w1 2 (.slice (some a') (z - m) c2) (z - m) (trsV (L.drop m))) := Lib.hid fun w1 g a' c2 e ha h' => by
              rw [trsV_drop]
              by_cases hz0 : z = 0
              · obtain rfl : m = 0 := by omega
                subst hz0
                have h1 : trsV L = [] := List.eq_nil_of_length_eq_zero (by have := h'.1; simpa using this)
                exact ⟨by rw [h1]; simp, .inl ⟨rfl, _, _, rfl⟩⟩
              · rw [e] at h'
                exact rdPost h' hz0 hm ha
            have HV2 : Hid ((av = none ∧ z = 0 ∧ cv = 0) ∨ ∃ g, av = some ⟨g, 0, none⟩ ∧ z ≤ cv ∧ cv ≤ maxLen) := Lib.hid (by
              have := HV.out
              rw [HZ.out] at this
              rcases this with ⟨e, h0, _⟩ | ⟨g, c, cur, e, h1, h2, _⟩
              · cases e
                exact .inl ⟨rfl, h0, rfl⟩
              · cases e
                exact .inr ⟨g, rfl, h1, h2⟩)
            clear hlen hall hcl hpn hmap hS HS HI hAl hSl HCell HV hlt
            by_cases hmz : m < z
            · have hmi : (m : Int) < (z : Int) := by omega
              have hmd : decide (m < z) = true := decide_eq_true hmz
              obtain ⟨b, off, rfl, c1⟩ := HCl.out hmz
              have hnow := hlast hmz
              have hnd : decide ((gr L m).1 ≤ now) = false := decide_eq_false (by omega)
              clear HCl hlast
              generalize (gr L m).1 = y1 at *
              rcases HV2.out with ⟨_, h0, _⟩ | ⟨g, rfl, hv1, hv2⟩
              · omega
              · unfold maxLen at hv2
                have hmz2 : (m : Int) ≤ (z : Int) := by omega
                have hmc : ¬ m = cv := by omega
                have hmc2 : ¬ cv = m := by omega
                have hzc : (z : Int) ≤ (cv : Int) := by omega
                clear HV2
                go_wp2_with (go_at_call 17; refine HPN.out.mono ?_; rintro e w' ⟨rfl, rfl⟩)
                go_region_held3 (fun w' => w'.cell? ⟨q, 0, none⟩ = some (.slice (some ⟨g, 0, none⟩) z cv))
                  (first | exact c0 | exact d0 | exact e0 | exact f0 | go_keep)
                  (first
                    | (go_at_call 18; refine HLen.out.mono ?_; rintro e w' ⟨rfl, rfl⟩)
                    | (go_at_call 40; refine HAll2.out.mono ?_; rintro e w6 ⟨u6, rfl, hS6⟩; obtain ⟨d0, HY⟩ := HSm.out _ _ hS6; have HY := Lib.hid HY; have H6 := Lib.hid hS6; clear hS6)
                    | (go_at_call 41; refine (HY.out _ (HRd.out _ g _ _ rfl (fun _ => by simp))).mono ?_; rintro e w7 ⟨rfl, e0, hS7⟩; have H7 := Lib.hid hS7; clear hS7)
                    | (go_at_call 14; refine (known4 _).mono ?_; rintro e w8 ⟨rfl, hb⟩; have f0 := (hb.cell (p := ⟨q, 0, none⟩) (lt_cell e0)).trans e0; have HB := Lib.hid hb; clear hb))
                all_goals go_wp2
                all_goals go_ret
                all_goals exact ⟨rfl, H7.out.trans (HB.out.mono H7.out.size)⟩
            · obtain rfl : m = z := by omega
              have hmi : ¬ (m : Int) < (m : Int) := by omega
              have hmd : decide (m < m) = false := by simp
              clear HCl hlast
              rcases HV2.out with ⟨rfl, rfl, rfl⟩ | ⟨g, rfl, hv1, hv2⟩
              · clear HV2
                rw [Nat.sub_self] at HLen HAll2 HSm HRd
                clear hsub
                have hw0 : IntKind.i64.wrap 0 = 0 := rfl
                have HRn : Hid (∀ w1, Rd w1 2 (.slice none 0 0) 0 (trsV L) → Rd w1 2 (.slice none 0 0) 0 (trsV (L.drop 0))) := Lib.hid fun w1 h' => h'
                go_wp2_with (go_at_call 17; refine HPN.out.mono ?_; rintro e w' ⟨rfl, rfl⟩)
                go_region_held3 (fun w' => w'.cell? ⟨q, 0, none⟩ = some (.slice none 0 0))
                  (first | exact c0 | exact d0 | exact e0 | exact f0 | go_keep)
                  (first
                    | (go_at_call 18; refine HLen.out.mono ?_; rintro e w' ⟨rfl, rfl⟩)
                    | (go_at_call 40; refine HAll2.out.mono ?_; rintro e w6 ⟨u6, rfl, hS6⟩; obtain ⟨d0, HY⟩ := HSm.out _ _ hS6; have HY := Lib.hid HY; have H6 := Lib.hid hS6; clear hS6)
                    | (go_at_call 41; refine (HY.out _ (HRn.out _)).mono ?_; rintro e w7 ⟨rfl, e0, hS7⟩; have H7 := Lib.hid hS7; clear hS7)
                    | (go_at_call 14; refine (known4 _).mono ?_; rintro e w8 ⟨rfl, hb⟩; have f0 := (hb.cell (p := ⟨q, 0, none⟩) (lt_cell e0)).trans e0; have HB := Lib.hid hb; clear hb))
                all_goals go_wp2
                all_goals go_ret
                all_goals exact ⟨rfl, H7.out.trans (HB.out.mono H7.out.size)⟩
              · unfold maxLen at hv2
                have hmz2 : (m : Int) ≤ (m : Int) := by omega
                have hzc : (m : Int) ≤ (cv : Int) := by omega
                rw [Nat.sub_self] at HLen HAll2 HSm HRd
                clear hsub
                have hw0 : IntKind.i64.wrap 0 = 0 := rfl
                have hsb : m - m = 0 := Nat.sub_self m
                clear HV2
                by_cases hmc : m = cv
                · subst hmc
                  go_wp2_with (go_at_call 17; refine HPN.out.mono ?_; rintro e w' ⟨rfl, rfl⟩)
                  go_region_held3 (fun w' => w'.cell? ⟨q, 0, none⟩ = some (.slice (some ⟨g, 0, none⟩) m m))
                    (first | exact c0 | exact d0 | exact e0 | exact f0 | go_keep)
                    (first
                      | (go_at_call 18; refine HLen.out.mono ?_; rintro e w' ⟨rfl, rfl⟩)
                      | (go_at_call 40; refine HAll2.out.mono ?_; rintro e w6 ⟨u6, rfl, hS6⟩; obtain ⟨d0, HY⟩ := HSm.out _ _ hS6; have HY := Lib.hid HY; have H6 := Lib.hid hS6; clear hS6)
                      | (go_at_call 41; refine (HY.out _ (HRd.out _ g _ _ rfl (fun hh => absurd hh (Nat.lt_irrefl _)))).mono ?_; rintro e w7 ⟨rfl, e0, hS7⟩; have H7 := Lib.hid hS7; clear hS7)
                      | (go_at_call 14; refine (known4 _).mono ?_; rintro e w8 ⟨rfl, hb⟩; have f0 := (hb.cell (p := ⟨q, 0, none⟩) (lt_cell e0)).trans e0; have HB := Lib.hid hb; clear hb))
                  all_goals go_wp2
                  all_goals go_ret
                  all_goals exact ⟨rfl, H7.out.trans (HB.out.mono H7.out.size)⟩
                · have hmc2 : ¬ cv = m := by omega
                  go_wp2_with (go_at_call 17; refine HPN.out.mono ?_; rintro e w' ⟨rfl, rfl⟩)
                  go_region_held3 (fun w' => w'.cell? ⟨q, 0, none⟩ = some (.slice (some ⟨g, 0, none⟩) m cv))
                    (first | exact c0 | exact d0 | exact e0 | exact f0 | go_keep)
                    (first
                      | (go_at_call 18; refine HLen.out.mono ?_; rintro e w' ⟨rfl, rfl⟩)
                      | (go_at_call 40; refine HAll2.out.mono ?_; rintro e w6 ⟨u6, rfl, hS6⟩; obtain ⟨d0, HY⟩ := HSm.out _ _ hS6; have HY := Lib.hid HY; have H6 := Lib.hid hS6; clear hS6)
                      | (go_at_call 41; refine (HY.out _ (HRd.out _ g _ _ rfl (fun hh => absurd hh (Nat.lt_irrefl _)))).mono ?_; rintro e w7 ⟨rfl, e0, hS7⟩; have H7 := Lib.hid hS7; clear hS7)
                      | (go_at_call 14; refine (known4 _).mono ?_; rintro e w8 ⟨rfl, hb⟩; have f0 := (hb.cell (p := ⟨q, 0, none⟩) (lt_cell e0)).trans e0; have HB := Lib.hid hb; clear hb))
                  all_goals go_wp2
                  all_goals go_ret
                  all_goals exact ⟨rfl, H7.out.trans (HB.out.mono H7.out.size)⟩
end
end Go.Proofs.Ytcchfdoeacgapaa.Hm
