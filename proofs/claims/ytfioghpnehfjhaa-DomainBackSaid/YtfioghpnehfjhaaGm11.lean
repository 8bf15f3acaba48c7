/-
  Law 09: DomainBack, the walk. No statement is proved here.
-/
import Derived.Test.YtfioghpnehfjhaaGm10
import Derived.Test.YtfioghpnehfjhaaArgs4
namespace Go.Proofs.Ytfioghpnehfjhaa.Dm
open Go.RowKit Ad
set_option linter.unusedVariables false
set_option linter.unusedSimpArgs false

set_option maxRecDepth 100000 in
set_option maxHeartbeats 16000000 in
theorem back_walk (w0 : World) (sz gs cpu per : Int) (hc : 0 ≤ cpu) (v : Value) (len : Nat) (A : Nat → Int) (hA : ArgK w0 7 kA9 v len A) (x0 x1 x2 x3 x4 x5 x6 : Int) (hx3 : x3 ≤ 9223372036854775807) (hx5 : U64 x5) :
    Calls Try.prog 7 #[vi sz, vi gs, vu cpu, vu per, v, .agg #[vi x0, vi x1, vu x2, vi x3, vi x4, vu x5, vu x6]] w0 (QT9 w0) := by
  have hv : ∃ ao cap, v = .slice ao len cap := by
    rcases hA.form with ⟨rfl, ao, cap, rfl⟩ | ⟨b, off, cap, rfl, _⟩
    · exact ⟨_, _, rfl⟩
    · exact ⟨_, _, rfl⟩
  obtain ⟨ao, acap, rfl⟩ := hv
  have HA := Lib.hid hA
  have HMay := Lib.hid (fun w => may09 sz gs cpu per w)
  have H0 : Hid (Sat w0 (pc w0.heap.size 63 [vi x0, vi x1, vu x2, vi x3, vi x4, vu x5, vu x6] * emp) (w0.alloc (.cells #[vi x0, vi x1, vu x2, vi x3, vi x4, vu x5, vu x6] 63))) := Lib.hid ((Sat.start w0).alloc _)
  clear hA
  by_cases hl : 40 < len
  · have hli : (40 : Int) < (len : Int) := by omega
    go_enter Try.func7, Try.ntmps7
    go_wp2_with (go_at_call 22; (with_reducible refine (known09 H0.out).mono ?_); rintro e w9 ⟨rfl, hS9⟩; have H9 := Lib.hid hS9; clear hS9)
    go_ret
    exact ⟨rfl, H9.out.below⟩
  · have hli : ¬ (40 : Int) < (len : Int) := by omega
    by_cases hm : 1 ≤ sz ∧ sz ≤ 32 ∧ MayD gs cpu per
    · rw [decide_eq_true hm] at HMay
      obtain ⟨n, rfl⟩ := Int.eq_ofNat_of_zero_le (show 0 ≤ sz by omega)
      have HBeg := Lib.hid (begin09 H0.out n (by omega) (by omega) gs cpu per hm.2.2 hc)
      have HRel := Lib.hid (Rel.rootL n (by omega) (by omega) hm.2.2 hc)
      clear hm hc
      go_enter Try.func7, Try.ntmps7
      go_wp2_with (first
        | (go_at_call 21; (with_reducible refine (HMay.out _).mono ?_); rintro e w' ⟨rfl, rfl⟩)
        | (go_at_call 23; (with_reducible refine HBeg.out.mono ?_); rintro e w1 ⟨g, d, p, q, b, cap, vF, vR, rfl, hS1⟩; have H1 := Lib.hid hS1; clear hS1))
      go_loopw [14] (fun ix wr => ∃ (k : Nat) (ps : List Pl) (free : List Nat) (rl : List (Int × Int)) (vF vR : Value), k ≤ len ∧ ix = vi k ∧ Rel n (1 + k) ps free ∧ 0 < rl.length ∧ rl.length ≤ 1 + k ∧ Sat w0 (gameC g d p q b cap vF vR ps free rl (pc w0.heap.size 63 [vi x0, vi x1, vu x2, vi x3, vi x4, vu x5, vu x6] * emp)) wr) (fun ix _ => len - (intOf ix).toNat)
      case atStart => exact ⟨0, _, _, _, vF, vR, Nat.zero_le _, rfl, HRel.out, by simp, by simp, H1.out⟩
      case round =>
        clear H1 HBeg HMay HRel H0
        obtain ⟨k, ps, free, rl, vF, vR, hk, rfl, hR, hrl, hrl2, hS⟩ := hrel
        by_cases hlt : k < len
        · have hki : (k : Int) < (len : Int) := by omega
          obtain ⟨ab, aoff, rfl, y0, y1, y2, y3, y4, y5, y6, hy3, hy5, hca⟩ := a_act9 HA.out hlt
          obtain ⟨a0, a1, a2, a3, a4, a5, a6⟩ := hca _ _ hS
          have HDo := Lib.hid (do_any hR (by omega) hS hrl (by omega) y1 y2 y3 y4 y5 y6 y0 hy3 hy5)
          have hlen2 : rl.length ≤ 1 + k := hrl2
          clear hS hca hR hrl hy5
          go_wp2_with (go_at_call 24; (with_reducible refine HDo.out.mono ?_); rintro e w2 ⟨ps2, free2, rl2, vF2, vR2, rfl, hR2, hrl3, hrl4, hS2⟩; have HR2 := Lib.hid hR2; have H2 := Lib.hid hS2; clear hS2 hR2)
          go_roundw
          case rel => exact ⟨k + 1, ps2, free2, rl2, vF2, vR2, by omega, by go_num, by rw [show 1 + (k + 1) = 1 + k + 1 by omega]; exact HR2.out, hrl3, by omega, H2.out⟩
          case measure => (simp [intOf]; try omega)
        · obtain rfl : k = len := by omega
          have hrlm : rl.length ≤ 1000 := by omega
          obtain ⟨ro, rc, rfl⟩ := hS.dropL.rd.len
          have d0 := hS.cell 0 rfl
          have HAl := Lib.hid (dm_all (hS.cast (show _ = domB d p * (tblP p ps free * (pc g 66 [vp d, vp q, .slice ro rl.length rc] * (sl 32 2 (.slice ro rl.length rc) rl.length (frefs rl) * refD q b cap vF ps free (pc w0.heap.size 63 [vi x0, vi x1, vu x2, vi x3, vi x4, vu x5, vu x6] * emp)))) by unfold gameC; ac_rfl)) (by have := hR.len; have := hR.n32; omega))
          have HLen := Lib.hid hR.bookX.1
          have HR := Lib.hid hR
          have HDo := Lib.hid (fun (w4 : World) (G : Hp) (h4 : Sat w0 (gameC g d p q b cap vF (.slice ro rl.length rc) ps free rl (G)) w4) => do_one hR (by omega) h4 hrl hrlm x1 x2 x3 x4 x5 x6 hx3 hx5)
          have hsl : ∀ N, N = ps.length → seen ps N = seen ps ps.length := fun N e => by rw [e]
          have HSl := Lib.hid hsl
          clear hS hR hsl
          generalize hl0 : seen ps ps.length = l at *
          have HL0 := Lib.hid hl0
          clear hl0
          go_wp2_with (first
            | (go_at_call 25; (with_reducible refine HAl.out.mono ?_); rintro e w3 ⟨va, rfl, hS3⟩; have h3 : Sat w0 (pc w0.heap.size 63 [vi x0, vi x1, vu x2, vi x3, vi x4, vu x5, vu x6] * (sl 69 13 va l.length (fpd l) * (domB d p * (tblP p ps free * (pc g 66 [vp d, vp q, .slice ro rl.length rc] * (sl 32 2 (.slice ro rl.length rc) rl.length (frefs rl) * refD q b cap vF ps free emp)))))) w3 := hS3.cast (by unfold refD; ac_rfl); have k0 := h3.cell 0 rfl; have f0 := h3.free 0; have h4 := h3.store 0 (vi 1); have h5 : Sat w0 (pc w0.heap.size 63 [vi 1, vi x1, vu x2, vi x3, vi x4, vu x5, vu x6] * (sl 69 13 va l.length (fpd l) * (domB d p * (tblP p ps free * (pc g 66 [vp d, vp q, .slice ro rl.length rc] * (sl 32 2 (.slice ro rl.length rc) rl.length (frefs rl) * refD q b cap vF ps free emp)))))) _ := h4; have a0 := h5.cell 0 rfl; have a1 := h5.cell 1 rfl; have a2 := h5.cell 2 rfl; have a3 := h5.cell 3 rfl; have a4 := h5.cell 4 rfl; have a5 := h5.cell 5 rfl; have a6 := h5.cell 6 rfl; have g2 := h5.dropL.dropL.pull3.cell 2 rfl; have H5 := Lib.hid h5; clear hS3 h3 h4 h5 d0)
            | (go_at_call 24; (with_reducible refine (HDo.out _ (pc w0.heap.size 63 [vi 1, vi x1, vu x2, vi x3, vi x4, vu x5, vu x6] * (sl 69 13 va l.length (fpd l) * emp)) (H5.out.cast (by unfold gameC refD; ac_rfl))).mono ?_); rintro e w6 ⟨ps1, free1, rl1, vG, vS, rfl, hR1, hS6, hcase⟩; have HR1 := Lib.hid hR1; have H6 := Lib.hid hS6; have HCase := Lib.hid hcase; obtain ⟨so, sc, rfl⟩ := hS6.dropL.rd.len; have m0 := hS6.cell 0 rfl; have m2 := hS6.cell 2 rfl; clear hR1 hS6 hcase k0 f0 a0 a1 a2 a3 a4 a5 a6 g2))
          obtain ⟨va_o, va_c, rfl⟩ := H5.out.dropL.rd.len
          rcases HCase.out with ⟨e1, e2, e3⟩ | ⟨kk, mm, a, am, cg, cc, cp, i1, i2, i3, i4, i5, i6, i7⟩
          · subst e1 e2 e3
            have HAl2 := Lib.hid (fun (w7 : World) (h7 : Sat w0 (gameC g d p q b cap vG (.slice so rl1.length sc) ps1 free1 rl1 (pc w0.heap.size 63 [vi 1, vi x1, vu x2, vi x3, vi x4, vu x5, vu x6] * (sl 69 13 (.slice va_o l.length va_c) l.length (fpd l) * emp))) w7) => dm_all (h7.cast (show _ = domB d p * (tblP p ps1 free1 * (pc g 66 [vp d, vp q, .slice so rl1.length sc] * (sl 32 2 (.slice so rl1.length sc) rl1.length (frefs rl1) * refD q b cap vG ps1 free1 (pc w0.heap.size 63 [vi 1, vi x1, vu x2, vi x3, vi x4, vu x5, vu x6] * (sl 69 13 (.slice va_o l.length va_c) l.length (fpd l) * emp))))) by unfold gameC; ac_rfl)) (by have := HR.out.len; have := HR.out.n32; omega))
            rw [HL0.out] at HAl2
            have hnn : ¬ (rl1.length : Int) < (rl1.length : Int) := by omega
            have hnd : decide ((rl1.length : Int) < (rl1.length : Int)) = false := decide_eq_false hnn
            clear H5
            go_quiet (fail)
            go_wp2_with (first
              | (go_at_call 25; (with_reducible refine (HAl2.out _ (H6.out.drewN _)).mono ?_); rintro e w8 ⟨vb, rfl, hS8⟩; have H8 := Lib.hid (hS8.cast (show _ = sl 69 13 vb l.length (fpd l) * (sl 69 13 (.slice va_o l.length va_c) l.length (fpd l) * (domB d p * (tblP p ps1 free1 * (pc g 66 [vp d, vp q, .slice so rl1.length sc] * (sl 32 2 (.slice so rl1.length sc) rl1.length (frefs rl1) * refD q b cap vG ps1 free1 (pc w0.heap.size 63 [vi 1, vi x1, vu x2, vi x3, vi x4, vu x5, vu x6] * emp)))))) by unfold refD; ac_rfl)); clear hS8)
              | (go_at_call 27; (with_reducible refine (rd_same H8.out (by have := HLen.out; omega)).mono ?_); rintro e w10 ⟨rfl, hS10⟩; have H10 := Lib.hid hS10; clear hS10)
              | (go_at_call 22; (with_reducible refine (known09 H10.out).mono ?_); rintro e w9 ⟨rfl, hS9⟩; have H9 := Lib.hid hS9; clear hS9))
            go_ret
            exact ⟨by simp, H9.out.below⟩
          · subst i5 i6 i7
            obtain ⟨hm0, atM, atK, hseen⟩ := back_seen HR.out i1 i2 i3 i4 cg cc cp
            obtain ⟨_, hR2⟩ := HR1.out.merge atM rfl hm0 (Int.le_refl 0) (Int.le_refl 0) atK i2 rfl rfl
            have HR2 := Lib.hid hR2
            have HM := Lib.hid (merge_prog HR1.out (by omega) atM rfl hm0 (Int.le_refl 0) (Int.le_refl 0) atK i2 rfl rfl)
            have hlen : (mrgP (carP ps kk mm a am cg cc cp) mm kk { am with there := true, x := domX kk a.gen cg cc cp } { a with x := carX a.x cg cc }).length = ps.length := by simp [mrgP, carP]
            have HSeen : Hid (seen (mrgP (carP ps kk mm a am cg cc cp) mm kk { am with there := true, x := domX kk a.gen cg cc cp } { a with x := carX a.x cg cc }) (mrgP (carP ps kk mm a am cg cc cp) mm kk { am with there := true, x := domX kk a.gen cg cc cp } { a with x := carX a.x cg cc }).length = l) := Lib.hid (by rw [hseen, hlen]; exact HSl.out _ rfl)
            have hpl : ps.length ≤ 4096 := by have := HR.out.len; have := HR.out.n32; omega
            clear hseen atM atK HCase hR2 H5 HR1
            generalize hps1 : carP ps kk mm a am cg cc cp = ps1 at *
            generalize hps2 : mrgP ps1 mm kk { am with there := true, x := domX kk a.gen cg cc cp } { a with x := carX a.x cg cc } = ps2 at *
            have HAl2 := Lib.hid (fun (w7 : World) (G : Hp) (h7 : Sat w0 (domB d p * (tblP p ps2 (free1 ++ [mm]) * G)) w7) => dm_all h7 (by rw [hlen]; exact hpl))
            rw [HSeen.out] at HAl2
            clear hps1 hps2 hlen i1 i2 i3 i4 hm0
            generalize am.gen = ag at *
            obtain ⟨L1, hL1⟩ : ∃ L1, L1 = rl.length + 1 := ⟨_, rfl⟩
            have hll : (rl ++ [((mm : Int), ag)]).length = L1 := by simp [hL1]
            rw [hll] at m2
            have h6 : Sat w0 (domB d p * (tblP p ps1 free1 * (pc g 66 [vp d, vp q, .slice so L1 sc] * (sl 32 2 (.slice so L1 sc) L1 (frefs (rl ++ [((mm : Int), ag)])) * refD q b cap vG ps1 free1 (pc w0.heap.size 63 [vi 1, vi x1, vu x2, vi x3, vi x4, vu x5, vu x6] * (sl 69 13 (.slice va_o l.length va_c) l.length (fpd l) * emp)))))) w6 := H6.out.cast (by unfold gameC; rw [hll]; ac_rfl)
            obtain ⟨gs2, rfl⟩ : ∃ gs2, so = some ⟨gs2, 0, none⟩ := by
              rcases h6.pull4.slE.2 with ⟨_, h0, _⟩ | ⟨g', c', cur, hv, _⟩
              · omega
              · injection hv with h1 h2 h3
                exact ⟨g', h1⟩
            have hat : (rl ++ [((mm : Int), ag)])[rl.length]? = some ((mm : Int), ag) := by simp
            have u0 := h6.pull4.slCell _ (frefs_at hat).1
            have u1 := h6.pull4.slCell _ (frefs_at hat).2
            dsimp only at u0 u1
            have HMg := Lib.hid (HM.out w0 w6.drew _ d p h6.drew)
            have hnn : (rl.length : Int) < (L1 : Int) := by omega
            have hnd : decide ((rl.length : Int) < (L1 : Int)) = true := decide_eq_true hnn
            clear h6 H6 hat hll hL1
            go_region_held3 (fun w' => w'.cell? ⟨g, 0, none⟩ = some (vp d) ∧ w'.cell? ⟨g, 2, none⟩ = some (.slice (some ⟨gs2, 0, none⟩) L1 sc) ∧ w'.cell? ⟨gs2, rl.length * 2, none⟩ = some (vi mm) ∧ w'.cell? ⟨gs2, rl.length * 2 + 1, none⟩ = some (vu ag))
              (first | exact ⟨m0, m2, u0, u1⟩ | exact ⟨o0, o2, o3, o4⟩ | go_keep)
              (first | (go_at_call 26; (with_reducible refine HMg.out.mono ?_); rintro e w7 ⟨rfl, hS7⟩; have o0 := hS7.pull3.cell 0 rfl; have o2 := hS7.pull3.cell 2 rfl; have o3 := hS7.pull4.slCell _ (frefs_at (show (rl ++ [((mm : Int), ag)])[rl.length]? = some ((mm : Int), ag) by simp)).1; have o4 := hS7.pull4.slCell _ (frefs_at (show (rl ++ [((mm : Int), ag)])[rl.length]? = some ((mm : Int), ag) by simp)).2; dsimp only at o3 o4; have H7 := Lib.hid hS7; clear hS7))
            go_wp2_with (first
              | (go_at_call 25; (with_reducible refine (HAl2.out _ _ H7.out).mono ?_); rintro e w8 ⟨vb, rfl, hS8⟩; have H8 := Lib.hid (hS8.cast (show _ = sl 69 13 vb l.length (fpd l) * (sl 69 13 (.slice va_o l.length va_c) l.length (fpd l) * (domB d p * (tblP p ps2 (free1 ++ [mm]) * (pc g 66 [vp d, vp q, .slice (some ⟨gs2, 0, none⟩) L1 sc] * (sl 32 2 (.slice (some ⟨gs2, 0, none⟩) L1 sc) L1 (frefs (rl ++ [((mm : Int), ag)])) * refD q b cap vG ps1 free1 (pc w0.heap.size 63 [vi 1, vi x1, vu x2, vi x3, vi x4, vu x5, vu x6] * emp)))))) by unfold refD; ac_rfl)); clear hS8)
              | (go_at_call 27; (with_reducible refine (rd_same H8.out (by have := HLen.out; omega)).mono ?_); rintro e w10 ⟨rfl, hS10⟩; have H10 := Lib.hid hS10; clear hS10)
              | (go_at_call 22; (with_reducible refine (known09 H10.out).mono ?_); rintro e w9 ⟨rfl, hS9⟩; have H9 := Lib.hid hS9; clear hS9))
            go_ret
            exact ⟨by simp, H9.out.below⟩
    · rw [decide_eq_false hm] at HMay
      clear hm
      go_enter Try.func7, Try.ntmps7
      go_wp2_with (first
        | (go_at_call 21; (with_reducible refine (HMay.out _).mono ?_); rintro e w' ⟨rfl, rfl⟩)
        | (go_at_call 22; (with_reducible refine (known09 H0.out).mono ?_); rintro e w9 ⟨rfl, hS9⟩; have H9 := Lib.hid hS9; clear hS9))
      go_ret
      exact ⟨rfl, H9.out.below⟩
open Go.ChangeShapes Go.WideShapes Go.Deep
abbrev ksRef9 : List CK := [.int .i64, .int .u64]
abbrev ksAct9 : List CK := [.int .i64, .int .i64, .int .u64, .int .i64, .int .i64, .int .u64, .int .u64]
section
variable {H : Type} {enc : TypeId × Value → H} {w : World} {base : Nat} {spare : Nat → Bool} {held : Bool}
theorem rowRef9 : RowT enc Try.prog w base spare held 32 ksRef9 :=
  rowT_struct Try.underlying32 (by kernel_rfl) (by
    intro i f hi
    match i, hi with
    | 0, hi => cases hi; exact ⟨1, by kernel_rfl, rowT_int Try.underlying3⟩
    | 1, hi => cases hi; exact ⟨1, by kernel_rfl, rowT_int Try.underlying22⟩
    | i + 2, hi => exact absurd (Array.getElem?_eq_some_iff.1 hi).1 (by simp)) (by
    intro j hj
    match j, hj with
    | 0, _ => exact ⟨0, _, 1, rfl, by kernel_rfl, by decide, by decide⟩
    | 1, _ => exact ⟨1, _, 1, rfl, by kernel_rfl, by decide, by decide⟩
    | j + 2, hj => exact absurd hj (by simp))
theorem rowAct9 : RowT enc Try.prog w base spare held 63 ksAct9 :=
  rowT_struct Try.underlying63 (by kernel_rfl) (by
    intro i f hi
    match i, hi with
    | 0, hi => cases hi; exact ⟨1, by kernel_rfl, rowT_int Try.underlying3⟩
    | 1, hi => cases hi; exact ⟨2, by kernel_rfl, rowRef9⟩
    | 2, hi => cases hi; exact ⟨1, by kernel_rfl, rowT_int Try.underlying3⟩
    | 3, hi => cases hi; exact ⟨1, by kernel_rfl, rowT_int Try.underlying3⟩
    | 4, hi => cases hi; exact ⟨1, by kernel_rfl, rowT_int Try.underlying22⟩
    | 5, hi => cases hi; exact ⟨1, by kernel_rfl, rowT_int Try.underlying22⟩
    | i + 6, hi => exact absurd (Array.getElem?_eq_some_iff.1 hi).1 (by simp)) (by
    intro j hj
    match j, hj with
    | 0, _ => exact ⟨0, _, 1, rfl, by kernel_rfl, by decide, by decide⟩
    | 1, _ => exact ⟨1, _, 2, rfl, by kernel_rfl, by decide, by decide⟩
    | 2, _ => exact ⟨1, _, 2, rfl, by kernel_rfl, by decide, by decide⟩
    | 3, _ => exact ⟨2, _, 1, rfl, by kernel_rfl, by decide, by decide⟩
    | 4, _ => exact ⟨3, _, 1, rfl, by kernel_rfl, by decide, by decide⟩
    | 5, _ => exact ⟨4, _, 1, rfl, by kernel_rfl, by decide, by decide⟩
    | 6, _ => exact ⟨5, _, 1, rfl, by kernel_rfl, by decide, by decide⟩
    | j + 7, hj => exact absurd hj (by simp))
end
/-- A row of an act's kinds is an act's cells. -/
theorem open_act9 {cs : List Value} (h : IsRow ksAct9 cs) : ∃ x0 x1 x2 x3 x4 x5 x6 : Int, cs = [vi x0, vi x1, vu x2, vi x3, vi x4, vu x5, vu x6] ∧ x3 ≤ 9223372036854775807 ∧ U64 x5 := by
  obtain ⟨u0, e0, c0⟩ := h.at_ (j := 0) rfl
  obtain ⟨a0, rfl, b0⟩ := c0
  obtain ⟨u1, e1, c1⟩ := h.at_ (j := 1) rfl
  obtain ⟨a1, rfl, b1⟩ := c1
  obtain ⟨u2, e2, c2⟩ := h.at_ (j := 2) rfl
  obtain ⟨a2, rfl, b2⟩ := c2
  obtain ⟨u3, e3, c3⟩ := h.at_ (j := 3) rfl
  obtain ⟨a3, rfl, b3⟩ := c3
  obtain ⟨u4, e4, c4⟩ := h.at_ (j := 4) rfl
  obtain ⟨a4, rfl, b4⟩ := c4
  obtain ⟨u5, e5, c5⟩ := h.at_ (j := 5) rfl
  obtain ⟨a5, rfl, b5⟩ := c5
  obtain ⟨u6, e6, c6⟩ := h.at_ (j := 6) rfl
  obtain ⟨a6, rfl, b6⟩ := c6
  have h3 : (Lit.int .i64 a3).wf = true := b3
  have h5 : (Lit.int .u64 a5).wf = true := b5
  simp only [Lit.wf, Bool.and_eq_true, decide_eq_true_eq] at h3 h5
  refine ⟨a0, a1, a2, a3, a4, a5, a6, List.ext_getElem? fun j => ?_, h3.2, h5.1, h5.2⟩
  match j with
  | 0 => exact e0
  | 1 => exact e1
  | 2 => exact e2
  | 3 => exact e3
  | 4 => exact e4
  | 5 => exact e5
  | 6 => exact e6
  | j + 7 => rw [List.getElem?_eq_none (by rw [h.1]; exact Nat.le_add_left 7 j)]; rfl
theorem back_row (w0 : World) (sz : Int) (_ : (Lit.int .i64 sz).wf = true) (gs : Int) (_ : (Lit.int .i64 gs).wf = true) (cpu : Int) (wc : (Lit.int .u64 cpu).wf = true) (per : Int) (_ : (Lit.int .u64 per).wf = true) (v : Value) (len : Nat) (A : Nat → Int) (hA : ArgK w0 7 kA9 v len A) (x0 x1 x2 x3 x4 x5 x6 : Int) (hx3 : x3 ≤ 9223372036854775807) (hx5 : U64 x5) :
    Calls Try.prog 7 #[vi sz, vi gs, vu cpu, vu per, v, .agg #[vi x0, vi x1, vu x2, vi x3, vi x4, vu x5, vu x6]] w0 (QT9 w0) := by
  simp only [Lit.wf, Bool.and_eq_true, decide_eq_true_eq] at wc
  exact back_walk w0 sz gs cpu per wc.1 v len A hA x0 x1 x2 x3 x4 x5 x6 hx3 hx5
end Go.Proofs.Ytfioghpnehfjhaa.Dm
