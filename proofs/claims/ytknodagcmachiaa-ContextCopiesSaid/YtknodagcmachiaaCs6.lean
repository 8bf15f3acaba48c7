/-
  Package context: Same. No statement is proved here.
-/
import Derived.Test.YtknodagcmachiaaMg21
import Derived.Deep.RegionHeld3
namespace Go.Proofs.Ytknodagcmachiaa.Cn
open Go.RowKit Go.Shelf Ac Fi
attribute [local go_sem] Oper.semAt_some
set_option linter.unusedVariables false
set_option linter.unusedSimpArgs false

section
variable {w0 w : World} {F : Hp} {h h2 n T T2 : Nat} {most times times2 : Int} {L0 : Blks} {cs cs2 : List CP} {free free2 : List Nat}
def SameOut (w0 : World) (H : Hp) (P : Prop) (e : Ending) (w' : World) : Prop := ∃ b, e = .returned (.bool b) ∧ (b = true ↔ P) ∧ Sat w0 H w'
theorem p_all_tw (hS : Sat w0 (twX L0 h h2 most cs free cs2 free2 * F) w) :
    Calls Try.prog 19 #[vp h] w fun e w' => ∃ it bx g cap ps L, e = .returned (.func (.func 53) #[] #[vp it]) ∧ (∀ y ∈ L0, y ∈ L) ∧ PM L ps cs ∧ Sat w0 (cxIt it bx g cap ps * (twX L h h2 most cs free cs2 free2 * F)) w' := by
  obtain ⟨L1, G, hl, hs, hb⟩ := tw_fst hS
  refine (p_all hs).mono fun e w' ⟨it, bx, g, cap, ps, L, he, hL, hp, h'⟩ => ?_
  exact ⟨it, bx, g, cap, ps, L, he, fun y hy => hL y (hl y hy), hp, (hb w0 w' L cs free _ hL (h'.cast (show _ = cxQ L h most cs free * (G * (cxIt it bx g cap ps * F)) by ac_rfl))).pull2⟩
set_option maxRecDepth 100000 in
set_option maxHeartbeats 8000000 in
theorem tw_same (hI : Inv n most T cs free times) (hI2 : Inv n most T2 cs2 free2 times2) (hS0 : Sat w0 (twX L0 h h2 most cs free cs2 free2 * F) w) :
    Calls Try.prog 27 #[vp h, vp h2] w (SameOut w0 (twX L0 h h2 most cs free cs2 free2 * F) (SameC cs cs2)) := by
  obtain ⟨p, ps, p2, ps2, L, hL, hp, hp2, hS⟩ := tw_open hS0
  have hlc : cs.length = cs2.length := by rw [hI.len, hI2.len]
  have hps : ps.length = n := by rw [hp.len, hI.len]
  have hps2 : ps2.length = n := by rw [hp2.len, hI2.len]
  have hn32 := hI.small
  have hB0 := (hS.alloc (.cells #[vp h2] 25)).alloc (.cells #[.bool false] 4)
  rw [World.size_alloc] at hB0
  have hB1 : Sat w0 (pc (w.heap.size + 1) 4 [.bool false] * (pc w.heap.size 25 [vp h2] * (cxB h p most * (tblP p ps free * (cxB h2 p2 most * (tblP p2 ps2 free2 * (plB L * F))))))) ((w.alloc (.cells #[vp h2] 25)).alloc (.cells #[.bool false] 4)) := hB0
  have HW1 := Lib.hid (show (w.alloc (.cells #[vp h2] 25)).alloc (.cells #[.bool false] 4) = (w.alloc (.cells #[vp h2] 25)).alloc (.cells #[.bool false] 4) from rfl)
  have z0 := hB1.pull2.cell 0 rfl
  have HN1 := Lib.hid (cx_none hB1.pull3)
  have HN2 := Lib.hid (cx_none (hB1.cast (show _ = cxB h2 p2 most * (pc (w.heap.size + 1) 4 [.bool false] * (pc w.heap.size 25 [vp h2] * (cxB h p most * (tblP p ps free * (tblP p2 ps2 free2 * (plB L * F)))))) by ac_rfl)))
  have HB := Lib.hid (hB1.cast (show _ = cxB h p most * (tblP p ps free * (cxB h2 p2 most * (tblP p2 ps2 free2 * (plB L * (pc w.heap.size 25 [vp h2] * (pc (w.heap.size + 1) 4 [.bool false] * F)))))) by ac_rfl))
  have HLC := Lib.hid hlc
  have HPM := Lib.hid hp
  have HPM2 := Lib.hid hp2
  have HI := Lib.hid hI
  have HI2 := Lib.hid hI2
  have HL := Lib.hid hL
  have HSZ1 : Hid (∀ (w : World) (G : Hp), Sat w0 (tblP p ps free * G) w → Calls Try.prog 61 #[vp p] w fun e w' => e = .returned (vi n) ∧ Sat w0 (tblP p ps free * G) w') := Lib.hid fun w G h => by
    have := da_size h
    rw [hps] at this
    exact this
  have HSZ2 : Hid (∀ (w : World) (G : Hp), Sat w0 (tblP p2 ps2 free2 * G) w → Calls Try.prog 61 #[vp p2] w fun e w' => e = .returned (vi n) ∧ Sat w0 (tblP p2 ps2 free2 * G) w') := Lib.hid fun w G h => by
    have := da_size h
    rw [hps2] at this
    exact this
  have HLN1 : Hid (∀ (w : World) (G : Hp), Sat w0 (cxB h p most * (tblP p ps free * G)) w → Calls Try.prog 33 #[vp h] w fun e w' => e = .returned (vi (cntC cs cs.length)) ∧ Sat w0 (cxB h p most * (tblP p ps free * G)) w') := Lib.hid fun w G hh => by
    refine (cx_len hh (by omega)).mono fun e w' ⟨he, hw⟩ => ⟨?_, hw⟩
    rw [he, hp.seen ps.length (Nat.le_refl _), hp.len]
  have HLN2 : Hid (∀ (w : World) (G : Hp), Sat w0 (cxB h2 p2 most * (tblP p2 ps2 free2 * G)) w → Calls Try.prog 33 #[vp h2] w fun e w' => e = .returned (vi (cntC cs2 cs2.length)) ∧ Sat w0 (cxB h2 p2 most * (tblP p2 ps2 free2 * G)) w') := Lib.hid fun w G hh => by
    refine (cx_len hh (by omega)).mono fun e w' ⟨he, hw⟩ => ⟨?_, hw⟩
    rw [he, hp2.seen ps2.length (Nat.le_refl _), hp2.len]
  clear hS0 hS hB0 hB1 hlc hp hp2 hI hI2 hL hps hps2 hn32
  generalize hwb : (w.alloc (.cells #[vp h2] 25)).alloc (.cells #[.bool false] 4) = wb at *
  generalize hb1 : w.heap.size + 1 = bR at *
  generalize hb2 : w.heap.size = bB at *
  have HWB := Lib.hid hwb
  have HB1 := Lib.hid hb1
  have HB2 := Lib.hid hb2
  clear hwb hb1 hb2 HW1
  have hnn : ((n : Int) != (n : Int)) = false := by simp
  have hmm : (most != most) = false := by simp
  obtain ⟨cn1, hcn1⟩ : ∃ x, x = cntC cs cs.length := ⟨_, rfl⟩
  obtain ⟨cn2, hcn2⟩ : ∃ x, x = cntC cs2 cs2.length := ⟨_, rfl⟩
  rw [← hcn1] at HLN1
  rw [← hcn2] at HLN2
  by_cases hcc : cn1 = cn2
  · have hcb : ((cn1 : Int) != (cn2 : Int)) = false := by simp [hcc]
    have HCC := Lib.hid (show cntC cs cs.length = cntC cs2 cs2.length by rw [← hcn1, ← hcn2, hcc])
    clear hcc hcn1 hcn2
    refine (callsIn_wide (n := 9)).1 ?_
    refine callsIn_of_wp_marks Try.func27 rfl trivial ?_ rfl
    simp only [Try.ntmps27, List.size_toArray, List.length_cons, List.length_nil, Nat.reduceAdd, Nat.reduceSub, Array.replicate_succ, Array.replicate_zero, List.push_toArray, List.append_toArray, List.nil_append, List.cons_append]
    refine wpIn_wide.2 ?_
    go_wp2_with fail
    rw [HWB.out, HB2.out, HB1.out]
    go_wp2_with (first
      | (go_at_call 35; (with_reducible refine HN1.out.mono ?_); rintro e w' ⟨rfl, rfl⟩)
      | (go_at_call 35; (with_reducible refine HN2.out.mono ?_); rintro e w' ⟨rfl, rfl⟩))
    have hd0 := HB.out.drew
    have i0 := (hd0).cell 0 rfl
    have i1 := (hd0).cell 1 rfl
    have i2 := (hd0).pull3.cell 0 rfl
    have i3 := (hd0).pull3.cell 1 rfl
    have i4 := ((hd0).cast (show _ = pc bB 25 [vp h2] * (cxB h p most * (tblP p ps free * (cxB h2 p2 most * (tblP p2 ps2 free2 * (plB L * (pc bR 4 [.bool false] * F)))))) by ac_rfl)).cell 0 rfl
    clear hd0
    go_region_held3 (fun w' => w'.cell? ⟨h, 0, none⟩ = some (vp p) ∧ w'.cell? ⟨h, 1, none⟩ = some (vi most) ∧ w'.cell? ⟨h2, 0, none⟩ = some (vp p2) ∧ w'.cell? ⟨h2, 1, none⟩ = some (vi most) ∧ w'.cell? ⟨bB, 0, none⟩ = some (vp h2))
      (first | exact ⟨i0, i1, i2, i3, i4⟩ | exact ⟨ja0, ja1, ja2, ja3, ja4⟩ | exact ⟨jb0, jb1, jb2, jb3, jb4⟩ | exact ⟨jc0, jc1, jc2, jc3, jc4⟩ | exact ⟨jd0, jd1, jd2, jd3, jd4⟩ | go_keep)
      (first
        | (go_at_call 61; (with_reducible refine (HSZ1.out _ _ (HB.out.drew.cast (show _ = tblP p ps free * (cxB h p most * (cxB h2 p2 most * (tblP p2 ps2 free2 * (plB L * (pc bB 25 [vp h2] * (pc bR 4 [.bool false] * F)))))) by ac_rfl))).mono ?_); rintro e w8 ⟨rfl, hSn⟩; have hn : Sat w0 (cxB h p most * (tblP p ps free * (cxB h2 p2 most * (tblP p2 ps2 free2 * (plB L * (pc bB 25 [vp h2] * (pc bR 4 [.bool false] * F))))))) w8 := hSn.cast (by ac_rfl); have ja0 := (hn).cell 0 rfl; have ja1 := (hn).cell 1 rfl; have ja2 := (hn).pull3.cell 0 rfl; have ja3 := (hn).pull3.cell 1 rfl; have ja4 := ((hn).cast (show _ = pc bB 25 [vp h2] * (cxB h p most * (tblP p ps free * (cxB h2 p2 most * (tblP p2 ps2 free2 * (plB L * (pc bR 4 [.bool false] * F)))))) by ac_rfl)).cell 0 rfl; have H8 := Lib.hid hn; clear hSn hn)
        | (go_at_call 61; (with_reducible refine (HSZ2.out _ _ (H8.out.cast (show _ = tblP p2 ps2 free2 * (cxB h p most * (tblP p ps free * (cxB h2 p2 most * (plB L * (pc bB 25 [vp h2] * (pc bR 4 [.bool false] * F)))))) by ac_rfl))).mono ?_); rintro e w9 ⟨rfl, hSn⟩; have hn : Sat w0 (cxB h p most * (tblP p ps free * (cxB h2 p2 most * (tblP p2 ps2 free2 * (plB L * (pc bB 25 [vp h2] * (pc bR 4 [.bool false] * F))))))) w9 := hSn.cast (by ac_rfl); have jb0 := (hn).cell 0 rfl; have jb1 := (hn).cell 1 rfl; have jb2 := (hn).pull3.cell 0 rfl; have jb3 := (hn).pull3.cell 1 rfl; have jb4 := ((hn).cast (show _ = pc bB 25 [vp h2] * (cxB h p most * (tblP p ps free * (cxB h2 p2 most * (tblP p2 ps2 free2 * (plB L * (pc bR 4 [.bool false] * F)))))) by ac_rfl)).cell 0 rfl; have H9 := Lib.hid hn; clear hSn hn)
        | (go_at_call 33; (with_reducible refine (HLN1.out _ _ H9.out).mono ?_); rintro e w10 ⟨rfl, hSn⟩; have hn : Sat w0 (cxB h p most * (tblP p ps free * (cxB h2 p2 most * (tblP p2 ps2 free2 * (plB L * (pc bB 25 [vp h2] * (pc bR 4 [.bool false] * F))))))) w10 := hSn.cast (by ac_rfl); have jc0 := (hn).cell 0 rfl; have jc1 := (hn).cell 1 rfl; have jc2 := (hn).pull3.cell 0 rfl; have jc3 := (hn).pull3.cell 1 rfl; have jc4 := ((hn).cast (show _ = pc bB 25 [vp h2] * (cxB h p most * (tblP p ps free * (cxB h2 p2 most * (tblP p2 ps2 free2 * (plB L * (pc bR 4 [.bool false] * F)))))) by ac_rfl)).cell 0 rfl; have H10 := Lib.hid hn; clear hSn hn)
        | (go_at_call 33; (with_reducible refine (HLN2.out _ _ (H10.out.cast (show _ = cxB h2 p2 most * (tblP p2 ps2 free2 * (cxB h p most * (tblP p ps free * (plB L * (pc bB 25 [vp h2] * (pc bR 4 [.bool false] * F)))))) by ac_rfl))).mono ?_); rintro e w11 ⟨rfl, hSn⟩; have hn : Sat w0 (cxB h p most * (tblP p ps free * (cxB h2 p2 most * (tblP p2 ps2 free2 * (plB L * (pc bB 25 [vp h2] * (pc bR 4 [.bool false] * F))))))) w11 := hSn.cast (by ac_rfl); have jd0 := (hn).cell 0 rfl; have jd1 := (hn).cell 1 rfl; have jd2 := (hn).pull3.cell 0 rfl; have jd3 := (hn).pull3.cell 1 rfl; have jd4 := ((hn).cast (show _ = pc bB 25 [vp h2] * (cxB h p most * (tblP p ps free * (cxB h2 p2 most * (tblP p2 ps2 free2 * (plB L * (pc bR 4 [.bool false] * F)))))) by ac_rfl)).cell 0 rfl; have H11 := Lib.hid hn; clear hSn hn))
    have H12 := H11
    have HTW := Lib.hid (tw_shut (L0 := L) (fun y hy => hy) HPM.out HPM2.out (H12.out.cast (show _ = cxB h p most * (tblP p ps free * (cxB h2 p2 most * (tblP p2 ps2 free2 * (plB L * (pc bB 25 [vp h2] * (pc bR 4 [.bool false] * F)))))) by ac_rfl)))
    clear H8 H9 H10 H11 H12 HSZ1 HSZ2 HLN1 HLN2 hcb hnn hmm HN1 HN2 HB z0
    have HALL := Lib.hid (p_all_tw HTW.out)
    go_wp2_with (go_at_call 19; (with_reducible refine HALL.out.mono ?_); rintro e w13 ⟨it, bx, g, cap, ps3, L3, rfl, hL3, hp3, hS13⟩; have H13 := Lib.hid hS13; have HP3 := Lib.hid hp3; have HL3 := Lib.hid hL3; clear hS13 hp3 hL3)
    refine (wpIn_wide (n := 9)).1 ?_
    refine wpIn_act ?_
    intro a0 ha0
    refine wpIn_range_stop (H' := cxIt it bx g cap ps3 * (given (MatchC cs cs2 cs.length) (twX L3 h h2 most cs free cs2 free2 * (pc bB 25 [vp h2] * (pc bR 4 [.bool false] * F))))) (S := fun c => given (c = .ret) (cxIt it bx g cap ps3 * (given (¬ SameC cs cs2) (twX L3 h h2 most cs free cs2 free2 * (pc bB 25 [vp h2] * (pc bR 4 [.bool false] * F)))))) rfl (by omega) (gf := 53) (lb := #[vp it]) (by rw [ha0]; rfl) trivial (enters_of Try.func53 (by kernel_rfl) rfl) H13.out ?call ?done ?stop
    case call =>
      intro fn ll DD R Rd W hfn hR hRd hS
      have hM0 : MatchC cs cs2 0 := fun k hk => by omega
      have hS1 : Sat w0 (cxIt it bx g cap ps3 * (pt ll R * (pt DD dmark * (given (MatchC cs cs2 0) (twX L3 h h2 most cs free cs2 free2 * (pc bB 25 [vp h2] * (pc bR 4 [.bool false] * F))))))) W := (Sat.givenI (A := twX L3 h h2 most cs free cs2 free2 * (pc bB 25 [vp h2] * (pc bR 4 [.bool false] * F))) (F := cxIt it bx g cap ps3 * (pt ll R * pt DD dmark)) hM0 (hS.cast (by ac_rfl))).cast (by ac_rfl)
      have hpl : ps3.length = cs.length := HP3.out.len
      have hl3 : ps3.length ≤ 4096 := by have := HI.out.len; have := HI.out.small; omega
      refine (cx_all2 (L := L3) HP3.out hl3 (fun k c hk => ?lens) (fun k => pt ll R * (pt DD dmark * (given (MatchC cs cs2 k) (twX L3 h h2 most cs free cs2 free2 * (pc bB 25 [vp h2] * (pc bR 4 [.bool false] * F)))))) (ex fun c => pt ll (Rd c) * (pt DD dmark * given (c = .ret) (given (¬ SameC cs cs2) (twX L3 h h2 most cs free cs2 free2 * (pc bB 25 [vp h2] * (pc bR 4 [.bool false] * F)))))) ?rd ?skip ?round hS1).mono ?back
      case lens =>
        by_cases hct : c.there = true
        · have := (HI.out.live k c hk hct).len
          have := HI.out.mst
          omega
        · rw [HI.out.gone k c hk (by simpa using hct)]
          simp
      case rd =>
        intro k W F3 h3 v l hi
        have h4 := h3.cast (show _ = (given (MatchC cs cs2 k) (twX L3 h h2 most cs free cs2 free2 * (pc bB 25 [vp h2] * (pc bR 4 [.bool false] * F)))) * (pt ll R * (pt DD dmark * F3)) by ac_rfl)
        obtain ⟨_, h5⟩ := h4.givenE
        exact tw_rd (h5.cast (show _ = twX L3 h h2 most cs free cs2 free2 * ((pc bB 25 [vp h2] * (pc bR 4 [.bool false] * F)) * (pt ll R * (pt DD dmark * F3))) by ac_rfl)) hi
      case skip =>
        intro k c W F3 hk hct h3
        have h4 := h3.cast (show _ = (given (MatchC cs cs2 k) (twX L3 h h2 most cs free cs2 free2 * (pc bB 25 [vp h2] * (pc bR 4 [.bool false] * F)))) * (pt ll R * (pt DD dmark * F3)) by ac_rfl)
        obtain ⟨hM, h5⟩ := h4.givenE
        have hM2 : MatchC cs cs2 (k + 1) := hM.next fun c' hc' ht' => by
          rw [hk] at hc'
          cases hc'
          rw [hct] at ht'
          cases ht'
        exact (Sat.givenI (A := twX L3 h h2 most cs free cs2 free2 * (pc bB 25 [vp h2] * (pc bR 4 [.bool false] * F))) (F := pt ll R * (pt DD dmark * F3)) hM2 h5).cast (by ac_rfl)
      case back =>
        rintro e W' ⟨he, b, h3⟩
        refine ⟨he, ?_⟩
        cases b with
        | true =>
          rw [if_pos rfl, hpl] at h3
          exact .inl (h3.cast (by ac_rfl))
        | false =>
          rw [if_neg (by simp)] at h3
          obtain ⟨c, h4⟩ := (h3.cast (sep_comm _ _)).exE
          obtain ⟨hc, h5⟩ := (h4.cast (show _ = given (c = .ret) (given (¬ SameC cs cs2) (twX L3 h h2 most cs free cs2 free2 * (pc bB 25 [vp h2] * (pc bR 4 [.bool false] * F)))) * (pt ll (Rd c) * (pt DD dmark * cxIt it bx g cap ps3)) by ac_rfl)).givenE
          exact .inr ⟨c, (Sat.givenI (A := cxIt it bx g cap ps3 * (given (¬ SameC cs cs2) (twX L3 h h2 most cs free cs2 free2 * (pc bB 25 [vp h2] * (pc bR 4 [.bool false] * F))))) (F := pt ll (Rd c) * pt DD dmark) hc (h5.cast (by ac_rfl))).cast (by ac_rfl)⟩
      case round =>
        intro k c ao lc W2 F2 hc hct hS2
        obtain ⟨hM, hS3⟩ := (hS2.cast (show _ = (given (MatchC cs cs2 k) (twX L3 h h2 most cs free cs2 free2 * (pc bB 25 [vp h2] * (pc bR 4 [.bool false] * F)))) * (fiS (.slice ao c.cx.l.length lc) c.cx.l * (pt ll R * (pt DD dmark * F2))) by ac_rfl)).givenE
        have hlive := HI.out.live k c hc hct
        have hA2 := HI2.out.anyC k c.gen
        have HSO : Hid (SameC cs cs2 → eC cs2 k c.gen = 0 ∧ gC cs2 k c.gen = c.cx) := Lib.hid fun hs => hs.at_ HLC.out hc hct
        have HNO : Hid (eC cs2 k c.gen = 0 ∧ gC cs2 k c.gen = c.cx → MatchC cs cs2 (k + 1)) := Lib.hid fun hh => hM.next fun c' hc' _ => by
          rw [hc] at hc'
          cases hc'
          exact hh
        have HGT := Lib.hid (fun (w : World) (G : Hp) (h' : Sat w0 (twX L3 h h2 most cs free cs2 free2 * G) w) => tw_get HI2.out h' k c.gen)
        have hE := eC_01 cs2 k c.gen
        have hEz : eC cs2 k c.gen = 11 → gC cs2 k c.gen = cz := fun h => gC_no h
        have hb1 := hlive.b.1
        have HOKX := Lib.hid hlive.ok
        have hxlen : c.cx.l.length ≤ 1000 := by have := hlive.len; have := HI.out.mst; omega
        obtain ⟨cg, cth, ⟨xb, xp, xl, xn⟩, cf⟩ := c
        dsimp only at hS3 HSO HNO HGT hE hEz hb1 HOKX hxlen hA2 ⊢
        clear hS hS1 hS2 hM hM0 hc hct hlive hl3 hpl
        generalize cg = xg at *
        generalize gC cs2 k xg = Y at *
        generalize eC cs2 k xg = E at *
        obtain ⟨yb, yp, yl, yn⟩ := Y
        dsimp only at HGT hA2
        obtain ⟨hoky, hly, -⟩ := hA2
        have HOKY := Lib.hid hoky
        have h3 : Sat w0 (pt ll R * (fiS (.slice ao xl.length lc) xl * (twX L3 h h2 most cs free cs2 free2 * (pc bB 25 [vp h2] * (pc bR 4 [.bool false] * (F * (pt DD dmark * F2))))))) W2 := hS3.cast (by ac_rfl)
        have H3 := Lib.hid h3
        have h4' := (h3.alloc (.cells #[vi k, vu xg] 30)).alloc (elO (⟨xb, xp, ao, xl.length, lc, xn⟩ : El))
        rw [size1] at h4'
        have h4'' : Sat w0 (pc (W2.heap.size + 1) 49 (elC (⟨xb, xp, ao, xl.length, lc, xn⟩ : El)) * (pc W2.heap.size 30 [vi k, vu xg] * (pt ll R * (fiS (.slice ao xl.length lc) xl * (twX L3 h h2 most cs free cs2 free2 * (pc bB 25 [vp h2] * (pc bR 4 [.bool false] * (F * (pt DD dmark * F2))))))))) ((W2.alloc (.cells #[vi k, vu xg] 30)).alloc (elO (⟨xb, xp, ao, xl.length, lc, xn⟩ : El))) := h4'
        have H4 := Lib.hid (h4''.cast (show _ = pt ll R * (pc W2.heap.size 30 [vi k, vu xg] * (pc (W2.heap.size + 1) 49 (elC (⟨xb, xp, ao, xl.length, lc, xn⟩ : El)) * (pc bB 25 [vp h2] * (fiS (.slice ao xl.length lc) xl * (twX L3 h h2 most cs free cs2 free2 * (pc bR 4 [.bool false] * (F * (pt DD dmark * F2)))))))) by ac_rfl))
        clear hS3 h3 h4' h4'' hoky
        have hY := yield_stop (P := Try.prog) (G := Fence.wide) (n := 7 - 1 - 1) (args := #[vr k xg, ev (⟨xb, xp, ao, xl.length, lc, xn⟩ : El)]) (X' := pt DD dmark * ((given (MatchC cs cs2 (k + 1)) (twX L3 h h2 most cs free cs2 free2 * (pc bB 25 [vp h2] * (pc bR 4 [.bool false] * F)))) * F2)) (S := fun c => given (c = .ret) (pt DD dmark * ((given (¬ SameC cs cs2) (twX L3 h h2 most cs free cs2 free2 * (pc bB 25 [vp h2] * (pc bR 4 [.bool false] * F)))) * F2)))
          (A := fun a' W' => a' = { tmps := (((a0.tmps.setIfInBounds 53 (vr k xg)).setIfInBounds 54 (ev (⟨xb, xp, ao, xl.length, lc, xn⟩ : El))).setIfInBounds 5 (.pointer (some ⟨W2.heap.size, 0, none⟩))).setIfInBounds 6 (.pointer (some ⟨W2.heap.size + 1, 0, none⟩)), defers := [] } ∧ W' = (W2.alloc (.cells #[vi k, vu xg] 30)).alloc (elO (⟨xb, xp, ao, xl.length, lc, xn⟩ : El))) hfn rfl hR hRd H3.out ?ha ?assign ?body
        case ha =>
          rintro a' W' ⟨_, rfl⟩
          exact H4.out.blk.1
        case assign =>
          intro K hK
          have HK := Lib.hid hK
          clear hK hR hRd
          subst ha0
          gi_wp2
          exact HK.out _ _ ⟨by simp, rfl⟩
        case body =>
          rintro B a' W' ⟨rfl, rfl⟩
          have h5 : Sat w0 (pt ll B * _) _ := H4.out.putObj (o' := B)
          clear hR hRd H3 H4 HP3 HL3 HLC HCC HPM HPM2 HI HI2 HL
          subst ha0
          simp only [List.setIfInBounds_toArray, List.set_cons_succ, List.set_cons_zero]
          generalize (((W2.alloc (.cells #[vi k, vu xg] 30)).alloc (elO (⟨xb, xp, ao, xl.length, lc, xn⟩ : El))).putObj ll B) = W3 at *
          generalize W2.heap.size = ba at *
          have p0 := h5.pull2.cell 0 rfl
          have p1 := h5.pull2.cell 1 rfl
          have o0 := h5.pull4.cell 0 rfl
          have HG := Lib.hid (HGT.out W3 _ (h5.cast (show _ = twX L3 h h2 most cs free cs2 free2 * (pt ll B * (pc ba 30 [vi k, vu xg] * (pc (ba + 1) 49 (elC (⟨xb, xp, ao, xl.length, lc, xn⟩ : El)) * (fiS (.slice ao xl.length lc) xl * (pc bB 25 [vp h2] * (pc bR 4 [.bool false] * (F * (pt DD dmark * F2)))))))) by ac_rfl)))
          clear h5 HGT
          rcases hE with rfl | rfl
          · by_cases e1 : xb = yb
            · subst e1
              by_cases e2 : xp = yp
              · subst e2
                by_cases e3 : xn = yn
                · subst e3
                  by_cases e4 : xl = yl
                  · subst e4
                    have HNX := Lib.hid (HNO.out ⟨rfl, rfl⟩)
                    have HEQ : Hid (∀ (ao : Option Addr) (lc : Nat) (bo : Option Addr) (bc : Nat) (w : World), RdF w (.slice ao xl.length lc) xl → RdF w (.slice bo xl.length bc) xl → Calls Try.prog 62 #[.slice ao xl.length lc, .slice bo xl.length bc] w fun e w' => e = .returned (.bool true) ∧ Below w.heap.size w w') := Lib.hid (fun ao lc bo bc w h1 h2 => (sequal_ xl xl _ _ w h1 h2 (by omega) (by omega)).mono fun e w' ⟨b, he, hb, hbl⟩ => ⟨by rw [he, hb.2 rfl], hbl⟩)
                    clear HSO HNO hEz hb1
                    gi_wp2_with (first
                      | (refine ⟨trivial, ?_⟩; gi_at_call 29; (with_reducible refine ((callsIn_wide.2 HG.out).inRound ll).mono ?_); rintro e w6 ⟨bo, bc, rfl, hS6⟩; have h6 := (show Sat w0 (pc w6.heap.size 49 (elC (⟨xb, xp, bo, xl.length, bc, xn⟩ : El)) * _) _ from hS6.alloc (elO ⟨xb, xp, bo, xl.length, bc, xn⟩)).cast (show _ = fiS (.slice ao xl.length lc) xl * (pc (ba + 1) 49 (elC (⟨xb, xp, ao, xl.length, lc, xn⟩ : El)) * (pc w6.heap.size 49 (elC (⟨xb, xp, bo, xl.length, bc, xn⟩ : El)) * (fiS (.slice bo xl.length bc) xl * (pt ll B * (twX L3 h h2 most cs free cs2 free2 * (pc bB 25 [vp h2] * (pc bR 4 [.bool false] * (F * (pt DD dmark * (F2 * pc ba 30 [vi k, vu xg])))))))))) by ac_rfl); have x0 := h6.pull2.cell 0 rfl; have x1 := h6.pull2.cell 1 rfl; have x2 := h6.pull2.cell 2 rfl; have x3 := h6.pull2.cell 3 rfl; have y0 := h6.pull3.cell 0 rfl; have y1 := h6.pull3.cell 1 rfl; have y2 := h6.pull3.cell 2 rfl; have y3 := h6.pull3.cell 3 rfl; have h6b := h6.cast (show _ = pc bR 4 [.bool false] * (fiS (.slice ao xl.length lc) xl * (fiS (.slice bo xl.length bc) xl * (pt ll B * (twX L3 h h2 most cs free cs2 free2 * (pc bB 25 [vp h2] * (F * (pt DD dmark * (F2 * (pc ba 30 [vi k, vu xg] * (pc (ba + 1) 49 (elC (⟨xb, xp, ao, xl.length, lc, xn⟩ : El)) * pc w6.heap.size 49 (elC (⟨xb, xp, bo, xl.length, bc, xn⟩ : El)))))))))))) by ac_rfl); have r0 := h6b.cell 0 rfl; have rf := h6b.free 0; have H6 := Lib.hid h6b; clear hS6 h6 h6b)
                      | (refine ⟨trivial, ?_⟩; gi_at_call 62; (with_reducible refine ((callsIn_wide.2 (HEQ.out ao lc bo bc _ (Sat.fiR H6.out.dropL HOKX.out) (Sat.fiR H6.out.dropL.dropL HOKY.out))).inRound ll).mono ?_); rintro e w7 ⟨rfl, hb⟩; have h7 := Sat.after H6.out hb; have r0 := h7.cell 0 rfl; have rf := h7.free 0; have H7 := Lib.hid h7; clear hb h7)
                      )
                    gi_wp2
                    have h9 := (H7.out.cast (show _ = fiS (.slice ao xl.length lc) xl * (fiS (.slice bo xl.length bc) xl * (pc ba 30 [vi k, vu xg] * (pc (ba + 1) 49 (elC (⟨xb, xp, ao, xl.length, lc, xn⟩ : El)) * (pc w6.heap.size 49 (elC (⟨xb, xp, bo, xl.length, bc, xn⟩ : El)) * (pt ll B * (twX L3 h h2 most cs free cs2 free2 * (pc bB 25 [vp h2] * (pc bR 4 [.bool false] * (F * (pt DD dmark * F2)))))))))) by ac_rfl)).dropL.dropL.dropL.dropL.dropL
                    have h10 := Sat.givenI (A := twX L3 h h2 most cs free cs2 free2 * (pc bB 25 [vp h2] * (pc bR 4 [.bool false] * F))) (F := pt ll B * (pt DD dmark * F2)) HNX.out (h9.cast (by ac_rfl))
                    exact h10.cast (by ac_rfl)
                  · have HBAD : Hid (¬ SameC cs cs2) := Lib.hid (fun hs => by have h9 := HSO.out hs; exact e4 (congrArg Cx.l h9.2).symm)
                    have HEQ : Hid (∀ (ao : Option Addr) (lc : Nat) (bo : Option Addr) (bc : Nat) (w : World), RdF w (.slice ao xl.length lc) xl → RdF w (.slice bo yl.length bc) yl → Calls Try.prog 62 #[.slice ao xl.length lc, .slice bo yl.length bc] w fun e w' => e = .returned (.bool false) ∧ Below w.heap.size w w') := Lib.hid (fun ao lc bo bc w h1 h2 => (sequal_ xl yl _ _ w h1 h2 (by omega) (by omega)).mono fun e w' ⟨b, he, hb, hbl⟩ => ⟨(by cases b; exact he; exact absurd (hb.1 rfl) e4), hbl⟩)
                    clear HSO HNO hEz hb1
                    gi_wp2_with (first
                      | (refine ⟨trivial, ?_⟩; gi_at_call 29; (with_reducible refine ((callsIn_wide.2 HG.out).inRound ll).mono ?_); rintro e w6 ⟨bo, bc, rfl, hS6⟩; have h6 := (show Sat w0 (pc w6.heap.size 49 (elC (⟨xb, xp, bo, yl.length, bc, xn⟩ : El)) * _) _ from hS6.alloc (elO ⟨xb, xp, bo, yl.length, bc, xn⟩)).cast (show _ = fiS (.slice ao xl.length lc) xl * (pc (ba + 1) 49 (elC (⟨xb, xp, ao, xl.length, lc, xn⟩ : El)) * (pc w6.heap.size 49 (elC (⟨xb, xp, bo, yl.length, bc, xn⟩ : El)) * (fiS (.slice bo yl.length bc) yl * (pt ll B * (twX L3 h h2 most cs free cs2 free2 * (pc bB 25 [vp h2] * (pc bR 4 [.bool false] * (F * (pt DD dmark * (F2 * pc ba 30 [vi k, vu xg])))))))))) by ac_rfl); have x0 := h6.pull2.cell 0 rfl; have x1 := h6.pull2.cell 1 rfl; have x2 := h6.pull2.cell 2 rfl; have x3 := h6.pull2.cell 3 rfl; have y0 := h6.pull3.cell 0 rfl; have y1 := h6.pull3.cell 1 rfl; have y2 := h6.pull3.cell 2 rfl; have y3 := h6.pull3.cell 3 rfl; have h6b := h6.cast (show _ = pc bR 4 [.bool false] * (fiS (.slice ao xl.length lc) xl * (fiS (.slice bo yl.length bc) yl * (pt ll B * (twX L3 h h2 most cs free cs2 free2 * (pc bB 25 [vp h2] * (F * (pt DD dmark * (F2 * (pc ba 30 [vi k, vu xg] * (pc (ba + 1) 49 (elC (⟨xb, xp, ao, xl.length, lc, xn⟩ : El)) * pc w6.heap.size 49 (elC (⟨xb, xp, bo, yl.length, bc, xn⟩ : El)))))))))))) by ac_rfl); have r0 := h6b.cell 0 rfl; have rf := h6b.free 0; have H6 := Lib.hid h6b; clear hS6 h6 h6b)
                      | (refine ⟨trivial, ?_⟩; gi_at_call 62; (with_reducible refine ((callsIn_wide.2 (HEQ.out ao lc bo bc _ (Sat.fiR H6.out.dropL HOKX.out) (Sat.fiR H6.out.dropL.dropL HOKY.out))).inRound ll).mono ?_); rintro e w7 ⟨rfl, hb⟩; have h7 := Sat.after H6.out hb; have r0 := h7.cell 0 rfl; have rf := h7.free 0; have H7 := Lib.hid h7; clear hb h7)
                      )
                    have H8 := Lib.hid (H7.out.store 0 (.bool false))
                    gi_wp2
                    have h9 := (H8.out.cast (show _ = fiS (.slice ao xl.length lc) xl * (fiS (.slice bo yl.length bc) yl * (pc ba 30 [vi k, vu xg] * (pc (ba + 1) 49 (elC (⟨xb, xp, ao, xl.length, lc, xn⟩ : El)) * (pc w6.heap.size 49 (elC (⟨xb, xp, bo, yl.length, bc, xn⟩ : El)) * (pt ll B * (twX L3 h h2 most cs free cs2 free2 * (pc bB 25 [vp h2] * (pc bR 4 [.bool false] * (F * (pt DD dmark * F2)))))))))) by simp only [List.set_cons_zero]; ac_rfl)).dropL.dropL.dropL.dropL.dropL
                    have h10 := Sat.givenI (A := twX L3 h h2 most cs free cs2 free2 * (pc bB 25 [vp h2] * (pc bR 4 [.bool false] * F))) (F := pt ll B * (pt DD dmark * F2)) HBAD.out (h9.cast (by ac_rfl))
                    exact (Sat.givenI (p := Code.ret = .ret) (A := pt DD dmark * ((given (¬ SameC cs cs2) (twX L3 h h2 most cs free cs2 free2 * (pc bB 25 [vp h2] * (pc bR 4 [.bool false] * F)))) * F2)) (F := pt ll B) rfl (h10.cast (by ac_rfl))).cast (sep_comm _ _)
                · have HBAD : Hid (¬ SameC cs cs2) := Lib.hid (fun hs => by have h9 := HSO.out hs; exact e3 (congrArg Cx.n h9.2).symm)
                  have e3b : (xn == yn) = false := beq_eq_false_iff_ne.2 e3
                  clear HSO HNO hEz hb1
                  gi_wp2_with (first
                    | (refine ⟨trivial, ?_⟩; gi_at_call 29; (with_reducible refine ((callsIn_wide.2 HG.out).inRound ll).mono ?_); rintro e w6 ⟨bo, bc, rfl, hS6⟩; have h6 := (show Sat w0 (pc w6.heap.size 49 (elC (⟨xb, xp, bo, yl.length, bc, yn⟩ : El)) * _) _ from hS6.alloc (elO ⟨xb, xp, bo, yl.length, bc, yn⟩)).cast (show _ = fiS (.slice ao xl.length lc) xl * (pc (ba + 1) 49 (elC (⟨xb, xp, ao, xl.length, lc, xn⟩ : El)) * (pc w6.heap.size 49 (elC (⟨xb, xp, bo, yl.length, bc, yn⟩ : El)) * (fiS (.slice bo yl.length bc) yl * (pt ll B * (twX L3 h h2 most cs free cs2 free2 * (pc bB 25 [vp h2] * (pc bR 4 [.bool false] * (F * (pt DD dmark * (F2 * pc ba 30 [vi k, vu xg])))))))))) by ac_rfl); have x0 := h6.pull2.cell 0 rfl; have x1 := h6.pull2.cell 1 rfl; have x2 := h6.pull2.cell 2 rfl; have x3 := h6.pull2.cell 3 rfl; have y0 := h6.pull3.cell 0 rfl; have y1 := h6.pull3.cell 1 rfl; have y2 := h6.pull3.cell 2 rfl; have y3 := h6.pull3.cell 3 rfl; have h6b := h6.cast (show _ = pc bR 4 [.bool false] * (fiS (.slice ao xl.length lc) xl * (fiS (.slice bo yl.length bc) yl * (pt ll B * (twX L3 h h2 most cs free cs2 free2 * (pc bB 25 [vp h2] * (F * (pt DD dmark * (F2 * (pc ba 30 [vi k, vu xg] * (pc (ba + 1) 49 (elC (⟨xb, xp, ao, xl.length, lc, xn⟩ : El)) * pc w6.heap.size 49 (elC (⟨xb, xp, bo, yl.length, bc, yn⟩ : El)))))))))))) by ac_rfl); have r0 := h6b.cell 0 rfl; have rf := h6b.free 0; have H6 := Lib.hid h6b; clear hS6 h6 h6b)
                    | (refine ⟨trivial, ?_⟩)
                    )
                  have H8 := Lib.hid (H6.out.store 0 (.bool false))
                  gi_wp2
                  have h9 := (H8.out.cast (show _ = fiS (.slice ao xl.length lc) xl * (fiS (.slice bo yl.length bc) yl * (pc ba 30 [vi k, vu xg] * (pc (ba + 1) 49 (elC (⟨xb, xp, ao, xl.length, lc, xn⟩ : El)) * (pc w6.heap.size 49 (elC (⟨xb, xp, bo, yl.length, bc, yn⟩ : El)) * (pt ll B * (twX L3 h h2 most cs free cs2 free2 * (pc bB 25 [vp h2] * (pc bR 4 [.bool false] * (F * (pt DD dmark * F2)))))))))) by simp only [List.set_cons_zero]; ac_rfl)).dropL.dropL.dropL.dropL.dropL
                  have h10 := Sat.givenI (A := twX L3 h h2 most cs free cs2 free2 * (pc bB 25 [vp h2] * (pc bR 4 [.bool false] * F))) (F := pt ll B * (pt DD dmark * F2)) HBAD.out (h9.cast (by ac_rfl))
                  exact (Sat.givenI (p := Code.ret = .ret) (A := pt DD dmark * ((given (¬ SameC cs cs2) (twX L3 h h2 most cs free cs2 free2 * (pc bB 25 [vp h2] * (pc bR 4 [.bool false] * F)))) * F2)) (F := pt ll B) rfl (h10.cast (by ac_rfl))).cast (sep_comm _ _)
              · have HBAD : Hid (¬ SameC cs cs2) := Lib.hid (fun hs => by have h9 := HSO.out hs; exact e2 (congrArg Cx.p h9.2).symm)
                have e2b : (xp == yp) = false := beq_eq_false_iff_ne.2 e2
                clear HSO HNO hEz hb1
                gi_wp2_with (first
                  | (refine ⟨trivial, ?_⟩; gi_at_call 29; (with_reducible refine ((callsIn_wide.2 HG.out).inRound ll).mono ?_); rintro e w6 ⟨bo, bc, rfl, hS6⟩; have h6 := (show Sat w0 (pc w6.heap.size 49 (elC (⟨xb, yp, bo, yl.length, bc, yn⟩ : El)) * _) _ from hS6.alloc (elO ⟨xb, yp, bo, yl.length, bc, yn⟩)).cast (show _ = fiS (.slice ao xl.length lc) xl * (pc (ba + 1) 49 (elC (⟨xb, xp, ao, xl.length, lc, xn⟩ : El)) * (pc w6.heap.size 49 (elC (⟨xb, yp, bo, yl.length, bc, yn⟩ : El)) * (fiS (.slice bo yl.length bc) yl * (pt ll B * (twX L3 h h2 most cs free cs2 free2 * (pc bB 25 [vp h2] * (pc bR 4 [.bool false] * (F * (pt DD dmark * (F2 * pc ba 30 [vi k, vu xg])))))))))) by ac_rfl); have x0 := h6.pull2.cell 0 rfl; have x1 := h6.pull2.cell 1 rfl; have x2 := h6.pull2.cell 2 rfl; have x3 := h6.pull2.cell 3 rfl; have y0 := h6.pull3.cell 0 rfl; have y1 := h6.pull3.cell 1 rfl; have y2 := h6.pull3.cell 2 rfl; have y3 := h6.pull3.cell 3 rfl; have h6b := h6.cast (show _ = pc bR 4 [.bool false] * (fiS (.slice ao xl.length lc) xl * (fiS (.slice bo yl.length bc) yl * (pt ll B * (twX L3 h h2 most cs free cs2 free2 * (pc bB 25 [vp h2] * (F * (pt DD dmark * (F2 * (pc ba 30 [vi k, vu xg] * (pc (ba + 1) 49 (elC (⟨xb, xp, ao, xl.length, lc, xn⟩ : El)) * pc w6.heap.size 49 (elC (⟨xb, yp, bo, yl.length, bc, yn⟩ : El)))))))))))) by ac_rfl); have r0 := h6b.cell 0 rfl; have rf := h6b.free 0; have H6 := Lib.hid h6b; clear hS6 h6 h6b)
                  | (refine ⟨trivial, ?_⟩)
                  )
                have H8 := Lib.hid (H6.out.store 0 (.bool false))
                gi_wp2
                have h9 := (H8.out.cast (show _ = fiS (.slice ao xl.length lc) xl * (fiS (.slice bo yl.length bc) yl * (pc ba 30 [vi k, vu xg] * (pc (ba + 1) 49 (elC (⟨xb, xp, ao, xl.length, lc, xn⟩ : El)) * (pc w6.heap.size 49 (elC (⟨xb, yp, bo, yl.length, bc, yn⟩ : El)) * (pt ll B * (twX L3 h h2 most cs free cs2 free2 * (pc bB 25 [vp h2] * (pc bR 4 [.bool false] * (F * (pt DD dmark * F2)))))))))) by simp only [List.set_cons_zero]; ac_rfl)).dropL.dropL.dropL.dropL.dropL
                have h10 := Sat.givenI (A := twX L3 h h2 most cs free cs2 free2 * (pc bB 25 [vp h2] * (pc bR 4 [.bool false] * F))) (F := pt ll B * (pt DD dmark * F2)) HBAD.out (h9.cast (by ac_rfl))
                exact (Sat.givenI (p := Code.ret = .ret) (A := pt DD dmark * ((given (¬ SameC cs cs2) (twX L3 h h2 most cs free cs2 free2 * (pc bB 25 [vp h2] * (pc bR 4 [.bool false] * F)))) * F2)) (F := pt ll B) rfl (h10.cast (by ac_rfl))).cast (sep_comm _ _)
            · have HBAD : Hid (¬ SameC cs cs2) := Lib.hid (fun hs => by have h9 := HSO.out hs; exact e1 (congrArg Cx.b h9.2).symm)
              have e1b : (xb == yb) = false := beq_eq_false_iff_ne.2 e1
              clear HSO HNO hEz hb1
              gi_wp2_with (first
                | (refine ⟨trivial, ?_⟩; gi_at_call 29; (with_reducible refine ((callsIn_wide.2 HG.out).inRound ll).mono ?_); rintro e w6 ⟨bo, bc, rfl, hS6⟩; have h6 := (show Sat w0 (pc w6.heap.size 49 (elC (⟨yb, yp, bo, yl.length, bc, yn⟩ : El)) * _) _ from hS6.alloc (elO ⟨yb, yp, bo, yl.length, bc, yn⟩)).cast (show _ = fiS (.slice ao xl.length lc) xl * (pc (ba + 1) 49 (elC (⟨xb, xp, ao, xl.length, lc, xn⟩ : El)) * (pc w6.heap.size 49 (elC (⟨yb, yp, bo, yl.length, bc, yn⟩ : El)) * (fiS (.slice bo yl.length bc) yl * (pt ll B * (twX L3 h h2 most cs free cs2 free2 * (pc bB 25 [vp h2] * (pc bR 4 [.bool false] * (F * (pt DD dmark * (F2 * pc ba 30 [vi k, vu xg])))))))))) by ac_rfl); have x0 := h6.pull2.cell 0 rfl; have x1 := h6.pull2.cell 1 rfl; have x2 := h6.pull2.cell 2 rfl; have x3 := h6.pull2.cell 3 rfl; have y0 := h6.pull3.cell 0 rfl; have y1 := h6.pull3.cell 1 rfl; have y2 := h6.pull3.cell 2 rfl; have y3 := h6.pull3.cell 3 rfl; have h6b := h6.cast (show _ = pc bR 4 [.bool false] * (fiS (.slice ao xl.length lc) xl * (fiS (.slice bo yl.length bc) yl * (pt ll B * (twX L3 h h2 most cs free cs2 free2 * (pc bB 25 [vp h2] * (F * (pt DD dmark * (F2 * (pc ba 30 [vi k, vu xg] * (pc (ba + 1) 49 (elC (⟨xb, xp, ao, xl.length, lc, xn⟩ : El)) * pc w6.heap.size 49 (elC (⟨yb, yp, bo, yl.length, bc, yn⟩ : El)))))))))))) by ac_rfl); have r0 := h6b.cell 0 rfl; have rf := h6b.free 0; have H6 := Lib.hid h6b; clear hS6 h6 h6b)
                | (refine ⟨trivial, ?_⟩)
                )
              have H8 := Lib.hid (H6.out.store 0 (.bool false))
              gi_wp2
              have h9 := (H8.out.cast (show _ = fiS (.slice ao xl.length lc) xl * (fiS (.slice bo yl.length bc) yl * (pc ba 30 [vi k, vu xg] * (pc (ba + 1) 49 (elC (⟨xb, xp, ao, xl.length, lc, xn⟩ : El)) * (pc w6.heap.size 49 (elC (⟨yb, yp, bo, yl.length, bc, yn⟩ : El)) * (pt ll B * (twX L3 h h2 most cs free cs2 free2 * (pc bB 25 [vp h2] * (pc bR 4 [.bool false] * (F * (pt DD dmark * F2)))))))))) by simp only [List.set_cons_zero]; ac_rfl)).dropL.dropL.dropL.dropL.dropL
              have h10 := Sat.givenI (A := twX L3 h h2 most cs free cs2 free2 * (pc bB 25 [vp h2] * (pc bR 4 [.bool false] * F))) (F := pt ll B * (pt DD dmark * F2)) HBAD.out (h9.cast (by ac_rfl))
              exact (Sat.givenI (p := Code.ret = .ret) (A := pt DD dmark * ((given (¬ SameC cs cs2) (twX L3 h h2 most cs free cs2 free2 * (pc bB 25 [vp h2] * (pc bR 4 [.bool false] * F)))) * F2)) (F := pt ll B) rfl (h10.cast (by ac_rfl))).cast (sep_comm _ _)
          · have HBAD : Hid (¬ SameC cs cs2) := Lib.hid (fun hs => by have h9 := HSO.out hs; omega)
            obtain ⟨hy1, hy2, hy3, hy4⟩ := (show yb = 0 ∧ yp = 0 ∧ yl = [] ∧ yn = 0 from by have := hEz rfl; cases this; exact ⟨rfl, rfl, rfl, rfl⟩)
            have e1 : ¬ xb = yb := by omega
            have e1b : (xb == yb) = false := beq_eq_false_iff_ne.2 e1
            clear HSO HNO hEz hb1 hy1 hy2 hy3 hy4
            gi_wp2_with (first
              | (refine ⟨trivial, ?_⟩; gi_at_call 29; (with_reducible refine ((callsIn_wide.2 HG.out).inRound ll).mono ?_); rintro e w6 ⟨bo, bc, rfl, hS6⟩; have h6 := (show Sat w0 (pc w6.heap.size 49 (elC (⟨yb, yp, bo, yl.length, bc, yn⟩ : El)) * _) _ from hS6.alloc (elO ⟨yb, yp, bo, yl.length, bc, yn⟩)).cast (show _ = fiS (.slice ao xl.length lc) xl * (pc (ba + 1) 49 (elC (⟨xb, xp, ao, xl.length, lc, xn⟩ : El)) * (pc w6.heap.size 49 (elC (⟨yb, yp, bo, yl.length, bc, yn⟩ : El)) * (fiS (.slice bo yl.length bc) yl * (pt ll B * (twX L3 h h2 most cs free cs2 free2 * (pc bB 25 [vp h2] * (pc bR 4 [.bool false] * (F * (pt DD dmark * (F2 * pc ba 30 [vi k, vu xg])))))))))) by ac_rfl); have x0 := h6.pull2.cell 0 rfl; have x1 := h6.pull2.cell 1 rfl; have x2 := h6.pull2.cell 2 rfl; have x3 := h6.pull2.cell 3 rfl; have y0 := h6.pull3.cell 0 rfl; have y1 := h6.pull3.cell 1 rfl; have y2 := h6.pull3.cell 2 rfl; have y3 := h6.pull3.cell 3 rfl; have h6b := h6.cast (show _ = pc bR 4 [.bool false] * (fiS (.slice ao xl.length lc) xl * (fiS (.slice bo yl.length bc) yl * (pt ll B * (twX L3 h h2 most cs free cs2 free2 * (pc bB 25 [vp h2] * (F * (pt DD dmark * (F2 * (pc ba 30 [vi k, vu xg] * (pc (ba + 1) 49 (elC (⟨xb, xp, ao, xl.length, lc, xn⟩ : El)) * pc w6.heap.size 49 (elC (⟨yb, yp, bo, yl.length, bc, yn⟩ : El)))))))))))) by ac_rfl); have r0 := h6b.cell 0 rfl; have rf := h6b.free 0; have H6 := Lib.hid h6b; clear hS6 h6 h6b)
              | (refine ⟨trivial, ?_⟩)
              )
            have H8 := Lib.hid (H6.out.store 0 (.bool false))
            gi_wp2
            have h9 := (H8.out.cast (show _ = fiS (.slice ao xl.length lc) xl * (fiS (.slice bo yl.length bc) yl * (pc ba 30 [vi k, vu xg] * (pc (ba + 1) 49 (elC (⟨xb, xp, ao, xl.length, lc, xn⟩ : El)) * (pc w6.heap.size 49 (elC (⟨yb, yp, bo, yl.length, bc, yn⟩ : El)) * (pt ll B * (twX L3 h h2 most cs free cs2 free2 * (pc bB 25 [vp h2] * (pc bR 4 [.bool false] * (F * (pt DD dmark * F2)))))))))) by simp only [List.set_cons_zero]; ac_rfl)).dropL.dropL.dropL.dropL.dropL
            have h10 := Sat.givenI (A := twX L3 h h2 most cs free cs2 free2 * (pc bB 25 [vp h2] * (pc bR 4 [.bool false] * F))) (F := pt ll B * (pt DD dmark * F2)) HBAD.out (h9.cast (by ac_rfl))
            exact (Sat.givenI (p := Code.ret = .ret) (A := pt DD dmark * ((given (¬ SameC cs cs2) (twX L3 h h2 most cs free cs2 free2 * (pc bB 25 [vp h2] * (pc bR 4 [.bool false] * F)))) * F2)) (F := pt ll B) rfl (h10.cast (by ac_rfl))).cast (sep_comm _ _)
        refine hY.mono ?_
        rintro e W' (⟨rfl, h9⟩ | ⟨c, rfl, h9⟩)
        · exact ⟨true, rfl, by rw [if_pos rfl]; exact h9.cast (by ac_rfl)⟩
        · refine ⟨false, rfl, ?_⟩
          rw [if_neg (by simp)]
          obtain ⟨hc, h5⟩ := (h9.cast (sep_comm _ _)).givenE
          refine Sat.exI (F := F2) c ?_
          exact (Sat.givenI (A := (given (¬ SameC cs cs2) (twX L3 h h2 most cs free cs2 free2 * (pc bB 25 [vp h2] * (pc bR 4 [.bool false] * F))))) (F := pt ll (Rd c) * (pt DD dmark * F2)) hc (h5.cast (by ac_rfl))).cast (by ac_rfl)
    case done =>
      intro DD W hS
      obtain ⟨hM, hS2⟩ := (hS.cast (show _ = (given (MatchC cs cs2 cs.length) (twX L3 h h2 most cs free cs2 free2 * (pc bB 25 [vp h2] * (pc bR 4 [.bool false] * F)))) * (pt DD dmark * cxIt it bx g cap ps3) by ac_rfl)).givenE
      have h2 := hS2.cast (show _ = pc bR 4 [.bool false] * (pt DD dmark * (twX L3 h h2 most cs free cs2 free2 * (pc bB 25 [vp h2] * (F * cxIt it bx g cap ps3)))) by ac_rfl)
      have r0 := h2.cell 0 rfl
      have rf := h2.free 0
      have h3 := h2.store 0 (.bool true)
      have hne := h3.ne
      have hc := h3.cell 0 rfl
      have hk := h3.pull2.blk.1
      have H3 := Lib.hid h3
      clear hS hS2 h2 h3
      subst ha0
      go_wp2_with fail
      generalize World.setCell W ⟨bR, 0, none⟩ (.bool true) = W4 at *
      refine ⟨by simp, .inl ⟨_, _, rfl, run_takeDeferred hk, ?_⟩⟩
      have hc2 : (W4.putObj DD (.deferred none)).cell? ⟨bR, 0, none⟩ = some (.bool true) := (World.cell?_of_block (a := ⟨bR, 0, none⟩) (World.putObj_heap_other hne)).trans hc
      exact ⟨.bool true, by simp [results, Try.f27, go_sem, hc2], true, rfl, by simp [same_of HLC.out hM HCC.out], tw_less (H3.out.pull2.putObj.cast (show _ = cxIt it bx g cap ps3 * (pc bB 25 [vp h2] * (pt DD (.deferred none) * (pc bR 4 [.bool true] * (twX L3 h h2 most cs free cs2 free2 * F)))) by ac_rfl)).dropL.dropL.dropL.dropL (fun y hy => HL3.out y (HL.out y hy))⟩
    case stop =>
      intro c DD W hS
      obtain ⟨hc, hS1⟩ := (hS.cast (sep_comm _ _)).givenE
      obtain ⟨hN, hS2⟩ := (hS1.cast (show _ = (given (¬ SameC cs cs2) (twX L3 h h2 most cs free cs2 free2 * (pc bB 25 [vp h2] * (pc bR 4 [.bool false] * F)))) * (pt DD dmark * cxIt it bx g cap ps3) by ac_rfl)).givenE
      have h2 := hS2.cast (show _ = pc bR 4 [.bool false] * (pt DD dmark * (twX L3 h h2 most cs free cs2 free2 * (pc bB 25 [vp h2] * (F * cxIt it bx g cap ps3)))) by ac_rfl)
      have hne := h2.ne
      have hc0 := h2.cell 0 rfl
      have hk := h2.pull2.blk.1
      have H3 := Lib.hid h2
      clear hS hS1 hS2 h2
      subst hc
      subst ha0
      gi_wp2
      refine ⟨by simp, .inl ⟨_, _, rfl, run_takeDeferred hk, ?_⟩⟩
      have hc2 : (W.putObj DD (.deferred none)).cell? ⟨bR, 0, none⟩ = some (.bool false) := (World.cell?_of_block (a := ⟨bR, 0, none⟩) (World.putObj_heap_other hne)).trans hc0
      exact ⟨.bool false, by simp [results, Try.f27, go_sem, hc2], false, rfl, by simp [hN], tw_less (H3.out.pull2.putObj.cast (show _ = cxIt it bx g cap ps3 * (pc bB 25 [vp h2] * (pt DD (.deferred none) * (pc bR 4 [.bool false] * (twX L3 h h2 most cs free cs2 free2 * F)))) by ac_rfl)).dropL.dropL.dropL.dropL (fun y hy => HL3.out y (HL.out y hy))⟩
  · have hcb : ((cn1 : Int) != (cn2 : Int)) = true := by simp; omega
    have HNS : Hid (¬ SameC cs cs2) := Lib.hid (fun hs => hcc (by rw [hcn1, hcn2]; exact hs.cnt HLC.out))
    clear hcc hcn1 hcn2
    refine (callsIn_wide (n := 9)).1 ?_
    refine callsIn_of_wp_marks Try.func27 rfl trivial ?_ rfl
    simp only [Try.ntmps27, List.size_toArray, List.length_cons, List.length_nil, Nat.reduceAdd, Nat.reduceSub, Array.replicate_succ, Array.replicate_zero, List.push_toArray, List.append_toArray, List.nil_append, List.cons_append]
    refine wpIn_wide.2 ?_
    go_wp2_with fail
    rw [HWB.out, HB2.out, HB1.out]
    go_wp2_with (first
      | (go_at_call 35; (with_reducible refine HN1.out.mono ?_); rintro e w' ⟨rfl, rfl⟩)
      | (go_at_call 35; (with_reducible refine HN2.out.mono ?_); rintro e w' ⟨rfl, rfl⟩))
    have hd0 := HB.out.drew
    have i0 := (hd0).cell 0 rfl
    have i1 := (hd0).cell 1 rfl
    have i2 := (hd0).pull3.cell 0 rfl
    have i3 := (hd0).pull3.cell 1 rfl
    have i4 := ((hd0).cast (show _ = pc bB 25 [vp h2] * (cxB h p most * (tblP p ps free * (cxB h2 p2 most * (tblP p2 ps2 free2 * (plB L * (pc bR 4 [.bool false] * F)))))) by ac_rfl)).cell 0 rfl
    clear hd0
    go_region_held3 (fun w' => w'.cell? ⟨h, 0, none⟩ = some (vp p) ∧ w'.cell? ⟨h, 1, none⟩ = some (vi most) ∧ w'.cell? ⟨h2, 0, none⟩ = some (vp p2) ∧ w'.cell? ⟨h2, 1, none⟩ = some (vi most) ∧ w'.cell? ⟨bB, 0, none⟩ = some (vp h2))
      (first | exact ⟨i0, i1, i2, i3, i4⟩ | exact ⟨ja0, ja1, ja2, ja3, ja4⟩ | exact ⟨jb0, jb1, jb2, jb3, jb4⟩ | exact ⟨jc0, jc1, jc2, jc3, jc4⟩ | exact ⟨jd0, jd1, jd2, jd3, jd4⟩ | go_keep)
      (first
        | (go_at_call 61; (with_reducible refine (HSZ1.out _ _ (HB.out.drew.cast (show _ = tblP p ps free * (cxB h p most * (cxB h2 p2 most * (tblP p2 ps2 free2 * (plB L * (pc bB 25 [vp h2] * (pc bR 4 [.bool false] * F)))))) by ac_rfl))).mono ?_); rintro e w8 ⟨rfl, hSn⟩; have hn : Sat w0 (cxB h p most * (tblP p ps free * (cxB h2 p2 most * (tblP p2 ps2 free2 * (plB L * (pc bB 25 [vp h2] * (pc bR 4 [.bool false] * F))))))) w8 := hSn.cast (by ac_rfl); have ja0 := (hn).cell 0 rfl; have ja1 := (hn).cell 1 rfl; have ja2 := (hn).pull3.cell 0 rfl; have ja3 := (hn).pull3.cell 1 rfl; have ja4 := ((hn).cast (show _ = pc bB 25 [vp h2] * (cxB h p most * (tblP p ps free * (cxB h2 p2 most * (tblP p2 ps2 free2 * (plB L * (pc bR 4 [.bool false] * F)))))) by ac_rfl)).cell 0 rfl; have H8 := Lib.hid hn; clear hSn hn)
        | (go_at_call 61; (with_reducible refine (HSZ2.out _ _ (H8.out.cast (show _ = tblP p2 ps2 free2 * (cxB h p most * (tblP p ps free * (cxB h2 p2 most * (plB L * (pc bB 25 [vp h2] * (pc bR 4 [.bool false] * F)))))) by ac_rfl))).mono ?_); rintro e w9 ⟨rfl, hSn⟩; have hn : Sat w0 (cxB h p most * (tblP p ps free * (cxB h2 p2 most * (tblP p2 ps2 free2 * (plB L * (pc bB 25 [vp h2] * (pc bR 4 [.bool false] * F))))))) w9 := hSn.cast (by ac_rfl); have jb0 := (hn).cell 0 rfl; have jb1 := (hn).cell 1 rfl; have jb2 := (hn).pull3.cell 0 rfl; have jb3 := (hn).pull3.cell 1 rfl; have jb4 := ((hn).cast (show _ = pc bB 25 [vp h2] * (cxB h p most * (tblP p ps free * (cxB h2 p2 most * (tblP p2 ps2 free2 * (plB L * (pc bR 4 [.bool false] * F)))))) by ac_rfl)).cell 0 rfl; have H9 := Lib.hid hn; clear hSn hn)
        | (go_at_call 33; (with_reducible refine (HLN1.out _ _ H9.out).mono ?_); rintro e w10 ⟨rfl, hSn⟩; have hn : Sat w0 (cxB h p most * (tblP p ps free * (cxB h2 p2 most * (tblP p2 ps2 free2 * (plB L * (pc bB 25 [vp h2] * (pc bR 4 [.bool false] * F))))))) w10 := hSn.cast (by ac_rfl); have jc0 := (hn).cell 0 rfl; have jc1 := (hn).cell 1 rfl; have jc2 := (hn).pull3.cell 0 rfl; have jc3 := (hn).pull3.cell 1 rfl; have jc4 := ((hn).cast (show _ = pc bB 25 [vp h2] * (cxB h p most * (tblP p ps free * (cxB h2 p2 most * (tblP p2 ps2 free2 * (plB L * (pc bR 4 [.bool false] * F)))))) by ac_rfl)).cell 0 rfl; have H10 := Lib.hid hn; clear hSn hn)
        | (go_at_call 33; (with_reducible refine (HLN2.out _ _ (H10.out.cast (show _ = cxB h2 p2 most * (tblP p2 ps2 free2 * (cxB h p most * (tblP p ps free * (plB L * (pc bB 25 [vp h2] * (pc bR 4 [.bool false] * F)))))) by ac_rfl))).mono ?_); rintro e w11 ⟨rfl, hSn⟩; have hn : Sat w0 (cxB h p most * (tblP p ps free * (cxB h2 p2 most * (tblP p2 ps2 free2 * (plB L * (pc bB 25 [vp h2] * (pc bR 4 [.bool false] * F))))))) w11 := hSn.cast (by ac_rfl); have jd0 := (hn).cell 0 rfl; have jd1 := (hn).cell 1 rfl; have jd2 := (hn).pull3.cell 0 rfl; have jd3 := (hn).pull3.cell 1 rfl; have jd4 := ((hn).cast (show _ = pc bB 25 [vp h2] * (cxB h p most * (tblP p ps free * (cxB h2 p2 most * (tblP p2 ps2 free2 * (plB L * (pc bR 4 [.bool false] * F)))))) by ac_rfl)).cell 0 rfl; have H11 := Lib.hid hn; clear hSn hn))
    have H12 := H11
    have hz := (H12.out.cast (show _ = pc bR 4 [.bool false] * (cxB h p most * (tblP p ps free * (cxB h2 p2 most * (tblP p2 ps2 free2 * (plB L * (pc bB 25 [vp h2] * F)))))) by ac_rfl))
    have r0 := hz.cell 0 rfl
    have rf := hz.free 0
    have HZ := Lib.hid (hz.store 0 (.bool false))
    clear hz
    go_wp2_with fail
    have hc := HZ.out.cell 0 rfl
    exact ⟨.bool false, by simp [results, Try.f27, go_sem, hc], false, rfl, by simp [HNS.out], tw_shut HL.out HPM.out HPM2.out (HZ.out.cast (show _ = (pc bR 4 [.bool false] * pc bB 25 [vp h2]) * (cxB h p most * (tblP p ps free * (cxB h2 p2 most * (tblP p2 ps2 free2 * (plB L * F))))) by simp only [List.set_cons_zero]; ac_rfl)).dropL⟩
end
end Go.Proofs.Ytknodagcmachiaa.Cn
