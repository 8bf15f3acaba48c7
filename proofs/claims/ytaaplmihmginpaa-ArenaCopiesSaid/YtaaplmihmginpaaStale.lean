/-
  The walk of ArenaStale. No statement is proved here.
-/
import Derived.Test.YtaaplmihmginpaaStaleLaw
import Derived.Test.YtaaplmihmginpaaKnownA
import Derived.Test.YtaaplmihmginpaaArgs2
import Derived.Test.YtaaplmihmginpaaRingPlays
namespace Go.Proofs.Ytaaplmihmginpaa.Ar
open Go.RowKit
set_option linter.unusedVariables false

theorem Eref : SlT Try.prog 42 45 2 16 (.agg #[vi 0, vu 0]) := SlT.mk' Try.underlying42 (by kernel_rfl) rfl (by decide)
theorem Ebool : SlT Try.prog 43 4 1 1 (.bool false) := SlT.mk' Try.underlying43 (by kernel_rfl) rfl (by decide)

def actK : Nat → IntKind := fun j => if j = 3 then .u64 else .i64
/-- The act at a place of a list that came in. -/
theorem act_at {w0 w : World} {ao : Option Addr} {cap n : Nat} {A : Nat → Int} {F : Hp} (h : ArgK w0 5 actK (.slice ao n cap) n A) (hS : Sat w0 F w) {k : Nat} (hk : k < n) :
    ∃ b off, ao = some ⟨b, off, none⟩ ∧ ∃ x0 x1 x2 x3 x4, w.cell? ⟨b, off + k * 5, none⟩ = some (vi x0) ∧ w.cell? ⟨b, off + k * 5 + 1, none⟩ = some (vi x1) ∧ w.cell? ⟨b, off + k * 5 + 2, none⟩ = some (vi x2) ∧ w.cell? ⟨b, off + k * 5 + 3, none⟩ = some (vu x3) ∧ w.cell? ⟨b, off + k * 5 + 4, none⟩ = some (vi x4) ∧ b < w.heap.size := by
  rcases h.form with ⟨h0, _⟩ | ⟨b, off, c, hv, hb, hc⟩
  · omega
  · cases hv
    have g : ∀ j, j < n * 5 → w.cell? ⟨b, off + j, none⟩ = some (.int (actK (j % 5)) (A j)) := fun j hj => (hS.old (by exact hb)).trans (hc j hj)
    refine ⟨b, off, rfl, A (k * 5 + 0), A (k * 5 + 1), A (k * 5 + 2), A (k * 5 + 3), A (k * 5 + 4), ?_, ?_, ?_, ?_, ?_, Nat.lt_of_lt_of_le hb hS.size⟩
    · rw [g (k * 5) (by omega), show k * 5 % 5 = 0 by omega]; rfl
    · rw [Nat.add_assoc, g (k * 5 + 1) (by omega), show (k * 5 + 1) % 5 = 1 by omega]; rfl
    · rw [Nat.add_assoc, g (k * 5 + 2) (by omega), show (k * 5 + 2) % 5 = 2 by omega]; rfl
    · rw [Nat.add_assoc, g (k * 5 + 3) (by omega), show (k * 5 + 3) % 5 = 3 by omega]; rfl
    · rw [Nat.add_assoc, g (k * 5 + 4) (by omega), show (k * 5 + 4) % 5 = 4 by omega]; rfl

theorem stale_early (w0 : World) (size first : Int) (ao : Option Addr) (len cap : Nat) (hbad : muchB size len 100 = true ∨ ¬ MayP size first) :
    Calls Try.prog 4 #[vi size, vu first, .slice ao len cap] w0 (TrueBelow w0) := by
  have HM := Lib.hid (much_ size 100 len ao cap w0)
  by_cases hm : muchB size len 100 = true
  · rw [hm] at HM
    go_enter Try.func4, Try.ntmps4
    go_wp2_with (first | (go_at_call 21; refine HM.out.mono ?_; rintro e w1 ⟨rfl, rfl⟩) | (go_at_call 23; refine (As.knownA (Sat.start w0)).mono ?_; rintro e w2 ⟨rfl, hS⟩))
    go_ret
    exact ⟨rfl, hS.below⟩
  · have hy : ¬ MayP size first := hbad.resolve_left hm
    have hm' : muchB size len 100 = false := by simpa using hm
    rw [hm'] at HM
    have HY := Lib.hid (may_no size first hy w0)
    clear hy hbad
    go_enter Try.func4, Try.ntmps4
    go_wp2_with (first | (go_at_call 21; refine HM.out.mono ?_; rintro e w1 ⟨rfl, rfl⟩) | (go_at_call 22; refine HY.out.mono ?_; rintro e w1 ⟨rfl, rfl⟩) | (go_at_call 23; refine (As.knownA (Sat.start w0)).mono ?_; rintro e w2 ⟨rfl, hS⟩))
    go_ret
    exact ⟨rfl, hS.below⟩

abbrev StS (w0 : World) (p : Nat) (ps : List Pl) (free : List Nat) (gv nv : Value) (given : List (Nat × Int)) (gone : List Bool) (F : Hp) (wr : World) : Prop :=
  Sat w0 (tblP p ps free * (sl 45 2 gv given.length (gflat given) * (sl 4 1 nv given.length (gone.map Value.bool) * F))) wr
def StR (w0 : World) (p : Nat) (len : Nat) (gv nv i : Value) (wr : World) : Prop :=
  ∃ (k : Nat) (ps : List Pl) (free : List Nat) (given : List (Nat × Int)) (gone : List Bool), k ≤ len ∧ i = vi k ∧ given.length ≤ k ∧ Inv ps given gone ∧ StS w0 p ps free gv nv given gone emp wr

theorem Rd.two (w : World) (T : TypeId) (a b : Value) {g : Nat} (hg : g = w.heap.size) : Rd (w.alloc (.cells #[a, b] T)) 2 (.slice (some ⟨g, 0, none⟩) 1 1) 1 [a, b] := by
  subst hg
  refine ⟨rfl, .inr ⟨_, _, _, rfl, fun j u hj => ?_⟩⟩
  rcases j with _ | _ | j
  all_goals simp at hj
  all_goals (try (subst hj; simp))

set_option maxRecDepth 100000 in
set_option maxHeartbeats 8000000 in
theorem stale_walk (w0 : World) (size first : Int) (v : Value) (len : Nat) (A : Nat → Int) (h : ArgK w0 5 actK v len A) :
    Calls Try.prog 4 #[vi size, vu first, v] w0 (TrueBelow w0) := by
  have hv : ∃ ao cap, v = .slice ao len cap := by
    rcases h.form with ⟨rfl, ao, cap, rfl⟩ | ⟨b, off, cap, rfl, _⟩
    · exact ⟨_, _, rfl⟩
    · exact ⟨_, _, rfl⟩
  obtain ⟨ao, cap, rfl⟩ := hv
  by_cases hbad : muchB size len 100 = true ∨ ¬ MayP size first
  · exact stale_early w0 size first ao len cap hbad
  have hm : muchB size len 100 = false := by simpa using fun e => hbad (.inl e)
  have hmay : MayP size first := Classical.byContradiction fun e => hbad (.inr e)
  have hlen : len ≤ 100 := by
    unfold muchB at hm
    simp at hm
    omega
  have HM := Lib.hid (much_ size 100 len ao cap w0)
  rw [hm] at HM
  have HY := Lib.hid (may_yes size first hmay w0)
  obtain ⟨hs1, hs2, hf1, hf2⟩ := hmay
  obtain ⟨sz, rfl⟩ := Int.eq_ofNat_of_zero_le (show 0 ≤ size by omega)
  have HN := Lib.hid (new_ (F := emp) sz first (by omega) (by omega) hf1 hf2 (Sat.start w0))
  have HA := Lib.hid h
  clear h hm hbad hf1 hf2 hs1 hs2
  go_enter Try.func4, Try.ntmps4
  go_wp2_with (first | (go_at_call 21; refine HM.out.mono ?_; rintro e w1 ⟨rfl, rfl⟩) | (go_at_call 22; refine HY.out.mono ?_; rintro e w1 ⟨rfl, rfl⟩) | (go_at_call 24; refine HN.out.mono ?_; rintro e w2 ⟨p, rfl, hS⟩; have H := Lib.hid hS; clear hS))
  go_loopw [9, 10, 11] (fun gv nv i wr => StR w0 p len gv nv i wr) (fun _ _ i _ => len - (intOf i).toNat)
  case atStart => exact ⟨0, _, _, [], [], Nat.zero_le _, rfl, Nat.le_refl _, Inv.nil _, (((H.out.addNil 4 1).addNil 45 2).cast (by show _ = tblP _ _ _ * (sl _ 2 _ 0 [] * (sl _ 1 _ 0 [] * emp)); ac_rfl))⟩
  case round =>
    obtain ⟨k, ps, free, given, gone, hk, rfl, hgl, hInv, hS⟩ := hrel
    have HI := Lib.hid hInv
    clear hInv
    by_cases hlt : k < len
    · obtain ⟨b, off, rfl, x0, x1, x2, x3, x4, c0, c1, c2, c3, c4, hbl⟩ := act_at HA.out hS hlt
      obtain ⟨go', gcap, rfl⟩ := hS.pull2.rd.len
      obtain ⟨no, ncap, rfl⟩ := hS.pull3.rd.len
      have HS := Lib.hid hS
      have hok := tblOk_of hS
      clear hS
      by_cases hk1 : x0 = 1
      · subst hk1
        by_cases hf : free = []
        · subst hf
          clear hok
          go_wp2_with (go_at_call 25; refine (put_no (HS.out.alloc' _) x1).mono ?_; rintro e w3 ⟨rfl, hT⟩; have H3 := Lib.hid hT; clear hT)
          go_loopw [15] (fun i wr2 => i = vi 0 ∧ StS w0 p ps [] (.slice go' given.length gcap) (.slice no given.length ncap) given gone emp wr2) (fun _ _ => 0)
          case atStart => exact ⟨rfl, H3.out.alloc' _⟩
          case round =>
            obtain ⟨rfl, hS2⟩ := hrel
            have H4 := Lib.hid hS2
            clear hS2
            by_cases hn0 : given.length = 0
            · go_wp2
              go_roundw
              case rel => exact ⟨k + 1, ps, [], given, gone, by omega, by go_num, by omega, HI.out, H4.out⟩
              case measure => (simp [intOf]; try omega)
            · have hn0' : 0 < given.length := by omega
              go_wp2
              go_roundw
              case rel => exact ⟨k + 1, ps, [], given, gone, by omega, by go_num, by omega, HI.out, H4.out⟩
              case measure => (simp [intOf]; try omega)
        · obtain ⟨init, k0, rfl⟩ : ∃ init k0, free = init ++ [k0] := by
            rcases List.eq_nil_or_concat free with h | ⟨L, b, h⟩
            · exact absurd h hf
            · exact ⟨L, b, by rw [h, List.concat_eq_append]⟩
          obtain ⟨a, hka, hth, hre⟩ := (hok.mem k0).1 (by simp)
          have hbusy : a.busy = false := by simp [Pl.busy, hth, hre]
          have HFr := Lib.hid (HI.out.fresh hka hbusy)
          have HI2 := Lib.hid (HI.out.come hka hbusy x1)
          have HP := Lib.hid (put_yes (HS.out.alloc' (.cells #[vi 1, vi x1, vi x2, vu x3, vi x4] 47)) hka x1)
          generalize ps.set k0 { a with there := true, x := x1 } = ps2 at *
          generalize a.gen = gen at *
          clear hok hka hth hre hbusy
          go_wp2_with fail
          refine HP.out.mono ?_
          rintro e w3 ⟨rfl, hT⟩
          have hB : Sat w0 (pc w3.heap.size 45 [vi k0, vu gen] * (tblP p ps2 init * (sl 45 2 (.slice go' given.length gcap) given.length (gflat given) * (sl 4 1 (.slice no given.length ncap) given.length (gone.map Value.bool) * emp)))) (w3.alloc (.cells #[vi k0, vu gen] 45)) := hT.alloc _
          have H3 := Lib.hid hB
          clear hT hB
          go_wp2
          generalize w3.alloc (.cells #[vi k0, vu gen] 45) = w4 at *
          generalize w3.heap.size = br at *
          go_loopw [15] (fun i wr2 => ∃ j : Nat, j ≤ given.length ∧ i = vi j ∧ Sat w0 (pc br 45 [vi k0, vu gen] * (tblP p ps2 init * (sl 45 2 (.slice go' given.length gcap) given.length (gflat given) * (sl 4 1 (.slice no given.length ncap) given.length (gone.map Value.bool) * emp)))) wr2) (fun i _ => given.length - (intOf i).toNat)
          case atStart => exact ⟨0, Nat.zero_le _, rfl, H3.out⟩
          case round =>
            obtain ⟨j, hj, rfl, hS2⟩ := hrel
            have r0 := hS2.cell 0 rfl
            have r1 := hS2.cell 1 rfl
            by_cases hjl : j < given.length
            · obtain ⟨⟨gi, gg⟩, hg⟩ : ∃ r, given[j]? = some r := ⟨given[j], List.getElem?_eq_getElem hjl⟩
              obtain ⟨gb, rfl⟩ : ∃ gb, go' = some ⟨gb, 0, none⟩ := by
                rcases hS2.pull3.slE.2 with ⟨hv, h0, _⟩ | ⟨g, c, cur, hv, _⟩
                · omega
                · injection hv with h1; exact ⟨g, h1⟩
              have g0 := hS2.pull3.slCell (j * 2 + 0) (gflat_0 hg)
              have g1 := hS2.pull3.slCell (j * 2 + 1) (gflat_1 hg)
              rw [Nat.add_zero] at g0
              have hji : (j : Int) < (given.length : Int) := by omega
              have hne := HFr.out j gi gg hg
              have H4 := Lib.hid hS2
              clear hS2 hg
              by_cases hgk : gi = k0
              · subst hgk
                have hgg : (gg == gen) = false := beq_eq_false_iff_ne.2 (hne rfl)
                clear hne
                go_wp2
                go_quiet (fail)
                go_wp2
                go_roundw
                case rel => exact ⟨j + 1, by omega, by go_num, H4.out.drewN _⟩
                case measure => (simp [intOf]; try omega)
              · have hgg : ((gi : Int) == (k0 : Int)) = false := beq_eq_false_iff_ne.2 (by omega)
                clear hne
                go_wp2
                go_quiet (fail)
                go_wp2
                go_roundw
                case rel => exact ⟨j + 1, by omega, by go_num, H4.out.drewN _⟩
                case measure => (simp [intOf]; try omega)
            · obtain rfl : j = given.length := by omega
              have H4 := Lib.hid hS2
              clear hS2
              go_wp2_with (first
                | (at_builtin; refine wpList_append_sl Ebool rfl (.tmp 83) (.tmp 84) rfl rfl (H6.out.pull3.alloc' _) (by rfl) (Rd.one _ _ (.bool false)) (by simp [Value.oneCell']) (by unfold maxLen; omega) (by omega) ?_; intro ao7 cap7 w7 hS7; have H7 := Lib.hid hS7; clear hS7)
                | (at_builtin; refine wpList_append_sl Eref rfl (.tmp 79) (.tmp 81) rfl rfl (H4.out.dropL.pull2.alloc' _) (by rfl) (Rd.two _ _ (vi k0) (vu gen) rfl) (by simp [Value.oneCell']) (by unfold maxLen; omega) (by omega) ?_; intro ao6 cap6 w6 hS6; have H6 := Lib.hid hS6; clear hS6))
              go_roundw
              case rel =>
                refine ⟨k + 1, ps2, init, given ++ [(k0, gen)], gone ++ [false], by omega, by go_num, by simp; omega, HI2.out, H7.out.cast ?_⟩
                rw [gflat_snoc, List.map_append, List.length_append]
                simp only [List.length_cons, List.length_nil, Nat.zero_add, List.map_cons, List.map_nil]
                ac_rfl
              case measure => (simp [intOf]; try omega)
      · have k1 : (x0 == 1) = false := beq_eq_false_iff_ne.2 hk1
        by_cases hn0 : given.length = 0
        · obtain ⟨ps2, hps2⟩ : ∃ x, x = ps := ⟨_, rfl⟩
          obtain ⟨free2, hfree2⟩ : ∃ x, x = free := ⟨_, rfl⟩
          subst hps2
          subst hfree2
          have HI2 := HI
          have HL : Hid (StS w0 p ps2 free2 (.slice go' given.length gcap) (.slice no given.length ncap) given gone emp (wr.alloc (.cells #[vi x0, vi x1, vi x2, vu x3, vi x4] 47))) := Lib.hid (HS.out.alloc' _)
          clear hok
          go_wp2
          clear hn0
          go_loopw [16] (fun i wr2 => ∃ (j : Nat) (gone' : List Bool), j ≤ given.length ∧ i = vi j ∧ Inv ps2 given gone' ∧ StS w0 p ps2 free2 (.slice go' given.length gcap) (.slice no given.length ncap) given gone' emp wr2) (fun i _ => given.length - (intOf i).toNat)
          case atStart => exact ⟨0, gone, Nat.zero_le _, rfl, HI2.out, HL.out⟩
          case round =>
            obtain ⟨j, gone', hj, rfl, hInv2, hS2⟩ := hrel
            by_cases hjl : j < given.length
            · obtain ⟨⟨gi, gg⟩, hg⟩ : ∃ r, given[j]? = some r := ⟨given[j], List.getElem?_eq_getElem hjl⟩
              obtain ⟨gj, hgj⟩ : ∃ r, gone'[j]? = some r := ⟨gone'[j]'(by rw [hInv2.len]; exact hjl), List.getElem?_eq_getElem _⟩
              obtain ⟨gb, rfl⟩ : ∃ gb, go' = some ⟨gb, 0, none⟩ := by
                rcases hS2.pull2.slE.2 with ⟨hv, h0, _⟩ | ⟨g, c, cur, hv, _⟩
                · omega
                · injection hv with h1; exact ⟨g, h1⟩
              obtain ⟨nb, rfl⟩ : ∃ nb, no = some ⟨nb, 0, none⟩ := by
                rcases hS2.pull3.slE.2 with ⟨hv, h0, _⟩ | ⟨g, c, cur, hv, _⟩
                · omega
                · injection hv with h1; exact ⟨g, h1⟩
              have g0 := hS2.pull2.slCell (j * 2 + 0) (gflat_0 hg)
              have g1 := hS2.pull2.slCell (j * 2 + 1) (gflat_1 hg)
              rw [Nat.add_zero] at g0
              have n0 : wr.cell? ⟨nb, j, none⟩ = some (.bool gj) := hS2.pull3.slCell j (by rw [List.getElem?_map, hgj]; rfl)
              have hok := tblOk_of hS2
              have hji : (j : Int) < (given.length : Int) := by omega
              have HG := Lib.hid hg
              have HGJ := Lib.hid hgj
              have HI3 := Lib.hid hInv2
              have HOK := Lib.hid hok
              have H2 := Lib.hid hS2
              clear hg hgj hInv2 hok hS2
              cases hA : isAt ps2 gi gg with
              | none =>
                have HA2 := Lib.hid hA
                have HGET := Lib.hid (get_no H2.out gi gg hA)
                clear hA
                cases gj
                all_goals
                  go_wp2_with (first
                    | (go_at_call 28; refine HGET.out.mono ?_; rintro e w5 ⟨gx, rfl, hS5⟩; have f0 := hS5.pull2.slCell (j * 2 + 0) (gflat_0 HG.out); have f1 := hS5.pull2.slCell (j * 2 + 1) (gflat_1 HG.out); rw [Nat.add_zero] at f0; have m0 := hS5.pull3.slCell j (by rw [List.getElem?_map, HGJ.out]; rfl); have mf := hS5.pull3.slFree j; have hbb := hS5.pull2.drop2.slNe2; have hS6 := hS5.pull3.slStore j (by omega) (.bool true); have H5 := Lib.hid hS6; clear hS5 hS6)
                    | (go_at_call 29; refine (set_no H5.out.pull2 gi gg 7 HA2.out).mono ?_; rintro e w6 ⟨rfl, hS6⟩; have p0 := hS6.pull3.slCell (j * 2 + 0) (gflat_0 HG.out); have p1 := hS6.pull3.slCell (j * 2 + 1) (gflat_1 HG.out); rw [Nat.add_zero] at p0; have H6 := Lib.hid hS6; clear hS6)
                    | (go_at_call 30; refine (drop_no H6.out gi gg HA2.out).mono ?_; rintro e w7 ⟨rfl, hS7⟩; have H7 := Lib.hid hS7; clear hS7))
                  go_roundw
                  case rel => exact ⟨j + 1, gone'.set j true, by omega, by go_num, HI3.out.gone_set HG.out HA2.out, H7.out.cast (by rw [List.map_set]; ac_rfl)⟩
                  case measure => (simp [intOf]; try omega)
              | some ka =>
                have HGET := Lib.hid (get_yes H2.out gi gg hA)
                have hgf : gj = false := by
                  cases gj
                  · rfl
                  · have := HI3.out.gone_no HOK.out HG.out HGJ.out
                    rw [hA] at this
                    cases this
                subst hgf
                clear hA
                go_wp2_with (go_at_call 28; refine HGET.out.mono ?_; rintro e w5 ⟨gx, rfl, hS5⟩; have m0 := hS5.pull3.slCell j (by rw [List.getElem?_map, HGJ.out]; rfl); have H5 := Lib.hid hS5; clear hS5)
                go_roundw
                case rel => exact ⟨j + 1, gone', by omega, by go_num, HI3.out, H5.out⟩
                case measure => (simp [intOf]; try omega)
            · obtain rfl : j = given.length := by omega
              have H2 := Lib.hid hS2
              have HI3 := Lib.hid hInv2
              clear hS2 hInv2
              go_wp2
              go_roundw
              case rel => exact ⟨k + 1, ps2, free2, given, gone', by omega, by go_num, by omega, HI3.out, H2.out⟩
              case measure => (simp [intOf]; try omega)
        · have hnp : 0 < given.length := by omega
          obtain ⟨idx, hidx⟩ : ∃ idx, idx = ((IntKind.u64.wrap x4) % (given.length : Int)).toNat := ⟨_, rfl⟩
          have hu0 : 0 ≤ IntKind.u64.wrap x4 := by rw [IntKind.wrap_u64]; omega
          have hm0 : 0 ≤ (IntKind.u64.wrap x4) % (given.length : Int) := Int.emod_nonneg _ (by omega)
          have hm1 : (IntKind.u64.wrap x4) % (given.length : Int) < (given.length : Int) := Int.emod_lt_of_pos _ (by omega)
          have hix : idx < given.length := by omega
          have hi2 : (idx : Int) < (given.length : Int) := by omega
          have hw64 : wrap64 ((IntKind.u64.wrap x4).tmod (given.length : Int)) = (idx : Int) := by
            rw [Int.tmod_eq_emod_of_nonneg hu0, IntWalk.wrap64_in _ (by omega)]
            omega
          obtain ⟨⟨gi, gg⟩, hg⟩ : ∃ r, given[idx]? = some r := ⟨given[idx], List.getElem?_eq_getElem hix⟩
          obtain ⟨gb, rfl⟩ : ∃ gb, go' = some ⟨gb, 0, none⟩ := by
            rcases HS.out.pull2.slE.2 with ⟨hv, h0, _⟩ | ⟨g, c, cur, hv, _⟩
            · omega
            · injection hv with h1; exact ⟨g, h1⟩
          have g0 := HS.out.pull2.slCell (idx * 2 + 0) (gflat_0 hg)
          have g1 := HS.out.pull2.slCell (idx * 2 + 1) (gflat_1 hg)
          rw [Nat.add_zero] at g0
          have hgbl := HS.out.pull2.slLt
          clear hidx hu0 hm0 hm1 hg hok
          go_wp2
          have hB : Sat w0 (pc wr.heap.size 47 (actC x0 x1 gi gg x4) * (tblP p ps free * (sl 45 2 (.slice (some ⟨gb, 0, none⟩) given.length gcap) given.length (gflat given) * (sl 4 1 (.slice no given.length ncap) given.length (gone.map Value.bool) * emp)))) (wr.alloc (.cells #[vi x0, vi x1, vi gi, vu gg, vi x4] 47)) := HS.out.alloc _
          have b0 := hB.cell 0 rfl
          have b1 := hB.cell 1 rfl
          have b2 := hB.cell 2 rfl
          have b3 := hB.cell 3 rfl
          have b4 := hB.cell 4 rfl
          have H3 := Lib.hid hB
          clear hB HS c0 c1 c2 c3 c4 g0 g1 hgbl hbl
          generalize wr.alloc (.cells #[vi x0, vi x1, vi gi, vu gg, vi x4] 47) = wb at *
          generalize wr.heap.size = ba at *
          go_region_held3 (fun w' => w'.cell? ⟨ba, 0, none⟩ = some (vi x0) ∧ w'.cell? ⟨ba, 1, none⟩ = some (vi x1) ∧ w'.cell? ⟨ba, 2, none⟩ = some (vi gi) ∧ w'.cell? ⟨ba, 3, none⟩ = some (vu gg) ∧ w'.cell? ⟨ba, 4, none⟩ = some (vi x4))
            (first | exact ⟨d0, d1, d2, d3, d4⟩ | exact ⟨e0, e1, e2, e3, e4⟩ | go_keep)
            (first
              | (go_at_call 27; refine (rnew (H3.out.drewN 1) 1 (by omega) 1).mono ?_; rintro e w5 ⟨q, rfl, hS5⟩; have d0 := hS5.pull2.cell 0 rfl; have d1 := hS5.pull2.cell 1 rfl; have d2 := hS5.pull2.cell 2 rfl; have d3 := hS5.pull2.cell 3 rfl; have d4 := hS5.pull2.cell 4 rfl; have H5 := Lib.hid hS5; clear hS5)
              | (go_at_call 26; refine (doStale H5.out.pull3 (by rw [rnewL_len]; omega) (rnewL_no 1 1) x0 x1 gi gg x4 hk1).mono ?_; rintro e w6 ⟨bb, ps2, free2, rfl, hStep, hS6⟩; have e0 := hS6.pull2.cell 0 rfl; have e1 := hS6.pull2.cell 1 rfl; have e2 := hS6.pull2.cell 2 rfl; have e3 := hS6.pull2.cell 3 rfl; have e4 := hS6.pull2.cell 4 rfl; have H6 := Lib.hid hS6; clear hS6))
          go_wp2
          have HI2 := Lib.hid (HI.out.step hStep)
          have HL : Hid (StS w0 p ps2 free2 (.slice (some ⟨gb, 0, none⟩) given.length gcap) (.slice no given.length ncap) given gone emp w6) := Lib.hid H6.out.drop2
          obtain ⟨go', hgo'⟩ : ∃ x, x = (some ⟨gb, 0, none⟩ : Option Addr) := ⟨_, rfl⟩
          rw [← hgo'] at HL ⊢
          clear hgo'
          go_loopw [16] (fun i wr2 => ∃ (j : Nat) (gone' : List Bool), j ≤ given.length ∧ i = vi j ∧ Inv ps2 given gone' ∧ StS w0 p ps2 free2 (.slice go' given.length gcap) (.slice no given.length ncap) given gone' emp wr2) (fun i _ => given.length - (intOf i).toNat)
          case atStart => exact ⟨0, gone, Nat.zero_le _, rfl, HI2.out, HL.out⟩
          case round =>
            obtain ⟨j, gone', hj, rfl, hInv2, hS2⟩ := hrel
            by_cases hjl : j < given.length
            · obtain ⟨⟨gi, gg⟩, hg⟩ : ∃ r, given[j]? = some r := ⟨given[j], List.getElem?_eq_getElem hjl⟩
              obtain ⟨gj, hgj⟩ : ∃ r, gone'[j]? = some r := ⟨gone'[j]'(by rw [hInv2.len]; exact hjl), List.getElem?_eq_getElem _⟩
              obtain ⟨gb, rfl⟩ : ∃ gb, go' = some ⟨gb, 0, none⟩ := by
                rcases hS2.pull2.slE.2 with ⟨hv, h0, _⟩ | ⟨g, c, cur, hv, _⟩
                · omega
                · injection hv with h1; exact ⟨g, h1⟩
              obtain ⟨nb, rfl⟩ : ∃ nb, no = some ⟨nb, 0, none⟩ := by
                rcases hS2.pull3.slE.2 with ⟨hv, h0, _⟩ | ⟨g, c, cur, hv, _⟩
                · omega
                · injection hv with h1; exact ⟨g, h1⟩
              have g0 := hS2.pull2.slCell (j * 2 + 0) (gflat_0 hg)
              have g1 := hS2.pull2.slCell (j * 2 + 1) (gflat_1 hg)
              rw [Nat.add_zero] at g0
              have n0 : wr.cell? ⟨nb, j, none⟩ = some (.bool gj) := hS2.pull3.slCell j (by rw [List.getElem?_map, hgj]; rfl)
              have hok := tblOk_of hS2
              have hji : (j : Int) < (given.length : Int) := by omega
              have HG := Lib.hid hg
              have HGJ := Lib.hid hgj
              have HI3 := Lib.hid hInv2
              have HOK := Lib.hid hok
              have H2 := Lib.hid hS2
              clear hg hgj hInv2 hok hS2
              cases hA : isAt ps2 gi gg with
              | none =>
                have HA2 := Lib.hid hA
                have HGET := Lib.hid (get_no H2.out gi gg hA)
                clear hA
                cases gj
                all_goals
                  go_wp2_with (first
                    | (go_at_call 28; refine HGET.out.mono ?_; rintro e w5 ⟨gx, rfl, hS5⟩; have f0 := hS5.pull2.slCell (j * 2 + 0) (gflat_0 HG.out); have f1 := hS5.pull2.slCell (j * 2 + 1) (gflat_1 HG.out); rw [Nat.add_zero] at f0; have m0 := hS5.pull3.slCell j (by rw [List.getElem?_map, HGJ.out]; rfl); have mf := hS5.pull3.slFree j; have hbb := hS5.pull2.drop2.slNe2; have hS6 := hS5.pull3.slStore j (by omega) (.bool true); have H5 := Lib.hid hS6; clear hS5 hS6)
                    | (go_at_call 29; refine (set_no H5.out.pull2 gi gg 7 HA2.out).mono ?_; rintro e w6 ⟨rfl, hS6⟩; have p0 := hS6.pull3.slCell (j * 2 + 0) (gflat_0 HG.out); have p1 := hS6.pull3.slCell (j * 2 + 1) (gflat_1 HG.out); rw [Nat.add_zero] at p0; have H6 := Lib.hid hS6; clear hS6)
                    | (go_at_call 30; refine (drop_no H6.out gi gg HA2.out).mono ?_; rintro e w7 ⟨rfl, hS7⟩; have H7 := Lib.hid hS7; clear hS7))
                  go_roundw
                  case rel => exact ⟨j + 1, gone'.set j true, by omega, by go_num, HI3.out.gone_set HG.out HA2.out, H7.out.cast (by rw [List.map_set]; ac_rfl)⟩
                  case measure => (simp [intOf]; try omega)
              | some ka =>
                have HGET := Lib.hid (get_yes H2.out gi gg hA)
                have hgf : gj = false := by
                  cases gj
                  · rfl
                  · have := HI3.out.gone_no HOK.out HG.out HGJ.out
                    rw [hA] at this
                    cases this
                subst hgf
                clear hA
                go_wp2_with (go_at_call 28; refine HGET.out.mono ?_; rintro e w5 ⟨gx, rfl, hS5⟩; have m0 := hS5.pull3.slCell j (by rw [List.getElem?_map, HGJ.out]; rfl); have H5 := Lib.hid hS5; clear hS5)
                go_roundw
                case rel => exact ⟨j + 1, gone', by omega, by go_num, HI3.out, H5.out⟩
                case measure => (simp [intOf]; try omega)
            · obtain rfl : j = given.length := by omega
              have H2 := Lib.hid hS2
              have HI3 := Lib.hid hInv2
              clear hS2 hInv2
              go_wp2
              go_roundw
              case rel => exact ⟨k + 1, ps2, free2, given, gone', by omega, by go_num, by omega, HI3.out, H2.out⟩
              case measure => (simp [intOf]; try omega)
    · obtain rfl : k = len := by omega
      have HS := Lib.hid hS
      clear hS
      go_wp2_with (go_at_call 23; refine (As.knownA HS.out).mono ?_; rintro e w2 ⟨rfl, hS⟩)
      go_ret
      exact ⟨rfl, hS.below⟩
end Go.Proofs.Ytaaplmihmginpaa.Ar
