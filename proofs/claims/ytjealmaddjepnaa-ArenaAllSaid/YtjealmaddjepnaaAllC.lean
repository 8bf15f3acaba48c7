/-
  The walk of ArenaAll. No statement is proved here.
-/
import Derived.Test.YtjealmaddjepnaaAllB
import Derived.Sort.QuietIn
import Derived.RangeFuncNested
import Derived.Stop.RegionWithIn
import Derived.Deep.CutRange
import Derived.Deep.DeepCutAuto
import Derived.Deep.CutBlock
namespace Go.Proofs.Ytjealmaddjepnaa.Ar
open Go.RowKit Go.Shelf
attribute [local go_sem] Oper.semAt_some
set_option linter.unusedVariables false

set_option maxRecDepth 100000 in
set_option maxHeartbeats 2000000 in
theorem all_early (w0 : World) (size leave : Int) (ao : Option Addr) (len cap : Nat) (hbad : muchB size len 100 = true ∨ ¬ MayP size 1) :
    Calls Try.prog 3 #[vi size, .slice ao len cap, vi leave] w0 (AlTrue w0) := by
  have HM := Lib.hid (fun w => much_ size 100 len ao cap w)
  have hB : Sat w0 (pc (w0.heap.size + 1) 4 [.bool false] * (pc w0.heap.size 3 [vi leave] * emp)) ((w0.alloc (.cells #[vi leave] 3)).alloc (.cells #[.bool false] 4)) := by
    have h1 : Sat w0 (pc w0.heap.size 3 [vi leave] * emp) (w0.alloc (.cells #[vi leave] 3)) := (Sat.start w0).alloc _
    have h2 := h1.alloc (.cells #[.bool false] 4)
    rw [World.size_alloc] at h2
    exact h2
  have HB := Lib.hid hB
  clear hB
  generalize hL : w0.heap.size = L at *
  have HL := Lib.hid hL
  clear hL
  by_cases hm : muchB size len 100 = true
  · rw [hm] at HM
    clear hbad
    refine (callsIn_wide (n := 9)).1 ?_
    refine callsIn_of_wp_marks Try.func3 rfl trivial ?_ rfl
    simp only [Try.ntmps3, List.size_toArray, List.length_cons, List.length_nil, Nat.reduceAdd, Nat.reduceSub, Array.replicate_succ, Array.replicate_zero, List.push_toArray, List.append_toArray, List.nil_append, List.cons_append]
    gi_wp2_with fail
    rw [HL.out]
    generalize hwb : (w0.alloc (.cells #[vi leave] 3)).alloc (.cells #[.bool false] 4) = wb at *
    clear hwb
    gi_wp2_with (first
            | (refine ⟨trivial, ?_⟩; gi_at_call 6; (with_reducible refine (callsIn_wide.2 (HM.out _)).mono ?_); rintro e w1 ⟨rfl, rfl⟩)
            | (refine ⟨trivial, ?_⟩; gi_at_call 8; (with_reducible refine (callsIn_wide.2 (As.knownA HB.out)).mono ?_); rintro e w2 ⟨rfl, hS⟩; have c0 := hS.cell 0 rfl; have f0 := hS.free 0; have H2 := Lib.hid (hS.store 0 (.bool true)); clear hS)
            | (refine ⟨trivial, ?_⟩)
            )
    have c1 := H2.out.cell 0 rfl
    have hb := H2.out.below
    clear c0 f0 H2
    generalize w2.setCell ⟨L + 1, 0, none⟩ (.bool true) = w3 at *
    exact ⟨.bool true, by simp [results, Try.f3, go_sem, c1], rfl, hb⟩

  · have hy : ¬ MayP size 1 := hbad.resolve_left hm
    have hm' : muchB size len 100 = false := by simpa using hm
    rw [hm'] at HM
    have HY := Lib.hid (fun w => may_no size 1 hy w)
    clear hy hbad
    refine (callsIn_wide (n := 9)).1 ?_
    refine callsIn_of_wp_marks Try.func3 rfl trivial ?_ rfl
    simp only [Try.ntmps3, List.size_toArray, List.length_cons, List.length_nil, Nat.reduceAdd, Nat.reduceSub, Array.replicate_succ, Array.replicate_zero, List.push_toArray, List.append_toArray, List.nil_append, List.cons_append]
    gi_wp2_with fail
    rw [HL.out]
    generalize hwb : (w0.alloc (.cells #[vi leave] 3)).alloc (.cells #[.bool false] 4) = wb at *
    clear hwb
    gi_wp2_with (first
            | (refine ⟨trivial, ?_⟩; gi_at_call 6; (with_reducible refine (callsIn_wide.2 (HM.out _)).mono ?_); rintro e w1 ⟨rfl, rfl⟩)
            | (refine ⟨trivial, ?_⟩; gi_at_call 7; (with_reducible refine (callsIn_wide.2 (HY.out _)).mono ?_); rintro e w1 ⟨rfl, rfl⟩)
            | (refine ⟨trivial, ?_⟩; gi_at_call 8; (with_reducible refine (callsIn_wide.2 (As.knownA HB.out)).mono ?_); rintro e w2 ⟨rfl, hS⟩; have c0 := hS.cell 0 rfl; have f0 := hS.free 0; have H2 := Lib.hid (hS.store 0 (.bool true)); clear hS)
            | (refine ⟨trivial, ?_⟩)
            )
    have c1 := H2.out.cell 0 rfl
    have hb := H2.out.below
    clear c0 f0 H2
    generalize w2.setCell ⟨L + 1, 0, none⟩ (.bool true) = w3 at *
    exact ⟨.bool true, by simp [results, Try.f3, go_sem, c1], rfl, hb⟩

set_option maxRecDepth 100000 in
set_option maxHeartbeats 8000000 in
theorem all_walk (w0 : World) (size : Int) (v : Value) (len : Nat) (A : Nat → Int) (h : ArgK w0 5 alK v len A) (leave : Int) :
    Calls Try.prog 3 #[vi size, v, vi leave] w0 (AlTrue w0) := by
  have hv : ∃ ao cap, v = .slice ao len cap := by
    rcases h.form with ⟨rfl, ao, cap, rfl⟩ | ⟨b, off, cap, rfl, _⟩
    · exact ⟨_, _, rfl⟩
    · exact ⟨_, _, rfl⟩
  obtain ⟨ao, cap, rfl⟩ := hv
  by_cases hbad : muchB size len 100 = true ∨ ¬ MayP size 1
  · exact all_early w0 size leave ao len cap hbad
  have hm : muchB size len 100 = false := by simpa using fun e => hbad (.inl e)
  have hmay : MayP size 1 := Classical.byContradiction fun e => hbad (.inr e)
  have hlen : len ≤ 100 := by
    unfold muchB at hm
    simp at hm
    omega
  have HM := Lib.hid (fun w => much_ size 100 len ao cap w)
  rw [hm] at HM
  obtain ⟨hs1, hs2, hf1, hf2⟩ := hmay
  obtain ⟨sz, rfl⟩ := Int.eq_ofNat_of_zero_le (show 0 ≤ size by omega)
  have HY : Hid (∀ w, Calls Try.prog 7 #[vi sz, vu 1] w fun e w' => e = .returned (.bool true) ∧ w = w') := Lib.hid fun w => may_yes sz 1 ⟨hs1, hs2, hf1, hf2⟩ w
  have HN : Hid (∀ (F : Hp) (w : World), Sat w0 F w → Calls Try.prog 9 #[vi sz, vu 1] w fun e w' => ∃ p, e = .returned (.tuple #[vp p, vi 0]) ∧ Sat w0 (tblP p (List.replicate sz ⟨1, false, false, ez⟩) (newF sz sz) * F) w') := Lib.hid fun F w h => new_ sz 1 (by omega) (by omega) hf1 hf2 h
  have HRN : Hid (∀ (F : Hp) (w : World), Sat w0 F w → Calls Try.prog 10 #[vi sz, vu 1] w fun e w' => ∃ q, e = .returned (vp q) ∧ Sat w0 (refP q (rnewL 1 sz) 0 * F) w') := Lib.hid fun F w h => rnew h sz (by omega) 1
  have HA := Lib.hid h
  have hsz : 1 ≤ sz := by omega
  clear h hm hbad hf1 hf2 hs1 hs2
  have hB : Sat w0 (pc (w0.heap.size + 1) 4 [.bool false] * (pc w0.heap.size 3 [vi leave] * emp)) ((w0.alloc (.cells #[vi leave] 3)).alloc (.cells #[.bool false] 4)) := by
    have h1 : Sat w0 (pc w0.heap.size 3 [vi leave] * emp) (w0.alloc (.cells #[vi leave] 3)) := (Sat.start w0).alloc _
    have h2 := h1.alloc (.cells #[.bool false] 4)
    rw [World.size_alloc] at h2
    exact h2
  have HB := Lib.hid hB
  clear hB
  generalize hL : w0.heap.size = L at *
  have HL := Lib.hid hL
  clear hL
  refine (callsIn_wide (n := 9)).1 ?_
  refine callsIn_of_wp_marks Try.func3 rfl trivial ?_ rfl
  simp only [Try.ntmps3, List.size_toArray, List.length_cons, List.length_nil, Nat.reduceAdd, Nat.reduceSub, Array.replicate_succ, Array.replicate_zero, List.push_toArray, List.append_toArray, List.nil_append, List.cons_append]
  refine wpIn_wide.2 ?_
  go_wp2_with fail
  rw [HL.out]
  generalize hwb : (w0.alloc (.cells #[vi leave] 3)).alloc (.cells #[.bool false] 4) = wb at *
  clear hwb
  go_wp2_with (first
        | (go_at_call 6; (with_reducible refine ((HM.out _)).mono ?_); rintro e w1 ⟨rfl, rfl⟩)
        | (go_at_call 7; (with_reducible refine ((HY.out _)).mono ?_); rintro e w1 ⟨rfl, rfl⟩)
        | (go_at_call 9; (with_reducible refine ((HN.out _ _ HB.out)).mono ?_); rintro e w2 ⟨p, rfl, hS⟩; have H := Lib.hid hS; clear hS)
        | (go_at_call 10; (with_reducible refine ((HRN.out _ _ H.out)).mono ?_); rintro e w3 ⟨q, rfl, hS⟩; have hT : Sat w0 (pc w3.heap.size 31 [vp q] * _) (w3.alloc (.cells #[vp q] 31)) := hS.alloc (.cells #[vp q] 31); have H2 := Lib.hid (AlS.fresh (hT.cast (show _ = refP q (rnewL 1 sz) 0 * (tblP p (List.replicate sz ⟨1, false, false, ez⟩) (newF sz sz) * (pc w3.heap.size 31 [vp q] * (pc (L + 1) 4 [.bool false] * (pc L 3 [vi leave] * emp)))) by ac_rfl))); clear hS hT)
        )
  generalize hw4 : w3.alloc (.cells #[vp q] 31) = w4 at *
  clear hw4
  generalize w3.heap.size = bW at *
  go_loopw [10] (fun i wr => ∃ k : Nat, k ≤ len ∧ i = vi k ∧ AlS w0 p q sz k (pc bW 31 [vp q] * (pc (L + 1) 4 [.bool false] * (pc L 3 [vi leave] * emp))) wr) (fun i _ => len - (intOf i).toNat)
  case atStart => exact ⟨0, Nat.zero_le _, rfl, H2.out⟩
  case round =>
    obtain ⟨k, hk, rfl, hS⟩ := hrel
    by_cases hlt : k < len
    · obtain ⟨b, off, rfl, x0, x1, x2, x3, x4, hc⟩ := al_act HA.out hlt
      have hki : (k : Int) < (len : Int) := by omega
      have d0 := hS.sat.cell 0 rfl
      obtain ⟨c0, c1, c2, c3, c4⟩ := hc _ _ hS.sat
      have HC := Lib.hid hc
      have HS := Lib.hid hS
      clear hS hc
      go_wp2_with fail
      go_region_held3 (fun w' => w'.cell? ⟨bW, 0, none⟩ = some (vp q) ∧ w'.cell? ⟨b, off + k * 5, none⟩ = some (vi x0) ∧ w'.cell? ⟨b, off + k * 5 + 1, none⟩ = some (vi x1) ∧ w'.cell? ⟨b, off + k * 5 + 2, none⟩ = some (vi x2) ∧ w'.cell? ⟨b, off + k * 5 + 3, none⟩ = some (vu x3) ∧ w'.cell? ⟨b, off + k * 5 + 4, none⟩ = some (vi x4))
        (first | exact ⟨e0, f0, f1, f2, f3, f4⟩ | go_keep)
        (first | (go_at_call 11; refine (HS.out.drew.do_ (by omega) x0 x1 x2 x3 x4).mono ?_; rintro e w5 ⟨rfl, hS5⟩; have e0 := hS5.sat.cell 0 rfl; obtain ⟨f0, f1, f2, f3, f4⟩ := HC.out _ _ hS5.sat; have H5 := Lib.hid hS5; clear hS5))
      go_wp2
      go_roundw
      case rel => exact ⟨k + 1, by omega, by go_num, H5.out⟩
      case measure => (simp [intOf]; try omega)
    · obtain rfl : k = len := by omega
      obtain ⟨ps, free, rs, times, hR, hn, ht, hS⟩ := hS
      have hok := tblOk_of hS
      have hsm := hok.small
      have HAl := Lib.hid (all_ hS)
      have HR := Lib.hid hR
      have HLn := Lib.hid hR.len
      clear hS hok
      go_wp2_with fail
      refine HAl.out.mono ?_
      rintro e w5 ⟨bx, iao, icap, rfl, hS⟩
      have hS5 : Sat w0 (tblP p ps free * (refP q rs times * (itP bx (.slice iao ps.length icap) ps * (pc bW 31 [vp q] * (pc (L + 1) 4 [.bool false] * (pc L 3 [vi leave] * emp)))))) w5 := hS.cast (by ac_rfl)
      have H5 := Lib.hid hS5
      have HP := Lib.hid (put_any hS5 99)
      clear hS hS5
      have hnf : ∀ (b : Nat) (W : World), (binOp BinOp.eql 39 (.func (.func 31) #[] #[.pointer (some ⟨b, 0, none⟩)]) .nilFunc).run Try.prog W = .ok (.bool false) W := fun _ _ => by rfl
      go_wp2_with fail
      refine HP.out.mono ?_
      rintro e w6 ⟨v6, ps6, free6, rfl, hS6⟩
      have HAt := Lib.hid (at_ hS6 0)
      clear hS6
      obtain ⟨i6, g6, b6, ha6⟩ := atV_form ps6 0
      rw [ha6] at HAt
      clear ha6
      go_wp2_with fail
      refine HAt.out.mono ?_
      rintro e w7 ⟨rfl, hS7⟩
      have hR7 : Sat w0 (pc w7.heap.size 35 [vi i6, vu g6] * (tblP p ps6 free6 * (refP q rs times * (itP bx (.slice iao ps.length icap) ps * (pc bW 31 [vp q] * (pc (L + 1) 4 [.bool false] * (pc L 3 [vi leave] * emp))))))) (w7.alloc (.cells #[vi i6, vu g6] 35)) := hS7.alloc (.cells #[vi i6, vu g6] 35)
      have d0 := hR7.cell 0 rfl
      have d1 := hR7.cell 1 rfl
      have HD := Lib.hid (drop_ hR7.pull2 i6 g6)
      have H7 := Lib.hid hR7.dropL.dropL
      clear hS7 hR7
      generalize hw8 : w7.alloc (.cells #[vi i6, vu g6] 35) = w8 at *
      have HW8 := Lib.hid hw8
      clear hw8
      generalize hz7 : w7.heap.size = bR6 at *
      have HZ7 := Lib.hid hz7
      clear hz7
      have hpos : rs.length ≠ 0 := by have := HLn.out; omega
      have hl2 : ps.length = rs.length := HLn.out
      go_upto_if 66 with fail
      rw [HW8.out, HZ7.out]
      go_cut [13] from 66 to 69 (fun _ wx => Sat w0 (refP q rs times * (itP bx (.slice iao ps.length icap) ps * (pc bW 31 [vp q] * (pc (L + 1) 4 [.bool false] * (pc L 3 [vi leave] * emp))))) wx)
      case first =>
        cases b6
        case false =>
          clear HW8
          go_wp2_with fail
          go_meet
          exact H7.out
        case true =>
          clear HW8
          go_wp2_with fail
          refine HD.out.mono ?_
          rintro e w9 ⟨rfl, hS9⟩
          have H9 := Lib.hid hS9.dropL.dropL
          clear hS9
          go_wp2_with fail
          go_meet
          exact H9.out
      case rest =>
        have H9 := Lib.hid hcut
        clear hcut HD d0 d1 H7 HW8 HZ7
        obtain ⟨w9, hw9⟩ : ∃ w, wc = w := ⟨_, rfl⟩
        subst hw9
        go_wp2_with fail
        generalize hbt2 : wc.heap.size = bt at *
        have HBT := Lib.hid hbt2
        clear hbt2
        obtain ⟨vv, hv⟩ := ropen H9.out
        obtain ⟨b, rcap, rfl, _⟩ := rat hv hpos
        have h0 : Sat w0 (pc wc.heap.size 3 [vi 0] * _) (wc.alloc (.cells #[vi 0] 3)) := hv.alloc (.cells #[vi 0] 3)
        rw [HBT.out] at h0
        have c0 := h0.cell 0 rfl
        have H10 := Lib.hid h0
        clear hv h0 H9 HBT
        generalize hw10 : wc.alloc (.cells #[vi 0] 3) = w10 at *
        clear hw10
        have HMk : Hid (MkP none w10) := Lib.hid fun _ e => by cases e
        refine wp_loop_rounds 3 ?_
        rw [rounds_succ]
        go_wp2_with fail
        have h1 : Sat w0 (pc w10.heap.size 3 [vi 0] * _) (w10.alloc (.cells #[vi 0] 3)) := H10.out.alloc (.cells #[vi 0] 3)
        have h2 := h1.alloc (.cells #[vi 0] 3)
        rw [World.size_alloc] at h2
        have h11 : Sat w0 (pc (w10.heap.size + 1) 3 [vi 0] * (pc w10.heap.size 3 [vi 0] * (pc bt 3 [vi 0] * (refB q (.slice (some ⟨b, 0, none⟩) rs.length rcap) times * (refL (.slice (some ⟨b, 0, none⟩) rs.length rcap) rs * (itP bx (.slice iao ps.length icap) ps * (pc bW 31 [vp q] * (pc (L + 1) 4 [.bool false] * (pc L 3 [vi leave] * emp))))))))) ((w10.alloc (.cells #[vi 0] 3)).alloc (.cells #[vi 0] 3)) := h2
        have HM10 : MkP none ((w10.alloc (.cells #[vi 0] 3)).alloc (.cells #[vi 0] 3)) := HMk.out.keep ((KeepsOthers.alloc _ _).trans (KeepsOthers.alloc _ _))
        have HZ : w10.heap.size < ((w10.alloc (.cells #[vi 0] 3)).alloc (.cells #[vi 0] 3)).heap.size := by rw [World.size_alloc, World.size_alloc]; omega
        generalize w10.heap.size = bA at *
        generalize (w10.alloc (.cells #[vi 0] 3)).alloc (.cells #[vi 0] 3) = w11 at *
        have hRt := itP_R (h11.cast (show _ = itP bx (.slice iao ps.length icap) ps * (pc (bA + 1) 3 [vi 0] * (pc bA 3 [vi 0] * (pc bt 3 [vi 0] * (refB q (.slice (some ⟨b, 0, none⟩) rs.length rcap) times * (refL (.slice (some ⟨b, 0, none⟩) rs.length rcap) rs * (pc bW 31 [vp q] * (pc (L + 1) 4 [.bool false] * (pc L 3 [vi leave] * emp)))))))) by ac_rfl))
        have hNA := itP_ne (h11.cast (show _ = pc bA 3 [vi 0] * (itP bx (.slice iao ps.length icap) ps * (pc (bA + 1) 3 [vi 0] * (pc bt 3 [vi 0] * (refB q (.slice (some ⟨b, 0, none⟩) rs.length rcap) times * (refL (.slice (some ⟨b, 0, none⟩) rs.length rcap) rs * (pc bW 31 [vp q] * (pc (L + 1) 4 [.bool false] * (pc L 3 [vi leave] * emp)))))))) by ac_rfl))
        have hNN := itP_ne (h11.cast (show _ = pc (bA + 1) 3 [vi 0] * (itP bx (.slice iao ps.length icap) ps * (pc bA 3 [vi 0] * (pc bt 3 [vi 0] * (refB q (.slice (some ⟨b, 0, none⟩) rs.length rcap) times * (refL (.slice (some ⟨b, 0, none⟩) rs.length rcap) rs * (pc bW 31 [vp q] * (pc (L + 1) 4 [.bool false] * (pc L 3 [vi leave] * emp)))))))) by ac_rfl))
        have hMo : ∀ E, none = some E → E < w11.heap.size := fun E e => lt_of_block (HM10 E e)
        have H11 := Lib.hid h11
        have HRt := Lib.hid hRt
        have HNA := Lib.hid hNA
        have HNN := Lib.hid hNN
        clear h1 h2 h11 hRt hNA hNN c0 H10
        rename_i K1 hK1 K0 hK0
        refine (wpIn_wide (n := 9)).1 ?_
        refine wpIn_act ?_
        intro a0 ha0
        have hC : ∀ (D : Nat) (n kk : Nat) (W : World), kk ≤ ps.length → (NoneIn ps kk ps.length ∨ ((n : Int) = leave)) → w11.heap.size ≤ D → SatC w0 w11.heap.size (pc (bA + 1) 3 [vi n] * (pc bA 3 [vi kk] * (pc bt 3 [vi 0] * (refB q (.slice (some ⟨b, 0, none⟩) rs.length rcap) times * (refL (.slice (some ⟨b, 0, none⟩) rs.length rcap) rs * (itP bx (.slice iao ps.length icap) ps * (pc bW 31 [vp q] * (pc (L + 1) 4 [.bool false] * (pc L 3 [vi leave] * emp))))))))) W → W.heap[D]? = some (.deferred (some [])) → MkP none W → K0 { a0 with defers := { target := .collected D, args := #[] } :: a0.defers } W := by
          intro D n kk W hk hend hDB hS hD hM
          subst ha0
          refine hK0 _ _ ?_
          dsimp only
          have HS := Lib.hid hS
          have HD := Lib.hid hD
          have HMD := Lib.hid hM
          have hD00 : w0.heap.size ≤ D := Nat.le_trans H11.out.size hDB

          clear hS hD hM hMo HRt HNA HNN
          go_upto_block 8 with fail
          go_cut [141] from 142 to 160 (fun _ wx => ∃ j : Nat, j ≤ ps.length ∧ (j = ps.length ∨ ((n : Int) = leave)) ∧ Sat w0 (pc (bA + 1) 3 [vi n] * (pc bA 3 [vi j] * (pc bt 3 [vi 0] * (refB q (.slice (some ⟨b, 0, none⟩) rs.length rcap) times * (refL (.slice (some ⟨b, 0, none⟩) rs.length rcap) rs * (itP bx (.slice iao ps.length icap) ps * (pc bW 31 [vp q] * (pc (L + 1) 4 [.bool false] * (pc L 3 [vi leave] * emp))))))))) wx ∧ wx.heap[D]? = some (.deferred (some [])) ∧ MkP none wx)
          case first =>
            go_wp2_with fail
            go_loopw [141] (fun _ wr => ∃ j : Nat, kk ≤ j ∧ j ≤ ps.length ∧ Sat w0 (pc (bA + 1) 3 [vi n] * (pc bA 3 [vi j] * (pc bt 3 [vi 0] * (refB q (.slice (some ⟨b, 0, none⟩) rs.length rcap) times * (refL (.slice (some ⟨b, 0, none⟩) rs.length rcap) rs * (itP bx (.slice iao ps.length icap) ps * (pc bW 31 [vp q] * (pc (L + 1) 4 [.bool false] * (pc L 3 [vi leave] * emp))))))))) wr ∧ wr.heap[D]? = some (.deferred (some [])) ∧ MkP none wr) (fun _ wr => ps.length - (intOf ((wr.cell? ⟨bA, 0, none⟩).getD undef)).toNat)
            case atStart => exact ⟨kk, Nat.le_refl _, hk, HS.out.sat, HD.out, HMD.out⟩
            case round =>
              obtain ⟨j, hj1, hj2, hS2, hD2, hM2⟩ := hrel
              have c15 := hS2.pull2.cell 0 rfl
              have f15 := hS2.pull2.free 0
              have cq := hS2.pull4.cell 0 rfl
              have c9 := hS2.dropL.dropL.dropL.dropL.dropL.dropL.cell 0 rfl
              have HD2 := Lib.hid hD2
              have HM2 := Lib.hid hM2
              clear hD2 hM2
              by_cases hlt : j < rs.length
              · have hjl : (j : Int) < (rs.length : Int) := by omega
                obtain ⟨r, hr2⟩ : ∃ r, rs[j]? = some r := ⟨rs[j], List.getElem?_eq_getElem hlt⟩
                have hsl := hS2.dropL.dropL.dropL.dropL
                have e1 := hsl.slCell _ (flat_get (j := 1) RP.len hr2 rfl)
                clear hsl
                have hps : ps[j]? = some r.pl := by rw [HR.out.eq, List.getElem?_map, hr2]; rfl
                obtain ⟨rgen, rthere, rret, rx, rfreed⟩ := r
                have HP := Lib.hid hps
                have HS2 := Lib.hid hS2
                clear hS2 hps
                cases rthere with
                | false =>
                  have hj31 : IntKind.i64.wrap ((j : Int) + 1) = ((j + 1 : Nat) : Int) := by rw [IntWalk.i64_in _ (by omega)]; omega
                  go_wp2_with fail
                  go_quiet (fail)
                  go_wp2_with fail
                  have h27 : Sat w0 (pc bA 3 [vi ((j : Int) + 1)] * (pc (bA + 1) 3 [vi n] * (pc bt 3 [vi 0] * (refB q (.slice (some ⟨b, 0, none⟩) rs.length rcap) times * (refL (.slice (some ⟨b, 0, none⟩) rs.length rcap) rs * (itP bx (.slice iao ps.length icap) ps * (pc bW 31 [vp q] * (pc (L + 1) 4 [.bool false] * (pc L 3 [vi leave] * emp))))))))) ((wr.drewN nq).setCell ⟨bA, 0, none⟩ (vi ((j : Int) + 1))) := ((HS2.out.drewN nq).cast (show _ = pc bA 3 [vi j] * (pc (bA + 1) 3 [vi n] * (pc bt 3 [vi 0] * (refB q (.slice (some ⟨b, 0, none⟩) rs.length rcap) times * (refL (.slice (some ⟨b, 0, none⟩) rs.length rcap) rs * (itP bx (.slice iao ps.length icap) ps * (pc bW 31 [vp q] * (pc (L + 1) 4 [.bool false] * (pc L 3 [vi leave] * emp)))))))) by ac_rfl)).store 0 (vi ((j : Int) + 1))
                  have hc27 := h27.cell 0 rfl
                  have k27 : KeepsOthers wr ((wr.drewN nq).setCell ⟨bA, 0, none⟩ (vi ((j : Int) + 1))) := (KeepsOthers.drewN (KeepsOthers.refl wr) nq).trans (KeepsOthers.setCell _ _ _)
                  have ej : ((j + 1 : Nat) : Int) = (j : Int) + 1 := by omega
                  refine ⟨⟨j + 1, by omega, by omega, by rw [ej]; exact h27.cast (by ac_rfl), k27.same D _ HD2.out rfl, HM2.out.keep k27⟩, ?_⟩
                  rw [hc27, c15]
                  simp [intOf]
                  omega
                | true =>
                  go_wp2_with fail
                  go_quiet (fail)
                  go_wp2_with fail
                  go_meet
                  refine ⟨j, hj2, .inr ?_, HS2.out.drewN _, HD2.out, HM2.out⟩
                  rcases hend with hend | hend
                  · exact absurd (hend j hj1 (by omega) _ HP.out) (by simp [RP.pl])
                  · exact hend
              · obtain rfl : j = rs.length := by omega
                have HS2 := Lib.hid hS2
                clear hS2
                go_wp2_with fail
                go_quiet (fail)
                go_wp2_with fail
                go_meet
                exact ⟨rs.length, hj2, .inl hl2.symm, HS2.out.drewN _, HD2.out, HM2.out⟩
          case rest =>
            obtain ⟨j, hj2, hjj, hS, hD, hM⟩ := hcut
            have c15 := hS.pull2.cell 0 rfl
            have cq := hS.pull4.cell 0 rfl
            have c14 := hS.dropL.dropL.cell 0 rfl
            have c16 := hS.cell 0 rfl
            have c9 := hS.dropL.dropL.dropL.dropL.dropL.dropL.cell 0 rfl
            have c5 := hS.dropL.dropL.dropL.dropL.dropL.dropL.dropL.dropL.cell 0 rfl
            have HS := Lib.hid hS
            have HD := Lib.hid hD
            have HM := Lib.hid hM
            clear hS hD hM
            go_upto_region 35 with fail
            go_cut [177] from 161 to 176 (fun v wx => v = .bool false ∧ Sat w0 (pc (bA + 1) 3 [vi n] * (pc bA 3 [vi j] * (pc bt 3 [vi 0] * (refB q (.slice (some ⟨b, 0, none⟩) rs.length rcap) times * (refL (.slice (some ⟨b, 0, none⟩) rs.length rcap) rs * (itP bx (.slice iao ps.length icap) ps * (pc bW 31 [vp q] * (pc (L + 1) 4 [.bool false] * (pc L 3 [vi leave] * emp))))))))) wx ∧ wx.heap[D]? = some (.deferred (some [])) ∧ MkP none wx)
            case first =>
              by_cases hlt : j < rs.length
              · have hjl : (j : Int) < (rs.length : Int) := by omega
                have hb : ((n : Int) = leave) := hjj.resolve_left (by omega)

                have hlb : ((n : Int) == leave) = true := beq_iff_eq.2 hb
                clear hjj hb hend
                go_quiet (fail)
                go_wp2_with fail
                go_meet
                exact ⟨rfl, HS.out.drewN _, HD.out, HM.out⟩
              · obtain rfl : j = rs.length := by omega
                clear hjj hend
                go_quiet (fail)
                go_wp2_with fail
                go_meet
                exact ⟨rfl, HS.out.drewN _, HD.out, HM.out⟩
            case rest =>
              obtain ⟨rfl, hS, hD, hM⟩ := hcut
              have c14 := hS.dropL.dropL.cell 0 rfl
              have HS := Lib.hid hS
              have HD := Lib.hid hD
              have HM := Lib.hid hM
              clear hS hD hM c15 cq c16 c9 c5 hjj hend
              go_wp2_with fail
              have hv := HS.out.dropL.dropL.dropL
              have h0 : Sat w0 (pc wc.heap.size 3 [vi 1] * _) (wc.alloc (.cells #[vi 1] 3)) := hv.alloc (.cells #[vi 1] 3)
              have hMk : MkP (some D) (wc.alloc (.cells #[vi 1] 3)) := fun D' e => by cases e; exact (KeepsOthers.alloc _ _).same D _ HD.out rfl
              generalize wc.heap.size = bt at *
              have c0 := h0.cell 0 rfl
              have H10 := Lib.hid h0
              have HMk := Lib.hid hMk
              clear hv h0 hMk HS HD HM c14
              generalize wc.alloc (.cells #[vi 1] 3) = w10 at *
              rw [rounds_succ]
              go_wp2_with fail
              have h1 : Sat w0 (pc w10.heap.size 3 [vi 0] * _) (w10.alloc (.cells #[vi 0] 3)) := H10.out.alloc (.cells #[vi 0] 3)
              have h2 := h1.alloc (.cells #[vi 0] 3)
              rw [World.size_alloc] at h2
              have h11 : Sat w0 (pc (w10.heap.size + 1) 3 [vi 0] * (pc w10.heap.size 3 [vi 0] * (pc bt 3 [vi 1] * (refB q (.slice (some ⟨b, 0, none⟩) rs.length rcap) times * (refL (.slice (some ⟨b, 0, none⟩) rs.length rcap) rs * (itP bx (.slice iao ps.length icap) ps * (pc bW 31 [vp q] * (pc (L + 1) 4 [.bool false] * (pc L 3 [vi leave] * emp))))))))) ((w10.alloc (.cells #[vi 0] 3)).alloc (.cells #[vi 0] 3)) := h2
              have HM10 : MkP (some D) ((w10.alloc (.cells #[vi 0] 3)).alloc (.cells #[vi 0] 3)) := HMk.out.keep ((KeepsOthers.alloc _ _).trans (KeepsOthers.alloc _ _))
              have HZ : w10.heap.size < ((w10.alloc (.cells #[vi 0] 3)).alloc (.cells #[vi 0] 3)).heap.size := by rw [World.size_alloc, World.size_alloc]; omega
              generalize w10.heap.size = bA at *
              generalize (w10.alloc (.cells #[vi 0] 3)).alloc (.cells #[vi 0] 3) = w11 at *
              have hRt := itP_R (h11.cast (show _ = itP bx (.slice iao ps.length icap) ps * (pc (bA + 1) 3 [vi 0] * (pc bA 3 [vi 0] * (pc bt 3 [vi 1] * (refB q (.slice (some ⟨b, 0, none⟩) rs.length rcap) times * (refL (.slice (some ⟨b, 0, none⟩) rs.length rcap) rs * (pc bW 31 [vp q] * (pc (L + 1) 4 [.bool false] * (pc L 3 [vi leave] * emp)))))))) by ac_rfl))
              have hNA := itP_ne (h11.cast (show _ = pc bA 3 [vi 0] * (itP bx (.slice iao ps.length icap) ps * (pc (bA + 1) 3 [vi 0] * (pc bt 3 [vi 1] * (refB q (.slice (some ⟨b, 0, none⟩) rs.length rcap) times * (refL (.slice (some ⟨b, 0, none⟩) rs.length rcap) rs * (pc bW 31 [vp q] * (pc (L + 1) 4 [.bool false] * (pc L 3 [vi leave] * emp)))))))) by ac_rfl))
              have hNN := itP_ne (h11.cast (show _ = pc (bA + 1) 3 [vi 0] * (itP bx (.slice iao ps.length icap) ps * (pc bA 3 [vi 0] * (pc bt 3 [vi 1] * (refB q (.slice (some ⟨b, 0, none⟩) rs.length rcap) times * (refL (.slice (some ⟨b, 0, none⟩) rs.length rcap) rs * (pc bW 31 [vp q] * (pc (L + 1) 4 [.bool false] * (pc L 3 [vi leave] * emp)))))))) by ac_rfl))
              have hMo : ∀ E, (some D) = some E → E < w11.heap.size := fun E e => lt_of_block (HM10 E e)
              have H11 := Lib.hid h11
              have HRt := Lib.hid hRt
              have HNA := Lib.hid hNA
              have HNN := Lib.hid hNN
              clear h1 h2 h11 hRt hNA hNN c0 H10
              rename_i K1 hK1 K0 hK0
              refine (wpIn_wide (n := 9)).1 ?_
              refine wpIn_act ?_
              intro a0 ha0
              have hC : ∀ (D2 : Nat) (n kk : Nat) (W : World), kk ≤ ps.length → (NoneIn ps kk ps.length ∨ False) → w11.heap.size ≤ D2 → SatC w0 w11.heap.size (pc (bA + 1) 3 [vi n] * (pc bA 3 [vi kk] * (pc bt 3 [vi 1] * (refB q (.slice (some ⟨b, 0, none⟩) rs.length rcap) times * (refL (.slice (some ⟨b, 0, none⟩) rs.length rcap) rs * (itP bx (.slice iao ps.length icap) ps * (pc bW 31 [vp q] * (pc (L + 1) 4 [.bool false] * (pc L 3 [vi leave] * emp))))))))) W → W.heap[D2]? = some (.deferred (some [])) → MkP (some D) W → K0 { a0 with defers := { target := .collected D2, args := #[] } :: a0.defers } W := by
                intro D2 n kk W hk hend hDB hS hD hM
                subst ha0
                refine hK0 _ _ ?_
                dsimp only
                have HS := Lib.hid hS
                have HD := Lib.hid hD
                have HMD := Lib.hid hM
                have hD01 : w0.heap.size ≤ D2 := Nat.le_trans H11.out.size hDB
                have hDD : D2 ≠ D := by have := hMo D rfl; omega
                clear hS hD hM hMo HRt HNA HNN
                go_upto_block 8 with fail
                go_cut [141] from 142 to 160 (fun _ wx => ∃ j : Nat, j ≤ ps.length ∧ (j = ps.length ∨ False) ∧ Sat w0 (pc (bA + 1) 3 [vi n] * (pc bA 3 [vi j] * (pc bt 3 [vi 1] * (refB q (.slice (some ⟨b, 0, none⟩) rs.length rcap) times * (refL (.slice (some ⟨b, 0, none⟩) rs.length rcap) rs * (itP bx (.slice iao ps.length icap) ps * (pc bW 31 [vp q] * (pc (L + 1) 4 [.bool false] * (pc L 3 [vi leave] * emp))))))))) wx ∧ wx.heap[D2]? = some (.deferred (some [])) ∧ MkP (some D) wx)
                case first =>
                  go_wp2_with fail
                  go_loopw [141] (fun _ wr => ∃ j : Nat, kk ≤ j ∧ j ≤ ps.length ∧ Sat w0 (pc (bA + 1) 3 [vi n] * (pc bA 3 [vi j] * (pc bt 3 [vi 1] * (refB q (.slice (some ⟨b, 0, none⟩) rs.length rcap) times * (refL (.slice (some ⟨b, 0, none⟩) rs.length rcap) rs * (itP bx (.slice iao ps.length icap) ps * (pc bW 31 [vp q] * (pc (L + 1) 4 [.bool false] * (pc L 3 [vi leave] * emp))))))))) wr ∧ wr.heap[D2]? = some (.deferred (some [])) ∧ MkP (some D) wr) (fun _ wr => ps.length - (intOf ((wr.cell? ⟨bA, 0, none⟩).getD undef)).toNat)
                  case atStart => exact ⟨kk, Nat.le_refl _, hk, HS.out.sat, HD.out, HMD.out⟩
                  case round =>
                    obtain ⟨j, hj1, hj2, hS2, hD2, hM2⟩ := hrel
                    have c15 := hS2.pull2.cell 0 rfl
                    have f15 := hS2.pull2.free 0
                    have cq := hS2.pull4.cell 0 rfl
                    have c9 := hS2.dropL.dropL.dropL.dropL.dropL.dropL.cell 0 rfl
                    have HD2 := Lib.hid hD2
                    have HM2 := Lib.hid hM2
                    clear hD2 hM2
                    by_cases hlt : j < rs.length
                    · have hjl : (j : Int) < (rs.length : Int) := by omega
                      obtain ⟨r, hr2⟩ : ∃ r, rs[j]? = some r := ⟨rs[j], List.getElem?_eq_getElem hlt⟩
                      have hsl := hS2.dropL.dropL.dropL.dropL
                      have e1 := hsl.slCell _ (flat_get (j := 1) RP.len hr2 rfl)
                      clear hsl
                      have hps : ps[j]? = some r.pl := by rw [HR.out.eq, List.getElem?_map, hr2]; rfl
                      obtain ⟨rgen, rthere, rret, rx, rfreed⟩ := r
                      have HP := Lib.hid hps
                      have HS2 := Lib.hid hS2
                      clear hS2 hps
                      cases rthere with
                      | false =>
                        have hj31 : IntKind.i64.wrap ((j : Int) + 1) = ((j + 1 : Nat) : Int) := by rw [IntWalk.i64_in _ (by omega)]; omega
                        go_wp2_with fail
                        go_quiet (fail)
                        go_wp2_with fail
                        have h27 : Sat w0 (pc bA 3 [vi ((j : Int) + 1)] * (pc (bA + 1) 3 [vi n] * (pc bt 3 [vi 1] * (refB q (.slice (some ⟨b, 0, none⟩) rs.length rcap) times * (refL (.slice (some ⟨b, 0, none⟩) rs.length rcap) rs * (itP bx (.slice iao ps.length icap) ps * (pc bW 31 [vp q] * (pc (L + 1) 4 [.bool false] * (pc L 3 [vi leave] * emp))))))))) ((wr.drewN nq).setCell ⟨bA, 0, none⟩ (vi ((j : Int) + 1))) := ((HS2.out.drewN nq).cast (show _ = pc bA 3 [vi j] * (pc (bA + 1) 3 [vi n] * (pc bt 3 [vi 1] * (refB q (.slice (some ⟨b, 0, none⟩) rs.length rcap) times * (refL (.slice (some ⟨b, 0, none⟩) rs.length rcap) rs * (itP bx (.slice iao ps.length icap) ps * (pc bW 31 [vp q] * (pc (L + 1) 4 [.bool false] * (pc L 3 [vi leave] * emp)))))))) by ac_rfl)).store 0 (vi ((j : Int) + 1))
                        have hc27 := h27.cell 0 rfl
                        have k27 : KeepsOthers wr ((wr.drewN nq).setCell ⟨bA, 0, none⟩ (vi ((j : Int) + 1))) := (KeepsOthers.drewN (KeepsOthers.refl wr) nq).trans (KeepsOthers.setCell _ _ _)
                        have ej : ((j + 1 : Nat) : Int) = (j : Int) + 1 := by omega
                        refine ⟨⟨j + 1, by omega, by omega, by rw [ej]; exact h27.cast (by ac_rfl), k27.same D2 _ HD2.out rfl, HM2.out.keep k27⟩, ?_⟩
                        rw [hc27, c15]
                        simp [intOf]
                        omega
                      | true =>
                        go_wp2_with fail
                        go_quiet (fail)
                        go_wp2_with fail
                        go_meet
                        refine ⟨j, hj2, .inr ?_, HS2.out.drewN _, HD2.out, HM2.out⟩
                        rcases hend with hend | hend
                        · exact absurd (hend j hj1 (by omega) _ HP.out) (by simp [RP.pl])
                        · exact hend
                    · obtain rfl : j = rs.length := by omega
                      have HS2 := Lib.hid hS2
                      clear hS2
                      go_wp2_with fail
                      go_quiet (fail)
                      go_wp2_with fail
                      go_meet
                      exact ⟨rs.length, hj2, .inl hl2.symm, HS2.out.drewN _, HD2.out, HM2.out⟩
                case rest =>
                  obtain ⟨j, hj2, hjj, hS, hD, hM⟩ := hcut
                  have c15 := hS.pull2.cell 0 rfl
                  have cq := hS.pull4.cell 0 rfl
                  have c14 := hS.dropL.dropL.cell 0 rfl
                  have c16 := hS.cell 0 rfl
                  have c9 := hS.dropL.dropL.dropL.dropL.dropL.dropL.cell 0 rfl
                  have c5 := hS.dropL.dropL.dropL.dropL.dropL.dropL.dropL.dropL.cell 0 rfl
                  have HS := Lib.hid hS
                  have HD := Lib.hid hD
                  have HM := Lib.hid hM
                  clear hS hD hM
                  go_upto_region 35 with fail
                  go_cut [177] from 161 to 176 (fun v wx => v = .bool false ∧ Sat w0 (pc (bA + 1) 3 [vi n] * (pc bA 3 [vi j] * (pc bt 3 [vi 1] * (refB q (.slice (some ⟨b, 0, none⟩) rs.length rcap) times * (refL (.slice (some ⟨b, 0, none⟩) rs.length rcap) rs * (itP bx (.slice iao ps.length icap) ps * (pc bW 31 [vp q] * (pc (L + 1) 4 [.bool false] * (pc L 3 [vi leave] * emp))))))))) wx ∧ wx.heap[D2]? = some (.deferred (some [])) ∧ MkP (some D) wx)
                  case first =>
                    by_cases hlt : j < rs.length
                    · have hjl : (j : Int) < (rs.length : Int) := by omega
                      have hb : False := hjj.resolve_left (by omega)
                      exact hb.elim



                    · obtain rfl : j = rs.length := by omega
                      clear hjj hend
                      go_quiet (fail)
                      go_wp2_with fail
                      go_meet
                      exact ⟨rfl, HS.out.drewN _, HD.out, HM.out⟩
                  case rest =>
                    obtain ⟨rfl, hS, hD, hM⟩ := hcut
                    have c14 := hS.dropL.dropL.cell 0 rfl
                    have HS := Lib.hid hS
                    have HD := Lib.hid hD
                    have HM := Lib.hid hM
                    clear hS hD hM c15 cq c16 c9 c5 hjj hend
                    go_wp2_with fail
                    have hv := HS.out.dropL.dropL.dropL
                    have h0 : Sat w0 (pc wc.heap.size 3 [vi 2] * _) (wc.alloc (.cells #[vi 2] 3)) := hv.alloc (.cells #[vi 2] 3)
                    have hk1 : (wc.alloc (.cells #[vi 2] 3)).heap[D]? = some (.deferred (some [])) := (KeepsOthers.alloc _ _).same D _ (HM.out D rfl) rfl
                    have hk2 : (wc.alloc (.cells #[vi 2] 3)).heap[D2]? = some (.deferred (some [])) := (KeepsOthers.alloc _ _).same D2 _ HD.out rfl
                    generalize wc.heap.size = bt at *
                    have c0 := h0.cell 0 rfl
                    have H10 := Lib.hid h0
                    have HK1 := Lib.hid hk1
                    have HK2 := Lib.hid hk2
                    clear hv h0 hk1 hk2 HS HD HM c14
                    generalize wc.alloc (.cells #[vi 2] 3) = w10 at *
                    rw [rounds_succ]
                    go_wp2_with (go_at_call 8; (with_reducible refine (As.knownA (Sat.start w10)).mono ?_); rintro e w12 ⟨rfl, hS12⟩; have c12 := (H10.out.rebase hS12.below).dropL.dropL.dropL.dropL.dropL.cell 0 rfl; have f12 := (H10.out.rebase hS12.below).dropL.dropL.dropL.dropL.dropL.free 0; have H12 := Lib.hid hS12.below; clear hS12)
                    have hS12 : Sat w0 (pc (L + 1) 4 [.bool false] * _) w12 := (H10.out.rebase H12.out).dropL.dropL.dropL.dropL.dropL
                    have hS13 := hS12.store 0 (.bool true)
                    have k1 := (KeepsOthers.setCell w12 ⟨L + 1, 0, none⟩ (.bool true)).same D _ ((H12.out.block D (lt_of_block HK1.out)).trans HK1.out) rfl
                    have k2 := (KeepsOthers.setCell w12 ⟨L + 1, 0, none⟩ (.bool true)).same D2 _ ((H12.out.block D2 (lt_of_block HK2.out)).trans HK2.out) rfl
                    have hne1 : L + 1 ≠ D := by
                      intro e
                      have h5 := hS13.blk.1
                      rw [← e, h5] at k1
                      cases k1
                    have hne2 : L + 1 ≠ D2 := by
                      intro e
                      have h5 := hS13.blk.1
                      rw [← e, h5] at k2
                      cases k2
                    have hc := hS13.cell 0 rfl
                    have hbf := hS13.below
                    generalize w12.setCell ⟨L + 1, 0, none⟩ (.bool true) = w13 at *
                    clear hS12 hS13 c12 f12
                    refine ⟨by simp, .inl ⟨_, _, rfl, run_takeDeferred k2, ?_⟩⟩
                    have k3 : (w13.putObj D2 (.deferred none)).heap[D]? = some (.deferred (some [])) := (World.putObj_heap_other (Ne.symm hDD)).trans k1
                    refine ⟨by simp, .inl ⟨_, _, rfl, run_takeDeferred k3, ?_⟩⟩
                    have hc2 : ((w13.putObj D2 (.deferred none)).putObj D (.deferred none)).cell? ⟨L + 1, 0, none⟩ = some (.bool true) :=
                      (World.cell?_of_block (a := ⟨L + 1, 0, none⟩) ((World.putObj_heap_other hne1).trans (World.putObj_heap_other hne2))).trans hc
                    refine ⟨.bool true, by simp [results, Try.f3, go_sem, hc2], rfl, ?_⟩
                    have hb2 := hbf.grown (grownBy_putObj' w13 D2 (.deferred none)) hbf.size (fun k e => by cases e; exact hD01)
                    exact hb2.grown (grownBy_putObj' _ D (.deferred none)) hb2.size (fun k e => by cases e; exact hD00)
              refine wpIn_rangeFunc_ownH rfl (by omega) (gf := 31) (lb := #[.pointer (some ⟨bx, 0, none⟩)]) (by rw [ha0]; rfl) trivial (enters_of Try.func31 (by kernel_rfl) rfl)
                (all_stops Fence.wide 8 trivial rfl (by omega) hsm HRt.out.1 HRt.out.2) KB.trans (KB.putObj HRt.out.2) (Below.refl _ _) (fun _ => rfl)
                (AlI w0 w11.heap.size (some D) ps (fun n k => pc (bA + 1) 3 [vi n] * (pc bA 3 [vi k] * (pc bt 3 [vi 1] * (refB q (.slice (some ⟨b, 0, none⟩) rs.length rcap) times * (refL (.slice (some ⟨b, 0, none⟩) rs.length rcap) rs * (itP bx (.slice iao ps.length icap) ps * (pc bW 31 [vp q] * (pc (L + 1) 4 [.bool false] * (pc L 3 [vi leave] * emp))))))))))
                (AlX w0 w11.heap.size (some D) ps (fun n k => pc (bA + 1) 3 [vi n] * (pc bA 3 [vi k] * (pc bt 3 [vi 1] * (refB q (.slice (some ⟨b, 0, none⟩) rs.length rcap) times * (refL (.slice (some ⟨b, 0, none⟩) rs.length rcap) rs * (itP bx (.slice iao ps.length icap) ps * (pc bW 31 [vp q] * (pc (L + 1) 4 [.bool false] * (pc L 3 [vi leave] * emp))))))))) (fun _ => False))
                (AlI.own H11.out.size hMo _ _) (AlX.own H11.out.size hMo _ _ _)
                ⟨0, Nat.zero_le _, rfl, Nat.le_refl _, HM10, H11.out.satC (Nat.le_refl _)⟩
                (AlA w11.heap.size a0) (AlA.own _ _) ?assign1 ?body1 ?done1 ?stop1
              case assign1 =>
                intro l pre x W K hS hK
                have hlt : w11.heap.size ≤ W.heap.size := by obtain ⟨_, _, _, h4, _⟩ := hS; exact h4
                have hI := (AlI.own H11.out.size hMo ps _).alloc (.cells #[vi x.1, vu x.2.1] 35) hS
                have hV : AlV W.heap.size x (W.alloc (.cells #[vi x.1, vu x.2.1] 35)) := by
                  have h1 : Sat W (pc W.heap.size 35 [vi x.1, vu x.2.1] * emp) (W.alloc (.cells #[vi x.1, vu x.2.1] 35)) := (Sat.start W).alloc _
                  exact ⟨h1.cell 0 rfl, h1.cell 1 rfl⟩
                have HK : Hid _ := Lib.hid (fun a' h => hK a' _ ((KeepsOthers.alloc W (.cells #[vi x.1, vu x.2.1] 35)).from _) (fun i hi => ((Below.refl W.heap.size W).alloc (Nat.le_refl _) _).block i (Nat.lt_of_lt_of_le (HRt.out.2 i hi) hlt)) hI ⟨W.heap.size, hlt, by simp, hV, h⟩)
                clear hK hS hI hV hlt
                subst ha0
                dsimp only [encA]
                gi_wp2
                exact HK.out _ rfl
              case body1 =>
                rintro l pre x a' W hl hr ⟨kk, hk, hpre, hW, hMk, hS⟩ ⟨b17, hb1, hb2, hV, rfl⟩ hlen
                subst ha0
                simp only [List.setIfInBounds_toArray, List.set_cons_succ, List.set_cons_zero]
                dsimp only at hS
                gi_wp2
                gi_loopw [77] (fun _ wr => ∃ j : Nat, kk ≤ j ∧ j ≤ ps.length ∧ NoneIn ps kk j ∧ AlV b17 x wr ∧ KeepsOthers W wr ∧ KB (itKs bx (.slice iao ps.length icap)) W wr ∧ SatC w0 w11.heap.size (pc (bA + 1) 3 [vi pre.length] * (pc bA 3 [vi j] * (pc bt 3 [vi 1] * (refB q (.slice (some ⟨b, 0, none⟩) rs.length rcap) times * (refL (.slice (some ⟨b, 0, none⟩) rs.length rcap) rs * (itP bx (.slice iao ps.length icap) ps * (pc bW 31 [vp q] * (pc (L + 1) 4 [.bool false] * (pc L 3 [vi leave] * emp))))))))) wr) (fun _ wr => ps.length - (intOf ((wr.cell? ⟨bA, 0, none⟩).getD undef)).toNat)
                case atStart => exact ⟨kk, Nat.le_refl _, hk, NoneIn.refl _ _, hV, KeepsOthers.refl _, fun _ _ => rfl, hS⟩
                case round =>
                  obtain ⟨j, hj1, hj2, hno, hV2, hK1, hK2, hS2⟩ := hrel
                  have c15 := hS2.sat.pull2.cell 0 rfl
                  have f15 := hS2.sat.pull2.free 0
                  have cq := hS2.sat.pull4.cell 0 rfl
                  have c9 := hS2.sat.dropL.dropL.dropL.dropL.dropL.dropL.cell 0 rfl
                  by_cases hlt : j < rs.length
                  · have hjl : (j : Int) < (rs.length : Int) := by omega
                    obtain ⟨r, hr2⟩ : ∃ r, rs[j]? = some r := ⟨rs[j], List.getElem?_eq_getElem hlt⟩
                    have hsl := hS2.sat.dropL.dropL.dropL.dropL
                    have e1 := hsl.slCell _ (flat_get (j := 1) RP.len hr2 rfl)
                    have e0 := hsl.slCell _ (flat_get (j := 0) RP.len hr2 rfl)
                    have e3 := hsl.slCell _ (flat_get (j := 3) RP.len hr2 rfl)
                    rw [Nat.add_zero] at e0
                    clear hsl
                    obtain ⟨rgen, rthere, rret, rx, rfreed⟩ := r
                    cases rthere with
                    | false =>
                      have HS2 := Lib.hid hS2
                      clear hS2 e0 e3
                      gi_wp2
                      refine quiet_regionR (by kernel_rfl) (by kernel_rfl) (by kernel_rfl) ?_
                      repeat (gi_big_quiet_step (fail))
                      refine wpQuietIn_nil ?_
                      intro _ hw'
                      obtain ⟨nq, hw''⟩ := hw'
                      subst hw''
                      have hj31 : IntKind.i64.wrap ((j : Int) + 1) = ((j + 1 : Nat) : Int) := by rw [IntWalk.i64_in _ (by omega)]; omega
                      have h27 : SatC w0 w11.heap.size (pc bA 3 [vi (j + 1 : Nat)] * (pc (bA + 1) 3 [vi pre.length] * (pc bt 3 [vi 1] * (refB q (.slice (some ⟨b, 0, none⟩) rs.length rcap) times * (refL (.slice (some ⟨b, 0, none⟩) rs.length rcap) rs * (itP bx (.slice iao ps.length icap) ps * (pc bW 31 [vp q] * (pc (L + 1) 4 [.bool false] * (pc L 3 [vi leave] * emp))))))))) ((wr.drewN nq).setCell ⟨bA, 0, none⟩ (vi (j + 1 : Nat))) := ((SatC.drewN HS2.out nq).cast (show _ = pc bA 3 [vi j] * (pc (bA + 1) 3 [vi pre.length] * (pc bt 3 [vi 1] * (refB q (.slice (some ⟨b, 0, none⟩) rs.length rcap) times * (refL (.slice (some ⟨b, 0, none⟩) rs.length rcap) rs * (itP bx (.slice iao ps.length icap) ps * (pc bW 31 [vp q] * (pc (L + 1) 4 [.bool false] * (pc L 3 [vi leave] * emp)))))))) by ac_rfl)).store 0 (vi (j + 1 : Nat))
                      have H27 := Lib.hid (h27.cast (show _ = pc (bA + 1) 3 [vi pre.length] * (pc bA 3 [vi (j + 1 : Nat)] * (pc bt 3 [vi 1] * (refB q (.slice (some ⟨b, 0, none⟩) rs.length rcap) times * (refL (.slice (some ⟨b, 0, none⟩) rs.length rcap) rs * (itP bx (.slice iao ps.length icap) ps * (pc bW 31 [vp q] * (pc (L + 1) 4 [.bool false] * (pc L 3 [vi leave] * emp)))))))) by ac_rfl))
                      have hc27 := Lib.hid (h27.sat.cell 0 rfl)
                      clear h27
                      gi_wp2
                      have hps : ps[j]? = some ⟨rgen, false, rret, rx⟩ := by rw [HR.out.eq, List.getElem?_map, hr2]; rfl
                      have hbne : b17 ≠ bA := by have := HS2.out.sat.pull2.lt; have := H11.out.pull2.lt; omega
                      have ej : (j : Int) + 1 = ((j + 1 : Nat) : Int) := by omega
                      rw [ej]
                      refine ⟨⟨j + 1, by omega, by omega, hno.succ hps rfl, ⟨(World.cell?_setCell_far _ _ _ _ (Ne.symm hbne)).trans hV2.1, (World.cell?_setCell_far _ _ _ _ (Ne.symm hbne)).trans hV2.2⟩, (KeepsOthers.drewN hK1 nq).trans (KeepsOthers.setCell _ _ _), fun i hi => (Below.heap_setCell _ _ _ _ (HNA.out i hi)).trans (hK2 i hi), H27.out⟩, ?_⟩
                      rw [hc27.out, c15]
                      simp [intOf]
                      omega
                    | true =>
                      have hps : ps[j]? = some ⟨rgen, true, rret, rx⟩ := by rw [HR.out.eq, List.getElem?_map, hr2]; rfl
                      have hbne : b17 ≠ bA := by have := hS2.sat.pull2.lt; have := H11.out.pull2.lt; omega
                      have hjne : ((j : Int) == (rs.length : Int)) = false := beq_eq_false_iff_ne.2 (by omega)
                      have v0 := hV2.1
                      have v1 := hV2.2
                      obtain ⟨xi, xg, xe⟩ := x
                      dsimp only at v0 v1
                      by_cases hxe : xi = j ∧ xg = rgen ∧ xe = rx
                      · obtain ⟨rfl, rfl, rfl⟩ := hxe
                        have HP := Lib.hid hps
                        have HPre := Lib.hid hpre
                        have HS2 := Lib.hid hS2
                        clear hS2 hps hpre
                        gi_wp2
                        refine quiet_regionR (by kernel_rfl) (by kernel_rfl) (by kernel_rfl) ?_
                        repeat (gi_big_quiet_step (fail))
                        refine wpQuietIn_nil ?_
                        intro _ hw'
                        obtain ⟨nq1, hw''⟩ := hw'
                        subst hw''
                        gi_wp2
                        refine quiet_regionR (by kernel_rfl) (by kernel_rfl) (by kernel_rfl) ?_
                        repeat (gi_big_quiet_step (fail))
                        refine wpQuietIn_nil ?_
                        intro _ hw'
                        obtain ⟨nq2, hw''⟩ := hw'
                        subst hw''
                        have h30 : SatC w0 w11.heap.size (pc bA 3 [vi ((xi : Int) + 1)] * (pc (bA + 1) 3 [vi pre.length] * (pc bt 3 [vi 1] * (refB q (.slice (some ⟨b, 0, none⟩) rs.length rcap) times * (refL (.slice (some ⟨b, 0, none⟩) rs.length rcap) rs * (itP bx (.slice iao ps.length icap) ps * (pc bW 31 [vp q] * (pc (L + 1) 4 [.bool false] * (pc L 3 [vi leave] * emp))))))))) ((wr.drewN (nq1 + nq2)).setCell ⟨bA, 0, none⟩ (vi ((xi : Int) + 1))) := ((SatC.drewN HS2.out (nq1 + nq2)).cast (show _ = pc bA 3 [vi xi] * (pc (bA + 1) 3 [vi pre.length] * (pc bt 3 [vi 1] * (refB q (.slice (some ⟨b, 0, none⟩) rs.length rcap) times * (refL (.slice (some ⟨b, 0, none⟩) rs.length rcap) rs * (itP bx (.slice iao ps.length icap) ps * (pc bW 31 [vp q] * (pc (L + 1) 4 [.bool false] * (pc L 3 [vi leave] * emp)))))))) by ac_rfl)).store 0 (vi ((xi : Int) + 1))
                        have h30' : SatC w0 w11.heap.size (pc (bA + 1) 3 [vi pre.length] * (pc bA 3 [vi ((xi : Int) + 1)] * (pc bt 3 [vi 1] * (refB q (.slice (some ⟨b, 0, none⟩) rs.length rcap) times * (refL (.slice (some ⟨b, 0, none⟩) rs.length rcap) rs * (itP bx (.slice iao ps.length icap) ps * (pc bW 31 [vp q] * (pc (L + 1) 4 [.bool false] * (pc L 3 [vi leave] * emp))))))))) ((wr.drewN (nq1 + nq2)).setCell ⟨bA, 0, none⟩ (vi ((xi : Int) + 1))) := h30.cast (by ac_rfl)
                        have c16 := h30'.sat.cell 0 rfl
                        have f16 := h30'.sat.free 0
                        have h31 := h30'.store 0 (vi ((pre.length : Int) + 1))
                        have c16b := h31.sat.cell 0 rfl
                        have c14b := h31.sat.dropL.dropL.cell 0 rfl
                        have c5b := h31.sat.dropL.dropL.dropL.dropL.dropL.dropL.dropL.dropL.cell 0 rfl
                        simp only [List.set_cons_zero] at h31 c16b c14b c5b
                        have H31 := Lib.hid h31
                        clear h30 h30' h31 cq c9 e0 e1 e3 v0 v1
                        have hpl : pre.length < 4096 := by omega
                        gi_wp2
                        exact ⟨(((KeepsOthers.drewN hK1 (nq1 + nq2)).trans (KeepsOthers.setCell _ _ _)).trans (KeepsOthers.setCell _ _ _)).from _, fun i hi => (Below.heap_setCell _ _ _ _ (HNN.out i hi)).trans ((Below.heap_setCell _ _ _ _ (HNA.out i hi)).trans (hK2 i hi)), (AlI.step HPre.out hj1 hno HP.out rfl (hMk.keep (((KeepsOthers.drewN hK1 (nq1 + nq2)).trans (KeepsOthers.setCell _ _ _)).trans (KeepsOthers.setCell _ _ _))) (Nat.le_trans hW (((KeepsOthers.drewN hK1 (nq1 + nq2)).trans (KeepsOthers.setCell _ _ _)).trans (KeepsOthers.setCell _ _ _)).size) H31.out)⟩
                      · have c6 := hS2.sat.dropL.dropL.dropL.dropL.dropL.dropL.dropL.cell 0 rfl
                        have f6 := hS2.sat.dropL.dropL.dropL.dropL.dropL.dropL.dropL.free 0
                        have HM2 := Lib.hid (show ¬ AllSp ps (pre ++ [(xi, xg, xe)]) from fun hA => by
                          obtain ⟨a, ha, _, hx⟩ := seen_next hpre hj1 hno (.inr ⟨_, hps, rfl⟩) hA
                          rw [hps] at ha
                          cases ha
                          cases hx
                          exact hxe ⟨rfl, rfl, rfl⟩)
                        have HS2 := Lib.hid hS2
                        clear hS2 hps hpre hno
                        by_cases hx1 : xi = j
                        · subst hx1
                          by_cases hx2 : xg = rgen
                          · subst hx2
                            have hx3 : (xe == rx) = false := beq_eq_false_iff_ne.2 (fun e => hxe ⟨rfl, rfl, e⟩)
                            have hx4 : ((xe : Int) != (rx : Int)) = true := by rw [bne, hx3]; rfl
                            clear hxe
                            gi_wp2
                            refine quiet_regionR (by kernel_rfl) (by kernel_rfl) (by kernel_rfl) ?_
                            repeat (gi_big_quiet_step (fail))
                            refine wpQuietIn_nil ?_
                            intro _ hw'
                            obtain ⟨nq1, hw''⟩ := hw'
                            subst hw''
                            gi_wp2
                            refine quiet_regionR (by kernel_rfl) (by kernel_rfl) (by kernel_rfl) ?_
                            repeat (gi_big_quiet_step (fail))
                            refine wpQuietIn_nil ?_
                            intro _ hw'
                            obtain ⟨nq2, hw''⟩ := hw'
                            subst hw''
                            gi_wp2
                            exact ⟨((KeepsOthers.drewN hK1 (nq1 + nq2)).trans (KeepsOthers.setCell _ _ _)).from _, .inl ⟨rfl, HM2.out⟩⟩
                          · have hx3 : (xg == rgen) = false := beq_eq_false_iff_ne.2 hx2
                            clear hxe hx2
                            gi_wp2
                            refine quiet_regionR (by kernel_rfl) (by kernel_rfl) (by kernel_rfl) ?_
                            repeat (gi_big_quiet_step (fail))
                            refine wpQuietIn_nil ?_
                            intro _ hw'
                            obtain ⟨nq1, hw''⟩ := hw'
                            subst hw''
                            gi_wp2
                            refine quiet_regionR (by kernel_rfl) (by kernel_rfl) (by kernel_rfl) ?_
                            repeat (gi_big_quiet_step (fail))
                            refine wpQuietIn_nil ?_
                            intro _ hw'
                            obtain ⟨nq2, hw''⟩ := hw'
                            subst hw''
                            gi_wp2
                            exact ⟨((KeepsOthers.drewN hK1 (nq1 + nq2)).trans (KeepsOthers.setCell _ _ _)).from _, .inl ⟨rfl, HM2.out⟩⟩
                        · have hx3 : ((xi : Int) == (j : Int)) = false := beq_eq_false_iff_ne.2 (by omega)
                          clear hxe hx1
                          gi_wp2
                          refine quiet_regionR (by kernel_rfl) (by kernel_rfl) (by kernel_rfl) ?_
                          repeat (gi_big_quiet_step (fail))
                          refine wpQuietIn_nil ?_
                          intro _ hw'
                          obtain ⟨nq1, hw''⟩ := hw'
                          subst hw''
                          gi_wp2
                          refine quiet_regionR (by kernel_rfl) (by kernel_rfl) (by kernel_rfl) ?_
                          repeat (gi_big_quiet_step (fail))
                          refine wpQuietIn_nil ?_
                          intro _ hw'
                          obtain ⟨nq2, hw''⟩ := hw'
                          subst hw''
                          gi_wp2
                          exact ⟨((KeepsOthers.drewN hK1 (nq1 + nq2)).trans (KeepsOthers.setCell _ _ _)).from _, .inl ⟨rfl, HM2.out⟩⟩
                  · obtain rfl : j = rs.length := by omega
                    have hmiss : ¬ AllSp ps (pre ++ [x]) := fun hA => by
                      obtain ⟨a, ha, _, _⟩ := seen_next hpre hj1 hno (.inl hl2.symm) hA
                      have := (List.getElem?_eq_some_iff.1 ha).1
                      omega
                    have c6 := hS2.sat.dropL.dropL.dropL.dropL.dropL.dropL.dropL.cell 0 rfl
                    have f6 := hS2.sat.dropL.dropL.dropL.dropL.dropL.dropL.dropL.free 0
                    have HM2 := Lib.hid hmiss
                    have HS2 := Lib.hid hS2
                    clear hS2 hmiss hno
                    gi_wp2
                    refine quiet_regionR (by kernel_rfl) (by kernel_rfl) (by kernel_rfl) ?_
                    repeat (gi_big_quiet_step (fail))
                    refine wpQuietIn_nil ?_
                    intro _ hw'
                    obtain ⟨nq1, hw''⟩ := hw'
                    subst hw''
                    gi_wp2
                    refine quiet_regionR (by kernel_rfl) (by kernel_rfl) (by kernel_rfl) ?_
                    repeat (gi_big_quiet_step (fail))
                    refine wpQuietIn_nil ?_
                    intro _ hw'
                    obtain ⟨nq2, hw''⟩ := hw'
                    subst hw''
                    gi_wp2
                    first
                      | exact ⟨((KeepsOthers.drewN (KeepsOthers.drewN hK1 nq1) nq2).trans (KeepsOthers.setCell _ _ _)).from _, .inl ⟨rfl, HM2.out⟩⟩
                      | exact ⟨((KeepsOthers.drewN hK1 (nq1 + nq2)).trans (KeepsOthers.setCell _ _ _)).from _, .inl ⟨rfl, HM2.out⟩⟩
              case done1 =>
                rintro D' ys W hD hys ⟨kk, hk, hpre, hW, hMk, hS⟩ hK
                exact hC D' ys.length kk W hk (.inl (seen_end (hpre.symm.trans hys))) hD hS hK hMk
              case stop1 =>
                rintro D' c pre W hD hSp hX hK
                rcases hX with ⟨rfl, hno⟩ | ⟨rfl, hbr, kk, hk, hpre, hW, hMk, hS⟩
                · exact absurd hSp hno
                · refine wpIn_exit ?_
                  exact hC D' pre.length kk W hk (.inr hbr) hD hS hK hMk
        refine wpIn_rangeFunc_ownH rfl (by omega) (gf := 31) (lb := #[.pointer (some ⟨bx, 0, none⟩)]) (by rw [ha0]; rfl) trivial (enters_of Try.func31 (by kernel_rfl) rfl)
          (all_stops Fence.wide 8 trivial rfl (by omega) hsm HRt.out.1 HRt.out.2) KB.trans (KB.putObj HRt.out.2) (Below.refl _ _) (fun _ => rfl)
          (AlI w0 w11.heap.size none ps (fun n k => pc (bA + 1) 3 [vi n] * (pc bA 3 [vi k] * (pc bt 3 [vi 0] * (refB q (.slice (some ⟨b, 0, none⟩) rs.length rcap) times * (refL (.slice (some ⟨b, 0, none⟩) rs.length rcap) rs * (itP bx (.slice iao ps.length icap) ps * (pc bW 31 [vp q] * (pc (L + 1) 4 [.bool false] * (pc L 3 [vi leave] * emp))))))))))
          (AlX w0 w11.heap.size none ps (fun n k => pc (bA + 1) 3 [vi n] * (pc bA 3 [vi k] * (pc bt 3 [vi 0] * (refB q (.slice (some ⟨b, 0, none⟩) rs.length rcap) times * (refL (.slice (some ⟨b, 0, none⟩) rs.length rcap) rs * (itP bx (.slice iao ps.length icap) ps * (pc bW 31 [vp q] * (pc (L + 1) 4 [.bool false] * (pc L 3 [vi leave] * emp))))))))) (fun n => (n : Int) = leave))
          (AlI.own H11.out.size hMo _ _) (AlX.own H11.out.size hMo _ _ _)
          ⟨0, Nat.zero_le _, rfl, Nat.le_refl _, HM10, H11.out.satC (Nat.le_refl _)⟩
          (AlA w11.heap.size a0) (AlA.own _ _) ?assign0 ?body0 ?done0 ?stop0
        case assign0 =>
          intro l pre x W K hS hK
          have hlt : w11.heap.size ≤ W.heap.size := by obtain ⟨_, _, _, h4, _⟩ := hS; exact h4
          have hI := (AlI.own H11.out.size hMo ps _).alloc (.cells #[vi x.1, vu x.2.1] 35) hS
          have hV : AlV W.heap.size x (W.alloc (.cells #[vi x.1, vu x.2.1] 35)) := by
            have h1 : Sat W (pc W.heap.size 35 [vi x.1, vu x.2.1] * emp) (W.alloc (.cells #[vi x.1, vu x.2.1] 35)) := (Sat.start W).alloc _
            exact ⟨h1.cell 0 rfl, h1.cell 1 rfl⟩
          have HK : Hid _ := Lib.hid (fun a' h => hK a' _ ((KeepsOthers.alloc W (.cells #[vi x.1, vu x.2.1] 35)).from _) (fun i hi => ((Below.refl W.heap.size W).alloc (Nat.le_refl _) _).block i (Nat.lt_of_lt_of_le (HRt.out.2 i hi) hlt)) hI ⟨W.heap.size, hlt, by simp, hV, h⟩)
          clear hK hS hI hV hlt
          subst ha0
          dsimp only [encA]
          gi_wp2
          exact HK.out _ rfl
        case body0 =>
          rintro l pre x a' W hl hr ⟨kk, hk, hpre, hW, hMk, hS⟩ ⟨b17, hb1, hb2, hV, rfl⟩ hlen
          subst ha0
          simp only [List.setIfInBounds_toArray, List.set_cons_succ, List.set_cons_zero]
          dsimp only at hS
          gi_wp2
          gi_loopw [77] (fun _ wr => ∃ j : Nat, kk ≤ j ∧ j ≤ ps.length ∧ NoneIn ps kk j ∧ AlV b17 x wr ∧ KeepsOthers W wr ∧ KB (itKs bx (.slice iao ps.length icap)) W wr ∧ SatC w0 w11.heap.size (pc (bA + 1) 3 [vi pre.length] * (pc bA 3 [vi j] * (pc bt 3 [vi 0] * (refB q (.slice (some ⟨b, 0, none⟩) rs.length rcap) times * (refL (.slice (some ⟨b, 0, none⟩) rs.length rcap) rs * (itP bx (.slice iao ps.length icap) ps * (pc bW 31 [vp q] * (pc (L + 1) 4 [.bool false] * (pc L 3 [vi leave] * emp))))))))) wr) (fun _ wr => ps.length - (intOf ((wr.cell? ⟨bA, 0, none⟩).getD undef)).toNat)
          case atStart => exact ⟨kk, Nat.le_refl _, hk, NoneIn.refl _ _, hV, KeepsOthers.refl _, fun _ _ => rfl, hS⟩
          case round =>
            obtain ⟨j, hj1, hj2, hno, hV2, hK1, hK2, hS2⟩ := hrel
            have c15 := hS2.sat.pull2.cell 0 rfl
            have f15 := hS2.sat.pull2.free 0
            have cq := hS2.sat.pull4.cell 0 rfl
            have c9 := hS2.sat.dropL.dropL.dropL.dropL.dropL.dropL.cell 0 rfl
            by_cases hlt : j < rs.length
            · have hjl : (j : Int) < (rs.length : Int) := by omega
              obtain ⟨r, hr2⟩ : ∃ r, rs[j]? = some r := ⟨rs[j], List.getElem?_eq_getElem hlt⟩
              have hsl := hS2.sat.dropL.dropL.dropL.dropL
              have e1 := hsl.slCell _ (flat_get (j := 1) RP.len hr2 rfl)
              have e0 := hsl.slCell _ (flat_get (j := 0) RP.len hr2 rfl)
              have e3 := hsl.slCell _ (flat_get (j := 3) RP.len hr2 rfl)
              rw [Nat.add_zero] at e0
              clear hsl
              obtain ⟨rgen, rthere, rret, rx, rfreed⟩ := r
              cases rthere with
              | false =>
                have HS2 := Lib.hid hS2
                clear hS2 e0 e3
                gi_wp2
                refine quiet_regionR (by kernel_rfl) (by kernel_rfl) (by kernel_rfl) ?_
                repeat (gi_big_quiet_step (fail))
                refine wpQuietIn_nil ?_
                intro _ hw'
                obtain ⟨nq, hw''⟩ := hw'
                subst hw''
                have hj31 : IntKind.i64.wrap ((j : Int) + 1) = ((j + 1 : Nat) : Int) := by rw [IntWalk.i64_in _ (by omega)]; omega
                have h27 : SatC w0 w11.heap.size (pc bA 3 [vi (j + 1 : Nat)] * (pc (bA + 1) 3 [vi pre.length] * (pc bt 3 [vi 0] * (refB q (.slice (some ⟨b, 0, none⟩) rs.length rcap) times * (refL (.slice (some ⟨b, 0, none⟩) rs.length rcap) rs * (itP bx (.slice iao ps.length icap) ps * (pc bW 31 [vp q] * (pc (L + 1) 4 [.bool false] * (pc L 3 [vi leave] * emp))))))))) ((wr.drewN nq).setCell ⟨bA, 0, none⟩ (vi (j + 1 : Nat))) := ((SatC.drewN HS2.out nq).cast (show _ = pc bA 3 [vi j] * (pc (bA + 1) 3 [vi pre.length] * (pc bt 3 [vi 0] * (refB q (.slice (some ⟨b, 0, none⟩) rs.length rcap) times * (refL (.slice (some ⟨b, 0, none⟩) rs.length rcap) rs * (itP bx (.slice iao ps.length icap) ps * (pc bW 31 [vp q] * (pc (L + 1) 4 [.bool false] * (pc L 3 [vi leave] * emp)))))))) by ac_rfl)).store 0 (vi (j + 1 : Nat))
                have H27 := Lib.hid (h27.cast (show _ = pc (bA + 1) 3 [vi pre.length] * (pc bA 3 [vi (j + 1 : Nat)] * (pc bt 3 [vi 0] * (refB q (.slice (some ⟨b, 0, none⟩) rs.length rcap) times * (refL (.slice (some ⟨b, 0, none⟩) rs.length rcap) rs * (itP bx (.slice iao ps.length icap) ps * (pc bW 31 [vp q] * (pc (L + 1) 4 [.bool false] * (pc L 3 [vi leave] * emp)))))))) by ac_rfl))
                have hc27 := Lib.hid (h27.sat.cell 0 rfl)
                clear h27
                gi_wp2
                have hps : ps[j]? = some ⟨rgen, false, rret, rx⟩ := by rw [HR.out.eq, List.getElem?_map, hr2]; rfl
                have hbne : b17 ≠ bA := by have := HS2.out.sat.pull2.lt; have := H11.out.pull2.lt; omega
                have ej : (j : Int) + 1 = ((j + 1 : Nat) : Int) := by omega
                rw [ej]
                refine ⟨⟨j + 1, by omega, by omega, hno.succ hps rfl, ⟨(World.cell?_setCell_far _ _ _ _ (Ne.symm hbne)).trans hV2.1, (World.cell?_setCell_far _ _ _ _ (Ne.symm hbne)).trans hV2.2⟩, (KeepsOthers.drewN hK1 nq).trans (KeepsOthers.setCell _ _ _), fun i hi => (Below.heap_setCell _ _ _ _ (HNA.out i hi)).trans (hK2 i hi), H27.out⟩, ?_⟩
                rw [hc27.out, c15]
                simp [intOf]
                omega
              | true =>
                have hps : ps[j]? = some ⟨rgen, true, rret, rx⟩ := by rw [HR.out.eq, List.getElem?_map, hr2]; rfl
                have hbne : b17 ≠ bA := by have := hS2.sat.pull2.lt; have := H11.out.pull2.lt; omega
                have hjne : ((j : Int) == (rs.length : Int)) = false := beq_eq_false_iff_ne.2 (by omega)
                have v0 := hV2.1
                have v1 := hV2.2
                obtain ⟨xi, xg, xe⟩ := x
                dsimp only at v0 v1
                by_cases hxe : xi = j ∧ xg = rgen ∧ xe = rx
                · obtain ⟨rfl, rfl, rfl⟩ := hxe
                  have HP := Lib.hid hps
                  have HPre := Lib.hid hpre
                  have HS2 := Lib.hid hS2
                  clear hS2 hps hpre
                  gi_wp2
                  refine quiet_regionR (by kernel_rfl) (by kernel_rfl) (by kernel_rfl) ?_
                  repeat (gi_big_quiet_step (fail))
                  refine wpQuietIn_nil ?_
                  intro _ hw'
                  obtain ⟨nq1, hw''⟩ := hw'
                  subst hw''
                  gi_wp2
                  refine quiet_regionR (by kernel_rfl) (by kernel_rfl) (by kernel_rfl) ?_
                  repeat (gi_big_quiet_step (fail))
                  refine wpQuietIn_nil ?_
                  intro _ hw'
                  obtain ⟨nq2, hw''⟩ := hw'
                  subst hw''
                  have h30 : SatC w0 w11.heap.size (pc bA 3 [vi ((xi : Int) + 1)] * (pc (bA + 1) 3 [vi pre.length] * (pc bt 3 [vi 0] * (refB q (.slice (some ⟨b, 0, none⟩) rs.length rcap) times * (refL (.slice (some ⟨b, 0, none⟩) rs.length rcap) rs * (itP bx (.slice iao ps.length icap) ps * (pc bW 31 [vp q] * (pc (L + 1) 4 [.bool false] * (pc L 3 [vi leave] * emp))))))))) ((wr.drewN (nq1 + nq2)).setCell ⟨bA, 0, none⟩ (vi ((xi : Int) + 1))) := ((SatC.drewN HS2.out (nq1 + nq2)).cast (show _ = pc bA 3 [vi xi] * (pc (bA + 1) 3 [vi pre.length] * (pc bt 3 [vi 0] * (refB q (.slice (some ⟨b, 0, none⟩) rs.length rcap) times * (refL (.slice (some ⟨b, 0, none⟩) rs.length rcap) rs * (itP bx (.slice iao ps.length icap) ps * (pc bW 31 [vp q] * (pc (L + 1) 4 [.bool false] * (pc L 3 [vi leave] * emp)))))))) by ac_rfl)).store 0 (vi ((xi : Int) + 1))
                  have h30' : SatC w0 w11.heap.size (pc (bA + 1) 3 [vi pre.length] * (pc bA 3 [vi ((xi : Int) + 1)] * (pc bt 3 [vi 0] * (refB q (.slice (some ⟨b, 0, none⟩) rs.length rcap) times * (refL (.slice (some ⟨b, 0, none⟩) rs.length rcap) rs * (itP bx (.slice iao ps.length icap) ps * (pc bW 31 [vp q] * (pc (L + 1) 4 [.bool false] * (pc L 3 [vi leave] * emp))))))))) ((wr.drewN (nq1 + nq2)).setCell ⟨bA, 0, none⟩ (vi ((xi : Int) + 1))) := h30.cast (by ac_rfl)
                  have c16 := h30'.sat.cell 0 rfl
                  have f16 := h30'.sat.free 0
                  have h31 := h30'.store 0 (vi ((pre.length : Int) + 1))
                  have c16b := h31.sat.cell 0 rfl
                  have c14b := h31.sat.dropL.dropL.cell 0 rfl
                  have c5b := h31.sat.dropL.dropL.dropL.dropL.dropL.dropL.dropL.dropL.cell 0 rfl
                  simp only [List.set_cons_zero] at h31 c16b c14b c5b
                  have H31 := Lib.hid h31
                  clear h30 h30' h31 cq c9 e0 e1 e3 v0 v1
                  have hpl : pre.length < 4096 := by omega
                  by_cases hlv : ((pre.length : Int) + 1) = leave
                  · have hlb : (((pre.length : Int) + 1) == leave) = true := beq_iff_eq.2 hlv
                    have HLV := Lib.hid hlv
                    clear hlv
                    gi_wp2
                    exact ⟨(((KeepsOthers.drewN hK1 (nq1 + nq2)).trans (KeepsOthers.setCell _ _ _)).trans (KeepsOthers.setCell _ _ _)).from _, .inr ⟨rfl, by rw [List.length_append]; have := HLV.out; simp; omega, (AlI.step HPre.out hj1 hno HP.out rfl (hMk.keep (((KeepsOthers.drewN hK1 (nq1 + nq2)).trans (KeepsOthers.setCell _ _ _)).trans (KeepsOthers.setCell _ _ _))) (Nat.le_trans hW (((KeepsOthers.drewN hK1 (nq1 + nq2)).trans (KeepsOthers.setCell _ _ _)).trans (KeepsOthers.setCell _ _ _)).size) H31.out)⟩⟩
                  · have hlb : (((pre.length : Int) + 1) == leave) = false := beq_eq_false_iff_ne.2 hlv
                    have HLV := Lib.hid hlv
                    clear hlv
                    gi_wp2
                    exact ⟨(((KeepsOthers.drewN hK1 (nq1 + nq2)).trans (KeepsOthers.setCell _ _ _)).trans (KeepsOthers.setCell _ _ _)).from _, fun i hi => (Below.heap_setCell _ _ _ _ (HNN.out i hi)).trans ((Below.heap_setCell _ _ _ _ (HNA.out i hi)).trans (hK2 i hi)), (AlI.step HPre.out hj1 hno HP.out rfl (hMk.keep (((KeepsOthers.drewN hK1 (nq1 + nq2)).trans (KeepsOthers.setCell _ _ _)).trans (KeepsOthers.setCell _ _ _))) (Nat.le_trans hW (((KeepsOthers.drewN hK1 (nq1 + nq2)).trans (KeepsOthers.setCell _ _ _)).trans (KeepsOthers.setCell _ _ _)).size) H31.out)⟩
                · have c6 := hS2.sat.dropL.dropL.dropL.dropL.dropL.dropL.dropL.cell 0 rfl
                  have f6 := hS2.sat.dropL.dropL.dropL.dropL.dropL.dropL.dropL.free 0
                  have HM2 := Lib.hid (show ¬ AllSp ps (pre ++ [(xi, xg, xe)]) from fun hA => by
                    obtain ⟨a, ha, _, hx⟩ := seen_next hpre hj1 hno (.inr ⟨_, hps, rfl⟩) hA
                    rw [hps] at ha
                    cases ha
                    cases hx
                    exact hxe ⟨rfl, rfl, rfl⟩)
                  have HS2 := Lib.hid hS2
                  clear hS2 hps hpre hno
                  by_cases hx1 : xi = j
                  · subst hx1
                    by_cases hx2 : xg = rgen
                    · subst hx2
                      have hx3 : (xe == rx) = false := beq_eq_false_iff_ne.2 (fun e => hxe ⟨rfl, rfl, e⟩)
                      have hx4 : ((xe : Int) != (rx : Int)) = true := by rw [bne, hx3]; rfl
                      clear hxe
                      gi_wp2
                      refine quiet_regionR (by kernel_rfl) (by kernel_rfl) (by kernel_rfl) ?_
                      repeat (gi_big_quiet_step (fail))
                      refine wpQuietIn_nil ?_
                      intro _ hw'
                      obtain ⟨nq1, hw''⟩ := hw'
                      subst hw''
                      gi_wp2
                      refine quiet_regionR (by kernel_rfl) (by kernel_rfl) (by kernel_rfl) ?_
                      repeat (gi_big_quiet_step (fail))
                      refine wpQuietIn_nil ?_
                      intro _ hw'
                      obtain ⟨nq2, hw''⟩ := hw'
                      subst hw''
                      gi_wp2
                      exact ⟨((KeepsOthers.drewN hK1 (nq1 + nq2)).trans (KeepsOthers.setCell _ _ _)).from _, .inl ⟨rfl, HM2.out⟩⟩
                    · have hx3 : (xg == rgen) = false := beq_eq_false_iff_ne.2 hx2
                      clear hxe hx2
                      gi_wp2
                      refine quiet_regionR (by kernel_rfl) (by kernel_rfl) (by kernel_rfl) ?_
                      repeat (gi_big_quiet_step (fail))
                      refine wpQuietIn_nil ?_
                      intro _ hw'
                      obtain ⟨nq1, hw''⟩ := hw'
                      subst hw''
                      gi_wp2
                      refine quiet_regionR (by kernel_rfl) (by kernel_rfl) (by kernel_rfl) ?_
                      repeat (gi_big_quiet_step (fail))
                      refine wpQuietIn_nil ?_
                      intro _ hw'
                      obtain ⟨nq2, hw''⟩ := hw'
                      subst hw''
                      gi_wp2
                      exact ⟨((KeepsOthers.drewN hK1 (nq1 + nq2)).trans (KeepsOthers.setCell _ _ _)).from _, .inl ⟨rfl, HM2.out⟩⟩
                  · have hx3 : ((xi : Int) == (j : Int)) = false := beq_eq_false_iff_ne.2 (by omega)
                    clear hxe hx1
                    gi_wp2
                    refine quiet_regionR (by kernel_rfl) (by kernel_rfl) (by kernel_rfl) ?_
                    repeat (gi_big_quiet_step (fail))
                    refine wpQuietIn_nil ?_
                    intro _ hw'
                    obtain ⟨nq1, hw''⟩ := hw'
                    subst hw''
                    gi_wp2
                    refine quiet_regionR (by kernel_rfl) (by kernel_rfl) (by kernel_rfl) ?_
                    repeat (gi_big_quiet_step (fail))
                    refine wpQuietIn_nil ?_
                    intro _ hw'
                    obtain ⟨nq2, hw''⟩ := hw'
                    subst hw''
                    gi_wp2
                    exact ⟨((KeepsOthers.drewN hK1 (nq1 + nq2)).trans (KeepsOthers.setCell _ _ _)).from _, .inl ⟨rfl, HM2.out⟩⟩
            · obtain rfl : j = rs.length := by omega
              have hmiss : ¬ AllSp ps (pre ++ [x]) := fun hA => by
                obtain ⟨a, ha, _, _⟩ := seen_next hpre hj1 hno (.inl hl2.symm) hA
                have := (List.getElem?_eq_some_iff.1 ha).1
                omega
              have c6 := hS2.sat.dropL.dropL.dropL.dropL.dropL.dropL.dropL.cell 0 rfl
              have f6 := hS2.sat.dropL.dropL.dropL.dropL.dropL.dropL.dropL.free 0
              have HM2 := Lib.hid hmiss
              have HS2 := Lib.hid hS2
              clear hS2 hmiss hno
              gi_wp2
              refine quiet_regionR (by kernel_rfl) (by kernel_rfl) (by kernel_rfl) ?_
              repeat (gi_big_quiet_step (fail))
              refine wpQuietIn_nil ?_
              intro _ hw'
              obtain ⟨nq1, hw''⟩ := hw'
              subst hw''
              gi_wp2
              refine quiet_regionR (by kernel_rfl) (by kernel_rfl) (by kernel_rfl) ?_
              repeat (gi_big_quiet_step (fail))
              refine wpQuietIn_nil ?_
              intro _ hw'
              obtain ⟨nq2, hw''⟩ := hw'
              subst hw''
              gi_wp2
              first
                | exact ⟨((KeepsOthers.drewN (KeepsOthers.drewN hK1 nq1) nq2).trans (KeepsOthers.setCell _ _ _)).from _, .inl ⟨rfl, HM2.out⟩⟩
                | exact ⟨((KeepsOthers.drewN hK1 (nq1 + nq2)).trans (KeepsOthers.setCell _ _ _)).from _, .inl ⟨rfl, HM2.out⟩⟩
        case done0 =>
          rintro D' ys W hD hys ⟨kk, hk, hpre, hW, hMk, hS⟩ hK
          exact hC D' ys.length kk W hk (.inl (seen_end (hpre.symm.trans hys))) hD hS hK hMk
        case stop0 =>
          rintro D' c pre W hD hSp hX hK
          rcases hX with ⟨rfl, hno⟩ | ⟨rfl, hbr, kk, hk, hpre, hW, hMk, hS⟩
          · exact absurd hSp hno
          · refine wpIn_exit ?_
            exact hC D' pre.length kk W hk (.inr hbr) hD hS hK hMk
theorem all_row (w0 : World) (size : Int) (_ : (Lit.int .i64 size).wf = true) (v : Value) (n : Nat) (A : Nat → Int) (h : ArgK w0 5 alK v n A) (leave : Int) (_ : (Lit.int .i64 leave).wf = true) :
    Calls Try.prog 3 #[vi size, v, vi leave] w0 (AlTrue w0) := all_walk w0 size v n A h leave
end Go.Proofs.Ytjealmaddjepnaa.Ar
