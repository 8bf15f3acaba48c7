/-
  runq.Queue: Steal. No statement is proved here.
-/
import Derived.Test.YtjgemfgneiaabaaMg3
namespace Go.Proofs.Ytjgemfgneiaabaa.Rq
open Go.RowKit
set_option linter.unusedVariables false

section
variable {w0 w : World} {F : Hp} {q r m : Nat} {z : Int} {b : Bool} {xs : List Int}
set_option maxRecDepth 100000 in
set_option maxHeartbeats 4000000 in
theorem q_steal (h : Sat w0 (quB q r z b * (ringP r m xs * F)) w) (p : Int) {v : Value} {af : List Nat} (hA : ∀ w', Sat w0 F w' → RdA w' v af) :
    Calls Try.prog 35 #[vp q, vi p, v] w fun e w' => ∃ u, e = .returned u ∧ Sat w0 (sl 3 1 u (thiefO (mayG af p) xs z b).length ((thiefO (mayG af p) xs z b).map vi) * (quB q r z (thiefB (mayG af p) xs z b) * (ringP r m (thiefL (mayG af p) xs) * F))) w' := by
  have hrl := h.pull2.ringLen
  obtain ⟨ao, cap, rfl⟩ : ∃ ao cap, v = .slice ao af.length cap := (hA w h.dropL.dropL).1.len
  have hB : Sat w0 (pc (w.heap.size + 1) 31 [.slice ao af.length cap] * (pc w.heap.size 3 [vi p] * (quB q r z b * (ringP r m xs * F)))) ((w.alloc (.cells #[vi p] 3)).alloc (.cells #[.slice ao af.length cap] 31)) := by
    have := (h.alloc (.cells #[vi p] 3)).alloc (.cells #[.slice ao af.length cap] 31)
    rwa [show (w.alloc (.cells #[vi p] 3)).heap.size = w.heap.size + 1 by simp] at this
  have H0 := Lib.hid hB
  have HA := Lib.hid hA
  clear hB hA h
  go_enter Try.func35, Try.ntmps35
  go_wp2
  go_step3
  have c0 := H0.out.pull3.cell 0 rfl
  go_wp2_with fail
  refine (q_none H0.out.pull3).mono ?_
  rintro e w' ⟨rfl, rfl⟩
  go_wp2_with fail
  go_step3
  go_wp2_with fail
  refine (ring_all H0.out.pull4).mono ?_
  rintro e w1 ⟨v1, rfl, hS1⟩
  obtain ⟨ao1, cap1, rfl⟩ := hS1.rd.len
  have H1 := Lib.hid hS1
  clear hS1 c0
  generalize w.heap.size = bp at *
  go_wp2_with fail
  go_loopw [8, 22] (fun l i wr => ∃ (k : Nat), k ≤ xs.length ∧ i = vi k ∧ Sat w0 (sl 3 1 l ((xs.take k).filter (mayG af p)).length (((xs.take k).filter (mayG af p)).map vi) * (sl 3 1 (.slice ao1 xs.length cap1) xs.length (xs.map vi) * (pc (bp + 1) 31 [.slice ao af.length cap] * (pc bp 3 [vi p] * (quB q r z b * (ringP r m xs * F)))))) wr) (fun _ i _ => xs.length - (intOf i).toNat)
  case atStart => exact ⟨0, Nat.zero_le _, rfl, ((H1.out.cast (by ac_rfl)).addNil 3 1)⟩
  case round =>
    obtain ⟨k, hk, rfl, hS⟩ := hrel
    have hfl : ((xs.take k).filter (mayG af p)).length ≤ xs.length := Nat.le_trans (List.length_filter_le _ _) (List.length_take_le' _ _)
    by_cases hlt : k < xs.length
    · obtain ⟨g, hg⟩ : ∃ g, xs[k]? = some g := ⟨xs[k], List.getElem?_eq_getElem hlt⟩
      have htk : xs.take (k + 1) = xs.take k ++ [g] := by
        rw [List.take_add_one, hg]
        rfl
      obtain ⟨bx, ox, cx, hv, hc⟩ := hS.pull2.rd.pos (by omega)
      cases hv
      have cg := hc k (vi g) (by rw [List.getElem?_map, hg]; rfl)
      have ca := hS.pull3.cell 0 rfl
      have cp := hS.pull4.cell 0 rfl
      have hRd := HA.out wr hS.dropL.dropL.dropL.dropL.dropL.dropL
      have HC := Lib.hid (clo_ (g := g) ca cp hRd)
      have HS := Lib.hid hS
      clear hc hS ca cp hRd H1 H0
      by_cases hm : mayG af p g = true
      · rw [hm] at HC
        have hfi : (xs.take (k + 1)).filter (mayG af p) = (xs.take k).filter (mayG af p) ++ [g] := by
          rw [htk, List.filter_append, List.filter_cons_of_pos hm]
          rfl
        go_wp2_with fail
        refine HC.out.mono ?_
        rintro e w2 ⟨rfl, N, rfl⟩
        go_wp2_with (at_builtin; refine wpList_append_sl Einti rfl (.tmp 30) (.tmp 32) rfl rfl ((HS.out.drewN _).alloc' _) (by rfl) (Rd.one _ _ _) (by simp [Value.oneCell']) (by unfold maxLen; omega) (by omega) ?_; intro ao3 cap3 w3 hS3; have H3 := Lib.hid hS3; clear hS3)
        go_roundw
        case rel =>
          refine ⟨k + 1, by omega, by go_num, ?_⟩
          rw [hfi, List.length_append, List.map_append]
          exact H3.out
        case measure => simp [intOf]; omega
      · have hm' : mayG af p g = false := by simpa using hm
        rw [hm'] at HC
        have hfi : (xs.take (k + 1)).filter (mayG af p) = (xs.take k).filter (mayG af p) := by
          rw [htk, List.filter_append, List.filter_cons_of_neg hm]
          simp
        go_wp2_with fail
        refine HC.out.mono ?_
        rintro e w2 ⟨rfl, N, rfl⟩
        go_wp2
        go_roundw
        case rel =>
          refine ⟨k + 1, by omega, by go_num, ?_⟩
          rw [hfi]
          exact HS.out.drewN _
        case measure => simp [intOf]; omega
    · obtain rfl : k = xs.length := by omega
      rw [List.take_length] at hS hfl
      obtain ⟨ao2, cap2, rfl⟩ := hS.rd.len
      have hcap := hS.capOk
      obtain ⟨half, hh⟩ : ∃ half : Nat, halfK (mayG af p) xs = half := ⟨_, rfl⟩
      have hhd : half = ((xs.filter (mayG af p)).length + 1) / 2 := by rw [← hh]; rfl
      have HS := Lib.hid hS
      have HH := Lib.hid hh
      have c0 := hS.pull5.cell 0 rfl
      have c1 := hS.pull5.cell 1 rfl
      have c2 := hS.pull5.cell 2 rfl
      clear hS hh H1 H0
      generalize hL : (xs.filter (mayG af p)).length = L at *
      have hw1 : IntKind.i64.wrap ((L : Int) + 1) = (L : Int) + 1 := IntWalk.i64_in _ (by omega)
      have hq : ((L : Int) + 1) / 2 = (half : Int) := by omega
      have HQ := Lib.hid hq
      have HHD := Lib.hid hhd
      clear hq hhd
      go_wp2_with fail
      rw [HQ.out, ← HHD.out]
      have hhL : half ≤ L := by have := HHD.out; omega
      have hhL2 : L ≤ 2 * half := by have := HHD.out; omega
      obtain ⟨O, hO⟩ : ∃ O, stealO (mayG af p) half xs = O := ⟨_, rfl⟩
      have hOe : O = (xs.filter (mayG af p)).take half := by rw [← hO, stealO_eq]
      have hOl : O.length = half := by rw [hOe, List.length_take]; omega
      have HO := Lib.hid hO
      have HOl := Lib.hid hOl
      have HOe := Lib.hid hOe
      clear hO hOl hOe
      go_loopw [6, 42] (fun l i wx => ∃ (k : Nat), k ≤ half ∧ i = vi k ∧ Sat w0 (sl 3 1 l k ((O.take k).map vi) * (sl 3 1 (.slice ao2 L cap2) L ((xs.filter (mayG af p)).map vi) * (pc (bp + 1) 31 [.slice ao af.length cap] * (pc bp 3 [vi p] * (quB q r z b * (ringP r m ((O.take k).foldl List.erase xs) * F)))))) wx) (fun _ i _ => half - (intOf i).toNat)
      case atStart => exact ⟨0, Nat.zero_le _, rfl, HS.out.drop2.addNil 3 1⟩
      case round =>
        obtain ⟨k, hk, rfl, hS⟩ := hrel
        by_cases hlt2 : k < half
        · obtain ⟨g, hg⟩ : ∃ g, O[k]? = some g := ⟨O[k]'(by rw [HOl.out]; exact hlt2), List.getElem?_eq_getElem _⟩
          have htk : O.take (k + 1) = O.take k ++ [g] := by
            rw [List.take_add_one, hg]
            rfl
          obtain ⟨bx, ox, cx, hv, hc⟩ := hS.pull2.rd.pos (by omega)
          cases hv
          have cg := hc k (vi g) (by
            rw [HOe.out, List.getElem?_take, if_pos hlt2] at hg
            rw [List.getElem?_map, hg]
            rfl)
          have d0 := hS.pull5.cell 0 rfl
          have HR := Lib.hid (ring_remove hS.pull6 g)
          clear hc hS HS c0 c1 c2
          go_wp2_with (first
            | (go_at_call 63; refine HR.out.mono ?_; rintro e w2 ⟨rfl, hS2⟩; have H2 := Lib.hid hS2.pull2; clear hS2)
            | (at_builtin; refine wpList_append_sl Einti rfl (.tmp 52) (.tmp 54) rfl rfl (H2.out.alloc' _) (by rfl) (Rd.one _ _ _) (by simp [Value.oneCell']) (by unfold maxLen; omega) (by omega) ?_; intro ao3 cap3 w3 hS3; have H3 := Lib.hid hS3; clear hS3))
          go_roundw
          case rel =>
            refine ⟨k + 1, by omega, by go_num, ?_⟩
            rw [htk, List.foldl_append, List.map_append]
            exact H3.out.cast (by simp only [List.foldl_cons, List.foldl_nil, List.map_cons, List.map_nil]; ac_rfl)
          case measure => simp [intOf]; omega
        · obtain rfl : k = half := by omega
          rw [List.take_of_length_le (by rw [HOl.out]; exact Nat.le_refl _)] at hS
          have hfin : O.foldl List.erase xs = thiefL (mayG af p) xs := by
            rw [thiefL, HH.out, ← HO.out, stealL_eq]
          rw [hfin] at hS
          obtain ⟨ao6, cap6, rfl⟩ := hS.rd.len
          have hle : thiefO (mayG af p) xs z b = if O.isEmpty && b && mayG af p z then [z] else O := by rw [thiefO, HH.out, HO.out]
          have hlb : thiefB (mayG af p) xs z b = if O.isEmpty && b && mayG af p z then false else b := by rw [thiefB, HH.out, HO.out]
          have hS9 := hS.drop2.drop2.drop2
          have c1 := hS.pull5.cell 1 rfl
          have c2 := hS.pull5.cell 2 rfl
          have f2 := hS.pull5.free 2
          have ca := hS.pull3.cell 0 rfl
          have cp := hS.pull4.cell 0 rfl
          have HC := Lib.hid (clo_ (g := z) ca cp (HA.out wr hS.dropL.dropL.dropL.dropL.dropL.dropL))
          have hOl := HOl.out
          have HS9 := Lib.hid hS9
          have HLE := Lib.hid hle
          have HLB := Lib.hid hlb
          clear hle hlb hS9 hS HS hfin HOe HHD HQ HH ca cp hk
          by_cases hk0 : k = 0
          · subst hk0
            obtain rfl : O = [] := List.eq_nil_of_length_eq_zero hOl
            cases b with
            | false =>
              go_wp2_with fail
              try rw [Exit.noGoto_ret]
              go_ret
              refine ⟨_, rfl, ?_⟩
              rw [HLE.out, HLB.out]
              exact HS9.out
            | true =>
              generalize mayG af p z = t at *
              cases t with
              | false =>
                go_wp2_with fail
                refine HC.out.mono ?_
                rintro e w2 ⟨rfl, N, rfl⟩
                go_wp2_with fail
                try rw [Exit.noGoto_ret]
                go_ret
                refine ⟨_, rfl, ?_⟩
                rw [HLE.out, HLB.out]
                exact HS9.out.drewN _
              | true =>
                go_wp2_with fail
                refine HC.out.mono ?_
                rintro e w2 ⟨rfl, N, rfl⟩
                have d1 := (HS9.out.drewN N).pull2.cell 1 rfl
                have d2 := (HS9.out.drewN N).pull2.free 2
                have h3 := ((HS9.out.drewN N).pull2.store 2 (.bool false))
                have e1 := h3.cell 1 rfl
                have H3 := Lib.hid h3.pull2
                clear h3
                go_wp2_with (at_builtin; refine wpList_append_sl Einti rfl (.tmp 77) (.tmp 82) rfl rfl (H3.out.alloc' _) (by rfl) (Rd.oneB _ _ _ (by simp)) (by simp [Value.oneCell']) (by unfold maxLen; omega) (by omega) ?_; intro ao8 cap8 w8 hS8; have H8 := Lib.hid hS8; clear hS8)
                try rw [Exit.noGoto_ret]
                go_ret
                refine ⟨_, rfl, ?_⟩
                rw [HLE.out, HLB.out]
                exact H8.out
          · have hk1 : ¬ (k : Int) = 0 := by omega
            have hOe : O.isEmpty = false := by
              cases O with
              | nil => exact absurd hOl.symm hk0
              | cons _ _ => rfl
            go_wp2_with fail
            try rw [Exit.noGoto_ret]
            go_ret
            refine ⟨_, rfl, ?_⟩
            rw [HLE.out, HLB.out, hOe]
            simp only [Bool.false_and, Bool.false_eq_true, if_false]
            rw [hOl]
            exact HS9.out
end
end Go.Proofs.Ytjgemfgneiaabaa.Rq
