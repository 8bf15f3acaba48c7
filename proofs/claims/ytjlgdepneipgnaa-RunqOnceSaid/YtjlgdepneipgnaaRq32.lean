/-
  The walk of RunqOnce. No statement is proved here.
-/
import Derived.Test.YtjlgdepneipgnaaRq30
import Derived.Deep.CutBlock
import Derived.Deep.DeepCutAuto
namespace Go.Proofs.Ytjlgdepneipgnaa.Rq
open Go.RowKit
set_option linter.unusedVariables false

section
variable {w0 : World} {v : Value} {n : Nat} {K G : Nat → Int} {Y : Nat → Bool} {V : Nat → Value} {af : Nat → List Nat}
/-- Who is there, is there once, and is one of 0 to 99. -/
def Good (l : List Int) : Prop := l.Nodup ∧ ∀ x ∈ l, 0 ≤ x ∧ x ≤ 99
theorem Good.perm {l l' : List Int} (h : Good l) (p : l'.Perm l) : Good l' := ⟨p.nodup_iff.2 h.1, fun x hx => h.2 x (p.mem_iff.1 hx)⟩
theorem Good.cons {l : List Int} (h : Good l) {g : Int} (hg : g ∉ l) (h0 : 0 ≤ g ∧ g ≤ 99) : Good (g :: l) := ⟨List.nodup_cons.2 ⟨hg, h.1⟩, fun x hx => (List.mem_cons.1 hx).elim (fun e => e ▸ h0) (h.2 x)⟩
theorem there_zero : thereL (allQ [] 0 false) = List.replicate 100 0 := by decide
theorem there_perm {l l' : List Int} (p : l'.Perm l) : thereL l = thereL l' := there_congr fun x => p.mem_iff.symm

section
variable {w : World} {q r m gt : Nat} {z : Int} {b : Bool} {xs l0 : List Int} {A : Hp}
/-- Where who went is told by a slice: all of them are there, or went. -/
def Went (w0 : World) (q r m gt : Nat) (x' : List Int) (z' : Int) (b' : Bool) (gl : List Int) (u : Value) (w' : World) : Prop :=
  Good (allQ x' z' b' ++ gl) ∧ Sat w0 (sl 3 1 u gl.length (gl.map vi) * (sl 3 1 (.slice (some ⟨gt, 0, none⟩) 100 100) 100 ((thereL (allQ x' z' b' ++ gl)).map vi) * (quB q r z' b' * (ringP r m x' * emp)))) w'
theorem o_put (h : Sat w0 (sl 3 1 (.slice (some ⟨gt, 0, none⟩) 100 100) 100 (l0.map vi) * (A * (quB q r z b * (ringP r m xs * emp)))) w) (g : Int) (hg : Good (g :: allQ xs z b)) (h0 : thereL (g :: allQ xs z b) = l0) :
    Calls Try.prog 30 #[vp q, vi g] w fun e w' => ∃ x' gl ag cg, e = .returned (.slice ag gl.length cg) ∧ Went w0 q r m gt x' z b gl (.slice ag gl.length cg) w' := by
  refine (q_put (h.cast (show _ = quB q r z b * (ringP r m xs * (sl 3 1 (.slice (some ⟨gt, 0, none⟩) 100 100) 100 (l0.map vi) * (A * emp))) by ac_rfl)) g).mono fun e w' ⟨v, he, hS⟩ => ?_
  obtain ⟨ag, cg, rfl⟩ := hS.rd.len
  have hp := put_permA (m := m) (xs := xs) (z := z) (b := b) g
  refine ⟨putL m xs g, spillL m xs g, ag, cg, he, hg.perm hp, ?_⟩
  rw [← there_perm hp, h0]
  exact (hS.pull5.dropL).cast (by ac_rfl)
theorem o_putnext (h : Sat w0 (sl 3 1 (.slice (some ⟨gt, 0, none⟩) 100 100) 100 (l0.map vi) * (A * (quB q r z b * (ringP r m xs * emp)))) w) (g : Int) (hg : Good (g :: allQ xs z b)) (h0 : thereL (g :: allQ xs z b) = l0) :
    Calls Try.prog 31 #[vp q, vi g] w fun e w' => ∃ x' gl ag cg, e = .returned (.slice ag gl.length cg) ∧ Went w0 q r m gt x' g true gl (.slice ag gl.length cg) w' := by
  refine (q_putnext (h.cast (show _ = quB q r z b * (ringP r m xs * (sl 3 1 (.slice (some ⟨gt, 0, none⟩) 100 100) 100 (l0.map vi) * (A * emp))) by ac_rfl)) g).mono fun e w' ⟨v, he, hS⟩ => ?_
  obtain ⟨ag, cg, rfl⟩ := hS.rd.len
  have hp := next_permA (m := m) (xs := xs) (z := z) (b := b) g
  refine ⟨nextL m xs z b, nextS m xs z b, ag, cg, he, hg.perm hp, ?_⟩
  rw [← there_perm hp, h0]
  exact (hS.pull5.dropL).cast (by ac_rfl)
theorem o_steal (h : Sat w0 (A * (sl 3 1 (.slice (some ⟨gt, 0, none⟩) 100 100) 100 ((thereL (allQ xs z b)).map vi) * (quB q r z b * (ringP r m xs * emp)))) w) (g : Int) (hg : Good (allQ xs z b)) {v : Value} {af : List Nat} (hA : ∀ w', Sat w0 emp w' → RdA w' v af) :
    Calls Try.prog 23 #[vp q, vi g, v] w fun e w' => ∃ x' b' gl ag cg, e = .returned (.slice ag gl.length cg) ∧ Went w0 q r m gt x' z b' gl (.slice ag gl.length cg) w' := by
  refine (q_steal (h.cast (show _ = quB q r z b * (ringP r m xs * (sl 3 1 (.slice (some ⟨gt, 0, none⟩) 100 100) 100 ((thereL (allQ xs z b)).map vi) * (A * emp))) by ac_rfl)) g (fun w' h' => hA w' h'.dropL.dropL)).mono fun e w' ⟨v, he, hS⟩ => ?_
  obtain ⟨ag, cg, rfl⟩ := hS.rd.len
  have hp := thief_perm (mayG af g) xs z b
  refine ⟨_, _, _, ag, cg, he, hg.perm hp, ?_⟩
  rw [← there_perm hp]
  exact (hS.pull5.dropL).cast (by ac_rfl)
theorem o_take (h : Sat w0 (A * (sl 3 1 (.slice (some ⟨gt, 0, none⟩) 100 100) 100 ((thereL (allQ xs z b)).map vi) * (quB q r z b * (ringP r m xs * emp)))) w) (y : Bool) (hg : Good (allQ xs z b)) :
    Calls Try.prog 32 #[vp q, .bool y] w fun e w' => ∃ x' t gl G ag cg, e = .returned (.tuple #[vi (G.headD 0), .bool t, .slice ag gl.length cg, .bool !G.isEmpty]) ∧ (G = [] ∨ ∃ x, G = [x]) ∧ Good (allQ x' z false ++ (gl ++ G)) ∧ gl.length ≤ xs.length + 1 ∧
      Sat w0 (sl 3 1 (.slice ag gl.length cg) gl.length (gl.map vi) * (sl 3 1 (.slice (some ⟨gt, 0, none⟩) 100 100) 100 ((thereL (allQ x' z false ++ (gl ++ G))).map vi) * (quB q r z false * (ringP r m x' * emp)))) w' := by
  refine (q_take' (h.cast (show _ = quB q r z b * (ringP r m xs * (sl 3 1 (.slice (some ⟨gt, 0, none⟩) 100 100) 100 ((thereL (allQ xs z b)).map vi) * (A * emp))) by ac_rfl)) y).mono fun e w' ⟨v, he, hS⟩ => ?_
  obtain ⟨ag, cg, rfl⟩ := hS.rd.len
  have hp := take_permA (m := m) (xs := xs) (z := z) (b := b) y
  refine ⟨_, _, _, _, ag, cg, he, tkG_cases y, hg.perm hp, tkS_len y, ?_⟩
  rw [← there_perm hp]
  exact (hS.pull5.dropL).cast (by ac_rfl)
theorem o_remove (h : Sat w0 (A * (sl 3 1 (.slice (some ⟨gt, 0, none⟩) 100 100) 100 ((thereL (allQ xs z b)).map vi) * (quB q r z b * (ringP r m xs * emp)))) w) (g : Int) (hg : Good (allQ xs z b)) :
    Calls Try.prog 33 #[vp q, vi g] w fun e w' => ∃ x' b' t, e = .returned (.bool t) ∧ Good (allQ x' z b' ++ if t then [g] else []) ∧
      Sat w0 (A * (sl 3 1 (.slice (some ⟨gt, 0, none⟩) 100 100) 100 ((thereL (allQ x' z b' ++ if t then [g] else [])).map vi) * (quB q r z b' * (ringP r m x' * emp)))) w' := by
  refine (q_remove' (h.cast (show _ = quB q r z b * (ringP r m xs * (sl 3 1 (.slice (some ⟨gt, 0, none⟩) 100 100) 100 ((thereL (allQ xs z b)).map vi) * (A * emp))) by ac_rfl)) g).mono fun e w' ⟨he, hS⟩ => ?_
  have hp := remove_permA (xs := xs) (z := z) (b := b) g
  refine ⟨_, _, _, he, hg.perm hp, ?_⟩
  rw [← there_perm hp]
  exact (hS.pull4).cast (by ac_rfl)
end
set_option maxRecDepth 100000 in
set_option maxHeartbeats 2000000 in
theorem once_e1 {ao : Option Addr} {n cap : Nat} (most : Int) (hm : 2 ≤ most ∧ most ≤ 4096) (F1 : Few w0 (.slice ao n cap) 150 false) :
    Calls Try.prog 5 #[vi most, .slice ao n cap] w0 (TrueBelow w0) := by
  have HM := Lib.hid (may5 most)
  rw [decide_eq_true hm] at HM
  have H1 := Lib.hid F1
  clear F1
  obtain ⟨m, rfl⟩ := Int.eq_ofNat_of_zero_le (show 0 ≤ most by omega)
  have HQ := Lib.hid (q_new m (by omega) (by omega) (Sat.start w0))
  clear hm
  go_enter Try.func5, Try.ntmps5
  go_wp2_with (first
    | (go_at_call 17; refine HQ.out.mono ?_; rintro e w1 ⟨q, r, rfl, hS1⟩; have HB := Lib.hid hS1.below; clear hS1)
    | (go_at_call 18; (with_reducible refine (H1.out _ HB.out).mono ?_); rintro e w' ⟨rfl, rfl⟩)
    | (go_at_call 19; refine (HM.out _).mono ?_; rintro e w' ⟨rfl, rfl⟩)
    | (go_at_call 20; refine (known5 _).mono ?_; rintro e w3 ⟨rfl, hb⟩))
  go_ret
  exact ⟨rfl, HB.out.trans (hb.mono HB.out.size)⟩
set_option maxRecDepth 100000 in
set_option maxHeartbeats 2000000 in
theorem once_e3 {ao : Option Addr} {n cap : Nat} (most : Int) (hm : ¬ (2 ≤ most ∧ most ≤ 4096)) (F1 : Few w0 (.slice ao n cap) 150 false) :
    Calls Try.prog 5 #[vi most, .slice ao n cap] w0 (TrueBelow w0) := by
  have HM := Lib.hid (may5 most)
  rw [decide_eq_false hm] at HM
  have H1 := Lib.hid F1
  clear F1
  have HQ := Lib.hid (q_new_no most (by omega) w0)
  clear hm
  go_enter Try.func5, Try.ntmps5
  go_wp2_with (first
    | (go_at_call 17; refine HQ.out.mono ?_; rintro e w1 ⟨rfl, rfl⟩)
    | (go_at_call 18; (with_reducible refine (H1.out _ (Below.refl _ _)).mono ?_); rintro e w' ⟨rfl, rfl⟩)
    | (go_at_call 19; refine (HM.out _).mono ?_; rintro e w' ⟨rfl, rfl⟩)
    | (go_at_call 20; refine (known5 _).mono ?_; rintro e w3 ⟨rfl, hb⟩))
  go_ret
  exact ⟨rfl, hb⟩
set_option maxRecDepth 100000 in
set_option maxHeartbeats 2000000 in
theorem once_e4 {ao : Option Addr} {n cap : Nat} (most : Int) (hm : ¬ (2 ≤ most ∧ most ≤ 4096)) (F1 : Few w0 (.slice ao n cap) 150 true) :
    Calls Try.prog 5 #[vi most, .slice ao n cap] w0 (TrueBelow w0) := by
  have HM := Lib.hid (may5 most)
  rw [decide_eq_false hm] at HM
  have H1 := Lib.hid F1
  clear F1
  have HQ := Lib.hid (q_new_no most (by omega) w0)
  clear hm
  go_enter Try.func5, Try.ntmps5
  go_wp2_with (first
    | (go_at_call 17; refine HQ.out.mono ?_; rintro e w1 ⟨rfl, rfl⟩)
    | (go_at_call 18; (with_reducible refine (H1.out _ (Below.refl _ _)).mono ?_); rintro e w' ⟨rfl, rfl⟩)
    | (go_at_call 19; refine (HM.out _).mono ?_; rintro e w' ⟨rfl, rfl⟩)
    | (go_at_call 20; refine (known5 _).mono ?_; rintro e w3 ⟨rfl, hb⟩))
  go_ret
  exact ⟨rfl, hb⟩
set_option maxRecDepth 100000 in
set_option maxHeartbeats 16000000 in
theorem once_walk (most : Int) (h : Acts w0 v n K G Y V af) :
    Calls Try.prog 5 #[vi most, v] w0 (TrueBelow w0) := by
  obtain ⟨ao, cap, rfl⟩ := h.len
  obtain ⟨f1, F1⟩ : ∃ f, Few w0 (.slice ao n cap) 150 f := few_of h 150 (by omega)
  by_cases hm : 2 ≤ most ∧ most ≤ 4096
  · cases f1 with
    | false => exact once_e1 most hm F1
    | true =>
      have hsm := h.small
      unfold maxLen at hsm
      have HF1 := Lib.hid F1
      have HM := Lib.hid (may5 most)
      rw [decide_eq_true hm] at HM
      obtain ⟨m, rfl⟩ := Int.eq_ofNat_of_zero_le (show 0 ≤ most by omega)
      have HQ := Lib.hid (q_new m (by omega) (by omega) (Sat.start w0))
      have hm1 : 2 ≤ m := by omega
      have hm2 : m ≤ 4096 := by omega
      clear hm F1
      go_enter Try.func5, Try.ntmps5
      go_wp2_with (first
        | (go_at_call 17; refine HQ.out.mono ?_; rintro e w1 ⟨q, r, rfl, hS1⟩; have H1 := Lib.hid hS1; clear hS1)
        | (go_at_call 18; (with_reducible refine (HF1.out _ H1.out.below).mono ?_); rintro e w' ⟨rfl, rfl⟩)
        | (go_at_call 19; refine (HM.out _).mono ?_; rintro e w' ⟨rfl, rfl⟩)
        | (at_make; refine wpList_make_sl Einti rfl _ _ rfl .i64 .i64 100 100 100 100 rfl rfl rfl rfl (by omega) (by omega) (by omega) H1.out ?_; intro gt w2 hM; rw [madeCells_int] at hM; have hM2 := hM.slI (n := 100) (cap := 100) (size := 1) (xs := (thereL (allQ [] 0 false)).map vi) (Nat.le_refl _) (by unfold maxLen; omega) (by simp) (by rw [Nat.mul_one, List.take_of_length_le (by simp), there_zero]); have H2 := Lib.hid hM2; clear hM hM2))
      go_loopw [8] (fun i wy => ∃ (k : Nat) (xs : List Int) (z : Int) (b : Bool), k ≤ n ∧ i = vi k ∧ Good (allQ xs z b) ∧ Sat w0 (sl 3 1 (.slice (some ⟨gt, 0, none⟩) 100 100) 100 ((thereL (allQ xs z b)).map vi) * (quB q r z b * (ringP r m xs * emp))) wy) (fun i _ => n - (intOf i).toNat)
      case atStart => exact ⟨0, [], 0, false, Nat.zero_le _, rfl, ⟨by simp [allQ], by simp [allQ]⟩, H2.out⟩
      case round =>
        obtain ⟨k, xs, z, b, hk, rfl, hgd, hS⟩ := hrel
        have hxl := hS.pull3.ringLen
        have HGD := Lib.hid hgd
        clear hgd
        by_cases hlt : k < n
        · obtain ⟨bx, off, rfl, c0, c1, c2, c3⟩ := h.at_ hS.below k hlt
          obtain ⟨a3, p3, hv3⟩ := ((h.aff k hlt).1 _ hS.below).1.len
          have hA : Hid (∀ w', Sat w0 emp w' → RdA w' (.slice a3 (af k).length p3) (af k)) := Lib.hid fun w' h' => hv3 ▸ (h.aff k hlt).1 w' h'.below
          rw [hv3] at c3
          generalize K k = kd at *
          generalize G k = g at *
          generalize Y k = y at *
          generalize af k = al at *
          have hB : Sat w0 (actQ wr.heap.size kd g y (.slice a3 al.length p3) * (sl 3 1 (.slice (some ⟨gt, 0, none⟩) 100 100) 100 ((thereL (allQ xs z b)).map vi) * (quB q r z b * (ringP r m xs * emp)))) (wr.alloc (.cells #[vi kd, vi g, .bool y, .slice a3 al.length p3] 47)) := hS.alloc (.cells #[vi kd, vi g, .bool y, .slice a3 al.length p3] 47)
          have H3 := Lib.hid hB
          clear hB hv3 hS
          generalize al.length = ln at *
          have d0 := H3.out.cell 0 rfl
          have d1 := H3.out.cell 1 rfl
          have d2 := H3.out.cell 2 rfl
          have d3 := H3.out.cell 3 rfl
          by_cases hg0 : g < 0
          · go_wp2_with fail
            go_roundw
            case rel => exact ⟨k + 1, xs, z, b, by omega, by go_num, HGD.out, H3.out.dropL⟩
            case measure => simp [intOf]; omega
          · by_cases hg9 : 99 < g
            · go_wp2_with fail
              go_roundw
              case rel => exact ⟨k + 1, xs, z, b, by omega, by go_num, HGD.out, H3.out.dropL⟩
              case measure => simp [intOf]; omega
            · obtain ⟨gN, rfl⟩ := Int.eq_ofNat_of_zero_le (show 0 ≤ g by omega)
              have hgN : gN ≤ 99 := by omega
              have hgN2 : gN < 100 := by omega
              have hgN3 : (gN : Int) < 100 := by omega
              have HG0 := Lib.hid (show (0 : Int) ≤ (gN : Int) ∧ (gN : Int) ≤ 99 by omega)
              have ct := H3.out.pull2.slCell gN (u := vi (ind (allQ xs z b) gN)) (by rw [List.getElem?_map, there_at _ _ (by omega)]; rfl)
              have cf := H3.out.pull2.slFree gN
              have hst := H3.out.pull2.slStore gN (by omega) (vi 1)
              rw [← List.map_set] at hst
              have HST := Lib.hid hst
              clear hst
              have hA2 := hA
              go_upto_block 2 with fail
              go_cut [10] (fun vg wx => ∃ (x' : List Int) (z' : Int) (b' : Bool) (gl : List Int) (ag : Option Addr) (gn cg : Nat), vg = .slice ag gn cg ∧ gl.length = gn ∧ Good (allQ x' z' b' ++ gl) ∧ Sat w0 (sl 3 1 (.slice ag gn cg) gn (gl.map vi) * (sl 3 1 (.slice (some ⟨gt, 0, none⟩) 100 100) 100 ((thereL (allQ x' z' b' ++ gl)).map vi) * (quB q r z' b' * (ringP r m x' * emp)))) wx)
              case rest =>
                obtain ⟨x', z', b', gl, ag, gn, cg, rfl, hgl, hG9, hS9⟩ := hcut
                have HGL := Lib.hid hgl
                have hgnb : gn ≤ 9223372036854775807 := by have := hS9.capOk; unfold maxLen at this; omega
                have HG9 := Lib.hid hG9
                have H9 := Lib.hid hS9
                clear hgl hG9 hS9 ct cf
                go_wp2_with fail
                go_loopw [15] (fun i wy => ∃ (j : Nat), j ≤ gn ∧ i = vi j ∧ Good (allQ x' z' b' ++ gl.drop j) ∧ Sat w0 (sl 3 1 (.slice ag gn cg) gn (gl.map vi) * (sl 3 1 (.slice (some ⟨gt, 0, none⟩) 100 100) 100 ((thereL (allQ x' z' b' ++ gl.drop j)).map vi) * (quB q r z' b' * (ringP r m x' * emp)))) wy) (fun i _ => gn - (intOf i).toNat)
                case atStart => exact ⟨0, Nat.zero_le _, rfl, HG9.out, H9.out⟩
                case round =>
                  obtain ⟨j, hj, rfl, hgd, hS⟩ := hrel
                  by_cases hjl : j < gn
                  · have hjl2 : j < (gl).length := by rw [HGL.out]; exact hjl
                    obtain ⟨h0, h9, hat, hset, hnd, hrg⟩ := there_gone hjl2 hgd.1 hgd.2
                    obtain ⟨ge, hge⟩ : ∃ ge : Nat, (gl)[j] = (ge : Int) := Int.eq_ofNat_of_zero_le h0
                    rw [hge] at h9 hat hset
                    rw [Int.toNat_natCast] at hat hset
                    obtain ⟨bv, ov, cv, hv, hc⟩ := hS.rd.pos (by omega)
                    cases hv
                    have cg := hc j (vi ge) (by rw [List.getElem?_map, List.getElem?_eq_getElem hjl2, hge]; rfl)
                    have ct := hS.pull2.slCell ge (u := vi 1) (by rw [List.getElem?_map, hat]; rfl)
                    have cf := hS.pull2.slFree ge
                    have hst := hS.pull2.slStore ge (by omega) (vi 0)
                    rw [show ((thereL (allQ x' z' b' ++ (gl).drop j)).map vi).set ge (vi 0) = (thereL (allQ x' z' b' ++ (gl).drop (j + 1))).map vi by rw [hset, List.map_set]] at hst
                    have HST := Lib.hid hst.pull2
                    have HGN := Lib.hid (show Good (allQ x' z' b' ++ (gl).drop (j + 1)) from ⟨hnd, hrg⟩)
                    have h9' : ¬ (99 : Int) < (ge : Int) := by omega
                    have h9n : ge ≤ 99 := by omega
                    have h9m : ge < 100 := by omega
                    have h9p : (ge : Int) < 100 := by omega
                    clear hc hS hst hgd hat hset hnd hrg h9 h0 hge hjl2
                    go_wp2
                    go_roundw
                    case rel => exact ⟨j + 1, by omega, by go_num, HGN.out, HST.out⟩
                    case measure => simp [intOf]; omega
                  · obtain rfl : j = gn := by omega
                    rw [List.drop_of_length_le (by rw [HGL.out]; exact Nat.le_refl _), List.append_nil] at hS hgd
                    have H10 := Lib.hid hS.dropL
                    have HG10 := Lib.hid hgd
                    have hxl9 := hS.pull4.ringLen
                    clear hS hgd
                    go_wp2_with fail
                    go_loopw [16, 17] (fun c i wy => ∃ (j : Nat), j ≤ 100 ∧ i = vi j ∧ c = vi (cntL (allQ x' z' b') j) ∧ Sat w0 (sl 3 1 (.slice (some ⟨gt, 0, none⟩) 100 100) 100 ((thereL (allQ x' z' b')).map vi) * (quB q r z' b' * (ringP r m x' * emp))) wy) (fun _ i _ => 100 - (intOf i).toNat)
                    case atStart => exact ⟨0, Nat.zero_le _, rfl, rfl, H10.out⟩
                    case round =>
                      obtain ⟨j, hj, rfl, rfl, hS⟩ := hrel
                      have hcl := cntL_le (allQ x' z' b') j
                      by_cases hjl : j < 100
                      · have hsu := Lib.hid (cntL_succ (allQ x' z' b') j)
                        have hcell : ∀ w', Sat w0 ((sl 3 1 (.slice (some ⟨gt, 0, none⟩) 100 100) 100 ((thereL (allQ x' z' b')).map vi)) * (quB q r z' b' * (ringP r m x' * emp))) w' → w'.cell? ⟨gt, j, none⟩ = some (vi (ind (allQ x' z' b') j)) := fun w' h' => h'.slCell j (by rw [List.getElem?_map, there_at _ _ hjl]; rfl)
                        have HCell := Lib.hid hcell
                        have ct := hcell _ hS
                        have HHas := Lib.hid (fun w' (h' : Sat w0 ((sl 3 1 (.slice (some ⟨gt, 0, none⟩) 100 100) 100 ((thereL (allQ x' z' b')).map vi)) * (quB q r z' b' * (ringP r m x' * emp))) w') => q_has h'.rot3 (j : Int))
                        have hbe : (b' && z' == (j : Int) || decide ((j : Int) ∈ x')) = (ind (allQ x' z' b') j == 1) := by
                          have h1 := hasQ_mem (xs := x') (z := z') (b := b') (g := (j : Int))
                          unfold hasQ at h1
                          unfold ind
                          by_cases hmem : (j : Int) ∈ allQ x' z' b'
                          · rw [h1.2 hmem, if_pos hmem]
                            rfl
                          · rw [if_neg hmem]
                            cases hc : (b' && z' == (j : Int) || decide ((j : Int) ∈ x')) with
                            | false => rfl
                            | true => exact absurd (h1.1 hc) hmem
                        rw [hbe] at HHas
                        have hio : ind (allQ x' z' b') j = 0 ∨ ind (allQ x' z' b') j = 1 := by
                          unfold ind
                          split
                          · exact .inr rfl
                          · exact .inl rfl
                        have H11 := Lib.hid hS
                        generalize ind (allQ x' z' b') j = id at *
                        generalize cntL (allQ x' z' b') j = cc at *
                        clear hbe hcell hS
                        rcases hio with rfl | rfl
                        · go_wp2_with fail
                          go_region_held3 (fun w' => w'.cell? ⟨gt, j, none⟩ = some (vi 0))
                            (first | exact d1 | go_keep)
                            ((go_at_call 25; refine (HHas.out _ (H11.out.drewN 1)).mono ?_; rintro e w12 ⟨rfl, hS12⟩; have hS12' := hS12.pull3; have d1 := HCell.out _ hS12'; have H12 := Lib.hid hS12'; clear hS12 hS12'))
                          go_wp2
                          go_roundw
                          case rel => exact ⟨j + 1, by omega, by go_num, by rw [hsu.out]; try go_num, H12.out⟩
                          case measure => simp [intOf]; omega
                        · go_wp2_with fail
                          go_region_held3 (fun w' => w'.cell? ⟨gt, j, none⟩ = some (vi 1))
                            (first | exact d1 | go_keep)
                            ((go_at_call 25; refine (HHas.out _ (H11.out.drewN 1)).mono ?_; rintro e w12 ⟨rfl, hS12⟩; have hS12' := hS12.pull3; have d1 := HCell.out _ hS12'; have H12 := Lib.hid hS12'; clear hS12 hS12'))
                          go_wp2
                          go_roundw
                          case rel => exact ⟨j + 1, by omega, by go_num, by rw [hsu.out]; try go_num, H12.out⟩
                          case measure => simp [intOf]; omega
                      · obtain rfl : j = 100 := by omega
                        have hall := cntL_all HG10.out.1 HG10.out.2
                        rw [hall] at hcl ⊢
                        have hal := allQ_len (xs := x') (z := z') (b := b')
                        have HLn := Lib.hid (q_len hS.rot3)
                        generalize (allQ x' z' b').length = al at *
                        have hal2 : ¬ ((m : Int) + 1) < (al : Int) := by omega
                        clear hall hS
                        go_wp2_with (go_at_call 34; refine HLn.out.mono ?_; rintro e w13 ⟨rfl, hS13⟩; have H13 := Lib.hid hS13.pull3; clear hS13)
                        go_roundw
                        case rel => exact ⟨k + 1, _, _, _, by omega, by go_num, HG10.out, H13.out⟩
                        case measure => simp [intOf]; omega
              case first =>
              have hkd : kd = 1 ∨ kd = 2 ∨ kd = 3 ∨ kd = 4 ∨ kd = 6 ∨ (kd ≠ 1 ∧ kd ≠ 2 ∧ kd ≠ 3 ∧ kd ≠ 4 ∧ kd ≠ 6) := by omega
              rcases hkd with rfl | rfl | rfl | rfl | rfl | ⟨n1, n2, n3, n4, n6⟩
              · by_cases hmem : (gN : Int) ∈ allQ xs z b
                · rw [show ind (allQ xs z b) gN = 1 from if_pos hmem] at ct
                  go_wp2_with fail
                  go_roundw
                  case rel => exact ⟨k + 1, xs, z, b, by omega, by go_num, HGD.out, H3.out.dropL⟩
                  case measure => simp [intOf]; omega
                · rw [show ind (allQ xs z b) gN = 0 from if_neg hmem] at ct
                  have HP := Lib.hid (o_put HST.out (gN : Int) (HGD.out.cons hmem HG0.out) (there_set (fun y => List.mem_cons)))
                  have e0 := HST.out.pull2.cell 0 rfl
                  have e1 := HST.out.pull2.cell 1 rfl
                  clear hmem
                  go_wp2_with (go_at_call 30; refine HP.out.mono ?_; rintro e w9 ⟨x', gl, ag, cg, rfl, hG9, hS9⟩; have HG9 := Lib.hid hG9; have H9 := Lib.hid hS9; clear hS9 hG9)
                  go_meet
                  exact ⟨x', z, b, gl, ag, gl.length, cg, rfl, rfl, HG9.out, H9.out⟩
              · by_cases hmem : (gN : Int) ∈ allQ xs z b
                · rw [show ind (allQ xs z b) gN = 1 from if_pos hmem] at ct
                  go_wp2_with fail
                  go_roundw
                  case rel => exact ⟨k + 1, xs, z, b, by omega, by go_num, HGD.out, H3.out.dropL⟩
                  case measure => simp [intOf]; omega
                · rw [show ind (allQ xs z b) gN = 0 from if_neg hmem] at ct
                  have HP := Lib.hid (o_putnext HST.out (gN : Int) (HGD.out.cons hmem HG0.out) (there_set (fun y => List.mem_cons)))
                  have e0 := HST.out.pull2.cell 0 rfl
                  have e1 := HST.out.pull2.cell 1 rfl
                  clear hmem
                  go_wp2_with (go_at_call 31; refine HP.out.mono ?_; rintro e w9 ⟨x', gl, ag, cg, rfl, hG9, hS9⟩; have HG9 := Lib.hid hG9; have H9 := Lib.hid hS9; clear hS9 hG9)
                  go_meet
                  exact ⟨x', (gN : Int), true, gl, ag, gl.length, cg, rfl, rfl, HG9.out, H9.out⟩
              · have HP := Lib.hid (o_take H3.out y HGD.out)
                go_wp2_with fail
                refine HP.out.mono ?_
                rintro e w9 ⟨x', t, S, Gt, ag, cg, rfl, hGt, hG9, hSl, hS9⟩
                have H8 := Lib.hid hS9
                clear hS9
                obtain ⟨gn, HGL8⟩ : ∃ gn, Hid (S.length = gn) := ⟨_, Lib.hid rfl⟩
                rw [HGL8.out] at H8 hSl ⊢
                rcases hGt with rfl | ⟨x, rfl⟩
                · rw [List.append_nil] at hG9 H8
                  have HG9 := Lib.hid hG9
                  clear hG9 ct cf
                  go_wp2_with fail
                  go_meet
                  exact ⟨x', z, false, S, ag, gn, cg, rfl, HGL8.out, HG9.out, H8.out⟩
                · have HG9 := Lib.hid hG9
                  clear hG9 ct cf
                  go_wp2_with (at_builtin; refine wpList_append_sl Einti rfl (.tmp 111) (.tmp 113) rfl rfl (H8.out.alloc' _) (by rfl) (Rd.one _ _ _) (by simp [Value.oneCell']) (by unfold maxLen; omega) (by omega) ?_; intro a5 c5 w5 hS5; have H9 := Lib.hid hS5; clear hS5)
                  go_meet
                  exact ⟨x', z, false, S ++ [x], a5, gn + 1, c5, rfl, by rw [List.length_append, HGL8.out]; rfl, HG9.out, H9.out.cast (by rw [List.map_append]; rfl)⟩
              · have HP := Lib.hid (o_remove H3.out (gN : Int) HGD.out)
                go_wp2_with fail
                refine HP.out.mono ?_
                rintro e w9 ⟨x', b', t, rfl, hG9, hS9⟩
                have e1 := hS9.cell 1 rfl
                have H8 := Lib.hid hS9
                have HG8 := Lib.hid hG9
                clear hS9 hG9
                cases t with
                | true =>
                  have h8 : Sat w0 (sl 3 1 (.slice (some ⟨w9.heap.size, 0, none⟩) 1 1) 1 ([(gN : Int)].map vi) * (sl 3 1 (.slice (some ⟨gt, 0, none⟩) 100 100) 100 ((thereL (allQ x' z b' ++ [(gN : Int)])).map vi) * (quB q r z b' * (ringP r m x' * emp)))) (w9.alloc (.cells #[vi gN] 3)) := by
                    have h7 : Sat w0 (pc w9.heap.size 3 [vi gN] * _) _ := H8.out.dropL.alloc (.cells #[vi gN] 3)
                    exact h7.slI (n := 1) (cap := 1) (size := 1) (xs := [vi gN]) (Nat.le_refl _) (by unfold maxLen; omega) (by simp) rfl
                  have H9 := Lib.hid h8
                  have HG9 : Hid (Good (allQ x' z b' ++ [(gN : Int)])) := HG8
                  clear h8 ct cf
                  go_wp2_with fail
                  go_meet
                  exact ⟨x', z, b', [(gN : Int)], _, 1, 1, rfl, rfl, HG9.out, H9.out⟩
                | false =>
                  have H9 := Lib.hid (H8.out.dropL.addNil 3 1)
                  have HG9 : Hid (Good (allQ x' z b' ++ ([] : List Int))) := HG8
                  clear ct cf
                  go_wp2_with fail
                  go_meet
                  exact ⟨x', z, b', [], none, 0, 0, rfl, rfl, HG9.out, H9.out⟩
              · have HP := Lib.hid (o_steal H3.out (gN : Int) HGD.out hA.out)
                clear ct cf
                go_wp2_with (go_at_call 23; refine HP.out.mono ?_; rintro e w9 ⟨x', b', gl, ag, cg, rfl, hG9, hS9⟩; have HG9 := Lib.hid hG9; have H9 := Lib.hid hS9; clear hS9 hG9)
                go_meet
                exact ⟨x', z, b', gl, ag, gl.length, cg, rfl, rfl, HG9.out, H9.out⟩
              · have g1 : (kd == 1) = false := by simpa using n1
                have g2 : (kd == 2) = false := by simpa using n2
                have g3 : (kd == 3) = false := by simpa using n3
                have g4 : (kd == 4) = false := by simpa using n4
                have g6 : (kd == 6) = false := by simpa using n6
                have H9 := Lib.hid ((H3.out.dropL.cast (show _ = sl 3 1 (.slice (some ⟨gt, 0, none⟩) 100 100) 100 ((thereL (allQ xs z b ++ ([] : List Int))).map vi) * (quB q r z b * (ringP r m xs * emp)) by rw [List.append_nil])).addNil 3 1)
                have HG9 : Hid (Good (allQ xs z b ++ ([] : List Int))) := Lib.hid (by rw [List.append_nil]; exact HGD.out)
                clear ct cf n1 n2 n3 n4 n6
                go_wp2_with fail
                go_meet
                exact ⟨xs, z, b, [], none, 0, 0, rfl, rfl, HG9.out, H9.out⟩
        · obtain rfl : n = k := by omega
          have HS := Lib.hid hS
          clear hS
          go_wp2_with (go_at_call 20; refine (known5 _).mono ?_; rintro e w5 ⟨rfl, hb⟩)
          go_ret
          exact ⟨rfl, HS.out.below.trans (hb.mono HS.out.size)⟩
  · cases f1 with
    | false => exact once_e3 most hm F1
    | true => exact once_e4 most hm F1
theorem once5_row (w0 : World) (most : Int) (wm : (Lit.int .i64 most).wf = true) (v : Value) (n : Nat) (A : Nat → Value) (h : ArgS w0 4 (actC w0) v n A) :
    Calls Try.prog 5 #[vi most, v] w0 (TrueBelow w0) := by
  obtain ⟨K, G, Y, V, af, h⟩ := acts_of h
  exact once_walk most h
end
end Go.Proofs.Ytjlgdepneipgnaa.Rq
