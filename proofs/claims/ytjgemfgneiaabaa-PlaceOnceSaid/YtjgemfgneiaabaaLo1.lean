/-
  Chapter 19: the statement's helper count. No statement is proved here.
-/
import Derived.Test.YtjgemfgneiaabaaPm15
namespace Go.Proofs.Ytjgemfgneiaabaa.Pc
open Go.RowKit Rq Gq
set_option linter.unusedVariables false
set_option linter.unusedSimpArgs false

def b2n (b : Bool) : Nat := if b then 1 else 0
def cnt1 (y : Pl) (k : Int) : Nat := b2n (someV y.g y.runs == k) + b2n (someV y.z y.b == k) + y.xs.count k
def cntJ (p : Nat → Pl) (k : Int) : Nat → Nat
  | 0 => 0
  | j + 1 => cntJ p k j + cnt1 (p j) k
def cntV (p : Nat → Pl) (n : Nat) (gx : List Int) (k : Int) : Nat := cntJ p k n + gx.count k
section
variable {w0 w : World} {F : Hp} {p : Nat → Pl} {gx : List Int} {n : Nat} {v1 v2 v3 v4 v5 v6 : Value} {rv : Nat → Value}
theorem cntJ_le {k : Int} (hx : ∀ i, i < n → (p i).xs.length ≤ 32) : ∀ j, j ≤ n → cntJ p k j ≤ 34 * j
  | 0, _ => Nat.le_refl _
  | j + 1, h => by
    have h1 := cntJ_le (k := k) hx j (by omega)
    have h2 := hx j (by omega)
    have h3 : (p j).xs.count k ≤ (p j).xs.length := List.count_le_length
    have h4 : ∀ b, b2n b ≤ 1 := fun b => by cases b <;> decide
    have h5 := h4 (someV (p j).g (p j).runs == k)
    have h6 := h4 (someV (p j).z (p j).b == k)
    show cntJ p k j + (_ + _ + _) ≤ _
    omega
theorem rows_at {f : Nat → Value} {n i : Nat} (hi : i < n) : (rowsN (fun k => [f k]) n)[i]? = some (f i) := by
  have := rowsN_at (row := fun k => [f k]) (N := 1) (n := n) (k := i) (j := 0) (v := f i) (fun _ => rfl) hi rfl
  simpa using this
theorem lay_flat (h : Sat w0 (layB n p gx v1 v2 v3 v4 v5 v6 rv * F) w) : Sat w0 (sl 3 1 v1 n (rowsN (fun k => [vi (someV (p k).g (p k).runs)]) n) * (sl 3 1 v2 n (rowsN (fun k => [vi (someV (p k).z (p k).b)]) n) * (sl 30 1 v3 n (rowsN (fun k => [rv k]) n) * (star (fun i => rs 3 (rv i) ((p i).xs.map vi)) n * (sl 3 1 v4 n (rowsN (fun k => [vi (p k).left]) n) * (sl 64 1 v5 n (rowsN (fun k => [vu (p k).turns]) n) * (sl 3 1 v6 gx.length (gx.map vi) * F))))))) w := h.cast (by unfold layB ringsB; ac_rfl)
/-- What a layout reads. -/
theorem lay_rd (h : Sat w0 (layB n p gx v1 v2 v3 v4 v5 v6 rv * F) w) (hn : n ≠ 0) :
    (∃ b1 o1 c1, v1 = .slice (some ⟨b1, o1, none⟩) n c1 ∧ ∀ i, i < n → w.cell? ⟨b1, o1 + i, none⟩ = some (vi (someV (p i).g (p i).runs))) ∧
    (∃ b2 o2 c2, v2 = .slice (some ⟨b2, o2, none⟩) n c2 ∧ ∀ i, i < n → w.cell? ⟨b2, o2 + i, none⟩ = some (vi (someV (p i).z (p i).b))) ∧
    (∃ b3 o3 c3, v3 = .slice (some ⟨b3, o3, none⟩) n c3 ∧ ∀ i, i < n → w.cell? ⟨b3, o3 + i, none⟩ = some (rv i)) ∧ (∀ i, i < n → RdI w (rv i) (p i).xs) ∧ RdI w v6 gx := by
  have h1 := lay_flat h
  have h2 := h1.dropL
  have h3 := h2.dropL
  have h4 := h3.dropL
  refine ⟨?_, ?_, ?_, ?_, ?_⟩
  · obtain ⟨b, o, c, hv, hc⟩ := h1.rd.pos hn
    exact ⟨b, o, c, hv, fun i hi => hc i _ (rows_at hi)⟩
  · obtain ⟨b, o, c, hv, hc⟩ := h2.rd.pos hn
    exact ⟨b, o, c, hv, fun i hi => hc i _ (rows_at hi)⟩
  · obtain ⟨b, o, c, hv, hc⟩ := h3.rd.pos hn
    exact ⟨b, o, c, hv, fun i hi => hc i _ (rows_at hi)⟩
  · intro i hi
    have h5 := (Sat.star_out h4 hi).rsRd
    unfold RdI
    rw [List.length_map] at h5
    exact h5
  · exact h4.dropL.dropL.dropL.rd
set_option maxRecDepth 100000 in
set_option maxHeartbeats 8000000 in
theorem count_ (h : Sat w0 (layB n p gx v1 v2 v3 v4 v5 v6 rv * F) w) (hn : n ≠ 0) (hn8 : n ≤ 8) (hx : ∀ i, i < n → (p i).xs.length ≤ 32) (hg : gx.length ≤ 1000000) (k : Int) :
    Calls Try.prog 18 #[.agg #[v1, v2, v3, v4, v5, v6], vi k] w fun e w' => e = .returned (vi (cntV p n gx k)) ∧ Sat w0 (layB n p gx v1 v2 v3 v4 v5 v6 rv * F) w' := by
  have hf4 : ∃ a4 n4 c4, v4 = .slice a4 n4 c4 := by
    obtain ⟨ao, cap, hv⟩ := (lay_flat h).dropL.dropL.dropL.dropL.rd.len
    exact ⟨_, _, _, hv⟩
  have hf5 : ∃ a5 n5 c5, v5 = .slice a5 n5 c5 := by
    obtain ⟨ao, cap, hv⟩ := (lay_flat h).dropL.dropL.dropL.dropL.dropL.rd.len
    exact ⟨_, _, _, hv⟩
  obtain ⟨a4, n4, c4, rfl⟩ := hf4
  obtain ⟨a5, n5, c5, rfl⟩ := hf5
  obtain ⟨⟨b1, o1, c1, rfl, _⟩, ⟨b2, o2, c2, rfl, _⟩, ⟨b3, o3, c3, rfl, _⟩, _, h6⟩ := lay_rd h hn
  obtain ⟨a6, c6, rfl⟩ := h6.len
  have hB : Sat w0 (pc w.heap.size 48 [.slice (some ⟨b1, o1, none⟩) n c1, .slice (some ⟨b2, o2, none⟩) n c2, .slice (some ⟨b3, o3, none⟩) n c3, .slice a4 n4 c4, .slice a5 n5 c5, .slice a6 gx.length c6] * (layB n p gx _ _ _ _ _ _ rv * F)) (w.alloc (.cells #[.slice (some ⟨b1, o1, none⟩) n c1, .slice (some ⟨b2, o2, none⟩) n c2, .slice (some ⟨b3, o3, none⟩) n c3, .slice a4 n4 c4, .slice a5 n5 c5, .slice a6 gx.length c6] 48)) := h.alloc _
  have l0 := hB.cell 0 rfl
  have l1 := hB.cell 1 rfl
  have l2 := hB.cell 2 rfl
  have l5 := hB.cell 5 rfl
  obtain ⟨⟨b1', o1', c1', e1, r1⟩, ⟨b2', o2', c2', e2, r2⟩, ⟨b3', o3', c3', e3, r3⟩, r4, r6⟩ := lay_rd hB.dropL hn
  cases e1
  cases e2
  cases e3
  have HB := Lib.hid hB.dropL
  have R1 := Lib.hid r1
  have R2 := Lib.hid r2
  have R3 := Lib.hid r3
  have R4 := Lib.hid r4
  have R6 := Lib.hid r6
  have HX := Lib.hid hx
  clear h hB h6 r1 r2 r3 r4 r6 hx
  generalize hwb : w.alloc _ = wb at *
  have HW := Lib.hid hwb
  clear hwb
  have HJ := Lib.hid (fun j hj => cntJ_le (k := k) (p := p) HX.out j hj)
  go_enter Try.func18, Try.ntmps18
  go_wp2
  rw [HW.out]
  go_loopw [6, 5] (fun i cc wr => ∃ j : Nat, j ≤ n ∧ i = vi j ∧ cc = vi (cntJ p k j) ∧ wr = wb) (fun i _ _ => n - (intOf i).toNat)
  case atStart => exact ⟨0, Nat.zero_le _, rfl, rfl, rfl⟩
  case round =>
    obtain ⟨j, hj, rfl, rfl, rfl⟩ := hrel
    by_cases hlt : j < n
    · have hji : (j : Int) < (n : Int) := by omega
      have r1 := R1.out j hlt
      have r2 := R2.out j hlt
      have r3 := R3.out j hlt
      have r4 := R4.out j hlt
      have hxl := HX.out j hlt
      have hcl := HJ.out j hj
      have hstep : (cntJ p k (j + 1) : Int) = (cntJ p k j : Nat) + ((b2n (someV (p j).g (p j).runs == k) + b2n (someV (p j).z (p j).b == k) : Nat) : Int) + ((p j).xs.count k : Nat) := by
        show ((cntJ p k j + cnt1 (p j) k : Nat) : Int) = _
        unfold cnt1
        omega
      obtain ⟨t1, ht1⟩ : ∃ t1, (someV (p j).g (p j).runs == k) = t1 := ⟨_, rfl⟩
      obtain ⟨t2, ht2⟩ : ∃ t2, (someV (p j).z (p j).b == k) = t2 := ⟨_, rfl⟩
      rw [ht1, ht2] at hstep
      obtain ⟨C, hC⟩ : ∃ C : Int, ((cntJ p k j : Nat) : Int) = C := ⟨_, rfl⟩
      obtain ⟨a3, c3', hv3⟩ := r4.len
      rw [hv3] at r3 r4
      rw [hC] at hstep ⊢
      have hC0 : 0 ≤ C ∧ C ≤ 272 := by omega
      have HSTEP := Lib.hid hstep
      have hw1 : IntKind.i64.wrap (C + 1) = C + 1 := IntWalk.i64_in _ (by omega)
      have hw2 : IntKind.i64.wrap (C + 1 + 1) = C + 1 + 1 := IntWalk.i64_in _ (by omega)
      have hw3 : IntKind.i64.wrap (C + 2) = C + 2 := IntWalk.i64_in _ (by omega)
      have R4J := Lib.hid r4
      generalize someV (p j).g (p j).runs = sv at *
      generalize someV (p j).z (p j).b = sn at *
      generalize (p j).xs = xs at *
      clear hstep hC hcl hv3 r4 hlt
      obtain ⟨C0, hC0'⟩ : ∃ C0 : Int, C + ((b2n t1 + b2n t2 : Nat) : Int) = C0 := ⟨_, rfl⟩
      have hC0b : 0 ≤ C0 ∧ C0 ≤ 280 := by
        have h4 : ∀ b, b2n b ≤ 1 := fun b => by cases b <;> decide
        have h5 := h4 t1
        have h6 := h4 t2
        omega
      cases t1 <;> cases t2
      all_goals
        go_wp2
        go_loopw [7, 5] (fun i cc wy => ∃ (j2 : Nat) (Z : Int), j2 ≤ xs.length ∧ i = vi j2 ∧ cc = vi Z ∧ Hid (Z = C0 + ((xs.take j2).count k : Nat)) ∧ wr = wy) (fun i _ _ => xs.length - (intOf i).toNat)
        case atStart => exact ⟨0, _, Nat.zero_le _, rfl, rfl, Lib.hid (by rw [← hC0']; simp [b2n]; try omega), rfl⟩
        case round =>
          obtain ⟨j2, Z, hj2, rfl, rfl, hZ, rfl⟩ := hrel
          by_cases hl2 : j2 < xs.length
          · obtain ⟨bb, oo, rfl, hr5⟩ := RdI.at_ R4J.out (by omega)
            have r5 := hr5 j2 hl2
            have hj2i : (j2 : Int) < (xs.length : Int) := by omega
            have hct : (xs.take (j2 + 1)).count k = (xs.take j2).count k + b2n (xs[j2]?.getD 0 == k) := by
              rw [List.take_add_one, List.count_append]
              have hg1 : xs[j2]?.toList = [xs[j2]?.getD 0] := by simp [hl2]
              rw [hg1, List.count_singleton]
              rfl
            have hcb : (xs.take j2).count k ≤ xs.length := Nat.le_trans List.count_le_length (by rw [List.length_take]; omega)
            have hzb := hZ.out
            have hZ1 : IntKind.i64.wrap (Z + 1) = Z + 1 := IntWalk.i64_in _ (by omega)
            obtain ⟨t3, ht3⟩ : ∃ t3, (xs[j2]?.getD 0 == k) = t3 := ⟨_, rfl⟩
            rw [ht3] at hct
            generalize xs[j2]?.getD 0 = y at *
            have HCT := Lib.hid hct
            clear hct hcb hzb hr5 hl2
            cases t3
            all_goals
              go_wp2
              go_roundw
              case rel => first | exact ⟨j2 + 1, _, by omega, by go_num, rfl, Lib.hid (by rw [HCT.out, hZ.out]; simp [b2n]; try omega), by trivial⟩ | exact ⟨_, _, _, _, _, _, _, _, _, _, _, _, _, _, _, _, _, _, _, _, _, _, _, _, _, _, _, _, _, _, _, _, _, _, _, _, _, _, _, _, ⟨j2 + 1, _, by omega, by go_num, rfl, Lib.hid (by rw [HCT.out, hZ.out]; simp [b2n]; try omega), by trivial⟩, rfl⟩
              case measure => simp [intOf]; omega
          · obtain rfl : j2 = xs.length := by omega
            have hz := hZ.out
            rw [List.take_length] at hz
            have HZ := Lib.hid (show Value.int .i64 Z = .int .i64 (cntJ p k (j + 1) : Nat) by rw [HSTEP.out, hz, ← hC0'])
            clear hZ hz hl2 hC0'
            go_wp2
            go_roundw
            case rel => first | exact ⟨j + 1, by omega, by go_num, HZ.out, by trivial⟩ | exact ⟨_, _, _, _, _, _, _, _, _, _, _, _, _, _, _, _, _, _, _, _, _, _, _, _, _, _, _, _, _, _, _, _, _, _, _, _, _, _, _, _, ⟨j + 1, by omega, by go_num, HZ.out, by trivial⟩, rfl⟩
            case measure => simp [intOf]; omega
    · obtain rfl : j = n := by omega
      have hcl := HJ.out j (Nat.le_refl _)
      obtain ⟨C, hC⟩ : ∃ C : Int, ((cntJ p k j : Nat) : Int) = C := ⟨_, rfl⟩
      rw [hC]
      have hC0 : 0 ≤ C ∧ C ≤ 272 := by omega
      have HC := Lib.hid hC
      clear hcl hC hlt
      go_wp2
      go_loopw [8, 5] (fun i cc wy => ∃ (j2 : Nat) (Z : Int), j2 ≤ gx.length ∧ i = vi j2 ∧ cc = vi Z ∧ Hid (Z = C + ((gx.take j2).count k : Nat)) ∧ wr = wy) (fun i _ _ => gx.length - (intOf i).toNat)
      case atStart => exact ⟨0, _, Nat.zero_le _, rfl, rfl, Lib.hid (by simp), rfl⟩
      case round =>
        obtain ⟨j2, Z, hj2, rfl, rfl, hZ, rfl⟩ := hrel
        by_cases hl2 : j2 < gx.length
        · obtain ⟨bb, oo, rfl, hr5⟩ := RdI.at_ R6.out (by omega)
          have r5 := hr5 j2 hl2
          have hj2i : (j2 : Int) < (gx.length : Int) := by omega
          have hct : (gx.take (j2 + 1)).count k = (gx.take j2).count k + b2n (gx[j2]?.getD 0 == k) := by
            rw [List.take_add_one, List.count_append]
            have hg1 : gx[j2]?.toList = [gx[j2]?.getD 0] := by simp [hl2]
            rw [hg1, List.count_singleton]
            rfl
          have hcb : (gx.take j2).count k ≤ gx.length := Nat.le_trans List.count_le_length (by rw [List.length_take]; omega)
          have hzb := hZ.out
          have hZ1 : IntKind.i64.wrap (Z + 1) = Z + 1 := IntWalk.i64_in _ (by omega)
          obtain ⟨t3, ht3⟩ : ∃ t3, (gx[j2]?.getD 0 == k) = t3 := ⟨_, rfl⟩
          rw [ht3] at hct
          generalize gx[j2]?.getD 0 = y at *
          have HCT := Lib.hid hct
          clear hct hcb hzb hr5 hl2
          cases t3
          all_goals
            go_wp2
            go_roundw
            case rel => first | exact ⟨j2 + 1, _, by omega, by go_num, rfl, Lib.hid (by rw [HCT.out, hZ.out]; simp [b2n]; try omega), by trivial⟩ | exact ⟨_, _, _, _, _, _, _, _, _, _, _, _, _, _, _, _, _, _, _, _, _, _, _, _, _, _, _, _, _, _, _, _, _, _, _, _, _, _, _, _, ⟨j2 + 1, _, by omega, by go_num, rfl, Lib.hid (by rw [HCT.out, hZ.out]; simp [b2n]; try omega), by trivial⟩, rfl⟩
            case measure => simp [intOf]; omega
        · obtain rfl : j2 = gx.length := by omega
          have hz := hZ.out
          rw [List.take_length, ← HC.out] at hz
          have HZ := Lib.hid (show Value.int .i64 Z = .int .i64 (cntV p j gx k : Nat) by rw [hz]; rfl)
          clear hZ hz hl2
          go_wp2
          go_ret
          exact ⟨congrArg Ending.returned HZ.out, HB.out⟩
end
end Go.Proofs.Ytjgemfgneiaabaa.Pc
