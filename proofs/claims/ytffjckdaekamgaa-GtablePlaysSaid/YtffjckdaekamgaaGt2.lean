/-
  Chapter 16: turns, by the program and by the reference. No statement is proved here.
-/
import Derived.Test.YtffjckdaekamgaaGt1
import Derived.Test.YtffjckdaekamgaaMapV
namespace Go.Proofs.Ytffjckdaekamgaa.Gt
open Go.RowKit Ag
set_option linter.unusedVariables false

def RdS (w : World) (v : Value) (xs : List Int) : Prop := Rd w 1 v xs.length (xs.map vi)
theorem RdS.len {w : World} {v : Value} {xs : List Int} (h : RdS w v xs) : ∃ ao cap, v = .slice ao xs.length cap := Rd.len h
theorem RdS.at_ {w : World} {ao : Option Addr} {cap n : Nat} {xs : List Int} (h : RdS w (.slice ao n cap) xs) (hn : xs.length ≠ 0) : ∃ b off, ao = some ⟨b, off, none⟩ ∧ ∀ k, k < xs.length → w.cell? ⟨b, off + k, none⟩ = some (vi (xs[k]?.getD 0)) := by
  obtain ⟨b, off, c, e, hc⟩ := Rd.pos h hn
  cases e
  exact ⟨b, off, rfl, fun k hk => hc k _ (by simp [hk])⟩
def findS (xs : List Int) (x : Int) : Int := if x ∈ xs then (xs.idxOf x : Int) else -1
theorem findS_hit {xs : List Int} {x : Int} {k : Nat} (hk : k < xs.length) (hno : ∀ j, j < k → xs[j]?.getD 0 ≠ x) (hx : xs[k]?.getD 0 = x) : findS xs x = k := by
  have hx' : xs[k] = x := by simpa [hk] using hx
  unfold findS
  rw [if_pos (hx' ▸ List.getElem_mem hk)]
  congr 1
  have h1 : xs.idxOf x ≤ k := by
    rcases Nat.lt_or_ge k (xs.idxOf x) with h | h
    · exact absurd hx' (by simpa using List.not_of_lt_findIdx (p := (· == x)) h)
    · exact h
  rcases Nat.lt_or_ge (xs.idxOf x) k with h | h
  · exfalso
    have hl : xs.idxOf x < xs.length := by omega
    refine hno _ h ?_
    rw [List.getElem?_eq_getElem hl]
    simp
  · omega
theorem findS_miss {xs : List Int} {x : Int} (hno : ∀ j, j < xs.length → xs[j]?.getD 0 ≠ x) : findS xs x = -1 := by
  unfold findS
  rw [if_neg]
  intro hm
  obtain ⟨j, hj, rfl⟩ := List.getElem_of_mem hm
  exact hno j hj (by simp [hj])
theorem findS_ge (xs : List Int) (x : Int) : decide (0 ≤ findS xs x) = decide (x ∈ xs) := by
  unfold findS
  by_cases h : x ∈ xs
  · simp [h]
  · simp [h]
theorem index_s (x : Int) (xs : List Int) (v : Value) (w : World) (h : RdS w v xs) (hl : xs.length ≤ 1000000) :
    Calls Try.prog 40 #[v, vi x] w fun e w' => e = .returned (vi (findS xs x)) ∧ w = w' := by
  obtain ⟨ao, cap, rfl⟩ := h.len
  go_enter Try.func40, Try.ntmps40
  go_wp2
  go_loop [8] (fun i => ∃ k : Nat, k ≤ xs.length ∧ i = vi k ∧ Hid (∀ j, j < k → xs[j]?.getD 0 ≠ x)) (fun i => xs.length - (intOf i).toNat)
  case atStart => exact ⟨0, Nat.zero_le _, rfl, Lib.hid (fun j hj => by omega)⟩
  case round =>
    obtain ⟨k, hk, rfl, hno⟩ := hrel
    by_cases hlt : k < xs.length
    · obtain ⟨b, off, rfl, hc⟩ := h.at_ (by omega)
      have hck := hc k hlt
      clear hc
      generalize hy : xs[k]?.getD 0 = y at *
      have hy' := Lib.hid hy
      clear hy
      by_cases hxy : x = y
      · subst hxy
        go_wp2
        go_ret
        exact ⟨by rw [findS_hit hlt hno.out hy'.out]; rfl, rfl⟩
      · have hne : (x == y) = false := by simpa using hxy
        go_wp2
        go_round
        case rel => exact ⟨k + 1, by omega, by go_num, Lib.hid (fun j hj => by
          rcases Nat.lt_or_ge j k with h1 | h1
          · exact hno.out j h1
          · obtain rfl : j = k := by omega
            rw [hy'.out]; exact fun e => hxy e.symm)⟩
        case measure => simp [intOf]; omega
    · obtain rfl : k = xs.length := by omega
      go_wp2
      go_ret
      exact ⟨by rw [findS_miss hno.out]; rfl, rfl⟩
theorem contains_s (x : Int) (xs : List Int) (v : Value) (w : World) (h : RdS w v xs) (hl : xs.length ≤ 1000000) :
    Calls Try.prog 17 #[v, vi x] w fun e w' => e = .returned (.bool (decide (x ∈ xs))) ∧ w = w' := by
  have hg := Lib.hid (findS_ge xs x)
  have hc := Lib.hid (index_s x xs v w h hl)
  generalize findS xs x = f at *
  go_enter Try.func17, Try.ntmps17
  go_wp2_with (go_at_call 40; refine hc.out.mono ?_; rintro e w' ⟨rfl, rfl⟩)
  go_ret
  exact ⟨by rw [← hg.out]; rfl, rfl⟩
/-- Those to which one may turn. -/
def trn (s : Int) : List Int := if s = 1 then [2, 5, 6] else if s = 2 then [1, 3, 4, 5, 6] else if s = 5 then [1] else if s = 3 ∨ s = 4 ∨ s = 6 then [1, 5] else []
section
variable {w0 w : World} {F : Hp}
theorem rdPc1 {b : Nat} {T : TypeId} {cs : List Value} {n : Nat} (h : Sat w0 (pc b T cs * F) w) (hn : cs.length = n) : Rd w 1 (.slice (some ⟨b, 0, none⟩) n n) n cs :=
  ⟨by omega, .inr ⟨_, _, _, rfl, fun j u hj => by rw [Nat.zero_add]; exact h.cell j hj⟩⟩
set_option maxRecDepth 100000 in
set_option maxHeartbeats 4000000 in
theorem turns_ (h : Sat w0 F w) : Calls Try.prog 18 #[] w fun e w' => ∃ b M, e = .returned (.map (some b)) ∧ (∃ G, Sat w0 (mapIV (.map (some b)) M * (G * F)) w') ∧ ∀ s, ∃ v, (M s).getD (.slice none 0 0) = v ∧ RdS w' v (trn s) := by
  have h1 := (h.mapNewV).alloc (.cells #[vi 2, vi 5, vi 6] 22)
  rw [size1] at h1
  have H1 := Lib.hid (show Sat w0 (pc (w.heap.size + 1) 22 [vi 2, vi 5, vi 6] * (mapIV (.map (some w.heap.size)) (fun _ => none) * F)) _ from h1)
  clear h1 h
  have hm : ∀ w : World, (Instr.makeMap 56 none).run Try.prog w = .ok (.map (some w.heap.size)) (w.alloc (.map #[] 0)) := fun w => rfl
  go_enter Try.func18, Try.ntmps18
  go_wp2_with (first
    | (refine wpList_insV Try.underlying56 Try.underlying22 rfl _ _ _ rfl (by rfl) 1 (.slice (some ⟨w.heap.size + 1, 0, none⟩) 3 3) (by rfl) (by rfl) H1.out.pull2 ?_; intro w2 hS2; have H2 := Lib.hid (hS2.alloc (.cells #[vi 1, vi 3, vi 4, vi 5, vi 6] 22)); clear hS2)
    | (refine wpList_insV Try.underlying56 Try.underlying22 rfl _ _ _ rfl (by rfl) 2 (.slice (some ⟨w2.heap.size, 0, none⟩) 5 5) (by rfl) (by rfl) H2.out.pull2 ?_; intro w3 hS3; have H3 := Lib.hid (hS3.alloc (.cells #[vi 1, vi 5] 22)); clear hS3)
    | (refine wpList_insV Try.underlying56 Try.underlying22 rfl _ _ _ rfl (by rfl) 3 (.slice (some ⟨w3.heap.size, 0, none⟩) 2 2) (by rfl) (by rfl) H3.out.pull2 ?_; intro w4 hS4; have H4 := Lib.hid (hS4.alloc (.cells #[vi 1, vi 5] 22)); clear hS4)
    | (refine wpList_insV Try.underlying56 Try.underlying22 rfl _ _ _ rfl (by rfl) 4 (.slice (some ⟨w4.heap.size, 0, none⟩) 2 2) (by rfl) (by rfl) H4.out.pull2 ?_; intro w5 hS5; have H5 := Lib.hid (hS5.alloc (.cells #[vi 1] 22)); clear hS5)
    | (refine wpList_insV Try.underlying56 Try.underlying22 rfl _ _ _ rfl (by rfl) 5 (.slice (some ⟨w5.heap.size, 0, none⟩) 1 1) (by rfl) (by rfl) H5.out.pull2 ?_; intro w6 hS6; have H6 := Lib.hid (hS6.alloc (.cells #[vi 1, vi 5] 22)); clear hS6)
    | (refine wpList_insV Try.underlying56 Try.underlying22 rfl _ _ _ rfl (by rfl) 6 (.slice (some ⟨w6.heap.size, 0, none⟩) 2 2) (by rfl) (by rfl) H6.out.pull2 ?_; intro w7 hS7; have H7 := Lib.hid hS7; clear hS7))
  go_ret
  have h7 : Sat w0 (mapIV (.map (some w.heap.size)) (putMV (putMV (putMV (putMV (putMV (putMV (fun _ => none) 1 (.slice (some ⟨w.heap.size + 1, 0, none⟩) 3 3)) 2 (.slice (some ⟨w2.heap.size, 0, none⟩) 5 5)) 3 (.slice (some ⟨w3.heap.size, 0, none⟩) 2 2)) 4 (.slice (some ⟨w4.heap.size, 0, none⟩) 2 2)) 5 (.slice (some ⟨w5.heap.size, 0, none⟩) 1 1)) 6 (.slice (some ⟨w6.heap.size, 0, none⟩) 2 2)) * (pc w6.heap.size 22 [vi 1, vi 5] * (pc w5.heap.size 22 [vi 1] * (pc w4.heap.size 22 [vi 1, vi 5] * (pc w3.heap.size 22 [vi 1, vi 5] * (pc w2.heap.size 22 [vi 1, vi 3, vi 4, vi 5, vi 6] * (pc (w.heap.size + 1) 22 [vi 2, vi 5, vi 6] * F))))))) w7 := H7.out
  have r6 := rdPc1 h7.dropL rfl
  have r5 := rdPc1 h7.dropL.dropL rfl
  have r4 := rdPc1 h7.dropL.dropL.dropL rfl
  have r3 := rdPc1 h7.dropL.dropL.dropL.dropL rfl
  have r2 := rdPc1 h7.dropL.dropL.dropL.dropL.dropL rfl
  have r1 := rdPc1 h7.dropL.dropL.dropL.dropL.dropL.dropL rfl
  refine ⟨w.heap.size, _, rfl, ⟨_, h7.cast (show _ = _ * ((pc w6.heap.size 22 [vi 1, vi 5] * (pc w5.heap.size 22 [vi 1] * (pc w4.heap.size 22 [vi 1, vi 5] * (pc w3.heap.size 22 [vi 1, vi 5] * (pc w2.heap.size 22 [vi 1, vi 3, vi 4, vi 5, vi 6] * (pc (w.heap.size + 1) 22 [vi 2, vi 5, vi 6])))))) * F) by ac_rfl)⟩, fun s => ⟨_, rfl, ?_⟩⟩
  unfold putMV trn
  by_cases e6 : s = 6
  · subst e6; exact r6
  by_cases e5 : s = 5
  · subst e5; exact r5
  by_cases e4 : s = 4
  · subst e4; exact r4
  by_cases e3 : s = 3
  · subst e3; exact r3
  by_cases e2 : s = 2
  · subst e2; exact r2
  by_cases e1 : s = 1
  · subst e1; exact r1
  rw [if_neg (fun e => e6 e.symm), if_neg (fun e => e5 e.symm), if_neg (fun e => e4 e.symm), if_neg (fun e => e3 e.symm), if_neg (fun e => e2 e.symm), if_neg (fun e => e1 e.symm), if_neg e1, if_neg e2, if_neg e5, if_neg (by omega)]
  exact Rd.nil _ _
/-- May one turn so? -/
def turnB (a b : Int) : Bool := decide (b ∈ trn a)
set_option maxRecDepth 100000 in
theorem g_turns (h : Sat w0 F w) (a b : Int) : Calls Try.prog 8 #[vi a, vi b] w fun e w' => e = .returned (.bool (turnB a b)) ∧ Sat w0 F w' := by
  have HT := Lib.hid (turns_ h)
  have hlen : (trn a).length ≤ 1000000 := by unfold trn; (repeat' split) <;> simp
  have HL := Lib.hid hlen
  clear h hlen
  have hq : turnB a b = decide (b ∈ trn a) := rfl
  rw [hq]
  go_enter Try.func8, Try.ntmps8
  go_wp2_with (first
    | (go_at_call 18; refine HT.out.mono ?_; rintro e w1 ⟨m, M, rfl, ⟨G, hS⟩, hM⟩; obtain ⟨v, hv, hr⟩ := hM a; have hlk := run_lookV (P := Try.prog) Try.underlying56 Try.underlying22 (z := .slice none 0 0) (et := 55) (by kernel_rfl) hS a; rw [hv] at hlk; have HC := Lib.hid (contains_s b _ v w1 hr HL.out); have HS := Lib.hid (hS.dropL.dropL); clear hS hM hv hr)
    | (go_at_call 17; refine HC.out.mono ?_; rintro e w' ⟨rfl, rfl⟩))
  go_ret
  exact ⟨rfl, HS.out⟩
theorem trn_iff (a b : Int) : b ∈ trn a ↔ (a = 1 ∧ (b = 2 ∨ b = 5 ∨ b = 6)) ∨ (a = 2 ∧ (b = 1 ∨ b = 3 ∨ b = 4 ∨ b = 5 ∨ b = 6)) ∨ ((a = 3 ∨ a = 4 ∨ a = 6) ∧ (b = 1 ∨ b = 5)) ∨ (a = 5 ∧ b = 1) := by
  unfold trn
  (repeat' split) <;> simp <;> omega
set_option maxRecDepth 100000 in
set_option maxHeartbeats 4000000 in
theorem r_turns (a b : Int) (w : World) : Calls Try.prog 9 #[vi a, vi b] w fun e w' => e = .returned (.bool (turnB a b)) ∧ w = w' := by
  have HM : Hid (∀ x, (x = true ↔ ((a = 1 ∧ (b = 2 ∨ b = 5 ∨ b = 6)) ∨ (a = 2 ∧ (b = 1 ∨ b = 3 ∨ b = 4 ∨ b = 5 ∨ b = 6)) ∨ ((a = 3 ∨ a = 4 ∨ a = 6) ∧ (b = 1 ∨ b = 5)) ∨ (a = 5 ∧ b = 1))) → Ending.returned (.bool x) = .returned (.bool (turnB a b))) := Lib.hid fun x hx => by
    rw [← trn_iff] at hx
    congr 2
    cases x with
    | true => exact (decide_eq_true (hx.1 rfl)).symm
    | false => exact (decide_eq_false fun e => by simpa using hx.2 e).symm
  generalize turnB a b = m at *
  go_enter Try.func9, Try.ntmps9
  go_wp2
  all_goals go_ret
  all_goals exact ⟨HM.out _ (by simp at *; try omega), rfl⟩
end
end Go.Proofs.Ytffjckdaekamgaa.Gt
