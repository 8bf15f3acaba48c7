/-
  Chapter 19: who is there, counted, in plain words (for PlaceOnce). No statement is proved here.
-/
import Derived.Test.YtjgemfgneiaabaaGreatMg19
import Derived.Test.YtjgemfgneiaabaaGreatPm10
import Derived.Test.YtjgemfgneiaabaaGreatMg5
import Derived.Lib.BitFns
import Derived.Test.YtjgemfgneiaabaaGreatGq4
namespace Go.Proofs.YtjgemfgneiaabaaGreat.Pc
open Go.RowKit Rq Gq
set_option linter.unusedVariables false
set_option linter.unusedSimpArgs false

theorem some_count {g : Int} {ru : Bool} {k : Int} (hk : 0 ≤ k) : b2n (someV g ru == k) = (if ru then [g] else []).count k := by
  cases ru with
  | true =>
    show b2n (g == k) = [g].count k
    rw [List.count_singleton]
    rfl
  | false =>
    show b2n (-1 == k) = 0
    have : ((-1 : Int) == k) = false := by
      rw [beq_eq_false_iff_ne]
      omega
    rw [this]
    rfl
theorem allQ_count {xs : List Int} {z : Int} {b : Bool} {k : Int} : (allQ xs z b).count k = (if b then [z] else []).count k + xs.count k := by
  cases b with
  | true =>
    show (z :: xs).count k = [z].count k + xs.count k
    rw [List.count_cons, List.count_singleton, Nat.add_comm]
  | false =>
    show xs.count k = 0 + xs.count k
    rw [Nat.zero_add]
theorem all1_count (y : Pl) {k : Int} (hk : 0 ≤ k) : (all1 y).count k = cnt1 y k := by
  unfold all1 cnt1
  rw [List.count_append, allQ_count, some_count hk, some_count hk, Nat.add_assoc]
theorem cntJ_count (p : Nat → Pl) {k : Int} (hk : 0 ≤ k) : ∀ n, ((List.range n).flatMap fun i => all1 (p i)).count k = cntJ p k n
  | 0 => rfl
  | n + 1 => by
    rw [List.range_succ, List.flatMap_append, List.count_append, cntJ_count p hk n]
    simp [cntJ, all1_count _ hk]
theorem cntV_count (p : Nat → Pl) (n : Nat) (gx : List Int) {k : Int} (hk : 0 ≤ k) : cntV p n gx k = (allP p n gx).count k := by
  unfold cntV allP
  rw [List.count_append, cntJ_count p hk]
theorem ind_count {l : List Int} (hn : l.Nodup) (k : Nat) : ((l.count (k : Int) : Nat) : Int) = ind l k := by
  unfold ind
  rw [hn.count]
  split <;> rfl
theorem mem_all {p : Nat → Pl} {n : Nat} {gx : List Int} {g : Int} : g ∈ allP p n gx ↔ (∃ k, k < n ∧ ((p k).runs = true ∧ (p k).g = g ∨ g ∈ allQ (p k).xs (p k).z (p k).b)) ∨ g ∈ gx := by
  unfold allP all1
  simp only [List.mem_append, List.mem_flatMap, List.mem_range]
  constructor
  · rintro (⟨k, hk, h | h⟩ | h)
    · refine .inl ⟨k, hk, .inl ?_⟩
      cases hr : (p k).runs with
      | true => rw [hr, if_pos rfl] at h; exact ⟨rfl, (List.mem_singleton.1 h).symm⟩
      | false => rw [hr] at h; simp at h
    · exact .inl ⟨k, hk, .inr h⟩
    · exact .inr h
  · rintro (⟨k, hk, ⟨h1, h2⟩ | h⟩ | h)
    · exact .inl ⟨k, hk, .inl (by rw [h1, ← h2]; simp)⟩
    · exact .inl ⟨k, hk, .inr h⟩
    · exact .inr h
theorem whJ_none {p : Nat → Pl} {n : Nat} {g : Int} {j : Nat} (h : whJ p n g j = none) : ∀ k, k < n → look p g j k = false := fun k hk => by
  have := List.find?_eq_none.1 h k (List.mem_range.2 hk)
  simpa using this
theorem whJ_some {p : Nat → Pl} {n : Nat} {g : Int} {j k : Nat} (h : whJ p n g j = some k) : k < n ∧ look p g j k = true :=
  ⟨List.mem_range.1 (List.mem_of_find?_eq_some h), List.find?_some h⟩
/-- Where answers a place for just those who are anywhere. -/
theorem where_mem (p : Nat → Pl) (n : Nat) (gx : List Int) (g : Int) : ((whereV p n gx g).1 ≠ 0) ↔ g ∈ allP p n gx := by
  unfold whereV
  rw [mem_all]
  cases h0 : whJ p n g 0 with
  | some k =>
    obtain ⟨hk, hl⟩ := whJ_some h0
    have hl : ((p k).runs && (p k).g == g) = true := hl
    simp only [Bool.and_eq_true, beq_iff_eq] at hl
    exact ⟨fun _ => .inl ⟨k, hk, .inl hl⟩, fun _ => by simp⟩
  | none =>
    cases h1 : whJ p n g 1 with
    | some k =>
      obtain ⟨hk, hl⟩ := whJ_some h1
      have hl : ((p k).b && (p k).z == g) = true := hl
      simp only [Bool.and_eq_true, beq_iff_eq] at hl
      refine ⟨fun _ => .inl ⟨k, hk, .inr ?_⟩, fun _ => by simp⟩
      rw [← hasQ_mem]
      unfold hasQ
      simp [hl]
    | none =>
      cases h2 : whJ p n g 2 with
      | some k =>
        obtain ⟨hk, hl⟩ := whJ_some h2
        have hl : hasQ (p k).xs (p k).z (p k).b g = true := hl
        exact ⟨fun _ => .inl ⟨k, hk, .inr (hasQ_mem.1 hl)⟩, fun _ => by simp⟩
      | none =>
        have n0 := whJ_none h0
        have n2 := whJ_none h2
        by_cases hg : g ∈ gx
        · simp [hg]
        · simp only [hg, if_false, or_false]
          refine ⟨fun h => absurd rfl h, ?_⟩
          rintro ⟨k, hk, ⟨h1, h2⟩ | h⟩
          · have := n0 k hk
            have e : look p g 0 k = ((p k).runs && (p k).g == g) := rfl
            rw [e, h1, h2] at this
            simp at this
          · have := n2 k hk
            have e : look p g 2 k = hasQ (p k).xs (p k).z (p k).b g := rfl
            rw [e, hasQ_mem.2 h] at this
            cases this
/-- Who is there, as the statement keeps it: N cells, 1 or 0. -/
def thN (N : Nat) (l : List Int) : List Int := (List.range N).map (ind l)
theorem thN_len (N : Nat) (l : List Int) : (thN N l).length = N := by simp [thN]
theorem thN_at {N : Nat} (l : List Int) {g : Nat} (hg : g < N) : (thN N l)[g]? = some (ind l g) := by
  unfold thN
  rw [List.getElem?_map, List.getElem?_range hg]
  rfl
theorem thN_congr {N : Nat} {l l' : List Int} (h : ∀ x, x ∈ l ↔ x ∈ l') : thN N l = thN N l' := by
  unfold thN
  exact List.map_congr_left fun g _ => ind_congr h g
theorem thN_set {N : Nat} {l l' : List Int} {x : Nat} (h : ∀ y, y ∈ l ↔ y = (x : Int) ∨ y ∈ l') : thN N l = (thN N l').set x 1 := by
  apply List.ext_getElem?
  intro i
  rw [List.getElem?_set]
  by_cases hi : i < N
  · rw [thN_at _ hi, thN_at _ hi, thN_len]
    by_cases hx : x = i
    · subst hx
      rw [if_pos rfl, if_pos hi]
      unfold ind
      rw [if_pos ((h _).2 (.inl rfl))]
    · rw [if_neg hx]
      unfold ind
      congr 1
      have : ((i : Int) ∈ l) ↔ ((i : Int) ∈ l') := by
        rw [h]
        constructor
        · rintro (h1 | h1)
          · exact absurd (by omega) hx
          · exact h1
        · exact .inr
      simp only [this]
  · rw [List.getElem?_eq_none (by rw [thN_len]; omega), List.getElem?_eq_none (by rw [thN_len]; omega), thN_len]
    split
    · split
      · omega
      · rfl
    · rfl
theorem thN_clr {N : Nat} {l l' : List Int} {x : Nat} (h : ∀ y, y ∈ l ↔ y = (x : Int) ∨ y ∈ l') (hx : (x : Int) ∉ l') : thN N l' = (thN N l).set x 0 := by
  rw [thN_set h, List.set_set]
  apply List.ext_getElem?
  intro i
  rw [List.getElem?_set]
  by_cases hi : i < N
  · rw [thN_at _ hi, thN_len]
    by_cases he : x = i
    · subst he
      rw [if_pos rfl, if_pos hi]
      unfold ind
      rw [if_neg hx]
    · rw [if_neg he]
  · rw [List.getElem?_eq_none (by rw [thN_len]; omega), thN_len]
    split
    · split
      · omega
      · rfl
    · rfl
/-- Who is there, is there once, and is one of 0 to 30. -/
def Good30 (l : List Int) : Prop := l.Nodup ∧ ∀ x ∈ l, 0 ≤ x ∧ x ≤ 30
theorem Good30.perm {l l' : List Int} (h : Good30 l) (p : l'.Perm l) : Good30 l' := ⟨p.nodup_iff.2 h.1, fun x hx => h.2 x (p.mem_iff.1 hx)⟩
end Go.Proofs.YtjgemfgneiaabaaGreat.Pc

namespace Go.Proofs.YtjgemfgneiaabaaGreat.Nu
open Go.RowKit Rq
set_option linter.unusedVariables false
set_option linter.unusedSimpArgs false

set_option maxRecDepth 100000 in
theorem ones8 (s : Nat) (hs : s < 256) (w : World) : Calls Tryz.prog 109 #[.int .u8 s] w fun e w' => e = .returned (vi (Lib.onesCount s)) ∧ w = w' := by
  have e := Lib.pop8_eq ⟨s, hs⟩
  have l := Lib.onesCount_le8 ⟨s, hs⟩
  dsimp only at e l
  have h : wrap64 (Lib.pop8 (s : Int)) = (Lib.onesCount s : Int) := by rw [IntWalk.wrap64_in _ (by omega), e]
  have h0 : (0 : Int) ≤ s := by omega
  have h1 : (s : Int) ≤ 255 := by omega
  have H := Lib.hid h
  clear h e l
  go_enter Tryz.func109, Tryz.ntmps109
  go_wp2
  go_ret
  exact ⟨congrArg (fun x => Ending.returned (.int .i64 x)) H.out, rfl⟩
theorem num_count (s : Nat) (hs : s < 256) (w : World) : Calls Tryz.prog 91 #[.int .u8 s] w fun e w' => e = .returned (vi (Lib.onesCount s)) ∧ w = w' := by
  have H := Lib.hid (ones8 s hs w)
  go_enter Tryz.func91, Tryz.ntmps91
  go_wp2_with (go_at_call 109; refine H.out.mono ?_; rintro e w' ⟨rfl, rfl⟩)
  go_ret
  exact ⟨rfl, rfl⟩
def maskN (k : Nat) : Nat := 2 ^ k - 1
theorem mask_or : ∀ k : Fin 8, bits BinOp.or IntKind.u8 (maskN k.val : Int) ((2 ^ k.val : Nat) : Int) = (maskN (k.val + 1) : Int) := by decide +kernel
theorem mask_and : ∀ (s : Fin 256) (k : Fin 9), bits BinOp.and IntKind.u8 (s.val : Int) (maskN k.val : Int) = ((s.val &&& maskN k.val : Nat) : Int) := by decide +kernel
theorem mask_has : ∀ (k : Fin 9) (i : Fin 8) (s : Fin 256), (s.val &&& maskN k.val).testBit i.val = (s.val.testBit i.val && decide (i.val < k.val)) := by decide +kernel
theorem num_with (k : Nat) (hk : k < 8) (w : World) : Calls Tryz.prog 93 #[.int .u8 (maskN k), vi k] w fun e w' => e = .returned (.int .u8 (maskN (k + 1))) ∧ w = w' := by
  have H := Lib.hid (bit_in k (by omega) w)
  have hor := mask_or ⟨k, hk⟩
  dsimp only at hor
  generalize ((2 ^ k : Nat) : Int) = b at *
  generalize (maskN k : Int) = m at *
  generalize (maskN (k + 1) : Int) = m' at *
  go_enter Tryz.func93, Tryz.ntmps93
  go_wp2_with (go_at_call 89; refine H.out.mono ?_; rintro e w' ⟨rfl, rfl⟩)
  go_ret
  exact ⟨by rw [← hor]; rfl, rfl⟩
theorem num_mask (n : Nat) (hn : n ≤ 8) (w : World) : Calls Tryz.prog 49 #[vi n] w fun e w' => e = .returned (.int .u8 (maskN n)) ∧ w = w' := by
  have h1 : ¬ (n : Int) < 0 := by omega
  have h2 : ¬ (8 : Int) < (n : Int) := by omega
  have h3 : max (n : Int) 0 = n := by omega
  have h4 : min (n : Int) 8 = n := by omega
  go_enter Tryz.func49, Tryz.ntmps49
  go_wp2
  go_loopw [8, 3] (fun i m wr => ∃ k : Nat, k ≤ n ∧ i = vi k ∧ m = .int .u8 (maskN k) ∧ w = wr) (fun i _ _ => n - (intOf i).toNat)
  case atStart => exact ⟨0, Nat.zero_le _, rfl, rfl, rfl⟩
  case round =>
    obtain ⟨k, hk, rfl, rfl, rfl⟩ := hrel
    by_cases hlt : k < n
    · have hki : (k : Int) < (n : Int) := by omega
      have HW := Lib.hid (num_with k (by omega) w)
      obtain ⟨m', hm⟩ : ∃ m' : Int, (maskN (k + 1) : Int) = m' := ⟨_, rfl⟩
      rw [hm] at HW
      have HM := Lib.hid (show Value.int .u8 m' = .int .u8 (maskN (k + 1)) by rw [hm])
      clear hm
      go_wp2_with (go_at_call 93; refine HW.out.mono ?_; rintro e w' ⟨rfl, rfl⟩)
      go_roundw
      case rel => exact ⟨k + 1, by omega, by go_num, HM.out, by trivial⟩
      case measure => simp [intOf]; omega
    · obtain rfl : k = n := by omega
      go_wp2
      go_ret
      exact ⟨rfl, rfl⟩

end Go.Proofs.YtjgemfgneiaabaaGreat.Nu

namespace Go.Proofs.YtjgemfgneiaabaaGreat.Nu
open Go.RowKit Rq Gq
attribute [local go_sem] Oper.semAt_some
set_option linter.unusedVariables false
set_option linter.unusedSimpArgs false

section
variable {w0 w : World} {F : Hp} {s : Nat}
abbrev bu (b s : Nat) : Hp := pc b 5 [.int .u8 s]
theorem num_all (h : Sat w0 F w) : Calls Tryz.prog 92 #[.int .u8 s] w fun e w' => ∃ bx, e = .returned (.func (.func 110) #[] #[vp bx]) ∧ Sat w0 (bu bx s * F) w' := by
  have H := Lib.hid (show Sat w0 (bu w.heap.size s * F) (w.alloc (.cells #[.int .u8 s] 5)) from h.alloc _)
  clear h
  go_enter Tryz.func92, Tryz.ntmps92
  go_wp2
  go_ret
  exact ⟨_, rfl, H.out⟩
set_option maxRecDepth 100000 in
set_option maxHeartbeats 2000000 in
theorem num_all1 (n : Nat) (hn : 1 ≤ n) (hs : s < 256) (H : Nat → Hp) (S : Hp) (bx l : Nat)
    (hK : ∀ (k : Nat) W (F : Hp), k < 8 → hasB s k = false → Sat w0 (H k * F) W → Sat w0 (H (k + 1) * F) W)
    (hY : ∀ (k : Nat) W (F : Hp), k < 8 → hasB s k = true → Sat w0 (bu bx s * (H k * F)) W → YieldAt Fence.wide (n - 1) Tryz.prog l #[vi k] W fun e W' => (e = .returned (.bool true) ∧ Sat w0 (bu bx s * (H (k + 1) * F)) W') ∨ (e = .returned (.bool false) ∧ Sat w0 (S * F) W'))
    (h0 : Sat w0 (bu bx s * H 0) w) :
    CallsIn Fence.wide n Tryz.prog 110 #[.func (.yield l) #[] #[], vp bx] w fun e W' => (∃ v, e = .returned v) ∧ (Sat w0 (bu bx s * H 8) W' ∨ Sat w0 S W') := by
  have HY := Lib.hid hY
  have HK := Lib.hid hK
  have HS0 := Lib.hid h0
  clear hY hK h0
  refine callsIn_of_wp Tryz.func110 rfl trivial ?_ rfl
  simp only [Tryz.ntmps110, List.size_toArray, List.length_cons, List.length_nil, Nat.reduceAdd, Nat.reduceSub, Array.replicate_succ, Array.replicate_zero, List.push_toArray, List.append_toArray, List.nil_append, List.cons_append]
  gi_wp2
  gi_loopw [4] (fun i wr => ∃ k : Nat, k ≤ 8 ∧ i = vi k ∧ Sat w0 (bu bx s * H k) wr) (fun i _ => 8 - (intOf i).toNat)
  case atStart => exact ⟨0, by omega, rfl, HS0.out⟩
  case round =>
    obtain ⟨k, hk, rfl, hS⟩ := hrel
    clear HS0
    by_cases hlt : k < 8
    · have hki : (k : Int) < 8 := by omega
      have c0 := hS.cell 0 rfl
      have hh := num_has s hs (k : Int) wr
      obtain ⟨t, ht⟩ : ∃ t, hasB s (k : Int) = t := ⟨_, rfl⟩
      rw [ht] at hh
      have HH := Lib.hid hh
      clear hh
      cases t with
      | false =>
        have H9 := Lib.hid hS
        have HT := Lib.hid ht
        clear hS ht hlt
        gi_wp2_with (refine ⟨trivial, ?_⟩; gi_at_call 46; refine (callsIn_wide.2 HH.out).mono ?_; rintro e w' ⟨rfl, rfl⟩)
        refine ⟨fun _ h => (by cases h), ?_⟩
        gi_wp2
        go_roundw
        case rel => exact ⟨k + 1, by omega, by go_num, (HK.out k _ (bu bx s) (by omega) HT.out H9.out.swap).swap⟩
        case measure => simp [intOf]; omega
      | true =>
        have hR := HY.out k wr emp hlt ht (hS.cast (by rw [sep_emp]))
        obtain ⟨fn2, tmps2, assign2, body2, hy, hR⟩ := hR
        have HR2 := Lib.hid hR
        clear hR hS ht hlt
        gi_wp2_with (refine ⟨trivial, ?_⟩; gi_at_call 46; refine (callsIn_wide.2 HH.out).mono ?_; rintro e w' ⟨rfl, rfl⟩)
        refine HR2.out.mono ?_
        rintro e W3 (⟨rfl, hS3⟩ | ⟨rfl, hS3⟩)
        · have HT := Lib.hid (hS3.cast (show _ = bu bx s * H (k + 1) by rw [sep_emp]))
          clear hS3 HR2 hy
          gi_wp2
          go_roundw
          case rel => exact ⟨k + 1, by omega, by go_num, HT.out⟩
          case measure => simp [intOf]; omega
        · have HT := Lib.hid (hS3.cast (sep_emp S))
          clear hS3 HR2 hy
          gi_wp2
          refine bodyPost_ret (results_none rfl _ _ _) rfl ?_
          exact ⟨⟨_, rfl⟩, .inr HT.out⟩
    · obtain rfl : k = 8 := by omega
      have HT := Lib.hid hS
      clear hS
      gi_wp2
      go_end0
      exact ⟨⟨_, rfl⟩, .inl HT.out⟩
end
end Go.Proofs.YtjgemfgneiaabaaGreat.Nu
