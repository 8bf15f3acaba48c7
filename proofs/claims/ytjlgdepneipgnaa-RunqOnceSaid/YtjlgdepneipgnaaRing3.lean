/-
  Contracts of package ring, third part: Has, Take, Copy, Same, Remove. No statement is proved here.
-/
import Derived.Test.YtjlgdepneipgnaaRs
namespace Go.Proofs.Ytjlgdepneipgnaa
open Go.RowKit
set_option linter.unusedVariables false

theorem Sat.ringLen {w0 w : World} {p most : Nat} {xs : List Int} {F : Hp} (h : Sat w0 (ringP p most xs * F) w) : xs.length ≤ most ∧ most ≤ 4096 ∧ 0 < most := by
  obtain ⟨s, R⟩ := h.ring
  exact ⟨R.ok.n, R.ok.small, R.ok.pos⟩

/-! ### Has -/
theorem ring_has {w0 w : World} {p most : Nat} {xs : List Int} {F : Hp} (h : Sat w0 (ringP p most xs * F) w) (x : Int) :
    Calls Try.prog 62 #[vp p, vi x] w fun e w' => e = .returned (.bool (decide (x ∈ xs))) ∧ Sat w0 (ringP p most xs * F) w' := by
  have hl := h.ringLen
  have hall := Lib.hid (ring_all h)
  go_enter Try.func62, Try.ntmps62
  go_wp2_with (first | (go_at_call 59; refine hall.out.mono ?_; rintro e w1 ⟨v, rfl, hS1⟩) | (go_at_call 96; refine (slices_contains x xs v w1 hS1.rdI (by omega)).mono ?_; rintro e w2 ⟨rfl, rfl⟩))
  go_ret
  exact ⟨rfl, hS1.dropL⟩

/-! ### Take -/
theorem Sat.slPre {w0 w : World} {F : Hp} {e : TypeId} {g cap n k : Nat} {xs : List Value} (h : Sat w0 (sl e 1 (.slice (some ⟨g, 0, none⟩) n cap) n xs * F) w) (hk : k ≤ n) : Sat w0 (sl e 1 (.slice (some ⟨g, 0, none⟩) k k) k (xs.take k) * F) w := by
  obtain ⟨cur, h1, h2, h3, h4, hS⟩ := h.slP
  refine hS.slI (Nat.le_refl _) (by omega) (by omega) ?_
  rw [← h4, List.take_take]
  congr 1
  omega

theorem Sat.capOk {w0 w : World} {F : Hp} {e : TypeId} {size : Nat} {ao : Option Addr} {n cap : Nat} {xs : List Value} (h : Sat w0 (sl e size (.slice ao n cap) n xs * F) w) : n ≤ cap ∧ cap ≤ maxLen := by
  rcases h.slE.2 with ⟨hv, h0, _⟩ | ⟨g, c, cur, hv, h1, h2, _⟩
  · cases hv
    exact ⟨Nat.le_refl _, Nat.zero_le _⟩
  · cases hv
    exact ⟨h1, h2⟩
theorem Sat.slPre' {w0 w : World} {F : Hp} {e : TypeId} {ao : Option Addr} {cap n k : Nat} {xs : List Value} (h : Sat w0 (sl e 1 (.slice ao n cap) n xs * F) w) (hk : k ≤ n) : Sat w0 (sl e 1 (.slice ao k k) k (xs.take k) * F) w := by
  rcases h.slE.2 with ⟨hv, h0, hS⟩ | ⟨g, c, cur, hv, h1, h2, _⟩
  · cases hv
    obtain rfl : k = 0 := by omega
    simpa using hS.addNil e 1
  · cases hv
    exact h.slPre hk

set_option maxHeartbeats 800000 in
theorem ring_take_0 {w0 w : World} {p most : Nat} {xs : List Int} {F : Hp} (h : Sat w0 (ringP p most xs * F) w) (n : Int) (hn : n < 0) :
    Calls Try.prog 65 #[vp p, vi n] w fun e w' => ∃ v, e = .returned v ∧ Sat w0 (sl 3 1 v 0 ((xs.take 0).map vi) * (ringP p most (xs.drop 0) * F)) w' := by
  have hl := h.ringLen
  have hall := Lib.hid (ring_all h)
  go_enter Try.func65, Try.ntmps65
  go_wp2_with (first | (go_at_call 59; refine hall.out.mono ?_; rintro e w1 ⟨v, rfl, hS1⟩; obtain ⟨ao, cap, rfl⟩ := hS1.rdI.len))
  go_loopw [14] (fun i wr => ∃ j : Nat, j ≤ 0 ∧ i = vi j ∧ Sat w0 (sl 3 1 (.slice ao xs.length cap) xs.length (xs.map vi) * (ringP p most (xs.drop j) * F)) wr) (fun i _ => 0 - (intOf i).toNat)
  case atStart => exact ⟨0, Nat.zero_le _, rfl, hS1⟩
  case round =>
    obtain ⟨j, hj, rfl, hS⟩ := hrel
    clear hS1
    by_cases hlt : j < 0
    · exact absurd hlt (by omega)
    · obtain rfl : 0 = j := by omega
      have hfin := hS.slPre' (k := 0) (by omega)
      have HF := Lib.hid hfin
      have hcap := hS.capOk
      clear hfin hS
      go_wp2
      go_ret
      exact ⟨_, rfl, by rw [List.map_take]; exact HF.out⟩

set_option maxHeartbeats 800000 in
theorem ring_take_n {w0 w : World} {p most : Nat} {xs : List Int} {F : Hp} (h : Sat w0 (ringP p most xs * F) w) (n : Nat) (hn : n < xs.length) :
    Calls Try.prog 65 #[vp p, vi n] w fun e w' => ∃ v, e = .returned v ∧ Sat w0 (sl 3 1 v n ((xs.take n).map vi) * (ringP p most (xs.drop n) * F)) w' := by
  have hl := h.ringLen
  have hall := Lib.hid (ring_all h)
  have h0 : ¬ ((n : Int) < 0) := by omega
  have h1 : (n : Int) ≤ (xs.length : Int) := by omega
  go_enter Try.func65, Try.ntmps65
  go_wp2_with (first | (go_at_call 59; refine hall.out.mono ?_; rintro e w1 ⟨v, rfl, hS1⟩; obtain ⟨ao, cap, rfl⟩ := hS1.rdI.len))
  go_loopw [14] (fun i wr => ∃ j : Nat, j ≤ n ∧ i = vi j ∧ Sat w0 (sl 3 1 (.slice ao xs.length cap) xs.length (xs.map vi) * (ringP p most (xs.drop j) * F)) wr) (fun i _ => n - (intOf i).toNat)
  case atStart => exact ⟨0, Nat.zero_le _, rfl, hS1⟩
  case round =>
    obtain ⟨j, hj, rfl, hS⟩ := hrel
    clear hS1
    by_cases hlt : j < n
    · go_wp2_with (go_at_call 66; refine (ring_pop hS.pull2).mono ?_; rintro e w2 ⟨rfl, hS2⟩)
      go_roundw
      case rel => exact ⟨j + 1, by omega, by go_num, by rw [List.tail_drop] at hS2; exact hS2.pull2⟩
      case measure => simp [intOf]; omega
    · obtain rfl : n = j := by omega
      have hfin := hS.slPre' (k := n) (by omega)
      have HF := Lib.hid hfin
      have hcap := hS.capOk
      clear hfin hS
      go_wp2
      go_ret
      exact ⟨_, rfl, by rw [List.map_take]; exact HF.out⟩

set_option maxHeartbeats 800000 in
theorem ring_take_l {w0 w : World} {p most : Nat} {xs : List Int} {F : Hp} (h : Sat w0 (ringP p most xs * F) w) (n : Nat) (hn : xs.length ≤ n) :
    Calls Try.prog 65 #[vp p, vi n] w fun e w' => ∃ v, e = .returned v ∧ Sat w0 (sl 3 1 v xs.length ((xs.take xs.length).map vi) * (ringP p most (xs.drop xs.length) * F)) w' := by
  have hl := h.ringLen
  have hall := Lib.hid (ring_all h)
  have h0 : ¬ ((n : Int) < 0) := by omega
  by_cases he : n = xs.length
  · subst he
    go_enter Try.func65, Try.ntmps65
    go_wp2_with (first | (go_at_call 59; refine hall.out.mono ?_; rintro e w1 ⟨v, rfl, hS1⟩; obtain ⟨ao, cap, rfl⟩ := hS1.rdI.len))
    go_loopw [14] (fun i wr => ∃ j : Nat, j ≤ xs.length ∧ i = vi j ∧ Sat w0 (sl 3 1 (.slice ao xs.length cap) xs.length (xs.map vi) * (ringP p most (xs.drop j) * F)) wr) (fun i _ => xs.length - (intOf i).toNat)
    case atStart => exact ⟨0, Nat.zero_le _, rfl, hS1⟩
    case round =>
      obtain ⟨j, hj, rfl, hS⟩ := hrel
      clear hS1
      by_cases hlt : j < xs.length
      · go_wp2_with (go_at_call 66; refine (ring_pop hS.pull2).mono ?_; rintro e w2 ⟨rfl, hS2⟩)
        go_roundw
        case rel => exact ⟨j + 1, by omega, by go_num, by rw [List.tail_drop] at hS2; exact hS2.pull2⟩
        case measure => simp [intOf]; omega
      · obtain rfl : xs.length = j := by omega
        have hfin := hS.slPre' (k := xs.length) (by omega)
        have HF := Lib.hid hfin
        have hcap := hS.capOk
        clear hfin hS
        go_wp2
        go_ret
        exact ⟨_, rfl, by rw [List.map_take]; exact HF.out⟩
  · have h1 : ¬ ((n : Int) ≤ (xs.length : Int)) := by omega
    go_enter Try.func65, Try.ntmps65
    go_wp2_with (first | (go_at_call 59; refine hall.out.mono ?_; rintro e w1 ⟨v, rfl, hS1⟩; obtain ⟨ao, cap, rfl⟩ := hS1.rdI.len))
    go_loopw [14] (fun i wr => ∃ j : Nat, j ≤ xs.length ∧ i = vi j ∧ Sat w0 (sl 3 1 (.slice ao xs.length cap) xs.length (xs.map vi) * (ringP p most (xs.drop j) * F)) wr) (fun i _ => xs.length - (intOf i).toNat)
    case atStart => exact ⟨0, Nat.zero_le _, rfl, hS1⟩
    case round =>
      obtain ⟨j, hj, rfl, hS⟩ := hrel
      clear hS1
      by_cases hlt : j < xs.length
      · go_wp2_with (go_at_call 66; refine (ring_pop hS.pull2).mono ?_; rintro e w2 ⟨rfl, hS2⟩)
        go_roundw
        case rel => exact ⟨j + 1, by omega, by go_num, by rw [List.tail_drop] at hS2; exact hS2.pull2⟩
        case measure => simp [intOf]; omega
      · obtain rfl : xs.length = j := by omega
        have hfin := hS.slPre' (k := xs.length) (by omega)
        have HF := Lib.hid hfin
        have hcap := hS.capOk
        clear hfin hS
        go_wp2
        go_ret
        exact ⟨_, rfl, by rw [List.map_take]; exact HF.out⟩

theorem ring_take {w0 w : World} {p most : Nat} {xs : List Int} {F : Hp} (h : Sat w0 (ringP p most xs * F) w) (n : Int) :
    Calls Try.prog 65 #[vp p, vi n] w fun e w' => ∃ v, e = .returned v ∧ Sat w0 (sl 3 1 v (takeK n xs) ((xs.take (takeK n xs)).map vi) * (ringP p most (xs.drop (takeK n xs)) * F)) w' := by
  unfold takeK
  by_cases h0 : n < 0
  · rw [show min n.toNat xs.length = 0 by omega]
    exact ring_take_0 h n h0
  · obtain ⟨m, rfl⟩ := Int.eq_ofNat_of_zero_le (show 0 ≤ n by omega)
    by_cases h1 : m < xs.length
    · rw [show min ((m : Int)).toNat xs.length = m by omega]
      exact ring_take_n h m h1
    · rw [show min ((m : Int)).toNat xs.length = xs.length by omega]
      exact ring_take_l h m (by omega)

/-! ### slices.Clone -/
set_option maxRecDepth 100000 in
theorem slices_clone {w0 w : World} {F : Hp} {v : Value} {xs : List Int} (h : Sat w0 F w) (hR : ∀ w', Sat w0 F w' → RdI w' v xs) (hl : xs.length ≤ 1000000) (hx : 0 < xs.length) :
    Calls Try.prog 102 #[v] w fun e w' => ∃ g cap, e = .returned (.slice (some ⟨g, 0, none⟩) xs.length cap) ∧ Sat w0 (sl 3 1 (.slice (some ⟨g, 0, none⟩) xs.length cap) xs.length (xs.map vi) * F) w' := by
  obtain ⟨ao, cap, rfl⟩ := (hR w h).len
  obtain ⟨b, off, rfl, _⟩ := (hR w h).at_ (by omega)
  have hone := Lib.hid (oneI xs)
  have HR := Lib.hid hR
  have H := Lib.hid h
  clear hR h
  have hn := @Lib.run_eql_slice_nil Try.prog
  go_enter Try.func102, Try.ntmps102
  go_wp2_with (at_builtin; refine wpList_append_sl Einti rfl (.tmp 5) (.tmp 6) rfl (by rfl) (H.out.sl0 3 1) (by rfl) (HR.out _ (H.out.alloc' _)) hone.out (by unfold maxLen; omega) (by omega) ?_; intro ao1 cap1 w1 hS1; simp only [Nat.zero_add, List.nil_append] at hS1)
  go_ret
  rcases hS1.slE.2 with ⟨_, h0, _⟩ | ⟨g, c, cur, hv, _⟩
  · omega
  · cases hv
    exact ⟨g, cap1, by simp, hS1⟩

/-! ### Copy -/
set_option maxRecDepth 100000 in
set_option maxHeartbeats 800000 in
theorem ring_copy {w0 w : World} {p most : Nat} {xs : List Int} {F : Hp} (h : Sat w0 (ringP p most xs * F) w) :
    Calls Try.prog 78 #[vp p] w fun e w' => ∃ q, e = .returned (vp q) ∧ Sat w0 (ringP q most xs * (ringP p most xs * F)) w' := by
  obtain ⟨s, R⟩ := h.ring
  have hpos := R.ok.pos
  have hsmall := R.ok.small
  have c0 := R.c0
  have c1 := R.c1
  have c2 := R.c2
  have hlen := R.ok.len
  have hR : ∀ w', Sat w0 (ringB p s most xs.length * (ringA s most * F)) w' → RdI w' (.slice (some ⟨s.a, 0, none⟩) most s.cap) s.arr := fun w' h' => by
    have := h'.pull2.rd
    rw [RdI, hlen]
    exact this
  have hclone : ∀ w', Sat w0 (ringB p s most xs.length * (ringA s most * F)) w' → Calls Try.prog 102 #[.slice (some ⟨s.a, 0, none⟩) most s.cap] w' fun e w' => ∃ g cap, e = .returned (.slice (some ⟨g, 0, none⟩) most cap) ∧ Sat w0 (sl 3 1 (.slice (some ⟨g, 0, none⟩) most cap) most (s.arr.map vi) * (ringB p s most xs.length * (ringA s most * F))) w' := fun w' h' => by
    have := slices_clone h' hR (by omega) (by omega)
    rw [hlen] at this
    exact this
  have hfin : ∀ (g cap : Nat) (w1 : World), Sat w0 (sl 3 1 (.slice (some ⟨g, 0, none⟩) most cap) most (s.arr.map vi) * (ringB p s most xs.length * (ringA s most * F))) w1 →
      Sat w0 (ringP w1.heap.size most xs * (ringP p most xs * F)) (w1.alloc (.cells #[.slice (some ⟨g, 0, none⟩) most cap, vi s.f, vi xs.length] 137)) := by
    intro g cap w1 h1
    have h2 := (Sat.ringI s R.ok h1.rot3).alloc (.cells #[.slice (some ⟨g, 0, none⟩) most cap, vi s.f, vi xs.length] 137)
    exact (Sat.ringI (F := ringP p most xs * F) ⟨g, cap, s.arr, s.f⟩ ⟨R.ok.pos, R.ok.small, R.ok.len, R.ok.f, R.ok.n, R.ok.at_⟩ h2.sw23)
  have hNone := Lib.hid (ring_none R)
  have HC := Lib.hid hclone
  have HF := Lib.hid hfin
  have HS := Lib.hid R.sat
  generalize hf : s.f = f at c1
  have hf' := Lib.hid hf
  clear hclone hfin hR hlen R h hf
  go_enter Try.func78, Try.ntmps78
  go_wp2_with (go_at_call 94; refine hNone.out.mono ?_; rintro e w' ⟨rfl, rfl⟩)
  go_region_held3 (fun w' => w'.cell? ⟨p, 0, none⟩ = some (.slice (some ⟨s.a, 0, none⟩) most s.cap) ∧ w'.cell? ⟨p, 1, none⟩ = some (vi f) ∧ w'.cell? ⟨p, 2, none⟩ = some (vi xs.length))
    (first | (exact ⟨hB1.cell 0 rfl, by rw [← hf'.out]; exact hB1.cell 1 rfl, hB1.cell 2 rfl⟩) | go_keep)
    ((go_at_call 102; refine (HC.out _ (HS.out.drewN 1)).mono ?_; rintro e w1 ⟨g, cap, rfl, hS1⟩; have hB1 := hS1.pull2))
  go_wp2
  go_ret
  refine ⟨w1.heap.size, rfl, ?_⟩
  have := HF.out g cap w1 hS1
  rw [hf'.out] at this
  exact this
end Go.Proofs.Ytjlgdepneipgnaa
