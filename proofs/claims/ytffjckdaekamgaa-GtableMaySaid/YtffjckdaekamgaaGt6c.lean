/-
  Chapter 16: the walk of GtableMay. No statement is proved here.
-/
import Derived.Test.YtffjckdaekamgaaGt6d
namespace Go.Proofs.Ytffjckdaekamgaa.Gt
open Go.RowKit Ag
set_option linter.unusedVariables false

section
variable {w0 w : World} {F : Hp} {h p : Nat}
set_option maxRecDepth 100000 in
set_option maxHeartbeats 4000000 in
theorem may_row3 (w0 : World) (x : El) (hx : 0 ≤ x.v18) (a b : Int) (hk0 : ¬ 0 ≤ a) : Calls Try.prog 3 #[ev x, vi a, vi b] w0 (TrueBelow w0) := by
  have HM : Hid (∀ (w1 : World) (G : Hp), Sat w0 G w1 → Calls Try.prog 6 #[ev x] w1 fun e w' => e = .returned (.bool (mayB x)) ∧ Sat w0 G w') := Lib.hid fun w1 G h1 => g_may h1 x
  have HRM : Hid (∀ (w1 : World) (G : Hp), Sat w0 G w1 → Calls Try.prog 7 #[ev x] w1 fun e w' => e = .returned (.bool (mayB x)) ∧ Sat w0 G w') := Lib.hid fun w1 G h1 => r_may h1 x hx
  have HT : Hid (∀ (w1 : World) (G : Hp), Sat w0 G w1 → Calls Try.prog 8 #[vi a, vi b] w1 fun e w' => e = .returned (.bool (turnB a b)) ∧ Sat w0 G w') := Lib.hid fun w1 G h1 => g_turns h1 a b
  have HRT : Hid (∀ (w1 : World), Calls Try.prog 9 #[vi a, vi b] w1 fun e w' => e = .returned (.bool (turnB a b)) ∧ w1 = w') := Lib.hid fun w1 => r_turns a b w1
  have HTaa : Hid (∀ (w1 : World) (G : Hp), Sat w0 G w1 → Calls Try.prog 8 #[vi a, vi a] w1 fun e w' => e = .returned (.bool false) ∧ Sat w0 G w') := Lib.hid fun w1 G h1 => turn_self a ▸ g_turns h1 a a
  have HTa0 : Hid (∀ (w1 : World) (G : Hp), Sat w0 G w1 → Calls Try.prog 8 #[vi a, vi 0] w1 fun e w' => e = .returned (.bool false) ∧ Sat w0 G w') := Lib.hid fun w1 G h1 => turn_idle a ▸ g_turns h1 a 0
  have HT0b : Hid (∀ (w1 : World) (G : Hp), Sat w0 G w1 → Calls Try.prog 8 #[vi 0, vi b] w1 fun e w' => e = .returned (.bool false) ∧ Sat w0 G w') := Lib.hid fun w1 G h1 => idle_turn b ▸ g_turns h1 0 b
  have HNm : Hid (∀ (w1 : World) (G : Hp), Sat w0 G w1 → Calls Try.prog 10 #[vi a] w1 fun e w' => e = .returned (.string (nameS a)) ∧ Sat w0 G w') := Lib.hid fun w1 G h1 => g_name h1 a
  have hB0 : Sat w0 (elB w0.heap.size x * emp) (w0.alloc (elO x)) := (Sat.start w0).alloc (elO x)
  have hB : Sat w0 (elB w0.heap.size x * emp) ((w0.alloc (elO x)).alloc (.cells #[.string ⟨#[105, 100, 108, 101]⟩, .string ⟨#[114, 117, 110, 110, 97, 98, 108, 101]⟩, .string ⟨#[114, 117, 110, 110, 105, 110, 103]⟩, .string ⟨#[112, 97, 114, 107, 101, 100]⟩, .string ⟨#[115, 108, 101, 101, 112, 105, 110, 103]⟩, .string ⟨#[115, 117, 115, 112, 101, 110, 100, 101, 100]⟩, .string ⟨#[116, 104, 114, 111, 116, 116, 108, 101, 100]⟩] 9)) := hB0.alloc' _
  have hcN : ∀ k : Nat, k < 7 → ((w0.alloc (elO x)).alloc (.cells #[.string ⟨#[105, 100, 108, 101]⟩, .string ⟨#[114, 117, 110, 110, 97, 98, 108, 101]⟩, .string ⟨#[114, 117, 110, 110, 105, 110, 103]⟩, .string ⟨#[112, 97, 114, 107, 101, 100]⟩, .string ⟨#[115, 108, 101, 101, 112, 105, 110, 103]⟩, .string ⟨#[115, 117, 115, 112, 101, 110, 100, 101, 100]⟩, .string ⟨#[116, 104, 114, 111, 116, 116, 108, 101, 100]⟩] 9)).cell? ⟨w0.heap.size + 1, k, none⟩ = some (.string (nameK k)) := fun k hk => by
    have hh := hB0.alloc (.cells #[.string ⟨#[105, 100, 108, 101]⟩, .string ⟨#[114, 117, 110, 110, 97, 98, 108, 101]⟩, .string ⟨#[114, 117, 110, 110, 105, 110, 103]⟩, .string ⟨#[112, 97, 114, 107, 101, 100]⟩, .string ⟨#[115, 108, 101, 101, 112, 105, 110, 103]⟩, .string ⟨#[115, 117, 115, 112, 101, 110, 100, 101, 100]⟩, .string ⟨#[116, 104, 114, 111, 116, 116, 108, 101, 100]⟩] 9)
    rw [size1] at hh
    have hh : Sat w0 (pc (w0.heap.size + 1) 9 [.string ⟨#[105, 100, 108, 101]⟩, .string ⟨#[114, 117, 110, 110, 97, 98, 108, 101]⟩, .string ⟨#[114, 117, 110, 110, 105, 110, 103]⟩, .string ⟨#[112, 97, 114, 107, 101, 100]⟩, .string ⟨#[115, 108, 101, 101, 112, 105, 110, 103]⟩, .string ⟨#[115, 117, 115, 112, 101, 110, 100, 101, 100]⟩, .string ⟨#[116, 104, 114, 111, 116, 116, 108, 101, 100]⟩] * (elB w0.heap.size x * emp)) _ := hh
    refine hh.cell k ?_
    have hk : k = 0 ∨ k = 1 ∨ k = 2 ∨ k = 3 ∨ k = 4 ∨ k = 5 ∨ k = 6 := by omega
    rcases hk with rfl | rfl | rfl | rfl | rfl | rfl | rfl <;> rfl
  have HB := Lib.hid hB
  have HcN := Lib.hid hcN
  clear hB hB0 hcN hx
  have hmm : (mayB x != mayB x) = false := by simp
  have htt : (turnB a b != turnB a b) = false := by simp
  generalize mayB x = m at *
  generalize turnB a b = t at *
  have hnn : (nameS a != nameS a) = false := by
    cases nameS a with | mk d => show (!(d == d)) = false; simp
  have hn : nameS a = ⟨#[63]⟩ := by
    unfold nameS
    rw [if_pos (by omega)]; rfl
  rw [hn] at HNm hnn
  clear HcN hn
  go_enter Try.func3, Try.ntmps3
  go_wp2
  generalize hwb : (w0.alloc (elO x)).alloc (.cells #[.string ⟨#[105, 100, 108, 101]⟩, .string ⟨#[114, 117, 110, 110, 97, 98, 108, 101]⟩, .string ⟨#[114, 117, 110, 110, 105, 110, 103]⟩, .string ⟨#[112, 97, 114, 107, 101, 100]⟩, .string ⟨#[115, 108, 101, 101, 112, 105, 110, 103]⟩, .string ⟨#[115, 117, 115, 112, 101, 110, 100, 101, 100]⟩, .string ⟨#[116, 104, 114, 111, 116, 116, 108, 101, 100]⟩] 9) = wb at *
  generalize w0.heap.size = bx at *
  clear hwb
  have hS0 : (fun w' => w'.rangeAt bx 0 (elC x)) wb.drew := range_ HB.out.drew
  refine wp_region_held (S := fun w' => w'.rangeAt bx 0 (elC x)) (by kernel_rfl) ?_
  change wpAnyH _ _ _ _ _ _ _ _ (World.drew _)
  refine wpAnyH_take (i := 0) rfl (by kernel_rfl) (by kernel_rfl) (by kernel_rfl) (fun _ _ _ h => h) (yieldsIf_load_mid (by rfl) 29 _ rfl bx 0 (by rfl) (elC x) _ (fun w' hw' => hw') Try.underlying29 rfl einfo) hS0 ?_
  simp only [Act.put, List.setIfInBounds_toArray, List.set_cons_zero, List.set_cons_succ]
  refine wpAnyH_take (i := 2) rfl (by kernel_rfl) (by kernel_rfl) (by kernel_rfl) (fun _ _ _ h => h) (yieldsIf_load_mid (by rfl) 29 _ rfl bx 0 (by rfl) (elC x) _ (fun w' hw' => hw') Try.underlying29 rfl einfo) hS0 ?_
  simp only [Act.put, List.setIfInBounds_toArray, List.set_cons_zero, List.set_cons_succ]
  refine wpAnyH_ready (rs := [1]) (by kernel_rfl) (by simp) ?_
  refine AllReadyH.cons rfl (fun K1 hK1 => ?_) AllReadyH.nil
  go_simp
  refine (HM.out _ _ HB.out.drew).mono ?_
  rintro e u1 ⟨rfl, hU1⟩
  have HU1 := Lib.hid hU1
  have hS1 : (fun w' => w'.rangeAt bx 0 (elC x)) u1 := range_ hU1
  clear hU1
  refine hK1.out _ _ hS1 (fun _ => ?_)
  try simp only [Act.put, List.setIfInBounds_toArray, List.set_cons_zero, List.set_cons_succ]
  refine wpAnyH_ready (rs := [3]) (by kernel_rfl) (by simp) ?_
  refine AllReadyH.cons rfl (fun K2 hK2 => ?_) AllReadyH.nil
  go_simp
  refine (HRM.out _ _ HU1.out).mono ?_
  rintro e u2 ⟨rfl, hU2⟩
  have HU2 := Lib.hid hU2
  have hS2 : (fun w' => w'.rangeAt bx 0 (elC x)) u2 := range_ hU2
  clear hU2
  refine hK2.out _ _ hS2 (fun _ => ?_)
  try simp only [Act.put, List.setIfInBounds_toArray, List.set_cons_zero, List.set_cons_succ]
  refine wpAnyH_take (i := 4) (v := (.bool false)) rfl (by kernel_rfl) (by kernel_rfl) (by kernel_rfl) (fun _ _ _ h => h) (Or.inl ⟨by rfl, fun w' hw' => by go_simp⟩) hS2 ?_
  simp only [Act.put, List.setIfInBounds_toArray, List.set_cons_zero, List.set_cons_succ]
  refine wpAnyH_take (i := 5) (v := (.bool false)) rfl (by kernel_rfl) (by kernel_rfl) (by kernel_rfl) (fun _ _ _ h => h) (Or.inl ⟨by rfl, fun w' hw' => by go_simp⟩) hS2 ?_
  simp only [Act.put, List.setIfInBounds_toArray, List.set_cons_zero, List.set_cons_succ]
  refine wpAnyH_take (i := 6) (v := (vi a)) rfl (by kernel_rfl) (by kernel_rfl) (by kernel_rfl) (fun _ _ _ h => h) (Or.inl ⟨by rfl, fun w' hw' => by go_simp⟩) hS2 ?_
  simp only [Act.put, List.setIfInBounds_toArray, List.set_cons_zero, List.set_cons_succ]
  refine wpAnyH_take (i := 7) (v := (vi b)) rfl (by kernel_rfl) (by kernel_rfl) (by kernel_rfl) (fun _ _ _ h => h) (Or.inl ⟨by rfl, fun w' hw' => by go_simp⟩) hS2 ?_
  simp only [Act.put, List.setIfInBounds_toArray, List.set_cons_zero, List.set_cons_succ]
  refine wpAnyH_take (i := 9) (v := (vi a)) rfl (by kernel_rfl) (by kernel_rfl) (by kernel_rfl) (fun _ _ _ h => h) (Or.inl ⟨by rfl, fun w' hw' => by go_simp⟩) hS2 ?_
  simp only [Act.put, List.setIfInBounds_toArray, List.set_cons_zero, List.set_cons_succ]
  refine wpAnyH_take (i := 10) (v := (vi b)) rfl (by kernel_rfl) (by kernel_rfl) (by kernel_rfl) (fun _ _ _ h => h) (Or.inl ⟨by rfl, fun w' hw' => by go_simp⟩) hS2 ?_
  simp only [Act.put, List.setIfInBounds_toArray, List.set_cons_zero, List.set_cons_succ]
  refine wpAnyH_ready (rs := [8]) (by kernel_rfl) (by simp) ?_
  refine AllReadyH.cons rfl (fun K3 hK3 => ?_) AllReadyH.nil
  go_simp
  refine (HT.out _ _ HU2.out).mono ?_
  rintro e u3 ⟨rfl, hU3⟩
  have HU3 := Lib.hid hU3
  have hS3 : (fun w' => w'.rangeAt bx 0 (elC x)) u3 := range_ hU3
  clear hU3
  refine hK3.out _ _ hS3 (fun _ => ?_)
  try simp only [Act.put, List.setIfInBounds_toArray, List.set_cons_zero, List.set_cons_succ]
  refine wpAnyH_ready (rs := [11]) (by kernel_rfl) (by simp) ?_
  refine AllReadyH.cons rfl (fun K4 hK4 => ?_) AllReadyH.nil
  go_simp
  refine (HRT.out _).mono ?_
  rintro e w' ⟨rfl, rfl⟩
  refine hK4.out _ _ hS3 (fun _ => ?_)
  try simp only [Act.put, List.setIfInBounds_toArray, List.set_cons_zero, List.set_cons_succ]
  refine wpAnyH_take (i := 12) (v := (.bool false)) rfl (by kernel_rfl) (by kernel_rfl) (by kernel_rfl) (fun _ _ _ h => h) (Or.inl ⟨by rfl, fun w' hw' => by go_simp⟩) hS3 ?_
  simp only [Act.put, List.setIfInBounds_toArray, List.set_cons_zero, List.set_cons_succ]
  refine wpAnyH_take (i := 13) (v := (.bool false)) rfl (by kernel_rfl) (by kernel_rfl) (by kernel_rfl) (fun _ _ _ h => h) (Or.inl ⟨by rfl, fun w' hw' => by go_simp⟩) hS3 ?_
  simp only [Act.put, List.setIfInBounds_toArray, List.set_cons_zero, List.set_cons_succ]
  refine wpAnyH_take (i := 14) (v := (.bool false)) rfl (by kernel_rfl) (by kernel_rfl) (by kernel_rfl) (fun _ _ _ h => h) (Or.inl ⟨by rfl, fun w' hw' => by go_simp⟩) hS3 ?_
  simp only [Act.put, List.setIfInBounds_toArray, List.set_cons_zero, List.set_cons_succ]
  refine wpAnyH_take (i := 15) (v := (vi a)) rfl (by kernel_rfl) (by kernel_rfl) (by kernel_rfl) (fun _ _ _ h => h) (Or.inl ⟨by rfl, fun w' hw' => by go_simp⟩) hS3 ?_
  simp only [Act.put, List.setIfInBounds_toArray, List.set_cons_zero, List.set_cons_succ]
  refine wpAnyH_take (i := 17) (v := (.string (⟨#[63]⟩))) rfl (by kernel_rfl) (by kernel_rfl) (by kernel_rfl) (fun _ _ _ h => h) (Or.inl ⟨by rfl, fun w' hw' => by go_simp⟩) hS3 ?_
  simp only [Act.put, List.setIfInBounds_toArray, List.set_cons_zero, List.set_cons_succ]
  refine wpAnyH_ready (rs := [16]) (by kernel_rfl) (by simp) ?_
  refine AllReadyH.cons rfl (fun K5 hK5 => ?_) AllReadyH.nil
  go_simp
  refine (HNm.out _ _ HU3.out).mono ?_
  rintro e u4 ⟨rfl, hU4⟩
  have HU4 := Lib.hid hU4
  have hS4 : (fun w' => w'.rangeAt bx 0 (elC x)) u4 := range_ hU4
  clear hU4
  refine hK5.out _ _ hS4 (fun _ => ?_)
  try simp only [Act.put, List.setIfInBounds_toArray, List.set_cons_zero, List.set_cons_succ]
  refine wpAnyH_take (i := 18) (v := (.bool false)) rfl (by kernel_rfl) (by kernel_rfl) (by kernel_rfl) (fun _ _ _ h => h) (Or.inl ⟨by rfl, fun w' hw' => by go_simp⟩) hS4 ?_
  simp only [Act.put, List.setIfInBounds_toArray, List.set_cons_zero, List.set_cons_succ]
  refine wpAnyH_take (i := 19) (v := (.bool false)) rfl (by kernel_rfl) (by kernel_rfl) (by kernel_rfl) (fun _ _ _ h => h) (Or.inl ⟨by rfl, fun w' hw' => by go_simp⟩) hS4 ?_
  simp only [Act.put, List.setIfInBounds_toArray, List.set_cons_zero, List.set_cons_succ]
  refine wpAnyH_done (by kernel_rfl) ?_ _
  clear hS0 hS1 hS2 hS3 hS4 hK1 hK2 hK3 hK4 hK5
  go_wp2_with (first
  | (go_at_call 8; (with_reducible refine (HT0b.out _ _ HV2.out).mono ?_); rintro e v3 ⟨rfl, hV⟩; have HV3 := Lib.hid hV; clear hV)
  | (go_at_call 8; (with_reducible refine (HTa0.out _ _ HV1.out).mono ?_); rintro e v2 ⟨rfl, hV⟩; have HV2 := Lib.hid hV; clear hV)
  | (go_at_call 8; (with_reducible refine (HTaa.out _ _ HU4.out).mono ?_); rintro e v1 ⟨rfl, hV⟩; have HV1 := Lib.hid hV; clear hV)
  | (go_at_call 11; refine (known16 HV3.out).mono ?_; rintro e v4 ⟨rfl, hV⟩; have HV4 := Lib.hid hV; clear hV))
  go_ret
  exact ⟨rfl, HV4.out.below⟩
end
end Go.Proofs.Ytffjckdaekamgaa.Gt
