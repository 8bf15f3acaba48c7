/-
  Package global: Take, Remove. No statement is proved here.
-/
import Derived.Test.YtjgemfgneiaabaaGq6
import Derived.Test.YtjgemfgneiaabaaMg9
namespace Go.Proofs.Ytjgemfgneiaabaa.Gq
open Go.RowKit Rq Gq
set_option linter.unusedVariables false

section
variable {w0 w : World} {F : Hp} {q : Nat} {xs : List Int}
theorem rm_clo {ba : Nat} {x g : Int} {w : World} (ha : w.cell? ⟨ba, 0, none⟩ = some (vi x)) :
    Calls Try.prog 65 #[vi g, vp ba] w fun e w' => e = .returned (.bool (g == x)) ∧ ∃ n, w' = w.drewN n := by
  go_enter Try.func65, Try.ntmps65
  go_wp2
  go_ret
  exact ⟨rfl, 0, rfl⟩
set_option maxRecDepth 100000 in
set_option maxHeartbeats 2000000 in
theorem g_take (h : Sat w0 (gQ q xs * F) w) (hl : xs.length ≤ 1000000) (p : Int) {v : Value} {af : List Nat} (hA : ∀ w', Sat w0 F w' → RdA w' v af) :
    Calls Try.prog 34 #[vp q, vi p, v] w fun e w' => e = .returned (.tuple #[vi ((xs.find? (mayG af p)).getD 0), .bool (xs.find? (mayG af p)).isSome]) ∧ Sat w0 (gQ q (xs.eraseP (mayG af p)) * F) w' := by
  obtain ⟨ao, cap, rfl⟩ := (hA w h.dropL).1.len
  have HM := Lib.hid (g_may h p (v := .slice ao af.length cap) rfl)
  have HA := Lib.hid hA
  clear h hA
  have HT : Hid (∀ (ba bp : Nat) (w1 : World), Sat w0 (pc ba 31 [.slice ao af.length cap] * (pc bp 3 [vi p] * (gQ q xs * F))) w1 → Calls Try.prog 64 #[vp q, .func (.func 77) #[] #[vp ba, vp bp]] w1 fun e w' => e = .returned (.tuple #[vi ((xs.find? (mayG af p)).getD 0), .bool (xs.find? (mayG af p)).isSome]) ∧ Sat w0 (gQ q (xs.eraseP (mayG af p)) * F) w') := Lib.hid fun ba bp w1 hS => by
    refine (g_cut_may (f := mayG af p) (B := (pc ba 31 [.slice ao af.length cap] * pc bp 3 [vi p]) * F) (F := emp) (hS.cast (by rw [sep_emp]; ac_rfl)) hl (fun g W G hG => ?_)).mono fun e w' hh => ⟨hh.1, (hh.2.cast (show _ = (pc ba 31 [.slice ao af.length cap] * (pc bp 3 [vi p] * (gQ q (xs.eraseP (mayG af p)) * F))) by rw [sep_emp]; ac_rfl)).dropL.dropL⟩
    have hG2 : Sat w0 (pc ba 31 [.slice ao af.length cap] * (pc bp 3 [vi p] * (F * G))) W := hG.cast (by ac_rfl)
    exact gclo_ (hG2.cell 0 rfl) (hG2.pull2.cell 0 rfl) (HA.out W (hG2.dropL.dropL.dropR))
  go_enter Try.func34, Try.ntmps34
  go_wp2_with (first
    | (go_at_call 67; refine HM.out.mono ?_; rintro e w1 ⟨ba, bp, rfl, hS⟩; have H1 := Lib.hid hS; clear hS)
    | (go_at_call 64; refine (HT.out _ _ _ H1.out).mono ?_; rintro e w2 ⟨rfl, hS2⟩; have H2 := Lib.hid hS2; clear hS2))
  go_ret2
  exact ⟨rfl, H2.out⟩
set_option maxRecDepth 100000 in
set_option maxHeartbeats 2000000 in
theorem g_remove (h : Sat w0 (gQ q xs * F) w) (hl : xs.length ≤ 1000000) (x : Int) :
    Calls Try.prog 31 #[vp q, vi x] w fun e w' => e = .returned (.bool (decide (x ∈ xs))) ∧ Sat w0 (gQ q (xs.erase x) * F) w' := by
  have hB : Sat w0 (pc w.heap.size 3 [vi x] * (gQ q xs * F)) (w.alloc (.cells #[vi x] 3)) := h.alloc _
  have HT := Lib.hid ((g_cut_rm (f := fun g => g == x) (B := pc w.heap.size 3 [vi x]) (F := F) (hB.cast (by ac_rfl)) hl (fun g W G hG => rm_clo (hG.cell 0 rfl))).mono fun e w' hh => (⟨hh.1, (hh.2.cast (show _ = pc w.heap.size 3 [vi x] * (gQ q (xs.eraseP (fun g => g == x)) * F) by ac_rfl)).dropL⟩ : e = .returned (.tuple #[vi ((xs.find? (fun g => g == x)).getD 0), .bool (xs.find? (fun g => g == x)).isSome]) ∧ Sat w0 (gQ q (xs.eraseP (fun g => g == x)) * F) w'))
  have he : xs.eraseP (fun g => g == x) = xs.erase x := by
    rw [List.erase_eq_eraseP']
  have hs : (xs.find? (fun g => g == x)).isSome = decide (x ∈ xs) := by
    rw [Bool.eq_iff_iff]
    simp [List.find?_isSome]
  rw [he] at HT
  rw [← hs]
  clear h hB he hs
  go_enter Try.func31, Try.ntmps31
  go_wp2_with (go_at_call 64; refine HT.out.mono ?_; rintro e w2 ⟨rfl, hS2⟩; have H2 := Lib.hid hS2; clear hS2)
  go_ret
  exact ⟨rfl, H2.out⟩
end
end Go.Proofs.Ytjgemfgneiaabaa.Gq

namespace Go.Proofs.Ytjgemfgneiaabaa.Pc
open Go.RowKit Rq Gq
set_option linter.unusedVariables false
set_option linter.unusedSimpArgs false

section
variable {w0 w : World} {F : Hp} {D : Ad} {p : Nat → Pl} {gx : List Int}
theorem max_dec (x : Int) (h : 0 ≤ x) : (if 0 < x then x - 1 else x) = max (x - 1) 0 := by
  rw [Int.max_def]
  split <;> split <;> omega
def spendV (x : Int) : Int := if 0 < x then x - 1 else x
end
end Go.Proofs.Ytjgemfgneiaabaa.Pc
