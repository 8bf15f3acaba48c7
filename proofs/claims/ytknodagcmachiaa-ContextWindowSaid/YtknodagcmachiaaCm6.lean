/-
  Chapter 08: the chapter's row is so. No statement is proved here.
-/
import Derived.Test.YtknodagcmachiaaCm5
namespace Go.Proofs.Ytknodagcmachiaa.Cn
open Go.RowKit Ac Fi
set_option linter.unusedVariables false
set_option linter.unusedSimpArgs false

def kc0 : List CP := newC 2
def kf0 : List Nat := newF 2 2
def kc1 : List CP := mkL kc0 kf0 5 10 0
def kf1 : List Nat := mkF kf0 5 10 0
def kc2 : List CP := spL kc1 kf1 0 1 2 1
def kf2 : List Nat := spF kc1 kf1 0 1 2 1
theorem kI0 : Inv 2 4 0 kc0 kf0 0 := Inv.new 2 ⟨by omega, by omega⟩ 4 ⟨by omega, by omega⟩
theorem kI1 : Inv 2 4 1 kc1 kf1 0 := kI0.mk_ 5 10 0 (by omega)
theorem kI2 : Inv 2 4 3 kc2 kf2 0 := kI1.sp 2 1 (by omega) (by omega)
theorem k1 : mkI kf0 5 10 0 = 0 ∧ mkG kc0 kf0 5 10 0 = 1 ∧ mkE kf0 5 10 0 = 0 := by decide
theorem k2 : spI kc1 kf1 0 1 2 1 = 1 ∧ spG kc1 kf1 0 1 2 1 = 1 ∧ spE kc1 kf1 0 1 2 1 = 0 := by decide
theorem k3 : gC kc2 0 1 = ⟨3, 10, [⟨3, 0⟩], 0⟩ ∧ eC kc2 0 1 = 0 := by exact ⟨rfl, rfl⟩
theorem k4 : gC kc2 1 1 = ⟨2, 10, [⟨2, 1⟩], 0⟩ ∧ eC kc2 1 1 = 0 := by exact ⟨rfl, rfl⟩
theorem lit1 (w : World) (a b : Int) (hok : OkL [⟨a, b⟩]) : RdF (w.alloc (.cells #[vu a, vu b] 61)) (.slice (some ⟨w.heap.size, 0, none⟩) 1 1) [⟨a, b⟩] := by
  refine ⟨⟨rfl, .inr ⟨_, _, _, rfl, fun j u hj => ?_⟩⟩, hok⟩
  rcases j with _ | _ | j
  · cases hj
    simp
  · cases hj
    simp
  · simp [rflat, Rf.cells] at hj
theorem lit1' (w : World) (a b : Int) (hok : OkL [⟨a, b⟩]) {g : Nat} (hg : g = w.heap.size) : RdF (w.alloc (.cells #[vu a, vu b] 61)) (.slice (some ⟨g, 0, none⟩) 1 1) [⟨a, b⟩] := by
  subst hg
  exact lit1 w a b hok
theorem kOk3 : OkL [⟨3, 0⟩] := ok1 3 0 ⟨by omega, by omega⟩ ⟨by omega, by omega⟩
theorem kOk2 : OkL [⟨2, 1⟩] := ok1 2 1 ⟨by omega, by omega⟩ ⟨by omega, by omega⟩
section
variable {w0 w : World} {F : Hp} {h : Nat}
abbrev K2 (h : Nat) (F : Hp) : Hp := cxP h 4 kc2 kf2 * F
theorem k_new (w : World) : Calls Try.prog 10 #[vi 2, vi 4] w fun e w' => ∃ h, e = .returned (.tuple #[vp h, vi 0]) ∧ Sat w (cxP h 4 kc0 kf0 * emp) w' :=
  p_new 2 ⟨by omega, by omega⟩ ⟨by omega, by omega⟩ (Sat.start w)
theorem k_make (hS : Sat w0 (cxP h 4 kc0 kf0 * F) w) : Calls Try.prog 11 #[vp h, vu 5, vu 10, vu 0] w fun e w' => e = .returned (.tuple #[vr 0 1, vi 0]) ∧ Sat w0 (cxP h 4 kc1 kf1 * F) w' := by
  have := p_make kI0 hS 5 10 0 (by omega)
  rw [k1.1, k1.2.1, k1.2.2] at this
  exact this
theorem k_split (hS : Sat w0 (cxP h 4 kc1 kf1 * F) w) : Calls Try.prog 14 #[vp h, vr 0 1, vu 2, vu 1] w fun e w' => e = .returned (.tuple #[vr 1 1, vi 0]) ∧ Sat w0 (cxP h 4 kc2 kf2 * F) w' := by
  have := p_split kI1 hS 0 1 2 1 ⟨by omega, by omega⟩ ⟨by omega, by omega⟩
  rw [k2.1, k2.2.1, k2.2.2] at this
  exact this
theorem k_get0 (hS : Sat w0 (cxP h 4 kc2 kf2 * F) w) : Calls Try.prog 29 #[vp h, vr 0 1] w fun e w' => ∃ ao lc, e = .returned (.tuple #[ev ⟨3, 10, ao, 1, lc, 0⟩, vi 0]) ∧ Sat w0 (fiS (.slice ao 1 lc) [⟨3, 0⟩] * (cxP h 4 kc2 kf2 * F)) w' := by
  have := p_get kI2 hS 0 1
  rw [k3.1, k3.2] at this
  exact this
theorem k_get1 (hS : Sat w0 (cxP h 4 kc2 kf2 * F) w) : Calls Try.prog 29 #[vp h, vr 1 1] w fun e w' => ∃ ao lc, e = .returned (.tuple #[ev ⟨2, 10, ao, 1, lc, 0⟩, vi 0]) ∧ Sat w0 (fiS (.slice ao 1 lc) [⟨2, 1⟩] * (cxP h 4 kc2 kf2 * F)) w' := by
  have := p_get kI2 hS 1 1
  rw [k4.1, k4.2] at this
  exact this
theorem k_same {b p : Int} {a1 a2 : Option Addr} {c1 c2 : Nat} {l : List Rf} {w : World} (h1 : RdF w (.slice a1 1 c1) l) (h2 : RdF w (.slice a2 1 c2) l) (hl : l.length ≤ 1000) :
    Calls Try.prog 23 #[ev ⟨b, p, a1, 1, c1, 0⟩, ev ⟨b, p, a2, 1, c2, 0⟩] w fun e w' => e = .returned (.bool true) ∧ Below w.heap.size w w' :=
  (sameOne_ ⟨b, p, a1, 1, c1, 0⟩ ⟨b, p, a2, 1, c2, 0⟩ l l w h1 h2 (by omega) (by omega)).mono fun e w' hh => by
    obtain ⟨x, he, hx, hb⟩ := hh
    have : x = true := hx.2 ⟨rfl, rfl, rfl, rfl⟩
    subst this
    exact ⟨he, hb⟩
set_option maxRecDepth 100000 in
set_option maxHeartbeats 4000000 in
theorem known08 (w : World) : Calls Try.prog 9 #[] w fun e w' => e = .returned (.bool true) ∧ Below w.heap.size w w' := by
  go_enter Try.func9, Try.ntmps9
  go_wp2_with (first
    | (go_at_call 10; refine (k_new w).mono ?_; rintro e w1 ⟨h, rfl, hS1⟩; have H1 := Lib.hid hS1; clear hS1)
    | (go_at_call 11; refine (k_make H1.out).mono ?_; rintro e w2 ⟨rfl, hS2⟩; have ha : Sat w (pc w2.heap.size 30 [vi 0, vu 1] * _) _ := hS2.alloc (.cells #[vi 0, vu 1] 30); have a0 := ha.cell 0 rfl; have a1 := ha.cell 1 rfl; have H2 := Lib.hid ha.swap; have H2' := Lib.hid (H2.out.cast (show _ = cxP h 4 kc1 kf1 * (emp * pc w2.heap.size 30 [vi 0, vu 1]) by ac_rfl)); clear hS2 ha)
    | (go_at_call 14; refine (k_split H2'.out).mono ?_; rintro e w3 ⟨rfl, hS3⟩; have ha : Sat w (pc w3.heap.size 30 [vi 1, vu 1] * _) _ := hS3.alloc (.cells #[vi 1, vu 1] 30); have H3 := Lib.hid (ha.cast (show _ = cxP h 4 kc2 kf2 * (pc w3.heap.size 30 [vi 1, vu 1] * (pc w2.heap.size 30 [vi 0, vu 1] * emp)) by ac_rfl)); have e0 := H3.out.dropL.dropL.cell 0 rfl; have e1 := H3.out.dropL.dropL.cell 1 rfl; clear hS3 ha)
    | (go_at_call 29; (with_reducible refine (k_get0 H3.out).mono ?_); rintro e w4 ⟨ao, lc, rfl, hS4⟩; have ha : Sat w (pc w4.heap.size 49 (elC ⟨3, 10, ao, 1, lc, 0⟩) * _) _ := hS4.alloc (elO ⟨3, 10, ao, 1, lc, 0⟩); have H4 := Lib.hid (ha.cast (show _ = cxP h 4 kc2 kf2 * (pc w3.heap.size 30 [vi 1, vu 1] * (pc w4.heap.size 49 (elC ⟨3, 10, ao, 1, lc, 0⟩) * (fiS (.slice ao 1 lc) [⟨3, 0⟩] * (pc w2.heap.size 30 [vi 0, vu 1] * emp)))) by ac_rfl)); have g0 := H4.out.dropL.cell 0 rfl; have g1 := H4.out.dropL.cell 1 rfl; clear hS4 ha)
    | (go_at_call 29; (with_reducible refine (k_get1 H4.out).mono ?_); rintro e w5 ⟨bo, bc, rfl, hS5⟩; have ha : Sat w (pc w5.heap.size 49 (elC ⟨2, 10, bo, 1, bc, 0⟩) * _) _ := hS5.alloc (elO ⟨2, 10, bo, 1, bc, 0⟩); have H5 := Lib.hid (ha.cast (show _ = fiS (.slice ao 1 lc) [⟨3, 0⟩] * (pc w4.heap.size 49 (elC ⟨3, 10, ao, 1, lc, 0⟩) * (pc w5.heap.size 49 (elC ⟨2, 10, bo, 1, bc, 0⟩) * (fiS (.slice bo 1 bc) [⟨2, 1⟩] * (cxP h 4 kc2 kf2 * (pc w3.heap.size 30 [vi 1, vu 1] * (pc w2.heap.size 30 [vi 0, vu 1] * emp)))))) by ac_rfl)); have i0 := H5.out.dropL.cell 0 rfl; have i1 := H5.out.dropL.cell 1 rfl; have i2 := H5.out.dropL.cell 2 rfl; have i3 := H5.out.dropL.cell 3 rfl; clear hS5 ha)
    | (go_at_call 23; (with_reducible refine (k_same (Sat.fiR (H5.out.alloc' _) kOk3) (lit1' _ 3 0 kOk3 (by simp)) (by simp)).mono ?_); rintro e w6 ⟨rfl, hb⟩; have H6 := Lib.hid (Sat.after (H5.out.alloc' _) hb); clear hb; have j0 := H6.out.dropL.dropL.cell 0 rfl; have j1 := H6.out.dropL.dropL.cell 1 rfl; have j2 := H6.out.dropL.dropL.cell 2 rfl; have j3 := H6.out.dropL.dropL.cell 3 rfl)
    | (go_at_call 23; (with_reducible refine (k_same (Sat.fiR (H6.out.dropL.dropL.dropL.alloc' _) kOk2) (lit1' _ 2 1 kOk2 (by simp)) (by simp)).mono ?_); rintro e w7 ⟨rfl, hb⟩; have H7 := Lib.hid (Sat.after (H6.out.alloc' _) hb); clear hb))
  go_ret
  exact ⟨rfl, H7.out.below⟩
end
end Go.Proofs.Ytknodagcmachiaa.Cn
