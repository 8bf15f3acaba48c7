/-
  What the statements' own helper 'same' of layer 3 answers. No statement is proved here.
-/
import Derived.Test.YtaaplmihmginpaaDo3
namespace Go.Proofs.Ytaaplmihmginpaa
open Go.RowKit
set_option linter.unusedVariables false

theorem ref_same_true (xs : List Int) (v u : Value) (w : World) (h : RdI w v xs) (h' : RdI w u xs) (hl : xs.length ≤ 1000000) :
    Calls Try.prog 20 #[v, u] w fun e w' => e = .returned (.bool true) ∧ ∃ k, w' = w.drewN k := by
  have := ref_same xs xs v u w h h' hl hl
  rwa [show sameI xs xs = true from by simp [sameI]] at this

set_option maxRecDepth 100000 in
set_option maxHeartbeats 2000000 in
theorem same3v {w0 w : World} {p q most : Nat} {xs : List Int} {F : Hp} {u : Value} (h : Sat w0 (ringP p most xs * (pc q 62 [u, vi most] * (rs 3 u (xs.map vi) * F))) w) :
    Calls Try.prog 32 #[vp p, vp q] w fun e w' => e = .returned (.bool true) ∧ Sat w0 (ringP p most xs * (pc q 62 [u, vi most] * (rs 3 u (xs.map vi) * F))) w' := by
  have hl := h.ringLen
  have hall := Lib.hid (ring_all h)
  clear h
  go_enter Try.func32, Try.ntmps32
  go_wp2_with fail
  refine hall.out.mono ?_
  rintro e w1 ⟨v, rfl, hS1⟩
  obtain ⟨ao, cap, rfl⟩ := hS1.rdI.len
  have hv : RdI w1 u xs := by have := hS1.pull4.rsRd; simpa [RdI] using this
  obtain ⟨uo, ucap, rfl⟩ := hv.len
  have hS : Sat w0 (pc q 62 [.slice uo xs.length ucap, vi most] * (rs 3 (.slice uo xs.length ucap) (xs.map vi) * (sl 3 1 (.slice ao xs.length cap) xs.length (xs.map vi) * (ringP p most xs * F)))) w1 := hS1.cast (by ac_rfl)
  have c0 := hS.cell 0 rfl
  have c1 := hS.cell 1 rfl
  have hR : RdI w1 (.slice uo xs.length ucap) xs := hv
  have hA : RdI w1 (.slice ao xs.length cap) xs := hS1.rdI
  have H := Lib.hid hS
  have HR := Lib.hid hR
  have HA := Lib.hid hA
  clear hS hR hA hv hS1
  go_wp2_with fail
  go_quiet (first
    | (go_at_call 20; exact Calls.quiet_of (ref_same_true xs _ _ _ (HA.out.drewN _) (HR.out.drewN _) (by omega)))
    | (go_at_call 18; exact Calls.quiet_of_same ((ring_len ((H.out.drewN _).pull4)).mono fun _ _ h => ⟨h.1, h.2.symm⟩))
    | (go_at_call 42; exact Calls.quiet_of_same ((ring_most ((H.out.drewN _).pull4)).mono fun _ _ h => ⟨h.1, h.2.symm⟩)))
  go_wp2
  go_loopw [6] (fun i wr => ∃ (k : Nat) (zs : List Int), k ≤ xs.length ∧ i = vi k ∧ Hid (zs.length = xs.length) ∧
      Sat w0 (sl 3 1 (.slice ao xs.length cap) xs.length (zs.map vi) * (pc q 62 [.slice uo xs.length ucap, vi most] * (rs 3 (.slice uo xs.length ucap) (xs.map vi) * (ringP p most xs * F)))) wr) (fun i _ => xs.length - (intOf i).toNat)
  case atStart => exact ⟨0, xs, Nat.zero_le _, rfl, Lib.hid rfl, (H.out.drewN _).pull3⟩
  case round =>
    obtain ⟨k, zs, hk, rfl, hz, hS⟩ := hrel
    clear c0 c1
    by_cases hlt : k < xs.length
    · rcases hS.slE.2 with ⟨hv', h0, _⟩ | ⟨g, c2, cur, hv', h1, _⟩
      · omega
      · cases hv'
        have ca := hS.slCell k (u := vi (zs[k]?.getD 0)) (by have h9 : k < zs.length := (by rw [hz.out]; exact hlt); simp [h9])
        have cf := hS.slFree k
        have hst : ∀ X : Int, Sat w0 (sl 3 1 (.slice (some ⟨g, 0, none⟩) xs.length cap) xs.length ((zs.set k X).map vi) * (pc q 62 [.slice uo xs.length ucap, vi most] * (rs 3 (.slice uo xs.length ucap) (xs.map vi) * (ringP p most xs * F)))) (wr.setCell ⟨g, k, none⟩ (vi X)) := fun X => by
          rw [List.map_set]
          exact hS.slStore k (by omega) (vi X)
        have HSt := Lib.hid hst
        clear hst hS
        generalize zs[k]?.getD 0 = z at *
        go_wp2
        go_roundw
        case rel => exact ⟨k + 1, _, by omega, by go_num, Lib.hid (by rw [List.length_set]; exact hz.out), HSt.out _⟩
        case measure => simp [intOf]; omega
    · obtain rfl : xs.length = k := by omega
      have HS := Lib.hid hS.dropL
      have c0 := HS.out.cell 0 rfl
      clear hS
      go_wp2
      go_region_held3 (fun w' => w'.cell? ⟨q, 0, none⟩ = some (.slice uo xs.length ucap))
        (first | exact d0 | go_keep)
        (first
          | (go_at_call 47; refine (ring_all (HS.out.drewN 1).pull3).mono ?_; rintro e w2 ⟨z, rfl, hS2⟩; have d0 := hS2.pull3.cell 0 rfl; have H2 := Lib.hid hS2; clear hS2)
          | (go_at_call 20; refine (ref_same_true xs _ _ _ H2.out.rdI (by have := H2.out.pull4.rsRd; simpa [RdI] using this) (by omega)).mono ?_; rintro e w3 ⟨rfl, N, rfl⟩))
      go_wp2
      go_ret
      refine ⟨rfl, ?_⟩
      exact (H2.out.drewN N).dropL

theorem same3 {w0 w : World} {p q most : Nat} {xs : List Int} {F : Hp} (h : Sat w0 (ringP p most xs * (refP q most xs * F)) w) :
    Calls Try.prog 32 #[vp p, vp q] w fun e w' => e = .returned (.bool true) ∧ Sat w0 (ringP p most xs * (refP q most xs * F)) w' := by
  obtain ⟨u, hu, _⟩ := h.pull2.ref
  refine (same3v hu.pull3).mono ?_
  rintro e w' ⟨rfl, hS⟩
  exact ⟨rfl, (Sat.refI hS.rot3).pull2⟩
end Go.Proofs.Ytaaplmihmginpaa
