/-
  Chapter 05: the statements' helper same. No statement is proved here.
-/
import Derived.Test.YtjlgdepneipgnaaRq26
namespace Go.Proofs.Ytjlgdepneipgnaa.Rq
open Go.RowKit
set_option linter.unusedVariables false

section
variable {w0 w : World} {F : Hp} {q r p m : Nat} {z : Int} {b : Bool} {xs : List Int}
set_option maxRecDepth 100000 in
set_option maxHeartbeats 4000000 in
theorem same5 (h : Sat w0 (bothQ q r p m xs z b F) w) :
    Calls Try.prog 35 #[vp q, vp p] w fun e w' => e = .returned (.bool true) ∧ Sat w0 (bothQ q r p m xs z b F) w' := by
  have hl := h.pull2.ringLen
  have hll := allQ_len (xs := xs) (z := z) (b := b)
  have HAll : Hid (∀ (w1 : World) (G : Hp), Sat w0 (quB q r z b * (ringP r m xs * G)) w1 → Calls Try.prog 28 #[vp q] w1 fun e w' => ∃ v, e = .returned v ∧ Sat w0 (sl 3 1 v (allQ xs z b).length ((allQ xs z b).map vi) * (quB q r z b * (ringP r m xs * G))) w') := Lib.hid fun w1 G h => q_all h
  have HLen : Hid (∀ (w1 : World) (G : Hp), Sat w0 (quB q r z b * (ringP r m xs * G)) w1 → Calls Try.prog 34 #[vp q] w1 fun e w' => e = .returned (vi (allQ xs z b).length) ∧ Sat w0 (quB q r z b * (ringP r m xs * G)) w') := Lib.hid fun w1 G h => q_len h
  have HRA : Hid (∀ (w1 : World) (G : Hp), Sat w0 (refQ p m xs z b * G) w1 → Calls Try.prog 29 #[vp p] w1 fun e w' => ∃ v, e = .returned v ∧ Sat w0 (sl 3 1 v (allQ xs z b).length ((allQ xs z b).map vi) * (refQ p m xs z b * G)) w') := Lib.hid fun w1 G h => r_all' h (by omega)
  generalize allQ xs z b = l at *
  have H := Lib.hid h
  clear h
  go_enter Try.func35, Try.ntmps35
  go_wp2_with fail
  refine (HAll.out _ _ H.out).mono ?_
  rintro e w1 ⟨v1, rfl, hS1⟩
  obtain ⟨a1, p1, rfl⟩ := hS1.rd.len
  have H1 := Lib.hid hS1
  clear H
  go_wp2_with fail
  refine (q_next H1.out.pull2).mono ?_
  rintro e w' ⟨rfl, rfl⟩
  obtain ⟨vL, vN, hO⟩ := refQ_open hS1.pull4
  have c2 := hO.cell 2 rfl
  clear hS1
  have key : ∀ (n0 : Nat), True := fun _ => trivial
  cases b with
  | false =>
    obtain ⟨aN, cN, rfl⟩ : ∃ aN cN, vN = .slice aN 0 cN := (rsRdI hO.pull3).len
    clear hO key
    go_wp2_with (first
      | (go_at_call 34; refine (HLen.out _ _ (H1.out.cast (show _ = quB q r z false * (ringP r m xs * (refQ p m xs z false * (sl 3 1 (.slice a1 l.length p1) l.length (l.map vi) * F))) by ac_rfl))).mono ?_; rintro e w2 ⟨rfl, hS2⟩; have H2 := Lib.hid hS2.pull3; clear hS2)
      | (go_at_call 29; refine (HRA.out _ _ H2.out).mono ?_; rintro e w3 ⟨v3, rfl, hS3⟩; have H3 := Lib.hid hS3; clear hS3)
      | (go_at_call 27; refine (ref_same_yes l _ _ _ H3.out.pull5.rd H3.out.rd (by omega)).mono ?_; rintro e w4 ⟨rfl, N, rfl⟩))
    have H4 := Lib.hid ((H3.out.drewN N).dropL.cast (show _ = sl 3 1 (.slice a1 l.length p1) l.length (l.map vi) * (quB q r z false * (ringP r m xs * (refQ p m xs z false * F))) by ac_rfl))
    go_loopw [8] (fun i wr => ∃ (k : Nat) (zs : List Int), k ≤ l.length ∧ i = vi k ∧ Hid (zs.length = l.length) ∧
        Sat w0 (sl 3 1 (.slice a1 l.length p1) l.length (zs.map vi) * (quB q r z false * (ringP r m xs * (refQ p m xs z false * F)))) wr) (fun i _ => l.length - (intOf i).toNat)
    case atStart => exact ⟨0, l, Nat.zero_le _, rfl, Lib.hid rfl, H4.out⟩
    case round =>
      obtain ⟨k, zs, hk, rfl, hz, hS⟩ := hrel
      clear c2
      by_cases hlt : k < l.length
      · rcases hS.slE.2 with ⟨hv', h0, _⟩ | ⟨g', cc, cur, hv', h1, _⟩
        · omega
        · cases hv'
          have ca := hS.slCell k (u := vi (zs[k]?.getD 0)) (by have h9 : k < zs.length := (by rw [hz.out]; exact hlt); simp [h9])
          have cf := hS.slFree k
          have hst : ∀ X : Int, Sat w0 (sl 3 1 (.slice (some ⟨g', 0, none⟩) l.length p1) l.length ((zs.set k X).map vi) * (quB q r z false * (ringP r m xs * (refQ p m xs z false * F)))) (wr.setCell ⟨g', k, none⟩ (vi X)) := fun X => by
            rw [List.map_set]
            exact hS.slStore k (by omega) (vi X)
          have HSt := Lib.hid hst
          clear hst hS
          generalize zs[k]?.getD 0 = zk at *
          go_wp2
          go_roundw
          case rel => exact ⟨k + 1, _, by omega, by go_num, Lib.hid (by rw [List.length_set]; exact hz.out), HSt.out _⟩
          case measure => simp [intOf]; omega
      · obtain rfl : l.length = k := by omega
        have HS := Lib.hid hS.dropL
        clear hS
        go_wp2_with (first
          | (go_at_call 28; refine (HAll.out _ _ HS.out).mono ?_; rintro e w5 ⟨v5, rfl, hS5⟩; have H5 := Lib.hid hS5.pull4; clear hS5)
          | (go_at_call 29; refine (HRA.out _ _ H5.out).mono ?_; rintro e w6 ⟨v6, rfl, hS6⟩; have H6 := Lib.hid hS6; clear hS6)
          | (go_at_call 27; refine (ref_same_yes l _ _ _ H6.out.pull3.rd H6.out.rd (by omega)).mono ?_; rintro e w7 ⟨rfl, N', rfl⟩))
        go_ret
        exact ⟨rfl, ((H6.out.drewN N').dropL.drop2).cast (by unfold bothQ; ac_rfl)⟩
  | true =>
    obtain ⟨aN, cN, rfl⟩ : ∃ aN cN, vN = .slice aN 1 cN := (rsRdI hO.pull3).len
    obtain ⟨bN, oN, rfl, hcz⟩ := (rsRdI hO.pull3).at_ (by simp [nsOf])
    have cz : w1.cell? ⟨bN, oN, none⟩ = some (vi z) := by simpa [nsOf] using hcz 0 (by simp [nsOf])
    clear hO key hcz
    go_wp2_with (first
      | (go_at_call 34; refine (HLen.out _ _ (H1.out.cast (show _ = quB q r z true * (ringP r m xs * (refQ p m xs z true * (sl 3 1 (.slice a1 l.length p1) l.length (l.map vi) * F))) by ac_rfl))).mono ?_; rintro e w2 ⟨rfl, hS2⟩; have H2 := Lib.hid hS2.pull3; clear hS2)
      | (go_at_call 29; refine (HRA.out _ _ H2.out).mono ?_; rintro e w3 ⟨v3, rfl, hS3⟩; have H3 := Lib.hid hS3; clear hS3)
      | (go_at_call 27; refine (ref_same_yes l _ _ _ H3.out.pull5.rd H3.out.rd (by omega)).mono ?_; rintro e w4 ⟨rfl, N, rfl⟩))
    have H4 := Lib.hid ((H3.out.drewN N).dropL.cast (show _ = sl 3 1 (.slice a1 l.length p1) l.length (l.map vi) * (quB q r z true * (ringP r m xs * (refQ p m xs z true * F))) by ac_rfl))
    go_loopw [8] (fun i wr => ∃ (k : Nat) (zs : List Int), k ≤ l.length ∧ i = vi k ∧ Hid (zs.length = l.length) ∧
        Sat w0 (sl 3 1 (.slice a1 l.length p1) l.length (zs.map vi) * (quB q r z true * (ringP r m xs * (refQ p m xs z true * F)))) wr) (fun i _ => l.length - (intOf i).toNat)
    case atStart => exact ⟨0, l, Nat.zero_le _, rfl, Lib.hid rfl, H4.out⟩
    case round =>
      obtain ⟨k, zs, hk, rfl, hz, hS⟩ := hrel
      clear c2
      by_cases hlt : k < l.length
      · rcases hS.slE.2 with ⟨hv', h0, _⟩ | ⟨g', cc, cur, hv', h1, _⟩
        · omega
        · cases hv'
          have ca := hS.slCell k (u := vi (zs[k]?.getD 0)) (by have h9 : k < zs.length := (by rw [hz.out]; exact hlt); simp [h9])
          have cf := hS.slFree k
          have hst : ∀ X : Int, Sat w0 (sl 3 1 (.slice (some ⟨g', 0, none⟩) l.length p1) l.length ((zs.set k X).map vi) * (quB q r z true * (ringP r m xs * (refQ p m xs z true * F)))) (wr.setCell ⟨g', k, none⟩ (vi X)) := fun X => by
            rw [List.map_set]
            exact hS.slStore k (by omega) (vi X)
          have HSt := Lib.hid hst
          clear hst hS
          generalize zs[k]?.getD 0 = zk at *
          go_wp2
          go_roundw
          case rel => exact ⟨k + 1, _, by omega, by go_num, Lib.hid (by rw [List.length_set]; exact hz.out), HSt.out _⟩
          case measure => simp [intOf]; omega
      · obtain rfl : l.length = k := by omega
        have HS := Lib.hid hS.dropL
        clear hS
        go_wp2_with (first
          | (go_at_call 28; refine (HAll.out _ _ HS.out).mono ?_; rintro e w5 ⟨v5, rfl, hS5⟩; have H5 := Lib.hid hS5.pull4; clear hS5)
          | (go_at_call 29; refine (HRA.out _ _ H5.out).mono ?_; rintro e w6 ⟨v6, rfl, hS6⟩; have H6 := Lib.hid hS6; clear hS6)
          | (go_at_call 27; refine (ref_same_yes l _ _ _ H6.out.pull3.rd H6.out.rd (by omega)).mono ?_; rintro e w7 ⟨rfl, N', rfl⟩))
        go_ret
        exact ⟨rfl, ((H6.out.drewN N').dropL.drop2).cast (by unfold bothQ; ac_rfl)⟩
end
end Go.Proofs.Ytjlgdepneipgnaa.Rq
