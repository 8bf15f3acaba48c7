/-
  The reference's queue of chapter 05: PutNext. No statement is proved here.
-/
import Derived.Test.YtjlgdepneipgnaaRq3
namespace Go.Proofs.Ytjlgdepneipgnaa.Rq
open Go.RowKit
set_option linter.unusedVariables false

section
variable {w0 w : World} {F : Hp} {q m : Nat} {vL vN : Value} {xs : List Int}
theorem r_put (h : Sat w0 (rqB q m vL vN * (rs 3 vL (xs.map vi) * F)) w) (hl : xs.length ≤ m) (hm1 : 2 ≤ m) (hm : m ≤ 4096) (g : Int) :
    Calls Try.prog 52 #[vp q, vi g] w fun e w' => ∃ v vL', e = .returned v ∧ Sat w0 (sl 3 1 v (spillL m xs g).length ((spillL m xs g).map vi) * (rqB q m vL' vN * (rs 3 vL' ((putL m xs g).map vi) * F))) w' := by
  by_cases h1 : xs.length < m
  · exact r_put_room h h1 hm g
  · exact r_put_full h (by omega) hm1 hm g
def nsOf (z : Int) (b : Bool) : List Int := if b then [z] else []
theorem Sat.rsOne {b : Nat} {x : Value} {T : TypeId} (h : Sat w0 (pc b T [x] * F) w) : Sat w0 (rs T (.slice (some ⟨b, 0, none⟩) 1 1) [x] * F) w :=
  h.rsI (xs := [x]) (off := 0) (cap := 1) (Nat.le_refl _) (by unfold maxLen; omega) (fun j u hj => by rw [Nat.zero_add]; exact hj)
theorem Sat.drop5 {A B C D E G : Hp} (h : Sat w0 (A * (B * (C * (D * (E * G))))) w) : Sat w0 (A * (B * (C * (D * G)))) w :=
  Sat.dropL (A := E) (h.cast (by ac_rfl))
set_option maxRecDepth 100000 in
set_option maxHeartbeats 2000000 in
theorem r_putnext {z : Int} {b : Bool} (h : Sat w0 (rqB q m vL vN * (rs 3 vL (xs.map vi) * (rs 3 vN ((nsOf z b).map vi) * F))) w) (hl : xs.length ≤ m) (hm1 : 2 ≤ m) (hm : m ≤ 4096) (g : Int) :
    Calls Try.prog 53 #[vp q, vi g] w fun e w' => ∃ v vL' vN', e = .returned v ∧ Sat w0 (sl 3 1 v (nextS m xs z b).length ((nextS m xs z b).map vi) * (rqB q m vL' vN' * (rs 3 vL' ((nextL m xs z b).map vi) * (rs 3 vN' [vi g] * F)))) w' := by
  have c2 := h.cell 2 rfl
  have f2 := h.free 2
  have h1 := (h.alloc (.cells #[vi g] 3)).pull2
  have c2a := h1.cell 2 rfl
  have f2a := h1.free 2
  have h2 := h1.store 2 (.slice (some ⟨w.heap.size, 0, none⟩) 1 1)
  have h3 : Sat w0 (rqB q m vL (.slice (some ⟨w.heap.size, 0, none⟩) 1 1) * (rs 3 vL (xs.map vi) * (rs 3 (.slice (some ⟨w.heap.size, 0, none⟩) 1 1) [vi g] * (rs 3 vN ((nsOf z b).map vi) * F)))) ((w.alloc (.cells #[vi g] 3)).setCell ⟨q, 2, none⟩ (.slice (some ⟨w.heap.size, 0, none⟩) 1 1)) := by
    have h4 := Sat.rsOne h2.pull2
    exact h4.cast (by simp only [List.set_cons_succ, List.set_cons_zero]; unfold rqB; ac_rfl)
  have H3 := Lib.hid h3
  cases b with
  | false =>
    obtain ⟨ao, cap, rfl⟩ : ∃ ao cap, vN = .slice ao 0 cap := Rd.len h.pull3.rsRd
    clear h h1 h2 h3
    go_enter Try.func53, Try.ntmps53
    go_wp2
    go_ret
    exact ⟨_, _, _, rfl, (H3.out.pull4.dropL).addNil 3 1⟩
  | true =>
    obtain ⟨bN, off, cap, rfl, hne, cN⟩ : ∃ bN off cap, vN = .slice (some ⟨bN, off, none⟩) 1 cap ∧ bN ≠ q ∧ (w.alloc (.cells #[vi g] 3)).cell? ⟨bN, off, none⟩ = some (vi z) := by
      rcases h.pull3.rsE with ⟨_, h0, _⟩ | ⟨bN, off, cap, cur, hv, _, _, hS, hc⟩
      · cases h0
      · refine ⟨bN, off, cap, hv, hS.ne, ?_⟩
        have hx := hc 0 (vi z) rfl
        have := (hS.alloc (.cells #[vi g] 3)).pull2.cell _ hx
        simpa using this
    have HP := Lib.hid (r_put h3 hl hm1 hm z)
    clear h h1 h2 h3
    go_enter Try.func53, Try.ntmps53
    go_wp2_with (go_at_call 52; refine HP.out.mono ?_; rintro e w2 ⟨v, vL', rfl, hS⟩; have H4 := Lib.hid hS; clear hS)
    go_ret
    exact ⟨_, _, _, rfl, Sat.drop5 H4.out⟩
end
end Go.Proofs.Ytjlgdepneipgnaa.Rq
