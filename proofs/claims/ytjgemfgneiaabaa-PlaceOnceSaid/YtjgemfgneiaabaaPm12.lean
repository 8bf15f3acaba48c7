/-
  Package place: View's closures. No statement is proved here.
-/
import Derived.Test.YtjgemfgneiaabaaMg12
import Derived.Test.YtjgemfgneiaabaaMg1
import Derived.Test.YtjgemfgneiaabaaPm8
namespace Go.Proofs.Ytjgemfgneiaabaa.Pc
open Go.RowKit Rq Gq
set_option linter.unusedVariables false
set_option linter.unusedSimpArgs false

section
variable {w0 w : World} {F : Hp} {D : Ad} {p : Nat → Pl} {gx : List Int}
def someV (g : Int) (ru : Bool) : Int := if ru then g else -1
theorem some_ (g : Int) (ru : Bool) (w : World) : Calls Try.prog 39 #[vi g, .bool ru] w fun e w' => e = .returned (vi (someV g ru)) ∧ w = w' := by
  cases ru
  all_goals
    go_enter Try.func39, Try.ntmps39
    go_wp2
    go_ret
    exact ⟨rfl, rfl⟩
variable {q r m : Nat} {g lf tu z : Int} {ru b : Bool} {xs : List Int}
theorem vw1 (h : Sat w0 F w) : Calls Try.prog 38 #[(.agg #[vp q, vi g, .bool ru, vi lf, vu tu])] w fun e w' => e = .returned (vi (someV g ru)) ∧ Sat w0 F w' := by
  have H := Lib.hid (h.alloc' (.cells #[vp q, vi g, .bool ru, vi lf, vu tu] 66))
  clear h
  go_enter Try.func38, Try.ntmps38
  go_wp2_with (go_at_call 39; refine (some_ _ _ _).mono ?_; rintro e w' ⟨rfl, rfl⟩)
  go_ret
  exact ⟨rfl, H.out⟩
theorem vw4 (h : Sat w0 F w) : Calls Try.prog 44 #[(.agg #[vp q, vi g, .bool ru, vi lf, vu tu])] w fun e w' => e = .returned (vi lf) ∧ Sat w0 F w' := by
  have H := Lib.hid (h.alloc' (.cells #[vp q, vi g, .bool ru, vi lf, vu tu] 66))
  clear h
  go_enter Try.func44, Try.ntmps44
  go_wp2
  go_ret
  exact ⟨rfl, H.out⟩
theorem vw5 (h : Sat w0 F w) : Calls Try.prog 46 #[(.agg #[vp q, vi g, .bool ru, vi lf, vu tu])] w fun e w' => e = .returned (vu tu) ∧ Sat w0 F w' := by
  have H := Lib.hid (h.alloc' (.cells #[vp q, vi g, .bool ru, vi lf, vu tu] 66))
  clear h
  go_enter Try.func46, Try.ntmps46
  go_wp2
  go_ret
  exact ⟨rfl, H.out⟩
theorem vw2 (h : Sat w0 (quB q r z b * F) w) : Calls Try.prog 40 #[(.agg #[vp q, vi g, .bool ru, vi lf, vu tu])] w fun e w' => e = .returned (vi (someV z b)) ∧ Sat w0 (quB q r z b * F) w' := by
  have h1 := h.alloc' (.cells #[vp q, vi g, .bool ru, vi lf, vu tu] 66)
  have HN := Lib.hid (q_next h1)
  have H := Lib.hid h1
  have hz : someV (if b then z else 0) b = someV z b := by cases b <;> rfl
  have HS := Lib.hid (some_ (if b then z else 0) b)
  rw [hz] at HS
  clear h h1 hz
  cases b
  all_goals
    go_enter Try.func40, Try.ntmps40
    go_wp2_with (first
      | (go_at_call 36; refine HN.out.mono ?_; rintro e w' ⟨rfl, rfl⟩)
      | (go_at_call 39; refine (HS.out _).mono ?_; rintro e w' ⟨rfl, rfl⟩))
    go_ret
    exact ⟨rfl, H.out⟩
theorem rs_tail {g1 n c o : Nat} {y : Value} {vs : List Value} (h : Sat w0 (sl 3 1 (.slice (some ⟨g1, 0, none⟩) (n + 1) (c + 1)) (n + 1) (y :: vs) * F) w) (ho : (c = 0) ∨ o = 1) : Sat w0 (rs 3 (.slice (some ⟨g1, o, none⟩) n c) vs * F) w := by
  have hl := h.slLen
  have hvs : vs.length = n := by simp at hl; omega
  obtain ⟨cur, h1, h2, h3, h4, hS⟩ := h.slP
  rw [← hvs]
  refine hS.rsI (by omega) (by omega) fun j u hj => ?_
  rcases ho with rfl | rfl
  · have : vs = [] := List.length_eq_zero_iff.1 (by omega)
    rw [this] at hj
    simp at hj
  · have h5 : (y :: vs)[1 + j]? = some u := by rw [Nat.add_comm]; simpa using hj
    rw [← h4, List.getElem?_take] at h5
    split at h5
    · exact h5
    · cases h5
set_option maxHeartbeats 1000000 in
theorem vw3 (h : Sat w0 (quB q r z b * (ringP r m xs * F)) w) : Calls Try.prog 42 #[(.agg #[vp q, vi g, .bool ru, vi lf, vu tu])] w fun e w' => ∃ v, e = .returned v ∧ Sat w0 (rs 3 v (xs.map vi) * (quB q r z b * (ringP r m xs * F))) w' := by
  have h1 : Sat w0 (pc w.heap.size 66 [vp q, vi g, .bool ru, vi lf, vu tu] * (quB q r z b * (ringP r m xs * F))) (w.alloc (.cells #[vp q, vi g, .bool ru, vi lf, vu tu] 66)) := h.alloc _
  have HA := Lib.hid (q_all (F := pc w.heap.size 66 [vp q, vi g, .bool ru, vi lf, vu tu] * F) (h1.cast (by ac_rfl)))
  clear h h1
  cases b with
  | false =>
    go_enter Try.func42, Try.ntmps42
    go_wp2_with (first
      | (go_at_call 43; refine HA.out.mono ?_; rintro e w1 ⟨v, rfl, hS⟩; obtain ⟨ao, cap, rfl⟩ := hS.rd.len; have x0 := hS.pull4.cell 0 rfl; have HN := Lib.hid (q_next hS.pull2); have H1 := Lib.hid hS; clear hS)
      | (go_at_call 36; refine HN.out.mono ?_; rintro e w' ⟨rfl, rfl⟩))
    go_ret
    exact ⟨_, rfl, (Sat.rsOfSl H1.out).pull4.dropL⟩
  | true =>
    rw [show allQ xs z true = z :: xs from rfl, List.length_cons, List.map_cons] at HA
    go_enter Try.func42, Try.ntmps42
    go_wp2_with (first
      | (go_at_call 43; refine HA.out.mono ?_; rintro e w1 ⟨v, rfl, hS⟩; obtain ⟨g1, ca, rfl, hca⟩ := slPos hS (by omega); obtain ⟨cb, rfl⟩ : ∃ cb, ca = cb + 1 := ⟨ca - 1, by omega⟩; have x0 := hS.pull4.cell 0 rfl; have HN := Lib.hid (q_next hS.pull2); have H1 := Lib.hid (show Sat w0 (sl 3 1 (.slice (some ⟨g1, 0, none⟩) (xs.length + 1) (cb + 1)) (xs.length + 1) (vi z :: xs.map vi) * _) w1 from hS); have hca' : xs.length ≤ cb := (by omega); clear hS)
      | (go_at_call 36; refine HN.out.mono ?_; rintro e w' ⟨rfl, rfl⟩))
    all_goals go_ret
    all_goals first | (obtain rfl : cb = 0 := (by omega); exact ⟨_, rfl, (rs_tail (o := 0) H1.out (.inl rfl)).pull4.dropL⟩) | exact ⟨_, rfl, (rs_tail (o := 1) H1.out (.inr rfl)).pull4.dropL⟩
end
end Go.Proofs.Ytjgemfgneiaabaa.Pc
