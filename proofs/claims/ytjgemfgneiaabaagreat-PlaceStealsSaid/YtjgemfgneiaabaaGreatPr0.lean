/-
  The reference's queue of chapter 05: Take and Steal, where the memory of what is told is kept. No statement is proved here.
-/
import Derived.Test.YtjgemfgneiaabaaGreatMg9
namespace Go.Proofs.YtjgemfgneiaabaaGreat.Rq
open Go.RowKit
set_option linter.unusedVariables false
set_option linter.unusedSimpArgs false

/-- What a chunk tells of a list. -/
abbrev Tells (A : Hp) (v : Value) (ys : List Int) : Prop := ∀ (w0 w : World) (F : Hp), Sat w0 (A * F) w → RdI w v ys
/-- A chunk that can be taken for another one. -/
abbrev Becomes (A B : Hp) : Prop := ∀ (w0 w : World) (F : Hp), Sat w0 (A * F) w → Sat w0 (B * F) w
section
variable {w0 w : World} {F : Hp} {q r p m : Nat} {vL vN : Value} {xs : List Int} {z : Int} {b : Bool}
set_option maxRecDepth 100000 in
set_option maxHeartbeats 2000000 in
theorem r_take_one2 {x : Int} {t : List Int} (h : Sat w0 (rqB q m vL vN * (rs 3 vL (vi x :: t.map vi) * (rs 3 vN [] * F))) w) (ht : t.length ≤ 4096) (c : Bool) :
    Calls Tryz.prog 86 #[vp q, .bool c] w fun e w' => ∃ g off o cap2, e = .returned (.tuple #[.slice (some ⟨g, off, none⟩) 1 cap2, .bool false, .slice none 0 0]) ∧ (o = off + 1 ∨ t = []) ∧ Sat w0 (rqB q m (.slice (some ⟨g, o, none⟩) t.length (cap2 - 1)) vN * (rs 3 (.slice (some ⟨g, off, none⟩) (t.length + 1) cap2) (vi x :: t.map vi) * (rs 3 vN [] * F))) w' := by
  have c0 := h.cell 0 rfl
  have c2 := h.cell 2 rfl
  have f0 := h.free 0
  obtain ⟨ao, cap, rfl⟩ : ∃ ao cap, vN = .slice ao 0 cap := Rd.len h.pull3.rsRd
  obtain ⟨g, off, cap2, e, hcap⟩ := rsForm h.pull2
  rw [List.length_map] at e hcap
  subst e
  have hcap1 : (1 : Int) ≤ (cap2 : Int) := by omega
  have hcap3 : 1 ≤ cap2 := by omega
  have HT : Hid (∀ v', Sat w0 (rqB q m v' (.slice ao 0 cap) * (rs 3 (.slice (some ⟨g, off, none⟩) (t.length + 1) cap2) (vi x :: t.map vi) * (rs 3 (.slice ao 0 cap) [] * F))) (w.setCell ⟨q, 0, none⟩ v')) := Lib.hid fun v' => h.store 0 v'
  clear h
  by_cases hck : cap2 = 1
  · have ht0 : t = [] := List.eq_nil_of_length_eq_zero (by omega)
    subst ht0
    subst hck
    cases c
    all_goals
      go_enter Tryz.func86, Tryz.ntmps86
      go_wp2
      go_ret3
      refine ⟨g, off, off, 1, rfl, ?_⟩
      first | exact HT.out _ | exact ⟨trivial, HT.out _⟩ | exact ⟨.inr rfl, HT.out _⟩ | exact ⟨.inl rfl, HT.out _⟩ | exact ⟨.inr trivial, HT.out (.slice (some ⟨g, off, none⟩) 0 0)⟩
  · cases c
    all_goals
      go_enter Tryz.func86, Tryz.ntmps86
      go_wp2
      go_ret3
      refine ⟨g, off, off + 1, cap2, rfl, ?_⟩
      first | exact HT.out _ | exact ⟨trivial, HT.out _⟩ | exact ⟨.inr rfl, HT.out _⟩ | exact ⟨.inl rfl, HT.out _⟩ | exact ⟨.inr trivial, HT.out (.slice (some ⟨g, off, none⟩) 0 0)⟩
set_option maxRecDepth 100000 in
set_option maxHeartbeats 4000000 in
theorem r_take_put2 (h : Sat w0 (rqB q m vL vN * (rs 3 vL (xs.map vi) * (rs 3 vN ((nsOf z true).map vi) * F))) w) (hl : xs.length ≤ m) (hm1 : 2 ≤ m) (hm : m ≤ 4096) {x : Int} {t : List Int} (hp : putL m xs z = x :: t) (ht : t.length ≤ m) :
    Calls Tryz.prog 86 #[vp q, .bool false] w fun e w' => ∃ g off o cap2 u, e = .returned (.tuple #[.slice (some ⟨g, off, none⟩) 1 cap2, .bool false, u]) ∧ (o = off + 1 ∨ t = []) ∧
      Sat w0 (rqB q m (.slice (some ⟨g, o, none⟩) t.length (cap2 - 1)) (.slice none 0 0) * (rs 3 (.slice (some ⟨g, off, none⟩) (t.length + 1) cap2) (vi x :: t.map vi) * (sl 3 1 u (spillL m xs z).length ((spillL m xs z).map vi) * F))) w' := by
  have c2 := h.cell 2 rfl
  have f2 := h.free 2
  have h3 := h.store 2 (.slice none 0 0)
  obtain ⟨bN, off, cap, rfl, hne, cN⟩ : ∃ bN off cap, vN = .slice (some ⟨bN, off, none⟩) 1 cap ∧ bN ≠ q ∧ w.cell? ⟨bN, off, none⟩ = some (vi z) := by
    rcases h.pull3.rsE with ⟨_, h0, _⟩ | ⟨bN, off, cap, cur, hv, _, _, hS, hc⟩
    · cases h0
    · refine ⟨bN, off, cap, hv, hS.ne, ?_⟩
      have hx := hc 0 (vi z) rfl
      have := hS.cell _ hx
      simpa using this
  have h4 : Sat w0 (rqB q m vL (.slice none 0 0) * (rs 3 vL (xs.map vi) * F)) (w.setCell ⟨q, 2, none⟩ (.slice none 0 0)) := h3.drop3
  have HP := Lib.hid (r_put h4 hl hm1 hm z)
  rw [hp] at HP
  clear h h3 h4 hp
  go_enter Tryz.func86, Tryz.ntmps86
  go_wp2_with fail
  refine HP.out.mono ?_
  rintro e w2 ⟨v2, vL', rfl, hS⟩
  obtain ⟨g, o2, cap2, e, hcap⟩ := rsForm hS.pull3
  have e : vL' = .slice (some ⟨g, o2, none⟩) (t.length + 1) cap2 := by
    rw [e]
    simp
  have hcap : t.length + 1 ≤ cap2 := by simpa using hcap
  subst e
  have hS5 : Sat w0 (rqB q m (.slice (some ⟨g, o2, none⟩) (t.length + 1) cap2) (.slice none 0 0) * (rs 3 (.slice (some ⟨g, o2, none⟩) (t.length + 1) cap2) (vi x :: t.map vi) * (sl 3 1 v2 (spillL m xs z).length ((spillL m xs z).map vi) * F))) w2 := hS.rot3
  have d0 := hS.pull2.cell 0 rfl
  have f0 := hS.pull2.free 0
  have hcap1 : (1 : Int) ≤ (cap2 : Int) := by omega
  have hcap3 : 1 ≤ cap2 := by omega
  have HH : Hid (∀ v', Sat w0 (rqB q m v' (.slice none 0 0) * (rs 3 (.slice (some ⟨g, o2, none⟩) (t.length + 1) cap2) (vi x :: t.map vi) * (sl 3 1 v2 (spillL m xs z).length ((spillL m xs z).map vi) * F))) (w2.setCell ⟨q, 0, none⟩ v')) := Lib.hid fun v' => hS5.store 0 v'
  clear hS hS5
  by_cases hck : cap2 = 1
  · have ht0 : t = [] := List.eq_nil_of_length_eq_zero (by omega)
    subst ht0
    subst hck
    go_wp2
    go_ret3
    refine ⟨g, o2, o2, 1, v2, rfl, ?_⟩
    first | exact HH.out _ | exact ⟨trivial, HH.out _⟩ | exact ⟨.inr rfl, HH.out _⟩ | exact ⟨.inl rfl, HH.out _⟩ | exact ⟨.inr trivial, HH.out (.slice (some ⟨g, o2, none⟩) 0 0)⟩
  · go_wp2
    go_ret3
    refine ⟨g, o2, o2 + 1, cap2, v2, rfl, ?_⟩
    first | exact HH.out _ | exact ⟨trivial, HH.out _⟩ | exact ⟨.inr rfl, HH.out _⟩ | exact ⟨.inl rfl, HH.out _⟩ | exact ⟨.inr trivial, HH.out (.slice (some ⟨g, o2, none⟩) 0 0)⟩
/-- The chunk of a queue whose first one was taken. -/
def headB (q m g off o cap2 : Nat) (x : Int) (t : List Int) (vN : Value) : Hp := rqB q m (.slice (some ⟨g, o, none⟩) t.length (cap2 - 1)) vN * (rs 3 (.slice (some ⟨g, off, none⟩) (t.length + 1) cap2) (vi x :: t.map vi) * rs 3 vN [])
theorem headB_tells (q m g off o cap2 : Nat) (x : Int) (t : List Int) (vN : Value) : Tells (headB q m g off o cap2 x t vN) (.slice (some ⟨g, off, none⟩) 1 cap2) [x] := fun w0 w F h => by
  have h1 : Sat w0 (rs 3 (.slice (some ⟨g, off, none⟩) (t.length + 1) cap2) ((x :: t).map vi) * (rqB q m (.slice (some ⟨g, o, none⟩) t.length (cap2 - 1)) vN * (rs 3 vN [] * F))) w := h.cast (by unfold headB; rw [List.map_cons]; ac_rfl)
  have h2 : RdI w (.slice (some ⟨g, off, none⟩) (t.length + 1) cap2) (x :: t) := rsRdI h1
  exact h2.pre (k := 1) (by simp) (by simp)
theorem headB_becomes (q m g off o cap2 : Nat) (x z : Int) (t : List Int) (vN : Value) (ho : o = off + 1 ∨ t = []) : Becomes (headB q m g off o cap2 x t vN) (refQ q m t z false) := fun w0 w F h => by
  have h1 : Sat w0 (rs 3 (.slice (some ⟨g, off, none⟩) (t.length + 1) cap2) (vi x :: t.map vi) * (rqB q m (.slice (some ⟨g, o, none⟩) t.length (cap2 - 1)) vN * (rs 3 vN [] * F))) w := h.cast (by unfold headB; ac_rfl)
  have h4 := rsTail h1 o (ho.imp id fun e => by rw [e]; rfl)
  rw [List.length_map] at h4
  exact refQ_shut (z := z) (b := false) h4.pull2
theorem r_take2 (h : Sat w0 (refQ p m xs z b * F) w) (hl : xs.length ≤ m) (hm1 : 2 ≤ m) (hm : m ≤ 4096) (c : Bool) :
    Calls Tryz.prog 86 #[vp p, .bool c] w fun e w' => ∃ v u A, e = .returned (.tuple #[v, .bool (b && c), u]) ∧ Tells A v (tkG m xs z b c) ∧ Becomes A (refQ p m (tkL m xs z b c) z false) ∧
      Sat w0 (sl 3 1 u (tkS m xs z b c).length ((tkS m xs z b c).map vi) * (A * F)) w' := by
  obtain ⟨vL, vN, h⟩ := refQ_open h
  unfold tkG tkS tkL
  cases b with
  | true =>
    cases c with
    | true =>
      refine (r_take_in h).mono fun e w' ⟨v, he, hR, hS⟩ => ⟨v, _, rs 3 v [vi z] * refQ p m xs z false, he, fun w0 w F h => ?_, fun w0 w F h => ?_, ?_⟩
      · exact rsRdI (ys := [z]) (h.cast (sep_assoc _ _ _))
      · exact (h.cast (sep_assoc _ _ _)).dropL
      · have h2 := (refQ_shut2 (z := z) (b := false) hS.pull4)
        exact (h2.cast (sep_assoc _ _ _).symm).addNil 3 1
    | false =>
      obtain ⟨x, t, hp, ht⟩ := putL_cons hl hm1 z
      refine (r_take_put2 h hl hm1 hm hp ht).mono fun e w' ⟨g, off, o, cap2, u, he, ho, hS⟩ => ⟨_, u, headB p m g off o cap2 x t (.slice none 0 0), he, ?_, ?_, ?_⟩
      · simp only [Bool.and_false, Bool.false_eq_true, if_false, nextL, if_true, hp]
        exact headB_tells _ _ _ _ _ _ _ _ _
      · simp only [Bool.and_false, Bool.false_eq_true, if_false, nextL, if_true, hp, List.tail_cons]
        exact headB_becomes _ _ _ _ _ _ _ _ _ _ ho
      · simp only [Bool.and_false, Bool.false_eq_true, if_false, nextS, if_true]
        exact (hS.rsNil 3).cast (by unfold headB; ac_rfl)
  | false =>
    simp only [Bool.false_and, Bool.false_eq_true, if_false, nextL, nextS]
    cases xs with
    | nil =>
      refine (r_take_nil h c).mono fun e w' ⟨he, hw⟩ => ⟨_, _, refQ p m [] z false, he, fun w0 w F h => Rd.nil _ _, fun w0 w F h => h, ?_⟩
      subst hw
      exact (refQ_shut (xs := []) (z := z) (b := false) h).addNil 3 1
    | cons x t =>
      refine (r_take_one2 h (by simp at hl; omega) c).mono fun e w' ⟨g, off, o, cap2, he, ho, hS⟩ => ⟨_, _, headB p m g off o cap2 x t vN, he, headB_tells _ _ _ _ _ _ _ _ _, headB_becomes _ _ _ _ _ _ _ _ _ _ ho, ?_⟩
      exact (hS.cast (by unfold headB; ac_rfl : _ = headB p m g off o cap2 x t vN * F)).addNil 3 1
theorem r_steal3 (h : Sat w0 (refQ p m xs z b * F) w) (hl : xs.length ≤ 4096) (t : Int) {v : Value} {af : List Nat} (hA : ∀ w', Sat w0 F w' → RdA w' v af) :
    Calls Tryz.prog 74 #[vp p, vi t, v] w fun e w' => ∃ u, e = .returned u ∧ Sat w0 (rs 3 u ((thiefO (mayG af t) xs z b).map vi) * (refQ p m (thiefL (mayG af t) xs) z (thiefB (mayG af t) xs z b) * F)) w' := by
  obtain ⟨vL, vN, h⟩ := refQ_open h
  exact (r_steal2 h hl t hA).mono fun e w' ⟨u, vL', vN', he, hS⟩ => ⟨u, he, refQ_shut2 hS⟩
end
end Go.Proofs.YtjgemfgneiaabaaGreat.Rq
