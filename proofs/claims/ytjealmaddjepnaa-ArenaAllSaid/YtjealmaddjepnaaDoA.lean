/-
  Walks of helmsmanlaw02.much, of the reference's May, and of do beside a reference in which there is nothing. No statement is proved here.
-/
import Derived.Test.YtjealmaddjepnaaRefB
namespace Go.Proofs.Ytjealmaddjepnaa.Ar
open Go.RowKit
set_option linter.unusedVariables false

def muchB (size : Int) (n : Nat) (most : Int) : Bool := (decide (40 < size) && decide (size ≤ 4096)) || decide (most < (n : Int))
theorem much_ (size most : Int) (n : Nat) (ao : Option Addr) (cap : Nat) (w : World) :
    Calls Try.prog 6 #[vi size, .slice ao n cap, vi most] w fun e w' => e = .returned (.bool (muchB size n most)) ∧ w = w' := by
  by_cases h1 : 40 < size
  · by_cases h2 : size ≤ 4096
    · have hv : muchB size n most = true := by simp [muchB, h1, h2]
      have HV := Lib.hid hv
      clear hv
      go_enter Try.func6, Try.ntmps6
      go_wp2
      go_ret
      exact ⟨by rw [HV.out]; rfl, rfl⟩
    · have h2' : ¬ (size ≤ 4096) := h2
      have hv : muchB size n most = decide (most < (n : Int)) := by simp [muchB, h2]
      have HV := Lib.hid hv
      clear hv
      by_cases h3 : most < (n : Int)
      · go_enter Try.func6, Try.ntmps6
        go_wp2
        go_ret
        exact ⟨by rw [HV.out, show decide (most < (n : Int)) = true from decide_eq_true (by omega)]; rfl, rfl⟩
      · go_enter Try.func6, Try.ntmps6
        go_wp2
        go_ret
        exact ⟨by rw [HV.out, show decide (most < (n : Int)) = false from decide_eq_false (by omega)]; rfl, rfl⟩
  · have hv : muchB size n most = decide (most < (n : Int)) := by simp [muchB, h1]
    have HV := Lib.hid hv
    clear hv
    by_cases h3 : most < (n : Int)
    · go_enter Try.func6, Try.ntmps6
      go_wp2
      go_ret
      exact ⟨by rw [HV.out, show decide (most < (n : Int)) = true from decide_eq_true (by omega)]; rfl, rfl⟩
    · go_enter Try.func6, Try.ntmps6
      go_wp2
      go_ret
      exact ⟨by rw [HV.out, show decide (most < (n : Int)) = false from decide_eq_false (by omega)]; rfl, rfl⟩

def MayP (size first : Int) : Prop := 1 ≤ size ∧ size ≤ 4096 ∧ 1 ≤ first ∧ first ≤ 18446744073709551614
theorem may_yes (size first : Int) (h : MayP size first) (w : World) :
    Calls Try.prog 7 #[vi size, vu first] w fun e w' => e = .returned (.bool true) ∧ w = w' := by
  obtain ⟨h1, h2, h3, h4⟩ := h
  go_enter Try.func7, Try.ntmps7
  go_wp2
  go_ret
  exact ⟨rfl, rfl⟩
theorem may_no (size first : Int) (h : ¬ MayP size first) (w : World) :
    Calls Try.prog 7 #[vi size, vu first] w fun e w' => e = .returned (.bool false) ∧ w = w' := by
  by_cases h1 : 1 ≤ size
  · by_cases h2 : size ≤ 4096
    · by_cases h3 : 1 ≤ first
      · have h4 : ¬ (first ≤ 18446744073709551614) := fun h4 => h ⟨h1, h2, h3, h4⟩
        clear h
        go_enter Try.func7, Try.ntmps7
        go_wp2
        go_ret
        exact ⟨rfl, rfl⟩
      · clear h
        go_enter Try.func7, Try.ntmps7
        go_wp2
        go_ret
        exact ⟨rfl, rfl⟩
    · clear h
      go_enter Try.func7, Try.ntmps7
      go_wp2
      go_ret
      exact ⟨rfl, rfl⟩
  · clear h
    go_enter Try.func7, Try.ntmps7
    go_wp2
    go_ret
    exact ⟨rfl, rfl⟩

def Evolve (a a' : Pl) : Prop := (a'.gen = a.gen ∧ a'.there = a.there ∧ a'.retired = a.retired) ∨ (a.there = true ∧ a'.gen = a.gen + 1 ∧ a'.retired = a.retired) ∨ (a.there = true ∧ a'.gen = a.gen ∧ a'.retired = true)
def Step (ps ps' : List Pl) : Prop := ∀ (i : Nat) (a : Pl), ps[i]? = some a → ∃ a', ps'[i]? = some a' ∧ Evolve a a'
theorem Step.refl (ps : List Pl) : Step ps ps := fun i a h => ⟨a, h, .inl ⟨rfl, rfl, rfl⟩⟩
theorem Step.set {ps : List Pl} {k : Nat} {a a' : Pl} (hk : ps[k]? = some a) (h : Evolve a a') : Step ps (ps.set k a') := fun i b hb => by
  by_cases hi : k = i
  · subst hi
    rw [hk] at hb
    cases hb
    exact ⟨a', get_set_self hk _, h⟩
  · exact ⟨b, by rw [List.getElem?_set, if_neg hi]; exact hb, .inl ⟨rfl, rfl, rfl⟩⟩
theorem step_setP (ps : List Pl) (i g : Int) (x : El) : Step ps (setP ps i g x) := by
  unfold setP
  cases hA : isAt ps i g with
  | none => exact Step.refl ps
  | some ka =>
    obtain ⟨k, a⟩ := ka
    exact Step.set (isAt_some hA).1 (.inl ⟨rfl, rfl, rfl⟩)
theorem step_dropped (ps : List Pl) (free : List Nat) (i g : Int) : Step ps (dropped ps free i g).1 := by
  unfold dropped
  cases hA : isAt ps i g with
  | none => exact Step.refl ps
  | some ka =>
    obtain ⟨k, a⟩ := ka
    have h := isAt_some hA
    by_cases hg : a.gen = 18446744073709551614
    · simp only [if_pos hg]
      exact Step.set h.1 (.inr (.inr ⟨h.2.2.1, rfl, rfl⟩))
    · simp only [if_neg hg]
      exact Step.set h.1 (.inr (.inl ⟨h.2.2.1, rfl, rfl⟩))
theorem atV_form (ps : List Pl) (n : Int) : ∃ i g b, atV ps n = .tuple #[vr i g, .bool b] := by
  unfold atV
  cases atP ps n with
  | none => exact ⟨0, 0, false, rfl⟩
  | some ka => exact ⟨ka.1, ka.2.gen, true, rfl⟩

def DoStale (w0 : World) (p : Nat) (ps : List Pl) (F : Hp) (e : Ending) (w' : World) : Prop :=
  ∃ b ps' free', e = .returned (.bool b) ∧ Step ps ps' ∧ Sat w0 (tblP p ps' free' * F) w'

section
variable {w0 w : World} {p q : Nat} {ps : List Pl} {free : List Nat} {F : Hp}
abbrev actC (k x i g n : Int) : List Value := [vi k, vi x, vi i, vu g, vi n]

set_option maxRecDepth 100000 in
set_option maxHeartbeats 1000000 in
theorem doStale2 {rs : List RP} (h : Sat w0 (tblP p ps free * (refP q rs 0 * F)) w) (hs : rs.length ≤ 4096) (hno : ∀ i g, isR rs i g = none) (x i g n : Int) :
    Calls Try.prog 11 #[vp p, vp q, .agg #[vi 2, vi x, vi i, vu g, vi n]] w (DoStale w0 p ps F) := by
  have hB : Sat w0 (pc w.heap.size 37 (actC 2 x i g n) * (tblP p ps free * (refP q rs 0 * F))) (w.alloc (.cells #[vi 2, vi x, vi i, vu g, vi n] 37)) := h.alloc (.cells #[vi 2, vi x, vi i, vu g, vi n] 37)
  have c0 := hB.cell 0 rfl
  have c1 := hB.cell 1 rfl
  have c2 := hB.cell 2 rfl
  have c3 := hB.cell 3 rfl
  have c4 := hB.cell 4 rfl
  have H := Lib.hid hB
  have HNO := Lib.hid hno
  clear hB h hno
  have hE : getE ps i g = 0 ∨ getE ps i g = 11 := by
    unfold getE
    cases isAt ps i g
    · exact .inr rfl
    · exact .inl rfl
  go_enter Try.func11, Try.ntmps11
  go_wp2_with fail
  generalize hwb : w.alloc (.cells #[vi 2, vi x, vi i, vu g, vi n] 37) = wb at *
  generalize w.heap.size = bx at *
  clear hwb
  have HG := Lib.hid (get_ H.out.pull2 i g)
  generalize getX ps i g = gx at *
  generalize getE ps i g = ge at *
  by_cases hx : gx = 0
  · subst hx
    rcases hE with rfl | rfl
    all_goals
      go_wp2_with (first
        | (go_at_call 24; refine HG.out.mono ?_; rintro e w1 ⟨rfl, hS1⟩; have d2 := hS1.pull2.cell 2 rfl; have d3 := hS1.pull2.cell 3 rfl; have H1 := Lib.hid hS1; clear hS1)
        | (go_at_call 25; refine (rget_no H1.out.pull3 hs i g (HNO.out i g)).mono ?_; rintro e w2 ⟨rfl, hS2⟩; have H2 := Lib.hid hS2; clear hS2))
      go_ret
      exact ⟨_, _, _, rfl, Step.refl _, H2.out.dropL.drop2⟩
  · have hx' : (gx == 0) = false := beq_eq_false_iff_ne.2 hx
    go_wp2_with (first
      | (go_at_call 24; refine HG.out.mono ?_; rintro e w1 ⟨rfl, hS1⟩; have d2 := hS1.pull2.cell 2 rfl; have d3 := hS1.pull2.cell 3 rfl; have H1 := Lib.hid hS1; clear hS1)
      | (go_at_call 25; refine (rget_no H1.out.pull3 hs i g (HNO.out i g)).mono ?_; rintro e w2 ⟨rfl, hS2⟩; have H2 := Lib.hid hS2; clear hS2))
    go_ret
    exact ⟨_, _, _, rfl, Step.refl _, H2.out.dropL.drop2⟩

set_option maxRecDepth 100000 in
set_option maxHeartbeats 1000000 in
theorem doStale3 {rs : List RP} (h : Sat w0 (tblP p ps free * (refP q rs 0 * F)) w) (hs : rs.length ≤ 4096) (hno : ∀ i g, isR rs i g = none) (x i g n : Int) :
    Calls Try.prog 11 #[vp p, vp q, .agg #[vi 3, vi x, vi i, vu g, vi n]] w (DoStale w0 p ps F) := by
  have hB : Sat w0 (pc w.heap.size 37 (actC 3 x i g n) * (tblP p ps free * (refP q rs 0 * F))) (w.alloc (.cells #[vi 3, vi x, vi i, vu g, vi n] 37)) := h.alloc (.cells #[vi 3, vi x, vi i, vu g, vi n] 37)
  have c0 := hB.cell 0 rfl
  have c1 := hB.cell 1 rfl
  have c2 := hB.cell 2 rfl
  have c3 := hB.cell 3 rfl
  have c4 := hB.cell 4 rfl
  have H := Lib.hid hB
  have HNO := Lib.hid hno
  clear hB h hno
  go_enter Try.func11, Try.ntmps11
  go_wp2_with fail
  generalize hwb : w.alloc (.cells #[vi 3, vi x, vi i, vu g, vi n] 37) = wb at *
  generalize w.heap.size = bx at *
  clear hwb
  go_region_held3 (fun w' => w'.cell? ⟨bx, 1, none⟩ = some (vi x) ∧ w'.cell? ⟨bx, 2, none⟩ = some (vi i) ∧ w'.cell? ⟨bx, 3, none⟩ = some (vu g))
    (first | exact ⟨d1, d2, d3⟩ | exact ⟨e1, e2, e3⟩ | go_keep)
    (first
      | (go_at_call 26; refine (set_ (H.out.drewN 1).pull2 i g x).mono ?_; rintro e w1 ⟨rfl, hS1⟩; have d1 := hS1.pull2.cell 1 rfl; have d2 := hS1.pull2.cell 2 rfl; have d3 := hS1.pull2.cell 3 rfl; have H1 := Lib.hid hS1; clear hS1)
      | (go_at_call 27; refine (rset_no H1.out.pull3 hs i g x (HNO.out i g)).mono ?_; rintro e w2 ⟨rfl, hS2⟩; have e1 := hS2.pull3.cell 1 rfl; have e2 := hS2.pull3.cell 2 rfl; have e3 := hS2.pull3.cell 3 rfl; have H2 := Lib.hid hS2; clear hS2))
  go_wp2
  go_ret
  exact ⟨_, _, _, rfl, step_setP ps i g x, H2.out.dropL.drop2⟩

set_option maxRecDepth 100000 in
set_option maxHeartbeats 1000000 in
theorem doStale4 {rs : List RP} (h : Sat w0 (tblP p ps free * (refP q rs 0 * F)) w) (hs : rs.length ≤ 4096) (hno : ∀ i g, isR rs i g = none) (x i g n : Int) :
    Calls Try.prog 11 #[vp p, vp q, .agg #[vi 4, vi x, vi i, vu g, vi n]] w (DoStale w0 p ps F) := by
  have hB : Sat w0 (pc w.heap.size 37 (actC 4 x i g n) * (tblP p ps free * (refP q rs 0 * F))) (w.alloc (.cells #[vi 4, vi x, vi i, vu g, vi n] 37)) := h.alloc (.cells #[vi 4, vi x, vi i, vu g, vi n] 37)
  have c0 := hB.cell 0 rfl
  have c1 := hB.cell 1 rfl
  have c2 := hB.cell 2 rfl
  have c3 := hB.cell 3 rfl
  have c4 := hB.cell 4 rfl
  have H := Lib.hid hB
  have HNO := Lib.hid hno
  clear hB h hno
  go_enter Try.func11, Try.ntmps11
  go_wp2_with fail
  generalize hwb : w.alloc (.cells #[vi 4, vi x, vi i, vu g, vi n] 37) = wb at *
  generalize w.heap.size = bx at *
  clear hwb
  go_region_held3 (fun w' => w'.cell? ⟨bx, 2, none⟩ = some (vi i) ∧ w'.cell? ⟨bx, 3, none⟩ = some (vu g))
    (first | exact ⟨d2, d3⟩ | exact ⟨e2, e3⟩ | go_keep)
    (first
      | (go_at_call 15; refine (drop_ (H.out.drewN 1).pull2 i g).mono ?_; rintro e w1 ⟨rfl, hS1⟩; have d2 := hS1.pull2.cell 2 rfl; have d3 := hS1.pull2.cell 3 rfl; have H1 := Lib.hid hS1; clear hS1)
      | (go_at_call 28; refine (rdrop_no H1.out.pull3 hs i g (HNO.out i g)).mono ?_; rintro e w2 ⟨rfl, hS2⟩; have e2 := hS2.pull3.cell 2 rfl; have e3 := hS2.pull3.cell 3 rfl; have H2 := Lib.hid hS2; clear hS2))
  go_wp2
  go_ret
  exact ⟨_, _, _, rfl, step_dropped ps free i g, H2.out.dropL.drop2⟩

set_option maxRecDepth 100000 in
set_option maxHeartbeats 1000000 in
theorem doStale5 {rs : List RP} (h : Sat w0 (tblP p ps free * (refP q rs 0 * F)) w) (hs : rs.length ≤ 4096) (hno : ∀ i g, isR rs i g = none) (x i g n : Int) :
    Calls Try.prog 11 #[vp p, vp q, .agg #[vi 5, vi x, vi i, vu g, vi n]] w (DoStale w0 p ps F) := by
  have hB : Sat w0 (pc w.heap.size 37 (actC 5 x i g n) * (tblP p ps free * (refP q rs 0 * F))) (w.alloc (.cells #[vi 5, vi x, vi i, vu g, vi n] 37)) := h.alloc (.cells #[vi 5, vi x, vi i, vu g, vi n] 37)
  have c0 := hB.cell 0 rfl
  have c1 := hB.cell 1 rfl
  have c2 := hB.cell 2 rfl
  have c3 := hB.cell 3 rfl
  have c4 := hB.cell 4 rfl
  have H := Lib.hid hB
  have HNO := Lib.hid hno
  clear hB h hno
  obtain ⟨ai, ag, ab, hat⟩ := atV_form ps n
  have HA := Lib.hid hat
  clear hat
  go_enter Try.func11, Try.ntmps11
  go_wp2_with fail
  generalize hwb : w.alloc (.cells #[vi 5, vi x, vi i, vu g, vi n] 37) = wb at *
  generalize w.heap.size = bx at *
  clear hwb
  go_wp2_with (go_at_call 14; refine (at_ H.out.pull2 n).mono ?_; rw [HA.out]; rintro e w1 ⟨rfl, hS⟩; have hT : Sat w0 (pc w1.heap.size 35 [vi ai, vu ag] * (tblP p ps free * (pc bx 37 (actC 5 x i g n) * (refP q rs 0 * F)))) (w1.alloc (.cells #[vi ai, vu ag] 35)) := hS.alloc _; have H1 := Lib.hid hT; clear hS hT)
  have r0 := H1.out.cell 0 rfl
  have r1 := H1.out.cell 1 rfl
  generalize w1.alloc (.cells #[vi ai, vu ag] 35) = wc at *
  generalize w1.heap.size = br at *
  go_region_held3 (fun w' => w'.cell? ⟨br, 0, none⟩ = some (vi ai) ∧ w'.cell? ⟨br, 1, none⟩ = some (vu ag))
    (first | exact ⟨d2, d3⟩ | exact ⟨e2, e3⟩ | go_keep)
    (first
      | (go_at_call 15; refine (drop_ (H1.out.drewN 1).pull2 ai ag).mono ?_; rintro e w2 ⟨rfl, hS1⟩; have d2 := hS1.pull2.cell 0 rfl; have d3 := hS1.pull2.cell 1 rfl; have H2 := Lib.hid hS1; clear hS1)
      | (go_at_call 28; refine (rdrop_no H2.out.pull4 hs ai ag (HNO.out ai ag)).mono ?_; rintro e w3 ⟨rfl, hS2⟩; have e2 := hS2.pull3.cell 0 rfl; have e3 := hS2.pull3.cell 1 rfl; have H3 := Lib.hid hS2; clear hS2))
  go_wp2
  go_ret
  exact ⟨_, _, _, rfl, step_dropped ps free ai ag, H3.out.dropL.drop2.drop2⟩

set_option maxRecDepth 100000 in
set_option maxHeartbeats 1000000 in
theorem doStale0 {rs : List RP} (h : Sat w0 (tblP p ps free * (refP q rs 0 * F)) w) (hs : rs.length ≤ 4096) (hno : ∀ i g, isR rs i g = none) (k x i g n : Int) (hk : k ≠ 1) (hk2 : k ≠ 2) (hk3 : k ≠ 3) (hk4 : k ≠ 4) (hk5 : k ≠ 5) :
    Calls Try.prog 11 #[vp p, vp q, .agg #[vi k, vi x, vi i, vu g, vi n]] w (DoStale w0 p ps F) := by
  have hB : Sat w0 (pc w.heap.size 37 (actC k x i g n) * (tblP p ps free * (refP q rs 0 * F))) (w.alloc (.cells #[vi k, vi x, vi i, vu g, vi n] 37)) := h.alloc (.cells #[vi k, vi x, vi i, vu g, vi n] 37)
  have c0 := hB.cell 0 rfl
  have c1 := hB.cell 1 rfl
  have c2 := hB.cell 2 rfl
  have c3 := hB.cell 3 rfl
  have c4 := hB.cell 4 rfl
  have H := Lib.hid hB
  have k2 : (k == 2) = false := beq_eq_false_iff_ne.2 hk2
  have k3 : (k == 3) = false := beq_eq_false_iff_ne.2 hk3
  have k4 : (k == 4) = false := beq_eq_false_iff_ne.2 hk4
  have k5 : (k == 5) = false := beq_eq_false_iff_ne.2 hk5
  have k1 : (k == 1) = false := beq_eq_false_iff_ne.2 hk
  have HNO := Lib.hid hno
  clear hB h hno
  go_enter Try.func11, Try.ntmps11
  go_wp2
  go_ret
  exact ⟨_, _, _, rfl, Step.refl _, H.out.dropL.drop2⟩

theorem doStale {rs : List RP} (h : Sat w0 (tblP p ps free * (refP q rs 0 * F)) w) (hs : rs.length ≤ 4096) (hno : ∀ i g, isR rs i g = none) (k x i g n : Int) (hk : k ≠ 1) :
    Calls Try.prog 11 #[vp p, vp q, .agg #[vi k, vi x, vi i, vu g, vi n]] w (DoStale w0 p ps F) := by
  by_cases hk2 : k = 2
  · subst hk2; exact doStale2 h hs hno x i g n
  by_cases hk3 : k = 3
  · subst hk3; exact doStale3 h hs hno x i g n
  by_cases hk4 : k = 4
  · subst hk4; exact doStale4 h hs hno x i g n
  by_cases hk5 : k = 5
  · subst hk5; exact doStale5 h hs hno x i g n
  exact doStale0 h hs hno k x i g n hk hk2 hk3 hk4 hk5
end
end Go.Proofs.Ytjealmaddjepnaa.Ar
