/-
  Contracts of runq.Queue. No statement is proved here.
-/
import Derived.Test.YtjgemfgneiaabaaGreatMg3
namespace Go.Proofs.YtjgemfgneiaabaaGreat.Rq
open Go.RowKit
set_option linter.unusedVariables false

/-- A queue: its block, its ring. -/
abbrev quB (q r : Nat) (z : Int) (b : Bool) : Hp := pc q 119 [vp r, vi z, .bool b]

section
variable {w0 w : World} {F : Hp} {q r m : Nat} {z : Int} {b : Bool} {xs : List Int}
theorem q_none (h : Sat w0 (quB q r z b * F) w) :
    Calls Tryz.prog 90 #[vp q] w fun e w' => e = .returned (.bool false) ∧ w = w' := by
  have c0 := h.cell 0 rfl
  clear h
  go_enter Tryz.func90, Tryz.ntmps90
  go_wp2
  go_ret
  exact ⟨rfl, rfl⟩
theorem q_new_no (n : Int) (hn : n < 2 ∨ 4096 < n) (w : World) :
    Calls Tryz.prog 20 #[vi n] w fun e w' => e = .returned (.tuple #[.pointer none, vi 2]) ∧ w = w' := by
  by_cases h1 : n < 2
  · go_enter Tryz.func20, Tryz.ntmps20
    go_wp2
    go_ret2
    exact ⟨rfl, rfl⟩
  · have h2 := Lib.hid (ring_new_no n (by omega) w)
    go_enter Tryz.func20, Tryz.ntmps20
    go_wp2_with (go_at_call 77; refine h2.out.mono ?_; rintro e w' ⟨rfl, rfl⟩)
    go_ret2
    exact ⟨rfl, rfl⟩
theorem q_new (n : Nat) (h1 : 2 ≤ n) (h2 : n ≤ 4096) (h : Sat w0 F w) :
    Calls Tryz.prog 20 #[vi n] w fun e w' => ∃ q r, e = .returned (.tuple #[vp q, vi 0]) ∧ Sat w0 (quB q r 0 false * (ringP r n [] * F)) w' := by
  have h3 : ¬ (n : Int) < 2 := by omega
  have HN := Lib.hid (ring_new (n : Int) (by omega) (by omega) h)
  clear h
  go_enter Tryz.func20, Tryz.ntmps20
  go_wp2_with (go_at_call 77; refine HN.out.mono ?_; rintro e w1 ⟨r, rfl, hS⟩; have H1 := Lib.hid (hS.alloc (.cells #[vp r, vi 0, .bool false] 119)); clear hS)
  go_ret2
  exact ⟨_, r, rfl, H1.out⟩

def putL (m : Nat) (xs : List Int) (g : Int) : List Int := if xs.length < m then xs ++ [g] else xs.drop ((m + 1) / 2)
def spillL (m : Nat) (xs : List Int) (g : Int) : List Int := if xs.length < m then [] else xs.take ((m + 1) / 2) ++ [g]
set_option maxRecDepth 100000 in
set_option maxHeartbeats 1000000 in
theorem q_put (h : Sat w0 (quB q r z b * (ringP r m xs * F)) w) (g : Int) :
    Calls Tryz.prog 51 #[vp q, vi g] w fun e w' => ∃ v, e = .returned v ∧ Sat w0 (sl 3 1 v (spillL m xs g).length ((spillL m xs g).map vi) * (quB q r z b * (ringP r m (putL m xs g) * F))) w' := by
  have hrl := h.pull2.ringLen
  have c0 := h.cell 0 rfl
  have HN := Lib.hid (q_none h)
  have HP := Lib.hid (ring_push h.pull2 g)
  by_cases hlt : xs.length < m
  · rw [show pushE m xs = 0 from if_neg (by omega), show pushL m xs g = xs ++ [g] from if_neg (by omega)] at HP
    rw [putL, spillL, if_pos hlt, if_pos hlt]
    clear h
    go_enter Tryz.func51, Tryz.ntmps51
    go_wp2_with (first
      | (go_at_call 90; refine HN.out.mono ?_; rintro e w' ⟨rfl, rfl⟩)
      | (go_at_call 94; refine HP.out.mono ?_; rintro e w1 ⟨rfl, hS⟩; have H1 := Lib.hid hS; clear hS))
    go_ret
    exact ⟨_, rfl, H1.out.pull2.addNil 3 1⟩
  · have hful : xs.length = m := by omega
    rw [show pushE m xs = 3 from if_pos hful, show pushL m xs g = xs from if_pos hful] at HP
    rw [putL, spillL, if_neg hlt, if_neg hlt]
    obtain ⟨half, hh⟩ : ∃ half : Nat, (m + 1) / 2 = half := ⟨_, rfl⟩
    have hhi : ((m : Int) + 1) / 2 = (half : Int) := by omega
    have htk : takeK (half : Int) xs = half := by unfold takeK; omega
    have hle : half ≤ xs.length := by omega
    rw [hh]
    clear h hh
    go_enter Tryz.func51, Tryz.ntmps51
    go_wp2_with (first
      | (go_at_call 90; refine HN.out.mono ?_; rintro e w' ⟨rfl, rfl⟩)
      | (go_at_call 94; refine HP.out.mono ?_; rintro e w1 ⟨rfl, hS⟩; have H1 := Lib.hid hS; have c1 := hS.pull2.cell 0 rfl; clear hS)
      | (go_at_call 95; refine (ring_most H1.out).mono ?_; rintro e w' ⟨rfl, rfl⟩))
    rw [hhi]
    have HT := Lib.hid (ring_take H1.out (half : Int))
    rw [htk] at HT
    refine HT.out.mono ?_
    rintro e w2 ⟨v2, rfl, hS2⟩
    obtain ⟨ao2, cap2, rfl⟩ := hS2.rd.len
    have hcap := hS2.capOk
    have hcap1 : (half : Int) ≤ (cap2 : Int) := by have := hcap.1; omega
    have hcap2 : half ≤ cap2 := hcap.1
    have H2 := hS2.slPre' (k := half) (Nat.le_refl _)
    rw [List.take_of_length_le (by simp; omega)] at H2
    have H3 := Lib.hid H2
    clear hS2 H2 hcap
    have hlt2 : (xs.take half).length = half := by rw [List.length_take]; omega
    go_wp2_with (at_builtin; refine wpList_append_sl Einti rfl (.tmp 34) (.tmp 36) rfl rfl (H3.out.alloc' _) (by rfl) (Rd.one _ _ _) (by simp [Value.oneCell']) (by unfold maxLen; omega) (by omega) ?_; intro ao7 cap7 w7 hS7; have H7 := Lib.hid hS7; clear hS7)
    go_ret
    refine ⟨_, rfl, ?_⟩
    rw [show (xs.take half ++ [g]).length = half + 1 by simp; omega, List.map_append]
    exact H7.out.cast (by ac_rfl)
/-- A queue's PutNext: who is spilled, what the ring has. -/
def nextS (m : Nat) (xs : List Int) (z : Int) (b : Bool) : List Int := if b then spillL m xs z else []
def nextL (m : Nat) (xs : List Int) (z : Int) (b : Bool) : List Int := if b then putL m xs z else xs
set_option maxRecDepth 100000 in
set_option maxHeartbeats 1000000 in
theorem q_putnext (h : Sat w0 (quB q r z b * (ringP r m xs * F)) w) (g : Int) :
    Calls Tryz.prog 47 #[vp q, vi g] w fun e w' => ∃ v, e = .returned v ∧ Sat w0 (sl 3 1 v (nextS m xs z b).length ((nextS m xs z b).map vi) * (quB q r g true * (ringP r m (nextL m xs z b) * F))) w' := by
  have c1 := h.cell 1 rfl
  have c2 := h.cell 2 rfl
  have f1 := h.free 1
  have f2 := h.free 2
  have HN := Lib.hid (q_none h)
  cases b with
  | false =>
    have h1 := (h.store 1 (vi g)).store 2 (.bool true)
    have H1 := Lib.hid (h1.addNil 3 1)
    clear h h1
    go_enter Tryz.func47, Tryz.ntmps47
    go_wp2_with (go_at_call 90; refine HN.out.mono ?_; rintro e w' ⟨rfl, rfl⟩)
    go_ret
    exact ⟨_, rfl, H1.out⟩
  | true =>
    have HP := Lib.hid (q_put h z)
    clear h f1 f2
    go_enter Tryz.func47, Tryz.ntmps47
    go_wp2_with (first
      | (go_at_call 90; refine HN.out.mono ?_; rintro e w' ⟨rfl, rfl⟩)
      | (go_at_call 51; refine HP.out.mono ?_; rintro e w1 ⟨v1, rfl, hS⟩; have d1 := hS.pull2.cell 1 rfl; have d2 := hS.pull2.cell 2 rfl; have f1 := hS.pull2.free 1; have f2 := hS.pull2.free 2; have H1 := Lib.hid ((hS.pull2.store 1 (vi g)).store 2 (.bool true)); clear hS))
    go_ret
    exact ⟨_, rfl, H1.out.pull2⟩
theorem results_tmp4 {fn : Func} {t u v x : Tmp} (h : fn.results = #[.tmp t, .tmp u, .tmp v, .tmp x]) (tmps : Array Value) (P : Program) (w : World) :
    (results fn tmps).run P w = .ok (.tuple #[tmps.getD t undef, tmps.getD u undef, tmps.getD v undef, tmps.getD x undef]) w := by
  simp [results, h]
/-- A queue's Take where nobody inherits. -/
def tookL (m : Nat) (xs : List Int) (z : Int) (b : Bool) : List Int := nextL m xs z b
set_option maxRecDepth 100000 in
set_option maxHeartbeats 1000000 in
theorem q_take_in (h : Sat w0 (quB q r z true * (ringP r m xs * F)) w) :
    Calls Tryz.prog 85 #[vp q, .bool true] w fun e w' => e = .returned (.tuple #[vi z, .bool true, .slice none 0 0, .bool true]) ∧ Sat w0 (quB q r z false * (ringP r m xs * F)) w' := by
  have c1 := h.cell 1 rfl
  have c2 := h.cell 2 rfl
  have f2 := h.free 2
  have HN := Lib.hid (q_none h)
  have H1 := Lib.hid (h.store 2 (.bool false))
  clear h
  go_enter Tryz.func85, Tryz.ntmps85
  go_wp2_with (go_at_call 90; refine HN.out.mono ?_; rintro e w' ⟨rfl, rfl⟩)
  (try simp only [Exit.inBlock, Exit.then]); refine bodyPost_ret (results_tmp4 rfl _ _ _) rfl ?_
  exact ⟨rfl, H1.out⟩
set_option maxRecDepth 100000 in
set_option maxHeartbeats 1000000 in
theorem q_take (h : Sat w0 (quB q r z b * (ringP r m xs * F)) w) (c : Bool) (hc : (b && c) = false) :
    Calls Tryz.prog 85 #[vp q, .bool c] w fun e w' => ∃ v, e = .returned (.tuple #[vi ((nextL m xs z b).headD 0), .bool false, v, .bool !(nextL m xs z b).isEmpty]) ∧
      Sat w0 (sl 3 1 v (nextS m xs z b).length ((nextS m xs z b).map vi) * (quB q r z false * (ringP r m (nextL m xs z b).tail * F))) w' := by
  have c0 := h.cell 0 rfl
  have c1 := h.cell 1 rfl
  have c2 := h.cell 2 rfl
  have f2 := h.free 2
  have HN := Lib.hid (q_none h)
  obtain ⟨x, hx⟩ : ∃ x, (nextL m xs z b).headD 0 = x := ⟨_, rfl⟩
  obtain ⟨t, ht⟩ : ∃ t, (!(nextL m xs z b).isEmpty) = t := ⟨_, rfl⟩
  have HPP : Hid (∀ w (G : Hp), Sat w0 (ringP r m (nextL m xs z b) * G) w → Calls Tryz.prog 107 #[vp r] w fun e w' => e = .returned (.tuple #[vi x, .bool t]) ∧ Sat w0 (ringP r m (nextL m xs z b).tail * G) w') := Lib.hid fun w G h => by
    rw [← hx, ← ht]
    exact ring_pop h
  rw [hx, ht]
  clear hx ht
  cases b with
  | false =>
    have HP := Lib.hid (HPP.out _ _ h.pull2)
    clear h HPP
    generalize (nextL m xs z false).tail = L at *
    go_enter Tryz.func85, Tryz.ntmps85
    go_wp2_with (first
      | (go_at_call 90; refine HN.out.mono ?_; rintro e w' ⟨rfl, rfl⟩)
      | (go_at_call 107; refine HP.out.mono ?_; rintro e w1 ⟨rfl, hS⟩; have H1 := Lib.hid (hS.pull2.addNil 3 1); clear hS))
    (try simp only [Exit.inBlock, Exit.then]); refine bodyPost_ret (results_tmp4 rfl _ _ _) rfl ?_
    exact ⟨_, rfl, H1.out⟩
  | true =>
    cases c with
    | true => cases hc
    | false =>
      have HP := Lib.hid (q_put (h.store 2 (.bool false)) z)
      have HPQ : Hid (∀ w (G : Hp), Sat w0 (ringP r m (putL m xs z) * G) w → Calls Tryz.prog 107 #[vp r] w fun e w' => e = .returned (.tuple #[vi x, .bool t]) ∧ Sat w0 (ringP r m (nextL m xs z true).tail * G) w') := HPP
      clear h HPP
      generalize (nextL m xs z true).tail = L at *
      go_enter Tryz.func85, Tryz.ntmps85
      go_wp2_with (first
        | (go_at_call 90; refine HN.out.mono ?_; rintro e w' ⟨rfl, rfl⟩)
        | (go_at_call 51; refine HP.out.mono ?_; rintro e w1 ⟨v1, rfl, hS⟩; have d0 := hS.pull2.cell 0 rfl; have H1 := Lib.hid hS; clear hS)
        | (go_at_call 107; refine (HPQ.out _ _ H1.out.pull3).mono ?_; rintro e w2 ⟨rfl, hS⟩; have H2 := Lib.hid hS.rot3; clear hS))
      (try simp only [Exit.inBlock, Exit.then]); refine bodyPost_ret (results_tmp4 rfl _ _ _) rfl ?_
      exact ⟨_, rfl, H2.out⟩
set_option maxHeartbeats 1000000 in
theorem q_remove_next (h : Sat w0 (quB q r z true * (ringP r m xs * F)) w) :
    Calls Tryz.prog 81 #[vp q, vi z] w fun e w' => e = .returned (.bool true) ∧ Sat w0 (quB q r z false * (ringP r m xs * F)) w' := by
  have c0 := h.cell 0 rfl
  have c1 := h.cell 1 rfl
  have c2 := h.cell 2 rfl
  have f2 := h.free 2
  have HN := Lib.hid (q_none h)
  have H1 := Lib.hid (h.store 2 (.bool false))
  clear h
  go_enter Tryz.func81, Tryz.ntmps81
  go_wp2_with (go_at_call 90; refine HN.out.mono ?_; rintro e w' ⟨rfl, rfl⟩)
  go_ret
  exact ⟨rfl, H1.out⟩
set_option maxHeartbeats 1000000 in
theorem q_remove (h : Sat w0 (quB q r z b * (ringP r m xs * F)) w) (g : Int) (hc : ¬ (b = true ∧ z = g)) :
    Calls Tryz.prog 81 #[vp q, vi g] w fun e w' => e = .returned (.bool (decide (g ∈ xs))) ∧ Sat w0 (quB q r z b * (ringP r m (xs.erase g) * F)) w' := by
  have c0 := h.cell 0 rfl
  have c1 := h.cell 1 rfl
  have c2 := h.cell 2 rfl
  have HN := Lib.hid (q_none h)
  have HP := Lib.hid (ring_remove h.pull2 g)
  clear h
  cases b with
  | false =>
    clear hc
    go_enter Tryz.func81, Tryz.ntmps81
    go_wp2_with (first
      | (go_at_call 90; refine HN.out.mono ?_; rintro e w' ⟨rfl, rfl⟩)
      | (go_at_call 102; refine HP.out.mono ?_; rintro e w1 ⟨rfl, hS⟩; have H1 := Lib.hid hS.pull2; clear hS))
    go_ret
    exact ⟨rfl, H1.out⟩
  | true =>
    have hz : (z == g) = false := beq_eq_false_iff_ne.2 fun e => hc ⟨rfl, e⟩
    clear hc
    go_enter Tryz.func81, Tryz.ntmps81
    go_wp2_with (first
      | (go_at_call 90; refine HN.out.mono ?_; rintro e w' ⟨rfl, rfl⟩)
      | (go_at_call 102; refine HP.out.mono ?_; rintro e w1 ⟨rfl, hS⟩; have H1 := Lib.hid hS.pull2; clear hS))
    go_ret
    exact ⟨rfl, H1.out⟩
set_option maxHeartbeats 1000000 in
theorem q_has (h : Sat w0 (quB q r z b * (ringP r m xs * F)) w) (g : Int) :
    Calls Tryz.prog 57 #[vp q, vi g] w fun e w' => e = .returned (.bool (b && z == g || decide (g ∈ xs))) ∧ Sat w0 (quB q r z b * (ringP r m xs * F)) w' := by
  have c0 := h.cell 0 rfl
  have c1 := h.cell 1 rfl
  have c2 := h.cell 2 rfl
  have HN := Lib.hid (q_none h)
  by_cases hc : b = true ∧ z = g
  · obtain ⟨rfl, rfl⟩ := hc
    have H1 := Lib.hid h
    clear h
    go_enter Tryz.func57, Tryz.ntmps57
    go_wp2_with (go_at_call 90; refine HN.out.mono ?_; rintro e w' ⟨rfl, rfl⟩)
    go_ret
    exact ⟨by simp, H1.out⟩
  · have HP := Lib.hid (ring_has h.pull2 g)
    have he : (b && z == g || decide (g ∈ xs)) = decide (g ∈ xs) := by
      cases b with
      | false => rfl
      | true =>
        have hz : (z == g) = false := beq_eq_false_iff_ne.2 fun e => hc ⟨rfl, e⟩
        rw [hz]
        rfl
    rw [he]
    clear h he
    cases b with
    | false =>
      clear hc
      go_enter Tryz.func57, Tryz.ntmps57
      go_wp2_with (first
        | (go_at_call 90; refine HN.out.mono ?_; rintro e w' ⟨rfl, rfl⟩)
        | (go_at_call 97; refine HP.out.mono ?_; rintro e w1 ⟨rfl, hS⟩; have H1 := Lib.hid hS.pull2; clear hS))
      go_ret
      exact ⟨rfl, H1.out⟩
    | true =>
      have hz : (z == g) = false := beq_eq_false_iff_ne.2 fun e => hc ⟨rfl, e⟩
      clear hc
      go_enter Tryz.func57, Tryz.ntmps57
      go_wp2_with (first
        | (go_at_call 90; refine HN.out.mono ?_; rintro e w' ⟨rfl, rfl⟩)
        | (go_at_call 97; refine HP.out.mono ?_; rintro e w1 ⟨rfl, hS⟩; have H1 := Lib.hid hS.pull2; clear hS))
      go_ret
      exact ⟨rfl, H1.out⟩
theorem q_next (h : Sat w0 (quB q r z b * F) w) :
    Calls Tryz.prog 55 #[vp q] w fun e w' => e = .returned (.tuple #[vi (if b then z else 0), .bool b]) ∧ w = w' := by
  have c1 := h.cell 1 rfl
  have c2 := h.cell 2 rfl
  have HN := Lib.hid (q_none h)
  clear h
  cases b
  all_goals
    go_enter Tryz.func55, Tryz.ntmps55
    go_wp2_with (go_at_call 90; refine HN.out.mono ?_; rintro e w' ⟨rfl, rfl⟩)
    go_ret2
    exact ⟨rfl, rfl⟩
def allQ (xs : List Int) (z : Int) (b : Bool) : List Int := if b then z :: xs else xs
set_option maxRecDepth 100000 in
set_option maxHeartbeats 1000000 in
theorem q_all (h : Sat w0 (quB q r z b * (ringP r m xs * F)) w) :
    Calls Tryz.prog 66 #[vp q] w fun e w' => ∃ v, e = .returned v ∧ Sat w0 (sl 3 1 v (allQ xs z b).length ((allQ xs z b).map vi) * (quB q r z b * (ringP r m xs * F))) w' := by
  have hrl := h.pull2.ringLen
  have c0 := h.cell 0 rfl
  have c1 := h.cell 1 rfl
  have c2 := h.cell 2 rfl
  have HN := Lib.hid (q_none h)
  have hone := Lib.hid (oneI xs)
  cases b with
  | false =>
    have HA := Lib.hid (ring_all (h.addNil 3 1).pull3)
    clear h
    go_enter Tryz.func66, Tryz.ntmps66
    go_wp2_with (first
      | (go_at_call 90; refine HN.out.mono ?_; rintro e w' ⟨rfl, rfl⟩)
      | (go_at_call 99; refine HA.out.mono ?_; rintro e w1 ⟨v1, rfl, hS⟩; have H1 := Lib.hid hS; clear hS)
      | (at_builtin; refine wpList_append_sl Einti rfl (.tmp 16) (.tmp 21) rfl rfl H1.out.pull3 (by rfl) H1.out.rd hone.out (by unfold maxLen; omega) (by omega) ?_; intro ao7 cap7 w7 hS7; have H7 := Lib.hid hS7; clear hS7))
    go_ret
    refine ⟨.slice ao7 xs.length cap7, by simp, ?_⟩
    have h8 := H7.out.drop2
    simp only [Nat.zero_add, List.nil_append] at h8
    exact h8.cast (by unfold allQ; ac_rfl)
  | true =>
    have HA : Hid (∀ ao cap w', Sat w0 (sl 3 1 (.slice ao 1 cap) 1 [vi z] * (quB q r z true * (ringP r m xs * F))) w' → Calls Tryz.prog 99 #[vp r] w' fun e w2 => ∃ v, e = .returned v ∧ Sat w0 (sl 3 1 v xs.length (xs.map vi) * (ringP r m xs * (sl 3 1 (.slice ao 1 cap) 1 [vi z] * (quB q r z true * F)))) w2) := Lib.hid fun ao cap w' h => ring_all h.pull3
    have H0 := Lib.hid (h.addNil 3 1)
    clear h
    go_enter Tryz.func66, Tryz.ntmps66
    go_wp2_with (first
      | (go_at_call 90; refine HN.out.mono ?_; rintro e w' ⟨rfl, rfl⟩)
      | (at_builtin; refine wpList_append_sl Einti rfl (.tmp 9) (.tmp 14) rfl rfl (H0.out.alloc' _) (by rfl) (Rd.one _ _ _) (by simp [Value.oneCell']) (by unfold maxLen; omega) (by omega) ?_; intro ao6 cap6 w6 hS6; simp only [Nat.zero_add, List.nil_append] at hS6; have d0 := hS6.pull2.pull2.pull2.cell 0 rfl; have H6 := Lib.hid hS6; clear hS6)
      | (go_at_call 99; refine (HA.out _ _ _ H6.out).mono ?_; rintro e w1 ⟨v1, rfl, hS⟩; have H1 := Lib.hid hS; clear hS)
      | (at_builtin; refine wpList_append_sl Einti rfl (.tmp 16) (.tmp 21) rfl rfl H1.out.pull3 (by rfl) H1.out.rd hone.out (by unfold maxLen; omega) (by omega) ?_; intro ao7 cap7 w7 hS7; have H7 := Lib.hid hS7; clear hS7))
    go_ret
    refine ⟨.slice ao7 (xs.length + 1) cap7, by simp [Nat.add_comm], ?_⟩
    have h8 := H7.out.drop2
    rw [Nat.add_comm] at h8
    exact h8.cast (by unfold allQ; ac_rfl)
end
end Go.Proofs.YtjgemfgneiaabaaGreat.Rq
