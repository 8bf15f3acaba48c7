/-
  Chapter 05: no queue; known; the walk of RunqNil. No statement is proved here.
-/
import Derived.Test.YtjgemfgneiaabaaGreatRq1
import Derived.WalkMore
namespace Go.Proofs.YtjgemfgneiaabaaGreat.Rq
open Go.RowKit
set_option linter.unusedVariables false

def TrueBelow (w0 : World) (e : Ending) (w' : World) : Prop := e = .returned (.bool true) ∧ Below w0.heap.size w0 w'
/-- There is no queue: nil, or a zero one. -/
def NoQ (w : World) (v : Value) : Prop := v = .pointer none ∨ ∃ z, v = vp z ∧ w.cell? ⟨z, 0, none⟩ = some (.pointer none)
theorem NoQ.nil (w : World) : NoQ w (.pointer none) := .inl rfl
theorem cell_lt {w : World} {a : Addr} {v : Value} (h : w.cell? a = some v) : a.block < w.heap.size := World.block_lt_of_cell? w _ h
theorem NoQ.below {w w' : World} {v : Value} (h : NoQ w v) (hb : Below w.heap.size w w') : NoQ w' v := by
  rcases h with h | ⟨z, rfl, hz⟩
  · exact .inl h
  · exact .inr ⟨z, rfl, (hb.cell (cell_lt hz)).trans hz⟩

section
variable {w : World} {v : Value}
end

section
variable {w0 w : World} {F : Hp}
theorem kn_put1 {q r : Nat} (h : Sat w0 (quB q r 0 false * (ringP r 2 [] * F)) w) : Calls Tryz.prog 51 #[vp q, vi 1] w fun e w' => ∃ v, e = .returned v ∧ Sat w0 (quB q r 0 false * (ringP r 2 [1] * F)) w' := (q_put h 1).mono fun e w' ⟨v, h1, h2⟩ => ⟨v, h1, h2.dropL⟩
theorem kn_put2 {q r : Nat} (h : Sat w0 (quB q r 0 false * (ringP r 2 [1] * F)) w) : Calls Tryz.prog 51 #[vp q, vi 2] w fun e w' => ∃ v, e = .returned v ∧ Sat w0 (quB q r 0 false * (ringP r 2 [1, 2] * F)) w' := (q_put h 2).mono fun e w' ⟨v, h1, h2⟩ => ⟨v, h1, h2.dropL⟩
theorem kn_put3 {q r : Nat} (h : Sat w0 (quB q r 0 false * (ringP r 2 [1, 2] * F)) w) : Calls Tryz.prog 51 #[vp q, vi 3] w fun e w' => ∃ v, e = .returned v ∧ Sat w0 (sl 3 1 v 2 [vi 1, vi 3] * (quB q r 0 false * (ringP r 2 [2] * F))) w' := (q_put h 3).mono fun e w' ⟨v, h1, h2⟩ => ⟨v, h1, h2⟩
theorem kn_next1 {q r : Nat} (h : Sat w0 (quB q r 0 false * (ringP r 2 [2] * F)) w) : Calls Tryz.prog 47 #[vp q, vi 1] w fun e w' => ∃ v, e = .returned v ∧ Sat w0 (quB q r 1 true * (ringP r 2 [2] * F)) w' := (q_putnext h 1).mono fun e w' ⟨v, h1, h2⟩ => ⟨v, h1, h2.dropL⟩
theorem kn_next4 {q r : Nat} (h : Sat w0 (quB q r 1 true * (ringP r 2 [2] * F)) w) : Calls Tryz.prog 47 #[vp q, vi 4] w fun e w' => ∃ v, e = .returned v ∧ Sat w0 (quB q r 4 true * (ringP r 2 [2, 1] * F)) w' := (q_putnext h 4).mono fun e w' ⟨v, h1, h2⟩ => ⟨v, h1, h2.dropL⟩
theorem kn_same {v : Value} (h : Sat w0 (sl 3 1 v 2 [vi 1, vi 3] * F) w) : Calls Tryz.prog 72 #[v, .slice (some ⟨w.heap.size, 0, none⟩) 2 2] (w.alloc (.cells #[vi 1, vi 3] 3)) fun e w' => e = .returned (.bool true) ∧ Below w0.heap.size w0 w' := by
  have h2 := h.alloc' (.cells #[vi 1, vi 3] 3)
  have hR : RdI (w.alloc (.cells #[vi 1, vi 3] 3)) (.slice (some ⟨w.heap.size, 0, none⟩) 2 2) [1, 3] := by
    refine ⟨rfl, .inr ⟨_, _, _, rfl, fun j u hj => ?_⟩⟩
    rcases j with _ | _ | j
    all_goals simp at hj
    all_goals (try (subst hj; simp))
  refine (ref_same [1, 3] [1, 3] _ _ _ h2.rd hR (by simp) (by simp)).mono ?_
  rintro e w' ⟨h3, k, rfl⟩
  exact ⟨h3, (h2.drewN k).below⟩
end
end Go.Proofs.YtjgemfgneiaabaaGreat.Rq

namespace Go.Proofs.YtjgemfgneiaabaaGreat.Rq
open Go.RowKit
set_option linter.unusedVariables false

/-- The reference's queue: its block. -/
abbrev rqB (q m : Nat) (vL vN : Value) : Hp := pc q 111 [vL, vi m, vN]
section
variable {w0 w : World} {F : Hp} {q m : Nat} {vL vN : Value} {xs : List Int}
theorem r_put_room (h : Sat w0 (rqB q m vL vN * (rs 3 vL (xs.map vi) * F)) w) (hlt : xs.length < m) (hm : m ≤ 4096) (g : Int) :
    Calls Tryz.prog 75 #[vp q, vi g] w fun e w' => ∃ v vL', e = .returned v ∧ Sat w0 (sl 3 1 v (spillL m xs g).length ((spillL m xs g).map vi) * (rqB q m vL' vN * (rs 3 vL' ((putL m xs g).map vi) * F))) w' := by
  have hR : RdI w vL xs := by
    have := h.pull2.rsRd
    rw [List.length_map] at this
    exact this
  obtain ⟨ao, cap, rfl⟩ := hR.len
  have c0 := h.cell 0 rfl
  have c1 := h.cell 1 rfl
  have hR' := Lib.hid hR
  have hS' := Lib.hid h
  rw [putL, spillL, if_pos hlt, if_pos hlt]
  clear h hR
  go_enter Tryz.func75, Tryz.ntmps75
  go_wp2
  go_quiet (fail)
  go_wp2_with (first | (at_builtin; refine wpList_append_sl Einti rfl (.const (.slice none 0 0)) (.tmp 21) rfl rfl ((hS'.out.drewN _).addNil 3 1) (by rfl) (hR'.out.drewN _) (by simp [Value.oneCell']) (by unfold maxLen; omega) (by omega) ?_; intro ao1 cap1 w1 hS1; simp only [Nat.zero_add, List.nil_append] at hS1) | (at_builtin; refine wpList_append_sl Einti rfl (.tmp 22) (.tmp 24) rfl rfl (hS1.alloc' _) (by rfl) (Rd.one _ _ _) (by simp [Value.oneCell']) (by unfold maxLen; omega) (by omega) ?_; intro ao2 cap2 w2 hS2; have d2 := (hS2.dropL).cell 0 rfl; have f2 := hS2.dropL.free 0))
  go_ret
  have h3 := (hS2.pull2.store 0 (.slice ao2 (xs.length + 1) cap2)).drop3
  have h4 := h3.in2 Sat.rsOfSl
  exact ⟨_, .slice ao2 (xs.length + 1) cap2, rfl, (h4.addNil 3 1).cast (by simp)⟩
set_option maxRecDepth 100000 in
set_option maxHeartbeats 2000000 in
theorem r_put_full (h : Sat w0 (rqB q m vL vN * (rs 3 vL (xs.map vi) * F)) w) (hful : xs.length = m) (hm1 : 2 ≤ m) (hm : m ≤ 4096) (g : Int) :
    Calls Tryz.prog 75 #[vp q, vi g] w fun e w' => ∃ v vL', e = .returned v ∧ Sat w0 (sl 3 1 v (spillL m xs g).length ((spillL m xs g).map vi) * (rqB q m vL' vN * (rs 3 vL' ((putL m xs g).map vi) * F))) w' := by
  have hR : RdI w vL xs := by
    have := h.pull2.rsRd
    rw [List.length_map] at this
    exact this
  have hcp : ∃ b off cap, vL = .slice (some ⟨b, off, none⟩) xs.length cap ∧ xs.length ≤ cap := by
    rcases h.pull2.rsE with ⟨_, h0, _⟩ | ⟨b, off, cap, cur, hv, h1, _⟩
    · have : xs = [] := by simpa using h0
      rw [this] at hful
      simp at hful
      omega
    · rw [List.length_map] at hv h1
      exact ⟨b, off, cap, hv, h1⟩
  obtain ⟨b, off, cap, rfl, hcap⟩ := hcp
  have c0 := h.cell 0 rfl
  have c1 := h.cell 1 rfl
  have hS' := Lib.hid h
  obtain ⟨half, hh⟩ : ∃ half : Nat, (m + 1) / 2 = half := ⟨_, rfl⟩
  have hhi : (m : Int) / 2 + (m : Int) % 2 = (half : Int) := by omega
  have hle : half ≤ xs.length := by omega
  have hpos : 1 ≤ half := by omega
  have hne : xs.length ≠ 0 := by omega
  have hge : ¬ (xs.length < m) := by omega
  rw [putL, spillL, if_neg hge, if_neg hge, hh]
  have hPre : Hid (∀ k, Rd (w.drewN k) 1 (.slice (some ⟨b, off, none⟩) half cap) half ((xs.take half).map vi)) := Lib.hid fun k => by
    have h1 := (hR.pre hne hle).drewN k
    unfold RdI at h1
    rw [List.length_take, Nat.min_eq_left hle] at h1
    exact h1
  have hPost : Hid (∀ (G : Hp) w' c2 a', Sat w0 (rs 3 (.slice (some ⟨b, off, none⟩) xs.length cap) (xs.map vi) * G) w' → (half < xs.length → a' = ⟨b, off + half, none⟩) → Rd w' 1 (.slice (some a') (xs.length - half) c2) (xs.length - half) ((xs.drop half).map vi)) := Lib.hid fun G w' c2 a' h ha => by
    have h0 : RdI w' (.slice (some ⟨b, off, none⟩) xs.length cap) xs := by
      have := h.rsRd
      rw [List.length_map] at this
      exact this
    have h1 := h0.post (c2 := c2) hne hle ha
    unfold RdI at h1
    rw [List.length_drop] at h1
    exact h1
  have hone := Lib.hid (oneI (xs.take half))
  have hone2 := Lib.hid (oneI (xs.drop half))
  have hlt2 : (xs.take half).length = half := by rw [List.length_take]; omega
  have hltd : (xs.drop half).length = xs.length - half := by simp
  have hmle : m ≤ xs.length := by omega
  have hhc : (half : Int) ≤ (cap : Int) := by omega
  have hhl : (half : Int) ≤ (xs.length : Int) := by omega
  have hcapN : half ≤ cap := by omega
  have hck : ¬ cap = half := by omega
  have hxl : xs.length ≤ 4096 := by omega
  clear h hR hh hful hge
  go_enter Tryz.func75, Tryz.ntmps75
  go_wp2
  go_quiet (fail)
  go_wp2
  go_quiet (fail)
  go_wp2_with (first
    | (at_builtin; refine wpList_append_sl Einti rfl (.const (.slice none 0 0)) (.tmp 44) rfl rfl ((hS'.out.drewN _).addNil 3 1) (by rfl) (hPre.out _) hone.out (by unfold maxLen; omega) (by omega) ?_; intro ao1 cap1 w1 hS1; simp only [Nat.zero_add, List.nil_append] at hS1)
    | (at_builtin; refine wpList_append_sl Einti rfl (.tmp 45) (.tmp 47) rfl rfl (hS1.alloc' _) (by rfl) (Rd.one _ _ _) (by simp [Value.oneCell']) (by unfold maxLen; omega) (by omega) ?_; intro ao2 cap2 w2 hS2; have d2 := (hS2.dropL).cell 0 rfl; have f2 := hS2.dropL.free 0; have H2 := Lib.hid hS2; clear hS1 hS2)
    | (at_builtin; refine wpList_append_sl Einti rfl (.const (.slice none 0 0)) (.tmp 55) rfl rfl (H2.out.addNil 3 1) (by rfl) (hPost.out _ _ _ _ H2.out.pull3 (fun _ => rfl)) hone2.out (by unfold maxLen; omega) (by omega) ?_; intro ao3 cap3 w3 hS3; simp only [Nat.zero_add, List.nil_append] at hS3; have d3 := hS3.pull3.cell 0 rfl; have f3 := hS3.pull3.free 0; have H3 := Lib.hid hS3; clear hS3))
  all_goals
    go_ret
    have h4 := (H3.out.pull3.store 0 (.slice ao3 (xs.length - half) cap3)).pull4.dropL
    have h5 := h4.in2 Sat.rsOfSl
    refine ⟨.slice ao2 (half + 1) cap2, .slice ao3 (xs.length - half) cap3, by simp, ?_⟩
    rw [show (xs.take half ++ [g]).length = half + 1 by simp; omega, List.map_append]
    exact h5.pull3
end
end Go.Proofs.YtjgemfgneiaabaaGreat.Rq

namespace Go.Proofs.YtjgemfgneiaabaaGreat.Rq
open Go.RowKit
set_option linter.unusedVariables false

section
variable {w0 w : World} {F : Hp} {q m : Nat} {vL vN : Value} {xs : List Int}
theorem r_put (h : Sat w0 (rqB q m vL vN * (rs 3 vL (xs.map vi) * F)) w) (hl : xs.length ≤ m) (hm1 : 2 ≤ m) (hm : m ≤ 4096) (g : Int) :
    Calls Tryz.prog 75 #[vp q, vi g] w fun e w' => ∃ v vL', e = .returned v ∧ Sat w0 (sl 3 1 v (spillL m xs g).length ((spillL m xs g).map vi) * (rqB q m vL' vN * (rs 3 vL' ((putL m xs g).map vi) * F))) w' := by
  by_cases h1 : xs.length < m
  · exact r_put_room h h1 hm g
  · exact r_put_full h (by omega) hm1 hm g
def nsOf (z : Int) (b : Bool) : List Int := if b then [z] else []
theorem Sat.rsOne {b : Nat} {x : Value} {T : TypeId} (h : Sat w0 (pc b T [x] * F) w) : Sat w0 (rs T (.slice (some ⟨b, 0, none⟩) 1 1) [x] * F) w :=
  h.rsI (xs := [x]) (off := 0) (cap := 1) (Nat.le_refl _) (by unfold maxLen; omega) (fun j u hj => by rw [Nat.zero_add]; exact hj)
theorem Sat.drop5 {A B C D E G : Hp} (h : Sat w0 (A * (B * (C * (D * (E * G))))) w) : Sat w0 (A * (B * (C * (D * G)))) w :=
  Sat.dropL (A := E) (h.cast (by ac_rfl))
set_option maxRecDepth 100000 in
set_option maxHeartbeats 2000000 in
theorem r_putnext {z : Int} {b : Bool} (h : Sat w0 (rqB q m vL vN * (rs 3 vL (xs.map vi) * (rs 3 vN ((nsOf z b).map vi) * F))) w) (hl : xs.length ≤ m) (hm1 : 2 ≤ m) (hm : m ≤ 4096) (g : Int) :
    Calls Tryz.prog 79 #[vp q, vi g] w fun e w' => ∃ v vL' vN', e = .returned v ∧ Sat w0 (sl 3 1 v (nextS m xs z b).length ((nextS m xs z b).map vi) * (rqB q m vL' vN' * (rs 3 vL' ((nextL m xs z b).map vi) * (rs 3 vN' [vi g] * F)))) w' := by
  have c2 := h.cell 2 rfl
  have f2 := h.free 2
  have h1 := (h.alloc (.cells #[vi g] 3)).pull2
  have c2a := h1.cell 2 rfl
  have f2a := h1.free 2
  have h2 := h1.store 2 (.slice (some ⟨w.heap.size, 0, none⟩) 1 1)
  have h3 : Sat w0 (rqB q m vL (.slice (some ⟨w.heap.size, 0, none⟩) 1 1) * (rs 3 vL (xs.map vi) * (rs 3 (.slice (some ⟨w.heap.size, 0, none⟩) 1 1) [vi g] * (rs 3 vN ((nsOf z b).map vi) * F)))) ((w.alloc (.cells #[vi g] 3)).setCell ⟨q, 2, none⟩ (.slice (some ⟨w.heap.size, 0, none⟩) 1 1)) := by
    have h4 := Sat.rsOne h2.pull2
    exact h4.cast (by simp only [List.set_cons_succ, List.set_cons_zero]; unfold rqB; ac_rfl)
  have H3 := Lib.hid h3
  cases b with
  | false =>
    obtain ⟨ao, cap, rfl⟩ : ∃ ao cap, vN = .slice ao 0 cap := Rd.len h.pull3.rsRd
    clear h h1 h2 h3
    go_enter Tryz.func79, Tryz.ntmps79
    go_wp2
    go_ret
    exact ⟨_, _, _, rfl, (H3.out.pull4.dropL).addNil 3 1⟩
  | true =>
    obtain ⟨bN, off, cap, rfl, hne, cN⟩ : ∃ bN off cap, vN = .slice (some ⟨bN, off, none⟩) 1 cap ∧ bN ≠ q ∧ (w.alloc (.cells #[vi g] 3)).cell? ⟨bN, off, none⟩ = some (vi z) := by
      rcases h.pull3.rsE with ⟨_, h0, _⟩ | ⟨bN, off, cap, cur, hv, _, _, hS, hc⟩
      · cases h0
      · refine ⟨bN, off, cap, hv, hS.ne, ?_⟩
        have hx := hc 0 (vi z) rfl
        have := (hS.alloc (.cells #[vi g] 3)).pull2.cell _ hx
        simpa using this
    have HP := Lib.hid (r_put h3 hl hm1 hm z)
    clear h h1 h2 h3
    go_enter Tryz.func79, Tryz.ntmps79
    go_wp2_with (go_at_call 75; refine HP.out.mono ?_; rintro e w2 ⟨v, vL', rfl, hS⟩; have H4 := Lib.hid hS; clear hS)
    go_ret
    exact ⟨_, _, _, rfl, Sat.drop5 H4.out⟩
end
end Go.Proofs.YtjgemfgneiaabaaGreat.Rq

namespace Go.Proofs.YtjgemfgneiaabaaGreat.Rq
open Go.RowKit
set_option linter.unusedVariables false

section
variable {w0 w : World} {F : Hp} {q m : Nat} {vL vN : Value} {xs : List Int} {z : Int} {b : Bool}
theorem ns_mem (z : Int) (b : Bool) (g : Int) : g ∈ nsOf z b ↔ b = true ∧ z = g := by
  cases b with
  | false => simp [nsOf]
  | true => simp [nsOf, eq_comm]
theorem find_yes {ys : List Int} {g : Int} (h : g ∈ ys) : 0 ≤ findI ys g := by
  unfold findI
  rw [if_pos h]
  omega
theorem find_not {ys : List Int} {g : Int} (h : g ∉ ys) : findI ys g = -1 := by
  unfold findI
  rw [if_neg h]
theorem rsRdI {w' : World} {G : Hp} {v : Value} {ys : List Int} (h : Sat w0 (rs 3 v (ys.map vi) * G) w') : RdI w' v ys := by
  have := h.rsRd
  rw [List.length_map] at this
  exact this
set_option maxHeartbeats 1000000 in
theorem r_remove_next (h : Sat w0 (rqB q m vL vN * (rs 3 vL (xs.map vi) * (rs 3 vN ((nsOf z true).map vi) * F))) w) :
    Calls Tryz.prog 83 #[vp q, vi z] w fun e w' => e = .returned (.bool true) ∧ Sat w0 (rqB q m vL (.slice none 0 0) * (rs 3 vL (xs.map vi) * (rs 3 (.slice none 0 0) ((nsOf z false).map vi) * F))) w' := by
  have c2 := h.cell 2 rfl
  have f2 := h.free 2
  have HN := Lib.hid (ref_find z _ _ w (rsRdI h.pull3) (by simp [nsOf]))
  have h2 := find_yes ((ns_mem z true z).2 ⟨rfl, rfl⟩)
  generalize findI (nsOf z true) z = f1 at *
  have h3 := h.store 2 (.slice none 0 0)
  have h4 := Lib.hid (h3.drop3.rsNil 3)
  clear h h3
  go_enter Tryz.func83, Tryz.ntmps83
  go_wp2_with (go_at_call 78; (with_reducible refine HN.out.mono ?_); rintro e w' ⟨rfl, rfl⟩)
  go_ret
  exact ⟨rfl, h4.out.rot3⟩
set_option maxHeartbeats 2000000 in
theorem r_remove (h : Sat w0 (rqB q m vL vN * (rs 3 vL (xs.map vi) * (rs 3 vN ((nsOf z b).map vi) * F))) w) (hl : xs.length ≤ 4096) (g : Int) (hc : ¬ (b = true ∧ z = g)) :
    Calls Tryz.prog 83 #[vp q, vi g] w fun e w' => ∃ vL', e = .returned (.bool (decide (g ∈ xs))) ∧ Sat w0 (rqB q m vL' vN * (rs 3 vL' ((xs.erase g).map vi) * (rs 3 vN ((nsOf z b).map vi) * F))) w' := by
  have c0 := h.cell 0 rfl
  have c2 := h.cell 2 rfl
  have hf := h.free 0
  have hnl : (nsOf z b).length ≤ 1000000 := by cases b <;> simp [nsOf]
  have HN := Lib.hid (ref_find g _ _ w (rsRdI h.pull3) hnl)
  have HL := Lib.hid (ref_find g _ _ w (rsRdI h.pull2) (by omega))
  rw [find_not (fun h => hc ((ns_mem z b g).1 h))] at HN
  have hg : 0 ≤ findI xs g → _ := findI_erase (xs := xs) (x := g)
  have hb := findI_le xs g
  by_cases hmem : g ∈ xs
  · have h0 := find_yes hmem
    obtain ⟨he, hk⟩ := hg h0
    obtain ⟨k, hk2⟩ := Int.eq_ofNat_of_zero_le h0
    rw [hk2] at HL he hk
    simp only [Int.toNat_natCast] at he hk
    obtain ⟨ao, cap, rfl⟩ := (rsRdI h.pull2).len
    have hcap : ∀ ao' n cap', (.slice ao xs.length cap : Value) = .slice ao' n cap' → n ≤ cap' ∧ cap' ≤ maxLen := by
      intro ao' n cap' e
      rcases h.pull2.rsE with ⟨hv, _, _⟩ | ⟨g', off, c, cur, hv, h1, h2, _⟩
      · rw [hv] at e
        cases e
        exact ⟨Nat.le_refl _, Nat.zero_le _⟩
      · rw [hv] at e
        cases e
        exact ⟨h1, h2⟩
    have hcut := Lib.hid (ref_cut h (fun w' h' => rsRdI h'.pull2) (by omega) hcap k hk)
    rw [decide_eq_true hmem, ← he]
    clear h hg hb hmem h0 hk2 he hcap hc
    go_enter Tryz.func83, Tryz.ntmps83
    go_wp2_with (first
      | (go_at_call 78; (with_reducible refine HN.out.mono ?_); rintro e w' ⟨rfl, rfl⟩)
      | (go_at_call 78; (with_reducible refine HL.out.mono ?_); rintro e w' ⟨rfl, rfl⟩)
      | (go_at_call 106; refine hcut.out.mono ?_; rintro e w1 ⟨v1, rfl, hS1⟩; obtain ⟨ao1, cap1, rfl⟩ := hS1.rd.len; have d0 := hS1.pull2.cell 0 rfl; have f1 := hS1.pull2.free 0; have H1 := Lib.hid hS1; clear hS1))
    go_ret
    have h3 := ((H1.out.pull2.store 0 (.slice ao1 (xs.eraseIdx k).length cap1)).drop3).in2 Sat.rsOfSl
    exact ⟨_, rfl, h3⟩
  · rw [find_not hmem] at HL
    rw [decide_eq_false hmem, List.erase_of_not_mem hmem]
    have H := Lib.hid h
    clear h hg hb hmem hc
    go_enter Tryz.func83, Tryz.ntmps83
    go_wp2_with (first
      | (go_at_call 78; (with_reducible refine HN.out.mono ?_); rintro e w' ⟨rfl, rfl⟩)
      | (go_at_call 78; (with_reducible refine HL.out.mono ?_); rintro e w' ⟨rfl, rfl⟩))
    go_ret
    exact ⟨_, rfl, H.out⟩
end
end Go.Proofs.YtjgemfgneiaabaaGreat.Rq

namespace Go.Proofs.YtjgemfgneiaabaaGreat.Rq
open Go.RowKit
set_option linter.unusedVariables false

section
variable {w0 w : World} {F : Hp} {q r m : Nat} {vL vN : Value} {xs : List Int} {z : Int} {b : Bool}
set_option maxHeartbeats 1000000 in
theorem r_take_in (h : Sat w0 (rqB q m vL vN * (rs 3 vL (xs.map vi) * (rs 3 vN ((nsOf z true).map vi) * F))) w) :
    Calls Tryz.prog 86 #[vp q, .bool true] w fun e w' => ∃ v, e = .returned (.tuple #[v, .bool true, .slice none 0 0]) ∧ RdI w' v [z] ∧ Sat w0 (rqB q m vL (.slice none 0 0) * (rs 3 vL (xs.map vi) * (rs 3 (.slice none 0 0) ((nsOf z false).map vi) * (rs 3 v [vi z] * F)))) w' := by
  have c2 := h.cell 2 rfl
  have f2 := h.free 2
  have h3 := h.store 2 (.slice none 0 0)
  have hR : RdI ((w.setCell ⟨q, 2, none⟩ (.slice none 0 0))) vN (nsOf z true) := rsRdI h3.pull3
  obtain ⟨ao, cap, rfl⟩ : ∃ ao cap, vN = .slice ao 1 cap := (rsRdI h.pull3).len
  have h4 := Lib.hid (h3.rsNil 3)
  have HR := Lib.hid hR
  clear h h3 hR
  go_enter Tryz.func86, Tryz.ntmps86
  go_wp2
  go_ret3
  exact ⟨.slice ao 1 cap, rfl, HR.out, h4.out.rot3⟩
end
end Go.Proofs.YtjgemfgneiaabaaGreat.Rq

namespace Go.Proofs.YtjgemfgneiaabaaGreat.Rq
open Go.RowKit
set_option linter.unusedVariables false

section
variable {w0 w : World} {F : Hp} {q r m : Nat} {vL vN : Value} {xs : List Int} {z : Int} {b : Bool}
theorem rsTail {T : TypeId} {g off cap n : Nat} {y : Value} {ys : List Value} (h : Sat w0 (rs T (.slice (some ⟨g, off, none⟩) n cap) (y :: ys) * F) w) (o : Nat) (ho : o = off + 1 ∨ ys = []) :
    Sat w0 (rs T (.slice (some ⟨g, o, none⟩) ys.length (cap - 1)) ys * F) w := by
  rcases h.rsE with ⟨_, h0, _⟩ | ⟨g', off', cap', cur, hv, h1, h2, hS, hc⟩
  · cases h0
  · cases hv
    simp only [List.length_cons] at h1
    refine hS.rsI (by omega) (by omega) fun j u hj => ?_
    rcases ho with rfl | rfl
    · have := hc (j + 1) u (by simpa using hj)
      rw [show off + 1 + j = off + (j + 1) by omega]
      exact this
    · simp at hj
theorem rsForm {T : TypeId} {v y : Value} {ys : List Value} (h : Sat w0 (rs T v (y :: ys) * F) w) : ∃ g off cap, v = .slice (some ⟨g, off, none⟩) (ys.length + 1) cap ∧ ys.length + 1 ≤ cap := by
  rcases h.rsE with ⟨_, h0, _⟩ | ⟨g', off', cap', cur, hv, h1, h2, hS, hc⟩
  · cases h0
  · exact ⟨g', off', cap', hv, h1⟩
set_option maxHeartbeats 1000000 in
theorem r_take_nil (h : Sat w0 (rqB q m vL vN * (rs 3 vL [] * (rs 3 vN [] * F))) w) (c : Bool) :
    Calls Tryz.prog 86 #[vp q, .bool c] w fun e w' => e = .returned (.tuple #[.slice none 0 0, .bool false, .slice none 0 0]) ∧ w = w' := by
  have c0 := h.cell 0 rfl
  have c2 := h.cell 2 rfl
  obtain ⟨ao, cap, rfl⟩ : ∃ ao cap, vN = .slice ao 0 cap := Rd.len h.pull3.rsRd
  obtain ⟨bo, cap2, rfl⟩ : ∃ ao cap, vL = .slice ao 0 cap := Rd.len h.pull2.rsRd
  clear h
  cases c
  all_goals
    go_enter Tryz.func86, Tryz.ntmps86
    go_wp2
    go_ret3
    exact ⟨rfl, rfl⟩
set_option maxRecDepth 100000 in
set_option maxHeartbeats 2000000 in
theorem r_take_one {x : Int} {t : List Int} (h : Sat w0 (rqB q m vL vN * (rs 3 vL (vi x :: t.map vi) * (rs 3 vN [] * F))) w) (ht : t.length ≤ 4096) (c : Bool) :
    Calls Tryz.prog 86 #[vp q, .bool c] w fun e w' => ∃ v vL', e = .returned (.tuple #[v, .bool false, .slice none 0 0]) ∧ RdI w' v [x] ∧ Sat w0 (rqB q m vL' vN * (rs 3 vL' (t.map vi) * (rs 3 vN [] * F))) w' := by
  have c0 := h.cell 0 rfl
  have c2 := h.cell 2 rfl
  have f0 := h.free 0
  obtain ⟨ao, cap, rfl⟩ : ∃ ao cap, vN = .slice ao 0 cap := Rd.len h.pull3.rsRd
  obtain ⟨g, off, cap2, e, hcap⟩ := rsForm h.pull2
  rw [List.length_map] at e hcap
  subst e
  have hcap1 : (1 : Int) ≤ (cap2 : Int) := by omega
  have hcap3 : 1 ≤ cap2 := by omega
  have HT : Hid (∀ o, (o = off + 1 ∨ t = []) → ∀ v', v' = Value.slice (some ⟨g, o, none⟩) t.length (cap2 - 1) → RdI (w.setCell ⟨q, 0, none⟩ v') (.slice (some ⟨g, off, none⟩) 1 cap2) [x] ∧ Sat w0 (rqB q m v' (.slice ao 0 cap) * (rs 3 v' (t.map vi) * (rs 3 (.slice ao 0 cap) [] * F))) (w.setCell ⟨q, 0, none⟩ v')) := Lib.hid fun o ho v' hv => by
    have h1 := h.store 0 v'
    have h2 : RdI (w.setCell ⟨q, 0, none⟩ v') (.slice (some ⟨g, off, none⟩) (t.length + 1) cap2) (x :: t) := rsRdI (ys := x :: t) h1.pull2
    have h3 := h2.pre (k := 1) (by simp) (by simp)
    refine ⟨h3, ?_⟩
    have h4 := rsTail h1.pull2 o (ho.imp id fun e => by rw [e]; rfl)
    rw [List.length_map] at h4
    rw [← hv] at h4
    exact h4.pull2
  clear h
  by_cases hck : cap2 = 1
  · have ht0 : t = [] := List.eq_nil_of_length_eq_zero (by omega)
    have HF := Lib.hid (HT.out off (.inr ht0) _ rfl)
    subst ht0
    subst hck
    clear HT
    cases c
    all_goals
      go_enter Tryz.func86, Tryz.ntmps86
      go_wp2
      go_ret3
      exact ⟨.slice (some ⟨g, off, none⟩) 1 1, .slice (some ⟨g, off, none⟩) 0 0, rfl, HF.out.1, HF.out.2⟩
  · have HF := Lib.hid (HT.out (off + 1) (.inl rfl) _ rfl)
    clear HT
    cases c
    all_goals
      go_enter Tryz.func86, Tryz.ntmps86
      go_wp2
      go_ret3
      exact ⟨.slice (some ⟨g, off, none⟩) 1 cap2, .slice (some ⟨g, off + 1, none⟩) t.length (cap2 - 1), rfl, HF.out.1, HF.out.2⟩
end
end Go.Proofs.YtjgemfgneiaabaaGreat.Rq
