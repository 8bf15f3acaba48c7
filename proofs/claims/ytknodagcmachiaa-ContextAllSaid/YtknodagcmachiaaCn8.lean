/-
  Package context: Split. No statement is proved here.
-/
import Derived.Test.YtknodagcmachiaaCn7
namespace Go.Proofs.Ytknodagcmachiaa.Cn
open Go.RowKit Ac Fi
set_option linter.unusedVariables false
set_option linter.unusedSimpArgs false

section
variable {w0 w : World} {F : Hp} {h p : Nat} {most : Int} {ps : List Pl} {free : List Nat} {L : Blks} {l : List Rf}
theorem isAt_set {k : Nat} {a a' : Pl} {i g : Int} (hk : ps[k]? = some a) (ht : a.there = false) (he : getE ps i g = 0) : isAt (ps.set k a') i g = isAt ps i g := by
  unfold getE at he
  cases hA : isAt ps i g with
  | none => rw [hA] at he; cases he
  | some kb =>
    obtain ⟨k', b⟩ := kb
    obtain ⟨h1, h2, h3, h4⟩ := isAt_some hA
    have hne : k ≠ k' := fun e => by
      subst e
      rw [hk] at h1
      cases h1
      rw [ht] at h3
      cases h3
    unfold isAt at hA ⊢
    split at hA
    · cases hA
    · rename_i h0
      rw [if_neg h0]
      subst h2
      rw [Int.toNat_natCast] at hA ⊢
      rw [List.getElem?_set_ne hne]
      exact hA
set_option maxRecDepth 100000 in
set_option maxHeartbeats 2000000 in
theorem split_stale (hS : Sat w0 (cxB h p most * (tblP p ps free * (plB L * (F)))) w) (i g : Int) (amount now : Int) (he : getE ps i g = 11) :
    Calls Try.prog 14 #[vp h, vr i g, vu amount, vu now] w fun e w' => e = .returned (.tuple #[vr 0 0, vi 11]) ∧ Sat w0 (cxB h p most * (tblP p ps free * (plB L * (F)))) w' := by
  have hB0 := (hS.alloc (.cells #[vi i, vu g] 30)).alloc (.cells #[vi 0, vu 0] 30)
  rw [size1] at hB0
  have hB1 : Sat w0 (pc (w.heap.size + 1) 30 [vi 0, vu 0] * (pc w.heap.size 30 [vi i, vu g] * (cxB h p most * (tblP p ps free * (plB L * (F)))))) _ := hB0
  have b0 := (hB1).dropL.cell 0 rfl; have b1 := (hB1).dropL.cell 1 rfl; have b2 := (hB1).cell 0 rfl; have b3 := (hB1).cell 1 rfl
  have fz0 := hB1.free 0
  have fz1 := hB1.free 1
  have hB := (hB1).cast (show _ = cxB h p most * (tblP p ps free * (pc (w.heap.size + 1) 30 [vi 0, vu 0] * (pc w.heap.size 30 [vi i, vu g] * (plB L * (F))))) by ac_rfl)
  have HG := Lib.hid (cx_find hB i g)
  rw [he] at HG
  clear hB hB0 hB1
  clear hS he
  generalize getX ps i g = x at *
  obtain ⟨v0, v1, a2, n2, c2, v3⟩ := x
  go_enter Try.func14, Try.ntmps14
  go_wp2_with (go_at_call 38; refine HG.out.mono ?_; rintro e w1 ⟨rfl, hS1⟩; have HS1 := Lib.hid hS1; have hA : Sat w0 (pc w1.heap.size 49 (elC ⟨v0, v1, a2, n2, c2, v3⟩) * _) (w1.alloc (elO ⟨v0, v1, a2, n2, c2, v3⟩)) := hS1.alloc (elO ⟨v0, v1, a2, n2, c2, v3⟩); have H1 := Lib.hid hA; have hx0 := hA.cell 0 rfl; have hx1 := hA.cell 1 rfl; have hx2 := hA.cell 2 rfl; have hx3 := hA.cell 3 rfl; have rz0 := hA.dropL.dropL.dropL.cell 0 rfl; have rz1 := hA.dropL.dropL.dropL.cell 1 rfl; have rf0 := hA.dropL.dropL.dropL.free 0; have rf1 := hA.dropL.dropL.dropL.free 1; have rb0 := hA.dropL.dropL.dropL.dropL.cell 0 rfl; have rb1 := hA.dropL.dropL.dropL.dropL.cell 1 rfl; clear hA hS1)
  have H2 := (H1.out).cast (show _ = pc (w.heap.size + 1) 30 [vi 0, vu 0] * (pc w1.heap.size 49 (elC ⟨v0, v1, a2, n2, c2, v3⟩) * (pc w.heap.size 30 [vi i, vu g] * (cxB h p most * (tblP p ps free * (plB L * (F)))))) by ac_rfl)
  refine bodyPost_ret (v := .tuple #[vr 0 0, vi 11]) (by rw [results_cell_tmp rfl]; go_simp) rfl ?_
  first | exact ⟨rfl, H2.dropL.dropL.dropL⟩ | exact ⟨rfl, ((H2.store 0 (vi 0)).store 1 (vu 0)).dropL.dropL.dropL⟩
set_option maxRecDepth 100000 in
set_option maxHeartbeats 2000000 in
theorem split_part (hS : Sat w0 (cxB h p most * (tblP p ps free * (plB L * (F)))) w) (i g : Int) (amount now er : Int) (he : getE ps i g = 0) (hi : InP L (.slice (getX ps i g).a2 (getX ps i g).n2 (getX ps i g).c2) l) (hl : l.length ≤ 1000) (hp : partC (getX ps i g).v0 l amount now = er) (hne : er ≠ 0) :
    Calls Try.prog 14 #[vp h, vr i g, vu amount, vu now] w fun e w' => e = .returned (.tuple #[vr 0 0, vi er]) ∧ Sat w0 (cxB h p most * (tblP p ps free * (plB L * (F)))) w' := by
  have hB0 := (hS.alloc (.cells #[vi i, vu g] 30)).alloc (.cells #[vi 0, vu 0] 30)
  rw [size1] at hB0
  have hB1 : Sat w0 (pc (w.heap.size + 1) 30 [vi 0, vu 0] * (pc w.heap.size 30 [vi i, vu g] * (cxB h p most * (tblP p ps free * (plB L * (F)))))) _ := hB0
  have b0 := (hB1).dropL.cell 0 rfl; have b1 := (hB1).dropL.cell 1 rfl; have b2 := (hB1).cell 0 rfl; have b3 := (hB1).cell 1 rfl
  have fz0 := hB1.free 0
  have fz1 := hB1.free 1
  have hB := (hB1).cast (show _ = cxB h p most * (tblP p ps free * (pc (w.heap.size + 1) 30 [vi 0, vu 0] * (pc w.heap.size 30 [vi i, vu g] * (plB L * (F))))) by ac_rfl)
  have HG := Lib.hid (cx_find hB i g)
  rw [he] at HG
  clear hB hB0 hB1
  have HI := Lib.hid hi
  clear hi hS he
  generalize getX ps i g = x at *
  obtain ⟨v0, v1, a2, n2, c2, v3⟩ := x
  have HI : Hid (InP L (.slice a2 n2 c2) l) := HI
  have HPT : Hid (∀ (wz w1 : World), Sat w0 (pc wz.heap.size 49 (elC ⟨v0, v1, a2, n2, c2, v3⟩) * (cxB h p most * (tblP p ps free * (pc (w.heap.size + 1) 30 [vi 0, vu 0] * (pc w.heap.size 30 [vi i, vu g] * (plB L * (F))))))) w1 → Calls Try.prog 42 #[ev ⟨v0, v1, a2, n2, c2, v3⟩, vu amount, vu now] w1 fun e w' => e = .returned (vi er) ∧ Sat w0 (pc wz.heap.size 49 (elC ⟨v0, v1, a2, n2, c2, v3⟩) * (cxB h p most * (tblP p ps free * (pc (w.heap.size + 1) 30 [vi 0, vu 0] * (pc w.heap.size 30 [vi i, vu g] * (plB L * (F))))))) w') := Lib.hid (fun wz w1 h1 => by
    subst hp
    exact cx_part h1 (fun w' h' => Sat.plRd ((h').cast (show _ = plB L * (pc wz.heap.size 49 (elC ⟨v0, v1, a2, n2, c2, v3⟩) * (cxB h p most * (tblP p ps free * (pc (w.heap.size + 1) 30 [vi 0, vu 0] * (pc w.heap.size 30 [vi i, vu g] * (F)))))) by ac_rfl)) HI.out) hl)
  have hnb : (er == 0) = false := beq_eq_false_iff_ne.2 hne
  have hnc : (er != 0) = true := by simpa using hne
  clear hp hne
  go_enter Try.func14, Try.ntmps14
  go_wp2_with (first
    | (go_at_call 38; refine HG.out.mono ?_; rintro e w1 ⟨rfl, hS1⟩; have HS1 := Lib.hid hS1; have hA : Sat w0 (pc w1.heap.size 49 (elC ⟨v0, v1, a2, n2, c2, v3⟩) * _) (w1.alloc (elO ⟨v0, v1, a2, n2, c2, v3⟩)) := hS1.alloc (elO ⟨v0, v1, a2, n2, c2, v3⟩); have H1 := Lib.hid hA; have hx0 := hA.cell 0 rfl; have hx1 := hA.cell 1 rfl; have hx2 := hA.cell 2 rfl; have hx3 := hA.cell 3 rfl; have rz0 := hA.dropL.dropL.dropL.cell 0 rfl; have rz1 := hA.dropL.dropL.dropL.cell 1 rfl; have rf0 := hA.dropL.dropL.dropL.free 0; have rf1 := hA.dropL.dropL.dropL.free 1; have rb0 := hA.dropL.dropL.dropL.dropL.cell 0 rfl; have rb1 := hA.dropL.dropL.dropL.dropL.cell 1 rfl; clear hA hS1)
    | (go_at_call 42; refine (HPT.out w1 _ H1.out).mono ?_; rintro e w2 ⟨rfl, hS2⟩; have H2 := Lib.hid hS2; have kc0 := (hS2).dropL.dropL.dropL.cell 0 rfl; have kc1 := (hS2).dropL.dropL.dropL.cell 1 rfl; have cf0 := (hS2).dropL.dropL.dropL.free 0; have cf1 := (hS2).dropL.dropL.dropL.free 1; clear hS2))
  have H3 := (H2.out).cast (show _ = pc (w.heap.size + 1) 30 [vi 0, vu 0] * (pc w1.heap.size 49 (elC ⟨v0, v1, a2, n2, c2, v3⟩) * (pc w.heap.size 30 [vi i, vu g] * (cxB h p most * (tblP p ps free * (plB L * (F)))))) by ac_rfl)
  refine bodyPost_ret (v := .tuple #[vr 0 0, vi er]) (by rw [results_cell_tmp rfl]; go_simp) rfl ?_
  first | exact ⟨rfl, H3.dropL.dropL.dropL⟩ | exact ⟨rfl, ((H3.store 0 (vi 0)).store 1 (vu 0)).dropL.dropL.dropL⟩
set_option maxRecDepth 100000 in
set_option maxHeartbeats 2000000 in
theorem split_full (hS : Sat w0 (cxB h p most * (tblP p ps [] * (plB L * (F)))) w) (i g : Int) (amount now : Int) (he : getE ps i g = 0) (hi : InP L (.slice (getX ps i g).a2 (getX ps i g).n2 (getX ps i g).c2) l) (hl : l.length ≤ 1000) (hp : partC (getX ps i g).v0 l amount now = 0) (hm : MkOk amount (getX ps i g).v1 now) (hn0 : 0 ≤ now) :
    Calls Try.prog 14 #[vp h, vr i g, vu amount, vu now] w fun e w' => ∃ L2, e = .returned (.tuple #[vr 0 0, vi 3]) ∧ (∀ x ∈ L, x ∈ L2) ∧ Sat w0 (cxB h p most * (tblP p ps [] * (plB L2 * (F)))) w' := by
  have hB0 := (hS.alloc (.cells #[vi i, vu g] 30)).alloc (.cells #[vi 0, vu 0] 30)
  rw [size1] at hB0
  have hB1 : Sat w0 (pc (w.heap.size + 1) 30 [vi 0, vu 0] * (pc w.heap.size 30 [vi i, vu g] * (cxB h p most * (tblP p ps [] * (plB L * (F)))))) _ := hB0
  have b0 := (hB1).dropL.cell 0 rfl; have b1 := (hB1).dropL.cell 1 rfl; have b2 := (hB1).cell 0 rfl; have b3 := (hB1).cell 1 rfl
  have fz0 := hB1.free 0
  have fz1 := hB1.free 1
  have hB := (hB1).cast (show _ = cxB h p most * (tblP p ps [] * (pc (w.heap.size + 1) 30 [vi 0, vu 0] * (pc w.heap.size 30 [vi i, vu g] * (plB L * (F))))) by ac_rfl)
  have HG := Lib.hid (cx_find hB i g)
  rw [he] at HG
  clear hB hB0 hB1
  have HI := Lib.hid hi
  clear hi hS he
  generalize getX ps i g = x at *
  obtain ⟨v0, v1, a2, n2, c2, v3⟩ := x
  have HI : Hid (InP L (.slice a2 n2 c2) l) := HI
  have HPT : Hid (∀ (wz w1 : World), Sat w0 (pc wz.heap.size 49 (elC ⟨v0, v1, a2, n2, c2, v3⟩) * (cxB h p most * (tblP p ps [] * (pc (w.heap.size + 1) 30 [vi 0, vu 0] * (pc w.heap.size 30 [vi i, vu g] * (plB L * (F))))))) w1 → Calls Try.prog 42 #[ev ⟨v0, v1, a2, n2, c2, v3⟩, vu amount, vu now] w1 fun e w' => e = .returned (vi 0) ∧ Sat w0 (pc wz.heap.size 49 (elC ⟨v0, v1, a2, n2, c2, v3⟩) * (cxB h p most * (tblP p ps [] * (pc (w.heap.size + 1) 30 [vi 0, vu 0] * (pc w.heap.size 30 [vi i, vu g] * (plB L * (F))))))) w') := Lib.hid (fun wz w1 h1 => by
    have := cx_part h1 (fun w' h' => Sat.plRd ((h').cast (show _ = plB L * (pc wz.heap.size 49 (elC ⟨v0, v1, a2, n2, c2, v3⟩) * (cxB h p most * (tblP p ps [] * (pc (w.heap.size + 1) 30 [vi 0, vu 0] * (pc w.heap.size 30 [vi i, vu g] * (F)))))) by ac_rfl)) HI.out) hl (amount := amount) (now := now) (v0 := v0) (v1 := v1) (v3 := v3)
    rw [hp] at this
    exact this)
  have HMK := Lib.hid (fun (w : World) (G : Hp) (h' : Sat w0 (cxB h p most * (tblP p ps [] * (plB L * (G)))) w) => make_full h' amount v1 now hm hn0)
  clear hp hm hn0
  go_enter Try.func14, Try.ntmps14
  go_wp2_with (first
    | (go_at_call 38; refine HG.out.mono ?_; rintro e w1 ⟨rfl, hS1⟩; have HS1 := Lib.hid hS1; have hA : Sat w0 (pc w1.heap.size 49 (elC ⟨v0, v1, a2, n2, c2, v3⟩) * _) (w1.alloc (elO ⟨v0, v1, a2, n2, c2, v3⟩)) := hS1.alloc (elO ⟨v0, v1, a2, n2, c2, v3⟩); have H1 := Lib.hid hA; have hx0 := hA.cell 0 rfl; have hx1 := hA.cell 1 rfl; have hx2 := hA.cell 2 rfl; have hx3 := hA.cell 3 rfl; have rz0 := hA.dropL.dropL.dropL.cell 0 rfl; have rz1 := hA.dropL.dropL.dropL.cell 1 rfl; have rf0 := hA.dropL.dropL.dropL.free 0; have rf1 := hA.dropL.dropL.dropL.free 1; have rb0 := hA.dropL.dropL.dropL.dropL.cell 0 rfl; have rb1 := hA.dropL.dropL.dropL.dropL.cell 1 rfl; clear hA hS1)
    | (go_at_call 42; refine (HPT.out w1 _ H1.out).mono ?_; rintro e w2 ⟨rfl, hS2⟩; have H2 := Lib.hid hS2; have kc0 := (hS2).cell 0 rfl; have kc1 := (hS2).cell 1 rfl; have kc2 := (hS2).cell 2 rfl; have kc3 := (hS2).cell 3 rfl; have kc4 := (hS2).dropL.dropL.dropL.cell 0 rfl; have kc5 := (hS2).dropL.dropL.dropL.cell 1 rfl; have kc6 := (hS2).dropL.dropL.dropL.dropL.cell 0 rfl; have kc7 := (hS2).dropL.dropL.dropL.dropL.cell 1 rfl; have cf0 := (hS2).dropL.dropL.dropL.free 0; have cf1 := (hS2).dropL.dropL.dropL.free 1; clear hS2)
    | (go_at_call 11; refine (HMK.out _ _ ((H2.out).cast (show _ = cxB h p most * (tblP p ps [] * (plB L * (pc w1.heap.size 49 (elC ⟨v0, v1, a2, n2, c2, v3⟩) * (pc (w.heap.size + 1) 30 [vi 0, vu 0] * (pc w.heap.size 30 [vi i, vu g] * (F)))))) by ac_rfl))).mono ?_; rintro e w3 ⟨L2, rfl, hsub, hS3⟩; have HSUB := Lib.hid hsub; have h3 := hS3.alloc (.cells #[vi 0, vu 0] 30); have x0 := (h3).dropL.dropL.dropL.dropL.dropL.cell 0 rfl; have x1 := (h3).dropL.dropL.dropL.dropL.dropL.cell 1 rfl; have xf0 := (h3).dropL.dropL.dropL.dropL.dropL.free 0; have xf1 := (h3).dropL.dropL.dropL.dropL.dropL.free 1; have H3 := Lib.hid h3; clear hS3 h3 hsub))
  have H4 := H3.out.dropL.cast (show _ = pc (w.heap.size + 1) 30 [vi 0, vu 0] * (pc w1.heap.size 49 (elC ⟨v0, v1, a2, n2, c2, v3⟩) * (pc w.heap.size 30 [vi i, vu g] * (cxB h p most * (tblP p ps [] * (plB L2 * (F)))))) by ac_rfl)
  refine bodyPost_ret (v := .tuple #[vr 0 0, vi 3]) (by rw [results_cell_tmp rfl]; go_simp) rfl ?_
  first | exact ⟨L2, rfl, HSUB.out, H4.dropL.dropL.dropL⟩ | exact ⟨L2, rfl, HSUB.out, ((H4.store 0 (vi 0)).store 1 (vu 0)).dropL.dropL.dropL⟩
set_option maxRecDepth 100000 in
set_option maxHeartbeats 4000000 in
theorem split_ok {k : Nat} {a : Pl} (hS : Sat w0 (cxB h p most * (tblP p ps (free ++ [k]) * (plB L * (F)))) w) (i g : Int) (amount now : Int) (he : getE ps i g = 0) (hi : InP L (.slice (getX ps i g).a2 (getX ps i g).n2 (getX ps i g).c2) l) (hl : l.length ≤ 1000) (hp : partC (getX ps i g).v0 l amount now = 0) (hm : MkOk amount (getX ps i g).v1 now) (hn0 : 0 ≤ now) (hk : ps[k]? = some a) (hth : a.there = false) (hpu : PuOk l amount) (hle : amount ≤ thereV l now) (hb : amount ≤ (getX ps i g).v0 ∧ (getX ps i g).v0 ≤ 18446744073709551615) (hok : OkL (lessL (dueL l now) amount)) :
    Calls Try.prog 14 #[vp h, vr i g, vu amount, vu now] w fun e w' => ∃ ao lc ao2 lc2 L2, e = .returned (.tuple #[vr k a.gen, vi 0]) ∧ (∀ x ∈ L, x ∈ L2) ∧ InP L2 (.slice ao 1 lc) [⟨amount, now⟩] ∧ InP L2 (.slice ao2 (lessL (dueL l now) amount).length lc2) (lessL (dueL l now) amount) ∧ Sat w0 (cxB h p most * (tblP p (setP (ps.set k { a with there := true, x := ⟨amount, (getX ps i g).v1, ao, 1, lc, 0⟩ }) i g ⟨(getX ps i g).v0 - amount, (getX ps i g).v1, ao2, (lessL (dueL l now) amount).length, lc2, (getX ps i g).v3⟩) free * (plB L2 * (F)))) w' := by
  have hB0 := (hS.alloc (.cells #[vi i, vu g] 30)).alloc (.cells #[vi 0, vu 0] 30)
  rw [size1] at hB0
  have hB1 : Sat w0 (pc (w.heap.size + 1) 30 [vi 0, vu 0] * (pc w.heap.size 30 [vi i, vu g] * (cxB h p most * (tblP p ps (free ++ [k]) * (plB L * (F)))))) _ := hB0
  have b0 := (hB1).dropL.cell 0 rfl; have b1 := (hB1).dropL.cell 1 rfl; have b2 := (hB1).cell 0 rfl; have b3 := (hB1).cell 1 rfl
  have fz0 := hB1.free 0
  have fz1 := hB1.free 1
  have hB := (hB1).cast (show _ = cxB h p most * (tblP p ps (free ++ [k]) * (pc (w.heap.size + 1) 30 [vi 0, vu 0] * (pc w.heap.size 30 [vi i, vu g] * (plB L * (F))))) by ac_rfl)
  have HG := Lib.hid (cx_find hB i g)
  rw [he] at HG
  clear hB hB0 hB1
  have HI := Lib.hid hi
  have HSET : Hid (∀ (y x : El) (w : World) (G : Hp), Sat w0 (tblP p (ps.set k { a with there := true, x := y }) free * G) w → Calls Try.prog 41 #[vp p, vr i g, ev x] w fun e w' => e = .returned (vi 0) ∧ Sat w0 (tblP p (setP (ps.set k { a with there := true, x := y }) i g x) free * G) w') := Lib.hid (fun y x w G h' => by
    have := set_ h' i g x
    rw [show getE (ps.set k { a with there := true, x := y }) i g = 0 by unfold getE; rw [isAt_set hk hth he]; exact he] at this
    exact this)
  clear hi hS he
  generalize getX ps i g = x at *
  obtain ⟨v0, v1, a2, n2, c2, v3⟩ := x
  have HI : Hid (InP L (.slice a2 n2 c2) l) := HI
  have HPT : Hid (∀ (wz w1 : World), Sat w0 (pc wz.heap.size 49 (elC ⟨v0, v1, a2, n2, c2, v3⟩) * (cxB h p most * (tblP p ps (free ++ [k]) * (pc (w.heap.size + 1) 30 [vi 0, vu 0] * (pc w.heap.size 30 [vi i, vu g] * (plB L * (F))))))) w1 → Calls Try.prog 42 #[ev ⟨v0, v1, a2, n2, c2, v3⟩, vu amount, vu now] w1 fun e w' => e = .returned (vi 0) ∧ Sat w0 (pc wz.heap.size 49 (elC ⟨v0, v1, a2, n2, c2, v3⟩) * (cxB h p most * (tblP p ps (free ++ [k]) * (pc (w.heap.size + 1) 30 [vi 0, vu 0] * (pc w.heap.size 30 [vi i, vu g] * (plB L * (F))))))) w') := Lib.hid (fun wz w1 h1 => by
    have := cx_part h1 (fun w' h' => Sat.plRd ((h').cast (show _ = plB L * (pc wz.heap.size 49 (elC ⟨v0, v1, a2, n2, c2, v3⟩) * (cxB h p most * (tblP p ps (free ++ [k]) * (pc (w.heap.size + 1) 30 [vi 0, vu 0] * (pc w.heap.size 30 [vi i, vu g] * (F)))))) by ac_rfl)) HI.out) hl (amount := amount) (now := now) (v0 := v0) (v1 := v1) (v3 := v3)
    rw [hp] at this
    exact this)
  have HMK : Hid (∀ (w : World) (G : Hp), Sat w0 (cxB h p most * (tblP p ps (free ++ [k]) * (plB L * (G)))) w → Calls Try.prog 11 #[vp h, vu amount, vu v1, vu now] w fun e w' => ∃ ao lc L2, e = .returned (.tuple #[vr k a.gen, vi 0]) ∧ (∀ x ∈ L, x ∈ L2) ∧ InP L2 (.slice ao 1 lc) [⟨amount, now⟩] ∧ Sat w0 (cxB h p most * (tblP p (ps.set k { a with there := true, x := ⟨amount, v1, ao, 1, lc, 0⟩ }) free * (plB L2 * (G)))) w') := Lib.hid (fun w G h' => make_ok h' amount v1 now hm hn0 hk)
  have HPU : Hid (∀ (L2 : Blks) (w : World) (G : Hp), (∀ x ∈ L, x ∈ L2) → Sat w0 (plB L2 * G) w → Calls Try.prog 43 #[ev ⟨v0, v1, a2, n2, c2, v3⟩, vu amount, vu now] w fun e w' => ∃ ao2 lc2 L3, e = .returned (ev ⟨v0 - amount, v1, ao2, (lessL (dueL l now) amount).length, lc2, v3⟩) ∧ (∀ x ∈ L2, x ∈ L3) ∧ InP L3 (.slice ao2 (lessL (dueL l now) amount).length lc2) (lessL (dueL l now) amount) ∧ Sat w0 (plB L3 * G) w') := Lib.hid (fun L2 w G hsub h' => cx_pull h' (HI.out.mono hsub) hl ⟨by unfold MkOk at hm; omega, by unfold MkOk at hm; omega⟩ hpu hle hb hok)
  generalize lessL (dueL l now) amount = ln at *
  clear hp hm hn0 hk hth hpu hle hb hok
  go_enter Try.func14, Try.ntmps14
  go_wp2_with (first
    | (go_at_call 38; refine HG.out.mono ?_; rintro e w1 ⟨rfl, hS1⟩; have HS1 := Lib.hid hS1; have hA : Sat w0 (pc w1.heap.size 49 (elC ⟨v0, v1, a2, n2, c2, v3⟩) * _) (w1.alloc (elO ⟨v0, v1, a2, n2, c2, v3⟩)) := hS1.alloc (elO ⟨v0, v1, a2, n2, c2, v3⟩); have H1 := Lib.hid hA; have hx0 := hA.cell 0 rfl; have hx1 := hA.cell 1 rfl; have hx2 := hA.cell 2 rfl; have hx3 := hA.cell 3 rfl; have rz0 := hA.dropL.dropL.dropL.cell 0 rfl; have rz1 := hA.dropL.dropL.dropL.cell 1 rfl; have rf0 := hA.dropL.dropL.dropL.free 0; have rf1 := hA.dropL.dropL.dropL.free 1; have rb0 := hA.dropL.dropL.dropL.dropL.cell 0 rfl; have rb1 := hA.dropL.dropL.dropL.dropL.cell 1 rfl; clear hA hS1)
    | (go_at_call 42; refine (HPT.out w1 _ H1.out).mono ?_; rintro e w2 ⟨rfl, hS2⟩; have H2 := Lib.hid hS2; have kc0 := (hS2).cell 0 rfl; have kc1 := (hS2).cell 1 rfl; have kc2 := (hS2).cell 2 rfl; have kc3 := (hS2).cell 3 rfl; have kc4 := (hS2).dropL.dropL.dropL.cell 0 rfl; have kc5 := (hS2).dropL.dropL.dropL.cell 1 rfl; have kc6 := (hS2).dropL.dropL.dropL.dropL.cell 0 rfl; have kc7 := (hS2).dropL.dropL.dropL.dropL.cell 1 rfl; have cf0 := (hS2).dropL.dropL.dropL.free 0; have cf1 := (hS2).dropL.dropL.dropL.free 1; clear hS2)
    | (go_at_call 11; refine (HMK.out _ _ ((H2.out).cast (show _ = cxB h p most * (tblP p ps (free ++ [k]) * (plB L * (pc w1.heap.size 49 (elC ⟨v0, v1, a2, n2, c2, v3⟩) * (pc (w.heap.size + 1) 30 [vi 0, vu 0] * (pc w.heap.size 30 [vi i, vu g] * (F)))))) by ac_rfl))).mono ?_; rintro e w3 ⟨ao, lc, L2, rfl, hsub, hin, hS3⟩; have HSUB := Lib.hid hsub; have HIN := Lib.hid hin; have h3 : Sat w0 (pc w3.heap.size 30 [vi k, vu a.gen] * (cxB h p most * (tblP p (ps.set k { a with there := true, x := ⟨amount, v1, ao, 1, lc, 0⟩ }) free * (plB L2 * (pc w1.heap.size 49 (elC ⟨v0, v1, a2, n2, c2, v3⟩) * (pc (w.heap.size + 1) 30 [vi 0, vu 0] * (pc w.heap.size 30 [vi i, vu g] * (F)))))))) _ := hS3.alloc (.cells #[vi k, vu a.gen] 30); have H3 := Lib.hid h3; clear hS3 h3 hsub hin))
  have ka0 := (H3.out).dropL.cell 0 rfl; have ka1 := (H3.out).dropL.dropL.dropL.dropL.dropL.dropL.cell 0 rfl; have ka2 := (H3.out).dropL.dropL.dropL.dropL.dropL.dropL.cell 1 rfl; have ka3 := (H3.out).dropL.dropL.dropL.dropL.cell 0 rfl; have ka4 := (H3.out).dropL.dropL.dropL.dropL.cell 1 rfl; have ka5 := (H3.out).dropL.dropL.dropL.dropL.cell 2 rfl; have ka6 := (H3.out).dropL.dropL.dropL.dropL.cell 3 rfl; have ka7 := (H3.out).cell 0 rfl; have ka8 := (H3.out).cell 1 rfl
  go_region_held3 (fun w' => w'.cell? ⟨h, 0, none⟩ = some (vp p) ∧ w'.cell? ⟨w.heap.size, 0, none⟩ = some (vi i) ∧ w'.cell? ⟨w.heap.size, 1, none⟩ = some (vu g) ∧ w'.cell? ⟨w1.heap.size, 0, none⟩ = some (vu v0) ∧ w'.cell? ⟨w1.heap.size, 1, none⟩ = some (vu v1) ∧ w'.cell? ⟨w1.heap.size, 2, none⟩ = some (.slice a2 n2 c2) ∧ w'.cell? ⟨w1.heap.size, 3, none⟩ = some (vi v3) ∧ w'.cell? ⟨w3.heap.size, 0, none⟩ = some (vi k) ∧ w'.cell? ⟨w3.heap.size, 1, none⟩ = some (vu a.gen))
    (first | exact ⟨ka0, ka1, ka2, ka3, ka4, ka5, ka6, ka7, ka8⟩ | exact ⟨kb0, kb1, kb2, kb3, kb4, kb5, kb6, kb7, kb8⟩ | exact ⟨kd0, kd1, kd2, kd3, kd4, kd5, kd6, kd7, kd8⟩ | exact ⟨ke0, ke1, ke2, ke3, ke4, ke5, ke6, ke7, ke8⟩ | go_keep)
    (first
      | (go_at_call 43; refine (HPU.out L2 _ _ HSUB.out ((H3.out.drew).cast (show _ = plB L2 * (pc w3.heap.size 30 [vi k, vu a.gen] * (cxB h p most * (tblP p (ps.set k { a with there := true, x := ⟨amount, v1, ao, 1, lc, 0⟩ }) free * (pc w1.heap.size 49 (elC ⟨v0, v1, a2, n2, c2, v3⟩) * (pc (w.heap.size + 1) 30 [vi 0, vu 0] * (pc w.heap.size 30 [vi i, vu g] * (F))))))) by ac_rfl))).mono ?_; rintro e w4 ⟨ao2, lc2, L3, rfl, hsub3, hin3, hS4⟩; have HSUB3 := Lib.hid hsub3; have HIN3 := Lib.hid hin3; have h4 := (hS4).cast (show _ = pc w3.heap.size 30 [vi k, vu a.gen] * (cxB h p most * (tblP p (ps.set k { a with there := true, x := ⟨amount, v1, ao, 1, lc, 0⟩ }) free * (plB L3 * (pc w1.heap.size 49 (elC ⟨v0, v1, a2, n2, c2, v3⟩) * (pc (w.heap.size + 1) 30 [vi 0, vu 0] * (pc w.heap.size 30 [vi i, vu g] * (F))))))) by ac_rfl); have H4 := Lib.hid h4; clear hS4 h4 hsub3 hin3; have kb0 := (H4.out).dropL.cell 0 rfl; have kb1 := (H4.out).dropL.dropL.dropL.dropL.dropL.dropL.cell 0 rfl; have kb2 := (H4.out).dropL.dropL.dropL.dropL.dropL.dropL.cell 1 rfl; have kb3 := (H4.out).dropL.dropL.dropL.dropL.cell 0 rfl; have kb4 := (H4.out).dropL.dropL.dropL.dropL.cell 1 rfl; have kb5 := (H4.out).dropL.dropL.dropL.dropL.cell 2 rfl; have kb6 := (H4.out).dropL.dropL.dropL.dropL.cell 3 rfl; have kb7 := (H4.out).cell 0 rfl; have kb8 := (H4.out).cell 1 rfl)
      | (go_at_call 41; refine (HSET.out ⟨amount, v1, ao, 1, lc, 0⟩ ⟨v0 - amount, v1, ao2, ln.length, lc2, v3⟩ _ _ ((H4.out).cast (show _ = tblP p (ps.set k { a with there := true, x := ⟨amount, v1, ao, 1, lc, 0⟩ }) free * (pc w3.heap.size 30 [vi k, vu a.gen] * (cxB h p most * (plB L3 * (pc w1.heap.size 49 (elC ⟨v0, v1, a2, n2, c2, v3⟩) * (pc (w.heap.size + 1) 30 [vi 0, vu 0] * (pc w.heap.size 30 [vi i, vu g] * (F))))))) by ac_rfl))).mono ?_; rintro e w5 ⟨rfl, hS5⟩; have h5 := (hS5).cast (show _ = pc w3.heap.size 30 [vi k, vu a.gen] * (cxB h p most * (tblP p (setP (ps.set k { a with there := true, x := ⟨amount, v1, ao, 1, lc, 0⟩ }) i g ⟨v0 - amount, v1, ao2, ln.length, lc2, v3⟩) free * (plB L3 * (pc w1.heap.size 49 (elC ⟨v0, v1, a2, n2, c2, v3⟩) * (pc (w.heap.size + 1) 30 [vi 0, vu 0] * (pc w.heap.size 30 [vi i, vu g] * (F))))))) by ac_rfl); have H5 := Lib.hid h5; clear hS5 h5; have kd0 := (H5.out).dropL.cell 0 rfl; have kd1 := (H5.out).dropL.dropL.dropL.dropL.dropL.dropL.cell 0 rfl; have kd2 := (H5.out).dropL.dropL.dropL.dropL.dropL.dropL.cell 1 rfl; have kd3 := (H5.out).dropL.dropL.dropL.dropL.cell 0 rfl; have kd4 := (H5.out).dropL.dropL.dropL.dropL.cell 1 rfl; have kd5 := (H5.out).dropL.dropL.dropL.dropL.cell 2 rfl; have kd6 := (H5.out).dropL.dropL.dropL.dropL.cell 3 rfl; have kd7 := (H5.out).cell 0 rfl; have kd8 := (H5.out).cell 1 rfl; have y0 := H5.out.dropL.dropL.dropL.dropL.dropL.cell 0 rfl; have y1 := H5.out.dropL.dropL.dropL.dropL.dropL.cell 1 rfl; have yf := H5.out.dropL.dropL.dropL.dropL.dropL.free 0; have yg := H5.out.dropL.dropL.dropL.dropL.dropL.free 1; have h6 : Sat w0 (pc (w.heap.size + 1) 30 [vi k, vu a.gen] * (pc w3.heap.size 30 [vi k, vu a.gen] * (cxB h p most * (tblP p (setP (ps.set k { a with there := true, x := ⟨amount, v1, ao, 1, lc, 0⟩ }) i g ⟨v0 - amount, v1, ao2, ln.length, lc2, v3⟩) free * (plB L3 * (pc w1.heap.size 49 (elC ⟨v0, v1, a2, n2, c2, v3⟩) * (pc w.heap.size 30 [vi i, vu g] * (F)))))))) _ := (((H5.out).cast (show _ = pc (w.heap.size + 1) 30 [vi 0, vu 0] * (pc w3.heap.size 30 [vi k, vu a.gen] * (cxB h p most * (tblP p (setP (ps.set k { a with there := true, x := ⟨amount, v1, ao, 1, lc, 0⟩ }) i g ⟨v0 - amount, v1, ao2, ln.length, lc2, v3⟩) free * (plB L3 * (pc w1.heap.size 49 (elC ⟨v0, v1, a2, n2, c2, v3⟩) * (pc w.heap.size 30 [vi i, vu g] * (F))))))) by ac_rfl)).store 0 (vi k)).store 1 (vu a.gen); have H6 := Lib.hid ((h6).cast (show _ = pc w3.heap.size 30 [vi k, vu a.gen] * (cxB h p most * (tblP p (setP (ps.set k { a with there := true, x := ⟨amount, v1, ao, 1, lc, 0⟩ }) i g ⟨v0 - amount, v1, ao2, ln.length, lc2, v3⟩) free * (plB L3 * (pc w1.heap.size 49 (elC ⟨v0, v1, a2, n2, c2, v3⟩) * (pc (w.heap.size + 1) 30 [vi k, vu a.gen] * (pc w.heap.size 30 [vi i, vu g] * (F))))))) by ac_rfl)); clear h6; have ke0 := (H6.out).dropL.cell 0 rfl; have ke1 := (H6.out).dropL.dropL.dropL.dropL.dropL.dropL.cell 0 rfl; have ke2 := (H6.out).dropL.dropL.dropL.dropL.dropL.dropL.cell 1 rfl; have ke3 := (H6.out).dropL.dropL.dropL.dropL.cell 0 rfl; have ke4 := (H6.out).dropL.dropL.dropL.dropL.cell 1 rfl; have ke5 := (H6.out).dropL.dropL.dropL.dropL.cell 2 rfl; have ke6 := (H6.out).dropL.dropL.dropL.dropL.cell 3 rfl; have ke7 := (H6.out).cell 0 rfl; have ke8 := (H6.out).cell 1 rfl))
  go_wp2
  (try simp only [Exit.inBlock, Exit.then])
  refine bodyPost_ret (v := .tuple #[vr k a.gen, vi 0]) (by rw [results_cell_tmp rfl]; go_simp) rfl ?_
  exact ⟨ao, lc, ao2, lc2, L3, rfl, fun x hx => HSUB3.out x (HSUB.out x hx), HIN.out.mono HSUB3.out, HIN3.out, ((H6.out).cast (show _ = pc (w.heap.size + 1) 30 [vi k, vu a.gen] * (pc w3.heap.size 30 [vi k, vu a.gen] * (pc w1.heap.size 49 (elC ⟨v0, v1, a2, n2, c2, v3⟩) * (pc w.heap.size 30 [vi i, vu g] * (cxB h p most * (tblP p (setP (ps.set k { a with there := true, x := ⟨amount, v1, ao, 1, lc, 0⟩ }) i g ⟨v0 - amount, v1, ao2, ln.length, lc2, v3⟩) free * (plB L3 * (F))))))) by ac_rfl)).dropL.dropL.dropL.dropL⟩
end
end Go.Proofs.Ytknodagcmachiaa.Cn
