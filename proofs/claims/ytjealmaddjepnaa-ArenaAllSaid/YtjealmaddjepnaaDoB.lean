/-
  The walk of helmsmanlaw02.do: a table and the reference's table answer alike, and stay alike. No statement is proved here.
-/
import Derived.Test.YtjealmaddjepnaaRefRel
import Derived.Test.YtjealmaddjepnaaStaleLaw
namespace Go.Proofs.Ytjealmaddjepnaa.Ar
open Go.RowKit
set_option linter.unusedVariables false

def DoPost (w0 : World) (p q : Nat) (times : Int) (ps : List Pl) (F : Hp) (e : Ending) (w' : World) : Prop :=
  e = .returned (.bool true) ∧ ∃ ps' free' rs' times', Rel ps' free' rs' times' ∧ times' ≤ times + 1 ∧ ps'.length = ps.length ∧ Sat w0 (tblP p ps' free' * (refP q rs' times' * F)) w'
theorem setP_len (ps : List Pl) (i g : Int) (x : El) : (setP ps i g x).length = ps.length := by
  unfold setP
  split
  · rfl
  · exact List.length_set
theorem dropped_len (ps : List Pl) (free : List Nat) (i g : Int) : (dropped ps free i g).1.length = ps.length := by
  unfold dropped
  split
  · rfl
  · split
    · exact List.length_set
    · exact List.length_set

section
variable {w0 w : World} {p q : Nat} {ps : List Pl} {free : List Nat} {rs : List RP} {times : Int} {F : Hp}
set_option maxRecDepth 100000 in
set_option maxHeartbeats 2000000 in
theorem doA2 (h : Sat w0 (tblP p ps free * (refP q rs times * F)) w) (hR : Rel ps free rs times) (ht : times ≤ 1000000) (x i g n : Int) :
    Calls Try.prog 11 #[vp p, vp q, .agg #[vi 2, vi x, vi i, vu g, vi n]] w (DoPost w0 p q times ps F) := by
  have hok := tblOk_of h
  have hB : Sat w0 (pc w.heap.size 37 (actC 2 x i g n) * (tblP p ps free * (refP q rs times * F))) (w.alloc (.cells #[vi 2, vi x, vi i, vu g, vi n] 37)) := h.alloc (.cells #[vi 2, vi x, vi i, vu g, vi n] 37)
  have c0 := hB.cell 0 rfl
  have c1 := hB.cell 1 rfl
  have c2 := hB.cell 2 rfl
  have c3 := hB.cell 3 rfl
  have c4 := hB.cell 4 rfl
  have H := Lib.hid hB
  have HR := Lib.hid hR
  have HOK := Lib.hid hok
  clear hB h hR hok
  have hE : getE ps i g = 0 ∨ getE ps i g = 11 := by
    unfold getE
    cases Ar.isAt ps i g
    · exact .inr rfl
    · exact .inl rfl
  go_enter Try.func11, Try.ntmps11
  go_wp2_with fail
  generalize hwb : w.alloc (.cells #[vi 2, vi x, vi i, vu g, vi n] 37) = wb at *
  generalize w.heap.size = bx at *
  clear hwb
  have HG := Lib.hid (get_ H.out.pull2 i g)
  have HG2 : Hid (∀ w' F', Sat w0 (refP q rs times * F') w' → Calls Try.prog 25 #[vp q, vr i g] w' fun e w' => e = .returned (.tuple #[vi (getX ps i g), vi (getE ps i g)]) ∧ Sat w0 (refP q rs times * F') w') := Lib.hid fun w' F' h' => rget_rel h' HR.out HOK.out.small i g
  generalize getX ps i g = gx at *
  generalize getE ps i g = ge at *
  go_wp2_with (first
    | (go_at_call 24; refine HG.out.mono ?_; rintro e w1 ⟨rfl, hS1⟩; have d2 := hS1.pull2.cell 2 rfl; have d3 := hS1.pull2.cell 3 rfl; have H1 := Lib.hid hS1; clear hS1)
    | (go_at_call 25; refine (HG2.out _ _ H1.out.pull3).mono ?_; rintro e w2 ⟨rfl, hS2⟩; have H2 := Lib.hid hS2; clear hS2))
  go_ret
  exact ⟨rfl, _, _, _, _, HR.out, by omega, rfl, H2.out.pull2.drop3⟩

set_option maxRecDepth 100000 in
set_option maxHeartbeats 2000000 in
theorem doA3 (h : Sat w0 (tblP p ps free * (refP q rs times * F)) w) (hR : Rel ps free rs times) (ht : times ≤ 1000000) (x i g n : Int) :
    Calls Try.prog 11 #[vp p, vp q, .agg #[vi 3, vi x, vi i, vu g, vi n]] w (DoPost w0 p q times ps F) := by
  have hok := tblOk_of h
  have hB : Sat w0 (pc w.heap.size 37 (actC 3 x i g n) * (tblP p ps free * (refP q rs times * F))) (w.alloc (.cells #[vi 3, vi x, vi i, vu g, vi n] 37)) := h.alloc (.cells #[vi 3, vi x, vi i, vu g, vi n] 37)
  have c0 := hB.cell 0 rfl
  have c1 := hB.cell 1 rfl
  have c2 := hB.cell 2 rfl
  have c3 := hB.cell 3 rfl
  have c4 := hB.cell 4 rfl
  have H := Lib.hid hB
  have HR := Lib.hid hR
  have HOK := Lib.hid hok
  clear hB h hR hok
  go_enter Try.func11, Try.ntmps11
  go_wp2_with fail
  generalize hwb : w.alloc (.cells #[vi 3, vi x, vi i, vu g, vi n] 37) = wb at *
  generalize w.heap.size = bx at *
  clear hwb
  have HG2 : Hid (∀ w' F', Sat w0 (refP q rs times * F') w' → Calls Try.prog 27 #[vp q, vr i g, vi x] w' fun e w' => e = .returned (vi (getE ps i g)) ∧ ∃ rs', Rel (setP ps i g x) free rs' times ∧ Sat w0 (refP q rs' times * F') w') := Lib.hid fun w' F' h' => rset_rel h' HR.out HOK.out.small i g x
  go_region_held3 (fun w' => w'.cell? ⟨bx, 1, none⟩ = some (vi x) ∧ w'.cell? ⟨bx, 2, none⟩ = some (vi i) ∧ w'.cell? ⟨bx, 3, none⟩ = some (vu g))
    (first | exact ⟨d1, d2, d3⟩ | exact ⟨e1, e2, e3⟩ | go_keep)
    (first
      | (go_at_call 26; refine (set_ (H.out.drewN 1).pull2 i g x).mono ?_; rintro e w1 ⟨rfl, hS1⟩; have d1 := hS1.pull2.cell 1 rfl; have d2 := hS1.pull2.cell 2 rfl; have d3 := hS1.pull2.cell 3 rfl; have H1 := Lib.hid hS1; clear hS1)
      | (go_at_call 27; refine (HG2.out _ _ H1.out.pull3).mono ?_; rintro e w2 ⟨rfl, rs', hR', hS2⟩; have e1 := hS2.pull3.cell 1 rfl; have e2 := hS2.pull3.cell 2 rfl; have e3 := hS2.pull3.cell 3 rfl; have H2 := Lib.hid hS2; clear hS2))
  go_wp2
  go_ret
  exact ⟨by simp, _, _, _, _, hR', by omega, setP_len ps i g x, H2.out.pull2.drop3⟩

set_option maxRecDepth 100000 in
set_option maxHeartbeats 2000000 in
theorem doA4 (h : Sat w0 (tblP p ps free * (refP q rs times * F)) w) (hR : Rel ps free rs times) (ht : times ≤ 1000000) (x i g n : Int) :
    Calls Try.prog 11 #[vp p, vp q, .agg #[vi 4, vi x, vi i, vu g, vi n]] w (DoPost w0 p q times ps F) := by
  have hok := tblOk_of h
  have hB : Sat w0 (pc w.heap.size 37 (actC 4 x i g n) * (tblP p ps free * (refP q rs times * F))) (w.alloc (.cells #[vi 4, vi x, vi i, vu g, vi n] 37)) := h.alloc (.cells #[vi 4, vi x, vi i, vu g, vi n] 37)
  have c0 := hB.cell 0 rfl
  have c1 := hB.cell 1 rfl
  have c2 := hB.cell 2 rfl
  have c3 := hB.cell 3 rfl
  have c4 := hB.cell 4 rfl
  have H := Lib.hid hB
  have HR := Lib.hid hR
  have HOK := Lib.hid hok
  clear hB h hR hok
  go_enter Try.func11, Try.ntmps11
  go_wp2_with fail
  generalize hwb : w.alloc (.cells #[vi 4, vi x, vi i, vu g, vi n] 37) = wb at *
  generalize w.heap.size = bx at *
  clear hwb
  have HG2 : Hid (∀ w' F', Sat w0 (refP q rs times * F') w' → Calls Try.prog 28 #[vp q, vr i g] w' fun e w' => e = .returned (vi (getE ps i g)) ∧ ∃ rs' times', Rel (dropped ps free i g).1 (dropped ps free i g).2 rs' times' ∧ times' ≤ times + 1 ∧ Sat w0 (refP q rs' times' * F') w') := Lib.hid fun w' F' h' => rdrop_rel h' HR.out HOK.out ht i g
  go_region_held3 (fun w' => w'.cell? ⟨bx, 2, none⟩ = some (vi i) ∧ w'.cell? ⟨bx, 3, none⟩ = some (vu g))
    (first | exact ⟨d2, d3⟩ | exact ⟨e2, e3⟩ | go_keep)
    (first
      | (go_at_call 15; refine (drop_ (H.out.drewN 1).pull2 i g).mono ?_; rintro e w1 ⟨rfl, hS1⟩; have d2 := hS1.pull2.cell 2 rfl; have d3 := hS1.pull2.cell 3 rfl; have H1 := Lib.hid hS1; clear hS1)
      | (go_at_call 28; refine (HG2.out _ _ H1.out.pull3).mono ?_; rintro e w2 ⟨rfl, rs', times', hR', ht', hS2⟩; have e2 := hS2.pull3.cell 2 rfl; have e3 := hS2.pull3.cell 3 rfl; have H2 := Lib.hid hS2; clear hS2))
  go_wp2
  go_ret
  exact ⟨by simp, _, _, _, _, hR', ht', dropped_len ps free i g, H2.out.pull2.drop3⟩

set_option maxRecDepth 100000 in
set_option maxHeartbeats 2000000 in
theorem doA0 (h : Sat w0 (tblP p ps free * (refP q rs times * F)) w) (hR : Rel ps free rs times) (ht : times ≤ 1000000) (k x i g n : Int) (hk : k ≠ 1) (hk2 : k ≠ 2) (hk3 : k ≠ 3) (hk4 : k ≠ 4) (hk5 : k ≠ 5) :
    Calls Try.prog 11 #[vp p, vp q, .agg #[vi k, vi x, vi i, vu g, vi n]] w (DoPost w0 p q times ps F) := by
  have hok := tblOk_of h
  have k1 : (k == 1) = false := beq_eq_false_iff_ne.2 hk
  have k2 : (k == 2) = false := beq_eq_false_iff_ne.2 hk2
  have k3 : (k == 3) = false := beq_eq_false_iff_ne.2 hk3
  have k4 : (k == 4) = false := beq_eq_false_iff_ne.2 hk4
  have k5 : (k == 5) = false := beq_eq_false_iff_ne.2 hk5
  have hB : Sat w0 (pc w.heap.size 37 (actC k x i g n) * (tblP p ps free * (refP q rs times * F))) (w.alloc (.cells #[vi k, vi x, vi i, vu g, vi n] 37)) := h.alloc (.cells #[vi k, vi x, vi i, vu g, vi n] 37)
  have c0 := hB.cell 0 rfl
  have c1 := hB.cell 1 rfl
  have c2 := hB.cell 2 rfl
  have c3 := hB.cell 3 rfl
  have c4 := hB.cell 4 rfl
  have H := Lib.hid hB
  have HR := Lib.hid hR
  have HOK := Lib.hid hok
  clear hB h hR hok
  go_enter Try.func11, Try.ntmps11
  go_wp2
  go_ret
  exact ⟨rfl, _, _, _, _, HR.out, by omega, rfl, H.out.dropL⟩

set_option maxRecDepth 100000 in
set_option maxHeartbeats 2000000 in
theorem doA5 (h : Sat w0 (tblP p ps free * (refP q rs times * F)) w) (hR : Rel ps free rs times) (ht : times ≤ 1000000) (x i g n : Int) :
    Calls Try.prog 11 #[vp p, vp q, .agg #[vi 5, vi x, vi i, vu g, vi n]] w (DoPost w0 p q times ps F) := by
  have hok := tblOk_of h
  have hB : Sat w0 (pc w.heap.size 37 (actC 5 x i g n) * (tblP p ps free * (refP q rs times * F))) (w.alloc (.cells #[vi 5, vi x, vi i, vu g, vi n] 37)) := h.alloc (.cells #[vi 5, vi x, vi i, vu g, vi n] 37)
  have c0 := hB.cell 0 rfl
  have c1 := hB.cell 1 rfl
  have c2 := hB.cell 2 rfl
  have c3 := hB.cell 3 rfl
  have c4 := hB.cell 4 rfl
  have H := Lib.hid hB
  have HR := Lib.hid hR
  have HOK := Lib.hid hok
  clear hB h hR hok
  obtain ⟨ai, ag, ab, hat⟩ := atV_form ps n
  have HA := Lib.hid hat
  clear hat
  go_enter Try.func11, Try.ntmps11
  go_wp2_with fail
  generalize hwb : w.alloc (.cells #[vi 5, vi x, vi i, vu g, vi n] 37) = wb at *
  generalize w.heap.size = bx at *
  clear hwb
  have HG2 : Hid (∀ w' F', Sat w0 (refP q rs times * F') w' → Calls Try.prog 28 #[vp q, vr ai ag] w' fun e w' => e = .returned (vi (getE ps ai ag)) ∧ ∃ rs' times', Rel (dropped ps free ai ag).1 (dropped ps free ai ag).2 rs' times' ∧ times' ≤ times + 1 ∧ Sat w0 (refP q rs' times' * F') w') := Lib.hid fun w' F' h' => rdrop_rel h' HR.out HOK.out ht ai ag
  go_wp2_with (go_at_call 14; refine (at_ H.out.pull2 n).mono ?_; rw [HA.out]; rintro e w1 ⟨rfl, hS⟩; have hT : Sat w0 (pc w1.heap.size 35 [vi ai, vu ag] * (tblP p ps free * (pc bx 37 (actC 5 x i g n) * (refP q rs times * F)))) (w1.alloc (.cells #[vi ai, vu ag] 35)) := hS.alloc _; have H1 := Lib.hid hT; clear hS hT)
  have r0 := H1.out.cell 0 rfl
  have r1 := H1.out.cell 1 rfl
  generalize w1.alloc (.cells #[vi ai, vu ag] 35) = wc at *
  generalize w1.heap.size = br at *
  go_region_held3 (fun w' => w'.cell? ⟨br, 0, none⟩ = some (vi ai) ∧ w'.cell? ⟨br, 1, none⟩ = some (vu ag))
    (first | exact ⟨d2, d3⟩ | exact ⟨e2, e3⟩ | go_keep)
    (first
      | (go_at_call 15; refine (drop_ (H1.out.drewN 1).pull2 ai ag).mono ?_; rintro e w2 ⟨rfl, hS1⟩; have d2 := hS1.pull2.cell 0 rfl; have d3 := hS1.pull2.cell 1 rfl; have H2 := Lib.hid hS1; clear hS1)
      | (go_at_call 28; refine (HG2.out _ _ H2.out.pull4).mono ?_; rintro e w3 ⟨rfl, rs', times', hR', ht', hS2⟩; have e2 := hS2.pull3.cell 0 rfl; have e3 := hS2.pull3.cell 1 rfl; have H3 := Lib.hid hS2; clear hS2))
  go_wp2
  go_ret
  exact ⟨by simp, _, _, _, _, hR', ht', dropped_len ps free ai ag, H3.out.pull2.drop3.drop3⟩

set_option maxRecDepth 100000 in
set_option maxHeartbeats 2000000 in
theorem doA1 (h : Sat w0 (tblP p ps free * (refP q rs times * F)) w) (hR : Rel ps free rs times) (ht : times ≤ 1000000) (x i g n : Int) :
    Calls Try.prog 11 #[vp p, vp q, .agg #[vi 1, vi x, vi i, vu g, vi n]] w (DoPost w0 p q times ps F) := by
  have hok := tblOk_of h
  have hB : Sat w0 (pc w.heap.size 37 (actC 1 x i g n) * (tblP p ps free * (refP q rs times * F))) (w.alloc (.cells #[vi 1, vi x, vi i, vu g, vi n] 37)) := h.alloc (.cells #[vi 1, vi x, vi i, vu g, vi n] 37)
  have c0 := hB.cell 0 rfl
  have c1 := hB.cell 1 rfl
  have c2 := hB.cell 2 rfl
  have c3 := hB.cell 3 rfl
  have c4 := hB.cell 4 rfl
  have H := Lib.hid hB
  have HR := Lib.hid hR
  have HOK := Lib.hid hok
  clear hB h hR hok
  by_cases hf : free = []
  · subst hf
    go_enter Try.func11, Try.ntmps11
    go_wp2_with fail
    generalize hwb : w.alloc (.cells #[vi 1, vi x, vi i, vu g, vi n] 37) = wb at *
    generalize w.heap.size = bx at *
    clear hwb
    go_wp2_with (first
      | (go_at_call 13; refine (put_no H.out.pull2 x).mono ?_; rintro e w1 ⟨rfl, hS⟩; have hT : Sat w0 (pc w1.heap.size 35 [vi 0, vu 0] * (tblP p ps [] * (pc bx 37 (actC 1 x i g n) * (refP q rs times * F)))) (w1.alloc (.cells #[vi 0, vu 0] 35)) := hS.alloc _; have d1 := hT.pull3.cell 1 rfl; have H1 := Lib.hid hT; clear hS hT)
      | (go_at_call 23; refine (rput_full H1.out.pull4 HR.out HOK.out x).mono ?_; rintro e w2 ⟨rfl, hS⟩; have hT : Sat w0 (pc w2.heap.size 35 [vi 0, vu 0] * _) (w2.alloc (.cells #[vi 0, vu 0] 35)) := hS.alloc _; have e0 := hT.pull3.cell 0 rfl; have e1 := hT.pull3.cell 1 rfl; have H2 := Lib.hid hT; clear hS hT))
    go_ret
    exact ⟨rfl, _, _, _, _, HR.out, by omega, rfl, H2.out.dropL.drop2.pull2.drop3⟩
  · obtain ⟨init, k0, rfl⟩ : ∃ init k0, free = init ++ [k0] := by
      rcases List.eq_nil_or_concat free with h | ⟨L, b, h⟩
      · exact absurd h hf
      · exact ⟨L, b, by rw [h, List.concat_eq_append]⟩
    obtain ⟨a, hka, hth, hre⟩ := (HOK.out.mem k0).1 (by simp)
    have hlen : (ps.set k0 { a with there := true, x := x }).length = ps.length := List.length_set
    have HL := Lib.hid hlen
    have HG2 : Hid (∀ w' F', Sat w0 (refP q rs times * F') w' → Calls Try.prog 23 #[vp q, vi x] w' fun e w' => e = .returned (.tuple #[vr k0 a.gen, vi 0]) ∧ ∃ rs', Rel (ps.set k0 { a with there := true, x := x }) init rs' times ∧ Sat w0 (refP q rs' times * F') w') := Lib.hid fun w' F' h' => rput_come h' HR.out HOK.out hka x
    have HG1 := Lib.hid (fun w' F' (h' : Sat w0 (tblP p ps (init ++ [k0]) * F') w') => put_yes h' hka x)
    generalize ps.set k0 { a with there := true, x := x } = ps2 at *
    generalize a.gen = gen at *
    clear hka hth hre hlen
    go_enter Try.func11, Try.ntmps11
    go_wp2_with fail
    generalize hwb : w.alloc (.cells #[vi 1, vi x, vi i, vu g, vi n] 37) = wb at *
    generalize w.heap.size = bx at *
    clear hwb
    go_wp2_with (first
      | (go_at_call 13; refine (HG1.out _ _ H.out.pull2).mono ?_; rintro e w1 ⟨rfl, hS⟩; have hT : Sat w0 (pc w1.heap.size 35 [vi k0, vu gen] * (tblP p ps2 init * (pc bx 37 (actC 1 x i g n) * (refP q rs times * F)))) (w1.alloc (.cells #[vi k0, vu gen] 35)) := hS.alloc _; have d1 := hT.pull3.cell 1 rfl; have H1 := Lib.hid hT; clear hS hT)
      | (go_at_call 23; refine (HG2.out _ _ H1.out.pull4).mono ?_; rintro e w2 ⟨rfl, rs', hR', hS⟩; have hT : Sat w0 (pc w2.heap.size 35 [vi k0, vu gen] * _) (w2.alloc (.cells #[vi k0, vu gen] 35)) := hS.alloc _; have e0 := hT.pull3.cell 0 rfl; have e1 := hT.pull3.cell 1 rfl; have H2 := Lib.hid hT; clear hS hT))
    go_ret
    exact ⟨rfl, _, _, _, _, hR', by omega, HL.out, H2.out.dropL.drop2.pull2.drop3⟩

/-- do: both answer alike, and stay alike. -/
theorem doA (h : Sat w0 (tblP p ps free * (refP q rs times * F)) w) (hR : Rel ps free rs times) (ht : times ≤ 1000000) (k x i g n : Int) :
    Calls Try.prog 11 #[vp p, vp q, .agg #[vi k, vi x, vi i, vu g, vi n]] w (DoPost w0 p q times ps F) := by
  by_cases hk : k = 1
  · subst hk; exact doA1 h hR ht x i g n
  by_cases hk2 : k = 2
  · subst hk2; exact doA2 h hR ht x i g n
  by_cases hk3 : k = 3
  · subst hk3; exact doA3 h hR ht x i g n
  by_cases hk4 : k = 4
  · subst hk4; exact doA4 h hR ht x i g n
  by_cases hk5 : k = 5
  · subst hk5; exact doA5 h hR ht x i g n
  exact doA0 h hR ht k x i g n hk hk2 hk3 hk4 hk5
end
end Go.Proofs.Ytjealmaddjepnaa.Ar
