/-
  Package context: refused, part, copied, pull. No statement is proved here.
-/
import Derived.Test.YtknodagcmachiaaMg5
import Derived.Test.YtknodagcmachiaaCx1
import Derived.Test.YtknodagcmachiaaFi21
import Derived.Test.YtknodagcmachiaaFi20
import Derived.Laws.ResultCell
import Derived.Deep.MidRow
import Derived.Test.YtknodagcmachiaaMg1
import Derived.BigQuiet
import Derived.Test.YtknodagcmachiaaOwn
import Derived.Shelf.Abstract
namespace Go.Proofs.Ytknodagcmachiaa.Cn
open Go.RowKit Ac Fi
set_option linter.unusedVariables false
set_option linter.unusedSimpArgs false

section
variable {w0 w : World} {F : Hp} {h p : Nat} {most : Int} {ps : List Pl} {free : List Nat} {L : Blks} {l : List Rf}
/-- The first error of some. -/
def firstE : List Int → Int
  | [] => 0
  | e :: t => if e = 0 then firstE t else e
theorem firstE_all : ∀ (es : List Int), (∀ j, j < es.length → es[j]? = some 0) → firstE es = 0
  | [], _ => rfl
  | e :: t, h => by
    have h0 := h 0 (by simp)
    have : e = 0 := Option.some.inj h0
    rw [firstE, if_pos this]
    exact firstE_all t fun j hj => by have := h (j + 1) (by simpa using hj); simpa using this
theorem firstE_at : ∀ (es : List Int) (k : Nat) (e : Int), es[k]? = some e → e ≠ 0 → (∀ j, j < k → es[j]? = some 0) → firstE es = e
  | [], k, e, h, _, _ => by simp at h
  | x :: t, 0, e, h, he, _ => by
    have : x = e := Option.some.inj h
    subst this
    rw [firstE, if_neg he]
  | x :: t, k + 1, e, h, he, hj => by
    have h0 := hj 0 (by omega)
    have : x = 0 := Option.some.inj h0
    rw [firstE, if_pos this]
    exact firstE_at t k e (by simpa using h) he fun j hjk => by have := hj (j + 1) (by omega); simpa using this
/-- A closure. -/
abbrev fv (f : Nat × List Value) : Value := .func (.func f.1) #[] f.2.toArray
set_option maxRecDepth 100000 in
set_option maxHeartbeats 2000000 in
theorem cx_refused (fs : List (Nat × List Value)) (es : List Int) (hlen : fs.length = es.length) (hn : fs.length ≤ 100) (g c : Nat) (H : Hp) (h : Sat w0 H w) (hE : ∀ f ∈ fs, ∀ args w, (callFunc f.1 args).run Try.prog w = .ok (.enter f.1 args) w)
    (hR : ∀ w', Sat w0 H w' → Rd w' 1 (.slice (some ⟨g, 0, none⟩) fs.length c) fs.length (fs.map fv))
    (hC : ∀ (k : Nat) (f : Nat × List Value) (e : Int), fs[k]? = some f → es[k]? = some e → (∀ j, j < k → es[j]? = some 0) → ∀ w', Sat w0 H w' → Calls Try.prog f.1 f.2.toArray w' fun en w2 => en = .returned (vi e) ∧ Sat w0 H w2) :
    Calls Try.prog 64 #[.slice (some ⟨g, 0, none⟩) fs.length c] w fun e w' => e = .returned (vi (firstE es)) ∧ Sat w0 H w' := by
  have HR := Lib.hid hR
  have HLEN := Lib.hid hlen
  clear hlen
  have HC := Lib.hid hC
  have HH := Lib.hid h
  clear hR hC h
  go_enter Try.func64, Try.ntmps64
  go_wp2
  go_loopw [8] (fun i wr => ∃ (k : Nat), k ≤ fs.length ∧ i = vi k ∧ Hid (∀ (j : Nat), j < k → es[j]? = some 0) ∧ Sat w0 H wr) (fun i _ => fs.length - (intOf i).toNat)
  case atStart => exact ⟨0, Nat.zero_le _, rfl, Lib.hid (fun j hj => by omega), HH.out⟩
  case round =>
    obtain ⟨k, hk, rfl, hg, hb⟩ := hrel
    by_cases hlt : k < fs.length
    · obtain ⟨f, hf⟩ : ∃ f, fs[k]? = some f := ⟨fs[k], List.getElem?_eq_getElem hlt⟩
      obtain ⟨e, he⟩ : ∃ e, es[k]? = some e := ⟨es[k], List.getElem?_eq_getElem (by have := HLEN.out; omega)⟩
      have hcl := Lib.hid (HC.out k f e hf he hg.out wr hb)
      have hc : wr.cell? ⟨g, k, none⟩ = some (.func (.func f.1) #[] f.2.toArray) := by
        obtain ⟨b, off, cap, hv, hcell⟩ := (HR.out wr hb).pos (by omega)
        cases hv
        have := hcell k (fv f) (by rw [List.getElem?_map, hf]; rfl)
        rwa [Nat.zero_add] at this
      have hen := hE f (List.mem_of_getElem? hf)
      obtain ⟨fn, caps⟩ := f
      dsimp only at hcl hc hen
      generalize caps.toArray = ca at *
      have hkl : (k : Int) < (fs.length : Int) := by omega
      have HB := Lib.hid hb
      by_cases ha : e = 0
      · subst ha
        have hg2 : Hid (∀ (j : Nat), j < k + 1 → es[j]? = some 0) := Lib.hid (fun j hj => by
          by_cases e : j = k
          · subst e
            exact he
          · exact hg.out j (by omega))
        clear hf hb hg he
        go_wp2_with (with_reducible refine hcl.out.mono ?_; rintro e w' ⟨rfl, hb2⟩; have HB2 := Lib.hid hb2; clear hb2)
        go_roundw
        case rel => exact ⟨k + 1, by omega, by go_num, hg2, HB2.out⟩
        case measure => (simp [intOf]; try omega)
      · have HV : Hid (firstE es = e) := Lib.hid (firstE_at es k e he ha hg.out)
        have hne : (e != 0) = true := by simpa using ha
        clear hf hb hg he ha
        go_wp2_with (with_reducible refine hcl.out.mono ?_; rintro e w' ⟨rfl, hb2⟩; have HB2 := Lib.hid hb2; clear hb2)
        go_ret
        exact ⟨by rw [HV.out]; rfl, HB2.out⟩
    · obtain rfl : k = fs.length := by omega
      have HV : Hid (firstE es = 0) := Lib.hid (firstE_all es (fun j hj => hg.out j (by have := HLEN.out; omega)))
      have HB := Lib.hid hb
      clear hg hb
      go_wp2
      go_ret
      exact ⟨by rw [HV.out]; rfl, HB.out⟩
theorem cx_when_t (n : Int) (w : World) : Calls Try.prog 68 #[.bool true, vi n] w fun e w' => e = .returned (vi n) ∧ w = w' := cx_when true n w
theorem cx_when_f (n : Int) (w : World) : Calls Try.prog 68 #[.bool false, vi n] w fun e w' => e = .returned (vi 0) ∧ w = w' := cx_when false n w
/-- What part says. -/
def partC (b : Int) (l : List Rf) (amount now : Int) : Int := if amount = 0 ∨ 1152921504606846976 < now then 2 else if b ≤ amount ∨ thereV l now < amount then 15 else 0
set_option maxRecDepth 100000 in
set_option maxHeartbeats 2000000 in
theorem part1_ {b4 b5 : Nat} {amount now : Int} (hS : Sat w0 (pc b4 22 [vu amount] * (pc b5 22 [vu now] * F)) w) :
    Calls Try.prog 82 #[vp b4, vp b5] w fun e w' => e = .returned (vi (if amount = 0 ∨ 1152921504606846976 < now then 2 else 0)) ∧ Sat w0 (pc b4 22 [vu amount] * (pc b5 22 [vu now] * F)) w' := by
  have c4 := hS.cell 0 rfl
  have c5 := hS.pull2.cell 0 rfl
  have HS := Lib.hid hS
  have HW1 := Lib.hid (fun n w => cx_when_t n w)
  have HW0 := Lib.hid (fun n w => cx_when_f n w)
  clear hS
  by_cases h1 : amount = 0
  · rw [if_pos (.inl h1)]
    subst h1
    go_enter Try.func82, Try.ntmps82
    go_wp2_with (go_at_call 68; refine (HW1.out _ _).mono ?_; rintro e w' ⟨rfl, rfl⟩)
    go_ret
    exact ⟨rfl, HS.out⟩
  · have h1b : (amount == 0) = false := beq_eq_false_iff_ne.2 h1
    by_cases h2 : 1152921504606846976 < now
    · rw [if_pos (.inr h2)]
      go_enter Try.func82, Try.ntmps82
      go_wp2_with (go_at_call 68; refine (HW1.out _ _).mono ?_; rintro e w' ⟨rfl, rfl⟩)
      go_ret
      exact ⟨rfl, HS.out⟩
    · rw [if_neg (by omega)]
      go_enter Try.func82, Try.ntmps82
      go_wp2_with (go_at_call 68; refine (HW0.out _ _).mono ?_; rintro e w' ⟨rfl, rfl⟩)
      go_ret
      exact ⟨rfl, HS.out⟩
set_option maxRecDepth 100000 in
set_option maxHeartbeats 2000000 in
theorem part2_ {b3 b4 b5 : Nat} {amount now v0 v1 v3 : Int} {a2 : Option Addr} {n2 c2 : Nat} (hS : Sat w0 (pc b4 22 [vu amount] * (pc b3 49 (elC ⟨v0, v1, a2, n2, c2, v3⟩) * (pc b5 22 [vu now] * (F)))) w) (hR : ∀ w', Sat w0 (pc b4 22 [vu amount] * (pc b3 49 (elC ⟨v0, v1, a2, n2, c2, v3⟩) * (pc b5 22 [vu now] * (F)))) w' → RdF w' (.slice a2 n2 c2) l) (hl : l.length ≤ 1000) :
    Calls Try.prog 83 #[vp b4, vp b3, vp b5] w fun e w' => e = .returned (vi (if v0 ≤ amount ∨ thereV l now < amount then 15 else 0)) ∧ Sat w0 (pc b4 22 [vu amount] * (pc b3 49 (elC ⟨v0, v1, a2, n2, c2, v3⟩) * (pc b5 22 [vu now] * (F)))) w' := by
  have d0 := (hS).cell 0 rfl; have d1 := (hS).pull2.cell 0 rfl; have d2 := (hS).pull2.cell 2 rfl; have d3 := (hS).pull3.cell 0 rfl
  have HS := Lib.hid hS
  have HW1 := Lib.hid (fun n w => cx_when_t n w)
  have HW0 := Lib.hid (fun n w => cx_when_f n w)
  have HT := Lib.hid (fun w h => there_ l now (.slice a2 n2 c2) w (hR w h) (by omega))
  clear hS hR
  by_cases h1 : v0 ≤ amount
  · rw [if_pos (.inl h1)]
    have hd : decide (v0 ≤ amount) = true := decide_eq_true h1
    clear h1
    go_enter Try.func83, Try.ntmps83
    go_wp2
    go_quiet ((go_at_call 68; exact Calls.quiet_of_same ((HW1.out _ _).mono fun _ _ h => ⟨h.1, h.2.symm⟩)))
    go_wp2
    go_ret
    exact ⟨rfl, HS.out.drewN _⟩
  · have hd : decide (v0 ≤ amount) = false := decide_eq_false h1
    generalize thereV l now = tv at *
    by_cases h2 : tv < amount
    · have hd2 : decide (tv < amount) = true := decide_eq_true h2
      rw [if_pos (.inr h2)]
      clear h2 h1
      go_enter Try.func83, Try.ntmps83
      go_wp2
      go_region_held3 (fun w' => w'.cell? ⟨b4, 0, none⟩ = some (vu amount) ∧ w'.cell? ⟨b3, 0, none⟩ = some (vu v0) ∧ w'.cell? ⟨b3, 2, none⟩ = some (.slice a2 n2 c2) ∧ w'.cell? ⟨b5, 0, none⟩ = some (vu now))
        (first | exact ⟨d0, d1, d2, d3⟩ | exact ⟨q0, q1, q2, q3⟩ | go_keep)
        (first
         | (go_at_call 39; refine (HT.out _ HS.out.drew).mono ?_; rintro e w2 ⟨rfl, hb⟩; have H2 := Lib.hid (Sat.after HS.out.drew hb); clear hb; have q0 := (H2.out).cell 0 rfl; have q1 := (H2.out).pull2.cell 0 rfl; have q2 := (H2.out).pull2.cell 2 rfl; have q3 := (H2.out).pull3.cell 0 rfl)
         | (go_at_call 68; refine (HW1.out _ _).mono ?_; rintro e w' ⟨rfl, rfl⟩))
      go_wp2
      go_ret
      exact ⟨rfl, H2.out⟩
    · have hd2 : decide (tv < amount) = false := decide_eq_false h2
      rw [if_neg (by omega)]
      clear h2 h1
      go_enter Try.func83, Try.ntmps83
      go_wp2
      go_region_held3 (fun w' => w'.cell? ⟨b4, 0, none⟩ = some (vu amount) ∧ w'.cell? ⟨b3, 0, none⟩ = some (vu v0) ∧ w'.cell? ⟨b3, 2, none⟩ = some (.slice a2 n2 c2) ∧ w'.cell? ⟨b5, 0, none⟩ = some (vu now))
        (first | exact ⟨d0, d1, d2, d3⟩ | exact ⟨q0, q1, q2, q3⟩ | go_keep)
        (first
         | (go_at_call 39; refine (HT.out _ HS.out.drew).mono ?_; rintro e w2 ⟨rfl, hb⟩; have H2 := Lib.hid (Sat.after HS.out.drew hb); clear hb; have q0 := (H2.out).cell 0 rfl; have q1 := (H2.out).pull2.cell 0 rfl; have q2 := (H2.out).pull2.cell 2 rfl; have q3 := (H2.out).pull3.cell 0 rfl)
         | (go_at_call 68; refine (HW0.out _ _).mono ?_; rintro e w' ⟨rfl, rfl⟩))
      go_wp2
      go_ret
      exact ⟨rfl, H2.out⟩
end
end Go.Proofs.Ytknodagcmachiaa.Cn

namespace Go.Proofs.Ytknodagcmachiaa
open Go.RowKit
theorem wpQuiet_load_row {P : Program} {ops : Array Oper} {C : World → Prop} {Q : Act → Prop} {o : Oper} {rest : List Oper} {a : Act} (hw : Region.wanted o (yielded ops a.tmps) = true) (ty : TypeId) (x : Operand) (ho : o.op = .load ty x)
    (b off : Nat) (hx : a.eval x = .pointer (some ⟨b, off, none⟩)) (cs : List Value) (d : TypeDesc) (hc : ∀ w, C w → w.rangeAt b off cs)
    (hu : P.underlying ty = some d) (hd : d.isRow = true) (hi : (P.info? ty).map (·.size) = some cs.length)
    (h : wpQuiet P ops C Q rest (a.put o.dst (.agg cs.toArray))) : wpQuiet P ops C Q (o :: rest) a :=
  BigFrame.wpQuiet_want hw fun K hK => ⟨.agg cs.toArray, fun w hC => by
    unfold Oper.quietAt execOp
    simp only [ho, hx, Instr.loadAt, Instr.sureAddr, Sem.run_bind, Sem.run_pure, Result.andThen_ok, run_loadVar_mid w b off ty cs d (hc w hC) hu hd hi, Oper.quietUpon]
    exact ⟨trivial, trivial⟩, hK _ h⟩
end Go.Proofs.Ytknodagcmachiaa

namespace Go.Proofs.Ytknodagcmachiaa.Cn
open Go.RowKit Ac Fi
set_option linter.unusedVariables false

section
variable {w0 w : World} {F : Hp} {h p : Nat} {most : Int} {ps : List Pl} {free : List Nat}
set_option maxRecDepth 100000 in
set_option maxHeartbeats 2000000 in
theorem cx_find (hS : Sat w0 (cxB h p most * (tblP p ps free * F)) w) (i g : Int) : Calls Try.prog 38 #[vp h, vr i g] w fun e w' => e = .returned (.tuple #[ev (getX ps i g), vi (getE ps i g)]) ∧ Sat w0 (cxB h p most * (tblP p ps free * F)) w' := by
  have hB0 := ((hS.alloc (.cells #[vi i, vu g] 30)).alloc (elO ez))
  rw [size1] at hB0
  have hB : Sat w0 (elB (w.heap.size + 1) ez * (pc w.heap.size 30 [vi i, vu g] * (cxB h p most * (tblP p ps free * F)))) ((w.alloc (.cells #[vi i, vu g] 30)).alloc (elO ez)) := hB0
  have HN := Lib.hid (cx_none hB.pull3)
  have HG := Lib.hid (get_ (hB.drew.pull4) i g)
  have HB := Lib.hid hB
  clear hB hB0 hS
  generalize hwb : (w.alloc (.cells #[vi i, vu g] 30)).alloc (elO ez) = wb at *
  generalize hb1 : w.heap.size + 1 = bx at *
  generalize hb2 : w.heap.size = b2 at *
  have HW := Lib.hid hwb
  have HB1 := Lib.hid hb1
  have HB2 := Lib.hid hb2
  clear hwb hb1 hb2
  generalize getX ps i g = x at *
  generalize getE ps i g = er at *
  go_enter Try.func38, Try.ntmps38
  go_wp2_with fail
  rw [HW.out, HB2.out, HB1.out]
  refine HN.out.mono ?_
  rintro e w' ⟨rfl, rfl⟩
  go_wp2
  have hS0 : (fun w' => w'.cell? ⟨h, 0, none⟩ = some (vp p) ∧ w'.cell? ⟨b2, 0, none⟩ = some (vi i) ∧ w'.cell? ⟨b2, 1, none⟩ = some (vu g)) wb.drew := ⟨HB.out.drew.pull3.cell 0 rfl, HB.out.drew.pull2.cell 0 rfl, HB.out.drew.pull2.cell 1 rfl⟩
  refine wp_region_held (S := fun w' => w'.cell? ⟨h, 0, none⟩ = some (vp p) ∧ w'.cell? ⟨b2, 0, none⟩ = some (vi i) ∧ w'.cell? ⟨b2, 1, none⟩ = some (vu g)) (by kernel_rfl) ?_
  change wpAnyH _ _ _ _ _ _ _ _ (World.drew _)
  refine wpAnyH_take (i := 0) (v := vp h) rfl (by kernel_rfl) (by kernel_rfl) (by kernel_rfl) (fun _ _ _ h => h) (Or.inl ⟨by rfl, fun w' hw' => by go_simp⟩) hS0 ?_
  simp only [Act.put, List.setIfInBounds_toArray, List.set_cons_zero, List.set_cons_succ]
  refine wpAnyH_take (i := 1) (v := vp h) rfl (by kernel_rfl) (by kernel_rfl) (by kernel_rfl) (fun _ _ _ h => h) (Or.inl ⟨by rfl, fun w' hw' => by go_simp⟩) hS0 ?_
  simp only [Act.put, List.setIfInBounds_toArray, List.set_cons_zero, List.set_cons_succ]
  refine wpAnyH_take (i := 2) (v := (.pointer (some ⟨h, 0, none⟩))) rfl (by kernel_rfl) (by kernel_rfl) (by kernel_rfl) (fun _ _ _ h => h) (Or.inl ⟨by rfl, fun w' hw' => by go_simp⟩) hS0 ?_
  simp only [Act.put, List.setIfInBounds_toArray, List.set_cons_zero, List.set_cons_succ]
  refine wpAnyH_take (i := 3) (v := vp p) rfl (by kernel_rfl) (by kernel_rfl) (by kernel_rfl) (fun _ _ _ h => h) (Or.inl ⟨by rfl, fun w' hw' => by (have h1 := hw'.1; go_simp)⟩) hS0 ?_
  simp only [Act.put, List.setIfInBounds_toArray, List.set_cons_zero, List.set_cons_succ]
  refine wpAnyH_take (i := 4) (v := vr i g) rfl (by kernel_rfl) (by kernel_rfl) (by kernel_rfl) (fun _ _ _ h => h) (Or.inl ⟨by rfl, fun w' hw' => by (have h1 := hw'.2.1; have h2 := hw'.2.2; go_simp)⟩) hS0 ?_
  simp only [Act.put, List.setIfInBounds_toArray, List.set_cons_zero, List.set_cons_succ]
  refine wpAnyH_ready (rs := [5]) (by kernel_rfl) (by simp) ?_
  refine AllReadyH.cons rfl (fun K hK => ?_) AllReadyH.nil
  go_simp
  refine HG.out.mono ?_
  rintro e w1 ⟨rfl, hS1⟩
  have HX := Lib.hid hS1.pull2
  have hS1' : (fun w' => w'.cell? ⟨h, 0, none⟩ = some (vp p) ∧ w'.cell? ⟨b2, 0, none⟩ = some (vi i) ∧ w'.cell? ⟨b2, 1, none⟩ = some (vu g)) w1 := ⟨HX.out.pull4.cell 0 rfl, HX.out.pull3.cell 0 rfl, HX.out.pull3.cell 1 rfl⟩
  clear hS1
  refine hK.out _ _ hS1' (fun _ => ?_)
  try simp only [Act.put, List.setIfInBounds_toArray, List.set_cons_zero, List.set_cons_succ]
  refine wpAnyH_take (i := 6) (v := ev x) rfl (by kernel_rfl) (by kernel_rfl) (by kernel_rfl) (fun _ _ _ h => h) (Or.inl ⟨by rfl, fun w' hw' => by go_simp⟩) hS1' ?_
  simp only [Act.put, List.setIfInBounds_toArray, List.set_cons_zero, List.set_cons_succ]
  refine wpAnyH_take (i := 7) (v := vi er) rfl (by kernel_rfl) (by kernel_rfl) (by kernel_rfl) (fun _ _ _ h => h) (Or.inl ⟨by rfl, fun w' hw' => by go_simp⟩) hS1' ?_
  simp only [Act.put, List.setIfInBounds_toArray, List.set_cons_zero, List.set_cons_succ]
  refine wpAnyH_ready (rs := [8]) (by kernel_rfl) (by simp) ?_
  refine AllReadyH.cons rfl (fun K' hK' => ?_) AllReadyH.nil
  rw [if_pos (by rfl)]
  have hth := there_ (n := 4) HX.out rfl
  have hrg := World.rangeAt_setCells_same w1 bx 0 (elC x) hth
  have hst : Sat w0 _ (w1.setCells bx 0 (elC x)) := HX.out.stores (elC x) 0
  refine wp_store_mid 49 _ _ rfl bx 0 (elC x).toArray (by rfl) (by rfl) hth einfo (all_oneCell_toArray (elOne x)) ?_
  have hst2 : Sat w0 _ (w1.setCells bx 0 (elC x).toArray.toList) := hst
  have hrg : (w1.setCells bx 0 (elC x).toArray.toList).rangeAt bx 0 (elC x) := hrg
  generalize w1.setCells bx 0 (elC x).toArray.toList = w2 at *
  have HX2 := Lib.hid hst2
  have hS2 : (fun w' => w'.cell? ⟨h, 0, none⟩ = some (vp p) ∧ w'.cell? ⟨b2, 0, none⟩ = some (vi i) ∧ w'.cell? ⟨b2, 1, none⟩ = some (vu g)) w2 := ⟨HX2.out.pull4.cell 0 rfl, HX2.out.pull3.cell 0 rfl, HX2.out.pull3.cell 1 rfl⟩
  clear hst hst2 hth
  refine hK'.out _ _ hS2 (fun _ => ?_)
  try simp only [Act.put, List.setIfInBounds_toArray, List.set_cons_zero, List.set_cons_succ]
  refine wpAnyH_ready (rs := [9]) (by kernel_rfl) (by simp) ?_
  refine AllReadyH.cons rfl (fun K'' hK'' => ?_) AllReadyH.nil
  go_simp
  refine hK''.out _ _ hS2 (fun _ => ?_)
  try simp only [Act.put, List.setIfInBounds_toArray, List.set_cons_zero, List.set_cons_succ]
  refine wpAnyH_done (by kernel_rfl) ?_ _
  clear hS0 hS1' hS2 hK hK' hK''
  go_wp2
  (try simp only [Exit.inBlock, Exit.then])
  refine bodyPost_ret (v := .tuple #[ev x, vi er]) (results_row rfl _ _ _ rfl rfl hrg Try.underlying49 rfl einfo) rfl ?_
  exact ⟨rfl, HX2.out.dropL.pull2.dropL.pull2⟩
end
end Go.Proofs.Ytknodagcmachiaa.Cn

namespace Go.Proofs.Ytknodagcmachiaa
open Go.RowKit
theorem results_row1 {fn : Func} {p : Tmp} {ty : TypeId} (h : fn.results = #[.cell p ty]) (tmps : Array Value) (P : Program) (w : World) {b : Nat} {cs : List Value} {d : TypeDesc}
    (hp : tmps.getD p undef = .pointer (some ⟨b, 0, none⟩)) (hc : w.rangeAt b 0 cs) (hu : P.underlying ty = some d) (hd : d.isRow = true) (hi : (P.info? ty).map (·.size) = some cs.length) :
    (results fn tmps).run P w = .ok (.agg cs.toArray) w := by
  have e : (asAddr (.pointer (some ⟨b, 0, none⟩))).run P w = .ok ⟨b, 0, none⟩ w := rfl
  simp only [results, h]
  have hp' : tmps[p]?.getD undef = .pointer (some ⟨b, 0, none⟩) := by simpa using hp
  simp [Sem.run_bind, Result.andThen, hp', e, run_loadVar_mid w b 0 ty cs d hc hu hd hi]
theorem setL_full (cs vs : List Value) (h : vs.length = cs.length) : setL cs 0 vs = vs := List.ext_getElem? fun i => by
  by_cases hi : i < vs.length
  · have := setL_in vs cs 0 i hi (by omega)
    rw [Nat.zero_add] at this
    exact this
  · rw [List.getElem?_eq_none (by rw [setL_len]; omega), List.getElem?_eq_none (by omega)]
theorem Sat.rowAll {w0 w : World} {F : Hp} {b : Nat} {T : TypeId} {cs : List Value} (h : Sat w0 (pc b T cs * F) w) (vs : List Value) (hl : vs.length = cs.length) : Sat w0 (pc b T vs * F) (w.setCells b 0 vs.toArray.toList) := by
  have hs := h.stores vs 0
  rw [setL_full cs vs hl] at hs
  exact hs
theorem Sat.thereN {b : Nat} {T : TypeId} {cs : List Value} {F : Hp} {w0 w : World} (h : Sat w0 (pc b T cs * F) w) {n : Nat} (hn : cs.length = n) : w.there b 0 n := fun j hj => by
  rw [Nat.zero_add, h.cell j (List.getElem?_eq_getElem (by omega))]
  exact ⟨rfl, h.free j⟩
theorem Sat.rangeN {b : Nat} {T : TypeId} {cs : List Value} {F : Hp} {w0 w : World} (h : Sat w0 (pc b T cs * F) w) : w.rangeAt b 0 cs := fun j v hv => by
  rw [Nat.zero_add]
  exact h.cell j hv
end Go.Proofs.Ytknodagcmachiaa
