/-
  Package context: refused, part, copied, pull. No statement is proved here.
-/
import Derived.Test.YtknodagcmachiaaCnA
import Derived.Test.YtknodagcmachiaaCx1
import Derived.Test.YtknodagcmachiaaFi21
import Derived.Test.YtknodagcmachiaaFi20
import Derived.Laws.ResultCell
import Derived.Deep.MidRow
import Derived.Test.YtknodagcmachiaaRow1
namespace Go.Proofs.Ytknodagcmachiaa.Cn
open Go.RowKit Ac Fi
set_option linter.unusedVariables false
set_option linter.unusedSimpArgs false

section
variable {w0 w : World} {F : Hp} {h p : Nat} {most : Int} {ps : List Pl} {free : List Nat} {L : Blks} {l : List Rf}
/-- The first error of some. -/
def firstE : List Int → Int
  | [] => 0
  | e :: t => if e = 0 then firstE t else e
theorem firstE_all : ∀ (es : List Int), (∀ j, j < es.length → es[j]? = some 0) → firstE es = 0
  | [], _ => rfl
  | e :: t, h => by
    have h0 := h 0 (by simp)
    have : e = 0 := Option.some.inj h0
    rw [firstE, if_pos this]
    exact firstE_all t fun j hj => by have := h (j + 1) (by simpa using hj); simpa using this
theorem firstE_at : ∀ (es : List Int) (k : Nat) (e : Int), es[k]? = some e → e ≠ 0 → (∀ j, j < k → es[j]? = some 0) → firstE es = e
  | [], k, e, h, _, _ => by simp at h
  | x :: t, 0, e, h, he, _ => by
    have : x = e := Option.some.inj h
    subst this
    rw [firstE, if_neg he]
  | x :: t, k + 1, e, h, he, hj => by
    have h0 := hj 0 (by omega)
    have : x = 0 := Option.some.inj h0
    rw [firstE, if_pos this]
    exact firstE_at t k e (by simpa using h) he fun j hjk => by have := hj (j + 1) (by omega); simpa using this
/-- A closure. -/
abbrev fv (f : Nat × List Value) : Value := .func (.func f.1) #[] f.2.toArray
set_option maxRecDepth 100000 in
set_option maxHeartbeats 2000000 in
theorem cx_refused (fs : List (Nat × List Value)) (es : List Int) (hlen : fs.length = es.length) (hn : fs.length ≤ 100) (g c : Nat) (H : Hp) (h : Sat w0 H w) (hE : ∀ f ∈ fs, ∀ args w, (callFunc f.1 args).run Try.prog w = .ok (.enter f.1 args) w)
    (hR : ∀ w', Sat w0 H w' → Rd w' 1 (.slice (some ⟨g, 0, none⟩) fs.length c) fs.length (fs.map fv))
    (hC : ∀ (k : Nat) (f : Nat × List Value) (e : Int), fs[k]? = some f → es[k]? = some e → (∀ j, j < k → es[j]? = some 0) → ∀ w', Sat w0 H w' → Calls Try.prog f.1 f.2.toArray w' fun en w2 => en = .returned (vi e) ∧ Sat w0 H w2) :
    Calls Try.prog 64 #[.slice (some ⟨g, 0, none⟩) fs.length c] w fun e w' => e = .returned (vi (firstE es)) ∧ Sat w0 H w' := by
  have HR := Lib.hid hR
  have HLEN := Lib.hid hlen
  clear hlen
  have HC := Lib.hid hC
  have HH := Lib.hid h
  clear hR hC h
  go_enter Try.func64, Try.ntmps64
  go_wp2
  go_loopw [8] (fun i wr => ∃ (k : Nat), k ≤ fs.length ∧ i = vi k ∧ Hid (∀ (j : Nat), j < k → es[j]? = some 0) ∧ Sat w0 H wr) (fun i _ => fs.length - (intOf i).toNat)
  case atStart => exact ⟨0, Nat.zero_le _, rfl, Lib.hid (fun j hj => by omega), HH.out⟩
  case round =>
    obtain ⟨k, hk, rfl, hg, hb⟩ := hrel
    by_cases hlt : k < fs.length
    · obtain ⟨f, hf⟩ : ∃ f, fs[k]? = some f := ⟨fs[k], List.getElem?_eq_getElem hlt⟩
      obtain ⟨e, he⟩ : ∃ e, es[k]? = some e := ⟨es[k], List.getElem?_eq_getElem (by have := HLEN.out; omega)⟩
      have hcl := Lib.hid (HC.out k f e hf he hg.out wr hb)
      have hc : wr.cell? ⟨g, k, none⟩ = some (.func (.func f.1) #[] f.2.toArray) := by
        obtain ⟨b, off, cap, hv, hcell⟩ := (HR.out wr hb).pos (by omega)
        cases hv
        have := hcell k (fv f) (by rw [List.getElem?_map, hf]; rfl)
        rwa [Nat.zero_add] at this
      have hen := hE f (List.mem_of_getElem? hf)
      obtain ⟨fn, caps⟩ := f
      dsimp only at hcl hc hen
      generalize caps.toArray = ca at *
      have hkl : (k : Int) < (fs.length : Int) := by omega
      have HB := Lib.hid hb
      by_cases ha : e = 0
      · subst ha
        have hg2 : Hid (∀ (j : Nat), j < k + 1 → es[j]? = some 0) := Lib.hid (fun j hj => by
          by_cases e : j = k
          · subst e
            exact he
          · exact hg.out j (by omega))
        clear hf hb hg he
        go_wp2_with (with_reducible refine hcl.out.mono ?_; rintro e w' ⟨rfl, hb2⟩; have HB2 := Lib.hid hb2; clear hb2)
        go_roundw
        case rel => exact ⟨k + 1, by omega, by go_num, hg2, HB2.out⟩
        case measure => (simp [intOf]; try omega)
      · have HV : Hid (firstE es = e) := Lib.hid (firstE_at es k e he ha hg.out)
        have hne : (e != 0) = true := by simpa using ha
        clear hf hb hg he ha
        go_wp2_with (with_reducible refine hcl.out.mono ?_; rintro e w' ⟨rfl, hb2⟩; have HB2 := Lib.hid hb2; clear hb2)
        go_ret
        exact ⟨by rw [HV.out]; rfl, HB2.out⟩
    · obtain rfl : k = fs.length := by omega
      have HV : Hid (firstE es = 0) := Lib.hid (firstE_all es (fun j hj => hg.out j (by have := HLEN.out; omega)))
      have HB := Lib.hid hb
      clear hg hb
      go_wp2
      go_ret
      exact ⟨by rw [HV.out]; rfl, HB.out⟩
theorem cx_when_t (n : Int) (w : World) : Calls Try.prog 68 #[.bool true, vi n] w fun e w' => e = .returned (vi n) ∧ w = w' := cx_when true n w
theorem cx_when_f (n : Int) (w : World) : Calls Try.prog 68 #[.bool false, vi n] w fun e w' => e = .returned (vi 0) ∧ w = w' := cx_when false n w
/-- What part says. -/
def partC (b : Int) (l : List Rf) (amount now : Int) : Int := if amount = 0 ∨ 1152921504606846976 < now then 2 else if b ≤ amount ∨ thereV l now < amount then 15 else 0
set_option maxRecDepth 100000 in
set_option maxHeartbeats 2000000 in
theorem part1_ {b4 b5 : Nat} {amount now : Int} (hS : Sat w0 (pc b4 22 [vu amount] * (pc b5 22 [vu now] * F)) w) :
    Calls Try.prog 82 #[vp b4, vp b5] w fun e w' => e = .returned (vi (if amount = 0 ∨ 1152921504606846976 < now then 2 else 0)) ∧ Sat w0 (pc b4 22 [vu amount] * (pc b5 22 [vu now] * F)) w' := by
  have c4 := hS.cell 0 rfl
  have c5 := hS.pull2.cell 0 rfl
  have HS := Lib.hid hS
  have HW1 := Lib.hid (fun n w => cx_when_t n w)
  have HW0 := Lib.hid (fun n w => cx_when_f n w)
  clear hS
  by_cases h1 : amount = 0
  · rw [if_pos (.inl h1)]
    subst h1
    go_enter Try.func82, Try.ntmps82
    go_wp2_with (go_at_call 68; refine (HW1.out _ _).mono ?_; rintro e w' ⟨rfl, rfl⟩)
    go_ret
    exact ⟨rfl, HS.out⟩
  · have h1b : (amount == 0) = false := beq_eq_false_iff_ne.2 h1
    by_cases h2 : 1152921504606846976 < now
    · rw [if_pos (.inr h2)]
      go_enter Try.func82, Try.ntmps82
      go_wp2_with (go_at_call 68; refine (HW1.out _ _).mono ?_; rintro e w' ⟨rfl, rfl⟩)
      go_ret
      exact ⟨rfl, HS.out⟩
    · rw [if_neg (by omega)]
      go_enter Try.func82, Try.ntmps82
      go_wp2_with (go_at_call 68; refine (HW0.out _ _).mono ?_; rintro e w' ⟨rfl, rfl⟩)
      go_ret
      exact ⟨rfl, HS.out⟩
set_option maxRecDepth 100000 in
set_option maxHeartbeats 2000000 in
theorem part2_ {b3 b4 b5 : Nat} {amount now v0 v1 v3 : Int} {a2 : Option Addr} {n2 c2 : Nat} (hS : Sat w0 (pc b4 22 [vu amount] * (pc b3 49 (elC ⟨v0, v1, a2, n2, c2, v3⟩) * (pc b5 22 [vu now] * (F)))) w) (hR : ∀ w', Sat w0 (pc b4 22 [vu amount] * (pc b3 49 (elC ⟨v0, v1, a2, n2, c2, v3⟩) * (pc b5 22 [vu now] * (F)))) w' → RdF w' (.slice a2 n2 c2) l) (hl : l.length ≤ 1000) :
    Calls Try.prog 83 #[vp b4, vp b3, vp b5] w fun e w' => e = .returned (vi (if v0 ≤ amount ∨ thereV l now < amount then 15 else 0)) ∧ Sat w0 (pc b4 22 [vu amount] * (pc b3 49 (elC ⟨v0, v1, a2, n2, c2, v3⟩) * (pc b5 22 [vu now] * (F)))) w' := by
  have d0 := (hS).cell 0 rfl; have d1 := (hS).pull2.cell 0 rfl; have d2 := (hS).pull2.cell 2 rfl; have d3 := (hS).pull3.cell 0 rfl
  have HS := Lib.hid hS
  have HW1 := Lib.hid (fun n w => cx_when_t n w)
  have HW0 := Lib.hid (fun n w => cx_when_f n w)
  have HT := Lib.hid (fun w h => there_ l now (.slice a2 n2 c2) w (hR w h) (by omega))
  clear hS hR
  by_cases h1 : v0 ≤ amount
  · rw [if_pos (.inl h1)]
    have hd : decide (v0 ≤ amount) = true := decide_eq_true h1
    clear h1
    go_enter Try.func83, Try.ntmps83
    go_wp2
    go_quiet ((go_at_call 68; exact Calls.quiet_of_same ((HW1.out _ _).mono fun _ _ h => ⟨h.1, h.2.symm⟩)))
    go_wp2
    go_ret
    exact ⟨rfl, HS.out.drewN _⟩
  · have hd : decide (v0 ≤ amount) = false := decide_eq_false h1
    generalize thereV l now = tv at *
    by_cases h2 : tv < amount
    · have hd2 : decide (tv < amount) = true := decide_eq_true h2
      rw [if_pos (.inr h2)]
      clear h2 h1
      go_enter Try.func83, Try.ntmps83
      go_wp2
      go_region_held3 (fun w' => w'.cell? ⟨b4, 0, none⟩ = some (vu amount) ∧ w'.cell? ⟨b3, 0, none⟩ = some (vu v0) ∧ w'.cell? ⟨b3, 2, none⟩ = some (.slice a2 n2 c2) ∧ w'.cell? ⟨b5, 0, none⟩ = some (vu now))
        (first | exact ⟨d0, d1, d2, d3⟩ | exact ⟨q0, q1, q2, q3⟩ | go_keep)
        (first
         | (go_at_call 39; refine (HT.out _ HS.out.drew).mono ?_; rintro e w2 ⟨rfl, hb⟩; have H2 := Lib.hid (Sat.after HS.out.drew hb); clear hb; have q0 := (H2.out).cell 0 rfl; have q1 := (H2.out).pull2.cell 0 rfl; have q2 := (H2.out).pull2.cell 2 rfl; have q3 := (H2.out).pull3.cell 0 rfl)
         | (go_at_call 68; refine (HW1.out _ _).mono ?_; rintro e w' ⟨rfl, rfl⟩))
      go_wp2
      go_ret
      exact ⟨rfl, H2.out⟩
    · have hd2 : decide (tv < amount) = false := decide_eq_false h2
      rw [if_neg (by omega)]
      clear h2 h1
      go_enter Try.func83, Try.ntmps83
      go_wp2
      go_region_held3 (fun w' => w'.cell? ⟨b4, 0, none⟩ = some (vu amount) ∧ w'.cell? ⟨b3, 0, none⟩ = some (vu v0) ∧ w'.cell? ⟨b3, 2, none⟩ = some (.slice a2 n2 c2) ∧ w'.cell? ⟨b5, 0, none⟩ = some (vu now))
        (first | exact ⟨d0, d1, d2, d3⟩ | exact ⟨q0, q1, q2, q3⟩ | go_keep)
        (first
         | (go_at_call 39; refine (HT.out _ HS.out.drew).mono ?_; rintro e w2 ⟨rfl, hb⟩; have H2 := Lib.hid (Sat.after HS.out.drew hb); clear hb; have q0 := (H2.out).cell 0 rfl; have q1 := (H2.out).pull2.cell 0 rfl; have q2 := (H2.out).pull2.cell 2 rfl; have q3 := (H2.out).pull3.cell 0 rfl)
         | (go_at_call 68; refine (HW0.out _ _).mono ?_; rintro e w' ⟨rfl, rfl⟩))
      go_wp2
      go_ret
      exact ⟨rfl, H2.out⟩
end
end Go.Proofs.Ytknodagcmachiaa.Cn

namespace Go.Proofs.Ytknodagcmachiaa.Cn
open Go.RowKit Ac Fi
set_option linter.unusedVariables false
set_option linter.unusedSimpArgs false

section
variable {w0 w : World} {F : Hp} {h p : Nat} {most : Int} {ps : List Pl} {free : List Nat} {L : Blks} {l : List Rf}
theorem firstE_part (b : Int) (l : List Rf) (amount now : Int) : firstE [if amount = 0 ∨ 1152921504606846976 < now then 2 else 0, if b ≤ amount ∨ thereV l now < amount then 15 else 0] = partC b l amount now := by
  unfold partC
  by_cases h1 : amount = 0 ∨ 1152921504606846976 < now
  · rw [if_pos h1, if_pos h1, firstE, if_neg (by omega)]
  · rw [if_neg h1, if_neg h1, firstE, if_pos rfl]
    by_cases h2 : b ≤ amount ∨ thereV l now < amount
    · rw [if_pos h2, firstE, if_neg (by omega)]
    · rw [if_neg h2, firstE, if_pos rfl, firstE]
theorem Rd.of_pc {b : Nat} {T : TypeId} {xs : List Value} {n : Nat} {c : Nat} (h : Sat w0 (pc b T xs * F) w) (hn : xs.length = n) : Rd w 1 (.slice (some ⟨b, 0, none⟩) n c) n xs :=
  ⟨by omega, .inr ⟨b, 0, c, rfl, fun j u hj => by rw [Nat.zero_add]; exact h.cell j hj⟩⟩
set_option maxRecDepth 100000 in
set_option maxHeartbeats 2000000 in
theorem cx_part {amount now v0 v1 v3 : Int} {a2 : Option Addr} {n2 c2 : Nat} (hS : Sat w0 (F) w) (hR : ∀ w', Sat w0 F w' → RdF w' (.slice a2 n2 c2) l) (hl : l.length ≤ 1000) :
    Calls Try.prog 42 #[ev ⟨v0, v1, a2, n2, c2, v3⟩, vu amount, vu now] w fun e w' => e = .returned (vi (partC v0 l amount now)) ∧ Sat w0 F w' := by
  have hA0 := (((hS.alloc (elO ⟨v0, v1, a2, n2, c2, v3⟩)).alloc (.cells #[vu amount] 22)).alloc (.cells #[vu now] 22))
  simp only [size1] at hA0
  have hA1 := hA0.alloc (.cells #[.func (.func 82) #[] #[vp (w.heap.size + 1), vp (w.heap.size + 2)], .func (.func 83) #[] #[vp (w.heap.size + 1), vp w.heap.size, vp (w.heap.size + 2)]] 101)
  simp only [size1] at hA1
  have hA : Sat w0 (pc (w.heap.size + 3) 101 [.func (.func 82) #[] #[vp (w.heap.size + 1), vp (w.heap.size + 2)], .func (.func 83) #[] #[vp (w.heap.size + 1), vp w.heap.size, vp (w.heap.size + 2)]] * (pc (w.heap.size + 2) 22 [vu now] * (pc (w.heap.size + 1) 22 [vu amount] * (pc w.heap.size 49 (elC ⟨v0, v1, a2, n2, c2, v3⟩) * (F))))) _ := hA1
  have hB := hA.cast (show _ = pc (w.heap.size + 3) 101 [.func (.func 82) #[] #[vp (w.heap.size + 1), vp (w.heap.size + 2)], .func (.func 83) #[] #[vp (w.heap.size + 1), vp w.heap.size, vp (w.heap.size + 2)]] * (pc w.heap.size 49 (elC ⟨v0, v1, a2, n2, c2, v3⟩) * (pc (w.heap.size + 1) 22 [vu amount] * (pc (w.heap.size + 2) 22 [vu now] * (F)))) by ac_rfl)
  have HB := Lib.hid hB
  have HR : Hid (Calls Try.prog 64 #[.slice (some ⟨w.heap.size + 3, 0, none⟩) 2 2] ((((w.alloc (elO ⟨v0, v1, a2, n2, c2, v3⟩)).alloc (.cells #[vu amount] 22)).alloc (.cells #[vu now] 22)).alloc (.cells #[.func (.func 82) #[] #[vp (w.heap.size + 1), vp (w.heap.size + 2)], .func (.func 83) #[] #[vp (w.heap.size + 1), vp w.heap.size, vp (w.heap.size + 2)]] 101)) fun e w' => e = .returned (vi (partC v0 l amount now)) ∧ Sat w0 (pc (w.heap.size + 3) 101 [.func (.func 82) #[] #[vp (w.heap.size + 1), vp (w.heap.size + 2)], .func (.func 83) #[] #[vp (w.heap.size + 1), vp w.heap.size, vp (w.heap.size + 2)]] * (pc w.heap.size 49 (elC ⟨v0, v1, a2, n2, c2, v3⟩) * (pc (w.heap.size + 1) 22 [vu amount] * (pc (w.heap.size + 2) 22 [vu now] * (F))))) w') := Lib.hid (by
    have := cx_refused [(82, [vp (w.heap.size + 1), vp (w.heap.size + 2)]), (83, [vp (w.heap.size + 1), vp w.heap.size, vp (w.heap.size + 2)])] [if amount = 0 ∨ 1152921504606846976 < now then 2 else 0, if v0 ≤ amount ∨ thereV l now < amount then 15 else 0] rfl (by simp) (w.heap.size + 3) 2 (pc (w.heap.size + 3) 101 [.func (.func 82) #[] #[vp (w.heap.size + 1), vp (w.heap.size + 2)], .func (.func 83) #[] #[vp (w.heap.size + 1), vp w.heap.size, vp (w.heap.size + 2)]] * (pc w.heap.size 49 (elC ⟨v0, v1, a2, n2, c2, v3⟩) * (pc (w.heap.size + 1) 22 [vu amount] * (pc (w.heap.size + 2) 22 [vu now] * (F))))) hB (by
        intro f hf args w2
        simp only [List.mem_cons, List.not_mem_nil, or_false] at hf
        rcases hf with rfl | rfl
        · exact enters_of Try.func82 (by kernel_rfl) rfl args w2
        · exact enters_of Try.func83 (by kernel_rfl) rfl args w2) (fun w2 h2 => Rd.of_pc h2 rfl) (by
        intro k f e hf he hj w2 h2
        rcases k with _ | _ | k
        · cases hf
          cases he
          exact (part1_ ((h2).cast (show _ = pc (w.heap.size + 1) 22 [vu amount] * (pc (w.heap.size + 2) 22 [vu now] * (pc (w.heap.size + 3) 101 [.func (.func 82) #[] #[vp (w.heap.size + 1), vp (w.heap.size + 2)], .func (.func 83) #[] #[vp (w.heap.size + 1), vp w.heap.size, vp (w.heap.size + 2)]] * (pc w.heap.size 49 (elC ⟨v0, v1, a2, n2, c2, v3⟩) * (F)))) by ac_rfl))).mono fun e w3 ⟨h3, h4⟩ => ⟨h3, (h4).cast (show _ = pc (w.heap.size + 3) 101 [.func (.func 82) #[] #[vp (w.heap.size + 1), vp (w.heap.size + 2)], .func (.func 83) #[] #[vp (w.heap.size + 1), vp w.heap.size, vp (w.heap.size + 2)]] * (pc w.heap.size 49 (elC ⟨v0, v1, a2, n2, c2, v3⟩) * (pc (w.heap.size + 1) 22 [vu amount] * (pc (w.heap.size + 2) 22 [vu now] * (F)))) by ac_rfl)⟩
        · cases hf
          cases he
          exact (part2_ ((h2).cast (show _ = pc (w.heap.size + 1) 22 [vu amount] * (pc w.heap.size 49 (elC ⟨v0, v1, a2, n2, c2, v3⟩) * (pc (w.heap.size + 2) 22 [vu now] * (pc (w.heap.size + 3) 101 [.func (.func 82) #[] #[vp (w.heap.size + 1), vp (w.heap.size + 2)], .func (.func 83) #[] #[vp (w.heap.size + 1), vp w.heap.size, vp (w.heap.size + 2)]] * (F)))) by ac_rfl)) (fun w4 h4 => hR w4 (h4.dropL.dropL.dropL.dropL)) hl).mono fun e w3 ⟨h3, h4⟩ => ⟨h3, (h4).cast (show _ = pc (w.heap.size + 3) 101 [.func (.func 82) #[] #[vp (w.heap.size + 1), vp (w.heap.size + 2)], .func (.func 83) #[] #[vp (w.heap.size + 1), vp w.heap.size, vp (w.heap.size + 2)]] * (pc w.heap.size 49 (elC ⟨v0, v1, a2, n2, c2, v3⟩) * (pc (w.heap.size + 1) 22 [vu amount] * (pc (w.heap.size + 2) 22 [vu now] * (F)))) by ac_rfl)⟩
        · simp at hf)
    rw [firstE_part] at this
    exact this)
  clear hS hR hA0 hA1 hA hB
  generalize partC v0 l amount now = rr at *
  go_enter Try.func42, Try.ntmps42
  go_wp2_with (go_at_call 64; refine HR.out.mono ?_; rintro e w3 ⟨rfl, hS3⟩; have H3 := Lib.hid hS3; clear hS3)
  go_ret
  exact ⟨rfl, H3.out.dropL.dropL.dropL.dropL⟩
set_option maxRecDepth 100000 in
set_option maxHeartbeats 2000000 in
theorem cx_copied {v0 v1 v3 : Int} {a2 : Option Addr} {n2 c2 : Nat} (hS : Sat w0 (F) w) (hR : ∀ w', Sat w0 F w' → RdF w' (.slice a2 n2 c2) l) (hl : l.length ≤ 1000) :
    Calls Try.prog 54 #[ev ⟨v0, v1, a2, n2, c2, v3⟩] w fun e w' => ∃ ao lc, e = .returned (ev ⟨v0, v1, ao, l.length, lc, v3⟩) ∧ Sat w0 (fiS (.slice ao l.length lc) l * F) w' := by
  have hA0 := (hS.alloc (elO ⟨v0, v1, a2, n2, c2, v3⟩)).alloc (elO ez)
  rw [size1] at hA0
  have hA : Sat w0 (pc (w.heap.size + 1) 49 (elC ez) * (pc w.heap.size 49 (elC ⟨v0, v1, a2, n2, c2, v3⟩) * (F))) _ := hA0
  have q2 := hA.pull2.cell 2 rfl
  have HA := Lib.hid hA
  have HR := Lib.hid hR
  clear hA hA0 hS hR
  go_enter Try.func54, Try.ntmps54
  go_wp2_with (first
    | (go_at_call 94; refine (clone_ (HR.out _ HA.out.dropL.dropL) (by omega)).mono ?_; rintro e w1 ⟨v1', rfl, hS1⟩; obtain ⟨ao, lc, rfl⟩ := hS1.sloForm; have h1 := (Sat.link HA.out hS1).cast (show _ = pc w.heap.size 49 (elC ⟨v0, v1, a2, n2, c2, v3⟩) * (pc (w.heap.size + 1) 49 (elC ez) * (fiS (.slice ao l.length lc) l * (F))) by ac_rfl); have h2 : Sat w0 (pc w.heap.size 49 (elC ⟨v0, v1, ao, l.length, lc, v3⟩) * (pc (w.heap.size + 1) 49 (elC ez) * (fiS (.slice ao l.length lc) l * (F)))) _ := h1.store 2 (.slice ao l.length lc); have fz := h1.free 2; have q0 := h2.cell 0 rfl; have q1 := h2.cell 1 rfl; have q3 := h2.cell 3 rfl; have H2 := Lib.hid h2.pull2; have fz := h1.free 2; have p0 := h1.cell 0 rfl; have p1 := h1.cell 1 rfl; have p2 := h1.cell 2 rfl; have p3 := h1.cell 3 rfl; clear hS1 h1 h2)
    | (refine wpList_store_mid rfl 49 _ _ rfl (w.heap.size + 1) 0 (elC ⟨v0, v1, ao, l.length, lc, v3⟩).toArray (by rfl) (by rfl) (Sat.thereN (n := 4) H2.out rfl) einfo (all_oneCell_toArray (elOne _)) ?_; have hs := Sat.rowAll H2.out (elC ⟨v0, v1, ao, l.length, lc, v3⟩) rfl; have HS := Lib.hid hs; clear hs; generalize World.setCells _ _ _ _ = w2 at *))
  refine bodyPost_ret (v := ev ⟨v0, v1, ao, l.length, lc, v3⟩) (results_row1 rfl _ _ _ rfl HS.out.rangeN Try.underlying49 rfl einfo) rfl ?_
  exact ⟨ao, lc, rfl, HS.out.dropL.dropL⟩
set_option maxRecDepth 100000 in
set_option maxHeartbeats 2000000 in
theorem cx_pull {now amount v0 v1 v3 : Int} {a2 : Option Addr} {n2 c2 : Nat} (hS : Sat w0 (plB L * F) w) (hi : InP L (.slice a2 n2 c2) l) (hl : l.length ≤ 1000) (ha : U64 amount) (hp : PuOk l amount) (hth : amount ≤ thereV l now) (hw : amount ≤ v0 ∧ v0 ≤ 18446744073709551615) (hok : OkL (lessL (dueL l now) amount)) :
    Calls Try.prog 43 #[ev ⟨v0, v1, a2, n2, c2, v3⟩, vu amount, vu now] w fun e w' => ∃ ao lc L2, e = .returned (ev ⟨v0 - amount, v1, ao, (lessL (dueL l now) amount).length, lc, v3⟩) ∧ (∀ x ∈ L, x ∈ L2) ∧ InP L2 (.slice ao (lessL (dueL l now) amount).length lc) (lessL (dueL l now) amount) ∧ Sat w0 (plB L2 * F) w' := by
  have hA0 := (hS.alloc (elO ⟨v0, v1, a2, n2, c2, v3⟩)).alloc (elO ez)
  rw [size1] at hA0
  have hA : Sat w0 (pc (w.heap.size + 1) 49 (elC ez) * (pc w.heap.size 49 (elC ⟨v0, v1, a2, n2, c2, v3⟩) * (plB L * (F)))) _ := hA0
  have q2 := hA.pull2.cell 2 rfl
  have HA := Lib.hid hA
  have HI := Lib.hid hi
  have HP : Hid (∀ w, RdF w (.slice a2 n2 c2) l → Calls Try.prog 84 #[.slice a2 n2 c2, vu now, vu amount] w fun e w' => ∃ v', e = .returned (.tuple #[v', vi 0]) ∧ Sat w (fiS v' (lessL (dueL l now) amount) * emp) w') := Lib.hid (fun w h => (pull_ (w := w) h hi.room hl ha hp).mono fun e w' hh => by
    unfold PullOut at hh
    rw [if_neg (by omega)] at hh
    exact hh)
  have hwr : IntKind.u64.wrap (v0 - amount) = v0 - amount := IntWalk.u64_in _ (by have := ha.1; omega)
  generalize lessL (dueL l now) amount = ln at *
  have HOK := Lib.hid hok
  clear hA hA0 hS hi hp hth hw ha hok
  go_enter Try.func43, Try.ntmps43
  go_wp2_with (first
    | (go_at_call 84; refine (HP.out _ (Sat.plRd ((HA.out).cast (show _ = plB L * (pc (w.heap.size + 1) 49 (elC ez) * (pc w.heap.size 49 (elC ⟨v0, v1, a2, n2, c2, v3⟩) * (F))) by ac_rfl)) HI.out)).mono ?_; rintro e w1 ⟨v1', rfl, hS1⟩; have h2 := (Sat.link HA.out hS1).cast (show _ = fiS v1' ln * (plB L * (pc w.heap.size 49 (elC ⟨v0, v1, a2, n2, c2, v3⟩) * (pc (w.heap.size + 1) 49 (elC ez) * (F)))) by ac_rfl); obtain ⟨L2, hsub, hin, h3⟩ := h2.plIn HOK.out; obtain ⟨ao, lc, rfl⟩ := hin.form; have HSUB := Lib.hid hsub; have HIN := Lib.hid hin; have h1 := (h3).cast (show _ = pc w.heap.size 49 (elC ⟨v0, v1, a2, n2, c2, v3⟩) * (plB L2 * (pc (w.heap.size + 1) 49 (elC ez) * (F))) by ac_rfl); have p0 := h1.cell 0 rfl; have p1 := h1.cell 1 rfl; have p2 := h1.cell 2 rfl; have p3 := h1.cell 3 rfl; have fz := h1.free 2; have fz0 := h1.free 0; have h4 : Sat w0 (pc w.heap.size 49 (elC ⟨v0, v1, ao, ln.length, lc, v3⟩) * (plB L2 * (pc (w.heap.size + 1) 49 (elC ez) * (F)))) _ := h1.store 2 (.slice ao ln.length lc); have h5 : Sat w0 (pc w.heap.size 49 (elC ⟨v0 - amount, v1, ao, ln.length, lc, v3⟩) * (plB L2 * (pc (w.heap.size + 1) 49 (elC ez) * (F)))) _ := h4.store 0 (vu (v0 - amount)); have fz3 := h4.free 0; have H2 := Lib.hid ((h5).cast (show _ = pc (w.heap.size + 1) 49 (elC ez) * (plB L2 * (pc w.heap.size 49 (elC ⟨v0 - amount, v1, ao, ln.length, lc, v3⟩) * (F))) by ac_rfl)); clear hS1 h1 h2 h3 h4 h5 hsub hin)
    | (refine wpList_store_mid rfl 49 _ _ rfl (w.heap.size + 1) 0 (elC ⟨v0 - amount, v1, ao, ln.length, lc, v3⟩).toArray (by rfl) (by rfl) (Sat.thereN (n := 4) H2.out rfl) einfo (all_oneCell_toArray (elOne _)) ?_; have hs := Sat.rowAll H2.out (elC ⟨v0 - amount, v1, ao, ln.length, lc, v3⟩) rfl; have HS := Lib.hid hs; clear hs; generalize World.setCells _ _ _ _ = w2 at *))
  refine bodyPost_ret (v := ev ⟨v0 - amount, v1, ao, ln.length, lc, v3⟩) (results_row1 rfl _ _ _ rfl HS.out.rangeN Try.underlying49 rfl einfo) rfl ?_
  exact ⟨ao, lc, L2, rfl, HSUB.out, HIN.out, ((HS.out.dropL).cast (show _ = plB L2 * (pc w.heap.size 49 (elC ⟨v0 - amount, v1, ao, ln.length, lc, v3⟩) * (F)) by ac_rfl)).drop2⟩
set_option maxRecDepth 100000 in
set_option maxHeartbeats 2000000 in
theorem cx_get (hS : Sat w0 (cxB h p most * (tblP p ps free * (plB L * (F)))) w) (i g : Int) (hi : InP L (.slice (getX ps i g).a2 (getX ps i g).n2 (getX ps i g).c2) l) (hl : l.length ≤ 1000) :
    Calls Try.prog 29 #[vp h, vr i g] w fun e w' => ∃ ao lc, e = .returned (.tuple #[ev ⟨(getX ps i g).v0, (getX ps i g).v1, ao, l.length, lc, (getX ps i g).v3⟩, vi (getE ps i g)]) ∧ Sat w0 (fiS (.slice ao l.length lc) l * (cxB h p most * (tblP p ps free * (plB L * (F))))) w' := by
  have hB0 := (hS.alloc (.cells #[vi i, vu g] 30)).alloc (elO ez)
  rw [size1] at hB0
  have hB1 : Sat w0 (pc (w.heap.size + 1) 49 (elC ez) * (pc w.heap.size 30 [vi i, vu g] * (cxB h p most * (tblP p ps free * (plB L * (F)))))) ((w.alloc (.cells #[vi i, vu g] 30)).alloc (elO ez)) := hB0
  have b0 := hB1.pull2.cell 0 rfl
  have b1 := hB1.pull2.cell 1 rfl
  have hB := (hB1).cast (show _ = cxB h p most * (tblP p ps free * (pc (w.heap.size + 1) 49 (elC ez) * (pc w.heap.size 30 [vi i, vu g] * (plB L * (F))))) by ac_rfl)
  have HG := Lib.hid (cx_find hB i g)
  have HI := Lib.hid hi
  clear hB hB0 hB1 hS hi
  generalize getE ps i g = er at *
  generalize getX ps i g = x at *
  obtain ⟨v0, v1, a2, n2, c2, v3⟩ := x
  go_enter Try.func29, Try.ntmps29
  go_wp2_with (first
    | (go_at_call 38; refine HG.out.mono ?_; rintro e w1 ⟨rfl, hS1⟩; have HS1 := Lib.hid hS1; have hA : Sat w0 (pc w1.heap.size 49 (elC ⟨v0, v1, a2, n2, c2, v3⟩) * _) (w1.alloc (elO ⟨v0, v1, a2, n2, c2, v3⟩)) := hS1.alloc (elO ⟨v0, v1, a2, n2, c2, v3⟩); have H1 := Lib.hid hA; have hx0 := hA.cell 0 rfl; have hx1 := hA.cell 1 rfl; have hx2 := hA.cell 2 rfl; have hx3 := hA.cell 3 rfl; clear hA hS1)
    | (go_at_call 54; refine (cx_copied (v0 := v0) (v1 := v1) (v3 := v3) (a2 := a2) (n2 := n2) (c2 := c2) H1.out (fun w' h' => Sat.plRd ((h').cast (show _ = plB L * (pc w1.heap.size 49 (elC ⟨v0, v1, a2, n2, c2, v3⟩) * (pc (w.heap.size + 1) 49 (elC ez) * (pc w.heap.size 30 [vi i, vu g] * (cxB h p most * (tblP p ps free * (F)))))) by ac_rfl)) HI.out) hl).mono ?_; rintro e w2 ⟨ao, lc, rfl, hS2⟩; have H2 := Lib.hid ((hS2).cast (show _ = pc (w.heap.size + 1) 49 (elC ez) * (pc w1.heap.size 49 (elC ⟨v0, v1, a2, n2, c2, v3⟩) * (pc w.heap.size 30 [vi i, vu g] * (fiS (.slice ao l.length lc) l * (cxB h p most * (tblP p ps free * (plB L * (F))))))) by ac_rfl)); clear hS2)
    | (refine wpList_store_mid rfl 49 _ _ rfl (w.heap.size + 1) 0 (elC ⟨v0, v1, ao, l.length, lc, v3⟩).toArray (by rfl) (by rfl) (Sat.thereN (n := 4) H2.out rfl) einfo (all_oneCell_toArray (elOne _)) ?_; have hs := Sat.rowAll H2.out (elC ⟨v0, v1, ao, l.length, lc, v3⟩) rfl; have HS := Lib.hid hs; clear hs; generalize World.setCells _ _ _ _ = w3 at *))
  refine bodyPost_ret (v := .tuple #[ev ⟨v0, v1, ao, l.length, lc, v3⟩, vi er]) (results_row rfl _ _ _ rfl rfl HS.out.rangeN Try.underlying49 rfl einfo) rfl ?_
  exact ⟨ao, lc, rfl, HS.out.dropL.dropL.dropL⟩
end
end Go.Proofs.Ytknodagcmachiaa.Cn

namespace Go.Proofs.Ytknodagcmachiaa.Cn
open Go.RowKit Ac Fi
set_option linter.unusedVariables false
set_option linter.unusedSimpArgs false

section
variable {w0 w : World} {F : Hp} {h p : Nat} {most : Int} {ps : List Pl} {free : List Nat} {L : Blks} {l : List Rf}
/-- Such a context may be made. -/
def MkOk (b p now : Int) : Prop := 1 ≤ b ∧ b ≤ 4294967296 ∧ 1 ≤ p ∧ p ≤ 4294967296 ∧ now ≤ 1152921504606846976
instance (b p now : Int) : Decidable (MkOk b p now) := inferInstanceAs (Decidable (_ ∧ _))
set_option maxRecDepth 100000 in
set_option maxHeartbeats 2000000 in
theorem make_arg (hS : Sat w0 (cxB h p most * (tblP p ps free * (plB L * (F)))) w) (b per now : Int) (hc : ¬ MkOk b per now) :
    Calls Try.prog 11 #[vp h, vu b, vu per, vu now] w fun e w' => e = .returned (.tuple #[vr 0 0, vi 2]) ∧ Sat w0 (cxB h p most * (tblP p ps free * (plB L * (F)))) w' := by
  have hB : Sat w0 (pc w.heap.size 30 [vi 0, vu 0] * (cxB h p most * (tblP p ps free * (plB L * (F))))) (w.alloc (.cells #[vi 0, vu 0] 30)) := hS.alloc (.cells #[vi 0, vu 0] 30)
  have HN := Lib.hid (cx_none hB.pull2)
  have z0 := hB.cell 0 rfl
  have z1 := hB.cell 1 rfl
  have f0 := hB.free 0
  have f1 := hB.free 1
  have HB := Lib.hid hB
  clear hS hB
  by_cases h1 : b < 1
  · clear hc
    go_enter Try.func11, Try.ntmps11
    go_wp2_with (go_at_call 35; refine HN.out.mono ?_; rintro e w' ⟨rfl, rfl⟩)
    refine bodyPost_ret (v := .tuple #[vr 0 0, vi 2]) (by rw [results_cell_tmp rfl]; go_simp) rfl ?_
    first | exact ⟨rfl, HB.out.dropL⟩ | exact ⟨rfl, ((HB.out.store 0 (vi 0)).store 1 (vu 0)).dropL⟩
  · by_cases h2 : 4294967296 < b
    · clear hc
      go_enter Try.func11, Try.ntmps11
      go_wp2_with (go_at_call 35; refine HN.out.mono ?_; rintro e w' ⟨rfl, rfl⟩)
      refine bodyPost_ret (v := .tuple #[vr 0 0, vi 2]) (by rw [results_cell_tmp rfl]; go_simp) rfl ?_
      first | exact ⟨rfl, HB.out.dropL⟩ | exact ⟨rfl, ((HB.out.store 0 (vi 0)).store 1 (vu 0)).dropL⟩
    · by_cases h3 : per < 1
      · clear hc
        go_enter Try.func11, Try.ntmps11
        go_wp2_with (go_at_call 35; refine HN.out.mono ?_; rintro e w' ⟨rfl, rfl⟩)
        refine bodyPost_ret (v := .tuple #[vr 0 0, vi 2]) (by rw [results_cell_tmp rfl]; go_simp) rfl ?_
        first | exact ⟨rfl, HB.out.dropL⟩ | exact ⟨rfl, ((HB.out.store 0 (vi 0)).store 1 (vu 0)).dropL⟩
      · by_cases h4 : 4294967296 < per
        · clear hc
          go_enter Try.func11, Try.ntmps11
          go_wp2_with (go_at_call 35; refine HN.out.mono ?_; rintro e w' ⟨rfl, rfl⟩)
          refine bodyPost_ret (v := .tuple #[vr 0 0, vi 2]) (by rw [results_cell_tmp rfl]; go_simp) rfl ?_
          first | exact ⟨rfl, HB.out.dropL⟩ | exact ⟨rfl, ((HB.out.store 0 (vi 0)).store 1 (vu 0)).dropL⟩
        · have h5 : 1152921504606846976 < now := by unfold MkOk at hc; omega
          clear hc
          go_enter Try.func11, Try.ntmps11
          go_wp2_with (go_at_call 35; refine HN.out.mono ?_; rintro e w' ⟨rfl, rfl⟩)
          refine bodyPost_ret (v := .tuple #[vr 0 0, vi 2]) (by rw [results_cell_tmp rfl]; go_simp) rfl ?_
          first | exact ⟨rfl, HB.out.dropL⟩ | exact ⟨rfl, ((HB.out.store 0 (vi 0)).store 1 (vu 0)).dropL⟩
set_option maxRecDepth 100000 in
set_option maxHeartbeats 2000000 in
theorem make_full (hS : Sat w0 (cxB h p most * (tblP p ps [] * (plB L * (F)))) w) (b per now : Int) (hc : MkOk b per now) (hn0 : 0 ≤ now) :
    Calls Try.prog 11 #[vp h, vu b, vu per, vu now] w fun e w' => ∃ L2, e = .returned (.tuple #[vr 0 0, vi 3]) ∧ (∀ x ∈ L, x ∈ L2) ∧ Sat w0 (cxB h p most * (tblP p ps [] * (plB L2 * (F)))) w' := by
  have hB : Sat w0 (pc w.heap.size 30 [vi 0, vu 0] * (cxB h p most * (tblP p ps [] * (plB L * (F))))) (w.alloc (.cells #[vi 0, vu 0] 30)) := hS.alloc (.cells #[vi 0, vu 0] 30)
  have HN := Lib.hid (cx_none hB.pull2)
  have z0 := hB.cell 0 rfl
  have z1 := hB.cell 1 rfl
  have f0 := hB.free 0
  have f1 := hB.free 1
  have HB := Lib.hid hB
  have HI : Hid (OkL [⟨b, now⟩]) := Lib.hid (ok1 b now ⟨by unfold MkOk at hc; omega, by unfold MkOk at hc; omega⟩ ⟨hn0, by unfold MkOk at hc; omega⟩)
  obtain ⟨h1, h2, h3, h4, h5⟩ := hc
  have hb0 : b ≠ 0 := by omega
  have HNW := Lib.hid (fun w => new_pos b now hb0 w)
  have h1' : ¬ (b < 1) := by omega
  have h2' : ¬ (4294967296 < b) := by omega
  have h3' : ¬ (per < 1) := by omega
  have h4' : ¬ (4294967296 < per) := by omega
  have h5' : ¬ (1152921504606846976 < now) := by omega
  clear h1 h2 h3 h4 h5 hb0 hn0
  have c0 := hB.pull2.cell 0 rfl
  clear hS hB
  go_enter Try.func11, Try.ntmps11
  go_wp2_with (go_at_call 35; refine HN.out.mono ?_; rintro e w' ⟨rfl, rfl⟩)
  go_region_held3 (fun w' => w'.cell? ⟨h, 0, none⟩ = some (vp p))
    (first | exact c0 | exact d0 | exact e0 | exact g0 | go_keep)
    (first
      | (go_at_call 37; refine (HNW.out _).mono ?_; rintro e w2 ⟨vn, rfl, hS2⟩; have h2 := (Sat.link HB.out.drew hS2).cast (show _ = fiS vn [⟨b, now⟩] * (plB L * (pc w.heap.size 30 [vi 0, vu 0] * (cxB h p most * (tblP p ps [] * (F))))) by ac_rfl); obtain ⟨L2, hsub, hin, h3⟩ := h2.plIn HI.out; obtain ⟨ao, lc, hvn⟩ := hin.form; have hvn : vn = .slice ao 1 lc := hvn; subst hvn; have HSUB := Lib.hid hsub; have HIN := Lib.hid hin; have H2 := Lib.hid ((h3).cast (show _ = tblP p ps [] * (cxB h p most * (pc w.heap.size 30 [vi 0, vu 0] * (plB L2 * (F)))) by ac_rfl)); have d0 := H2.out.pull2.cell 0 rfl; clear hS2 h2 h3 hsub hin)
      | (go_at_call 36; refine (put_no H2.out ⟨b, per, ao, 1, lc, 0⟩).mono ?_; rintro e w3 ⟨rfl, hS3⟩; have H3 := Lib.hid ((hS3).cast (show _ = pc w.heap.size 30 [vi 0, vu 0] * (cxB h p most * (tblP p ps [] * (plB L2 * (F)))) by ac_rfl)); have e0 := H3.out.pull2.cell 0 rfl; have y0 := H3.out.cell 0 rfl; have y1 := H3.out.cell 1 rfl; have yf := H3.out.free 0; have yg := H3.out.free 1; have h4 : Sat w0 (pc w.heap.size 30 [vi 0, vu 0] * (cxB h p most * (tblP p ps [] * (plB L2 * (F))))) _ := (H3.out.store 0 (vi 0)).store 1 (vu 0); have g0 := h4.pull2.cell 0 rfl; have H4 := Lib.hid h4; clear hS3 h4))
  go_wp2
  (try simp only [Exit.inBlock, Exit.then])
  refine bodyPost_ret (v := .tuple #[vr 0 0, vi 3]) (by rw [results_cell_tmp rfl]; go_simp) rfl ?_
  first | exact ⟨L2, rfl, HSUB.out, H4.out.dropL⟩ | exact ⟨L2, rfl, HSUB.out, H3.out.dropL⟩
set_option maxRecDepth 100000 in
set_option maxHeartbeats 2000000 in
theorem make_ok {k : Nat} {a : Pl} (hS : Sat w0 (cxB h p most * (tblP p ps (free ++ [k]) * (plB L * (F)))) w) (b per now : Int) (hc : MkOk b per now) (hn0 : 0 ≤ now) (hk : ps[k]? = some a) :
    Calls Try.prog 11 #[vp h, vu b, vu per, vu now] w fun e w' => ∃ ao lc L2, e = .returned (.tuple #[vr k a.gen, vi 0]) ∧ (∀ x ∈ L, x ∈ L2) ∧ InP L2 (.slice ao 1 lc) [⟨b, now⟩] ∧ Sat w0 (cxB h p most * (tblP p (ps.set k { a with there := true, x := ⟨b, per, ao, 1, lc, 0⟩ }) free * (plB L2 * (F)))) w' := by
  have hB : Sat w0 (pc w.heap.size 30 [vi 0, vu 0] * (cxB h p most * (tblP p ps (free ++ [k]) * (plB L * (F))))) (w.alloc (.cells #[vi 0, vu 0] 30)) := hS.alloc (.cells #[vi 0, vu 0] 30)
  have HN := Lib.hid (cx_none hB.pull2)
  have z0 := hB.cell 0 rfl
  have z1 := hB.cell 1 rfl
  have f0 := hB.free 0
  have f1 := hB.free 1
  have HB := Lib.hid hB
  have HI : Hid (OkL [⟨b, now⟩]) := Lib.hid (ok1 b now ⟨by unfold MkOk at hc; omega, by unfold MkOk at hc; omega⟩ ⟨hn0, by unfold MkOk at hc; omega⟩)
  obtain ⟨h1, h2, h3, h4, h5⟩ := hc
  have hb0 : b ≠ 0 := by omega
  have HNW := Lib.hid (fun w => new_pos b now hb0 w)
  have h1' : ¬ (b < 1) := by omega
  have h2' : ¬ (4294967296 < b) := by omega
  have h3' : ¬ (per < 1) := by omega
  have h4' : ¬ (4294967296 < per) := by omega
  have h5' : ¬ (1152921504606846976 < now) := by omega
  clear h1 h2 h3 h4 h5 hb0 hn0
  have c0 := hB.pull2.cell 0 rfl
  have HK := Lib.hid hk
  clear hk
  clear hS hB
  go_enter Try.func11, Try.ntmps11
  go_wp2_with (go_at_call 35; refine HN.out.mono ?_; rintro e w' ⟨rfl, rfl⟩)
  go_region_held3 (fun w' => w'.cell? ⟨h, 0, none⟩ = some (vp p))
    (first | exact c0 | exact d0 | exact e0 | exact g0 | go_keep)
    (first
      | (go_at_call 37; refine (HNW.out _).mono ?_; rintro e w2 ⟨vn, rfl, hS2⟩; have h2 := (Sat.link HB.out.drew hS2).cast (show _ = fiS vn [⟨b, now⟩] * (plB L * (pc w.heap.size 30 [vi 0, vu 0] * (cxB h p most * (tblP p ps (free ++ [k]) * (F))))) by ac_rfl); obtain ⟨L2, hsub, hin, h3⟩ := h2.plIn HI.out; obtain ⟨ao, lc, hvn⟩ := hin.form; have hvn : vn = .slice ao 1 lc := hvn; subst hvn; have HSUB := Lib.hid hsub; have HIN := Lib.hid hin; have H2 := Lib.hid ((h3).cast (show _ = tblP p ps (free ++ [k]) * (cxB h p most * (pc w.heap.size 30 [vi 0, vu 0] * (plB L2 * (F)))) by ac_rfl)); have d0 := H2.out.pull2.cell 0 rfl; clear hS2 h2 h3 hsub hin)
      | (go_at_call 36; refine (put_yes H2.out HK.out ⟨b, per, ao, 1, lc, 0⟩).mono ?_; rintro e w3 ⟨rfl, hS3⟩; have H3 := Lib.hid ((hS3).cast (show _ = pc w.heap.size 30 [vi 0, vu 0] * (cxB h p most * (tblP p (ps.set k { a with there := true, x := ⟨b, per, ao, 1, lc, 0⟩ }) free * (plB L2 * (F)))) by ac_rfl)); have e0 := H3.out.pull2.cell 0 rfl; have y0 := H3.out.cell 0 rfl; have y1 := H3.out.cell 1 rfl; have yf := H3.out.free 0; have yg := H3.out.free 1; have h4 : Sat w0 (pc w.heap.size 30 [vi k, vu a.gen] * (cxB h p most * (tblP p (ps.set k { a with there := true, x := ⟨b, per, ao, 1, lc, 0⟩ }) free * (plB L2 * (F))))) _ := (H3.out.store 0 (vi k)).store 1 (vu a.gen); have g0 := h4.pull2.cell 0 rfl; have H4 := Lib.hid h4; clear hS3 h4))
  go_wp2
  (try simp only [Exit.inBlock, Exit.then])
  refine bodyPost_ret (v := .tuple #[vr k a.gen, vi 0]) (by rw [results_cell_tmp rfl]; go_simp) rfl ?_
  exact ⟨ao, lc, L2, rfl, HSUB.out, HIN.out, H4.out.dropL⟩
end
end Go.Proofs.Ytknodagcmachiaa.Cn

namespace Go.Proofs.Ytknodagcmachiaa.Cn
open Go.RowKit Ac Fi
set_option linter.unusedVariables false
set_option linter.unusedSimpArgs false

section
variable {w0 w : World} {F : Hp} {h p : Nat} {most : Int} {ps : List Pl} {free : List Nat} {L : Blks} {l : List Rf}
theorem isAt_set {k : Nat} {a a' : Pl} {i g : Int} (hk : ps[k]? = some a) (ht : a.there = false) (he : getE ps i g = 0) : isAt (ps.set k a') i g = isAt ps i g := by
  unfold getE at he
  cases hA : isAt ps i g with
  | none => rw [hA] at he; cases he
  | some kb =>
    obtain ⟨k', b⟩ := kb
    obtain ⟨h1, h2, h3, h4⟩ := isAt_some hA
    have hne : k ≠ k' := fun e => by
      subst e
      rw [hk] at h1
      cases h1
      rw [ht] at h3
      cases h3
    unfold isAt at hA ⊢
    split at hA
    · cases hA
    · rename_i h0
      rw [if_neg h0]
      subst h2
      rw [Int.toNat_natCast] at hA ⊢
      rw [List.getElem?_set_ne hne]
      exact hA
set_option maxRecDepth 100000 in
set_option maxHeartbeats 2000000 in
theorem split_stale (hS : Sat w0 (cxB h p most * (tblP p ps free * (plB L * (F)))) w) (i g : Int) (amount now : Int) (he : getE ps i g = 11) :
    Calls Try.prog 14 #[vp h, vr i g, vu amount, vu now] w fun e w' => e = .returned (.tuple #[vr 0 0, vi 11]) ∧ Sat w0 (cxB h p most * (tblP p ps free * (plB L * (F)))) w' := by
  have hB0 := (hS.alloc (.cells #[vi i, vu g] 30)).alloc (.cells #[vi 0, vu 0] 30)
  rw [size1] at hB0
  have hB1 : Sat w0 (pc (w.heap.size + 1) 30 [vi 0, vu 0] * (pc w.heap.size 30 [vi i, vu g] * (cxB h p most * (tblP p ps free * (plB L * (F)))))) _ := hB0
  have b0 := (hB1).dropL.cell 0 rfl; have b1 := (hB1).dropL.cell 1 rfl; have b2 := (hB1).cell 0 rfl; have b3 := (hB1).cell 1 rfl
  have fz0 := hB1.free 0
  have fz1 := hB1.free 1
  have hB := (hB1).cast (show _ = cxB h p most * (tblP p ps free * (pc (w.heap.size + 1) 30 [vi 0, vu 0] * (pc w.heap.size 30 [vi i, vu g] * (plB L * (F))))) by ac_rfl)
  have HG := Lib.hid (cx_find hB i g)
  rw [he] at HG
  clear hB hB0 hB1
  clear hS he
  generalize getX ps i g = x at *
  obtain ⟨v0, v1, a2, n2, c2, v3⟩ := x
  go_enter Try.func14, Try.ntmps14
  go_wp2_with (go_at_call 38; refine HG.out.mono ?_; rintro e w1 ⟨rfl, hS1⟩; have HS1 := Lib.hid hS1; have hA : Sat w0 (pc w1.heap.size 49 (elC ⟨v0, v1, a2, n2, c2, v3⟩) * _) (w1.alloc (elO ⟨v0, v1, a2, n2, c2, v3⟩)) := hS1.alloc (elO ⟨v0, v1, a2, n2, c2, v3⟩); have H1 := Lib.hid hA; have hx0 := hA.cell 0 rfl; have hx1 := hA.cell 1 rfl; have hx2 := hA.cell 2 rfl; have hx3 := hA.cell 3 rfl; have rz0 := hA.dropL.dropL.dropL.cell 0 rfl; have rz1 := hA.dropL.dropL.dropL.cell 1 rfl; have rf0 := hA.dropL.dropL.dropL.free 0; have rf1 := hA.dropL.dropL.dropL.free 1; have rb0 := hA.dropL.dropL.dropL.dropL.cell 0 rfl; have rb1 := hA.dropL.dropL.dropL.dropL.cell 1 rfl; clear hA hS1)
  have H2 := (H1.out).cast (show _ = pc (w.heap.size + 1) 30 [vi 0, vu 0] * (pc w1.heap.size 49 (elC ⟨v0, v1, a2, n2, c2, v3⟩) * (pc w.heap.size 30 [vi i, vu g] * (cxB h p most * (tblP p ps free * (plB L * (F)))))) by ac_rfl)
  refine bodyPost_ret (v := .tuple #[vr 0 0, vi 11]) (by rw [results_cell_tmp rfl]; go_simp) rfl ?_
  first | exact ⟨rfl, H2.dropL.dropL.dropL⟩ | exact ⟨rfl, ((H2.store 0 (vi 0)).store 1 (vu 0)).dropL.dropL.dropL⟩
set_option maxRecDepth 100000 in
set_option maxHeartbeats 2000000 in
theorem split_part (hS : Sat w0 (cxB h p most * (tblP p ps free * (plB L * (F)))) w) (i g : Int) (amount now er : Int) (he : getE ps i g = 0) (hi : InP L (.slice (getX ps i g).a2 (getX ps i g).n2 (getX ps i g).c2) l) (hl : l.length ≤ 1000) (hp : partC (getX ps i g).v0 l amount now = er) (hne : er ≠ 0) :
    Calls Try.prog 14 #[vp h, vr i g, vu amount, vu now] w fun e w' => e = .returned (.tuple #[vr 0 0, vi er]) ∧ Sat w0 (cxB h p most * (tblP p ps free * (plB L * (F)))) w' := by
  have hB0 := (hS.alloc (.cells #[vi i, vu g] 30)).alloc (.cells #[vi 0, vu 0] 30)
  rw [size1] at hB0
  have hB1 : Sat w0 (pc (w.heap.size + 1) 30 [vi 0, vu 0] * (pc w.heap.size 30 [vi i, vu g] * (cxB h p most * (tblP p ps free * (plB L * (F)))))) _ := hB0
  have b0 := (hB1).dropL.cell 0 rfl; have b1 := (hB1).dropL.cell 1 rfl; have b2 := (hB1).cell 0 rfl; have b3 := (hB1).cell 1 rfl
  have fz0 := hB1.free 0
  have fz1 := hB1.free 1
  have hB := (hB1).cast (show _ = cxB h p most * (tblP p ps free * (pc (w.heap.size + 1) 30 [vi 0, vu 0] * (pc w.heap.size 30 [vi i, vu g] * (plB L * (F))))) by ac_rfl)
  have HG := Lib.hid (cx_find hB i g)
  rw [he] at HG
  clear hB hB0 hB1
  have HI := Lib.hid hi
  clear hi hS he
  generalize getX ps i g = x at *
  obtain ⟨v0, v1, a2, n2, c2, v3⟩ := x
  have HI : Hid (InP L (.slice a2 n2 c2) l) := HI
  have HPT : Hid (∀ (wz w1 : World), Sat w0 (pc wz.heap.size 49 (elC ⟨v0, v1, a2, n2, c2, v3⟩) * (cxB h p most * (tblP p ps free * (pc (w.heap.size + 1) 30 [vi 0, vu 0] * (pc w.heap.size 30 [vi i, vu g] * (plB L * (F))))))) w1 → Calls Try.prog 42 #[ev ⟨v0, v1, a2, n2, c2, v3⟩, vu amount, vu now] w1 fun e w' => e = .returned (vi er) ∧ Sat w0 (pc wz.heap.size 49 (elC ⟨v0, v1, a2, n2, c2, v3⟩) * (cxB h p most * (tblP p ps free * (pc (w.heap.size + 1) 30 [vi 0, vu 0] * (pc w.heap.size 30 [vi i, vu g] * (plB L * (F))))))) w') := Lib.hid (fun wz w1 h1 => by
    subst hp
    exact cx_part h1 (fun w' h' => Sat.plRd ((h').cast (show _ = plB L * (pc wz.heap.size 49 (elC ⟨v0, v1, a2, n2, c2, v3⟩) * (cxB h p most * (tblP p ps free * (pc (w.heap.size + 1) 30 [vi 0, vu 0] * (pc w.heap.size 30 [vi i, vu g] * (F)))))) by ac_rfl)) HI.out) hl)
  have hnb : (er == 0) = false := beq_eq_false_iff_ne.2 hne
  have hnc : (er != 0) = true := by simpa using hne
  clear hp hne
  go_enter Try.func14, Try.ntmps14
  go_wp2_with (first
    | (go_at_call 38; refine HG.out.mono ?_; rintro e w1 ⟨rfl, hS1⟩; have HS1 := Lib.hid hS1; have hA : Sat w0 (pc w1.heap.size 49 (elC ⟨v0, v1, a2, n2, c2, v3⟩) * _) (w1.alloc (elO ⟨v0, v1, a2, n2, c2, v3⟩)) := hS1.alloc (elO ⟨v0, v1, a2, n2, c2, v3⟩); have H1 := Lib.hid hA; have hx0 := hA.cell 0 rfl; have hx1 := hA.cell 1 rfl; have hx2 := hA.cell 2 rfl; have hx3 := hA.cell 3 rfl; have rz0 := hA.dropL.dropL.dropL.cell 0 rfl; have rz1 := hA.dropL.dropL.dropL.cell 1 rfl; have rf0 := hA.dropL.dropL.dropL.free 0; have rf1 := hA.dropL.dropL.dropL.free 1; have rb0 := hA.dropL.dropL.dropL.dropL.cell 0 rfl; have rb1 := hA.dropL.dropL.dropL.dropL.cell 1 rfl; clear hA hS1)
    | (go_at_call 42; refine (HPT.out w1 _ H1.out).mono ?_; rintro e w2 ⟨rfl, hS2⟩; have H2 := Lib.hid hS2; have kc0 := (hS2).dropL.dropL.dropL.cell 0 rfl; have kc1 := (hS2).dropL.dropL.dropL.cell 1 rfl; have cf0 := (hS2).dropL.dropL.dropL.free 0; have cf1 := (hS2).dropL.dropL.dropL.free 1; clear hS2))
  have H3 := (H2.out).cast (show _ = pc (w.heap.size + 1) 30 [vi 0, vu 0] * (pc w1.heap.size 49 (elC ⟨v0, v1, a2, n2, c2, v3⟩) * (pc w.heap.size 30 [vi i, vu g] * (cxB h p most * (tblP p ps free * (plB L * (F)))))) by ac_rfl)
  refine bodyPost_ret (v := .tuple #[vr 0 0, vi er]) (by rw [results_cell_tmp rfl]; go_simp) rfl ?_
  first | exact ⟨rfl, H3.dropL.dropL.dropL⟩ | exact ⟨rfl, ((H3.store 0 (vi 0)).store 1 (vu 0)).dropL.dropL.dropL⟩
set_option maxRecDepth 100000 in
set_option maxHeartbeats 2000000 in
theorem split_full (hS : Sat w0 (cxB h p most * (tblP p ps [] * (plB L * (F)))) w) (i g : Int) (amount now : Int) (he : getE ps i g = 0) (hi : InP L (.slice (getX ps i g).a2 (getX ps i g).n2 (getX ps i g).c2) l) (hl : l.length ≤ 1000) (hp : partC (getX ps i g).v0 l amount now = 0) (hm : MkOk amount (getX ps i g).v1 now) (hn0 : 0 ≤ now) :
    Calls Try.prog 14 #[vp h, vr i g, vu amount, vu now] w fun e w' => ∃ L2, e = .returned (.tuple #[vr 0 0, vi 3]) ∧ (∀ x ∈ L, x ∈ L2) ∧ Sat w0 (cxB h p most * (tblP p ps [] * (plB L2 * (F)))) w' := by
  have hB0 := (hS.alloc (.cells #[vi i, vu g] 30)).alloc (.cells #[vi 0, vu 0] 30)
  rw [size1] at hB0
  have hB1 : Sat w0 (pc (w.heap.size + 1) 30 [vi 0, vu 0] * (pc w.heap.size 30 [vi i, vu g] * (cxB h p most * (tblP p ps [] * (plB L * (F)))))) _ := hB0
  have b0 := (hB1).dropL.cell 0 rfl; have b1 := (hB1).dropL.cell 1 rfl; have b2 := (hB1).cell 0 rfl; have b3 := (hB1).cell 1 rfl
  have fz0 := hB1.free 0
  have fz1 := hB1.free 1
  have hB := (hB1).cast (show _ = cxB h p most * (tblP p ps [] * (pc (w.heap.size + 1) 30 [vi 0, vu 0] * (pc w.heap.size 30 [vi i, vu g] * (plB L * (F))))) by ac_rfl)
  have HG := Lib.hid (cx_find hB i g)
  rw [he] at HG
  clear hB hB0 hB1
  have HI := Lib.hid hi
  clear hi hS he
  generalize getX ps i g = x at *
  obtain ⟨v0, v1, a2, n2, c2, v3⟩ := x
  have HI : Hid (InP L (.slice a2 n2 c2) l) := HI
  have HPT : Hid (∀ (wz w1 : World), Sat w0 (pc wz.heap.size 49 (elC ⟨v0, v1, a2, n2, c2, v3⟩) * (cxB h p most * (tblP p ps [] * (pc (w.heap.size + 1) 30 [vi 0, vu 0] * (pc w.heap.size 30 [vi i, vu g] * (plB L * (F))))))) w1 → Calls Try.prog 42 #[ev ⟨v0, v1, a2, n2, c2, v3⟩, vu amount, vu now] w1 fun e w' => e = .returned (vi 0) ∧ Sat w0 (pc wz.heap.size 49 (elC ⟨v0, v1, a2, n2, c2, v3⟩) * (cxB h p most * (tblP p ps [] * (pc (w.heap.size + 1) 30 [vi 0, vu 0] * (pc w.heap.size 30 [vi i, vu g] * (plB L * (F))))))) w') := Lib.hid (fun wz w1 h1 => by
    have := cx_part h1 (fun w' h' => Sat.plRd ((h').cast (show _ = plB L * (pc wz.heap.size 49 (elC ⟨v0, v1, a2, n2, c2, v3⟩) * (cxB h p most * (tblP p ps [] * (pc (w.heap.size + 1) 30 [vi 0, vu 0] * (pc w.heap.size 30 [vi i, vu g] * (F)))))) by ac_rfl)) HI.out) hl (amount := amount) (now := now) (v0 := v0) (v1 := v1) (v3 := v3)
    rw [hp] at this
    exact this)
  have HMK := Lib.hid (fun (w : World) (G : Hp) (h' : Sat w0 (cxB h p most * (tblP p ps [] * (plB L * (G)))) w) => make_full h' amount v1 now hm hn0)
  clear hp hm hn0
  go_enter Try.func14, Try.ntmps14
  go_wp2_with (first
    | (go_at_call 38; refine HG.out.mono ?_; rintro e w1 ⟨rfl, hS1⟩; have HS1 := Lib.hid hS1; have hA : Sat w0 (pc w1.heap.size 49 (elC ⟨v0, v1, a2, n2, c2, v3⟩) * _) (w1.alloc (elO ⟨v0, v1, a2, n2, c2, v3⟩)) := hS1.alloc (elO ⟨v0, v1, a2, n2, c2, v3⟩); have H1 := Lib.hid hA; have hx0 := hA.cell 0 rfl; have hx1 := hA.cell 1 rfl; have hx2 := hA.cell 2 rfl; have hx3 := hA.cell 3 rfl; have rz0 := hA.dropL.dropL.dropL.cell 0 rfl; have rz1 := hA.dropL.dropL.dropL.cell 1 rfl; have rf0 := hA.dropL.dropL.dropL.free 0; have rf1 := hA.dropL.dropL.dropL.free 1; have rb0 := hA.dropL.dropL.dropL.dropL.cell 0 rfl; have rb1 := hA.dropL.dropL.dropL.dropL.cell 1 rfl; clear hA hS1)
    | (go_at_call 42; refine (HPT.out w1 _ H1.out).mono ?_; rintro e w2 ⟨rfl, hS2⟩; have H2 := Lib.hid hS2; have kc0 := (hS2).cell 0 rfl; have kc1 := (hS2).cell 1 rfl; have kc2 := (hS2).cell 2 rfl; have kc3 := (hS2).cell 3 rfl; have kc4 := (hS2).dropL.dropL.dropL.cell 0 rfl; have kc5 := (hS2).dropL.dropL.dropL.cell 1 rfl; have kc6 := (hS2).dropL.dropL.dropL.dropL.cell 0 rfl; have kc7 := (hS2).dropL.dropL.dropL.dropL.cell 1 rfl; have cf0 := (hS2).dropL.dropL.dropL.free 0; have cf1 := (hS2).dropL.dropL.dropL.free 1; clear hS2)
    | (go_at_call 11; refine (HMK.out _ _ ((H2.out).cast (show _ = cxB h p most * (tblP p ps [] * (plB L * (pc w1.heap.size 49 (elC ⟨v0, v1, a2, n2, c2, v3⟩) * (pc (w.heap.size + 1) 30 [vi 0, vu 0] * (pc w.heap.size 30 [vi i, vu g] * (F)))))) by ac_rfl))).mono ?_; rintro e w3 ⟨L2, rfl, hsub, hS3⟩; have HSUB := Lib.hid hsub; have h3 := hS3.alloc (.cells #[vi 0, vu 0] 30); have x0 := (h3).dropL.dropL.dropL.dropL.dropL.cell 0 rfl; have x1 := (h3).dropL.dropL.dropL.dropL.dropL.cell 1 rfl; have xf0 := (h3).dropL.dropL.dropL.dropL.dropL.free 0; have xf1 := (h3).dropL.dropL.dropL.dropL.dropL.free 1; have H3 := Lib.hid h3; clear hS3 h3 hsub))
  have H4 := H3.out.dropL.cast (show _ = pc (w.heap.size + 1) 30 [vi 0, vu 0] * (pc w1.heap.size 49 (elC ⟨v0, v1, a2, n2, c2, v3⟩) * (pc w.heap.size 30 [vi i, vu g] * (cxB h p most * (tblP p ps [] * (plB L2 * (F)))))) by ac_rfl)
  refine bodyPost_ret (v := .tuple #[vr 0 0, vi 3]) (by rw [results_cell_tmp rfl]; go_simp) rfl ?_
  first | exact ⟨L2, rfl, HSUB.out, H4.dropL.dropL.dropL⟩ | exact ⟨L2, rfl, HSUB.out, ((H4.store 0 (vi 0)).store 1 (vu 0)).dropL.dropL.dropL⟩
set_option maxRecDepth 100000 in
set_option maxHeartbeats 4000000 in
theorem split_ok {k : Nat} {a : Pl} (hS : Sat w0 (cxB h p most * (tblP p ps (free ++ [k]) * (plB L * (F)))) w) (i g : Int) (amount now : Int) (he : getE ps i g = 0) (hi : InP L (.slice (getX ps i g).a2 (getX ps i g).n2 (getX ps i g).c2) l) (hl : l.length ≤ 1000) (hp : partC (getX ps i g).v0 l amount now = 0) (hm : MkOk amount (getX ps i g).v1 now) (hn0 : 0 ≤ now) (hk : ps[k]? = some a) (hth : a.there = false) (hpu : PuOk l amount) (hle : amount ≤ thereV l now) (hb : amount ≤ (getX ps i g).v0 ∧ (getX ps i g).v0 ≤ 18446744073709551615) (hok : OkL (lessL (dueL l now) amount)) :
    Calls Try.prog 14 #[vp h, vr i g, vu amount, vu now] w fun e w' => ∃ ao lc ao2 lc2 L2, e = .returned (.tuple #[vr k a.gen, vi 0]) ∧ (∀ x ∈ L, x ∈ L2) ∧ InP L2 (.slice ao 1 lc) [⟨amount, now⟩] ∧ InP L2 (.slice ao2 (lessL (dueL l now) amount).length lc2) (lessL (dueL l now) amount) ∧ Sat w0 (cxB h p most * (tblP p (setP (ps.set k { a with there := true, x := ⟨amount, (getX ps i g).v1, ao, 1, lc, 0⟩ }) i g ⟨(getX ps i g).v0 - amount, (getX ps i g).v1, ao2, (lessL (dueL l now) amount).length, lc2, (getX ps i g).v3⟩) free * (plB L2 * (F)))) w' := by
  have hB0 := (hS.alloc (.cells #[vi i, vu g] 30)).alloc (.cells #[vi 0, vu 0] 30)
  rw [size1] at hB0
  have hB1 : Sat w0 (pc (w.heap.size + 1) 30 [vi 0, vu 0] * (pc w.heap.size 30 [vi i, vu g] * (cxB h p most * (tblP p ps (free ++ [k]) * (plB L * (F)))))) _ := hB0
  have b0 := (hB1).dropL.cell 0 rfl; have b1 := (hB1).dropL.cell 1 rfl; have b2 := (hB1).cell 0 rfl; have b3 := (hB1).cell 1 rfl
  have fz0 := hB1.free 0
  have fz1 := hB1.free 1
  have hB := (hB1).cast (show _ = cxB h p most * (tblP p ps (free ++ [k]) * (pc (w.heap.size + 1) 30 [vi 0, vu 0] * (pc w.heap.size 30 [vi i, vu g] * (plB L * (F))))) by ac_rfl)
  have HG := Lib.hid (cx_find hB i g)
  rw [he] at HG
  clear hB hB0 hB1
  have HI := Lib.hid hi
  have HSET : Hid (∀ (y x : El) (w : World) (G : Hp), Sat w0 (tblP p (ps.set k { a with there := true, x := y }) free * G) w → Calls Try.prog 41 #[vp p, vr i g, ev x] w fun e w' => e = .returned (vi 0) ∧ Sat w0 (tblP p (setP (ps.set k { a with there := true, x := y }) i g x) free * G) w') := Lib.hid (fun y x w G h' => by
    have := set_ h' i g x
    rw [show getE (ps.set k { a with there := true, x := y }) i g = 0 by unfold getE; rw [isAt_set hk hth he]; exact he] at this
    exact this)
  clear hi hS he
  generalize getX ps i g = x at *
  obtain ⟨v0, v1, a2, n2, c2, v3⟩ := x
  have HI : Hid (InP L (.slice a2 n2 c2) l) := HI
  have HPT : Hid (∀ (wz w1 : World), Sat w0 (pc wz.heap.size 49 (elC ⟨v0, v1, a2, n2, c2, v3⟩) * (cxB h p most * (tblP p ps (free ++ [k]) * (pc (w.heap.size + 1) 30 [vi 0, vu 0] * (pc w.heap.size 30 [vi i, vu g] * (plB L * (F))))))) w1 → Calls Try.prog 42 #[ev ⟨v0, v1, a2, n2, c2, v3⟩, vu amount, vu now] w1 fun e w' => e = .returned (vi 0) ∧ Sat w0 (pc wz.heap.size 49 (elC ⟨v0, v1, a2, n2, c2, v3⟩) * (cxB h p most * (tblP p ps (free ++ [k]) * (pc (w.heap.size + 1) 30 [vi 0, vu 0] * (pc w.heap.size 30 [vi i, vu g] * (plB L * (F))))))) w') := Lib.hid (fun wz w1 h1 => by
    have := cx_part h1 (fun w' h' => Sat.plRd ((h').cast (show _ = plB L * (pc wz.heap.size 49 (elC ⟨v0, v1, a2, n2, c2, v3⟩) * (cxB h p most * (tblP p ps (free ++ [k]) * (pc (w.heap.size + 1) 30 [vi 0, vu 0] * (pc w.heap.size 30 [vi i, vu g] * (F)))))) by ac_rfl)) HI.out) hl (amount := amount) (now := now) (v0 := v0) (v1 := v1) (v3 := v3)
    rw [hp] at this
    exact this)
  have HMK : Hid (∀ (w : World) (G : Hp), Sat w0 (cxB h p most * (tblP p ps (free ++ [k]) * (plB L * (G)))) w → Calls Try.prog 11 #[vp h, vu amount, vu v1, vu now] w fun e w' => ∃ ao lc L2, e = .returned (.tuple #[vr k a.gen, vi 0]) ∧ (∀ x ∈ L, x ∈ L2) ∧ InP L2 (.slice ao 1 lc) [⟨amount, now⟩] ∧ Sat w0 (cxB h p most * (tblP p (ps.set k { a with there := true, x := ⟨amount, v1, ao, 1, lc, 0⟩ }) free * (plB L2 * (G)))) w') := Lib.hid (fun w G h' => make_ok h' amount v1 now hm hn0 hk)
  have HPU : Hid (∀ (L2 : Blks) (w : World) (G : Hp), (∀ x ∈ L, x ∈ L2) → Sat w0 (plB L2 * G) w → Calls Try.prog 43 #[ev ⟨v0, v1, a2, n2, c2, v3⟩, vu amount, vu now] w fun e w' => ∃ ao2 lc2 L3, e = .returned (ev ⟨v0 - amount, v1, ao2, (lessL (dueL l now) amount).length, lc2, v3⟩) ∧ (∀ x ∈ L2, x ∈ L3) ∧ InP L3 (.slice ao2 (lessL (dueL l now) amount).length lc2) (lessL (dueL l now) amount) ∧ Sat w0 (plB L3 * G) w') := Lib.hid (fun L2 w G hsub h' => cx_pull h' (HI.out.mono hsub) hl ⟨by unfold MkOk at hm; omega, by unfold MkOk at hm; omega⟩ hpu hle hb hok)
  generalize lessL (dueL l now) amount = ln at *
  clear hp hm hn0 hk hth hpu hle hb hok
  go_enter Try.func14, Try.ntmps14
  go_wp2_with (first
    | (go_at_call 38; refine HG.out.mono ?_; rintro e w1 ⟨rfl, hS1⟩; have HS1 := Lib.hid hS1; have hA : Sat w0 (pc w1.heap.size 49 (elC ⟨v0, v1, a2, n2, c2, v3⟩) * _) (w1.alloc (elO ⟨v0, v1, a2, n2, c2, v3⟩)) := hS1.alloc (elO ⟨v0, v1, a2, n2, c2, v3⟩); have H1 := Lib.hid hA; have hx0 := hA.cell 0 rfl; have hx1 := hA.cell 1 rfl; have hx2 := hA.cell 2 rfl; have hx3 := hA.cell 3 rfl; have rz0 := hA.dropL.dropL.dropL.cell 0 rfl; have rz1 := hA.dropL.dropL.dropL.cell 1 rfl; have rf0 := hA.dropL.dropL.dropL.free 0; have rf1 := hA.dropL.dropL.dropL.free 1; have rb0 := hA.dropL.dropL.dropL.dropL.cell 0 rfl; have rb1 := hA.dropL.dropL.dropL.dropL.cell 1 rfl; clear hA hS1)
    | (go_at_call 42; refine (HPT.out w1 _ H1.out).mono ?_; rintro e w2 ⟨rfl, hS2⟩; have H2 := Lib.hid hS2; have kc0 := (hS2).cell 0 rfl; have kc1 := (hS2).cell 1 rfl; have kc2 := (hS2).cell 2 rfl; have kc3 := (hS2).cell 3 rfl; have kc4 := (hS2).dropL.dropL.dropL.cell 0 rfl; have kc5 := (hS2).dropL.dropL.dropL.cell 1 rfl; have kc6 := (hS2).dropL.dropL.dropL.dropL.cell 0 rfl; have kc7 := (hS2).dropL.dropL.dropL.dropL.cell 1 rfl; have cf0 := (hS2).dropL.dropL.dropL.free 0; have cf1 := (hS2).dropL.dropL.dropL.free 1; clear hS2)
    | (go_at_call 11; refine (HMK.out _ _ ((H2.out).cast (show _ = cxB h p most * (tblP p ps (free ++ [k]) * (plB L * (pc w1.heap.size 49 (elC ⟨v0, v1, a2, n2, c2, v3⟩) * (pc (w.heap.size + 1) 30 [vi 0, vu 0] * (pc w.heap.size 30 [vi i, vu g] * (F)))))) by ac_rfl))).mono ?_; rintro e w3 ⟨ao, lc, L2, rfl, hsub, hin, hS3⟩; have HSUB := Lib.hid hsub; have HIN := Lib.hid hin; have h3 : Sat w0 (pc w3.heap.size 30 [vi k, vu a.gen] * (cxB h p most * (tblP p (ps.set k { a with there := true, x := ⟨amount, v1, ao, 1, lc, 0⟩ }) free * (plB L2 * (pc w1.heap.size 49 (elC ⟨v0, v1, a2, n2, c2, v3⟩) * (pc (w.heap.size + 1) 30 [vi 0, vu 0] * (pc w.heap.size 30 [vi i, vu g] * (F)))))))) _ := hS3.alloc (.cells #[vi k, vu a.gen] 30); have H3 := Lib.hid h3; clear hS3 h3 hsub hin))
  have ka0 := (H3.out).dropL.cell 0 rfl; have ka1 := (H3.out).dropL.dropL.dropL.dropL.dropL.dropL.cell 0 rfl; have ka2 := (H3.out).dropL.dropL.dropL.dropL.dropL.dropL.cell 1 rfl; have ka3 := (H3.out).dropL.dropL.dropL.dropL.cell 0 rfl; have ka4 := (H3.out).dropL.dropL.dropL.dropL.cell 1 rfl; have ka5 := (H3.out).dropL.dropL.dropL.dropL.cell 2 rfl; have ka6 := (H3.out).dropL.dropL.dropL.dropL.cell 3 rfl; have ka7 := (H3.out).cell 0 rfl; have ka8 := (H3.out).cell 1 rfl
  go_region_held3 (fun w' => w'.cell? ⟨h, 0, none⟩ = some (vp p) ∧ w'.cell? ⟨w.heap.size, 0, none⟩ = some (vi i) ∧ w'.cell? ⟨w.heap.size, 1, none⟩ = some (vu g) ∧ w'.cell? ⟨w1.heap.size, 0, none⟩ = some (vu v0) ∧ w'.cell? ⟨w1.heap.size, 1, none⟩ = some (vu v1) ∧ w'.cell? ⟨w1.heap.size, 2, none⟩ = some (.slice a2 n2 c2) ∧ w'.cell? ⟨w1.heap.size, 3, none⟩ = some (vi v3) ∧ w'.cell? ⟨w3.heap.size, 0, none⟩ = some (vi k) ∧ w'.cell? ⟨w3.heap.size, 1, none⟩ = some (vu a.gen))
    (first | exact ⟨ka0, ka1, ka2, ka3, ka4, ka5, ka6, ka7, ka8⟩ | exact ⟨kb0, kb1, kb2, kb3, kb4, kb5, kb6, kb7, kb8⟩ | exact ⟨kd0, kd1, kd2, kd3, kd4, kd5, kd6, kd7, kd8⟩ | exact ⟨ke0, ke1, ke2, ke3, ke4, ke5, ke6, ke7, ke8⟩ | go_keep)
    (first
      | (go_at_call 43; refine (HPU.out L2 _ _ HSUB.out ((H3.out.drew).cast (show _ = plB L2 * (pc w3.heap.size 30 [vi k, vu a.gen] * (cxB h p most * (tblP p (ps.set k { a with there := true, x := ⟨amount, v1, ao, 1, lc, 0⟩ }) free * (pc w1.heap.size 49 (elC ⟨v0, v1, a2, n2, c2, v3⟩) * (pc (w.heap.size + 1) 30 [vi 0, vu 0] * (pc w.heap.size 30 [vi i, vu g] * (F))))))) by ac_rfl))).mono ?_; rintro e w4 ⟨ao2, lc2, L3, rfl, hsub3, hin3, hS4⟩; have HSUB3 := Lib.hid hsub3; have HIN3 := Lib.hid hin3; have h4 := (hS4).cast (show _ = pc w3.heap.size 30 [vi k, vu a.gen] * (cxB h p most * (tblP p (ps.set k { a with there := true, x := ⟨amount, v1, ao, 1, lc, 0⟩ }) free * (plB L3 * (pc w1.heap.size 49 (elC ⟨v0, v1, a2, n2, c2, v3⟩) * (pc (w.heap.size + 1) 30 [vi 0, vu 0] * (pc w.heap.size 30 [vi i, vu g] * (F))))))) by ac_rfl); have H4 := Lib.hid h4; clear hS4 h4 hsub3 hin3; have kb0 := (H4.out).dropL.cell 0 rfl; have kb1 := (H4.out).dropL.dropL.dropL.dropL.dropL.dropL.cell 0 rfl; have kb2 := (H4.out).dropL.dropL.dropL.dropL.dropL.dropL.cell 1 rfl; have kb3 := (H4.out).dropL.dropL.dropL.dropL.cell 0 rfl; have kb4 := (H4.out).dropL.dropL.dropL.dropL.cell 1 rfl; have kb5 := (H4.out).dropL.dropL.dropL.dropL.cell 2 rfl; have kb6 := (H4.out).dropL.dropL.dropL.dropL.cell 3 rfl; have kb7 := (H4.out).cell 0 rfl; have kb8 := (H4.out).cell 1 rfl)
      | (go_at_call 41; refine (HSET.out ⟨amount, v1, ao, 1, lc, 0⟩ ⟨v0 - amount, v1, ao2, ln.length, lc2, v3⟩ _ _ ((H4.out).cast (show _ = tblP p (ps.set k { a with there := true, x := ⟨amount, v1, ao, 1, lc, 0⟩ }) free * (pc w3.heap.size 30 [vi k, vu a.gen] * (cxB h p most * (plB L3 * (pc w1.heap.size 49 (elC ⟨v0, v1, a2, n2, c2, v3⟩) * (pc (w.heap.size + 1) 30 [vi 0, vu 0] * (pc w.heap.size 30 [vi i, vu g] * (F))))))) by ac_rfl))).mono ?_; rintro e w5 ⟨rfl, hS5⟩; have h5 := (hS5).cast (show _ = pc w3.heap.size 30 [vi k, vu a.gen] * (cxB h p most * (tblP p (setP (ps.set k { a with there := true, x := ⟨amount, v1, ao, 1, lc, 0⟩ }) i g ⟨v0 - amount, v1, ao2, ln.length, lc2, v3⟩) free * (plB L3 * (pc w1.heap.size 49 (elC ⟨v0, v1, a2, n2, c2, v3⟩) * (pc (w.heap.size + 1) 30 [vi 0, vu 0] * (pc w.heap.size 30 [vi i, vu g] * (F))))))) by ac_rfl); have H5 := Lib.hid h5; clear hS5 h5; have kd0 := (H5.out).dropL.cell 0 rfl; have kd1 := (H5.out).dropL.dropL.dropL.dropL.dropL.dropL.cell 0 rfl; have kd2 := (H5.out).dropL.dropL.dropL.dropL.dropL.dropL.cell 1 rfl; have kd3 := (H5.out).dropL.dropL.dropL.dropL.cell 0 rfl; have kd4 := (H5.out).dropL.dropL.dropL.dropL.cell 1 rfl; have kd5 := (H5.out).dropL.dropL.dropL.dropL.cell 2 rfl; have kd6 := (H5.out).dropL.dropL.dropL.dropL.cell 3 rfl; have kd7 := (H5.out).cell 0 rfl; have kd8 := (H5.out).cell 1 rfl; have y0 := H5.out.dropL.dropL.dropL.dropL.dropL.cell 0 rfl; have y1 := H5.out.dropL.dropL.dropL.dropL.dropL.cell 1 rfl; have yf := H5.out.dropL.dropL.dropL.dropL.dropL.free 0; have yg := H5.out.dropL.dropL.dropL.dropL.dropL.free 1; have h6 : Sat w0 (pc (w.heap.size + 1) 30 [vi k, vu a.gen] * (pc w3.heap.size 30 [vi k, vu a.gen] * (cxB h p most * (tblP p (setP (ps.set k { a with there := true, x := ⟨amount, v1, ao, 1, lc, 0⟩ }) i g ⟨v0 - amount, v1, ao2, ln.length, lc2, v3⟩) free * (plB L3 * (pc w1.heap.size 49 (elC ⟨v0, v1, a2, n2, c2, v3⟩) * (pc w.heap.size 30 [vi i, vu g] * (F)))))))) _ := (((H5.out).cast (show _ = pc (w.heap.size + 1) 30 [vi 0, vu 0] * (pc w3.heap.size 30 [vi k, vu a.gen] * (cxB h p most * (tblP p (setP (ps.set k { a with there := true, x := ⟨amount, v1, ao, 1, lc, 0⟩ }) i g ⟨v0 - amount, v1, ao2, ln.length, lc2, v3⟩) free * (plB L3 * (pc w1.heap.size 49 (elC ⟨v0, v1, a2, n2, c2, v3⟩) * (pc w.heap.size 30 [vi i, vu g] * (F))))))) by ac_rfl)).store 0 (vi k)).store 1 (vu a.gen); have H6 := Lib.hid ((h6).cast (show _ = pc w3.heap.size 30 [vi k, vu a.gen] * (cxB h p most * (tblP p (setP (ps.set k { a with there := true, x := ⟨amount, v1, ao, 1, lc, 0⟩ }) i g ⟨v0 - amount, v1, ao2, ln.length, lc2, v3⟩) free * (plB L3 * (pc w1.heap.size 49 (elC ⟨v0, v1, a2, n2, c2, v3⟩) * (pc (w.heap.size + 1) 30 [vi k, vu a.gen] * (pc w.heap.size 30 [vi i, vu g] * (F))))))) by ac_rfl)); clear h6; have ke0 := (H6.out).dropL.cell 0 rfl; have ke1 := (H6.out).dropL.dropL.dropL.dropL.dropL.dropL.cell 0 rfl; have ke2 := (H6.out).dropL.dropL.dropL.dropL.dropL.dropL.cell 1 rfl; have ke3 := (H6.out).dropL.dropL.dropL.dropL.cell 0 rfl; have ke4 := (H6.out).dropL.dropL.dropL.dropL.cell 1 rfl; have ke5 := (H6.out).dropL.dropL.dropL.dropL.cell 2 rfl; have ke6 := (H6.out).dropL.dropL.dropL.dropL.cell 3 rfl; have ke7 := (H6.out).cell 0 rfl; have ke8 := (H6.out).cell 1 rfl))
  go_wp2
  (try simp only [Exit.inBlock, Exit.then])
  refine bodyPost_ret (v := .tuple #[vr k a.gen, vi 0]) (by rw [results_cell_tmp rfl]; go_simp) rfl ?_
  exact ⟨ao, lc, ao2, lc2, L3, rfl, fun x hx => HSUB3.out x (HSUB.out x hx), HIN.out.mono HSUB3.out, HIN3.out, ((H6.out).cast (show _ = pc (w.heap.size + 1) 30 [vi k, vu a.gen] * (pc w3.heap.size 30 [vi k, vu a.gen] * (pc w1.heap.size 49 (elC ⟨v0, v1, a2, n2, c2, v3⟩) * (pc w.heap.size 30 [vi i, vu g] * (cxB h p most * (tblP p (setP (ps.set k { a with there := true, x := ⟨amount, v1, ao, 1, lc, 0⟩ }) i g ⟨v0 - amount, v1, ao2, ln.length, lc2, v3⟩) free * (plB L3 * (F))))))) by ac_rfl)).dropL.dropL.dropL.dropL⟩
end
end Go.Proofs.Ytknodagcmachiaa.Cn

namespace Go.Proofs.Ytknodagcmachiaa.Cn
open Go.RowKit Ac Fi
set_option linter.unusedVariables false
set_option linter.unusedSimpArgs false

section
variable {w0 w : World} {F : Hp} {h p : Nat} {most : Int} {ps : List Pl} {free : List Nat} {L : Blks} {l : List Rf}
set_option maxRecDepth 100000 in
set_option maxHeartbeats 2000000 in
theorem donate1_ {b : Nat} {n : Int} (hS : Sat w0 (pc b 26 [vi n] * F) w) :
    Calls Try.prog 65 #[vp b] w fun e w' => e = .returned (vi n) ∧ Sat w0 (pc b 26 [vi n] * F) w' := by
  have c0 := hS.cell 0 rfl
  have HS := Lib.hid hS
  clear hS
  go_enter Try.func65, Try.ntmps65
  go_wp2
  go_ret
  exact ⟨rfl, HS.out⟩
set_option maxRecDepth 100000 in
set_option maxHeartbeats 2000000 in
theorem donate2_ {b : Nat} {n : Int} (hS : Sat w0 (pc b 26 [vi n] * F) w) :
    Calls Try.prog 66 #[vp b] w fun e w' => e = .returned (vi n) ∧ Sat w0 (pc b 26 [vi n] * F) w' := by
  have c0 := hS.cell 0 rfl
  have HS := Lib.hid hS
  clear hS
  go_enter Try.func66, Try.ntmps66
  go_wp2
  go_ret
  exact ⟨rfl, HS.out⟩
set_option maxRecDepth 100000 in
set_option maxHeartbeats 2000000 in
theorem donate3_ {b1 b2 : Nat} {i g j t : Int} (hS : Sat w0 (pc b1 30 [vi i, vu g] * (pc b2 30 [vi j, vu t] * F)) w) :
    Calls Try.prog 67 #[vp b1, vp b2] w fun e w' => e = .returned (vi (if i = j ∧ g = t then 2 else 0)) ∧ Sat w0 (pc b1 30 [vi i, vu g] * (pc b2 30 [vi j, vu t] * F)) w' := by
  have c0 := hS.cell 0 rfl
  have c1 := hS.cell 1 rfl
  have d0 := hS.pull2.cell 0 rfl
  have d1 := hS.pull2.cell 1 rfl
  have HS := Lib.hid hS
  have HW1 := Lib.hid (fun n w => cx_when_t n w)
  have HW0 := Lib.hid (fun n w => cx_when_f n w)
  by_cases h1 : i = j
  · by_cases h2 : g = t
    · have hb1 : (i == j) = true := by simpa using h1
      have hb2 : (g == t) = true := by simpa using h2
      rw [if_pos ⟨h1, h2⟩]
      clear hS h1 h2
      go_enter Try.func67, Try.ntmps67
      go_wp2_with (go_at_call 68; refine (HW1.out _ _).mono ?_; rintro e w' ⟨rfl, rfl⟩)
      go_ret
      exact ⟨rfl, HS.out⟩
    · have hb2 : (g == t) = false := beq_eq_false_iff_ne.2 h2
      have hb1 : (i == j) = true := by simpa using h1
      rw [if_neg (fun h => h2 h.2)]
      clear hS h1 h2
      go_enter Try.func67, Try.ntmps67
      go_wp2_with (go_at_call 68; refine (HW0.out _ _).mono ?_; rintro e w' ⟨rfl, rfl⟩)
      go_ret
      exact ⟨rfl, HS.out⟩
  · have hb1 : (i == j) = false := beq_eq_false_iff_ne.2 h1
    rw [if_neg (fun h => h1 h.1)]
    clear hS h1
    go_enter Try.func67, Try.ntmps67
    go_wp2_with (go_at_call 68; refine (HW0.out _ _).mono ?_; rintro e w' ⟨rfl, rfl⟩)
    go_ret
    exact ⟨rfl, HS.out⟩
set_option maxRecDepth 100000 in
set_option maxHeartbeats 2000000 in
theorem donate4_ {bx b8 b9 : Nat} {amount now v0 v1 v3 : Int} {a2 : Option Addr} {n2 c2 : Nat} (hS : Sat w0 (pc bx 49 (elC ⟨v0, v1, a2, n2, c2, v3⟩) * (pc b8 22 [vu amount] * (pc b9 22 [vu now] * (F)))) w) (hR : ∀ w', Sat w0 (pc bx 49 (elC ⟨v0, v1, a2, n2, c2, v3⟩) * (pc b8 22 [vu amount] * (pc b9 22 [vu now] * (F)))) w' → RdF w' (.slice a2 n2 c2) l) (hl : l.length ≤ 1000) :
    Calls Try.prog 69 #[vp bx, vp b8, vp b9] w fun e w' => e = .returned (vi (partC v0 l amount now)) ∧ Sat w0 (pc bx 49 (elC ⟨v0, v1, a2, n2, c2, v3⟩) * (pc b8 22 [vu amount] * (pc b9 22 [vu now] * (F)))) w' := by
  have k0 := (hS).cell 0 rfl; have k1 := (hS).cell 1 rfl; have k2 := (hS).cell 2 rfl; have k3 := (hS).cell 3 rfl; have k4 := (hS).dropL.cell 0 rfl; have k5 := (hS).dropL.dropL.cell 0 rfl
  have HP := Lib.hid (cx_part (v0 := v0) (v1 := v1) (v3 := v3) (amount := amount) (now := now) hS hR hl)
  clear hS hR
  generalize partC v0 l amount now = rr at *
  go_enter Try.func69, Try.ntmps69
  go_wp2_with (go_at_call 42; refine HP.out.mono ?_; rintro e w' ⟨rfl, hS'⟩; have H2 := Lib.hid hS'; clear hS')
  go_ret
  exact ⟨rfl, H2.out⟩
set_option maxRecDepth 100000 in
set_option maxHeartbeats 2000000 in
theorem donate5_ {bx b8 : Nat} {amount v0 v1 v3 : Int} {a2 : Option Addr} {n2 c2 : Nat} (hS : Sat w0 (pc bx 49 (elC ⟨v0, v1, a2, n2, c2, v3⟩) * (pc b8 22 [vu amount] * (F))) w) (hw : 0 ≤ v0 + amount ∧ v0 + amount ≤ 18446744073709551615) :
    Calls Try.prog 70 #[vp bx, vp b8] w fun e w' => e = .returned (vi (if 4294967296 < v0 + amount then 6 else 0)) ∧ Sat w0 (pc bx 49 (elC ⟨v0, v1, a2, n2, c2, v3⟩) * (pc b8 22 [vu amount] * (F))) w' := by
  have k0 := (hS).cell 0 rfl; have k1 := (hS).cell 1 rfl; have k2 := (hS).cell 2 rfl; have k3 := (hS).cell 3 rfl; have k4 := (hS).dropL.cell 0 rfl
  have hwr : IntKind.u64.wrap (v0 + amount) = v0 + amount := IntWalk.u64_in _ (by omega)
  have HS := Lib.hid hS
  have HW1 := Lib.hid (fun n w => cx_when_t n w)
  have HW0 := Lib.hid (fun n w => cx_when_f n w)
  clear hS hw
  by_cases h1 : 4294967296 < v0 + amount
  · rw [if_pos h1]
    go_enter Try.func70, Try.ntmps70
    go_wp2_with (go_at_call 68; refine (HW1.out _ _).mono ?_; rintro e w' ⟨rfl, rfl⟩)
    go_ret
    exact ⟨rfl, HS.out⟩
  · rw [if_neg h1]
    go_enter Try.func70, Try.ntmps70
    go_wp2_with (go_at_call 68; refine (HW0.out _ _).mono ?_; rintro e w' ⟨rfl, rfl⟩)
    go_ret
    exact ⟨rfl, HS.out⟩
theorem isAt_setP {i g j t : Int} (y : El) : (isAt (setP ps j t y) i g).map (·.1) = (isAt ps i g).map (·.1) := by
  unfold setP
  cases hJ : isAt ps j t with
  | none => rfl
  | some kb =>
    obtain ⟨k, b⟩ := kb
    obtain ⟨h1, h2, h3, h4⟩ := isAt_some hJ
    dsimp only
    by_cases hi : i < 0
    · unfold isAt
      rw [if_pos hi, if_pos hi]
    · unfold isAt
      rw [if_neg hi, if_neg hi]
      by_cases hk : k = i.toNat
      · subst hk
        rw [get_set_self h1, h1]
        dsimp only
        by_cases hc : (b.there && b.gen == g) = true
        · rw [if_pos hc, if_pos hc]
          rfl
        · rw [if_neg hc, if_neg hc]
      · rw [List.getElem?_set_ne hk]
theorem getE_setP {i g j t : Int} (y : El) : getE (setP ps j t y) i g = getE ps i g := by
  have h := isAt_setP (ps := ps) (i := i) (g := g) (j := j) (t := t) y
  unfold getE
  cases h1 : isAt (setP ps j t y) i g with
  | none =>
    rw [h1] at h
    cases h2 : isAt ps i g with
    | none => rfl
    | some x => rw [h2] at h; cases h
  | some x =>
    rw [h1] at h
    cases h2 : isAt ps i g with
    | none => rw [h2] at h; cases h
    | some x => rfl
/-- What Donate says ahead of giving. -/
def donC (e1 e2 : Int) (same : Prop) [Decidable same] (b : Int) (l : List Rf) (b2 amount now : Int) : Int :=
  firstE [e1, e2, if same then 2 else 0, partC b l amount now, if 4294967296 < b2 + amount then 6 else 0]
end
end Go.Proofs.Ytknodagcmachiaa.Cn
