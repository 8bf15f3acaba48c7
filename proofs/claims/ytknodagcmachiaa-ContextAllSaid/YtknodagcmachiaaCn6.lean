/-
  Package context: part, copied, pull. No statement is proved here.
-/
import Derived.Test.YtknodagcmachiaaMg9
namespace Go.Proofs.Ytknodagcmachiaa.Cn
open Go.RowKit Ac Fi
set_option linter.unusedVariables false
set_option linter.unusedSimpArgs false

section
variable {w0 w : World} {F : Hp} {h p : Nat} {most : Int} {ps : List Pl} {free : List Nat} {L : Blks} {l : List Rf}
theorem firstE_part (b : Int) (l : List Rf) (amount now : Int) : firstE [if amount = 0 ∨ 1152921504606846976 < now then 2 else 0, if b ≤ amount ∨ thereV l now < amount then 15 else 0] = partC b l amount now := by
  unfold partC
  by_cases h1 : amount = 0 ∨ 1152921504606846976 < now
  · rw [if_pos h1, if_pos h1, firstE, if_neg (by omega)]
  · rw [if_neg h1, if_neg h1, firstE, if_pos rfl]
    by_cases h2 : b ≤ amount ∨ thereV l now < amount
    · rw [if_pos h2, firstE, if_neg (by omega)]
    · rw [if_neg h2, firstE, if_pos rfl, firstE]
theorem Rd.of_pc {b : Nat} {T : TypeId} {xs : List Value} {n : Nat} {c : Nat} (h : Sat w0 (pc b T xs * F) w) (hn : xs.length = n) : Rd w 1 (.slice (some ⟨b, 0, none⟩) n c) n xs :=
  ⟨by omega, .inr ⟨b, 0, c, rfl, fun j u hj => by rw [Nat.zero_add]; exact h.cell j hj⟩⟩
set_option maxRecDepth 100000 in
set_option maxHeartbeats 2000000 in
theorem cx_part {amount now v0 v1 v3 : Int} {a2 : Option Addr} {n2 c2 : Nat} (hS : Sat w0 (F) w) (hR : ∀ w', Sat w0 F w' → RdF w' (.slice a2 n2 c2) l) (hl : l.length ≤ 1000) :
    Calls Try.prog 42 #[ev ⟨v0, v1, a2, n2, c2, v3⟩, vu amount, vu now] w fun e w' => e = .returned (vi (partC v0 l amount now)) ∧ Sat w0 F w' := by
  have hA0 := (((hS.alloc (elO ⟨v0, v1, a2, n2, c2, v3⟩)).alloc (.cells #[vu amount] 22)).alloc (.cells #[vu now] 22))
  simp only [size1] at hA0
  have hA1 := hA0.alloc (.cells #[.func (.func 82) #[] #[vp (w.heap.size + 1), vp (w.heap.size + 2)], .func (.func 83) #[] #[vp (w.heap.size + 1), vp w.heap.size, vp (w.heap.size + 2)]] 101)
  simp only [size1] at hA1
  have hA : Sat w0 (pc (w.heap.size + 3) 101 [.func (.func 82) #[] #[vp (w.heap.size + 1), vp (w.heap.size + 2)], .func (.func 83) #[] #[vp (w.heap.size + 1), vp w.heap.size, vp (w.heap.size + 2)]] * (pc (w.heap.size + 2) 22 [vu now] * (pc (w.heap.size + 1) 22 [vu amount] * (pc w.heap.size 49 (elC ⟨v0, v1, a2, n2, c2, v3⟩) * (F))))) _ := hA1
  have hB := hA.cast (show _ = pc (w.heap.size + 3) 101 [.func (.func 82) #[] #[vp (w.heap.size + 1), vp (w.heap.size + 2)], .func (.func 83) #[] #[vp (w.heap.size + 1), vp w.heap.size, vp (w.heap.size + 2)]] * (pc w.heap.size 49 (elC ⟨v0, v1, a2, n2, c2, v3⟩) * (pc (w.heap.size + 1) 22 [vu amount] * (pc (w.heap.size + 2) 22 [vu now] * (F)))) by ac_rfl)
  have HB := Lib.hid hB
  have HR : Hid (Calls Try.prog 64 #[.slice (some ⟨w.heap.size + 3, 0, none⟩) 2 2] ((((w.alloc (elO ⟨v0, v1, a2, n2, c2, v3⟩)).alloc (.cells #[vu amount] 22)).alloc (.cells #[vu now] 22)).alloc (.cells #[.func (.func 82) #[] #[vp (w.heap.size + 1), vp (w.heap.size + 2)], .func (.func 83) #[] #[vp (w.heap.size + 1), vp w.heap.size, vp (w.heap.size + 2)]] 101)) fun e w' => e = .returned (vi (partC v0 l amount now)) ∧ Sat w0 (pc (w.heap.size + 3) 101 [.func (.func 82) #[] #[vp (w.heap.size + 1), vp (w.heap.size + 2)], .func (.func 83) #[] #[vp (w.heap.size + 1), vp w.heap.size, vp (w.heap.size + 2)]] * (pc w.heap.size 49 (elC ⟨v0, v1, a2, n2, c2, v3⟩) * (pc (w.heap.size + 1) 22 [vu amount] * (pc (w.heap.size + 2) 22 [vu now] * (F))))) w') := Lib.hid (by
    have := cx_refused [(82, [vp (w.heap.size + 1), vp (w.heap.size + 2)]), (83, [vp (w.heap.size + 1), vp w.heap.size, vp (w.heap.size + 2)])] [if amount = 0 ∨ 1152921504606846976 < now then 2 else 0, if v0 ≤ amount ∨ thereV l now < amount then 15 else 0] rfl (by simp) (w.heap.size + 3) 2 (pc (w.heap.size + 3) 101 [.func (.func 82) #[] #[vp (w.heap.size + 1), vp (w.heap.size + 2)], .func (.func 83) #[] #[vp (w.heap.size + 1), vp w.heap.size, vp (w.heap.size + 2)]] * (pc w.heap.size 49 (elC ⟨v0, v1, a2, n2, c2, v3⟩) * (pc (w.heap.size + 1) 22 [vu amount] * (pc (w.heap.size + 2) 22 [vu now] * (F))))) hB (by
        intro f hf args w2
        simp only [List.mem_cons, List.not_mem_nil, or_false] at hf
        rcases hf with rfl | rfl
        · exact enters_of Try.func82 (by kernel_rfl) rfl args w2
        · exact enters_of Try.func83 (by kernel_rfl) rfl args w2) (fun w2 h2 => Rd.of_pc h2 rfl) (by
        intro k f e hf he hj w2 h2
        rcases k with _ | _ | k
        · cases hf
          cases he
          exact (part1_ ((h2).cast (show _ = pc (w.heap.size + 1) 22 [vu amount] * (pc (w.heap.size + 2) 22 [vu now] * (pc (w.heap.size + 3) 101 [.func (.func 82) #[] #[vp (w.heap.size + 1), vp (w.heap.size + 2)], .func (.func 83) #[] #[vp (w.heap.size + 1), vp w.heap.size, vp (w.heap.size + 2)]] * (pc w.heap.size 49 (elC ⟨v0, v1, a2, n2, c2, v3⟩) * (F)))) by ac_rfl))).mono fun e w3 ⟨h3, h4⟩ => ⟨h3, (h4).cast (show _ = pc (w.heap.size + 3) 101 [.func (.func 82) #[] #[vp (w.heap.size + 1), vp (w.heap.size + 2)], .func (.func 83) #[] #[vp (w.heap.size + 1), vp w.heap.size, vp (w.heap.size + 2)]] * (pc w.heap.size 49 (elC ⟨v0, v1, a2, n2, c2, v3⟩) * (pc (w.heap.size + 1) 22 [vu amount] * (pc (w.heap.size + 2) 22 [vu now] * (F)))) by ac_rfl)⟩
        · cases hf
          cases he
          exact (part2_ ((h2).cast (show _ = pc (w.heap.size + 1) 22 [vu amount] * (pc w.heap.size 49 (elC ⟨v0, v1, a2, n2, c2, v3⟩) * (pc (w.heap.size + 2) 22 [vu now] * (pc (w.heap.size + 3) 101 [.func (.func 82) #[] #[vp (w.heap.size + 1), vp (w.heap.size + 2)], .func (.func 83) #[] #[vp (w.heap.size + 1), vp w.heap.size, vp (w.heap.size + 2)]] * (F)))) by ac_rfl)) (fun w4 h4 => hR w4 (h4.dropL.dropL.dropL.dropL)) hl).mono fun e w3 ⟨h3, h4⟩ => ⟨h3, (h4).cast (show _ = pc (w.heap.size + 3) 101 [.func (.func 82) #[] #[vp (w.heap.size + 1), vp (w.heap.size + 2)], .func (.func 83) #[] #[vp (w.heap.size + 1), vp w.heap.size, vp (w.heap.size + 2)]] * (pc w.heap.size 49 (elC ⟨v0, v1, a2, n2, c2, v3⟩) * (pc (w.heap.size + 1) 22 [vu amount] * (pc (w.heap.size + 2) 22 [vu now] * (F)))) by ac_rfl)⟩
        · simp at hf)
    rw [firstE_part] at this
    exact this)
  clear hS hR hA0 hA1 hA hB
  generalize partC v0 l amount now = rr at *
  go_enter Try.func42, Try.ntmps42
  go_wp2_with (go_at_call 64; refine HR.out.mono ?_; rintro e w3 ⟨rfl, hS3⟩; have H3 := Lib.hid hS3; clear hS3)
  go_ret
  exact ⟨rfl, H3.out.dropL.dropL.dropL.dropL⟩
set_option maxRecDepth 100000 in
set_option maxHeartbeats 2000000 in
theorem cx_copied {v0 v1 v3 : Int} {a2 : Option Addr} {n2 c2 : Nat} (hS : Sat w0 (F) w) (hR : ∀ w', Sat w0 F w' → RdF w' (.slice a2 n2 c2) l) (hl : l.length ≤ 1000) :
    Calls Try.prog 54 #[ev ⟨v0, v1, a2, n2, c2, v3⟩] w fun e w' => ∃ ao lc, e = .returned (ev ⟨v0, v1, ao, l.length, lc, v3⟩) ∧ Sat w0 (fiS (.slice ao l.length lc) l * F) w' := by
  have hA0 := (hS.alloc (elO ⟨v0, v1, a2, n2, c2, v3⟩)).alloc (elO ez)
  rw [size1] at hA0
  have hA : Sat w0 (pc (w.heap.size + 1) 49 (elC ez) * (pc w.heap.size 49 (elC ⟨v0, v1, a2, n2, c2, v3⟩) * (F))) _ := hA0
  have q2 := hA.pull2.cell 2 rfl
  have HA := Lib.hid hA
  have HR := Lib.hid hR
  clear hA hA0 hS hR
  go_enter Try.func54, Try.ntmps54
  go_wp2_with (first
    | (go_at_call 94; refine (clone_ (HR.out _ HA.out.dropL.dropL) (by omega)).mono ?_; rintro e w1 ⟨v1', rfl, hS1⟩; obtain ⟨ao, lc, rfl⟩ := hS1.sloForm; have h1 := (Sat.link HA.out hS1).cast (show _ = pc w.heap.size 49 (elC ⟨v0, v1, a2, n2, c2, v3⟩) * (pc (w.heap.size + 1) 49 (elC ez) * (fiS (.slice ao l.length lc) l * (F))) by ac_rfl); have h2 : Sat w0 (pc w.heap.size 49 (elC ⟨v0, v1, ao, l.length, lc, v3⟩) * (pc (w.heap.size + 1) 49 (elC ez) * (fiS (.slice ao l.length lc) l * (F)))) _ := h1.store 2 (.slice ao l.length lc); have fz := h1.free 2; have q0 := h2.cell 0 rfl; have q1 := h2.cell 1 rfl; have q3 := h2.cell 3 rfl; have H2 := Lib.hid h2.pull2; have fz := h1.free 2; have p0 := h1.cell 0 rfl; have p1 := h1.cell 1 rfl; have p2 := h1.cell 2 rfl; have p3 := h1.cell 3 rfl; clear hS1 h1 h2)
    | (refine wpList_store_mid rfl 49 _ _ rfl (w.heap.size + 1) 0 (elC ⟨v0, v1, ao, l.length, lc, v3⟩).toArray (by rfl) (by rfl) (Sat.thereN (n := 4) H2.out rfl) einfo (all_oneCell_toArray (elOne _)) ?_; have hs := Sat.rowAll H2.out (elC ⟨v0, v1, ao, l.length, lc, v3⟩) rfl; have HS := Lib.hid hs; clear hs; generalize World.setCells _ _ _ _ = w2 at *))
  refine bodyPost_ret (v := ev ⟨v0, v1, ao, l.length, lc, v3⟩) (results_row1 rfl _ _ _ rfl HS.out.rangeN Try.underlying49 rfl einfo) rfl ?_
  exact ⟨ao, lc, rfl, HS.out.dropL.dropL⟩
set_option maxRecDepth 100000 in
set_option maxHeartbeats 2000000 in
theorem cx_pull {now amount v0 v1 v3 : Int} {a2 : Option Addr} {n2 c2 : Nat} (hS : Sat w0 (plB L * F) w) (hi : InP L (.slice a2 n2 c2) l) (hl : l.length ≤ 1000) (ha : U64 amount) (hp : PuOk l amount) (hth : amount ≤ thereV l now) (hw : amount ≤ v0 ∧ v0 ≤ 18446744073709551615) (hok : OkL (lessL (dueL l now) amount)) :
    Calls Try.prog 43 #[ev ⟨v0, v1, a2, n2, c2, v3⟩, vu amount, vu now] w fun e w' => ∃ ao lc L2, e = .returned (ev ⟨v0 - amount, v1, ao, (lessL (dueL l now) amount).length, lc, v3⟩) ∧ (∀ x ∈ L, x ∈ L2) ∧ InP L2 (.slice ao (lessL (dueL l now) amount).length lc) (lessL (dueL l now) amount) ∧ Sat w0 (plB L2 * F) w' := by
  have hA0 := (hS.alloc (elO ⟨v0, v1, a2, n2, c2, v3⟩)).alloc (elO ez)
  rw [size1] at hA0
  have hA : Sat w0 (pc (w.heap.size + 1) 49 (elC ez) * (pc w.heap.size 49 (elC ⟨v0, v1, a2, n2, c2, v3⟩) * (plB L * (F)))) _ := hA0
  have q2 := hA.pull2.cell 2 rfl
  have HA := Lib.hid hA
  have HI := Lib.hid hi
  have HP : Hid (∀ w, RdF w (.slice a2 n2 c2) l → Calls Try.prog 84 #[.slice a2 n2 c2, vu now, vu amount] w fun e w' => ∃ v', e = .returned (.tuple #[v', vi 0]) ∧ Sat w (fiS v' (lessL (dueL l now) amount) * emp) w') := Lib.hid (fun w h => (pull_ (w := w) h hi.room hl ha hp).mono fun e w' hh => by
    unfold PullOut at hh
    rw [if_neg (by omega)] at hh
    exact hh)
  have hwr : IntKind.u64.wrap (v0 - amount) = v0 - amount := IntWalk.u64_in _ (by have := ha.1; omega)
  generalize lessL (dueL l now) amount = ln at *
  have HOK := Lib.hid hok
  clear hA hA0 hS hi hp hth hw ha hok
  go_enter Try.func43, Try.ntmps43
  go_wp2_with (first
    | (go_at_call 84; refine (HP.out _ (Sat.plRd ((HA.out).cast (show _ = plB L * (pc (w.heap.size + 1) 49 (elC ez) * (pc w.heap.size 49 (elC ⟨v0, v1, a2, n2, c2, v3⟩) * (F))) by ac_rfl)) HI.out)).mono ?_; rintro e w1 ⟨v1', rfl, hS1⟩; have h2 := (Sat.link HA.out hS1).cast (show _ = fiS v1' ln * (plB L * (pc w.heap.size 49 (elC ⟨v0, v1, a2, n2, c2, v3⟩) * (pc (w.heap.size + 1) 49 (elC ez) * (F)))) by ac_rfl); obtain ⟨L2, hsub, hin, h3⟩ := h2.plIn HOK.out; obtain ⟨ao, lc, rfl⟩ := hin.form; have HSUB := Lib.hid hsub; have HIN := Lib.hid hin; have h1 := (h3).cast (show _ = pc w.heap.size 49 (elC ⟨v0, v1, a2, n2, c2, v3⟩) * (plB L2 * (pc (w.heap.size + 1) 49 (elC ez) * (F))) by ac_rfl); have p0 := h1.cell 0 rfl; have p1 := h1.cell 1 rfl; have p2 := h1.cell 2 rfl; have p3 := h1.cell 3 rfl; have fz := h1.free 2; have fz0 := h1.free 0; have h4 : Sat w0 (pc w.heap.size 49 (elC ⟨v0, v1, ao, ln.length, lc, v3⟩) * (plB L2 * (pc (w.heap.size + 1) 49 (elC ez) * (F)))) _ := h1.store 2 (.slice ao ln.length lc); have h5 : Sat w0 (pc w.heap.size 49 (elC ⟨v0 - amount, v1, ao, ln.length, lc, v3⟩) * (plB L2 * (pc (w.heap.size + 1) 49 (elC ez) * (F)))) _ := h4.store 0 (vu (v0 - amount)); have fz3 := h4.free 0; have H2 := Lib.hid ((h5).cast (show _ = pc (w.heap.size + 1) 49 (elC ez) * (plB L2 * (pc w.heap.size 49 (elC ⟨v0 - amount, v1, ao, ln.length, lc, v3⟩) * (F))) by ac_rfl)); clear hS1 h1 h2 h3 h4 h5 hsub hin)
    | (refine wpList_store_mid rfl 49 _ _ rfl (w.heap.size + 1) 0 (elC ⟨v0 - amount, v1, ao, ln.length, lc, v3⟩).toArray (by rfl) (by rfl) (Sat.thereN (n := 4) H2.out rfl) einfo (all_oneCell_toArray (elOne _)) ?_; have hs := Sat.rowAll H2.out (elC ⟨v0 - amount, v1, ao, ln.length, lc, v3⟩) rfl; have HS := Lib.hid hs; clear hs; generalize World.setCells _ _ _ _ = w2 at *))
  refine bodyPost_ret (v := ev ⟨v0 - amount, v1, ao, ln.length, lc, v3⟩) (results_row1 rfl _ _ _ rfl HS.out.rangeN Try.underlying49 rfl einfo) rfl ?_
  exact ⟨ao, lc, L2, rfl, HSUB.out, HIN.out, ((HS.out.dropL).cast (show _ = plB L2 * (pc w.heap.size 49 (elC ⟨v0 - amount, v1, ao, ln.length, lc, v3⟩) * (F)) by ac_rfl)).drop2⟩
set_option maxRecDepth 100000 in
set_option maxHeartbeats 2000000 in
theorem cx_get (hS : Sat w0 (cxB h p most * (tblP p ps free * (plB L * (F)))) w) (i g : Int) (hi : InP L (.slice (getX ps i g).a2 (getX ps i g).n2 (getX ps i g).c2) l) (hl : l.length ≤ 1000) :
    Calls Try.prog 29 #[vp h, vr i g] w fun e w' => ∃ ao lc, e = .returned (.tuple #[ev ⟨(getX ps i g).v0, (getX ps i g).v1, ao, l.length, lc, (getX ps i g).v3⟩, vi (getE ps i g)]) ∧ Sat w0 (fiS (.slice ao l.length lc) l * (cxB h p most * (tblP p ps free * (plB L * (F))))) w' := by
  have hB0 := (hS.alloc (.cells #[vi i, vu g] 30)).alloc (elO ez)
  rw [size1] at hB0
  have hB1 : Sat w0 (pc (w.heap.size + 1) 49 (elC ez) * (pc w.heap.size 30 [vi i, vu g] * (cxB h p most * (tblP p ps free * (plB L * (F)))))) ((w.alloc (.cells #[vi i, vu g] 30)).alloc (elO ez)) := hB0
  have b0 := hB1.pull2.cell 0 rfl
  have b1 := hB1.pull2.cell 1 rfl
  have hB := (hB1).cast (show _ = cxB h p most * (tblP p ps free * (pc (w.heap.size + 1) 49 (elC ez) * (pc w.heap.size 30 [vi i, vu g] * (plB L * (F))))) by ac_rfl)
  have HG := Lib.hid (cx_find hB i g)
  have HI := Lib.hid hi
  clear hB hB0 hB1 hS hi
  generalize getE ps i g = er at *
  generalize getX ps i g = x at *
  obtain ⟨v0, v1, a2, n2, c2, v3⟩ := x
  go_enter Try.func29, Try.ntmps29
  go_wp2_with (first
    | (go_at_call 38; refine HG.out.mono ?_; rintro e w1 ⟨rfl, hS1⟩; have HS1 := Lib.hid hS1; have hA : Sat w0 (pc w1.heap.size 49 (elC ⟨v0, v1, a2, n2, c2, v3⟩) * _) (w1.alloc (elO ⟨v0, v1, a2, n2, c2, v3⟩)) := hS1.alloc (elO ⟨v0, v1, a2, n2, c2, v3⟩); have H1 := Lib.hid hA; have hx0 := hA.cell 0 rfl; have hx1 := hA.cell 1 rfl; have hx2 := hA.cell 2 rfl; have hx3 := hA.cell 3 rfl; clear hA hS1)
    | (go_at_call 54; refine (cx_copied (v0 := v0) (v1 := v1) (v3 := v3) (a2 := a2) (n2 := n2) (c2 := c2) H1.out (fun w' h' => Sat.plRd ((h').cast (show _ = plB L * (pc w1.heap.size 49 (elC ⟨v0, v1, a2, n2, c2, v3⟩) * (pc (w.heap.size + 1) 49 (elC ez) * (pc w.heap.size 30 [vi i, vu g] * (cxB h p most * (tblP p ps free * (F)))))) by ac_rfl)) HI.out) hl).mono ?_; rintro e w2 ⟨ao, lc, rfl, hS2⟩; have H2 := Lib.hid ((hS2).cast (show _ = pc (w.heap.size + 1) 49 (elC ez) * (pc w1.heap.size 49 (elC ⟨v0, v1, a2, n2, c2, v3⟩) * (pc w.heap.size 30 [vi i, vu g] * (fiS (.slice ao l.length lc) l * (cxB h p most * (tblP p ps free * (plB L * (F))))))) by ac_rfl)); clear hS2)
    | (refine wpList_store_mid rfl 49 _ _ rfl (w.heap.size + 1) 0 (elC ⟨v0, v1, ao, l.length, lc, v3⟩).toArray (by rfl) (by rfl) (Sat.thereN (n := 4) H2.out rfl) einfo (all_oneCell_toArray (elOne _)) ?_; have hs := Sat.rowAll H2.out (elC ⟨v0, v1, ao, l.length, lc, v3⟩) rfl; have HS := Lib.hid hs; clear hs; generalize World.setCells _ _ _ _ = w3 at *))
  refine bodyPost_ret (v := .tuple #[ev ⟨v0, v1, ao, l.length, lc, v3⟩, vi er]) (results_row rfl _ _ _ rfl rfl HS.out.rangeN Try.underlying49 rfl einfo) rfl ?_
  exact ⟨ao, lc, rfl, HS.out.dropL.dropL.dropL⟩
end
end Go.Proofs.Ytknodagcmachiaa.Cn
