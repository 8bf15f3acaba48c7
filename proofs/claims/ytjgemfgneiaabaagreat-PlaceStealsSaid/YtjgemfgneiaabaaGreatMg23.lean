/-
  The reference's global queue: Put. No statement is proved here.
-/
import Derived.Test.YtjgemfgneiaabaaGreatMg12
namespace Go.Proofs.YtjgemfgneiaabaaGreat.Pc
open Go.RowKit Rq Gq
set_option linter.unusedVariables false
set_option linter.unusedSimpArgs false

/-- The reference's global queue: its block. -/
abbrev rgB (q : Nat) (vL : Value) : Hp := pc q 67 [vL]
section
variable {w0 w : World} {F : Hp} {q : Nat} {vL v : Value} {gx ys : List Int}
set_option maxRecDepth 100000 in
theorem rg_put (h : Sat w0 (rgB q vL * (rs 3 vL (gx.map vi) * F)) w) (hA : ∀ w', Sat w0 F w' → RdI w' v ys) (hl : gx.length + ys.length ≤ 1000000) :
    Calls Tryz.prog 25 #[vp q, v] w fun e w' => ∃ vL', e = .returned (.tuple #[]) ∧ Sat w0 (rgB q vL' * (rs 3 vL' ((gx ++ ys).map vi) * F)) w' := by
  have hR : RdI w vL gx := by
    have := h.pull2.rsRd
    rw [List.length_map] at this
    exact this
  obtain ⟨ao, cap, rfl⟩ := hR.len
  obtain ⟨ay, cay, rfl⟩ := (hA _ h.dropL.dropL).len
  have c0 := h.cell 0 rfl
  have hR' := Lib.hid hR
  have hS' := Lib.hid h
  have hA' := Lib.hid hA
  clear h hR hA
  go_enter Tryz.func25, Tryz.ntmps25
  go_wp2_with (first | (at_builtin; refine wpList_append_sl Einti rfl (.const (.slice none 0 0)) (.tmp 8) rfl rfl (hS'.out.addNil 3 1) (by rfl) hR'.out (by simp [Value.oneCell']) (by unfold maxLen; omega) (by omega) ?_; intro ao1 cap1 w1 hS1; simp only [Nat.zero_add, List.nil_append] at hS1) | (at_builtin; refine wpList_append_sl Einti rfl (.tmp 9) (.tmp 10) rfl rfl hS1 (by rfl) (hA'.out _ hS1.dropL.dropL.dropL) (by simp [Value.oneCell']) (by unfold maxLen; omega) (by omega) ?_; intro ao2 cap2 w2 hS2; have d2 := (hS2.dropL).cell 0 rfl; have f2 := hS2.dropL.free 0))
  go_end0
  have h3 := (hS2.pull2.store 0 (.slice ao2 (gx.length + ys.length) cap2)).drop3
  have h4 := h3.in2 Sat.rsOfSl
  exact ⟨.slice ao2 (gx.length + ys.length) cap2, rfl, h4.cast (by simp)⟩
end
end Go.Proofs.YtjgemfgneiaabaaGreat.Pc

namespace Go.Proofs.YtjgemfgneiaabaaGreat.Pc
open Go.RowKit Rq Gq
set_option linter.unusedVariables false
set_option linter.unusedSimpArgs false

section
variable {w0 w : World} {F : Hp} {q : Nat} {vL v : Value} {gx ys : List Int}
set_option maxRecDepth 100000 in
set_option maxHeartbeats 2000000 in
theorem rg_remove (h : Sat w0 (rgB q vL * (rs 3 vL (gx.map vi) * F)) w) (hl : gx.length ≤ 4096) (g : Int) :
    Calls Tryz.prog 84 #[vp q, vi g] w fun e w' => ∃ vL', e = .returned (.bool (decide (g ∈ gx))) ∧ Sat w0 (rgB q vL' * (rs 3 vL' ((gx.erase g).map vi) * F)) w' := by
  have c0 := h.cell 0 rfl
  have hf := h.free 0
  have HL := Lib.hid (ref_find g _ _ w (rsRdI h.pull2) (by omega))
  have hg : 0 ≤ findI gx g → _ := findI_erase (xs := gx) (x := g)
  have hb := findI_le gx g
  by_cases hmem : g ∈ gx
  · have h0 := find_yes hmem
    obtain ⟨he, hk⟩ := hg h0
    obtain ⟨k, hk2⟩ := Int.eq_ofNat_of_zero_le h0
    rw [hk2] at HL he hk
    simp only [Int.toNat_natCast] at he hk
    obtain ⟨ao, cap, rfl⟩ := (rsRdI h.pull2).len
    have hcap : ∀ ao' n cap', (.slice ao gx.length cap : Value) = .slice ao' n cap' → n ≤ cap' ∧ cap' ≤ maxLen := by
      intro ao' n cap' e
      rcases h.pull2.rsE with ⟨hv, _, _⟩ | ⟨g', off, c, cur, hv, h1, h2, _⟩
      · rw [hv] at e
        cases e
        exact ⟨Nat.le_refl _, Nat.zero_le _⟩
      · rw [hv] at e
        cases e
        exact ⟨h1, h2⟩
    have hcut := Lib.hid (ref_cut h (fun w' h' => rsRdI h'.pull2) (by omega) hcap k hk)
    rw [decide_eq_true hmem, ← he]
    clear h hg hb hmem h0 hk2 he hcap
    go_enter Tryz.func84, Tryz.ntmps84
    go_wp2_with (first
      | (go_at_call 78; (with_reducible refine HL.out.mono ?_); rintro e w' ⟨rfl, rfl⟩)
      | (go_at_call 106; refine hcut.out.mono ?_; rintro e w1 ⟨v1, rfl, hS1⟩; obtain ⟨ao1, cap1, rfl⟩ := hS1.rd.len; have d0 := hS1.pull2.cell 0 rfl; have f1 := hS1.pull2.free 0; have H1 := Lib.hid hS1; clear hS1))
    go_ret
    have h3 := ((H1.out.pull2.store 0 (.slice ao1 (gx.eraseIdx k).length cap1)).drop3).in2 Sat.rsOfSl
    exact ⟨_, rfl, h3⟩
  · rw [find_not hmem] at HL
    rw [decide_eq_false hmem, List.erase_of_not_mem hmem]
    have H := Lib.hid h
    clear h hg hb hmem
    go_enter Tryz.func84, Tryz.ntmps84
    go_wp2_with (first
      | (go_at_call 78; (with_reducible refine HL.out.mono ?_); rintro e w' ⟨rfl, rfl⟩))
    go_ret
    exact ⟨_, rfl, H.out⟩
end
end Go.Proofs.YtjgemfgneiaabaaGreat.Pc

namespace Go.Proofs.YtjgemfgneiaabaaGreat.Pc
open Go.RowKit Rq Gq
set_option linter.unusedVariables false
set_option linter.unusedSimpArgs false

theorem find_hit (f : Int → Bool) : ∀ (l : List Int) (k : Nat), k < l.length → (∀ j, j < k → f (l[j]?.getD 0) = false) → f (l[k]?.getD 0) = true → l.find? f = some (l[k]?.getD 0) ∧ l.eraseP f = l.eraseIdx k
  | [], k, h, _, _ => by simp at h
  | x :: l, 0, _, _, h => by
    simp only [List.getElem?_cons_zero, Option.getD_some] at h ⊢
    simp [List.find?_cons, h]
  | x :: l, k + 1, hk, hn, h => by
    have h0 := hn 0 (by omega)
    simp only [List.getElem?_cons_zero, Option.getD_some] at h0
    simp only [List.getElem?_cons_succ] at h ⊢
    have := find_hit f l k (by simpa using hk) (fun j hj => by simpa using hn (j + 1) (by omega)) h
    rw [List.find?_cons_of_neg (by simp [h0]), List.eraseP_cons_of_neg (by simp [h0]), List.eraseIdx_cons_succ]
    exact ⟨this.1, by rw [this.2]⟩
theorem find_miss (f : Int → Bool) (l : List Int) (h : ∀ j, j < l.length → f (l[j]?.getD 0) = false) : l.find? f = none ∧ l.eraseP f = l := by
  have h2 : ∀ x ∈ l, f x = false := fun x hx => by
    obtain ⟨j, hj, rfl⟩ := List.mem_iff_getElem.1 hx
    have := h j hj
    rwa [List.getElem?_eq_getElem hj] at this
  exact ⟨List.find?_eq_none.2 fun x hx => by simp [h2 x hx], List.eraseP_of_forall_not fun x hx => by simp [h2 x hx]⟩
section
variable {w0 w : World} {F : Hp} {q : Nat} {vL v : Value} {gx ys : List Int}
set_option maxRecDepth 100000 in
set_option maxHeartbeats 2000000 in
theorem rg_take (h : Sat w0 (rgB q vL * (rs 3 vL (gx.map vi) * F)) w) (hl : gx.length ≤ 4096) (p : Int) {af : List Nat} (hA : RdA w v af) :
    Calls Tryz.prog 88 #[vp q, vi p, v] w fun e w' => ∃ vL' u, e = .returned u ∧ RdI w' u (gx.find? (mayG af p)).toList ∧ Sat w0 (rgB q vL' * (rs 3 vL' ((gx.eraseP (mayG af p)).map vi) * F)) w' := by
  have hR := rsRdI h.pull2
  obtain ⟨ao, cap, rfl⟩ := hR.len
  obtain ⟨ay, cay, rfl⟩ := hA.1.len
  have c0 := h.cell 0 rfl
  have HM := Lib.hid (fun g : Int => r_may (g := g) (p := p) hA)
  have hcap : ∀ ao' n cap', (.slice ao gx.length cap : Value) = .slice ao' n cap' → n ≤ cap' ∧ cap' ≤ maxLen := by
    intro ao' n cap' e
    rcases h.pull2.rsE with ⟨hv, _, _⟩ | ⟨g', off, c, cur, hv, h1, h2, _⟩
    · rw [hv] at e
      cases e
      exact ⟨Nat.le_refl _, Nat.zero_le _⟩
    · rw [hv] at e
      cases e
      exact ⟨h1, h2⟩
  have HC := Lib.hid (fun (k : Nat) (hk : k < gx.length) => ref_cut h (fun w' h' => rsRdI h'.pull2) (by omega) hcap k hk)
  have H := Lib.hid h
  clear h hA hcap
  generalize mayG af p = f at *
  go_enter Tryz.func88, Tryz.ntmps88
  go_wp2
  go_loop [7] (fun i => ∃ k : Nat, k ≤ gx.length ∧ i = vi k ∧ Hid (∀ j, j < k → f (gx[j]?.getD 0) = false)) (fun i => gx.length - (intOf i).toNat)
  case atStart => exact ⟨0, Nat.zero_le _, rfl, Lib.hid (fun j hj => by omega)⟩
  case round =>
    obtain ⟨k, hk, rfl, hno⟩ := hrel
    by_cases hlt : k < gx.length
    · obtain ⟨b, off, rfl, hc⟩ := hR.at_ (by omega)
      have hck := hc k hlt
      clear hc
      have hcut := Lib.hid (HC.out k hlt)
      have hhit := Lib.hid (find_hit f gx k hlt hno.out)
      have hnx : Hid (f (gx[k]?.getD 0) = false → ∀ j, j < k + 1 → f (gx[j]?.getD 0) = false) := Lib.hid fun hf j hj => by
        rcases Nat.lt_or_ge j k with h1 | h1
        · exact hno.out j h1
        · obtain rfl : j = k := by omega
          exact hf
      generalize gx[k]?.getD 0 = y at *
      have hm := HM.out y
      cases hf : f y with
      | true =>
        rw [hf] at hm
        have hm := Lib.hid hm
        go_wp2_with (first
          | (go_at_call 103; refine hm.out.mono ?_; rintro e w' ⟨rfl, rfl⟩)
          | (go_at_call 106; refine hcut.out.mono ?_; rintro e w1 ⟨v1, rfl, hS1⟩; obtain ⟨ao1, cap1, rfl⟩ := hS1.rd.len; have d0 := hS1.pull2.cell 0 rfl; have f1 := hS1.pull2.free 0; have H1 := Lib.hid hS1; clear hS1))
        go_ret
        have h3 := ((H1.out.pull2.store 0 (.slice ao1 (gx.eraseIdx k).length cap1)).drop3).in2 Sat.rsOfSl
        rw [(hhit.out hf).1, (hhit.out hf).2]
        exact ⟨_, _, rfl, rdI_one _ _ y (by simp), (h3.alloc (.cells #[vi y] 3)).dropL⟩
      | false =>
        rw [hf] at hm
        have hm := Lib.hid hm
        go_wp2_with (go_at_call 103; refine hm.out.mono ?_; rintro e w' ⟨rfl, rfl⟩)
        go_round
        case rel => exact ⟨k + 1, by omega, by go_num, Lib.hid (hnx.out hf)⟩
        case measure => simp [intOf]; omega
    · obtain rfl : k = gx.length := by omega
      have hm := Lib.hid (find_miss f gx hno.out)
      go_wp2
      go_ret
      exact ⟨_, _, rfl, by rw [hm.out.1]; exact Rd.nil _ _, by rw [hm.out.2]; exact H.out⟩
end
end Go.Proofs.YtjgemfgneiaabaaGreat.Pc

namespace Go.Proofs.YtjgemfgneiaabaaGreat.Pc
open Go.RowKit Rq Gq
set_option linter.unusedVariables false

/-- Where all lies in the reference: the places, the global queue, the array of Ps and its room; each P's queue; how many Ps, and a ring's room. -/
structure Ar where
  s : Nat
  a : Nat
  sb : Nat
  cap : Nat
  q : Nat → Nat
  n : Nat
  m : Nat
abbrev Ar.v (D : Ar) : Value := .slice (some ⟨D.sb, 0, none⟩) D.n D.cap
def rowR (D : Ar) (vR : Nat → Value) (p : Nat → Pl) (i : Nat) : List Value := [vp (D.q i), vR i, vi (p i).left, vu (p i).turns]
def oneR (D : Ar) (vR : Nat → Value) (p : Nat → Pl) (i : Nat) : Hp := refQ (D.q i) D.m (p i).xs (p i).z (p i).b * rs 3 (vR i) ((nsOf (p i).g (p i).runs).map vi)
def prO (D : Ar) (vG : Value) (vR : Nat → Value) (p : Nat → Pl) (gx : List Int) : Hp := pc D.s 70 [D.v, vp D.a] * (sl 74 4 D.v D.n (rowsN (rowR D vR p) D.n) * (rgB D.a vG * (rs 3 vG (gx.map vi) * star (oneR D vR p) D.n)))
/-- The reference's places, whole. -/
def prB (D : Ar) (p : Nat → Pl) (gx : List Int) : Hp := ex fun u : Value × (Nat → Value) => prO D u.1 u.2 p gx
theorem rowR_len (D : Ar) (vR : Nat → Value) (p : Nat → Pl) : ∀ i, (rowR D vR p i).length = 4 := fun _ => rfl
section
variable {w0 w : World} {F : Hp} {D : Ar} {p : Nat → Pl} {gx : List Int} {k : Nat} {vG : Value} {vR : Nat → Value}
theorem pr_open (h : Sat w0 (prB D p gx * F) w) : ∃ vG vR, Sat w0 (prO D vG vR p gx * F) w := by
  obtain ⟨u, hu⟩ := h.exE
  exact ⟨u.1, u.2, hu⟩
theorem pr_shut (h : Sat w0 (prO D vG vR p gx * F) w) : Sat w0 (prB D p gx * F) w := Sat.exI (f := fun u : Value × (Nat → Value) => prO D u.1 u.2 p gx) (vG, vR) h
theorem pr_head (h : Sat w0 (prO D vG vR p gx * F) w) : Sat w0 (pc D.s 70 [D.v, vp D.a] * (sl 74 4 D.v D.n (rowsN (rowR D vR p) D.n) * (rgB D.a vG * (rs 3 vG (gx.map vi) * (star (oneR D vR p) D.n * F))))) w := h.cast (by unfold prO; ac_rfl)
theorem pr_tail (h : Sat w0 (pc D.s 70 [D.v, vp D.a] * (sl 74 4 D.v D.n (rowsN (rowR D vR p) D.n) * (rgB D.a vG * (rs 3 vG (gx.map vi) * (star (oneR D vR p) D.n * F))))) w) : Sat w0 (prO D vG vR p gx * F) w := h.cast (by unfold prO; ac_rfl)
/-- All but the global queue; it is taken out, and put back. -/
def prY (D : Ar) (vR : Nat → Value) (p : Nat → Pl) : Hp := pc D.s 70 [D.v, vp D.a] * (sl 74 4 D.v D.n (rowsN (rowR D vR p) D.n) * star (oneR D vR p) D.n)
theorem pr_glob (h : Sat w0 (prO D vG vR p gx * F) w) : Sat w0 (rgB D.a vG * (rs 3 vG (gx.map vi) * (prY D vR p * F))) w := h.cast (by unfold prO prY; ac_rfl)
theorem pr_globI (h : Sat w0 (rgB D.a vG * (rs 3 vG (gx.map vi) * (prY D vR p * F))) w) : Sat w0 (prO D vG vR p gx * F) w := h.cast (by unfold prO prY; ac_rfl)
/-- All but the k-th P's queue. -/
def prX (D : Ar) (vG : Value) (vR : Nat → Value) (p : Nat → Pl) (gx : List Int) (k : Nat) : Hp := pc D.s 70 [D.v, vp D.a] * (sl 74 4 D.v D.n (rowsN (rowR D vR p) D.n) * (rgB D.a vG * (rs 3 vG (gx.map vi) * (rs 3 (vR k) ((nsOf (p k).g (p k).runs).map vi) * starx (oneR D vR p) D.n k))))
theorem pr_out (h : Sat w0 (prO D vG vR p gx * F) w) (hk : k < D.n) : Sat w0 (refQ (D.q k) D.m (p k).xs (p k).z (p k).b * (prX D vG vR p gx k * F)) w := h.cast (by
  unfold prO prX
  rw [star_at _ hk]
  show _ = refQ (D.q k) D.m (p k).xs (p k).z (p k).b * _
  rw [show oneR D vR p k = refQ (D.q k) D.m (p k).xs (p k).z (p k).b * rs 3 (vR k) ((nsOf (p k).g (p k).runs).map vi) from rfl]
  ac_rfl)
/-- The k-th P's queue is put back, turned; its row is as it was. -/
theorem pr_in {y : Pl} (h : Sat w0 (refQ (D.q k) D.m y.xs y.z y.b * (prX D vG vR p gx k * F)) w) (hk : k < D.n) (h1 : y.g = (p k).g) (h2 : y.runs = (p k).runs) (h3 : y.left = (p k).left) (h4 : y.turns = (p k).turns) : Sat w0 (prO D vG vR (up p k y) gx * F) w := h.cast (by
  have e1 : rowsN (rowR D vR (up p k y)) D.n = rowsN (rowR D vR p) D.n := rowsN_congr fun i _ => by
    by_cases hi : i = k
    · subst hi
      unfold rowR
      rw [up_at, h3, h4]
    · unfold rowR
      rw [up_ne _ _ hi]
  have e2 : starx (oneR D vR (up p k y)) D.n k = starx (oneR D vR p) D.n k := starx_congr fun i hi => by unfold oneR; rw [up_ne _ _ hi]
  unfold prO prX
  rw [star_at _ hk, e1, e2]
  rw [show oneR D vR (up p k y) k = refQ (D.q k) D.m y.xs y.z y.b * rs 3 (vR k) ((nsOf (p k).g (p k).runs).map vi) by unfold oneR; rw [up_at, h1, h2]]
  ac_rfl)
theorem pr_cells (h : Sat w0 (prO D vG vR p gx * F) w) : w.cell? ⟨D.s, 0, none⟩ = some D.v ∧ w.cell? ⟨D.s, 1, none⟩ = some (vp D.a) := ⟨(pr_head h).cell 0 rfl, (pr_head h).cell 1 rfl⟩
theorem pr_row (h : Sat w0 (prO D vG vR p gx * F) w) (hk : k < D.n) : w.cell? ⟨D.sb, k * 4, none⟩ = some (vp (D.q k)) ∧ w.cell? ⟨D.sb, k * 4 + 1, none⟩ = some (vR k) ∧ w.cell? ⟨D.sb, k * 4 + 2, none⟩ = some (vi (p k).left) ∧ w.cell? ⟨D.sb, k * 4 + 3, none⟩ = some (vu (p k).turns) :=
  ⟨(pr_head h).pull2.slCell (k * 4 + 0) (rowsN_at (rowR_len D vR p) hk rfl), (pr_head h).pull2.slCell (k * 4 + 1) (rowsN_at (rowR_len D vR p) hk rfl), (pr_head h).pull2.slCell (k * 4 + 2) (rowsN_at (rowR_len D vR p) hk rfl), (pr_head h).pull2.slCell (k * 4 + 3) (rowsN_at (rowR_len D vR p) hk rfl)⟩
theorem pr_free (h : Sat w0 (prO D vG vR p gx * F) w) (i : Nat) : w.frozen? ⟨D.sb, i, none⟩ = false := (pr_head h).pull2.slFree i
end
end Go.Proofs.YtjgemfgneiaabaaGreat.Pc
