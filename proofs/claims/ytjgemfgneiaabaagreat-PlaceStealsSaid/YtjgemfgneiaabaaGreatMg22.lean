/-
  Chapter 19: each act of the program's places: who was there, with who comes, is who is there with who goes. No statement is proved here.
-/
import Derived.Test.YtjgemfgneiaabaaGreatMg21
import Derived.Test.YtjgemfgneiaabaaGreatMg19
import Derived.Test.YtjgemfgneiaabaaGreatMg20
namespace Go.Proofs.YtjgemfgneiaabaaGreat.Pc
open Go.RowKit Rq Gq Nu
set_option linter.unusedVariables false
set_option linter.unusedSimpArgs false

section
variable {w0 w : World} {F : Hp} {D : Ad} {p : Nat → Pl} {gx : List Int}
theorem pm_snoc {p p' : Nat → Pl} {n : Nat} {gx gx' A : List Int} (h : (allP p' n gx' ++ []).Perm (allP p n gx ++ A)) : (allP p' n gx').Perm (allP p n gx ++ A) := by rwa [List.append_nil] at h
theorem nth_in {s n : Nat} (hs : s < 256) (hn : n ≤ 8) (pick : Int) (hne : thereM s n ≠ []) : ∃ k : Nat, k < n ∧ nthI (s &&& maskN n) pick = k := by
  have hm0 : 0 < (thereM s n).length := List.length_pos_iff.2 hne
  obtain ⟨e1, e2, _, _⟩ := atR_lt hm0 pick
  have hlt : atR (thereM s n).length pick < (thereM s n).length := by unfold atR; omega
  have hmem : (thereM s n)[atR (thereM s n).length pick] ∈ thereM s n := List.getElem_mem hlt
  generalize hx : (thereM s n)[atR (thereM s n).length pick] = x at hmem
  unfold thereM thereP at hmem
  rw [List.mem_filter, List.mem_range] at hmem
  obtain ⟨h8, hb⟩ := hmem
  refine ⟨x, ?_, ?_⟩
  · unfold hasB at hb
    simp only [Bool.and_eq_true] at hb
    have h9 := mask_has ⟨n, by omega⟩ ⟨x, h8⟩ ⟨s, hs⟩
    dsimp only at h9
    rw [Int.toNat_natCast] at hb
    rw [hb.2] at h9
    have := h9.symm
    simp only [Bool.and_eq_true, decide_eq_true_eq] at this
    exact this.2
  · show (((thereM s n)[atR (thereM s n).length pick]?.getD 0 : Nat) : Int) = x
    rw [List.getElem?_eq_getElem hlt, hx]
    rfl
theorem o_put (h : Sat w0 (plB D p gx * F) w) (ho : D.Ok) (g : Int) {s : Nat} (hs : s < 256) (by_ pick : Int) (hl : gx.length ≤ 990000) :
    Calls Tryz.prog 11 #[vp D.s, vi g, .int .u8 s, vi by_, vi pick] w fun e w' => e = .returned (.tuple #[]) ∧ ∃ p' gx', (allP p' D.n gx').Perm (allP p D.n gx ++ [g]) ∧ gx'.length ≤ gx.length + 1000 ∧ Sat w0 (plB D p' gx' * F) w' := by
  have hm := ho.m32
  have ring : ∀ k : Nat, k < D.n → (∀ w', Sat w0 (plB D (up p k (putY D.m (p k) g)) (gx ++ spillL D.m (p k).xs g) * F) w' → ∃ p' gx', (allP p' D.n gx').Perm (allP p D.n gx ++ [g]) ∧ gx'.length ≤ gx.length + 1000 ∧ Sat w0 (plB D p' gx' * F) w') := fun k hk w' h' => by
    have hsl := spill_len (m := D.m) (xs := (p k).xs) g
    exact ⟨_, _, pm_snoc (all_up hk (put_all gx)), by rw [List.length_append]; omega, h'⟩
  cases hby : inP D.n by_ with
  | true =>
    obtain ⟨k, rfl, hk⟩ := inP_yes hby
    cases hb : hasB s k with
    | true =>
      have hsl := nextS_len (m := D.m) (xs := (p k).xs) (z := (p k).z) (b := (p k).b)
      exact (pl_put_next h ho g hs k hk hb pick (by omega)).mono fun e w' hh => ⟨hh.1, _, _, pm_snoc (all_up hk (next_all gx)), by rw [List.length_append]; omega, hh.2⟩
    | false =>
      by_cases hne : thereM s D.n = []
      · exact (pl_put_all_in h ho g hs k pick hby hb hne (by omega)).mono fun e w' hh => ⟨hh.1, _, _, by unfold allP; rw [List.append_assoc], by simp, hh.2⟩
      · obtain ⟨j, hj, hjk⟩ := nth_in hs ho.n8 pick hne
        exact (pl_put_ring_in h ho g hs k pick hby hb j hj hne hjk (by omega)).mono fun e w' hh => ⟨hh.1, ring j hj w' hh.2⟩
  | false =>
    by_cases hne : thereM s D.n = []
    · exact (pl_put_all_out h ho g hs by_ pick hby hne (by omega)).mono fun e w' hh => ⟨hh.1, _, _, by unfold allP; rw [List.append_assoc], by simp, hh.2⟩
    · obtain ⟨j, hj, hjk⟩ := nth_in hs ho.n8 pick hne
      exact (pl_put_ring_out h ho g hs by_ pick hby j hj hne hjk (by omega)).mono fun e w' hh => ⟨hh.1, ring j hj w' hh.2⟩
theorem o_start (h : Sat w0 (plB D p gx * F) w) (ho : D.Ok) (k g left : Int) :
    Calls Tryz.prog 28 #[vp D.s, vi k, vi g, vi left] w fun e w' => ∃ c p', e = .returned (vi c) ∧ ((c == 0) = true ∧ (allP p' D.n gx).Perm (allP p D.n gx ++ [g]) ∨ (c == 0) = false ∧ p' = p) ∧ Sat w0 (plB D p' gx * F) w' := by
  cases hk : inP D.n k with
  | false => exact (pl_start_no h ho k hk g left).mono fun e w' hh => ⟨2, p, hh.1, .inr ⟨rfl, rfl⟩, hh.2 ▸ h⟩
  | true =>
    obtain ⟨j, rfl, hj⟩ := inP_yes hk
    by_cases hl : left < 0
    · exact (pl_start_neg h ho j hj g left hl).mono fun e w' hh => ⟨2, p, hh.1, .inr ⟨rfl, rfl⟩, hh.2 ▸ h⟩
    · cases hr : (p j).runs with
      | true => exact (pl_start_busy h ho j hj g left hl hr).mono fun e w' hh => ⟨14, p, hh.1, .inr ⟨rfl, rfl⟩, hh.2 ▸ h⟩
      | false => exact (pl_start_at h ho j hj g left hl hr).mono fun e w' hh => ⟨0, _, hh.1, .inl ⟨rfl, pm_snoc (all_up hj (start_all gx left hr))⟩, hh.2⟩
theorem o_remove (h : Sat w0 (plB D p gx * F) w) (ho : D.Ok) (g : Int) (hl : gx.length ≤ 990000) :
    Calls Tryz.prog 26 #[vp D.s, vi g] w fun e w' => ∃ p' gx' t, e = .returned (.bool t) ∧ (allP p' D.n gx' ++ if t = true then [g] else []).Perm (allP p D.n gx) ∧ gx'.length ≤ gx.length + 1000 ∧ Sat w0 (plB D p' gx' * F) w' := by
  refine (pl_remove h ho g (by omega)).mono fun e w' hh => ⟨rmP p D.n g, rmG p D.n gx g, rmH p D.n gx g, hh.1, ?_, ?_, hh.2⟩
  · unfold rmP rmG rmH
    cases hk : rmK p D.n g with
    | some k =>
      have hkn := List.mem_range.1 (List.mem_of_find?_eq_some hk)
      have hkh := List.find?_some (p := fun i : Nat => hasY (p i) g) (show (List.range D.n).find? _ = some k from hk)
      have := all_up hkn (rm_all (y := p k) (g := g) gx)
      rw [hkh, List.append_nil] at this
      exact this
    | none =>
      by_cases hg : g ∈ gx
      · simp only [hg, decide_true, if_true]
        unfold allP
        rw [List.append_assoc]
        exact List.Perm.append_left _ (List.perm_append_comm.trans (List.perm_cons_erase hg).symm)
      · rw [List.erase_of_not_mem hg]
        simp [hg]
  · unfold rmG
    split
    · omega
    · have := List.length_erase_le (l := gx) (a := g)
      omega
/-- A tuple that tells who goes. -/
theorem o_stop (h : Sat w0 (plB D p gx * F) w) (k : Int) :
    Calls Tryz.prog 33 #[vp D.s, vi k] w fun e w' => ∃ p' x t, e = .returned (.tuple #[vi x, .bool t]) ∧ (allP p' D.n gx ++ if t = true then [x] else []).Perm (allP p D.n gx) ∧ Sat w0 (plB D p' gx * F) w' := by
  cases hk : inP D.n k with
  | false => exact (pl_stop_no h k hk).mono fun e w' hh => ⟨p, 0, false, hh.1, by simp, hh.2 ▸ h⟩
  | true =>
    obtain ⟨j, rfl, hj⟩ := inP_yes hk
    refine (pl_stop_at h j hj).mono fun e w' hh => ⟨_, _, _, hh.1, ?_, hh.2⟩
    have := all_up hj (stop_all (y := p j) gx)
    rw [List.append_nil] at this
    refine List.Perm.trans ?_ this
    unfold runsG
    cases (p j).runs <;> exact List.Perm.refl _
theorem tkG_if (m : Nat) (y : Pl) : (if (!(takeG m y).isEmpty) = true then [(takeG m y).headD 0] else []) = takeG m y := by
  unfold takeG
  rcases tkG_cases (m := m) (xs := y.xs) (z := y.z) (b := y.b) (decide (0 < y.left)) with h | ⟨x, h⟩
  · rw [h]; rfl
  · rw [h]; rfl
theorem o_own (h : Sat w0 (plB D p gx * F) w) (ho : D.Ok) (k : Int) (hl : gx.length ≤ 990000) :
    Calls Tryz.prog 37 #[vp D.s, vi k] w fun e w' => ∃ p' gx' x nx t, e = .returned (.tuple #[vi x, .bool nx, .bool t]) ∧ (allP p' D.n gx' ++ if t = true then [x] else []).Perm (allP p D.n gx) ∧ gx'.length ≤ gx.length + 1000 ∧ Sat w0 (plB D p' gx' * F) w' := by
  cases hk : inP D.n k with
  | false => exact (pl_own_no h k hk).mono fun e w' hh => ⟨p, gx, 0, false, false, hh.1, by simp, by omega, hh.2 ▸ h⟩
  | true =>
    obtain ⟨j, rfl, hj⟩ := inP_yes hk
    have hsl : (takeS D.m (p j)).length ≤ 100 := by
      unfold takeS
      have := tkS_len (m := D.m) (xs := (p j).xs) (z := (p j).z) (b := (p j).b) (decide (0 < (p j).left))
      have h1 := (pl_ring h hj).1
      have h2 := ho.m32
      omega
    refine (pl_own_at h ho j hj (by omega)).mono fun e w' hh => ⟨_, _, _, _, _, hh.1, ?_, by rw [List.length_append]; omega, hh.2⟩
    have := all_up hj (take_all (m := D.m) (y := p j) gx)
    rw [List.append_nil] at this
    rw [tkG_if]
    exact this
theorem find_perm (f : Int → Bool) (gx : List Int) : (gx.eraseP f ++ if (gx.find? f).isSome = true then [(gx.find? f).getD 0] else []).Perm gx := by
  cases hf : gx.find? f with
  | none =>
    have := List.find?_eq_none.1 hf
    rw [List.eraseP_of_forall_not (fun a ha => by simpa using this a ha)]
    simp
  | some x =>
    obtain ⟨hx, a, b, rfl, ha⟩ := List.find?_eq_some_iff_append.1 hf
    have ha' : ∀ y ∈ a, f y = false := fun y hy => by simpa using ha y hy
    rw [(find_cut ha' hx).2]
    show (a ++ b ++ [x]).Perm (a ++ x :: b)
    rw [List.append_assoc]
    exact List.Perm.append_left a List.perm_append_comm
theorem o_shared (h : Sat w0 (plB D p gx * F) w) (k : Int) (hl : gx.length ≤ 990000) {v : Value} {af : List Nat} (hA : ∀ w', Sat w0 F w' → RdA w' v af) :
    Calls Tryz.prog 39 #[vp D.s, vi k, v] w fun e w' => ∃ gx' x t, e = .returned (.tuple #[vi x, .bool t]) ∧ (allP p D.n gx' ++ if t = true then [x] else []).Perm (allP p D.n gx) ∧ gx'.length ≤ gx.length + 1000 ∧ Sat w0 (plB D p gx' * F) w' := by
  cases hk : inP D.n k with
  | false =>
    obtain ⟨ao, cap, rfl⟩ := (hA w h.dropL).1.len
    exact (pl_shared_no (v := undef) h k hk ao af.length cap).mono fun e w' hh => ⟨gx, 0, false, hh.1, by simp, by omega, hh.2 ▸ h⟩
  | true =>
    obtain ⟨j, rfl, hj⟩ := inP_yes hk
    refine (pl_shared_at h j hj (by omega) hA).mono fun e w' hh => ⟨_, _, _, hh.1, ?_, ?_, hh.2⟩
    · unfold allP
      rw [List.append_assoc]
      exact List.Perm.append_left _ (find_perm _ gx)
    · have := List.length_eraseP_le (l := gx) (p := mayG af j)
      omega
theorem puts_perm {n k m : Nat} (hk : k < n) : ∀ (gs : List Int) (p : Nat → Pl) (gx : List Int), (allP (up p k (puts m (p k) gx gs).1) n (puts m (p k) gx gs).2).Perm (allP p n gx ++ gs)
  | [], p, gx => by
    show (allP (up p k (p k)) n gx).Perm _
    rw [up_self, List.append_nil]
  | g :: r, p, gx => by
    have h1 := puts_perm hk r (up p k (putY m (p k) g)) (gx ++ spillL m (p k).xs g) (m := m)
    rw [up_at, up_up] at h1
    refine List.Perm.trans h1 ?_
    have h2 := pm_snoc (all_up hk (put_all (m := m) (y := p k) (g := g) gx))
    have h3 := h2.append_right r
    rw [List.append_assoc] at h3
    exact h3
theorem puts_len (m : Nat) (hm : m ≤ 32) : ∀ (gs : List Int) (y : Pl) (gx : List Int), (puts m y gx gs).2.length ≤ gx.length + 20 * gs.length
  | [], y, gx => Nat.le_refl _
  | g :: r, y, gx => by
    have h1 := puts_len m hm r (putY m y g) (gx ++ spillL m y.xs g)
    have h2 := spill_len (m := m) (xs := y.xs) g
    rw [List.length_append] at h1
    show (puts m (putY m y g) (gx ++ spillL m y.xs g) r).2.length ≤ _
    rw [List.length_cons]
    omega
theorem o_steal (h : Sat w0 (plB D p gx * F) w) (ho : D.Ok) (k v : Int) (hl : gx.length ≤ 980000) {u : Value} {af : List Nat} (hA : ∀ w', Sat w0 F w' → RdA w' u af) :
    Calls Tryz.prog 15 #[vp D.s, vi k, vi v, u] w fun e w' => ∃ p' gx' x t, e = .returned (.tuple #[vi x, .bool t]) ∧ (allP p' D.n gx' ++ if t = true then [x] else []).Perm (allP p D.n gx) ∧ gx'.length ≤ gx.length + 1000 ∧ Sat w0 (plB D p' gx' * F) w' := by
  cases hk : (inP D.n k && inP D.n v && !(k == v)) with
  | false =>
    obtain ⟨ao, cap, rfl⟩ := (hA w h.dropL).1.len
    exact (pl_steal_no h k v hk ao af.length cap).mono fun e w' hh => ⟨p, gx, 0, false, hh.1, by simp, by omega, hh.2 ▸ h⟩
  | true =>
    simp only [Bool.and_eq_true, Bool.not_eq_true', beq_eq_false_iff_ne] at hk
    obtain ⟨⟨h1, h2⟩, h3⟩ := hk
    obtain ⟨a, rfl, ha⟩ := inP_yes h1
    obtain ⟨b, rfl, hb⟩ := inP_yes h2
    have hab : a ≠ b := fun e => h3 (by rw [e])
    have hlen : (thiefG (mayG af a) (p b)).length ≤ 33 := by
      have := thiefO_len (xs := (p b).xs) (z := (p b).z) (b := (p b).b) (mayG af a)
      have h1 := (pl_ring h hb).1
      have h2 := ho.m32
      unfold thiefG
      omega
    refine (pl_steal_at h ho a b ha hb hab (by omega) hA).mono fun e w' hh => ⟨_, _, _, _, hh.1, ?_, ?_, hh.2⟩
    · unfold stealP stealG
      have h4 := all_up hb (thief_all (f := mayG af a) (y := p b) gx)
      rw [List.append_nil] at h4
      have h5 := puts_perm ha (m := D.m) (thiefG (mayG af a) (p b)).tail (up p b (thiefY (mayG af a) (p b))) gx
      rw [up_ne _ _ hab] at h5
      cases hO : thiefG (mayG af a) (p b) with
      | nil =>
        rw [hO] at h4 h5
        simp only [List.tail_nil, List.append_nil] at h5
        rw [List.append_nil] at h4
        simpa using h5.trans h4
      | cons o O =>
        rw [hO] at h4 h5
        have h6 := h5.append_right [o]
        refine h6.trans (List.Perm.trans ?_ h4)
        rw [List.append_assoc]
        exact List.Perm.append_left _ List.perm_append_comm
    · have := puts_len D.m ho.m32 (thiefG (mayG af a) (p b)).tail (p a) gx
      have h7 : (thiefG (mayG af a) (p b)).tail.length ≤ 33 := by rw [List.length_tail]; omega
      show (puts D.m (p a) gx _).2.length ≤ _
      omega
theorem o_kick (h : Sat w0 (plB D p gx * F) w) (ho : D.Ok) (k : Int) (hl : gx.length ≤ 990000) :
    Calls Tryz.prog 41 #[vp D.s, vi k] w fun e w' => e = .returned (.tuple #[]) ∧ ∃ p' gx', (allP p' D.n gx').Perm (allP p D.n gx) ∧ gx'.length ≤ gx.length + 1000 ∧ Sat w0 (plB D p' gx' * F) w' := by
  cases hk : inP D.n k with
  | false => exact (pl_kick_no h k hk).mono fun e w' hh => ⟨hh.1, p, gx, List.Perm.refl _, by omega, hh.2 ▸ h⟩
  | true =>
    obtain ⟨j, rfl, hj⟩ := inP_yes hk
    cases hb : (p j).b with
    | false => exact (pl_kick_nil h j hj hb).mono fun e w' hh => ⟨hh.1, p, gx, List.Perm.refl _, by omega, hh.2 ▸ h⟩
    | true =>
      have hsl := spill_len (m := D.m) (xs := (p j).xs) (p j).z
      have hm := ho.m32
      refine (pl_kick_at h ho j hj hb (by omega)).mono fun e w' hh => ⟨hh.1, _, _, ?_, by rw [List.length_append]; omega, hh.2⟩
      have h1 := all_up hj (drop_all (y := p j) gx hb)
      have h2 := pm_snoc (all_up (p := up p j (dropY (p j))) hj (put_all (m := D.m) (y := (up p j (dropY (p j))) j) (g := (p j).z) gx))
      rw [up_at, up_up] at h2
      rw [List.append_nil] at h1
      exact h2.trans h1
end
end Go.Proofs.YtjgemfgneiaabaaGreat.Pc

namespace Go.Proofs.YtjgemfgneiaabaaGreat.Pc
open Go.RowKit Rq Gq
set_option linter.unusedVariables false
set_option linter.unusedSimpArgs false

def LeftOk (n : Nat) (p : Nat → Pl) : Prop := ∀ k, k < n → 0 ≤ (p k).left ∧ (p k).left ≤ 9223372036854775807
/-- Nobody is there twice, all are such as T says, they are at most N; what is left of slices is a number. -/
structure Fit (n : Nat) (p : Nat → Pl) (gx : List Int) (N : Nat) (T : Int → Prop) : Prop where
  nd : (allP p n gx).Nodup
  all : ∀ x ∈ allP p n gx, T x
  len : (allP p n gx).length ≤ N
  left : LeftOk n p
section
variable {n N k : Nat} {p p' : Nat → Pl} {gx gx' A B : List Int} {T : Int → Prop} {g : Int} {y : Pl}
theorem Fit.glen (h : Fit n p gx N T) : gx.length ≤ N := by
  have := h.len
  unfold allP at this
  rw [List.length_append] at this
  omega
theorem Fit.same (h : Fit n p gx N T) : Fit n p gx (N + 1) T := ⟨h.nd, h.all, by have := h.len; omega, h.left⟩
theorem Fit.less (h : Fit n p gx N T) (hp : (allP p' n gx' ++ B).Perm (allP p n gx)) (hl : LeftOk n p') : Fit n p' gx' (N + 1) T := by
  refine ⟨?_, ?_, ?_, hl⟩
  · have := hp.nodup_iff.2 h.nd
    exact (List.nodup_append.1 this).1
  · intro x hx
    exact h.all x (hp.mem_iff.1 (by simp [hx]))
  · have h1 := hp.length_eq
    have h2 := h.len
    rw [List.length_append] at h1
    omega
theorem Fit.more (h : Fit n p gx N T) (hg : g ∉ allP p n gx) (hT : T g) (hp : (allP p' n gx').Perm (allP p n gx ++ [g])) (hl : LeftOk n p') : Fit n p' gx' (N + 1) T := by
  refine ⟨?_, ?_, ?_, hl⟩
  · refine hp.nodup_iff.2 (List.nodup_append.2 ⟨h.nd, by simp, ?_⟩)
    intro a ha b hb
    rw [List.mem_singleton.1 hb]
    rintro rfl
    exact hg ha
  · intro x hx
    have := hp.mem_iff.1 hx
    rcases List.mem_append.1 this with h1 | h1
    · exact h.all x h1
    · rw [List.mem_singleton.1 h1]
      exact hT
  · have h1 := hp.length_eq
    have h2 := h.len
    rw [List.length_append, List.length_singleton] at h1
    omega
theorem LeftOk.turn (h : LeftOk n p) (hy : k < n → 0 ≤ y.left ∧ y.left ≤ 9223372036854775807) : LeftOk n (up p k y) := fun i hi => by
  by_cases he : i = k
  · subst he
    rw [up_at]
    exact hy hi
  · rw [up_ne _ _ he]
    exact h i hi
theorem LeftOk.keep (h : LeftOk n p) (hy : y.left = (p k).left) : LeftOk n (up p k y) := h.turn fun hk => by rw [hy]; exact h k hk
theorem rm_perm (g : Int) : (allP (rmP p n g) n (rmG p n gx g) ++ (if rmH p n gx g = true then [g] else [])).Perm (allP p n gx) := by
  unfold rmP rmG rmH
  cases hk : rmK p n g with
  | some k =>
    have hkn := List.mem_range.1 (List.mem_of_find?_eq_some hk)
    have hkh := List.find?_some (p := fun i : Nat => hasY (p i) g) (show (List.range n).find? _ = some k from hk)
    have := all_up hkn (rm_all (y := p k) (g := g) gx)
    rw [hkh, List.append_nil] at this
    exact this
  | none =>
    by_cases hg : g ∈ gx
    · simp only [hg, decide_true, if_true]
      unfold allP
      rw [List.append_assoc]
      exact List.Perm.append_left _ (List.perm_append_comm.trans (List.perm_cons_erase hg).symm)
    · rw [List.erase_of_not_mem hg]
      simp [hg]
theorem rm_left (h : LeftOk n p) (g : Int) : LeftOk n (rmP p n g) := by
  unfold rmP
  split
  · exact h.keep rfl
  · exact h
theorem kick_perm {m : Nat} (hk : k < n) (hb : (p k).b = true) : (allP (up p k (putY m (dropY (p k)) (p k).z)) n (gx ++ spillL m (p k).xs (p k).z)).Perm (allP p n gx) := by
  have h1 := all_up hk (drop_all (y := p k) gx hb)
  have h2 := pm_snoc (all_up (p := up p k (dropY (p k))) hk (put_all (m := m) (y := (up p k (dropY (p k))) k) (g := (p k).z) gx))
  rw [up_at, up_up] at h2
  rw [List.append_nil] at h1
  exact h2.trans h1
theorem steal_perm2 {m a b : Nat} (ha : a < n) (hb : b < n) (hab : a ≠ b) (f : Int → Bool) : (allP (up (up p b (thiefY f (p b))) a (puts m (p a) gx (thiefG f (p b)).tail).1) n (puts m (p a) gx (thiefG f (p b)).tail).2 ++ (thiefG f (p b)).take 1).Perm (allP p n gx) := by
  have h4 := all_up hb (thief_all (f := f) (y := p b) gx)
  rw [List.append_nil] at h4
  have h5 := puts_perm ha (m := m) (thiefG f (p b)).tail (up p b (thiefY f (p b))) gx
  rw [up_ne _ _ hab] at h5
  cases hO : thiefG f (p b) with
  | nil =>
    rw [hO] at h4 h5
    simp only [List.tail_nil, List.append_nil] at h5
    rw [List.append_nil] at h4
    simpa using h5.trans h4
  | cons o O =>
    rw [hO] at h4 h5
    have h6 := h5.append_right [o]
    refine h6.trans (List.Perm.trans ?_ h4)
    rw [List.append_assoc]
    exact List.Perm.append_left _ List.perm_append_comm
theorem steal_left {m a b : Nat} (h : LeftOk n p) (hab : a ≠ b) (f : Int → Bool) (gs : List Int) : LeftOk n (up (up p b (thiefY f (p b))) a (puts m (p a) gx gs).1) := by
  refine LeftOk.turn (h.keep rfl) fun ha => ?_
  rw [(puts_keeps m gs (p a) gx).2.2.1]
  exact h a ha
theorem spend_ok {x : Int} (h : 0 ≤ x ∧ x ≤ 9223372036854775807) : 0 ≤ spendV x ∧ spendV x ≤ 9223372036854775807 := by
  unfold spendV
  split <;> omega
/-- A P's place whose people stay. -/
theorem all_keep (hk : k < n) (h : all1 y = all1 (p k)) : (allP (up p k y) n gx ++ []).Perm (allP p n gx) := by
  have := all_up (p := p) (y := y) (gx := gx) (gx' := gx) (A := []) (B := []) hk (by rw [h])
  rwa [List.append_nil (allP p n gx)] at this
theorem shared_perm (f : Int → Bool) : (allP p n (gx.eraseP f) ++ (if (gx.find? f).isSome = true then [(gx.find? f).getD 0] else [])).Perm (allP p n gx) := by
  unfold allP
  rw [List.append_assoc]
  exact List.Perm.append_left _ (find_perm _ gx)
theorem own_perm {m : Nat} (hk : k < n) : (allP (up p k (takeY m (p k))) n (gx ++ takeS m (p k)) ++ takeG m (p k)).Perm (allP p n gx) := by
  have := all_up hk (take_all (m := m) (y := p k) gx)
  rwa [List.append_nil] at this
theorem stop_perm (hk : k < n) : (allP (up p k (stopY (p k))) n gx ++ runsG (p k)).Perm (allP p n gx) := by
  have := all_up hk (stop_all (y := p k) gx)
  rwa [List.append_nil] at this
end
end Go.Proofs.YtjgemfgneiaabaaGreat.Pc
