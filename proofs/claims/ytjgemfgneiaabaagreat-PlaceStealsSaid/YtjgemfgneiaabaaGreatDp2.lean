/-
  Chapter 19: each act of both places, one behind the other. No statement is proved here.
-/
import Derived.Test.YtjgemfgneiaabaaGreatMg22
import Derived.Test.YtjgemfgneiaabaaGreatMg16
import Derived.Test.YtjgemfgneiaabaaGreatPm8
import Derived.Test.YtjgemfgneiaabaaGreatMg27
import Derived.Test.YtjgemfgneiaabaaGreatPr17
namespace Go.Proofs.YtjgemfgneiaabaaGreat.Pc
open Go.RowKit Rq Gq Nu
set_option linter.unusedVariables false
set_option linter.unusedSimpArgs false

/-- Both places, of the same people. -/
abbrev Two (w0 : World) (D : Ad) (R : Ar) (p : Nat → Pl) (gx : List Int) (F : Hp) (w : World) : Prop := Sat w0 (plB D p gx * (prB R p gx * F)) w
structure Mate (D : Ad) (R : Ar) : Prop where
  d : D.Ok
  r : R.Ok
  n : R.n = D.n
  m : R.m = D.m
theorem Mate.mk' {D : Ad} {R : Ar} (d : D.Ok) (hn : R.n = D.n) (hm : R.m = D.m) : Mate D R := ⟨d, ⟨by rw [hn]; exact d.n1, by rw [hn]; exact d.n8, by rw [hm]; exact d.m2, by rw [hm]; exact d.m32⟩, hn, hm⟩
/-- A yes or a no. -/
def IsB (e : Ending) : Prop := ∃ b, e = .returned (.bool b)
section
variable {w0 w : World} {F : Hp} {D : Ad} {R : Ar} {p : Nat → Pl} {gx : List Int} {N : Nat} {T : Int → Prop}
set_option maxRecDepth 100000 in
theorem answer19 {v : Value} {ys : List Int} (hR : RdI w v ys) (g : Int) (t : Bool) : Calls Tryz.prog 31 #[vi g, .bool t, v] w fun e w' => IsB e ∧ w = w' := by
  obtain ⟨ao, cap, rfl⟩ := hR.len
  cases ys with
  | nil =>
    have h0 : ¬ (0 : Int) < ((([] : List Int).length : Nat) : Int) := by simp
    clear hR
    cases t
    all_goals
      go_enter Tryz.func31, Tryz.ntmps31
      go_wp2
      all_goals go_ret
      all_goals exact ⟨⟨_, rfl⟩, rfl⟩
  | cons y ys =>
    obtain ⟨b, off, rfl, hc⟩ := hR.at_ (by simp)
    have c0 : w.cell? ⟨b, off, none⟩ = some (vi y) := by simpa using hc 0 (by simp)
    obtain ⟨n, hn⟩ : ∃ n, (y :: ys).length = n := ⟨_, rfl⟩
    have hn0 : 0 < n := by rw [← hn]; simp
    have hn1 : (0 : Int) < (n : Int) := by omega
    rw [hn]
    clear hR hc hn
    cases t
    all_goals
      go_enter Tryz.func31, Tryz.ntmps31
      go_wp2
      all_goals go_ret
      all_goals exact ⟨⟨_, rfl⟩, rfl⟩
theorem two_x (hM : Mate D R) (h : Two w0 D R p gx F w) : ∀ k, k < R.n → (p k).xs.length ≤ R.m := fun k hk => by
  rw [hM.m]
  exact (pl_ring h (by rw [← hM.n]; exact hk)).1
theorem b_put (h : Two w0 D R p gx F w) (hM : Mate D R) (hf : Fit D.n p gx N T) (hN : N ≤ 4000) (g : Int) (hg : g ∉ allP p D.n gx) (hT : T g) {s : Nat} (hs : s < 256) (by_ pick : Int) :
    Calls Tryz.prog 11 #[vp D.s, vi g, .int .u8 s, vi by_, vi pick] w fun e w1 => e = .returned (.tuple #[]) ∧ Sat w0 F w1 ∧ Calls Tryz.prog 23 #[vp R.s, vi g, .int .u8 s, vi by_, vi pick] w1 fun e w2 => e = .returned (.tuple #[]) ∧ ∃ p' gx', Fit D.n p' gx' (N + 1) T ∧ Two w0 D R p' gx' F w2 := by
  have hx := two_x hM h
  have hgl := hf.glen
  have ring : ∀ k : Nat, k < D.n → thereM s D.n ≠ [] → nthI (s &&& maskN D.n) pick = k → (inP D.n by_ && hasB s by_) = false → ∀ (e : Ending) (w1 : World), e = .returned (.tuple #[]) ∧ Sat w0 (plB D (up p k (putY D.m (p k) g)) (gx ++ spillL D.m (p k).xs g) * (prB R p gx * F)) w1 → e = .returned (.tuple #[]) ∧ Sat w0 F w1 ∧ Calls Tryz.prog 23 #[vp R.s, vi g, .int .u8 s, vi by_, vi pick] w1 fun e w2 => e = .returned (.tuple #[]) ∧ ∃ p' gx', Fit D.n p' gx' (N + 1) T ∧ Two w0 D R p' gx' F w2 := fun k hk hne hki hc e w1 ⟨he, h1⟩ => by
    refine ⟨he, h1.dropL.dropL, ?_⟩
    obtain ⟨vG, vR, h2⟩ := pr_open h1.pull2
    refine (pr_put_ring h2 hM.r g hs by_ pick (by rw [hM.n]; exact hc) k (by rw [hM.n]; exact hk) (hx k (by rw [hM.n]; exact hk)) (by rw [hM.n]; exact hne) (by rw [hM.n]; exact hki) (by omega)).mono ?_
    rintro e w2 ⟨he, vG', h3⟩
    rw [hM.m] at h3
    exact ⟨he, _, _, hf.more hg hT (pm_snoc (all_up hk (put_all gx))) (hf.left.keep rfl), (pr_shut h3).pull2⟩
  have al : thereM s D.n = [] → (inP D.n by_ && hasB s by_) = false → ∀ (e : Ending) (w1 : World), e = .returned (.tuple #[]) ∧ Sat w0 (plB D p (gx ++ [g]) * (prB R p gx * F)) w1 → e = .returned (.tuple #[]) ∧ Sat w0 F w1 ∧ Calls Tryz.prog 23 #[vp R.s, vi g, .int .u8 s, vi by_, vi pick] w1 fun e w2 => e = .returned (.tuple #[]) ∧ ∃ p' gx', Fit D.n p' gx' (N + 1) T ∧ Two w0 D R p' gx' F w2 := fun hne hc e w1 ⟨he, h1⟩ => by
    refine ⟨he, h1.dropL.dropL, ?_⟩
    obtain ⟨vG, vR, h2⟩ := pr_open h1.pull2
    refine (pr_put_all h2 hM.r g hs by_ pick (by rw [hM.n]; exact hc) (by rw [hM.n]; exact hne) (by omega)).mono ?_
    rintro e w2 ⟨he, vG', h3⟩
    exact ⟨he, _, _, hf.more hg hT (by unfold allP; rw [List.append_assoc]) hf.left, (pr_shut h3).pull2⟩
  cases hby : inP D.n by_ with
  | true =>
    obtain ⟨k, rfl, hk⟩ := inP_yes hby
    cases hb : hasB s k with
    | true =>
      refine (pl_put_next h hM.d g hs k hk hb pick (by omega)).mono ?_
      rintro e w1 ⟨he, h1⟩
      refine ⟨he, h1.dropL.dropL, ?_⟩
      obtain ⟨vG, vR, h2⟩ := pr_open h1.pull2
      refine (pr_put_next h2 hM.r g hs k (by rw [hM.n]; exact hk) (hx k (by rw [hM.n]; exact hk)) hb pick (by omega)).mono ?_
      rintro e w2 ⟨he, vG', h3⟩
      rw [hM.m] at h3
      exact ⟨he, _, _, hf.more hg hT (pm_snoc (all_up hk (next_all gx))) (hf.left.keep rfl), (pr_shut h3).pull2⟩
    | false =>
      by_cases hne : thereM s D.n = []
      · exact (pl_put_all_in h hM.d g hs k pick hby hb hne (by omega)).mono (al hne (by rw [hb, Bool.and_false]))
      · obtain ⟨j, hj, hjk⟩ := nth_in hs hM.d.n8 pick hne
        exact (pl_put_ring_in h hM.d g hs k pick hby hb j hj hne hjk (by omega)).mono (ring j hj hne hjk (by rw [hb, Bool.and_false]))
  | false =>
    by_cases hne : thereM s D.n = []
    · exact (pl_put_all_out h hM.d g hs by_ pick hby hne (by omega)).mono (al hne (by rw [hby, Bool.false_and]))
    · obtain ⟨j, hj, hjk⟩ := nth_in hs hM.d.n8 pick hne
      exact (pl_put_ring_out h hM.d g hs by_ pick hby j hj hne hjk (by omega)).mono (ring j hj hne hjk (by rw [hby, Bool.false_and]))
theorem b_remove (h : Two w0 D R p gx F w) (hM : Mate D R) (hf : Fit D.n p gx N T) (hN : N ≤ 4000) (g : Int) :
    Calls Tryz.prog 26 #[vp D.s, vi g] w fun e w1 => (∃ t, e = .returned (.bool t)) ∧ Sat w0 F w1 ∧ Calls Tryz.prog 27 #[vp R.s, vi g] w1 fun e w2 => (∃ t, e = .returned (.bool t)) ∧ ∃ p' gx', Fit D.n p' gx' (N + 1) T ∧ Two w0 D R p' gx' F w2 := by
  have hx := two_x hM h
  have hgl := hf.glen
  refine (pl_remove h hM.d g (by omega)).mono ?_
  rintro e w1 ⟨he, h1⟩
  refine ⟨⟨_, he⟩, h1.dropL.dropL, ?_⟩
  obtain ⟨vG, vR, h2⟩ := pr_open h1.pull2
  refine (pr_remove h2 hM.r hx g (by omega)).mono ?_
  rintro e w2 ⟨vG', he, h3⟩
  rw [hM.n] at h3
  exact ⟨⟨_, he⟩, _, _, hf.less (rm_perm g) (rm_left hf.left g), (pr_shut h3).pull2⟩
theorem b_start (h : Two w0 D R p gx F w) (hM : Mate D R) (hf : Fit D.n p gx N T) (k g left : Int) (hg : g ∉ allP p D.n gx) (hT : T g) (h9 : left ≤ 9223372036854775807) :
    Calls Tryz.prog 28 #[vp D.s, vi k, vi g, vi left] w fun e w1 => (∃ c, e = .returned (vi c)) ∧ Sat w0 F w1 ∧ Calls Tryz.prog 29 #[vp R.s, vi k, vi g, vi left] w1 fun e w2 => (∃ c, e = .returned (vi c)) ∧ ∃ p' gx', Fit D.n p' gx' (N + 1) T ∧ Two w0 D R p' gx' F w2 := by
  obtain ⟨vG, vR, h2⟩ := pr_open h.pull2
  have hF : Sat w0 F w := h.dropL.dropL
  cases hk : inP D.n k with
  | false =>
    refine (pl_start_no h hM.d k hk g left).mono ?_
    rintro e w1 ⟨he, rfl⟩
    refine ⟨⟨_, he⟩, hF, (pr_start_no h2 k (by rw [hM.n]; exact hk) g left).mono ?_⟩
    rintro e w2 ⟨he, rfl⟩
    exact ⟨⟨_, he⟩, p, gx, hf.same, h⟩
  | true =>
    obtain ⟨j, rfl, hj⟩ := inP_yes hk
    by_cases hl : left < 0
    · refine (pl_start_neg h hM.d j hj g left hl).mono ?_
      rintro e w1 ⟨he, rfl⟩
      refine ⟨⟨_, he⟩, hF, (pr_start_neg h2 j (by rw [hM.n]; exact hj) g left hl).mono ?_⟩
      rintro e w2 ⟨he, rfl⟩
      exact ⟨⟨_, he⟩, p, gx, hf.same, h⟩
    · cases hr : (p j).runs with
      | true =>
        refine (pl_start_busy h hM.d j hj g left hl hr).mono ?_
        rintro e w1 ⟨he, rfl⟩
        refine ⟨⟨_, he⟩, hF, (pr_start_busy h2 j (by rw [hM.n]; exact hj) g left hl hr).mono ?_⟩
        rintro e w2 ⟨he, rfl⟩
        exact ⟨⟨_, he⟩, p, gx, hf.same, h⟩
      | false =>
        clear h2
        refine (pl_start_at h hM.d j hj g left hl hr).mono ?_
        rintro e w1 ⟨he, h1⟩
        refine ⟨⟨_, he⟩, h1.dropL.dropL, ?_⟩
        obtain ⟨vG, vR, h2⟩ := pr_open h1.pull2
        refine (pr_start_at h2 j (by rw [hM.n]; exact hj) g left hl hr).mono ?_
        rintro e w2 ⟨vR', he, h3⟩
        exact ⟨⟨_, he⟩, _, _, hf.more hg hT (pm_snoc (all_up hj (start_all gx left hr))) (hf.left.turn fun _ => ⟨by show 0 ≤ left; omega, h9⟩), (pr_shut h3).pull2⟩
theorem b_spend (h : Two w0 D R p gx F w) (hM : Mate D R) (hf : Fit D.n p gx N T) (k : Int) :
    Calls Tryz.prog 35 #[vp D.s, vi k] w fun e w1 => (∃ c, e = .returned (vi c)) ∧ Sat w0 F w1 ∧ Calls Tryz.prog 36 #[vp R.s, vi k] w1 fun e w2 => (∃ c, e = .returned (vi c)) ∧ ∃ p' gx', Fit D.n p' gx' (N + 1) T ∧ Two w0 D R p' gx' F w2 := by
  cases hk : inP D.n k with
  | false =>
    obtain ⟨vG, vR, h2⟩ := pr_open h.pull2
    have hF : Sat w0 F w := h.dropL.dropL
    refine (pl_spend_no h k hk).mono ?_
    rintro e w1 ⟨he, rfl⟩
    refine ⟨⟨_, he⟩, hF, (pr_spend_no h2 k (by rw [hM.n]; exact hk)).mono ?_⟩
    rintro e w2 ⟨he, rfl⟩
    exact ⟨⟨_, he⟩, p, gx, hf.same, h⟩
  | true =>
    obtain ⟨j, rfl, hj⟩ := inP_yes hk
    obtain ⟨h0, h9⟩ := hf.left j hj
    refine (pl_spend_at h j hj h0 h9).mono ?_
    rintro e w1 ⟨he, h1⟩
    refine ⟨⟨_, he⟩, h1.dropL.dropL, ?_⟩
    obtain ⟨vG, vR, h2⟩ := pr_open h1.pull2
    have hfit : Fit D.n (up p j (leftY (p j) (spendV (p j).left))) gx (N + 1) T := hf.less (all_keep hj rfl) (hf.left.turn fun _ => spend_ok ⟨h0, h9⟩)
    by_cases hz : (p j).left = 0
    · refine (pr_spend_zero h2 j (by rw [hM.n]; exact hj) hz).mono ?_
      rintro e w2 ⟨he, rfl⟩
      have he2 : leftY (p j) (spendV (p j).left) = p j := by
        have : spendV (p j).left = (p j).left := by rw [hz]; rfl
        rw [this]
        rfl
      rw [he2, up_self] at h1 hfit
      exact ⟨⟨_, he⟩, p, gx, hfit, h1⟩
    · refine (pr_spend_pos h2 j (by rw [hM.n]; exact hj) (by omega) h9).mono ?_
      rintro e w2 ⟨he, h3⟩
      have he2 : spendV (p j).left = (p j).left - 1 := by
        unfold spendV
        rw [if_pos (by omega)]
      rw [he2] at h3 hfit
      exact ⟨⟨_, he⟩, _, _, hfit, (pr_shut h3).pull2⟩
theorem b_turn (h : Two w0 D R p gx F w) (hM : Mate D R) (hf : Fit D.n p gx N T) (k : Int) :
    Calls Tryz.prog 43 #[vp D.s, vi k] w fun e w1 => (∃ c, e = .returned (.int .u64 c)) ∧ Sat w0 F w1 ∧ Calls Tryz.prog 44 #[vp R.s, vi k] w1 fun e w2 => (∃ c, e = .returned (.int .u64 c)) ∧ ∃ p' gx', Fit D.n p' gx' (N + 1) T ∧ Two w0 D R p' gx' F w2 := by
  cases hk : inP D.n k with
  | false =>
    obtain ⟨vG, vR, h2⟩ := pr_open h.pull2
    have hF : Sat w0 F w := h.dropL.dropL
    refine (pl_turn_no h k hk).mono ?_
    rintro e w1 ⟨he, rfl⟩
    refine ⟨⟨_, he⟩, hF, (pr_turn_no h2 k (by rw [hM.n]; exact hk)).mono ?_⟩
    rintro e w2 ⟨he, rfl⟩
    exact ⟨⟨_, he⟩, p, gx, hf.same, h⟩
  | true =>
    obtain ⟨j, rfl, hj⟩ := inP_yes hk
    refine (pl_turn_at h j hj).mono ?_
    rintro e w1 ⟨he, h1⟩
    refine ⟨⟨_, he⟩, h1.dropL.dropL, ?_⟩
    obtain ⟨vG, vR, h2⟩ := pr_open h1.pull2
    refine (pr_turn_at h2 j (by rw [hM.n]; exact hj)).mono ?_
    rintro e w2 ⟨he, h3⟩
    have hfit : Fit D.n (up p j (turnY (p j) (IntKind.u64.wrap ((p j).turns + 1)))) gx (N + 1) T := hf.less (all_keep hj rfl) (hf.left.keep rfl)
    exact ⟨⟨_, he⟩, _, _, hfit, (pr_shut h3).pull2⟩
theorem b_kick (h : Two w0 D R p gx F w) (hM : Mate D R) (hf : Fit D.n p gx N T) (hN : N ≤ 4000) (k : Int) :
    Calls Tryz.prog 41 #[vp D.s, vi k] w fun e w1 => e = .returned (.tuple #[]) ∧ Sat w0 F w1 ∧ Calls Tryz.prog 42 #[vp R.s, vi k] w1 fun e w2 => e = .returned (.tuple #[]) ∧ ∃ p' gx', Fit D.n p' gx' (N + 1) T ∧ Two w0 D R p' gx' F w2 := by
  have hx := two_x hM h
  have hgl := hf.glen
  have hF : Sat w0 F w := h.dropL.dropL
  cases hk : inP D.n k with
  | false =>
    obtain ⟨vG, vR, h2⟩ := pr_open h.pull2
    refine (pl_kick_no h k hk).mono ?_
    rintro e w1 ⟨he, rfl⟩
    refine ⟨he, hF, (pr_kick_no h2 k (by rw [hM.n]; exact hk)).mono ?_⟩
    rintro e w2 ⟨he, rfl⟩
    exact ⟨he, p, gx, hf.same, h⟩
  | true =>
    obtain ⟨j, rfl, hj⟩ := inP_yes hk
    cases hb : (p j).b with
    | false =>
      obtain ⟨vG, vR, h2⟩ := pr_open h.pull2
      refine (pl_kick_nil h j hj hb).mono ?_
      rintro e w1 ⟨he, rfl⟩
      refine ⟨he, hF, (pr_kick_nil h2 j (by rw [hM.n]; exact hj) hb).mono ?_⟩
      rintro e w2 ⟨he, rfl⟩
      exact ⟨he, p, gx, hf.same, h⟩
    | true =>
      refine (pl_kick_at h hM.d j hj hb (by omega)).mono ?_
      rintro e w1 ⟨he, h1⟩
      refine ⟨he, h1.dropL.dropL, ?_⟩
      obtain ⟨vG, vR, h2⟩ := pr_open h1.pull2
      refine (pr_kick_at h2 hM.r j (by rw [hM.n]; exact hj) (hx j (by rw [hM.n]; exact hj)) hb (by omega)).mono ?_
      rintro e w2 ⟨he, vG', h3⟩
      rw [hM.m] at h3
      have hkp := kick_perm (m := D.m) (gx := gx) hj hb
      rw [← List.append_nil (allP _ _ _)] at hkp
      have hfit : Fit D.n (up p j (putY D.m (dropY (p j)) (p j).z)) (gx ++ spillL D.m (p j).xs (p j).z) (N + 1) T := hf.less hkp (hf.left.keep rfl)
      exact ⟨he, _, _, hfit, (pr_shut h3).pull2⟩
end
end Go.Proofs.YtjgemfgneiaabaaGreat.Pc
