/-
  Chapter 19: acts of both places that tell who comes; Back. No statement is proved here.
-/
import Derived.Test.YtjgemfgneiaabaaGreatDp2
namespace Go.Proofs.YtjgemfgneiaabaaGreat.Pc
open Go.RowKit Rq Gq Nu
set_option linter.unusedVariables false
set_option linter.unusedSimpArgs false

theorem thief_f {f : Int → Bool} {xs : List Int} {z o : Int} {b : Bool} (h : o ∈ thiefO f xs z b) : f o = true := by
  unfold thiefO at h
  split at h
  · rename_i hc
    rw [List.mem_singleton.1 h]
    simp only [Bool.and_eq_true] at hc
    exact hc.2
  · exact (stealO_mem h).1
theorem thief_no {f : Int → Bool} {y : Pl} (h : thiefG f y = []) : thiefY f y = y := by
  unfold thiefG thiefO at h
  split at h
  · cases h
  · rename_i hc
    have h1 := half_empty f y.xs
    rw [h] at h1
    have h2 : y.xs.filter f = [] := List.isEmpty_iff.1 h1.symm
    have h3 : halfK f y.xs = 0 := by unfold halfK; rw [h2]; rfl
    unfold thiefY thiefL thiefB
    rw [if_neg hc, h3, stealL_zero]
theorem mayG_in {af : List Nat} {p g : Int} (h : mayG af p g = true) : 0 ≤ g ∧ g < af.length := by
  unfold mayG at h
  simp only [Bool.and_eq_true, decide_eq_true_eq] at h
  exact h.1
section
variable {w0 w : World} {F : Hp} {D : Ad} {R : Ar} {p : Nat → Pl} {gx : List Int} {N : Nat} {T : Int → Prop} {g : Int}
theorem b_runs (h : Two w0 D R p gx F w) (hM : Mate D R) (k : Int) :
    Calls Tryz.prog 30 #[vp D.s, vi k] w fun e w1 => (∃ g t, e = .returned (.tuple #[vi g, .bool t])) ∧ w = w1 ∧ Calls Tryz.prog 32 #[vp R.s, vi k] w1 fun e w2 => ∃ v ys, e = .returned v ∧ RdI w2 v ys ∧ w = w2 := by
  obtain ⟨vG, vR, h2⟩ := pr_open h.pull2
  cases hk : inP D.n k with
  | false =>
    refine (pl_runs_no h k hk).mono ?_
    rintro e w1 ⟨he, rfl⟩
    refine ⟨⟨_, _, he⟩, rfl, (pr_runs_no h2 k (by rw [hM.n]; exact hk)).mono ?_⟩
    rintro e w2 ⟨he, rfl⟩
    exact ⟨_, [], he, Rd.nil _ _, rfl⟩
  | true =>
    obtain ⟨j, rfl, hj⟩ := inP_yes hk
    have hj' : j < R.n := by rw [hM.n]; exact hj
    refine (pl_runs_at h j hj).mono ?_
    rintro e w1 ⟨he, rfl⟩
    refine ⟨⟨_, _, he⟩, rfl, (pr_runs_at h2 j hj').mono ?_⟩
    rintro e w2 ⟨he, rfl⟩
    exact ⟨_, _, he, pr_rd h2 hj', rfl⟩
theorem b_stop (h : Two w0 D R p gx F w) (hM : Mate D R) (hf : Fit D.n p gx N T) (k : Int) :
    Calls Tryz.prog 33 #[vp D.s, vi k] w fun e w1 => (∃ g t, e = .returned (.tuple #[vi g, .bool t])) ∧ Sat w0 F w1 ∧ Calls Tryz.prog 34 #[vp R.s, vi k] w1 fun e w2 => ∃ v ys, e = .returned v ∧ RdI w2 v ys ∧ ∃ p' gx', Fit D.n p' gx' (N + 1) T ∧ Two w0 D R p' gx' F w2 := by
  cases hk : inP D.n k with
  | false =>
    obtain ⟨vG, vR, h2⟩ := pr_open h.pull2
    have hF : Sat w0 F w := h.dropL.dropL
    refine (pl_stop_no h k hk).mono ?_
    rintro e w1 ⟨he, rfl⟩
    refine ⟨⟨_, _, he⟩, hF, (pr_stop_no h2 k (by rw [hM.n]; exact hk)).mono ?_⟩
    rintro e w2 ⟨he, rfl⟩
    exact ⟨_, [], he, Rd.nil _ _, p, gx, hf.same, h⟩
  | true =>
    obtain ⟨j, rfl, hj⟩ := inP_yes hk
    refine (pl_stop_at h j hj).mono ?_
    rintro e w1 ⟨he, h1⟩
    refine ⟨⟨_, _, he⟩, h1.dropL.dropL, ?_⟩
    obtain ⟨vG, vR, h2⟩ := pr_open h1.pull2
    refine (pr_stop_at h2 j (by rw [hM.n]; exact hj)).mono ?_
    rintro e w2 ⟨v, vR', he, hR, h3⟩
    have hfit : Fit D.n (up p j (stopY (p j))) gx (N + 1) T := hf.less (stop_perm hj) (hf.left.keep rfl)
    exact ⟨_, _, he, hR, _, _, hfit, (pr_shut h3).pull2⟩
theorem b_own (h : Two w0 D R p gx F w) (hM : Mate D R) (hf : Fit D.n p gx N T) (hN : N ≤ 4000) (k : Int) :
    ∃ nx : Bool, Calls Tryz.prog 37 #[vp D.s, vi k] w fun e w1 => (∃ g t, e = .returned (.tuple #[vi g, .bool nx, .bool t])) ∧ Sat w0 F w1 ∧ Calls Tryz.prog 38 #[vp R.s, vi k] w1 fun e w2 => ∃ v ys, e = .returned (.tuple #[v, .bool nx]) ∧ RdI w2 v ys ∧ ∃ p' gx', Fit D.n p' gx' (N + 1) T ∧ Two w0 D R p' gx' F w2 := by
  have hx := two_x hM h
  have hgl := hf.glen
  cases hk : inP D.n k with
  | false =>
    refine ⟨false, ?_⟩
    obtain ⟨vG, vR, h2⟩ := pr_open h.pull2
    have hF : Sat w0 F w := h.dropL.dropL
    refine (pl_own_no h k hk).mono ?_
    rintro e w1 ⟨he, rfl⟩
    refine ⟨⟨_, _, he⟩, hF, (pr_own_no h2 k (by rw [hM.n]; exact hk)).mono ?_⟩
    rintro e w2 ⟨he, rfl⟩
    exact ⟨_, [], he, Rd.nil _ _, p, gx, hf.same, h⟩
  | true =>
    obtain ⟨j, rfl, hj⟩ := inP_yes hk
    refine ⟨(p j).b && decide (0 < (p j).left), ?_⟩
    have hj' : j < R.n := by rw [hM.n]; exact hj
    refine (pl_own_at h hM.d j hj (by omega)).mono ?_
    rintro e w1 ⟨he, h1⟩
    refine ⟨⟨_, _, he⟩, h1.dropL.dropL, ?_⟩
    obtain ⟨vG, vR, h2⟩ := pr_open h1.pull2
    refine (pr_own_at h2 hM.r j hj' (hx j hj') (by omega)).mono ?_
    rintro e w2 ⟨v, vG', he, hR, h3⟩
    rw [hM.m] at h3
    have hfit : Fit D.n (up p j (takeY D.m (p j))) (gx ++ takeS D.m (p j)) (N + 1) T := hf.less (own_perm hj) (hf.left.keep rfl)
    exact ⟨_, _, he, hR, _, _, hfit, (pr_shut h3).pull2⟩
theorem b_where (h : Two w0 D R p gx F w) (hM : Mate D R) (hf : Fit D.n p gx N T) (hN : N ≤ 4000) (g : Int) :
    Calls Tryz.prog 22 #[vp R.s, vi g] w fun e w' => e = .returned (.agg #[vi (whereV p D.n gx g).1, vi (whereV p D.n gx g).2]) ∧ Two w0 D R p gx F w' := by
  have hgl := hf.glen
  obtain ⟨vG, vR, h2⟩ := pr_open h.pull2
  refine (pr_where h2 hM.r (two_x hM h) g (by omega)).mono ?_
  rintro e w2 ⟨he, h3⟩
  rw [hM.n] at he
  exact ⟨he, (pr_shut h3).pull2⟩
theorem b_shared (h : Two w0 D R p gx F w) (hM : Mate D R) (hf : Fit D.n p gx N T) (hN : N ≤ 4000) (k : Int) {u : Value} {af : List Nat} (hA : ∀ w', Sat w0 F w' → RdA w' u af) :
    Calls Tryz.prog 39 #[vp D.s, vi k, u] w fun e w1 => (∃ g t, e = .returned (.tuple #[vi g, .bool t])) ∧ Sat w0 F w1 ∧ Calls Tryz.prog 40 #[vp R.s, vi k, u] w1 fun e w2 => ∃ v ys, e = .returned v ∧ RdI w2 v ys ∧ ∃ p' gx', Fit D.n p' gx' (N + 1) T ∧ Two w0 D R p' gx' F w2 := by
  have hgl := hf.glen
  have hF : Sat w0 F w := h.dropL.dropL
  cases hk : inP D.n k with
  | false =>
    obtain ⟨ao, cap, rfl⟩ := (hA w hF).1.len
    obtain ⟨vG, vR, h2⟩ := pr_open h.pull2
    refine (pl_shared_no (v := undef) h k hk ao af.length cap).mono ?_
    rintro e w1 ⟨he, rfl⟩
    refine ⟨⟨_, _, he⟩, hF, (pr_shared_no h2 k (by rw [hM.n]; exact hk) ao af.length cap).mono ?_⟩
    rintro e w2 ⟨he, rfl⟩
    exact ⟨_, [], he, Rd.nil _ _, p, gx, hf.same, h⟩
  | true =>
    obtain ⟨j, rfl, hj⟩ := inP_yes hk
    have hj' : j < R.n := by rw [hM.n]; exact hj
    refine (pl_shared_at h j hj (by omega) (fun w' h' => hA w' h'.dropL)).mono ?_
    rintro e w1 ⟨he, h1⟩
    refine ⟨⟨_, _, he⟩, h1.dropL.dropL, ?_⟩
    obtain ⟨vG, vR, h2⟩ := pr_open h1.pull2
    refine (pr_shared_at h2 j hj' (by omega) (hA w1 h1.dropL.dropL)).mono ?_
    rintro e w2 ⟨v, vG', he, hR, h3⟩
    have hfit : Fit D.n p (gx.eraseP (mayG af j)) (N + 1) T := hf.less (shared_perm _) hf.left
    exact ⟨_, _, he, hR, _, _, hfit, (pr_shut h3).pull2⟩
/-- Steal, with what it tells. -/
theorem b_steal (h : Two w0 D R p gx F w) (hM : Mate D R) (hf : Fit D.n p gx N T) (hN : N ≤ 4000) (k v : Int) {u : Value} {af : List Nat} (hA : ∀ w', Sat w0 F w' → RdA w' u af) :
    ∃ (ys : List Int) (p' : Nat → Pl) (gx' : List Int), Fit D.n p' gx' (N + 1) T ∧ (allP p' D.n gx' ++ ys).Perm (allP p D.n gx) ∧ (ys = [] → p' = p ∧ gx' = gx) ∧ (∀ y ∈ ys, 0 ≤ y ∧ y < af.length ∧ inP D.n k = true ∧ inP D.n v = true ∧ k ≠ v) ∧ ys.length ≤ 1 ∧
    Calls Tryz.prog 15 #[vp D.s, vi k, vi v, u] w fun e w1 => e = .returned (.tuple #[vi (ys.headD 0), .bool !ys.isEmpty]) ∧ Sat w0 (plB D p' gx' * (prB R p gx * F)) w1 ∧
      ∀ (w0' w1 : World) (F' : Hp), Sat w0' (plB D p' gx' * (prB R p gx * F')) w1 → (∀ w', Sat w0' F' w' → RdA w' u af) → Calls Tryz.prog 17 #[vp R.s, vi k, vi v, u] w1 fun e w2 => ∃ v, e = .returned v ∧ RdI w2 v ys ∧ Two w0' D R p' gx' F' w2 := by
  have hx := two_x hM h
  have hgl := hf.glen
  have hF : Sat w0 F w := h.dropL.dropL
  cases hk : (inP D.n k && inP D.n v && !(k == v)) with
  | false =>
    obtain ⟨ao, cap, rfl⟩ := (hA w hF).1.len
    refine ⟨[], p, gx, hf.same, by rw [List.append_nil], fun _ => ⟨rfl, rfl⟩, by simp, by simp, ?_⟩
    refine (pl_steal_no h k v hk ao af.length cap).mono ?_
    rintro e w1 ⟨he, rfl⟩
    refine ⟨he, h, fun w0' w1 F' h1 hA' => ?_⟩
    obtain ⟨vG, vR, h2⟩ := pr_open h1.pull2
    refine (pr_steal_no h2 k v (by rw [hM.n]; exact hk) ao af.length cap).mono ?_
    rintro e w2 ⟨he, rfl⟩
    exact ⟨_, he, Rd.nil _ _, h1⟩
  | true =>
    simp only [Bool.and_eq_true, Bool.not_eq_true', beq_eq_false_iff_ne] at hk
    obtain ⟨⟨h1, h2⟩, h3⟩ := hk
    obtain ⟨a, rfl, ha⟩ := inP_yes h1
    obtain ⟨b, rfl, hb⟩ := inP_yes h2
    have hab : a ≠ b := fun e => h3 (by rw [e])
    have hperm := steal_perm2 (m := D.m) (p := p) (gx := gx) ha hb hab (mayG af a)
    refine ⟨(thiefG (mayG af a) (p b)).take 1, _, _, hf.less hperm (steal_left hf.left hab _ _), hperm, ?_, ?_, by rw [List.length_take]; omega, ?_⟩
    · intro h0
      have hO : thiefG (mayG af a) (p b) = [] := by
        cases hh : thiefG (mayG af a) (p b) with
        | nil => rfl
        | cons x r => rw [hh] at h0; cases h0
      rw [hO]
      refine ⟨?_, rfl⟩
      rw [thief_no hO, up_self]
      exact up_self p a
    · intro y hy
      have hm := mayG_in (thief_f (List.mem_of_mem_take hy))
      exact ⟨hm.1, hm.2, h1, h2, h3⟩
    · refine (pl_steal_at h hM.d a b ha hb hab (by omega) (fun w' h' => hA w' h'.dropL)).mono ?_
      rintro e w1 ⟨he, hS⟩
      refine ⟨?_, hS, fun w0' w1 F' h1 hA' => ?_⟩
      · rw [he]
        cases thiefG (mayG af a) (p b) <;> rfl
      · obtain ⟨vG, vR, h2⟩ := pr_open h1.pull2
        refine (pr_steal_at h2 hM.r hx a b (by rw [hM.n]; exact ha) (by rw [hM.n]; exact hb) hab (by omega) (fun w' h' => hA' w' h'.dropL)).mono ?_
        rintro e w2 ⟨u, vG', he, hR, h3⟩
        rw [hM.m] at h3
        exact ⟨_, he, hR, (pr_shut h3).pull2⟩
theorem b_back1 (h : Two w0 D R p gx F w) (hM : Mate D R) (hf : Fit D.n p gx N T) (hN : N ≤ 4000) (g : Int) :
    Calls Tryz.prog 24 #[vp D.s, .slice (some ⟨w.heap.size, 0, none⟩) 1 1] (w.alloc (.cells #[vi g] 3)) fun e w1 => e = .returned (.tuple #[]) ∧ Sat w0 (plB D p (gx ++ [g]) * (prB R p gx * F)) w1 := by
  have hgl := hf.glen
  have hZ : Sat w0 (plB D p gx * (pc w.heap.size 3 [vi g] * (prB R p gx * F))) (w.alloc (.cells #[vi g] 3)) := (h.alloc (.cells #[vi g] 3)).pull2
  exact (pl_back hZ hM.d (ys := [g]) (fun w2 h2 => rdI_pc h2) (by simp; omega)).mono fun e w2 ⟨he, h2⟩ => ⟨he, h2.drop2⟩
theorem b_back2 (h : Sat w0 (plB D p (gx ++ [g]) * (prB R p gx * F)) w) (hf : Fit D.n p gx N T) (hN : N ≤ 4000) (hg : g ∉ allP p D.n gx) (hT : T g) :
    Calls Tryz.prog 25 #[vp R.a, .slice (some ⟨w.heap.size, 0, none⟩) 1 1] (w.alloc (.cells #[vi g] 3)).drew fun e w2 => e = .returned (.tuple #[]) ∧ ∃ p' gx', Fit D.n p' gx' (N + 1) T ∧ Two w0 D R p' gx' F w2 := by
  have hgl := hf.glen
  obtain ⟨vG, vR, h2⟩ := pr_open h.pull2
  have hZ : Sat w0 (prO R vG vR p gx * (pc w.heap.size 3 [vi g] * (plB D p (gx ++ [g]) * F))) (w.alloc (.cells #[vi g] 3)).drew := (h2.alloc (.cells #[vi g] 3)).pull2.drew
  refine (rg_put (pr_glob hZ) (ys := [g]) (fun w2 h2 => rdI_pc h2.pull2) (by simp; omega)).mono ?_
  rintro e w2 ⟨vL', he, h3⟩
  have hfit : Fit D.n p (gx ++ [g]) (N + 1) T := hf.more hg hT (by unfold allP; rw [List.append_assoc]) hf.left
  exact ⟨he, _, _, hfit, (pr_shut (pr_globI h3)).drop2.pull2⟩
end
end Go.Proofs.YtjgemfgneiaabaaGreat.Pc
