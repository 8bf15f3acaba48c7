/-
  The reference's places: Start, Own, Shared, Kick. No statement is proved here.
-/
import Derived.Test.YtjgemfgneiaabaaGreatMg24
import Derived.Test.YtjgemfgneiaabaaGreatPr0
import Derived.Test.YtjgemfgneiaabaaGreatMg16
namespace Go.Proofs.YtjgemfgneiaabaaGreat.Pc
open Go.RowKit Rq Gq
set_option linter.unusedVariables false
set_option linter.unusedSimpArgs false

structure Ar.Ok (D : Ar) : Prop where
  n1 : 1 ≤ D.n
  n8 : D.n ≤ 8
  m2 : 2 ≤ D.m
  m32 : D.m ≤ 32
section
variable {w0 w : World} {F : Hp} {D : Ar} {p : Nat → Pl} {gx : List Int} {vG : Value} {vR : Nat → Value}
set_option maxRecDepth 100000 in
set_option maxHeartbeats 4000000 in
theorem pr_start_at (h : Sat w0 (prO D vG vR p gx * F) w) (k : Nat) (hk : k < D.n) (g left : Int) (hl : ¬ left < 0) (hr : (p k).runs = false) : Calls Tryz.prog 29 #[vp D.s, vi k, vi g, vi left] w fun e w' => ∃ vR', e = .returned (vi 0) ∧ Sat w0 (prO D vG vR' (up p k (startY (p k) g left)) gx * F) w' := by
  obtain ⟨c1, r0, r1, r2, r3⟩ : w.cell? ⟨D.s, 0, none⟩ = some D.v ∧ _ := ⟨(pr_cells h).1, pr_row h hk⟩
  have hki : (k : Int) < (D.n : Int) := by omega
  have HI := Lib.hid (pr_is h (k : Int))
  rw [inP_nat hk] at HI
  obtain ⟨ao, cap, hv⟩ := (pr_rd h hk).len
  rw [hr] at hv
  have hv : vR k = .slice ao 0 cap := hv
  rw [hv] at r1
  have hZ := h.alloc (.cells #[vi g] 3)
  have hA : Sat w0 (rs 3 (.slice (some ⟨w.heap.size, 0, none⟩) 1 1) ([g].map vi) * (prO D vG vR p gx * F)) (w.alloc (.cells #[vi g] 3)) := Sat.rsI (xs := [vi g]) (off := 0) (cap := 1) (cur := [vi g]) hZ (by simp) (by unfold maxLen; omega) (by intro j u hj; simpa using hj)
  have hB := pr_storeR (y := { p k with g := g, runs := true }) hA hk rfl rfl rfl rfl rfl
  have hC := pr_store (y := startY (p k) g left) (j := 2) (u := vi left) hB hk (by omega) (by unfold rowR; rw [up_at]; rfl) (by rw [up_at]; rfl) (by rw [up_at]; rfl) (by rw [up_at]; rfl) (by rw [up_at]; rfl) (by rw [up_at]; rfl)
  rw [up_up] at hC
  have a1 := (pr_cells hA.dropL).1
  have a2 := pr_free hA.dropL (k * 4 + 1)
  have b1 := (pr_cells hB).1
  have b2 := pr_free hB (k * 4 + 2)
  have a3 := (pr_row hA.dropL hk).2.1
  have a4 := (pr_row hA.dropL hk).2.2.1
  rw [hv] at a3
  have b3 := (pr_row hB hk).2.2.1
  have HC := Lib.hid hC
  unfold Ar.v at c1 a1 b1
  clear h hk r0 r2 r3 hv hr hZ hA hB hC
  go_enter Tryz.func29, Tryz.ntmps29
  go_wp2_with (go_at_call 73; refine HI.out.mono ?_; rintro e w' ⟨rfl, rfl⟩)
  go_ret
  exact ⟨_, rfl, HC.out⟩
/-- What a P's queue spilled goes to the global one. -/
theorem pr_spill {A : Hp} {k : Nat} {u : Value} {ys : List Int} (h : Sat w0 (sl 3 1 u ys.length (ys.map vi) * (A * (prX D vG vR p gx k * F))) w) (hl : gx.length + ys.length ≤ 1000000) :
    Calls Tryz.prog 25 #[vp D.a, u] w fun e w' => e = .returned (.tuple #[]) ∧ ∃ vG', Sat w0 (A * (prX D vG' vR p (gx ++ ys) k * F)) w' := by
  obtain ⟨G, hG, h1⟩ := prX_glob (A := sl 3 1 u ys.length (ys.map vi) * A) (h.cast (sep_assoc _ _ _).symm)
  refine (rg_put h1 (ys := ys) (fun w' h' => (h'.cast (sep_assoc _ _ _)).rd) hl).mono ?_
  rintro e w' ⟨vL', he, hS⟩
  exact ⟨he, vL', ((hG _ _ _ hS).cast (sep_assoc _ _ _)).dropL⟩
set_option maxRecDepth 100000 in
theorem pr_shared_no (h : Sat w0 (prO D vG vR p gx * F) w) (k : Int) (hk : inP D.n k = false) (ao : Option Addr) (ln cap : Nat) : Calls Tryz.prog 40 #[vp D.s, vi k, .slice ao ln cap] w fun e w' => e = .returned (.slice none 0 0) ∧ w = w' := by
  have HI := Lib.hid (pr_is h k)
  rw [hk] at HI
  clear h hk
  go_enter Tryz.func40, Tryz.ntmps40
  go_wp2_with (go_at_call 73; refine HI.out.mono ?_; rintro e w' ⟨rfl, rfl⟩)
  go_ret
  exact ⟨rfl, rfl⟩
set_option maxRecDepth 100000 in
theorem pr_shared_at (h : Sat w0 (prO D vG vR p gx * F) w) (k : Nat) (hk : k < D.n) (hl : gx.length ≤ 4096) {v : Value} {af : List Nat} (hA : RdA w v af) :
    Calls Tryz.prog 40 #[vp D.s, vi k, v] w fun e w' => ∃ u vG', e = .returned u ∧ RdI w' u (gx.find? (mayG af k)).toList ∧ Sat w0 (prO D vG' vR p (gx.eraseP (mayG af k)) * F) w' := by
  have c2 := (pr_cells h).2
  have HI := Lib.hid (pr_is h (k : Int))
  rw [inP_nat hk] at HI
  have HG := Lib.hid (rg_take (pr_glob h) hl (k : Int) hA)
  obtain ⟨ao, cap, rfl⟩ := hA.1.len
  clear h hk hA
  generalize (gx.find? (mayG af k)).toList = r at *
  generalize gx.eraseP (mayG af k) = gy at *
  go_enter Tryz.func40, Tryz.ntmps40
  go_wp2_with (first
    | (go_at_call 73; refine HI.out.mono ?_; rintro e w' ⟨rfl, rfl⟩)
    | (go_at_call 88; refine HG.out.mono ?_; rintro e w1 ⟨vL', u, rfl, hR, hS⟩; have H1 := Lib.hid (pr_globI hS); have HR := Lib.hid hR; clear hS hR))
  go_ret
  exact ⟨_, _, rfl, HR.out, H1.out⟩
set_option maxRecDepth 100000 in
theorem pr_own_no (h : Sat w0 (prO D vG vR p gx * F) w) (k : Int) (hk : inP D.n k = false) : Calls Tryz.prog 38 #[vp D.s, vi k] w fun e w' => e = .returned (.tuple #[.slice none 0 0, .bool false]) ∧ w = w' := by
  have HI := Lib.hid (pr_is h k)
  rw [hk] at HI
  clear h hk
  go_enter Tryz.func38, Tryz.ntmps38
  go_wp2_with (go_at_call 73; refine HI.out.mono ?_; rintro e w' ⟨rfl, rfl⟩)
  go_ret2
  exact ⟨rfl, rfl⟩
set_option maxRecDepth 100000 in
set_option maxHeartbeats 4000000 in
theorem pr_own_at (h : Sat w0 (prO D vG vR p gx * F) w) (ho : D.Ok) (k : Nat) (hk : k < D.n) (hx : (p k).xs.length ≤ D.m) (hl : gx.length ≤ 999000) :
    Calls Tryz.prog 38 #[vp D.s, vi k] w fun e w' => ∃ v vG', e = .returned (.tuple #[v, .bool ((p k).b && decide (0 < (p k).left))]) ∧ RdI w' v (takeG D.m (p k)) ∧ Sat w0 (prO D vG' vR (up p k (takeY D.m (p k))) (gx ++ takeS D.m (p k)) * F) w' := by
  obtain ⟨c1, r0, r1, r2, r3⟩ : w.cell? ⟨D.s, 0, none⟩ = some D.v ∧ _ := ⟨(pr_cells h).1, pr_row h hk⟩
  have c2 := (pr_cells h).2
  have hki : (k : Int) < (D.n : Int) := by omega
  have HI := Lib.hid (pr_is h (k : Int))
  rw [inP_nat hk] at HI
  obtain ⟨t, ht⟩ : ∃ t, decide (0 < (p k).left) = t := ⟨_, rfl⟩
  have hsl : (takeS D.m (p k)).length ≤ 100 := by
    unfold takeS
    have := tkS_len (m := D.m) (xs := (p k).xs) (z := (p k).z) (b := (p k).b) (decide (0 < (p k).left))
    have h2 := ho.m32
    omega
  have HT : Hid (Calls Tryz.prog 86 #[vp (D.q k), .bool (decide (0 < (p k).left))] w.drew fun e w' => ∃ v u A, e = .returned (.tuple #[v, .bool ((p k).b && decide (0 < (p k).left)), u]) ∧ Tells A v (takeG D.m (p k)) ∧ Becomes A (refQ (D.q k) D.m (takeY D.m (p k)).xs (p k).z false) ∧ Sat w0 (sl 3 1 u (takeS D.m (p k)).length ((takeS D.m (p k)).map vi) * (A * (prX D vG vR p gx k * F))) w') := Lib.hid (r_take2 (pr_out h hk).drew hx ho.m2 (by have := ho.m32; omega) (decide (0 < (p k).left)))
  have HB : Hid (∀ (w1 : World) (A : Hp) (v u : Value), Tells A v (takeG D.m (p k)) → Becomes A (refQ (D.q k) D.m (takeY D.m (p k)).xs (p k).z false) → Sat w0 (sl 3 1 u (takeS D.m (p k)).length ((takeS D.m (p k)).map vi) * (A * (prX D vG vR p gx k * F))) w1 → Calls Tryz.prog 25 #[vp D.a, u] w1 fun e w' => e = .returned (.tuple #[]) ∧ RdI w' v (takeG D.m (p k)) ∧ ∃ vG', Sat w0 (prO D vG' vR (up p k (takeY D.m (p k))) (gx ++ takeS D.m (p k)) * F) w') := Lib.hid fun w1 A v u hT hB hS => by
    refine (pr_spill hS (by omega)).mono ?_
    rintro e w' ⟨he, vG', h2⟩
    exact ⟨he, hT _ _ _ h2, vG', pr_in (y := takeY D.m (p k)) (hB _ _ _ h2) hk rfl rfl rfl rfl⟩
  rw [ht] at HT ⊢
  generalize takeG D.m (p k) = tg at *
  generalize ((p k).b && t) = rb at *
  unfold Ar.v at c1
  have HK := Lib.hid hk
  obtain ⟨lf, hlf⟩ : ∃ lf, (p k).left = lf := ⟨_, rfl⟩
  rw [hlf] at r2 ht
  have HLF := Lib.hid hlf
  clear h hk hsl hl r1 r3 hlf hx
  go_enter Tryz.func38, Tryz.ntmps38
  go_wp2_with (go_at_call 73; refine HI.out.mono ?_; rintro e w' ⟨rfl, rfl⟩)
  go_region_held3 (fun w' => w'.cell? ⟨D.s, 0, none⟩ = some (.slice (some ⟨D.sb, 0, none⟩) D.n D.cap) ∧ w'.cell? ⟨D.s, 1, none⟩ = some (vp D.a) ∧ w'.cell? ⟨D.sb, k * 4, none⟩ = some (vp (D.q k)) ∧ w'.cell? ⟨D.sb, k * 4 + 2, none⟩ = some (vi lf)) (first | exact ⟨c1, c2, r0, r2⟩ | exact ⟨g0, g3, g1, g2⟩)
    ((go_at_call 86; refine HT.out.mono ?_; rintro e w1 ⟨v, u, A, rfl, hT, hB, hS⟩; have hx := prX_cells hS.dropL.dropL HK.out; have g0 := hx.1; have g1 := hx.2.2.1; have g2 := HLF.out ▸ hx.2.2.2.2; have g3 := hx.2.1; have H1 := Lib.hid (HB.out _ _ _ _ hT hB hS); clear hS hx hT hB))
  all_goals go_wp2_with (go_at_call 25; refine H1.out.mono ?_; rintro e w2 ⟨rfl, hR2, vG', hS2⟩; have H2 := Lib.hid hS2; have HR2 := Lib.hid hR2; clear hS2 hR2)
  all_goals go_ret2
  all_goals exact ⟨_, _, rfl, HR2.out, H2.out⟩
end
end Go.Proofs.YtjgemfgneiaabaaGreat.Pc

namespace Go.Proofs.YtjgemfgneiaabaaGreat.Pc
open Go.RowKit Rq Gq
set_option linter.unusedVariables false
set_option linter.unusedSimpArgs false

section
variable {w0 w : World} {F : Hp} {D : Ar} {p : Nat → Pl} {gx : List Int} {vG : Value} {vR : Nat → Value}
/-- What a walk needs to know of the cells. -/
abbrev Fx (D : Ar) (k : Nat) (w : World) : Prop := w.cell? ⟨D.s, 0, none⟩ = some (.slice (some ⟨D.sb, 0, none⟩) D.n D.cap) ∧ w.cell? ⟨D.s, 1, none⟩ = some (vp D.a) ∧ w.cell? ⟨D.sb, k * 4, none⟩ = some (vp (D.q k))
theorem pr_fx {k : Nat} (h : Sat w0 (prO D vG vR p gx * F) w) (hk : k < D.n) : Fx D k w := ⟨(pr_cells h).1, (pr_cells h).2, (pr_row h hk).1⟩
theorem prX_fx {k : Nat} (h : Sat w0 (prX D vG vR p gx k * F) w) (hk : k < D.n) : Fx D k w := ⟨(prX_cells h hk).1, (prX_cells h hk).2.1, (prX_cells h hk).2.2.1⟩
/-- One is put into a P's ring, what is spilled goes to the global queue. -/
theorem pr_put3 (X : World → Prop) (hX : ∀ w', Sat w0 F w' → X w') {xs : List Int} {z g : Int} {b : Bool} {y : Pl} {k : Nat} (h : Sat w0 (refQ (D.q k) D.m xs z b * (prX D vG vR p gx k * F)) w) (ho : D.Ok) (hk : k < D.n) (hx : xs.length ≤ D.m) (hl : gx.length ≤ 999000)
    (e1 : y.xs = putL D.m xs g) (e2 : y.z = z) (e3 : y.b = b) (h1 : y.g = (p k).g) (h2 : y.runs = (p k).runs) (h3 : y.left = (p k).left) (h4 : y.turns = (p k).turns) :
    Calls Tryz.prog 75 #[vp (D.q k), vi g] w fun e w' => ∃ v, e = .returned v ∧ Fx D k w' ∧ X w' ∧ Calls Tryz.prog 25 #[vp D.a, v] w' fun e w'' => e = .returned (.tuple #[]) ∧ Fx D k w'' ∧ X w'' ∧ ∃ vG', Sat w0 (prO D vG' vR (up p k y) (gx ++ spillL D.m xs g) * F) w'' := by
  refine (r_put' h hx ho.m2 (by have := ho.m32; omega) g).mono ?_
  rintro e w' ⟨v, he, hS⟩
  refine ⟨v, he, prX_fx hS.dropL.dropL hk, hX _ hS.dropL.dropL.dropL, ?_⟩
  have hsl := spill_len (m := D.m) (xs := xs) g
  have hm := ho.m32
  refine (pr_spill hS (by omega)).mono ?_
  rintro e w'' ⟨he2, vG', h5⟩
  refine ⟨he2, prX_fx h5.dropL hk, hX _ h5.dropL.dropL, vG', pr_in (y := y) (by rw [e1, e2, e3]; exact h5) hk h1 h2 h3 h4⟩
/-- One is put into a P's ring, what is spilled goes to the global queue. -/
theorem pr_put2 {xs : List Int} {z g : Int} {b : Bool} {y : Pl} {k : Nat} (h : Sat w0 (refQ (D.q k) D.m xs z b * (prX D vG vR p gx k * F)) w) (ho : D.Ok) (hk : k < D.n) (hx : xs.length ≤ D.m) (hl : gx.length ≤ 999000)
    (e1 : y.xs = putL D.m xs g) (e2 : y.z = z) (e3 : y.b = b) (h1 : y.g = (p k).g) (h2 : y.runs = (p k).runs) (h3 : y.left = (p k).left) (h4 : y.turns = (p k).turns) :
    Calls Tryz.prog 75 #[vp (D.q k), vi g] w fun e w' => ∃ v, e = .returned v ∧ Fx D k w' ∧ Calls Tryz.prog 25 #[vp D.a, v] w' fun e w'' => e = .returned (.tuple #[]) ∧ Fx D k w'' ∧ ∃ vG', Sat w0 (prO D vG' vR (up p k y) (gx ++ spillL D.m xs g) * F) w'' := by
  refine (pr_put3 (fun _ => True) (fun _ _ => trivial) h ho hk hx hl e1 e2 e3 h1 h2 h3 h4).mono ?_
  rintro e w' ⟨v, he, hf, _, hB⟩
  refine ⟨v, he, hf, hB.mono ?_⟩
  rintro e w'' ⟨he, hf, _, hS⟩
  exact ⟨he, hf, hS⟩
set_option maxRecDepth 100000 in
theorem pr_kick_no (h : Sat w0 (prO D vG vR p gx * F) w) (k : Int) (hk : inP D.n k = false) : Calls Tryz.prog 42 #[vp D.s, vi k] w fun e w' => e = .returned (.tuple #[]) ∧ w = w' := by
  have HI := Lib.hid (pr_is h k)
  rw [hk] at HI
  clear h hk
  go_enter Tryz.func42, Tryz.ntmps42
  go_wp2_with (go_at_call 73; refine HI.out.mono ?_; rintro e w' ⟨rfl, rfl⟩)
  refine bodyPost_ret (results_none rfl _ _ _) rfl ?_
  exact ⟨rfl, rfl⟩
set_option maxRecDepth 100000 in
theorem pr_kick_nil (h : Sat w0 (prO D vG vR p gx * F) w) (k : Nat) (hk : k < D.n) (hb : (p k).b = false) : Calls Tryz.prog 42 #[vp D.s, vi k] w fun e w' => e = .returned (.tuple #[]) ∧ w = w' := by
  obtain ⟨c1, r0, r1, r2, r3⟩ : w.cell? ⟨D.s, 0, none⟩ = some D.v ∧ _ := ⟨(pr_cells h).1, pr_row h hk⟩
  have hki : (k : Int) < (D.n : Int) := by omega
  have HI := Lib.hid (pr_is h (k : Int))
  rw [inP_nat hk] at HI
  obtain ⟨vL, vN, h1⟩ := refQ_open (pr_out h hk)
  rw [hb] at h1
  have e2 := h1.cell 2 rfl
  obtain ⟨aN, cN, rfl⟩ : ∃ aN cN, vN = .slice aN 0 cN := (rsRdI h1.pull3).len
  unfold Ar.v at c1
  clear h hk hb h1 r1 r2 r3
  go_enter Tryz.func42, Tryz.ntmps42
  go_wp2_with (go_at_call 73; refine HI.out.mono ?_; rintro e w' ⟨rfl, rfl⟩)
  refine bodyPost_ret (results_none rfl _ _ _) rfl ?_
  exact ⟨rfl, rfl⟩
set_option maxRecDepth 100000 in
set_option maxHeartbeats 4000000 in
theorem pr_kick_at (h : Sat w0 (prO D vG vR p gx * F) w) (ho : D.Ok) (k : Nat) (hk : k < D.n) (hx : (p k).xs.length ≤ D.m) (hb : (p k).b = true) (hl : gx.length ≤ 999000) :
    Calls Tryz.prog 42 #[vp D.s, vi k] w fun e w' => e = .returned (.tuple #[]) ∧ ∃ vG', Sat w0 (prO D vG' vR (up p k (putY D.m (dropY (p k)) (p k).z)) (gx ++ spillL D.m (p k).xs (p k).z) * F) w' := by
  obtain ⟨c1, r0, r1, r2, r3⟩ : w.cell? ⟨D.s, 0, none⟩ = some D.v ∧ _ := ⟨(pr_cells h).1, pr_row h hk⟩
  have hki : (k : Int) < (D.n : Int) := by omega
  have HI := Lib.hid (pr_is h (k : Int))
  rw [inP_nat hk] at HI
  obtain ⟨vL, vN, h1⟩ := refQ_open (pr_out h hk)
  rw [hb] at h1
  have e2 := h1.cell 2 rfl
  have f2 := h1.free 2
  obtain ⟨aN, cN, rfl⟩ : ∃ aN cN, vN = .slice aN 1 cN := (rsRdI h1.pull3).len
  obtain ⟨bN, oN, rfl, hcz⟩ := (rsRdI h1.pull3).at_ (by simp [nsOf])
  have cz : w.cell? ⟨bN, oN, none⟩ = some (vi (p k).z) := by simpa [nsOf] using hcz 0 (by simp [nsOf])
  have h3 : Sat w0 (rqB (D.q k) D.m vL (.slice none 0 0) * (rs 3 vL ((p k).xs.map vi) * (prX D vG vR p gx k * F))) (w.setCell ⟨D.q k, 2, none⟩ (.slice none 0 0)) := (h1.store 2 (.slice none 0 0)).drop3
  have h4 : Sat w0 (refQ (D.q k) D.m (p k).xs (p k).z false * (prX D vG vR p gx k * F)) (w.setCell ⟨D.q k, 2, none⟩ (.slice none 0 0)) := refQ_shut (z := (p k).z) (b := false) (h3.rsNil 3).rot3
  obtain ⟨a1, a2, a3⟩ := prX_fx h4.dropL hk
  have HP := Lib.hid (pr_put2 (y := putY D.m (dropY (p k)) (p k).z) (g := (p k).z) h4.drew ho hk hx hl rfl rfl rfl rfl rfl rfl rfl)
  unfold Ar.v at c1
  clear h hk hb h1 h3 h4 hcz hx hl r1 r2 r3
  generalize (p k).z = z at *
  generalize (p k).xs = xs at *
  go_enter Tryz.func42, Tryz.ntmps42
  go_wp2_with (go_at_call 73; refine HI.out.mono ?_; rintro e w' ⟨rfl, rfl⟩)
  go_region_held3 (fun w' => w'.cell? ⟨D.s, 0, none⟩ = some (.slice (some ⟨D.sb, 0, none⟩) D.n D.cap) ∧ w'.cell? ⟨D.s, 1, none⟩ = some (vp D.a) ∧ w'.cell? ⟨D.sb, k * 4, none⟩ = some (vp (D.q k))) (first | (with_reducible exact g2) | (with_reducible exact g1) | exact ⟨a1, a2, a3⟩)
    (first
      | (go_at_call 75; refine HP.out.mono ?_; rintro e w1 ⟨v, rfl, g1, hB⟩; have HB := Lib.hid hB; clear hB)
      | (go_at_call 25; refine HB.out.mono ?_; rintro e w2 ⟨rfl, g2, vG', hS2⟩; have H2 := Lib.hid hS2; clear hS2))
  all_goals go_end0
  all_goals exact ⟨rfl, _, H2.out⟩
end
end Go.Proofs.YtjgemfgneiaabaaGreat.Pc
