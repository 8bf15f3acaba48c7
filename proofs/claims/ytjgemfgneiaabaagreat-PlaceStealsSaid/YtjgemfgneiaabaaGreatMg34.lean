/-
  The reference's places: what a view under way owns; one. No statement is proved here.
-/
import Derived.Test.YtjgemfgneiaabaaGreatPr17
import Derived.Test.YtjgemfgneiaabaaGreatMg18
import Derived.Test.YtjgemfgneiaabaaGreatMg19
namespace Go.Proofs.YtjgemfgneiaabaaGreat.Pc
open Go.RowKit Rq Gq
set_option linter.unusedVariables false
set_option linter.unusedSimpArgs false

section
variable {w0 w : World} {F G : Hp} {p : Nat → Pl} {rv : Nat → Value} {bL j j1 j2 j3 j4 j5 : Nat} {o1 o2 o3 o4 o5 o : Value}
set_option maxRecDepth 100000 in
theorem one19 {v : Value} {g : Int} {b : Bool} (hR : RdI w v (nsOf g b)) : Calls Tryz.prog 76 #[v] w fun e w' => e = .returned (vi (someV g b)) ∧ w = w' := by
  obtain ⟨ao, cap, hv⟩ := hR.len
  cases b with
  | false =>
    have hv : v = .slice ao 0 cap := hv
    subst hv
    clear hR
    go_enter Tryz.func76, Tryz.ntmps76
    go_wp2
    go_ret
    exact ⟨rfl, rfl⟩
  | true =>
    have hv : v = .slice ao 1 cap := hv
    subst hv
    have hR : RdI w (.slice ao 1 cap) [g] := hR
    obtain ⟨b, off, rfl, hc⟩ := hR.at_ (by simp)
    have c0 : w.cell? ⟨b, off, none⟩ = some (vi g) := by simpa using hc 0 (by simp)
    clear hR hc
    go_enter Tryz.func76, Tryz.ntmps76
    go_wp2
    go_ret
    exact ⟨rfl, rfl⟩
/-- A view under way: so many rows of each list. -/
def vwB (bL : Nat) (p : Nat → Pl) (rv : Nat → Value) (j1 j2 j3 j4 j5 : Nat) (o1 o2 o3 o4 o5 : Value) : Hp := pc bL 47 [o1, o2, o3, o4, o5, .slice none 0 0] * (sl 3 1 o1 (j1) (rowsN (fun k => [vi (someV (p k).g (p k).runs)]) j1) * (sl 3 1 o2 (j2) (rowsN (fun k => [vi (someV (p k).z (p k).b)]) j2) * (sl 41 1 o3 (j3) (rowsN (fun k => [rv k]) j3) * (star (fun i => rs 3 (rv i) ((p i).xs.map vi)) j3 * (sl 3 1 o4 (j4) (rowsN (fun k => [vi (p k).left]) j4) * (sl 62 1 o5 (j5) (rowsN (fun k => [vu (p k).turns]) j5)))))))
theorem vw_out1 (h : Sat w0 (vwB bL p rv j1 j2 j3 j4 j5 o1 o2 o3 o4 o5 * G) w) : Sat w0 (sl 3 1 o1 (j1) (rowsN (fun k => [vi (someV (p k).g (p k).runs)]) j1) * (pc bL 47 [o1, o2, o3, o4, o5, .slice none 0 0] * ((sl 3 1 o2 (j2) (rowsN (fun k => [vi (someV (p k).z (p k).b)]) j2) * (sl 41 1 o3 (j3) (rowsN (fun k => [rv k]) j3) * (star (fun i => rs 3 (rv i) ((p i).xs.map vi)) j3 * (sl 3 1 o4 (j4) (rowsN (fun k => [vi (p k).left]) j4) * (sl 62 1 o5 (j5) (rowsN (fun k => [vu (p k).turns]) j5)))))) * G))) w := h.cast (by unfold vwB; ac_rfl)
theorem vw_in1 (h : Sat w0 (pc bL 47 [o, o2, o3, o4, o5, .slice none 0 0] * (sl 3 1 o (j1 + 1) (rowsN (fun k => [vi (someV (p k).g (p k).runs)]) j1 ++ [vi (someV (p j1).g (p j1).runs)]) * ((sl 3 1 o2 (j2) (rowsN (fun k => [vi (someV (p k).z (p k).b)]) j2) * (sl 41 1 o3 (j3) (rowsN (fun k => [rv k]) j3) * (star (fun i => rs 3 (rv i) ((p i).xs.map vi)) j3 * (sl 3 1 o4 (j4) (rowsN (fun k => [vi (p k).left]) j4) * (sl 62 1 o5 (j5) (rowsN (fun k => [vu (p k).turns]) j5)))))) * G))) w) : Sat w0 (vwB bL p rv (j1 + 1) j2 j3 j4 j5 o o2 o3 o4 o5 * G) w := h.cast (by
  unfold vwB
  rw [rowsN_succ (fun k => [vi (someV (p k).g (p k).runs)]) j1]
  ac_rfl)
theorem vw_out2 (h : Sat w0 (vwB bL p rv j1 j2 j3 j4 j5 o1 o2 o3 o4 o5 * G) w) : Sat w0 (sl 3 1 o2 (j2) (rowsN (fun k => [vi (someV (p k).z (p k).b)]) j2) * (pc bL 47 [o1, o2, o3, o4, o5, .slice none 0 0] * ((sl 3 1 o1 (j1) (rowsN (fun k => [vi (someV (p k).g (p k).runs)]) j1) * (sl 41 1 o3 (j3) (rowsN (fun k => [rv k]) j3) * (star (fun i => rs 3 (rv i) ((p i).xs.map vi)) j3 * (sl 3 1 o4 (j4) (rowsN (fun k => [vi (p k).left]) j4) * (sl 62 1 o5 (j5) (rowsN (fun k => [vu (p k).turns]) j5)))))) * G))) w := h.cast (by unfold vwB; ac_rfl)
theorem vw_in2 (h : Sat w0 (pc bL 47 [o1, o, o3, o4, o5, .slice none 0 0] * (sl 3 1 o (j2 + 1) (rowsN (fun k => [vi (someV (p k).z (p k).b)]) j2 ++ [vi (someV (p j2).z (p j2).b)]) * ((sl 3 1 o1 (j1) (rowsN (fun k => [vi (someV (p k).g (p k).runs)]) j1) * (sl 41 1 o3 (j3) (rowsN (fun k => [rv k]) j3) * (star (fun i => rs 3 (rv i) ((p i).xs.map vi)) j3 * (sl 3 1 o4 (j4) (rowsN (fun k => [vi (p k).left]) j4) * (sl 62 1 o5 (j5) (rowsN (fun k => [vu (p k).turns]) j5)))))) * G))) w) : Sat w0 (vwB bL p rv j1 (j2 + 1) j3 j4 j5 o1 o o3 o4 o5 * G) w := h.cast (by
  unfold vwB
  rw [rowsN_succ (fun k => [vi (someV (p k).z (p k).b)]) j2]
  ac_rfl)
theorem vw_out3 (h : Sat w0 (vwB bL p rv j1 j2 j3 j4 j5 o1 o2 o3 o4 o5 * G) w) : Sat w0 (sl 41 1 o3 (j3) (rowsN (fun k => [rv k]) j3) * (pc bL 47 [o1, o2, o3, o4, o5, .slice none 0 0] * ((sl 3 1 o1 (j1) (rowsN (fun k => [vi (someV (p k).g (p k).runs)]) j1) * (sl 3 1 o2 (j2) (rowsN (fun k => [vi (someV (p k).z (p k).b)]) j2) * (star (fun i => rs 3 (rv i) ((p i).xs.map vi)) j3 * (sl 3 1 o4 (j4) (rowsN (fun k => [vi (p k).left]) j4) * (sl 62 1 o5 (j5) (rowsN (fun k => [vu (p k).turns]) j5)))))) * G))) w := h.cast (by unfold vwB; ac_rfl)
theorem vw_in3 {v : Value} (h : Sat w0 (pc bL 47 [o1, o2, o, o4, o5, .slice none 0 0] * (sl 41 1 o (j3 + 1) (rowsN (fun k => [rv k]) j3 ++ [v]) * ((sl 3 1 o1 (j1) (rowsN (fun k => [vi (someV (p k).g (p k).runs)]) j1) * (sl 3 1 o2 (j2) (rowsN (fun k => [vi (someV (p k).z (p k).b)]) j2) * (star (fun i => rs 3 (rv i) ((p i).xs.map vi)) j3 * (sl 3 1 o4 (j4) (rowsN (fun k => [vi (p k).left]) j4) * (sl 62 1 o5 (j5) (rowsN (fun k => [vu (p k).turns]) j5)))))) * (rs 3 v ((p j3).xs.map vi) * G)))) w) : Sat w0 (vwB bL p (fun i => if i = j3 then v else rv i) j1 j2 (j3 + 1) j4 j5 o1 o2 o o4 o5 * G) w := h.cast (by
  have e1 : rowsN (fun k => [(fun i => if i = j3 then v else rv i) k]) (j3 + 1) = rowsN (fun k => [rv k]) j3 ++ [v] := by
    rw [rowsN_succ, rowsN_congr (row' := fun k => [rv k]) (fun i hi => by dsimp only; rw [if_neg (by omega)])]
    dsimp only
    rw [if_pos rfl]
  have e2 : star (fun i => rs 3 ((fun i => if i = j3 then v else rv i) i) ((p i).xs.map vi)) (j3 + 1) = star (fun i => rs 3 (rv i) ((p i).xs.map vi)) j3 * rs 3 v ((p j3).xs.map vi) := by
    rw [star_succ, star_congr (g := fun i => rs 3 (rv i) ((p i).xs.map vi)) (fun i hi => by dsimp only; rw [if_neg (by omega)])]
    dsimp only
    rw [if_pos rfl]
  unfold vwB
  rw [e1, e2]
  ac_rfl)
theorem vw_out4 (h : Sat w0 (vwB bL p rv j1 j2 j3 j4 j5 o1 o2 o3 o4 o5 * G) w) : Sat w0 (sl 3 1 o4 (j4) (rowsN (fun k => [vi (p k).left]) j4) * (pc bL 47 [o1, o2, o3, o4, o5, .slice none 0 0] * ((sl 3 1 o1 (j1) (rowsN (fun k => [vi (someV (p k).g (p k).runs)]) j1) * (sl 3 1 o2 (j2) (rowsN (fun k => [vi (someV (p k).z (p k).b)]) j2) * (sl 41 1 o3 (j3) (rowsN (fun k => [rv k]) j3) * (star (fun i => rs 3 (rv i) ((p i).xs.map vi)) j3 * (sl 62 1 o5 (j5) (rowsN (fun k => [vu (p k).turns]) j5)))))) * G))) w := h.cast (by unfold vwB; ac_rfl)
theorem vw_in4 (h : Sat w0 (pc bL 47 [o1, o2, o3, o, o5, .slice none 0 0] * (sl 3 1 o (j4 + 1) (rowsN (fun k => [vi (p k).left]) j4 ++ [vi (p j4).left]) * ((sl 3 1 o1 (j1) (rowsN (fun k => [vi (someV (p k).g (p k).runs)]) j1) * (sl 3 1 o2 (j2) (rowsN (fun k => [vi (someV (p k).z (p k).b)]) j2) * (sl 41 1 o3 (j3) (rowsN (fun k => [rv k]) j3) * (star (fun i => rs 3 (rv i) ((p i).xs.map vi)) j3 * (sl 62 1 o5 (j5) (rowsN (fun k => [vu (p k).turns]) j5)))))) * G))) w) : Sat w0 (vwB bL p rv j1 j2 j3 (j4 + 1) j5 o1 o2 o3 o o5 * G) w := h.cast (by
  unfold vwB
  rw [rowsN_succ (fun k => [vi (p k).left]) j4]
  ac_rfl)
theorem vw_out5 (h : Sat w0 (vwB bL p rv j1 j2 j3 j4 j5 o1 o2 o3 o4 o5 * G) w) : Sat w0 (sl 62 1 o5 (j5) (rowsN (fun k => [vu (p k).turns]) j5) * (pc bL 47 [o1, o2, o3, o4, o5, .slice none 0 0] * ((sl 3 1 o1 (j1) (rowsN (fun k => [vi (someV (p k).g (p k).runs)]) j1) * (sl 3 1 o2 (j2) (rowsN (fun k => [vi (someV (p k).z (p k).b)]) j2) * (sl 41 1 o3 (j3) (rowsN (fun k => [rv k]) j3) * (star (fun i => rs 3 (rv i) ((p i).xs.map vi)) j3 * (sl 3 1 o4 (j4) (rowsN (fun k => [vi (p k).left]) j4)))))) * G))) w := h.cast (by unfold vwB; ac_rfl)
theorem vw_in5 (h : Sat w0 (pc bL 47 [o1, o2, o3, o4, o, .slice none 0 0] * (sl 62 1 o (j5 + 1) (rowsN (fun k => [vu (p k).turns]) j5 ++ [vu (p j5).turns]) * ((sl 3 1 o1 (j1) (rowsN (fun k => [vi (someV (p k).g (p k).runs)]) j1) * (sl 3 1 o2 (j2) (rowsN (fun k => [vi (someV (p k).z (p k).b)]) j2) * (sl 41 1 o3 (j3) (rowsN (fun k => [rv k]) j3) * (star (fun i => rs 3 (rv i) ((p i).xs.map vi)) j3 * (sl 3 1 o4 (j4) (rowsN (fun k => [vi (p k).left]) j4)))))) * G))) w) : Sat w0 (vwB bL p rv j1 j2 j3 j4 (j5 + 1) o1 o2 o3 o4 o * G) w := h.cast (by
  unfold vwB
  rw [rowsN_succ (fun k => [vu (p k).turns]) j5]
  ac_rfl)
theorem vw_forms (h : Sat w0 (vwB bL p rv j1 j2 j3 j4 j5 o1 o2 o3 o4 o5 * G) w) : (∃ a c, o1 = .slice a j1 c) ∧ (∃ a c, o2 = .slice a j2 c) ∧ (∃ a c, o3 = .slice a j3 c) ∧ (∃ a c, o4 = .slice a j4 c) ∧ (∃ a c, o5 = .slice a j5 c) :=
  ⟨(vw_out1 h).rd.len, (vw_out2 h).rd.len, (vw_out3 h).rd.len, (vw_out4 h).rd.len, (vw_out5 h).rd.len⟩
end
end Go.Proofs.YtjgemfgneiaabaaGreat.Pc

namespace Go.Proofs.YtjgemfgneiaabaaGreat.Pc
open Go.RowKit Rq Gq
set_option linter.unusedVariables false
set_option linter.unusedSimpArgs false

def l1 (p : Nat → Pl) (n : Nat) : List Int := (List.range n).map fun k => someV (p k).g (p k).runs
def l2 (p : Nat → Pl) (n : Nat) : List Int := (List.range n).map fun k => someV (p k).z (p k).b
def l4 (p : Nat → Pl) (n : Nat) : List Int := (List.range n).map fun k => (p k).left
theorem rows_map (f : Nat → Int) (n : Nat) : rowsN (fun k => [vi (f k)]) n = ((List.range n).map f).map vi := by
  unfold rowsN
  rw [List.map_map]
  induction List.range n with
  | nil => rfl
  | cons x r ih => rw [List.flatMap_cons, ih]; rfl
theorem sameI_self (xs : List Int) : sameI xs xs = true := by
  unfold sameI
  simp
/-- What a layout reads. -/
structure LayRd (w : World) (n : Nat) (p : Nat → Pl) (gx : List Int) (v1 v2 v3 v4 v5 v6 : Value) (rv : Nat → Value) : Prop where
  r1 : RdI w v1 (l1 p n)
  r2 : RdI w v2 (l2 p n)
  r3 : ∃ b o c, v3 = .slice (some ⟨b, o, none⟩) n c ∧ ∀ i, i < n → w.cell? ⟨b, o + i, none⟩ = some (rv i)
  rx : ∀ i, i < n → RdI w (rv i) (p i).xs
  r4 : RdI w v4 (l4 p n)
  r5 : ∃ b o c, v5 = .slice (some ⟨b, o, none⟩) n c ∧ ∀ i, i < n → w.cell? ⟨b, o + i, none⟩ = some (vu (p i).turns)
  r6 : RdI w v6 gx
section
variable {w0 w : World} {F : Hp} {p : Nat → Pl} {gx : List Int} {n : Nat} {v1 v2 v3 v4 v5 v6 u1 u2 u3 u4 u5 u6 : Value} {rv ru : Nat → Value}
theorem rdRows {ty : TypeId} {f : Nat → Int} {v : Value} (h : Sat w0 (sl ty 1 v n (rowsN (fun k => [vi (f k)]) n) * F) w) : RdI w v ((List.range n).map f) := by
  have h1 := h.rd
  rw [rows_map] at h1
  unfold RdI
  rw [List.length_map, List.length_range]
  exact h1
theorem lay_ok (h : Sat w0 (layB n p gx v1 v2 v3 v4 v5 v6 rv * F) w) (hn : n ≠ 0) : LayRd w n p gx v1 v2 v3 v4 v5 v6 rv := by
  have h1 := lay_flat h
  have h2 := h1.dropL
  have h3 := h2.dropL
  have h4 := h3.dropL
  have h5 := h4.dropL
  have h6 := h5.dropL
  have h7 := h6.dropL
  refine ⟨rdRows h1, rdRows h2, ?_, ?_, rdRows h5, ?_, h7.rd⟩
  · obtain ⟨b, o, c, hv, hc⟩ := h3.rd.pos hn
    exact ⟨b, o, c, hv, fun i hi => hc i _ (rows_at hi)⟩
  · intro i hi
    have h9 := (Sat.star_out h4 hi).rsRd
    unfold RdI
    rw [List.length_map] at h9
    exact h9
  · obtain ⟨b, o, c, hv, hc⟩ := h6.rd.pos hn
    exact ⟨b, o, c, hv, fun i hi => hc i _ (rows_at hi)⟩
theorem same_call {F : Hp} {v u : Value} {xs : List Int} (hl : xs.length ≤ 1000000) (h : Sat w0 F w) (ha : RdI w v xs) (hb : RdI w u xs) : Calls Tryz.prog 72 #[v, u] w fun e w' => e = .returned (.bool true) ∧ Sat w0 F w' := by
  refine (ref_same xs xs v u w ha hb hl hl).mono ?_
  rintro e w' ⟨he, k, rfl⟩
  rw [sameI_self] at he
  exact ⟨he, h.drewN k⟩
set_option maxRecDepth 100000 in
set_option maxHeartbeats 8000000 in
theorem lay_same (h : Sat w0 F w) (hn : n ≠ 0) (hn8 : n ≤ 8) (hx : ∀ i, i < n → (p i).xs.length ≤ 32) (hg : gx.length ≤ 1000000) (ha : ∀ w', Sat w0 F w' → LayRd w' n p gx v1 v2 v3 v4 v5 v6 rv) (hb : ∀ w', Sat w0 F w' → LayRd w' n p gx u1 u2 u3 u4 u5 u6 ru) :
    Calls Tryz.prog 16 #[.agg #[v1, v2, v3, v4, v5, v6], .agg #[u1, u2, u3, u4, u5, u6]] w fun e w' => e = .returned (.bool true) ∧ Sat w0 F w' := by
  obtain ⟨B, hB⟩ : ∃ B : Hp, B = pc (w.heap.size + 1) 47 [u1, u2, u3, u4, u5, u6] * (pc w.heap.size 47 [v1, v2, v3, v4, v5, v6] * F) := ⟨_, rfl⟩
  have hS0 : Sat w0 B ((w.alloc (.cells #[v1, v2, v3, v4, v5, v6] 47)).alloc (.cells #[u1, u2, u3, u4, u5, u6] 47)) := by
    have h4 := (h.alloc (.cells #[v1, v2, v3, v4, v5, v6] 47)).alloc (.cells #[u1, u2, u3, u4, u5, u6] 47)
    simp only [World.size_alloc] at h4
    rw [hB]
    exact h4
  have hcu : ∀ w', Sat w0 B w' → w'.cell? ⟨w.heap.size + 1, 0, none⟩ = some u1 ∧ w'.cell? ⟨w.heap.size + 1, 1, none⟩ = some u2 ∧ w'.cell? ⟨w.heap.size + 1, 2, none⟩ = some u3 ∧ w'.cell? ⟨w.heap.size + 1, 3, none⟩ = some u4 ∧ w'.cell? ⟨w.heap.size + 1, 4, none⟩ = some u5 ∧ w'.cell? ⟨w.heap.size + 1, 5, none⟩ = some u6 := fun w' h' => by
    rw [hB] at h'
    exact ⟨h'.cell 0 rfl, h'.cell 1 rfl, h'.cell 2 rfl, h'.cell 3 rfl, h'.cell 4 rfl, h'.cell 5 rfl⟩
  have hcv : ∀ w', Sat w0 B w' → w'.cell? ⟨w.heap.size, 0, none⟩ = some v1 ∧ w'.cell? ⟨w.heap.size, 1, none⟩ = some v2 ∧ w'.cell? ⟨w.heap.size, 2, none⟩ = some v3 ∧ w'.cell? ⟨w.heap.size, 3, none⟩ = some v4 ∧ w'.cell? ⟨w.heap.size, 4, none⟩ = some v5 ∧ w'.cell? ⟨w.heap.size, 5, none⟩ = some v6 := fun w' h' => by
    rw [hB] at h'
    have h' := h'.dropL
    exact ⟨h'.cell 0 rfl, h'.cell 1 rfl, h'.cell 2 rfl, h'.cell 3 rfl, h'.cell 4 rfl, h'.cell 5 rfl⟩
  have ha' : ∀ w', Sat w0 B w' → LayRd w' n p gx v1 v2 v3 v4 v5 v6 rv := fun w' h' => ha w' (by rw [hB] at h'; exact h'.dropL.dropL)
  have hb' : ∀ w', Sat w0 B w' → LayRd w' n p gx u1 u2 u3 u4 u5 u6 ru := fun w' h' => hb w' (by rw [hB] at h'; exact h'.dropL.dropL)
  have hout : ∀ w', Sat w0 B w' → Sat w0 F w' := fun w' h' => by rw [hB] at h'; exact h'.dropL.dropL
  obtain ⟨a1, n1, k1, hv1⟩ : ∃ a n c, v1 = .slice a n c := by obtain ⟨a, c, hv⟩ := (ha w h).r1.len; exact ⟨_, _, _, hv⟩
  obtain ⟨a2, n2, k2, hv2⟩ : ∃ a n c, v2 = .slice a n c := by obtain ⟨a, c, hv⟩ := (ha w h).r2.len; exact ⟨_, _, _, hv⟩
  obtain ⟨a4, n4, k4, hv4⟩ : ∃ a n c, v4 = .slice a n c := by obtain ⟨a, c, hv⟩ := (ha w h).r4.len; exact ⟨_, _, _, hv⟩
  obtain ⟨a6, n6, k6, hv6⟩ : ∃ a n c, v6 = .slice a n c := by obtain ⟨a, c, hv⟩ := (ha w h).r6.len; exact ⟨_, _, _, hv⟩
  obtain ⟨b1, m1, c1, hu1⟩ : ∃ a n c, u1 = .slice a n c := by obtain ⟨a, c, hv⟩ := (hb w h).r1.len; exact ⟨_, _, _, hv⟩
  obtain ⟨b2, m2, c2, hu2⟩ : ∃ a n c, u2 = .slice a n c := by obtain ⟨a, c, hv⟩ := (hb w h).r2.len; exact ⟨_, _, _, hv⟩
  obtain ⟨b4, m4, c4, hu4⟩ : ∃ a n c, u4 = .slice a n c := by obtain ⟨a, c, hv⟩ := (hb w h).r4.len; exact ⟨_, _, _, hv⟩
  obtain ⟨b6, m6, c6, hu6⟩ : ∃ a n c, u6 = .slice a n c := by obtain ⟨a, c, hv⟩ := (hb w h).r6.len; exact ⟨_, _, _, hv⟩
  have h3f := ha w h
  obtain ⟨e3, f3, g3, hv3, _⟩ := h3f.r3
  obtain ⟨e5, f5, g5, hv5, _⟩ := h3f.r5
  have h4f := hb w h
  obtain ⟨e3', f3', g3', hu3, _⟩ := h4f.r3
  obtain ⟨e5', f5', g5', hu5, _⟩ := h4f.r5
  clear h3f h4f h ha hb hB
  subst hv1 hv2 hv3 hv4 hv5 hv6 hu1 hu2 hu3 hu4 hu5 hu6
  have hl1 : (l1 p n).length ≤ 1000000 := by unfold l1; simp; omega
  have hl2 : (l2 p n).length ≤ 1000000 := by unfold l2; simp; omega
  have hl4 : (l4 p n).length ≤ 1000000 := by unfold l4; simp; omega
  have HC1 := Lib.hid fun w' (h' : Sat w0 B w') => same_call hl1 h' (ha' w' h').r1 (hb' w' h').r1
  have HC2 := Lib.hid fun w' (h' : Sat w0 B w') => same_call hl2 h' (ha' w' h').r2 (hb' w' h').r2
  have HC4 := Lib.hid fun w' (h' : Sat w0 B w') => same_call hl4 h' (ha' w' h').r4 (hb' w' h').r4
  have HC6 := Lib.hid fun w' (h' : Sat w0 B w') => same_call hg h' (ha' w' h').r6 (hb' w' h').r6
  have HS0 := Lib.hid hS0
  obtain ⟨l0, _⟩ := hcv _ hS0
  obtain ⟨q0, _⟩ := hcu _ hS0
  have HCV := Lib.hid hcv
  have HCU := Lib.hid hcu
  have HA := Lib.hid ha'
  have HBB := Lib.hid hb'
  have HX := Lib.hid hx
  have HOUT := Lib.hid hout
  have hnn : ((n : Int) != (n : Int)) = false := by simp
  clear hS0 hcv hcu ha' hb' hx hout hl1 hl2 hl4 hg
  go_enter Tryz.func16, Tryz.ntmps16
  go_wp2_with (first
    | (go_at_call 72; (with_reducible refine (HC1.out _ HS0.out).mono ?_); rintro e w1 ⟨rfl, hS⟩; obtain ⟨_, y1, _⟩ := HCV.out _ hS; obtain ⟨_, z1, _⟩ := HCU.out _ hS; have HS1 := Lib.hid hS; clear hS)
    | (go_at_call 72; (with_reducible refine (HC2.out _ HS1.out).mono ?_); rintro e w2 ⟨rfl, hS⟩; obtain ⟨_, _, _, y3, _⟩ := HCV.out _ hS; obtain ⟨_, _, _, z3, _⟩ := HCU.out _ hS; have HS2 := Lib.hid hS; clear hS)
    | (go_at_call 72; (with_reducible refine (HC4.out _ HS2.out).mono ?_); rintro e w3 ⟨rfl, hS⟩; obtain ⟨_, _, _, _, _, y5⟩ := HCV.out _ hS; obtain ⟨_, _, _, _, _, z5⟩ := HCU.out _ hS; have HS3 := Lib.hid hS; clear hS)
    | (go_at_call 72; (with_reducible refine (HC6.out _ HS3.out).mono ?_); rintro e w4 ⟨rfl, hS⟩; obtain ⟨_, _, y2, _, y4, _⟩ := HCV.out _ hS; obtain ⟨_, _, z2, _, z4, _⟩ := HCU.out _ hS; have HS4 := Lib.hid hS; clear hS))
  clear HC1 HC2 HC4 HC6 HS0 HS1 HS2 HS3 y2 y4 z2 z4
  go_loopw [5] (fun i wy => ∃ j : Nat, j ≤ n ∧ i = vi j ∧ Sat w0 B wy) (fun i _ => n - (intOf i).toNat)
  case atStart => exact ⟨0, Nat.zero_le _, rfl, HS4.out⟩
  case round =>
    clear HS4
    obtain ⟨j, hj, rfl, hS⟩ := hrel
    obtain ⟨_, _, y2, _, y4, _⟩ := HCV.out _ hS
    obtain ⟨_, _, z2, _, z4, _⟩ := HCU.out _ hS
    by_cases hlt : j < n
    · have hji : (j : Int) < (n : Int) := by omega
      have hj0 : (0 : Int) ≤ (j : Int) := by omega
      have hxj := HX.out j hlt
      have HF : Hid (∀ w', Sat w0 B w' → (w'.cell? ⟨w.heap.size, 2, none⟩ = some (.slice (some ⟨e3, f3, none⟩) n g3) ∧ w'.cell? ⟨w.heap.size + 1, 2, none⟩ = some (.slice (some ⟨e3', f3', none⟩) n g3') ∧ w'.cell? ⟨e3, f3 + j, none⟩ = some (rv j) ∧ w'.cell? ⟨e3', f3' + j, none⟩ = some (ru j))) := Lib.hid fun w' h' => by
        obtain ⟨_, _, y2, _⟩ := HCV.out _ h'
        obtain ⟨_, _, z2, _⟩ := HCU.out _ h'
        obtain ⟨b, o, c, hv, hc⟩ := (HA.out _ h').r3
        cases hv
        obtain ⟨b, o, c, hv, hc'⟩ := (HBB.out _ h').r3
        cases hv
        exact ⟨y2, z2, hc j hlt, hc' j hlt⟩
      have hf := HF.out _ hS
      have HC : Hid (∀ w', Sat w0 B w' → Calls Tryz.prog 72 #[rv j, ru j] w' fun e w'' => e = .returned (.bool true) ∧ Sat w0 B w'') := Lib.hid fun w' h' => same_call (by omega) h' ((HA.out _ h').rx j hlt) ((HBB.out _ h').rx j hlt)
      obtain ⟨ar, cr, hrv⟩ := ((HA.out _ hS).rx j hlt).len
      obtain ⟨at_, ct, hru⟩ := ((HBB.out _ hS).rx j hlt).len
      rw [hrv, hru] at HF HC hf
      obtain ⟨t1, t2, t3, t4⟩ := hf
      have HSD := Lib.hid hS.drew
      have HLT := Lib.hid hlt
      clear hS hrv hru hlt
      generalize (p j).xs.length = xl at *
      go_wp2
      go_region_held3 (fun w' => w'.cell? ⟨w.heap.size, 2, none⟩ = some (.slice (some ⟨e3, f3, none⟩) n g3) ∧ w'.cell? ⟨w.heap.size + 1, 2, none⟩ = some (.slice (some ⟨e3', f3', none⟩) n g3') ∧ w'.cell? ⟨e3, f3 + j, none⟩ = some (.slice ar xl cr) ∧ w'.cell? ⟨e3', f3' + j, none⟩ = some (.slice at_ xl ct)) (first | (with_reducible exact s9) | exact ⟨t1, t2, t3, t4⟩)
        ((go_at_call 72; refine (HC.out _ HSD.out).mono ?_; rintro e w9 ⟨rfl, hS⟩; have s9 := HF.out _ hS; have HS9 := Lib.hid hS; clear hS))
      all_goals go_wp2
      all_goals go_roundw
      all_goals first
        | exact ⟨j + 1, by have := HLT.out; omega, by go_num, HS9.out⟩
        | (have := HLT.out; simp [intOf]; omega)
    · obtain rfl : j = n := by omega
      have HS4 := Lib.hid hS
      clear hS
      go_wp2
      clear y2 y4 z2 z4
      go_loopw [6] (fun i wy => ∃ k : Nat, k ≤ j ∧ i = vi k ∧ Sat w0 B wy) (fun i _ => j - (intOf i).toNat)
      case atStart => exact ⟨0, Nat.zero_le _, rfl, HS4.out⟩
      case round =>
        clear HS4
        obtain ⟨k, hk, rfl, hS⟩ := hrel
        obtain ⟨_, _, y2, _, y4, _⟩ := HCV.out _ hS
        obtain ⟨_, _, z2, _, z4, _⟩ := HCU.out _ hS
        by_cases hlt : k < j
        · have hki : (k : Int) < (j : Int) := by omega
          have hk0 : (0 : Int) ≤ (k : Int) := by omega
          obtain ⟨b, o, c, hv, hc⟩ := (HA.out _ hS).r5
          cases hv
          obtain ⟨b, o, c, hv, hc'⟩ := (HBB.out _ hS).r5
          cases hv
          have t3 := hc k hlt
          have t4 := hc' k hlt
          have HSD := Lib.hid hS.drew
          have HLT := Lib.hid hlt
          clear hS hlt hc hc'
          generalize (p k).turns = tn at *
          have htn : (tn != tn) = false := by simp
          go_wp2
          go_region_held3 (fun w' => w'.cell? ⟨w.heap.size, 4, none⟩ = some (.slice (some ⟨e5, f5, none⟩) j g5) ∧ w'.cell? ⟨w.heap.size + 1, 4, none⟩ = some (.slice (some ⟨e5', f5', none⟩) j g5') ∧ w'.cell? ⟨e5, f5 + k, none⟩ = some (vu tn) ∧ w'.cell? ⟨e5', f5' + k, none⟩ = some (vu tn)) (exact ⟨y4, z4, t3, t4⟩) (fail)
          all_goals go_wp2
          all_goals go_roundw
          all_goals first
            | exact ⟨k + 1, by have := HLT.out; omega, by go_num, HSD.out⟩
            | (have := HLT.out; simp [intOf]; omega)
        · obtain rfl : k = j := by omega
          have HS5 := Lib.hid hS
          clear hS
          go_wp2
          go_ret
          exact ⟨rfl, HOUT.out _ HS5.out⟩
end
end Go.Proofs.YtjgemfgneiaabaaGreat.Pc
