/-
  Chapter 16: both look the same. No statement is proved here.
-/
import Derived.Test.YtffjckdaekamgaaMgC
import Derived.Deep.DeepCutAuto
namespace Go.Proofs.Ytffjckdaekamgaa.Gt
open Go.RowKit Ag
set_option linter.unusedVariables false
set_option linter.unusedSimpArgs false

section
variable {w0 w : World} {F : Hp} {n T g h p q b cap : Nat} {vF vR : Value} {ps : List Pl} {free : List Nat} {rl : List (Int × Int)}
theorem ofL_take {l : List (Nat × Int × El)} {j : Nat} {y : Nat × Int × El} {st : Int} (hy : l[j]? = some y) (hv : y.2.2.v0 = st) : (ofL l st)[(ofL (l.take j) st).length]? = some ((y.1 : Int), y.2.1) := by
  obtain ⟨hlt, he⟩ := List.getElem?_eq_some_iff.1 hy
  have e : l = l.take j ++ y :: l.drop (j + 1) := by rw [← he, ← List.drop_eq_getElem_cons hlt, List.take_append_drop]
  have h2 : ofL l st = ofL (l.take j) st ++ (((y.1 : Int), y.2.1) :: ofL (l.drop (j + 1)) st) := by
    conv => lhs; rw [e]
    unfold ofL
    rw [List.filterMap_append, List.filterMap_cons]
    simp [hv]
  rw [h2, List.getElem?_append_right (Nat.le_refl _), Nat.sub_self]
  rfl
theorem ofL_lt {l : List (Nat × Int × El)} {j : Nat} {y : Nat × Int × El} {st : Int} (hy : l[j]? = some y) (hv : y.2.2.v0 = st) : (ofL (l.take j) st).length < (ofL l st).length :=
  (List.getElem?_eq_some_iff.1 (ofL_take hy hv)).1
theorem ofL_next {l : List (Nat × Int × El)} {j : Nat} {y : Nat × Int × El} (hy : l[j]? = some y) (st : Int) : (ofL (l.take (j + 1)) st).length = (ofL (l.take j) st).length + if y.2.2.v0 = st then 1 else 0 := by
  rw [List.take_add_one, hy]
  show (ofL (l.take j ++ [y]) st).length = _
  rw [ofL_snoc, List.length_append]
  split <;> rfl
set_option maxRecDepth 100000 in
set_option maxHeartbeats 8000000 in
theorem same_ (hI : Inv n T ps free) (hn : 1 ≤ n) (hS : Sat w0 (gmC g h p q b cap vF vR ps free rl F) w) : Calls Try.prog 16 #[vp g] w fun e w' => e = .returned (.bool true) ∧ Sat w0 (gmC g h p q b cap vF vR ps free rl F) w' := by
  have hlen := hI.len
  have hsm := hI.small
  have hpos : 1 ≤ ps.length := by omega
  have hps : ps.length ≤ 64 := by omega
  have HGone := Lib.hid hI.gone
  have g0 := hS.cell 0 rfl
  have HAl := Lib.hid (gm_all hps (show Sat w0 (emp * gmC g h p q b cap vF vR ps free rl F) w from hS.cast (emp_sep _).symm))
  have hl64 : (Ag.seen ps ps.length).length ≤ 64 := Nat.le_trans (Ag.seen_len ps _) (by omega)
  have HAf := Lib.hid (affL_all ps HGone.out)
  clear hS hI hlen
  obtain ⟨l, hl⟩ : ∃ l, l = (Ag.seen ps ps.length) := ⟨_, rfl⟩
  have HL := Lib.hid hl
  rw [← hl] at hl64 HAl HAf
  clear hl
  obtain ⟨G, hG⟩ : ∃ G, G = gmC g h p q b cap vF vR ps free rl F := ⟨_, rfl⟩
  rw [← hG] at HAl
  have HG := Lib.hid hG
  have HRall := Lib.hid (fun (w5 : World) (E : Hp) (h5 : Sat w0 (E * G) w5) => (gm_rall hps (h5.cast (by rw [hG])) : Calls Try.prog 34 #[vp q] w5 _))
  have HLive := Lib.hid (fun (w5 : World) (E : Hp) (h5 : Sat w0 (E * G) w5) => (gm_live hps (h5.cast (by rw [hG])) : Calls Try.prog 35 #[vp h] w5 _))
  have HAff := Lib.hid (fun (w5 : World) (E : Hp) (h5 : Sat w0 (E * G) w5) => (gm_aff hps hpos (h5.cast (by rw [hG])) : Calls Try.prog 36 #[vp h] w5 _))
  have HRaff := Lib.hid (fun (w5 : World) (E : Hp) (h5 : Sat w0 (E * G) w5) => (gm_raff hps (h5.cast (by rw [hG])) : Calls Try.prog 37 #[vp q] w5 _))
  have HAt := Lib.hid (fun (i : Int) (w5 : World) (E : Hp) (h5 : Sat w0 (E * G) w5) => (gm_at i (h5.cast (by rw [hG])) : Calls Try.prog 38 #[vp h, vi i] w5 _))
  have HOf := Lib.hid (fun (st : Int) (w5 : World) (E : Hp) (h5 : Sat w0 (E * G) w5) => (gm_of hps st (h5.cast (by rw [hG])) : Calls Try.prog 39 #[vp h, vi st] w5 _))
  rw [← HL.out, ← hG] at HRall HLive HAff HOf
  rw [← hG] at HRaff HAt
  have HC : Hid (∀ (w5 : World) (E : Hp), Sat w0 (E * G) w5 → w5.cell? ⟨g, 0, none⟩ = some (vp h) ∧ w5.cell? ⟨g, 1, none⟩ = some (vp q)) := Lib.hid fun w5 E h5 => by
    rw [hG] at h5
    exact ⟨h5.pull2.cell 0 rfl, h5.pull2.cell 1 rfl⟩
  have HC2 : Hid (∀ (w5 : World) (E : Hp), Sat w0 (E * G) w5 → w5.cell? ⟨q, 0, none⟩ = some (.slice (some ⟨b, 0, none⟩) ps.length cap)) := Lib.hid fun w5 E h5 => by
    rw [hG] at h5
    exact (h5.cast (gmR E)).cell 0 rfl
  have HC3 : Hid (∀ (w5 : World) (E : Hp), Sat w0 (E * G) w5 → ∀ (k j : Nat) (a : Pl) (v : Value), ps[k]? = some a → (pcl a)[j]? = some v → w5.cell? ⟨b, k * 21 + j, none⟩ = some v) := Lib.hid fun w5 E h5 k j a v hk hj => by
    rw [hG] at h5
    exact (h5.cast (gmR E)).pull2.slCell _ (flat_get pcl_len hk hj)
  clear hG
  go_enter Try.func16, Try.ntmps16
  go_wp2_with (go_at_call 14; (with_reducible refine HAl.out.mono ?_); rintro e w1 ⟨vA, rfl, hS1⟩; obtain ⟨a1, c1, rfl⟩ := hS1.rd.len; have hS1 : Sat w0 (sl 50 21 (.slice a1 l.length c1) l.length (fpd l) * G) w1 := hS1.cast (by rw [emp_sep]); have H1 := Lib.hid hS1; obtain ⟨e0, e1⟩ := HC.out _ _ hS1.drew; clear hS1)
  clear g0
  have hneq := fun (s : ByteArray) (w : World) => str_self 9 s w Try.underlying9
  go_cut [3, 49] from 12 (fun v3 vb wx => v3 = .slice a1 l.length c1 ∧ vb = .bool false ∧ Sat w0 (sl 50 21 (.slice a1 l.length c1) l.length (fpd l) * G) wx)
  case first =>
    have hS0 : (fun w' => w'.cell? ⟨g, 0, none⟩ = some (vp h) ∧ w'.cell? ⟨g, 1, none⟩ = some (vp q)) w1.drew := ⟨e0, e1⟩
    refine wp_region_held (S := (fun w' => w'.cell? ⟨g, 0, none⟩ = some (vp h) ∧ w'.cell? ⟨g, 1, none⟩ = some (vp q))) (by kernel_rfl) ?_
    change wpAnyH _ _ _ _ _ _ _ _ (World.drew _)
    refine wpAnyH_take (i := 0) (v := .slice a1 l.length c1) rfl (by kernel_rfl) (by kernel_rfl) (by kernel_rfl) (fun _ _ _ h => h) (Or.inl ⟨by kernel_rfl, fun w' hw' => by go_simp⟩) hS0 ?_
    simp only [Act.put, List.setIfInBounds_toArray, List.set_cons_zero, List.set_cons_succ]
    refine wpAnyH_take (i := 1) (v := vp g) rfl (by kernel_rfl) (by kernel_rfl) (by kernel_rfl) (fun _ _ _ h => h) (Or.inl ⟨by kernel_rfl, fun w' hw' => by go_simp⟩) hS0 ?_
    simp only [Act.put, List.setIfInBounds_toArray, List.set_cons_zero, List.set_cons_succ]
    refine wpAnyH_take (i := 2) (v := vp g) rfl (by kernel_rfl) (by kernel_rfl) (by kernel_rfl) (fun _ _ _ h => h) (Or.inl ⟨by kernel_rfl, fun w' hw' => by go_simp⟩) hS0 ?_
    simp only [Act.put, List.setIfInBounds_toArray, List.set_cons_zero, List.set_cons_succ]
    refine wpAnyH_take (i := 3) (v := .pointer (some ⟨g, 1, none⟩)) rfl (by kernel_rfl) (by kernel_rfl) (by kernel_rfl) (fun _ _ _ h => h) (Or.inl ⟨by kernel_rfl, fun w' hw' => by go_simp⟩) hS0 ?_
    simp only [Act.put, List.setIfInBounds_toArray, List.set_cons_zero, List.set_cons_succ]
    refine wpAnyH_take (i := 4) (v := vp q) rfl (by kernel_rfl) (by kernel_rfl) (by kernel_rfl) (fun _ _ _ h => h) (Or.inl ⟨by kernel_rfl, fun w' hw' => by (have h1 := hw'.1; have h2 := hw'.2; go_simp)⟩) hS0 ?_
    simp only [Act.put, List.setIfInBounds_toArray, List.set_cons_zero, List.set_cons_succ]
    refine wpAnyH_ready (rs := [5]) (by kernel_rfl) (by simp) ?_
    refine AllReadyH.cons rfl (fun K hK => ?_) AllReadyH.nil
    go_simp
    refine (HRall.out _ _ H1.out.drew).mono ?_
    rintro e w5 ⟨v2, rfl, hS5⟩
    have H5 : Hid (Sat w0 (sl 50 21 (.slice a1 l.length c1) l.length (fpd l) * (sl 50 21 v2 l.length (fpd l) * G)) w5) := Lib.hid (hS5.cast (by ac_rfl))
    have hS1 : (fun w' => w'.cell? ⟨g, 0, none⟩ = some (vp h) ∧ w'.cell? ⟨g, 1, none⟩ = some (vp q)) w5 := HC.out _ _ (hS5.cast (show _ = (sl 50 21 (.slice a1 l.length c1) l.length (fpd l) * sl 50 21 v2 l.length (fpd l)) * G by ac_rfl))
    clear hS5
    refine hK.out _ _ hS1 (fun _ => ?_)
    try simp only [Act.put, List.setIfInBounds_toArray, List.set_cons_zero, List.set_cons_succ]
    refine wpAnyH_ready (rs := [6]) (by kernel_rfl) (by simp) ?_
    refine AllReadyH.cons rfl (fun K hK => ?_) AllReadyH.nil
    go_simp
    refine (rt_same H5.out hl64).mono ?_
    rintro e w6 ⟨rfl, hS6⟩
    have H6 : Hid (Sat w0 ((sl 50 21 (.slice a1 l.length c1) l.length (fpd l) * sl 50 21 v2 l.length (fpd l)) * G) w6) := Lib.hid (hS6.cast (by ac_rfl))
    have hS2 : (fun w' => w'.cell? ⟨g, 0, none⟩ = some (vp h) ∧ w'.cell? ⟨g, 1, none⟩ = some (vp q)) w6 := HC.out _ _ H6.out
    clear hS6
    refine hK.out _ _ hS2 (fun _ => ?_)
    try simp only [Act.put, List.setIfInBounds_toArray, List.set_cons_zero, List.set_cons_succ]
    refine wpAnyH_take (i := 7) (v := .bool false) rfl (by kernel_rfl) (by kernel_rfl) (by kernel_rfl) (fun _ _ _ h => h) (Or.inl ⟨by kernel_rfl, fun w' hw' => by go_simp⟩) hS2 ?_
    simp only [Act.put, List.setIfInBounds_toArray, List.set_cons_zero, List.set_cons_succ]
    refine wpAnyH_take (i := 8) (v := .bool false) rfl (by kernel_rfl) (by kernel_rfl) (by kernel_rfl) (fun _ _ _ h => h) (Or.inl ⟨by kernel_rfl, fun w' hw' => by go_simp⟩) hS2 ?_
    simp only [Act.put, List.setIfInBounds_toArray, List.set_cons_zero, List.set_cons_succ]
    refine wpAnyH_take (i := 9) (v := vp g) rfl (by kernel_rfl) (by kernel_rfl) (by kernel_rfl) (fun _ _ _ h => h) (Or.inl ⟨by kernel_rfl, fun w' hw' => by go_simp⟩) hS2 ?_
    simp only [Act.put, List.setIfInBounds_toArray, List.set_cons_zero, List.set_cons_succ]
    refine wpAnyH_take (i := 10) (v := vp g) rfl (by kernel_rfl) (by kernel_rfl) (by kernel_rfl) (fun _ _ _ h => h) (Or.inl ⟨by kernel_rfl, fun w' hw' => by go_simp⟩) hS2 ?_
    simp only [Act.put, List.setIfInBounds_toArray, List.set_cons_zero, List.set_cons_succ]
    refine wpAnyH_take (i := 11) (v := .pointer (some ⟨g, 0, none⟩)) rfl (by kernel_rfl) (by kernel_rfl) (by kernel_rfl) (fun _ _ _ h => h) (Or.inl ⟨by kernel_rfl, fun w' hw' => by go_simp⟩) hS2 ?_
    simp only [Act.put, List.setIfInBounds_toArray, List.set_cons_zero, List.set_cons_succ]
    refine wpAnyH_take (i := 12) (v := vp h) rfl (by kernel_rfl) (by kernel_rfl) (by kernel_rfl) (fun _ _ _ h => h) (Or.inl ⟨by kernel_rfl, fun w' hw' => by (have h1 := hw'.1; have h2 := hw'.2; go_simp)⟩) hS2 ?_
    simp only [Act.put, List.setIfInBounds_toArray, List.set_cons_zero, List.set_cons_succ]
    refine wpAnyH_take (i := 14) (v := .slice a1 l.length c1) rfl (by kernel_rfl) (by kernel_rfl) (by kernel_rfl) (fun _ _ _ h => h) (Or.inl ⟨by kernel_rfl, fun w' hw' => by go_simp⟩) hS2 ?_
    simp only [Act.put, List.setIfInBounds_toArray, List.set_cons_zero, List.set_cons_succ]
    refine wpAnyH_take (i := 15) (v := vi l.length) rfl (by kernel_rfl) (by kernel_rfl) (by kernel_rfl) (fun _ _ _ h => h) (Or.inl ⟨by kernel_rfl, fun w' hw' => by go_simp⟩) hS2 ?_
    simp only [Act.put, List.setIfInBounds_toArray, List.set_cons_zero, List.set_cons_succ]
    refine wpAnyH_ready (rs := [13]) (by kernel_rfl) (by simp) ?_
    refine AllReadyH.cons rfl (fun K hK => ?_) AllReadyH.nil
    go_simp
    refine (HLive.out _ _ H6.out).mono ?_
    rintro e w7 ⟨rfl, hS7⟩
    have H7 := Lib.hid hS7
    have hS3 : (fun w' => w'.cell? ⟨g, 0, none⟩ = some (vp h) ∧ w'.cell? ⟨g, 1, none⟩ = some (vp q)) w7 := HC.out _ _ hS7
    clear hS7
    refine hK.out _ _ hS3 (fun _ => ?_)
    try simp only [Act.put, List.setIfInBounds_toArray, List.set_cons_zero, List.set_cons_succ]
    refine wpAnyH_take (i := 16) (v := .bool false) rfl (by kernel_rfl) (by kernel_rfl) (by kernel_rfl) (fun _ _ _ h => h) (Or.inl ⟨by kernel_rfl, fun w' hw' => by go_simp⟩) hS3 ?_
    simp only [Act.put, List.setIfInBounds_toArray, List.set_cons_zero, List.set_cons_succ]
    refine wpAnyH_take (i := 17) (v := .bool false) rfl (by kernel_rfl) (by kernel_rfl) (by kernel_rfl) (fun _ _ _ h => h) (Or.inl ⟨by kernel_rfl, fun w' hw' => by go_simp⟩) hS3 ?_
    simp only [Act.put, List.setIfInBounds_toArray, List.set_cons_zero, List.set_cons_succ]
    refine wpAnyH_take (i := 18) (v := .bool false) rfl (by kernel_rfl) (by kernel_rfl) (by kernel_rfl) (fun _ _ _ h => h) (Or.inl ⟨by kernel_rfl, fun w' hw' => by go_simp⟩) hS3 ?_
    simp only [Act.put, List.setIfInBounds_toArray, List.set_cons_zero, List.set_cons_succ]
    refine wpAnyH_take (i := 19) (v := vp g) rfl (by kernel_rfl) (by kernel_rfl) (by kernel_rfl) (fun _ _ _ h => h) (Or.inl ⟨by kernel_rfl, fun w' hw' => by go_simp⟩) hS3 ?_
    simp only [Act.put, List.setIfInBounds_toArray, List.set_cons_zero, List.set_cons_succ]
    refine wpAnyH_take (i := 20) (v := vp g) rfl (by kernel_rfl) (by kernel_rfl) (by kernel_rfl) (fun _ _ _ h => h) (Or.inl ⟨by kernel_rfl, fun w' hw' => by go_simp⟩) hS3 ?_
    simp only [Act.put, List.setIfInBounds_toArray, List.set_cons_zero, List.set_cons_succ]
    refine wpAnyH_take (i := 21) (v := .pointer (some ⟨g, 0, none⟩)) rfl (by kernel_rfl) (by kernel_rfl) (by kernel_rfl) (fun _ _ _ h => h) (Or.inl ⟨by kernel_rfl, fun w' hw' => by go_simp⟩) hS3 ?_
    simp only [Act.put, List.setIfInBounds_toArray, List.set_cons_zero, List.set_cons_succ]
    refine wpAnyH_take (i := 22) (v := vp h) rfl (by kernel_rfl) (by kernel_rfl) (by kernel_rfl) (fun _ _ _ h => h) (Or.inl ⟨by kernel_rfl, fun w' hw' => by (have h1 := hw'.1; have h2 := hw'.2; go_simp)⟩) hS3 ?_
    simp only [Act.put, List.setIfInBounds_toArray, List.set_cons_zero, List.set_cons_succ]
    refine wpAnyH_take (i := 25) (v := vp g) rfl (by kernel_rfl) (by kernel_rfl) (by kernel_rfl) (fun _ _ _ h => h) (Or.inl ⟨by kernel_rfl, fun w' hw' => by go_simp⟩) hS3 ?_
    simp only [Act.put, List.setIfInBounds_toArray, List.set_cons_zero, List.set_cons_succ]
    refine wpAnyH_take (i := 26) (v := vp g) rfl (by kernel_rfl) (by kernel_rfl) (by kernel_rfl) (fun _ _ _ h => h) (Or.inl ⟨by kernel_rfl, fun w' hw' => by go_simp⟩) hS3 ?_
    simp only [Act.put, List.setIfInBounds_toArray, List.set_cons_zero, List.set_cons_succ]
    refine wpAnyH_take (i := 27) (v := .pointer (some ⟨g, 1, none⟩)) rfl (by kernel_rfl) (by kernel_rfl) (by kernel_rfl) (fun _ _ _ h => h) (Or.inl ⟨by kernel_rfl, fun w' hw' => by go_simp⟩) hS3 ?_
    simp only [Act.put, List.setIfInBounds_toArray, List.set_cons_zero, List.set_cons_succ]
    refine wpAnyH_take (i := 28) (v := vp q) rfl (by kernel_rfl) (by kernel_rfl) (by kernel_rfl) (fun _ _ _ h => h) (Or.inl ⟨by kernel_rfl, fun w' hw' => by (have h1 := hw'.1; have h2 := hw'.2; go_simp)⟩) hS3 ?_
    simp only [Act.put, List.setIfInBounds_toArray, List.set_cons_zero, List.set_cons_succ]
    refine wpAnyH_ready (rs := [23]) (by kernel_rfl) (by simp) ?_
    refine AllReadyH.cons rfl (fun K hK => ?_) AllReadyH.nil
    go_simp
    refine (HAff.out _ _ H7.out).mono ?_
    rintro e w8 ⟨go, rfl, hS8⟩
    rw [HAf.out] at hS8
    have hconv := conv_aff hS8
    have H8 : Hid (Sat w0 ((sl 5 1 (.slice (some ⟨go, 0, none⟩) ps.length ps.length) ps.length (affP ps) * (sl 50 21 (.slice a1 l.length c1) l.length (fpd l) * sl 50 21 v2 l.length (fpd l))) * G) w8) := Lib.hid (hS8.cast (by ac_rfl))
    have hS4 : (fun w' => w'.cell? ⟨g, 0, none⟩ = some (vp h) ∧ w'.cell? ⟨g, 1, none⟩ = some (vp q)) w8 := HC.out _ _ H8.out
    clear hS8
    refine hK.out _ _ hS4 (fun _ => ?_)
    try simp only [Act.put, List.setIfInBounds_toArray, List.set_cons_zero, List.set_cons_succ]
    refine wpAnyH_ready (rs := [24, 29]) (by kernel_rfl) (by simp) ?_
    refine AllReadyH.cons rfl (fun K1 hK1 => ?_) (AllReadyH.cons rfl (fun K1 hK1 => ?_) AllReadyH.nil)
    · go_simp
      refine hK1.out _ _ hS4 (fun _ => ?_)
      try simp only [Act.put, List.setIfInBounds_toArray, List.set_cons_zero, List.set_cons_succ]
      refine wpAnyH_ready (rs := [29]) (by kernel_rfl) (by simp) ?_
      refine AllReadyH.cons rfl (fun K2 hK2 => ?_) AllReadyH.nil
      go_simp
      refine (HRaff.out _ _ H8.out).mono ?_
      rintro e w9 ⟨v4, rfl, hS9⟩
      obtain ⟨ao4, c4, rfl⟩ := hS9.rd.len
      obtain ⟨gb, rfl⟩ : ∃ gb, ao4 = some ⟨gb, 0, none⟩ := by
        rcases hS9.slE.2 with ⟨_, h0, _⟩ | ⟨g', c', cur, hv, _⟩
        · omega
        · injection hv with h1 h2 h3
          exact ⟨g', h1⟩
      have hconv4 := conv_aff hS9
      have hconv3 := conv_aff (hS9.cast (show _ = sl 5 1 (.slice (some ⟨go, 0, none⟩) ps.length ps.length) ps.length (affP ps) * (sl 5 1 (.slice (some ⟨gb, 0, none⟩) ps.length c4) ps.length (affP ps) * ((sl 50 21 (.slice a1 l.length c1) l.length (fpd l) * sl 50 21 v2 l.length (fpd l)) * G)) by ac_rfl))
      have H9 : Hid (Sat w0 ((sl 5 1 (.slice (some ⟨gb, 0, none⟩) ps.length c4) ps.length (affP ps) * (sl 5 1 (.slice (some ⟨go, 0, none⟩) ps.length ps.length) ps.length (affP ps) * (sl 50 21 (.slice a1 l.length c1) l.length (fpd l) * sl 50 21 v2 l.length (fpd l)))) * G) w9) := Lib.hid (hS9.cast (by ac_rfl))
      have hS5 : (fun w' => w'.cell? ⟨g, 0, none⟩ = some (vp h) ∧ w'.cell? ⟨g, 1, none⟩ = some (vp q)) w9 := HC.out _ _ H9.out
      clear hS9
      refine hK2.out _ _ hS5 (fun _ => ?_)
      try simp only [Act.put, List.setIfInBounds_toArray, List.set_cons_zero, List.set_cons_succ]
      refine wpAnyH_ready (rs := [30]) (by kernel_rfl) (by simp) ?_
      refine AllReadyH.cons rfl (fun K4 hK4 => ?_) AllReadyH.nil
      go_simp
      refine hK4.out _ _ hS5 (fun _ => ?_)
      try simp only [Act.put, List.setIfInBounds_toArray, List.set_cons_zero, List.set_cons_succ]
      refine wpAnyH_take (i := 31) (v := .bool false) rfl (by kernel_rfl) (by kernel_rfl) (by kernel_rfl) (fun _ _ _ h => h) (Or.inl ⟨by kernel_rfl, fun w' hw' => by go_simp⟩) hS5 ?_
      simp only [Act.put, List.setIfInBounds_toArray, List.set_cons_zero, List.set_cons_succ]
      refine wpAnyH_take (i := 32) (v := .bool false) rfl (by kernel_rfl) (by kernel_rfl) (by kernel_rfl) (fun _ _ _ h => h) (Or.inl ⟨by kernel_rfl, fun w' hw' => by go_simp⟩) hS5 ?_
      simp only [Act.put, List.setIfInBounds_toArray, List.set_cons_zero, List.set_cons_succ]
      refine wpAnyH_done (by kernel_rfl) ?_ _
      go_wp2_with fail
      go_meet
      exact ⟨rfl, rfl, (H9.out.cast (show _ = (sl 5 1 (.slice (some ⟨gb, 0, none⟩) ps.length c4) ps.length (affP ps) * (sl 5 1 (.slice (some ⟨go, 0, none⟩) ps.length ps.length) ps.length (affP ps) * sl 50 21 v2 l.length (fpd l))) * (sl 50 21 (.slice a1 l.length c1) l.length (fpd l) * G) by ac_rfl)).dropL⟩
    · go_simp
      refine (HRaff.out _ _ H8.out).mono ?_
      rintro e w9 ⟨v4, rfl, hS9⟩
      obtain ⟨ao4, c4, rfl⟩ := hS9.rd.len
      obtain ⟨gb, rfl⟩ : ∃ gb, ao4 = some ⟨gb, 0, none⟩ := by
        rcases hS9.slE.2 with ⟨_, h0, _⟩ | ⟨g', c', cur, hv, _⟩
        · omega
        · injection hv with h1 h2 h3
          exact ⟨g', h1⟩
      have hconv4 := conv_aff hS9
      have hconv3 := conv_aff (hS9.cast (show _ = sl 5 1 (.slice (some ⟨go, 0, none⟩) ps.length ps.length) ps.length (affP ps) * (sl 5 1 (.slice (some ⟨gb, 0, none⟩) ps.length c4) ps.length (affP ps) * ((sl 50 21 (.slice a1 l.length c1) l.length (fpd l) * sl 50 21 v2 l.length (fpd l)) * G)) by ac_rfl))
      have H9 : Hid (Sat w0 ((sl 5 1 (.slice (some ⟨gb, 0, none⟩) ps.length c4) ps.length (affP ps) * (sl 5 1 (.slice (some ⟨go, 0, none⟩) ps.length ps.length) ps.length (affP ps) * (sl 50 21 (.slice a1 l.length c1) l.length (fpd l) * sl 50 21 v2 l.length (fpd l)))) * G) w9) := Lib.hid (hS9.cast (by ac_rfl))
      have hS5 : (fun w' => w'.cell? ⟨g, 0, none⟩ = some (vp h) ∧ w'.cell? ⟨g, 1, none⟩ = some (vp q)) w9 := HC.out _ _ H9.out
      clear hS9
      refine hK1.out _ _ hS5 (fun _ => ?_)
      try simp only [Act.put, List.setIfInBounds_toArray, List.set_cons_zero, List.set_cons_succ]
      refine wpAnyH_ready (rs := [24, 30]) (by kernel_rfl) (by simp) ?_
      refine AllReadyH.cons rfl (fun K3 hK3 => ?_) (AllReadyH.cons rfl (fun K3 hK3 => ?_) AllReadyH.nil)
      · go_simp
        refine hK3.out _ _ hS5 (fun _ => ?_)
        try simp only [Act.put, List.setIfInBounds_toArray, List.set_cons_zero, List.set_cons_succ]
        refine wpAnyH_ready (rs := [30]) (by kernel_rfl) (by simp) ?_
        refine AllReadyH.cons rfl (fun K4 hK4 => ?_) AllReadyH.nil
        go_simp
        refine hK4.out _ _ hS5 (fun _ => ?_)
        try simp only [Act.put, List.setIfInBounds_toArray, List.set_cons_zero, List.set_cons_succ]
        refine wpAnyH_take (i := 31) (v := .bool false) rfl (by kernel_rfl) (by kernel_rfl) (by kernel_rfl) (fun _ _ _ h => h) (Or.inl ⟨by kernel_rfl, fun w' hw' => by go_simp⟩) hS5 ?_
        simp only [Act.put, List.setIfInBounds_toArray, List.set_cons_zero, List.set_cons_succ]
        refine wpAnyH_take (i := 32) (v := .bool false) rfl (by kernel_rfl) (by kernel_rfl) (by kernel_rfl) (fun _ _ _ h => h) (Or.inl ⟨by kernel_rfl, fun w' hw' => by go_simp⟩) hS5 ?_
        simp only [Act.put, List.setIfInBounds_toArray, List.set_cons_zero, List.set_cons_succ]
        refine wpAnyH_done (by kernel_rfl) ?_ _
        go_wp2_with fail
        go_meet
        exact ⟨rfl, rfl, (H9.out.cast (show _ = (sl 5 1 (.slice (some ⟨gb, 0, none⟩) ps.length c4) ps.length (affP ps) * (sl 5 1 (.slice (some ⟨go, 0, none⟩) ps.length ps.length) ps.length (affP ps) * sl 50 21 v2 l.length (fpd l))) * (sl 50 21 (.slice a1 l.length c1) l.length (fpd l) * G) by ac_rfl)).dropL⟩
      · go_simp
        refine hK3.out _ _ hS5 (fun _ => ?_)
        try simp only [Act.put, List.setIfInBounds_toArray, List.set_cons_zero, List.set_cons_succ]
        refine wpAnyH_ready (rs := [24]) (by kernel_rfl) (by simp) ?_
        refine AllReadyH.cons rfl (fun K4 hK4 => ?_) AllReadyH.nil
        go_simp
        refine hK4.out _ _ hS5 (fun _ => ?_)
        try simp only [Act.put, List.setIfInBounds_toArray, List.set_cons_zero, List.set_cons_succ]
        refine wpAnyH_take (i := 31) (v := .bool false) rfl (by kernel_rfl) (by kernel_rfl) (by kernel_rfl) (fun _ _ _ h => h) (Or.inl ⟨by kernel_rfl, fun w' hw' => by go_simp⟩) hS5 ?_
        simp only [Act.put, List.setIfInBounds_toArray, List.set_cons_zero, List.set_cons_succ]
        refine wpAnyH_take (i := 32) (v := .bool false) rfl (by kernel_rfl) (by kernel_rfl) (by kernel_rfl) (fun _ _ _ h => h) (Or.inl ⟨by kernel_rfl, fun w' hw' => by go_simp⟩) hS5 ?_
        simp only [Act.put, List.setIfInBounds_toArray, List.set_cons_zero, List.set_cons_succ]
        refine wpAnyH_done (by kernel_rfl) ?_ _
        go_wp2_with fail
        go_meet
        exact ⟨rfl, rfl, (H9.out.cast (show _ = (sl 5 1 (.slice (some ⟨gb, 0, none⟩) ps.length c4) ps.length (affP ps) * (sl 5 1 (.slice (some ⟨go, 0, none⟩) ps.length ps.length) ps.length (affP ps) * sl 50 21 v2 l.length (fpd l))) * (sl 50 21 (.slice a1 l.length c1) l.length (fpd l) * G) by ac_rfl)).dropL⟩
  case rest =>
    obtain ⟨rfl, rfl, hSR⟩ := hcut
    have HR := Lib.hid hSR
    clear H1 e0 e1 hSR HRall HLive HAff HRaff HAl HAf hneq
    go_wp2_with fail
    go_loopw [4] (fun ix wr => ∃ i : Int, ix = vi i ∧ -1 ≤ i ∧ i ≤ (ps.length : Int) + 1 ∧ Sat w0 (sl 50 21 (.slice a1 l.length c1) l.length (fpd l) * G) wr) (fun ix _ => ((ps.length : Int) + 1 - intOf ix).toNat)
    case atStart => exact ⟨-1, rfl, by omega, by omega, HR.out⟩
    case round =>
      obtain ⟨i, rfl, hi1, hi2, hS⟩ := hrel
      clear HR
      obtain ⟨e0, e1⟩ := HC.out _ _ hS
      have q0 := HC2.out _ _ hS
      by_cases hin : i ≤ (ps.length : Int)
      · have HAt1 := HAt.out i _ _ hS
        rcases (show i = -1 ∨ ∃ k : Nat, i = k by
          rcases (show i = -1 ∨ 0 ≤ i by omega) with h | h
          · exact .inl h
          · obtain ⟨k, hk⟩ := Int.eq_ofNat_of_zero_le h
            exact .inr ⟨k, hk⟩) with rfl | ⟨k, rfl⟩
        · rw [show atR ps (-1) = (0, 0, false) from rfl] at HAt1
          have HA1 := Lib.hid HAt1
          have hw : IntKind.i64.wrap (-1 + 1) = 0 := by decide
          clear hS HAt1
          go_wp2_with (go_at_call 38; (with_reducible refine HA1.out.mono ?_); rintro e w5 ⟨rfl, hS5⟩; obtain ⟨f0, f1⟩ := HC.out _ _ (hS5.alloc' (.cells #[vi 0, vu 0] 25)); have hz := hS5.alloc (.cells #[vi 0, vu 0] 25); have z0 := hz.cell (cs := [vi 0, vu 0]) (T := 25) 0 rfl; have z1 := hz.cell (cs := [vi 0, vu 0]) (T := 25) 1 rfl; have HZ := Lib.hid hz; clear hS5 hz)
          go_quiet (fail)
          go_wp2_with fail
          go_roundw
          case rel => exact ⟨0, rfl, by omega, by omega, (HZ.out.dropL).drewN _⟩
          case measure => (simp [intOf]; try omega)
        · have hk0 : (0 : Int) ≤ (k : Int) := by omega
          have hw : IntKind.i64.wrap ((k : Int) + 1) = (k : Int) + 1 := IntWalk.i64_in _ (by omega)
          by_cases hk : k < ps.length
          · have hki : (k : Int) < (ps.length : Int) := by omega
            obtain ⟨a, ha⟩ : ∃ a, ps[k]? = some a := ⟨ps[k], List.getElem?_eq_getElem hk⟩
            obtain ⟨gen, there, ret, x⟩ := a
            have HK := Lib.hid ha
            cases there with
            | false =>
              rw [show atR ps k = (0, 0, false) by unfold atR; rw [if_neg (by omega), Int.toNat_natCast, ha]; rfl] at HAt1
              have HA1 := Lib.hid HAt1
              clear hS HAt1 ha
              go_wp2_with (go_at_call 38; (with_reducible refine HA1.out.mono ?_); rintro e w5 ⟨rfl, hS5⟩; obtain ⟨f0, f1⟩ := HC.out _ _ (hS5.alloc' (.cells #[vi 0, vu 0] 25)); have y0 := HC2.out _ _ (hS5.alloc' (.cells #[vi 0, vu 0] 25)); have y1 : World.cell? _ ⟨b, k * 21 + 1, none⟩ = some (.bool false) := HC3.out _ _ (hS5.alloc' (.cells #[vi 0, vu 0] 25)) k 1 _ _ HK.out rfl; have y2 : World.cell? _ ⟨b, k * 21 + 0, none⟩ = some (vu gen) := HC3.out _ _ (hS5.alloc' (.cells #[vi 0, vu 0] 25)) k 0 _ _ HK.out rfl; rw [Nat.add_zero] at y2; have hz := hS5.alloc (.cells #[vi 0, vu 0] 25); have z0 := hz.cell (cs := [vi 0, vu 0]) (T := 25) 0 rfl; have z1 := hz.cell (cs := [vi 0, vu 0]) (T := 25) 1 rfl; have HZ := Lib.hid hz; clear hS5 hz)
              go_quiet (fail)
              go_wp2_with fail
              go_roundw
              case rel => exact ⟨(k : Int) + 1, rfl, by omega, by omega, (HZ.out.dropL).drewN _⟩
              case measure => (simp [intOf]; try omega)
            | true =>
              rw [show atR ps k = ((k : Int), gen, true) by unfold atR; rw [if_neg (by omega), Int.toNat_natCast, ha]; rfl] at HAt1
              have HA1 := Lib.hid HAt1
              clear hS HAt1 ha
              go_wp2_with (go_at_call 38; (with_reducible refine HA1.out.mono ?_); rintro e w5 ⟨rfl, hS5⟩; obtain ⟨f0, f1⟩ := HC.out _ _ (hS5.alloc' (.cells #[vi k, vu gen] 25)); have y0 := HC2.out _ _ (hS5.alloc' (.cells #[vi k, vu gen] 25)); have y1 : World.cell? _ ⟨b, k * 21 + 1, none⟩ = some (.bool true) := HC3.out _ _ (hS5.alloc' (.cells #[vi k, vu gen] 25)) k 1 _ _ HK.out rfl; have y2 : World.cell? _ ⟨b, k * 21 + 0, none⟩ = some (vu gen) := HC3.out _ _ (hS5.alloc' (.cells #[vi k, vu gen] 25)) k 0 _ _ HK.out rfl; rw [Nat.add_zero] at y2; have hz := hS5.alloc (.cells #[vi k, vu gen] 25); have z0 := hz.cell (cs := [vi k, vu gen]) (T := 25) 0 rfl; have z1 := hz.cell (cs := [vi k, vu gen]) (T := 25) 1 rfl; have HZ := Lib.hid hz; clear hS5 hz)
              go_quiet (fail)
              go_wp2_with fail
              go_roundw
              case rel => exact ⟨(k : Int) + 1, rfl, by omega, by omega, (HZ.out.dropL).drewN _⟩
              case measure => (simp [intOf]; try omega)
          · obtain rfl : k = ps.length := by omega
            rw [show atR ps (ps.length : Int) = (0, 0, false) by unfold atR; rw [if_neg (by omega), Int.toNat_natCast, List.getElem?_eq_none (Nat.le_refl _)]] at HAt1
            have HA1 := Lib.hid HAt1
            clear hS HAt1
            go_wp2_with (go_at_call 38; (with_reducible refine HA1.out.mono ?_); rintro e w5 ⟨rfl, hS5⟩; obtain ⟨f0, f1⟩ := HC.out _ _ (hS5.alloc' (.cells #[vi 0, vu 0] 25)); have y0 := HC2.out _ _ (hS5.alloc' (.cells #[vi 0, vu 0] 25)); have hz := hS5.alloc (.cells #[vi 0, vu 0] 25); have z0 := hz.cell (cs := [vi 0, vu 0]) (T := 25) 0 rfl; have z1 := hz.cell (cs := [vi 0, vu 0]) (T := 25) 1 rfl; have HZ := Lib.hid hz; clear hS5 hz)
            go_quiet (fail)
            go_wp2_with fail
            go_roundw
            case rel => exact ⟨(ps.length : Int) + 1, rfl, by omega, by omega, (HZ.out.dropL).drewN _⟩
            case measure => (simp [intOf]; try omega)
      · have HR := Lib.hid hS
        clear hS
        go_wp2_with fail
        go_loopw [8] (fun sx wr => ∃ s : Nat, s ≤ 7 ∧ sx = vi s ∧ Sat w0 (sl 50 21 (.slice a1 l.length c1) l.length (fpd l) * G) wr) (fun sx _ => 7 - (intOf sx).toNat)
        case atStart => exact ⟨0, by omega, rfl, HR.out⟩
        case round =>
          clear e0 e1 q0 HR
          obtain ⟨s, hs, rfl, hS⟩ := hrel
          obtain ⟨e0, e1⟩ := HC.out _ _ hS
          by_cases hs6 : s ≤ 6
          · have hsi : (s : Int) ≤ 6 := by omega
            have HO := Lib.hid (HOf.out s _ _ hS)
            clear hS
            go_wp2_with (go_at_call 39; (with_reducible refine HO.out.mono ?_); rintro e w5 ⟨vo, rfl, hS5⟩; obtain ⟨oo, oc, rfl⟩ := hS5.rd.len; have H5 : Hid (Sat w0 (sl 25 2 (.slice oo (ofL l s).length oc) (ofL l s).length (frefs (ofL l s)) * (sl 50 21 (.slice a1 l.length c1) l.length (fpd l) * G)) w5) := Lib.hid hS5; clear hS5)
            go_loopw [10, 11] (fun nx ix wr => ∃ j : Nat, j ≤ l.length ∧ ix = vi j ∧ nx = vi (ofL (l.take j) s).length ∧ Sat w0 (sl 25 2 (.slice oo (ofL l s).length oc) (ofL l s).length (frefs (ofL l s)) * (sl 50 21 (.slice a1 l.length c1) l.length (fpd l) * G)) wr) (fun _ ix _ => l.length - (intOf ix).toNat)
            case atStart => exact ⟨0, Nat.zero_le _, rfl, rfl, H5.out⟩
            case round =>
              clear e0 e1 H5
              obtain ⟨j, hj, rfl, rfl, hS⟩ := hrel
              have hol := ofL_len (l.take j) s
              rw [List.length_take] at hol
              by_cases hjl : j < l.length
              · have hji : (j : Int) < (l.length : Int) := by omega
                have hj0 : (0 : Int) ≤ (j : Int) := by omega
                obtain ⟨ga, rfl⟩ : ∃ ga, a1 = some ⟨ga, 0, none⟩ := by
                  rcases hS.pull2.slE.2 with ⟨_, h0, _⟩ | ⟨g', c', cur, hv, _⟩
                  · omega
                  · injection hv with h1 h2 h3
                    exact ⟨g', h1⟩
                obtain ⟨y, hy⟩ : ∃ y, l[j]? = some y := ⟨l[j], List.getElem?_eq_getElem hjl⟩
                have r2 : wr.cell? ⟨ga, j * 21 + 2, none⟩ = some (vi y.2.2.v0) := hS.pull2.slCell _ (flat_get (f := pdC) (N := 21) (j := 2) (fun _ => rfl) hy rfl)
                have HN := Lib.hid (ofL_next hy (s : Int))
                by_cases hv : y.2.2.v0 = (s : Int)
                · rw [if_pos hv] at HN
                  have hlt := ofL_lt hy hv
                  have hlti : ((ofL (l.take j) s).length : Int) < ((ofL l s).length : Int) := by omega
                  have hat := frefs_at (ofL_take hy hv)
                  obtain ⟨go, rfl⟩ : ∃ go, oo = some ⟨go, 0, none⟩ := by
                    rcases hS.slE.2 with ⟨_, h0, _⟩ | ⟨g', c', cur, hv, _⟩
                    · omega
                    · injection hv with h1 h2 h3
                      exact ⟨g', h1⟩
                  have x0 := hS.slCell _ hat.1
                  have x1 := hS.slCell _ hat.2
                  dsimp only at x0 x1
                  have r0 : wr.cell? ⟨ga, j * 21 + 0, none⟩ = some (vi y.1) := hS.pull2.slCell _ (flat_get (f := pdC) (N := 21) (j := 0) (fun _ => rfl) hy rfl)
                  have r1 : wr.cell? ⟨ga, j * 21 + 1, none⟩ = some (vu y.2.1) := hS.pull2.slCell _ (flat_get (f := pdC) (N := 21) (j := 1) (fun _ => rfl) hy rfl)
                  rw [Nat.add_zero] at r0
                  rw [hv] at r2
                  have HS := Lib.hid hS
                  have HN2 : Hid ((ofL (l.take (j + 1)) s).length = (ofL (l.take j) s).length + 1) := HN
                  generalize (ofL (l.take j) s).length = m at *
                  generalize ofL l s = L at *
                  clear hS hy hat hv hlt
                  have hm0 : (0 : Int) ≤ (m : Int) := by omega
                  have hd1 : decide ((L.length : Int) ≤ (m : Int)) = false := decide_eq_false (by omega)
                  have hd2 : decide (L.length ≤ m) = false := decide_eq_false (by omega)
                  have hmw : IntKind.i64.wrap ((m : Int) + 1) = (m : Int) + 1 := IntWalk.i64_in _ (by omega)
                  go_wp2_with fail
                  go_quiet (fail)
                  go_wp2_with fail
                  go_roundw
                  case rel => exact ⟨j + 1, by omega, by go_num, by rw [HN2.out]; go_num, HS.out.drewN _⟩
                  case measure => (simp [intOf]; try omega)
                · rw [if_neg hv] at HN
                  have hvb : (y.2.2.v0 == (s : Int)) = false := beq_eq_false_iff_ne.2 hv
                  have HS := Lib.hid hS
                  clear hS hy hv
                  go_wp2_with fail
                  go_roundw
                  case rel => exact ⟨j + 1, by omega, by go_num, by rw [HN.out, Nat.add_zero], HS.out⟩
                  case measure => (simp [intOf]; try omega)
              · obtain rfl : j = l.length := by omega
                have HS := Lib.hid hS
                clear hS
                rw [List.take_length]
                go_wp2_with fail
                go_roundw
                case rel => exact ⟨s + 1, by omega, by go_num, HS.out.dropL⟩
                case measure => (simp [intOf]; try omega)
          · obtain rfl : s = 7 := by omega
            have HS := Lib.hid hS
            clear hS
            go_wp2_with fail
            go_ret
            have h9 := HS.out.dropL
            rw [HG.out] at h9
            exact ⟨rfl, h9⟩
end
end Go.Proofs.Ytffjckdaekamgaa.Gt
