/-
  What is used of domains that are only carved: plain law. No statement is proved here.
-/
import Derived.Test.YtfioghpnehfjhaaQp1
namespace Go.Proofs.Ytfioghpnehfjhaa.Dm
open Go.RowKit Ad
set_option linter.unusedVariables false

/-- Domains of which so much is used. -/
def wu (ps : List Pl) (u : Nat → Int) : List Pl := ps.mapIdx fun k a => { a with x := { a.x with v9 := u k } }
theorem wu_at (ps : List Pl) (u : Nat → Int) (k : Nat) : (wu ps u)[k]? = (ps[k]?).map fun a => { a with x := { a.x with v9 := u k } } := by
  unfold wu
  rw [List.getElem?_mapIdx]
def rf (k : Nat) : Int × Int := ((k : Int), 1)
theorem isAt_wu (ps : List Pl) (u : Nat → Int) (i g : Int) : isAt (wu ps u) i g = (isAt ps i g).map fun ka => (ka.1, { ka.2 with x := { ka.2.x with v9 := u ka.1 } }) := by
  unfold isAt
  split
  · rfl
  · rw [wu_at]
    cases h : ps[i.toNat]? with
    | none => rfl
    | some a =>
      simp only [Option.map_some]
      split <;> rfl
theorem getE_wu (ps : List Pl) (u : Nat → Int) (i g : Int) : getE (wu ps u) i g = getE ps i g := by
  unfold getE
  rw [isAt_wu]
  cases isAt ps i g <;> rfl
theorem upR_wu (ps : List Pl) (u : Nat → Int) (r : Int × Int) : upR (wu ps u) r = upR ps r := by
  unfold upR getX
  rw [isAt_wu]
  cases isAt ps r.1 r.2 <;> rfl
theorem Ch_wu (ps : List Pl) (u : Nat → Int) : ∀ (l : List (Int × Int)) (r : Int × Int), Ch ps r l → Ch (wu ps u) r l
  | [], r, h => by
    show getE _ _ _ = 11
    rw [getE_wu]
    exact h
  | x :: l, r, h => by
    refine ⟨h.1, ?_, ?_⟩
    · rw [getE_wu]; exact h.2.1
    · rw [upR_wu]; exact Ch_wu ps u l _ h.2.2
theorem wu_len (ps : List Pl) (u : Nat → Int) : (wu ps u).length = ps.length := by simp [wu]

section
variable {ps : List Pl} {m : Nat}
theorem DInv.getX_wu (h : DInv ps m) (u : Nat → Int) {k : Nat} (hk : k < m) : getX (wu ps u) k 1 = { getX ps k 1 with v9 := u k } := by
  obtain ⟨a, ha, ht, hg, _⟩ := h.here k hk
  unfold getX
  rw [isAt_wu, isAt_here ha ht hg]
  rfl
theorem DInv.wu0 (h : DInv ps m) : wu ps (fun _ => 0) = ps := by
  refine List.ext_getElem? fun k => ?_
  rw [wu_at]
  cases hk : ps[k]? with
  | none => rfl
  | some a =>
    have hk32 : k < 32 := by rw [← h.len]; exact (List.getElem?_eq_some_iff.1 hk).1
    have h9 : a.x.v9 = 0 := by
      by_cases hkm : k < m
      · obtain ⟨b, hb, _, _, _, _, _, _, h9, _⟩ := h.here k hkm
        rw [hk] at hb
        cases hb
        exact h9
      · have := h.free k (by omega) hk32
        rw [hk] at this
        cases this
        rfl
    obtain ⟨gen, there, ret, x⟩ := a
    obtain ⟨v0, v1, v2, v3, v4, v5, v6, v7, v8, v9, v10⟩ := x
    simp only at h9
    subst h9
    rfl
theorem DInv.used (h : DInv ps m) {u : Nat → Int} (hu : ∀ k, U64 (u k)) : Used0 (wu ps u) := by
  intro k a ha
  rw [wu_at] at ha
  cases hk : ps[k]? with
  | none => rw [hk] at ha; cases ha
  | some b =>
    rw [hk] at ha
    simp only [Option.map_some, Option.some.injEq] at ha
    subst ha
    refine ⟨?_, hu k⟩
    have hk32 : k < 32 := by rw [← h.len]; exact (List.getElem?_eq_some_iff.1 hk).1
    by_cases hkm : k < m
    · obtain ⟨c, hc, _, _, hok, _⟩ := h.here k hkm
      rw [hk] at hc
      cases hc
      unfold DomOk at hok
      unfold U64
      simp only
      omega
    · have := h.free k (by omega) hk32
      rw [hk] at this
      cases this
      exact (show U64 0 from ⟨by decide, by decide⟩)
theorem DInv.use_wu (h : DInv ps m) (u : Nat → Int) {k : Nat} (hk : k < m) (n : Int) : useP (wu ps u) (rf k) n = wu ps (fun j => if j = k then addS (u k) n else u j) := by
  have hX := h.getX_wu u hk
  obtain ⟨a, ha, ht, hg, _⟩ := h.here k hk
  unfold useP rf
  simp only
  rw [hX]
  unfold setP
  rw [isAt_wu, isAt_here ha ht hg]
  simp only [Option.map_some]
  refine List.ext_getElem? fun j => ?_
  rw [wu_at]
  by_cases hj : j = k
  · subst hj
    rw [List.getElem?_set_self (by rw [wu_len]; exact (List.getElem?_eq_some_iff.1 ha).1), ha, if_pos rfl]
    have : getX ps j 1 = a.x := (getE_here ha ht hg).2
    rw [this]
    simp
  · rw [List.getElem?_set_ne (by omega), wu_at]
    simp only [if_neg hj]
/-- Who is charged. -/
def chU (c : List Nat) (u : Nat → Int) : Nat → Int := fun j => if j ∈ c then addS (u j) 1 else u j
theorem DInv.charge_wu (h : DInv ps m) : ∀ (c : List Nat) (u : Nat → Int), (∀ j ∈ c, j < m) → c.Nodup → chargeP (wu ps u) (c.map rf) = wu ps (chU c u)
  | [], u, _, _ => by
    show wu ps u = _
    congr 1
  | k :: c, u, hc, hn => by
    show chargeP (useP (wu ps u) (rf k) 1) (c.map rf) = _
    obtain ⟨hk, hn⟩ := List.nodup_cons.1 hn
    rw [h.use_wu u (hc k (by simp)) 1, h.charge_wu c _ (fun j hj => hc j (by simp [hj])) hn]
    congr 1
    funext j
    unfold chU
    by_cases hj : j = k
    · subst hj
      simp [hk]
    · simp [hj]
theorem DInv.chain (h : DInv ps m) : ∀ k, k < m → ∃ c : List Nat, Ch ps (rf k) (c.map rf) ∧ (∀ j ∈ c, j ≤ k) ∧ c.Nodup ∧ k ∈ c := by
  intro k
  induction k using Nat.strongRecOn with
  | _ k ih =>
    intro hk
    obtain ⟨a, ha, ht, hg, _, _, _, _, _, hp⟩ := h.here k hk
    obtain ⟨hE, hX⟩ := getE_here ha ht hg
    have hup : upR ps (rf k) = (a.x.v0, a.x.v1) := by
      show ((getX ps k 1).v0, (getX ps k 1).v1) = _
      rw [hX]
    rcases hp with ⟨rfl, h1, h2⟩ | ⟨j, hj, h1, h2⟩
    · refine ⟨[0], ⟨rfl, hE, ?_⟩, by simp, by simp, by simp⟩
      rw [hup, h1, h2]
      show getE ps 0 0 = 11
      unfold getE isAt
      rw [if_neg (by omega), show (0 : Int).toNat = 0 from rfl, ha]
      simp [hg]
    · obtain ⟨c, hc, hle, hnd, _⟩ := ih j hj (by omega)
      refine ⟨k :: c, ⟨rfl, hE, ?_⟩, ?_, ?_, by simp⟩
      · rw [hup, h1, h2]
        exact hc
      · intro i hi
        rcases List.mem_cons.1 hi with rfl | hi
        · exact Nat.le_refl _
        · have := hle i hi
          omega
      · refine List.nodup_cons.2 ⟨fun hk2 => ?_, hnd⟩
        have := hle k hk2
        omega
/-- A function that hands out chains. -/
structure CnOk (ps : List Pl) (m : Nat) (cn : Nat → List Nat) : Prop where
  ch : ∀ k, k < m → Ch ps (rf k) ((cn k).map rf)
  le : ∀ k, k < m → ∀ j ∈ cn k, j ≤ k
  nd : ∀ k, k < m → (cn k).Nodup
  self : ∀ k, k < m → k ∈ cn k
theorem DInv.cn (h : DInv ps m) : ∃ cn, CnOk ps m cn := by
  have h1 : ∀ k : Nat, ∃ c : List Nat, k < m → Ch ps (rf k) (c.map rf) ∧ (∀ j ∈ c, j ≤ k) ∧ c.Nodup ∧ k ∈ c := fun k => by
    by_cases hk : k < m
    · obtain ⟨c, hc⟩ := h.chain k hk
      exact ⟨c, fun _ => hc⟩
    · exact ⟨[], fun h => absurd h hk⟩
  exact ⟨fun k => Classical.choose (h1 k), fun k hk => (Classical.choose_spec (h1 k) hk).1, fun k hk => (Classical.choose_spec (h1 k) hk).2.1, fun k hk => (Classical.choose_spec (h1 k) hk).2.2.1, fun k hk => (Classical.choose_spec (h1 k) hk).2.2.2⟩
theorem CnOk.lt {cn : Nat → List Nat} (h : CnOk ps m cn) {k : Nat} (hk : k < m) : ∀ j ∈ cn k, j < m := fun j hj => by
  have := h.le k hk j hj
  omega
theorem nodup_le : ∀ (n : Nat) (c : List Nat), c.Nodup → (∀ j ∈ c, j < n) → c.length ≤ n
  | 0, c, _, h => by
    cases c with
    | nil => simp
    | cons a l => exact absurd (h a (by simp)) (by omega)
  | n + 1, c, hn, h => by
    have h1 := nodup_le n (c.erase n) (hn.erase n) (fun j hj => by
      have h2 := (hn.mem_erase_iff).1 hj
      have := h j h2.2
      omega)
    rw [List.length_erase] at h1
    split at h1 <;> omega
theorem CnOk.len {cn : Nat → List Nat} (h : CnOk ps m cn) {k : Nat} (hk : k < m) : ((cn k).map rf).length ≤ m := by
  rw [List.length_map]
  exact nodup_le m _ (h.nd k hk) (h.lt hk)

theorem minP_spec : ∀ (l : List Int), l ≠ [] → minP l ∈ l ∧ ∀ x ∈ l, minP l ≤ x := by
  have key : ∀ (xs : List Int) (x : Int), (xs.foldl (fun n m => if m < n then m else n) x = x ∨ xs.foldl (fun n m => if m < n then m else n) x ∈ xs) ∧ xs.foldl (fun n m => if m < n then m else n) x ≤ x ∧ ∀ y ∈ xs, xs.foldl (fun n m => if m < n then m else n) x ≤ y := by
    intro xs
    induction xs with
    | nil => intro x; simp
    | cons y xs ih =>
      intro x
      obtain ⟨h1, h2, h3⟩ := ih (if y < x then y else x)
      simp only [List.foldl_cons]
      generalize xs.foldl (fun n m => if m < n then m else n) (if y < x then y else x) = r at *
      by_cases hyx : y < x
      · rw [if_pos hyx] at h1 h2
        refine ⟨?_, by omega, ?_⟩
        · rcases h1 with h1 | h1
          · exact .inr (by simp [h1])
          · exact .inr (by simp [h1])
        · intro z hz
          rcases List.mem_cons.1 hz with rfl | hz
          · exact h2
          · exact h3 z hz
      · rw [if_neg hyx] at h1 h2
        refine ⟨?_, h2, ?_⟩
        · rcases h1 with h1 | h1
          · exact .inl h1
          · exact .inr (by simp [h1])
        · intro z hz
          rcases List.mem_cons.1 hz with rfl | hz
          · omega
          · exact h3 z hz
  intro l hl
  cases l with
  | nil => exact absurd rfl hl
  | cons x xs =>
    obtain ⟨h1, h2, h3⟩ := key xs x
    refine ⟨?_, ?_⟩
    · show xs.foldl _ x ∈ _
      rcases h1 with h1 | h1
      · rw [h1]; simp
      · exact List.mem_cons_of_mem _ h1
    · intro y hy
      rcases List.mem_cons.1 hy with rfl | hy
      · exact h2
      · exact h3 y hy
/-- What is left, by places. -/
def lf (ps : List Pl) (u : Nat → Int) (c : List Nat) : Int := minP (c.map fun j : Nat => subS (getX ps j 1).v3 (u j))
theorem DInv.left_wu (h : DInv ps m) (u : Nat → Int) {c : List Nat} (hc : ∀ j ∈ c, j < m) : LeftP (wu ps u) (c.map rf) = lf ps u c := by
  unfold LeftP lf
  rw [List.map_map]
  congr 1
  refine List.map_congr_left fun j hj => ?_
  show leftP (wu ps u) (rf j) = _
  unfold leftP rf
  simp only
  rw [h.getX_wu u (hc j hj)]
theorem lf_le (ps : List Pl) {u u' : Nat → Int} {c : List Nat} (hc : c ≠ []) (h : ∀ j : Nat, j ∈ c → subS (getX ps j 1).v3 (u' j) ≤ subS (getX ps j 1).v3 (u j)) : lf ps u' c ≤ lf ps u c := by
  have h1 := minP_spec (c.map fun j : Nat => subS (getX ps j 1).v3 (u j)) (by simpa using hc)
  have h2 := minP_spec (c.map fun j : Nat => subS (getX ps j 1).v3 (u' j)) (by simpa using hc)
  obtain ⟨j, hj, e⟩ := List.mem_map.1 h1.1
  have h3 := h2.2 _ (List.mem_map_of_mem (f := fun j : Nat => subS (getX ps j 1).v3 (u' j)) hj)
  have h4 := h j hj
  unfold lf
  omega
theorem lf_pred (ps : List Pl) {u u' : Nat → Int} {c : List Nat} (hc : c ≠ []) (h : ∀ j : Nat, j ∈ c → subS (getX ps j 1).v3 (u' j) = subS (getX ps j 1).v3 (u j) - 1) : lf ps u' c = lf ps u c - 1 := by
  have h1 := minP_spec (c.map fun j : Nat => subS (getX ps j 1).v3 (u j)) (by simpa using hc)
  have h2 := minP_spec (c.map fun j : Nat => subS (getX ps j 1).v3 (u' j)) (by simpa using hc)
  obtain ⟨j, hj, e⟩ := List.mem_map.1 h1.1
  obtain ⟨i, hi, e2⟩ := List.mem_map.1 h2.1
  have h3 := h2.2 _ (List.mem_map_of_mem (f := fun j : Nat => subS (getX ps j 1).v3 (u' j)) hj)
  have h5 := h1.2 _ (List.mem_map_of_mem (f := fun j : Nat => subS (getX ps j 1).v3 (u j)) hi)
  have h4 := h j hj
  have h6 := h i hi
  unfold lf
  omega
theorem lf_pos (ps : List Pl) {u : Nat → Int} {c : List Nat} (hp : 0 < lf ps u c) (hc : c ≠ []) : ∀ j : Nat, j ∈ c → u j < (getX ps j 1).v3 := fun j hj => by
  have h1 := (minP_spec (c.map fun j : Nat => subS (getX ps j 1).v3 (u j)) (by simpa using hc)).2 _ (List.mem_map_of_mem (f := fun j : Nat => subS (getX ps j 1).v3 (u j)) hj)
  unfold lf at hp
  unfold subS at h1 hp
  split at h1 <;> omega
theorem DInv.v3_le (h : DInv ps m) {k : Nat} (hk : k < m) : (getX ps k 1).v3 ≤ 4294967296 ∧ 0 ≤ (getX ps k 1).v3 := by
  obtain ⟨a, ha, ht, hg, hok, _⟩ := h.here k hk
  rw [(getE_here ha ht hg).2]
  unfold DomOk at hok
  omega
/-- Charging leaves less, or as much, for each; and one less for itself. -/
theorem DInv.less (h : DInv ps m) {cn : Nat → List Nat} (hc : CnOk ps m cn) {u : Nat → Int} (hu : ∀ k, U64 (u k)) {r : Nat} (hr : r < m) (hp : 0 < lf ps u (cn r)) :
    (∀ i, i < m → lf ps (chU (cn r) u) (cn i) ≤ lf ps u (cn i)) ∧ lf ps (chU (cn r) u) (cn r) = lf ps u (cn r) - 1 := by
  have hne : ∀ i, i < m → cn i ≠ [] := fun i hi e => by
    have := hc.self i hi
    rw [e] at this
    cases this
  have hpos := lf_pos ps hp (hne r hr)
  have hstep : ∀ j ∈ cn r, chU (cn r) u j = u j + 1 := fun j hj => by
    have h1 := hpos j hj
    have h2 := h.v3_le (hc.lt hr j hj)
    unfold chU
    rw [if_pos hj]
    unfold addS addP
    rw [if_neg (by omega)]
    rfl
  refine ⟨fun i hi => lf_le ps (hne i hi) fun j hj => ?_, lf_pred ps (hne r hr) fun j hj => ?_⟩
  · by_cases hjr : j ∈ cn r
    · rw [hstep j hjr]
      unfold subS
      split <;> split <;> omega
    · unfold chU
      rw [if_neg hjr]
      exact Int.le_refl _
  · rw [hstep j hj]
    have h1 := hpos j hj
    unfold subS
    rw [if_pos (by omega), if_pos (by omega)]
    omega
theorem chU_u64 {c : List Nat} {u : Nat → Int} (hu : ∀ k, U64 (u k)) : ∀ k, U64 (chU c u k) := fun k => by
  unfold chU
  split
  · exact addS_u64 (hu k) ⟨by decide, by decide⟩
  · exact hu k
end
end Go.Proofs.Ytfioghpnehfjhaa.Dm
