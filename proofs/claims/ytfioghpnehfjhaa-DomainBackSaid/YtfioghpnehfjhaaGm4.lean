/-
  Law 09: what the reference counts is what the books say. No statement is proved here.
-/
import Derived.Test.YtfioghpnehfjhaaGm3
namespace Go.Proofs.Ytfioghpnehfjhaa.Dm
open Go.RowKit Ad
set_option linter.unusedVariables false

section
variable {n T : Nat} {ps : List Pl} {free : List Nat}
theorem one_at {k : Nat} {a : Pl} (h : ps[k]? = some a) : (ps.map oneOf)[k]? = some (oneOf a) := by rw [List.getElem?_map, h]; rfl
theorem one_of {k : Nat} {o : One} (h : (ps.map oneOf)[k]? = some o) : ∃ a, ps[k]? = some a ∧ o = oneOf a := by
  rw [List.getElem?_map] at h
  cases ha : ps[k]? with
  | none => rw [ha] at h; cases h
  | some a => rw [ha] at h; cases h; exact ⟨a, rfl, rfl⟩
theorem isR_one (i g : Int) : isR (ps.map oneOf) i g = (isAt ps i g).isSome := by
  unfold isR isAt
  by_cases hi : i < 0
  · rw [if_pos hi, if_pos hi]; rfl
  · rw [if_neg hi, if_neg hi, List.getElem?_map]
    cases ps[i.toNat]? with
    | none => rfl
    | some a =>
      simp only [Option.map_some, oneOf]
      cases h : (a.there && a.gen == g) <;> simp
theorem isR_yes {i g : Int} (h : getE ps i g = 0) : isR (ps.map oneOf) i g = true := by
  rw [isR_one]
  unfold getE at h
  cases hA : isAt ps i g with
  | none => rw [hA] at h; cases h
  | some _ => rfl
theorem isR_no {i g : Int} (h : getE ps i g = 11) : isR (ps.map oneOf) i g = false := by
  rw [isR_one]
  unfold getE at h
  cases hA : isAt ps i g with
  | none => rfl
  | some _ => rw [hA] at h; cases h
theorem upO_one {r : Int × Int} (h : getE ps r.1 r.2 = 0) : upO (ps.map oneOf) r = upR ps r := by
  obtain ⟨r1, r2⟩ := r
  obtain ⟨k, a, e, ha, ht, hg, hA⟩ := at_ref h
  dsimp only at e hA
  subst e
  unfold upO upR getX
  simp only [hA, Int.toNat_natCast, one_at ha, oneOf]
theorem Ch_one : ∀ (l : List (Int × Int)) (r : Int × Int), Ch ps r l → ChR (ps.map oneOf) r l
  | [], r, h => isR_no h
  | x :: l, r, h => ⟨h.1, isR_yes h.2.1, by rw [upO_one h.2.1]; exact Ch_one l _ h.2.2⟩
theorem Rel.chains (h : Rel n T ps free) : ∃ cl, Chains (ps.map oneOf) cl := by
  have h1 : ∀ k : Nat, ∃ l : List (Int × Int), ∀ o, (ps.map oneOf)[k]? = some o → o.is = true → ChR (ps.map oneOf) (k, o.gen) l ∧ l.length ≤ 1000 := fun k => by
    by_cases hk : ∃ o, (ps.map oneOf)[k]? = some o ∧ o.is = true
    · obtain ⟨o, ho, his⟩ := hk
      obtain ⟨a, ha, rfl⟩ := one_of ho
      obtain ⟨c, hc, hn, _, hlt⟩ := h.chain k a ha his
      refine ⟨c.map (rfp ps), fun o' ho' his' => ?_⟩
      rw [ho] at ho'
      cases ho'
      refine ⟨Ch_one _ _ hc, ?_⟩
      rw [List.length_map]
      have := nodup_lt n c hn hlt
      have := h.n32
      omega
    · exact ⟨[], fun o ho his => absurd ⟨o, ho, his⟩ hk⟩
  exact ⟨fun k => (h1 k).choose, fun k o ho his => (h1 k).choose_spec o ho his⟩
theorem Rel.oneOk (h : Rel n T ps free) : OneOk (ps.map oneOf) := by
  refine ⟨by rw [List.length_map, h.len]; have := h.n32; omega, fun k o ho => ?_⟩
  obtain ⟨a, ha, rfl⟩ := one_of ho
  cases ht : a.there with
  | true =>
    have h1 := h.lim k a ha ht
    have h2 := h.v5 ha ht
    have := h1.gs
    have := h1.cpu
    have := h1.own
    simp only [oneOf]
    omega
  | false =>
    simp only [oneOf, (h.gone k a ha).2 ht]
    omega
theorem child_one {j : Nat} {b : Pl} (h : ps[j]? = some b) (k : Nat) (g : Int) : childB (ps.map oneOf) k g j = kidB b k g := by
  unfold childB
  rw [one_at h]
  rfl
theorem sum_take_snoc (f : Pl → Int) {m : Nat} {b : Pl} (h : ps[m]? = some b) : ((ps.take (m + 1)).map f).sum = ((ps.take m).map f).sum + f b := by
  rw [List.take_add_one, h, Option.toList_some, List.map_append, List.sum_append]
  simp
theorem sum_child (f : One → Int) (k : Nat) (g : Int) : ∀ m, m ≤ ps.length → sumO (ps.map oneOf) f (childL (ps.map oneOf) k g m) = ((ps.take m).map fun b => if kidB b k g then f (oneOf b) else 0).sum
  | 0, _ => by simp [childL, sumO]
  | m + 1, hm => by
    obtain ⟨b, hb⟩ : ∃ b, ps[m]? = some b := ⟨ps[m], List.getElem?_eq_getElem hm⟩
    rw [childL_succ, child_one hb, sum_take_snoc _ hb]
    cases hk : kidB b k g with
    | false => simpa using sum_child f k g m (by omega)
    | true =>
      simp only [if_true]
      rw [sumO_snoc _ _ _ _ (one_at hb), sum_child f k g m (by omega)]
theorem len_child (k : Nat) (g : Int) : ∀ m, m ≤ ps.length → ((childL (ps.map oneOf) k g m).length : Int) = ((ps.take m).map fun b => if kidB b k g then (1 : Int) else 0).sum
  | 0, _ => by simp [childL]
  | m + 1, hm => by
    obtain ⟨b, hb⟩ : ∃ b, ps[m]? = some b := ⟨ps[m], List.getElem?_eq_getElem hm⟩
    rw [childL_succ, child_one hb, sum_take_snoc _ hb]
    have ih := len_child k g m (by omega)
    cases hk : kidB b k g with
    | false => simpa using ih
    | true =>
      simp only [if_true, List.length_append, List.length_singleton]
      omega
theorem chr_mem {rs : List One} : ∀ (l : List (Int × Int)) (r x : Int × Int), ChR rs r l → x ∈ l → x = r ∨ ∃ y, isR rs y.1 y.2 = true ∧ upO rs y = x
  | [], r, x, _, hx => by cases hx
  | y :: l, r, x, h, hx => by
    obtain ⟨rfl, h1, h2⟩ := h
    rcases List.mem_cons.1 hx with rfl | hx
    · exact .inl rfl
    · rcases chr_mem l _ x h2 hx with rfl | hy
      · exact .inr ⟨y, h1, rfl⟩
      · exact .inr hy
theorem chr_self {rs : List One} {l : List (Int × Int)} {r : Int × Int} (h : ChR rs r l) (hr : isR rs r.1 r.2 = true) : r ∈ l := by
  cases l with
  | nil =>
    have h : isR rs r.1 r.2 = false := h
    rw [hr] at h
    cases h
  | cons x l =>
    rw [h.1]
    exact List.mem_cons_self
/-- What the reference tells of one that is there. -/
structure Told (x : El) (a : Pl) : Prop where
  v2 : x.v2 = a.x.v2
  v3 : x.v3 = a.x.v3
  v5 : x.v5 = a.x.v5
  v6 : x.v6 = a.x.v6
  v7 : x.v7 = a.x.v7
  v10 : x.v10 = a.x.v10
  v8 : a.x.v10 ≤ 0 → x.v8 = a.x.v8
theorem live_one (h : Rel n T ps free) {cl : Nat → List (Int × Int)} (hcl : Chains (ps.map oneOf) cl) {k : Nat} {a : Pl} (ha : ps[k]? = some a) (ht : a.there = true) (h10 : a.x.v10 ≤ 0) :
    ∀ m, liveR (ps.map oneOf) cl ((k : Int), a.gen) m = if k < m then a.x.v7 else 0 := by
  have hnk := h.no_kid ha ht h10
  intro m
  induction m with
  | zero => simp [liveR]
  | succ m ih =>
    show liveR _ _ _ m + _ = _
    rw [ih]
    cases hb : (ps.map oneOf)[m]? with
    | none =>
      have hkl : k < (ps.map oneOf).length := (List.getElem?_eq_some_iff.1 (one_at ha)).1
      have : (ps.map oneOf).length ≤ m := List.getElem?_eq_none_iff.1 hb
      rw [if_pos (by omega), if_pos (by omega)]
      simp
    | some o =>
      obtain ⟨b, hb', rfl⟩ := one_of hb
      dsimp only
      by_cases hmk : m = k
      · subst hmk
        rw [ha] at hb'
        cases hb'
        have hmem : ((m : Int), a.gen) ∈ cl m := chr_self (hcl m _ hb ht).1 (isR_yes (getX_of ha ht).2)
        rw [if_neg (show ¬ m < m by omega), if_pos (show m < m + 1 by omega), if_pos ⟨ht, hmem⟩]
        show 0 + a.x.v7 = a.x.v7
        omega
      · have hno : ¬ ((oneOf b).is = true ∧ ((k : Int), a.gen) ∈ cl m) := by
          rintro ⟨hbt, hx⟩
          rcases chr_mem _ _ _ (hcl m _ hb hbt).1 hx with e | ⟨y, hy, hup⟩
          · injection e with e1 _
            omega
          · obtain ⟨i, o', e1, ho', his, hg⟩ := isR_some hy
            obtain ⟨c, hc, rfl⟩ := one_of ho'
            obtain ⟨y1, y2⟩ := y
            dsimp only at e1 hg
            subst e1
            unfold upO at hup
            simp only [Int.toNat_natCast, ho', oneOf] at hup
            injection hup with q1 q2
            have : kidB c k a.gen = true := kidB_iff.2 ⟨his, q1, q2⟩
            rw [hnk i c hc] at this
            cases this
        by_cases hkm : k < m
        · rw [if_pos hkm, if_neg hno, if_pos (show k < m + 1 by omega)]
          omega
        · rw [if_neg hkm, if_neg hno, if_neg (show ¬ k < m + 1 by omega)]
          omega
theorem Rel.told (h : Rel n T ps free) {cl : Nat → List (Int × Int)} (hcl : Chains (ps.map oneOf) cl) {k : Nat} {a : Pl} (ha : ps[k]? = some a) (ht : a.there = true) : Told (getRR (ps.map oneOf) cl k (oneOf a)) a := by
  have hll : (ps.map oneOf).length = ps.length := List.length_map _
  have hkl : k < ps.length := (List.getElem?_eq_some_iff.1 ha).1
  refine ⟨rfl, rfl, ?_, ?_, rfl, ?_, ?_⟩
  · have := sum_child (ps := ps) One.gs k a.gen ps.length (Nat.le_refl _)
    rw [List.take_length] at this
    show sumO _ One.gs (childL _ k a.gen (ps.map oneOf).length) = _
    rw [hll, this]
    exact (h.books .gs k a ha ht).symm
  · have := sum_child (ps := ps) One.cpu k a.gen ps.length (Nat.le_refl _)
    rw [List.take_length] at this
    show sumO _ One.cpu (childL _ k a.gen (ps.map oneOf).length) = _
    rw [hll, this]
    exact (h.books .cpu k a ha ht).symm
  · have := len_child (ps := ps) k a.gen ps.length (Nat.le_refl _)
    rw [List.take_length] at this
    show ((childL _ k a.gen (ps.map oneOf).length).length : Int) = _
    rw [hll, this]
    exact (h.books .kid k a ha ht).symm
  · intro h10
    show liveR _ cl ((k : Int), a.gen) (ps.map oneOf).length = _
    rw [live_one h hcl ha ht h10, hll, if_pos hkl]
    have h1 := h.books .live k a ha ht
    rw [kidS_none (h.no_kid ha ht h10)] at h1
    simp only [Bk.of] at h1
    omega
end
end Go.Proofs.Ytfioghpnehfjhaa.Dm
