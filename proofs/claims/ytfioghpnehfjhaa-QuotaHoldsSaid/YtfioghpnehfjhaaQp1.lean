/-
  Domains that are only carved: what is kept, of both sides; Carve of either, whatever is asked. No statement is proved here.
-/
import Derived.Test.YtfioghpnehfjhaaRd7
namespace Go.Proofs.Ytfioghpnehfjhaa.Dm
open Go.RowKit Ad
set_option linter.unusedVariables false

/-- Domains as they were carved: nothing is used yet. -/
structure DInv (ps : List Pl) (m : Nat) : Prop where
  len : ps.length = 32
  pos : 1 ≤ m
  le : m ≤ 32
  here : ∀ k, k < m → ∃ a, ps[k]? = some a ∧ a.there = true ∧ a.gen = 1 ∧ DomOk a.x ∧ a.x.v10 < m ∧ 1 ≤ a.x.v4 ∧ a.x.v4 ≤ 4294967296 ∧ a.x.v9 = 0 ∧ ((k = 0 ∧ a.x.v0 = 0 ∧ a.x.v1 = 0) ∨ ∃ j : Nat, j < k ∧ a.x.v0 = j ∧ a.x.v1 = 1)
  free : ∀ k, m ≤ k → k < 32 → ps[k]? = some ⟨1, false, false, ez⟩

theorem isAt_here {ps : List Pl} {k : Nat} {a : Pl} (h : ps[k]? = some a) (ht : a.there = true) (hg : a.gen = 1) : isAt ps k 1 = some (k, a) := by
  unfold isAt
  rw [if_neg (by omega), Int.toNat_natCast, h]
  simp [ht, hg]
theorem getE_here {ps : List Pl} {k : Nat} {a : Pl} (h : ps[k]? = some a) (ht : a.there = true) (hg : a.gen = 1) : getE ps k 1 = 0 ∧ getX ps k 1 = a.x := by
  unfold getE getX
  rw [isAt_here h ht hg]
  exact ⟨rfl, rfl⟩
theorem DInv.root {cpu per : Int} (hm : MayD 64 cpu per) (hc : 0 ≤ cpu) : DInv (rootL 32 64 cpu per) 1 := by
  obtain ⟨_, _, h3, h4, h5⟩ := hm
  refine ⟨by simp [rootL], by omega, by omega, ?_, ?_⟩
  · intro k hk
    obtain rfl : k = 0 := by omega
    refine ⟨⟨1, true, false, domX 0 0 64 cpu per⟩, by simp [rootL], rfl, rfl, ?_, by simp, h4, h5, rfl, .inl ⟨rfl, rfl, rfl⟩⟩
    simp only [DomOk]
    omega
  · intro k hk hk2
    unfold rootL
    rw [List.getElem?_set_ne (by omega), List.getElem?_replicate, if_pos hk2]
theorem DInv.carve {ps : List Pl} {m i : Nat} (h : DInv ps m) (hi : i < m) (hm32 : m < 32) {gs cpu per : Int} (hm : MayD gs cpu per) (hc : 0 ≤ cpu) (hf : FitsD (getX ps i 1) gs cpu) :
    DInv (setP (ps.set m ⟨1, true, false, domX i 1 gs cpu per⟩) i 1 (carX (getX ps i 1) gs cpu)) (m + 1) := by
  obtain ⟨a, ha, ht, hg, hok, h10, hp1, hp2, h9, hpar⟩ := h.here i hi
  have hne : m ≠ i := by omega
  have ha2 : (ps.set m ⟨1, true, false, domX i 1 gs cpu per⟩)[i]? = some a := by rw [List.getElem?_set_ne hne]; exact ha
  have hX := (getE_here ha ht hg).2
  rw [hX] at hf ⊢
  unfold setP
  rw [isAt_here ha2 ht hg]
  have hl := h.len
  obtain ⟨m1, m2, m3, m4, m5⟩ := hm
  obtain ⟨f1, f2⟩ := hf
  refine ⟨by simpa using hl, by omega, by omega, ?_, ?_⟩
  · intro k hk
    by_cases hki : k = i
    · subst hki
      refine ⟨{ a with x := carX a.x gs cpu }, get_set_self ha2 _, ht, hg, ?_, ?_, hp1, hp2, h9, hpar⟩
      · unfold DomOk at hok ⊢
        simp only
        have := h.le
        omega
      · show a.x.v10 + 1 < ((m + 1 : Nat) : Int)
        omega
    · by_cases hkm : k = m
      · subst hkm
        refine ⟨⟨1, true, false, domX i 1 gs cpu per⟩, ?_, rfl, rfl, ?_, ?_, m4, m5, rfl, .inr ⟨i, hi, rfl, rfl⟩⟩
        · rw [List.getElem?_set_ne (by omega)]
          exact get_set_self (h.free k (Nat.le_refl _) (by omega)) _
        · simp only [DomOk]
          omega
        · show (0 : Int) < _
          omega
      · obtain ⟨b, hb, h1, h2, h3, h4, h5⟩ := h.here k (by omega)
        refine ⟨b, ?_, h1, h2, h3, by omega, h5⟩
        rw [List.getElem?_set_ne (by omega), List.getElem?_set_ne (by omega)]
        exact hb
  · intro k hk hk2
    rw [List.getElem?_set_ne (by omega), List.getElem?_set_ne (by omega)]
    exact h.free k (by omega) hk2

/-- The refs that came. -/
def refsL (m : Nat) : List (Int × Int) := (List.range m).map fun k : Nat => ((k : Int), 1)
theorem refsL_len (m : Nat) : (refsL m).length = m := by simp [refsL]
theorem refsL_at {m k : Nat} (h : k < m) : (refsL m)[k]? = some ((k : Int), 1) := by
  unfold refsL
  rw [List.getElem?_map, List.getElem?_range h]
  rfl
theorem refsL_succ (m : Nat) : refsL (m + 1) = refsL m ++ [((m : Int), 1)] := by simp [refsL, List.range_succ]

/-- The reference's. -/
structure RInv (rs : List One) (m : Nat) : Prop where
  len : rs.length = 32
  pos : 1 ≤ m
  le : m ≤ 32
  here : ∀ k, k < m → ∃ a, rs[k]? = some a ∧ a.is = true ∧ a.gen = 1 ∧ 0 ≤ a.gs ∧ a.gs ≤ 64 ∧ 0 ≤ a.cpu ∧ a.cpu ≤ 4294967296 ∧ a.own = 0 ∧ ((k = 0 ∧ a.pi = 0 ∧ a.pg = 0) ∨ ∃ j : Nat, j < k ∧ a.pi = j ∧ a.pg = 1)
  free : ∀ k, m ≤ k → k < 32 → rs[k]? = some o1
theorem RInv.ok {rs : List One} {m : Nat} (h : RInv rs m) : OneOk rs := by
  refine ⟨by rw [h.len]; omega, fun k a ha => ?_⟩
  have hk : k < 32 := by rw [← h.len]; exact (List.getElem?_eq_some_iff.1 ha).1
  by_cases hkm : k < m
  · obtain ⟨b, hb, _, _, h1, h2, h3, h4, h5, _⟩ := h.here k hkm
    rw [ha] at hb
    cases hb
    omega
  · have := h.free k (by omega) hk
    rw [ha] at this
    cases this
    simp
theorem RInv.chain {rs : List One} {m : Nat} (h : RInv rs m) : ∀ k : Nat, k < m → ∃ l, ChR rs ((k : Int), 1) l ∧ l.length ≤ k + 1 := by
  intro k
  induction k using Nat.strongRecOn with
  | _ k ih =>
    intro hk
    obtain ⟨a, ha, hi, hg, _, _, _, _, _, hp⟩ := h.here k hk
    have his : isR rs k 1 = true := by
      unfold isR
      rw [if_neg (by omega), Int.toNat_natCast, ha]
      simp [hi, hg]
    have hup : upO rs ((k : Int), 1) = (a.pi, a.pg) := by
      unfold upO
      rw [Int.toNat_natCast, ha]
    rcases hp with ⟨rfl, h1, h2⟩ | ⟨j, hj, h1, h2⟩
    · refine ⟨[((0 : Nat), 1)], ⟨rfl, his, ?_⟩, by simp⟩
      rw [hup, h1, h2]
      show isR rs 0 0 = false
      unfold isR
      rw [if_neg (by omega), show (0 : Int).toNat = 0 from rfl, ha]
      simp [hg]
    · obtain ⟨l, hl, hll⟩ := ih j hj (by omega)
      refine ⟨((k : Int), 1) :: l, ⟨rfl, his, ?_⟩, by simp; omega⟩
      rw [hup, h1, h2]
      exact hl
theorem RInv.chains {rs : List One} {m : Nat} (h : RInv rs m) : ∃ cl, Chains rs cl := by
  have h1 : ∀ k : Nat, ∃ l, k < m → ChR rs ((k : Int), 1) l ∧ l.length ≤ k + 1 := fun k => by
    by_cases hk : k < m
    · obtain ⟨l, hl⟩ := h.chain k hk
      exact ⟨l, fun _ => hl⟩
    · exact ⟨[], fun h => absurd h hk⟩
  refine ⟨fun k => Classical.choose (h1 k), fun k a ha his => ?_⟩
  have hk : k < 32 := by rw [← h.len]; exact (List.getElem?_eq_some_iff.1 ha).1
  have hkm : k < m := Classical.byContradiction fun hc => by
    have := h.free k (by omega) hk
    rw [ha] at this
    cases this
    cases his
  obtain ⟨b, hb, _, hg, _⟩ := h.here k hkm
  rw [ha] at hb
  cases hb
  rw [hg]
  have := Classical.choose_spec (h1 k) hkm
  have h2 := this.2
  exact ⟨this.1, Nat.le_trans h2 (by omega)⟩
theorem RInv.root {cpu per : Int} (hm : MayD 64 cpu per) (hc : 0 ≤ cpu) : RInv (rootO 32 64 cpu per) 1 := by
  obtain ⟨_, _, h3, h4, h5⟩ := hm
  refine ⟨rootO_len _ _ _ _, by omega, by omega, ?_, ?_⟩
  · intro k hk
    obtain rfl : k = 0 := by omega
    exact ⟨⟨1, true, 64, cpu, per, 0, 0, 0, 0⟩, by simp [rootO], rfl, rfl, by simp, by simp, hc, h3, rfl, .inl ⟨rfl, rfl, rfl⟩⟩
  · intro k hk hk2
    unfold rootO
    rw [List.getElem?_set_ne (by omega), List.getElem?_replicate, if_pos hk2]
theorem RInv.carve {rs : List One} {m i : Nat} (h : RInv rs m) (hi : i < m) (hm32 : m < 32) {gs cpu per : Int} (hm : MayD gs cpu per) (hc : 0 ≤ cpu) : RInv (rs.set m ⟨1, true, gs, cpu, per, i, 1, 0, 0⟩) (m + 1) := by
  have hl := h.len
  obtain ⟨m1, m2, m3, m4, m5⟩ := hm
  refine ⟨by simpa using hl, by omega, by omega, ?_, ?_⟩
  · intro k hk
    by_cases hkm : k = m
    · subst hkm
      refine ⟨⟨1, true, gs, cpu, per, i, 1, 0, 0⟩, List.getElem?_set_self (by omega), rfl, rfl, m1, m2, hc, m3, rfl, .inr ⟨i, hi, rfl, rfl⟩⟩
    · obtain ⟨b, hb, h1⟩ := h.here k (by omega)
      exact ⟨b, by rw [List.getElem?_set_ne (by omega)]; exact hb, h1⟩
  · intro k hk hk2
    rw [List.getElem?_set_ne (by omega)]
    exact h.free k (by omega) hk2

/-- All that the reference has. -/
def RQ (q : Nat) : Hp := ex fun z : Nat × Nat × Value × List One × Nat => given (RInv z.2.2.2.1 z.2.2.2.2) (rdB q z.1 z.2.2.2.1.length z.2.1 z.2.2.1 * (rdL z.1 z.2.1 z.2.2.2.1 * sl 3 1 z.2.2.1 (newF 32 (32 - z.2.2.2.2)).length (nats (newF 32 (32 - z.2.2.2.2)))))

section
variable {w0 w : World} {F : Hp} {d p q : Nat}
theorem RQ.open_ (h : Sat w0 (RQ q * F) w) : ∃ b cap vF rs m, RInv rs m ∧ Sat w0 (rdB q b rs.length cap vF * (rdL b cap rs * (sl 3 1 vF (newF 32 (32 - m)).length (nats (newF 32 (32 - m))) * F))) w := by
  obtain ⟨⟨b, cap, vF, rs, m⟩, h⟩ := h.exE
  obtain ⟨hi, h⟩ := h.givenE
  exact ⟨b, cap, vF, rs, m, hi, h.cast (by ac_rfl)⟩
theorem RQ.shut {b cap : Nat} {vF : Value} {rs : List One} {m : Nat} (hi : RInv rs m) (h : Sat w0 (rdB q b rs.length cap vF * (rdL b cap rs * (sl 3 1 vF (newF 32 (32 - m)).length (nats (newF 32 (32 - m))) * F))) w) : Sat w0 (RQ q * F) w :=
  Sat.exI (b, cap, vF, rs, m) (Sat.givenI hi (h.cast (by ac_rfl)))
theorem r_new_any {cpu per : Int} (hm : MayD 64 cpu per) (hc : 0 ≤ cpu) (hS : Sat w0 F w) : Calls Try.prog 30 #[vi 32, vi 64, vu cpu, vu per] w fun e w' => ∃ q, e = .returned (vp q) ∧ Sat w0 (RQ q * F) w' :=
  (rd_new 32 (by omega) (by omega) 64 cpu per hS).mono fun e w' ⟨q, b, fa, fcap, he, h⟩ => ⟨q, he, RQ.shut (RInv.root hm hc) (h.cast (by unfold rdL; rw [rootO_len, newF_len]))⟩
theorem r_carve_any (hS : Sat w0 (RQ q * F) w) (i : Nat) (gs cpu per : Int) (hc : 0 ≤ cpu) : Calls Try.prog 33 #[vp q, vr i 1, vi gs, vu cpu, vu per] w fun e w' => ∃ v, e = .returned v ∧ Sat w0 (RQ q * F) w' := by
  obtain ⟨b, cap, vF, rs, m, hi, h⟩ := RQ.open_ hS
  by_cases hm : MayD gs cpu per
  · by_cases him : i < m
    · obtain ⟨a, ha, his, hg, _⟩ := hi.here i him
      obtain ⟨cl, hcl⟩ := hi.chains
      rw [show (vr (i : Int) 1 : Value) = vr i a.gen by rw [hg]]
      by_cases hf : FitsR (getRR rs cl i a) gs cpu
      · by_cases h32 : m = 32
        · subst h32
          exact (rcarve_full rfl h i a ha his gs cpu per hm hc cl hcl hi.ok hf).mono fun e w' ⟨h1, h2⟩ => ⟨_, h1, RQ.shut hi h2⟩
        · obtain ⟨n, hn⟩ : ∃ n, 32 - m = n + 1 := ⟨31 - m, by have := hi.le; omega⟩
          have hj : 32 - 1 - n = m := by omega
          rw [hn, newF_succ, hj, List.length_append] at h
          obtain ⟨fa, fcap, rfl⟩ : ∃ fa fcap, vF = .slice (some ⟨fa, 0, none⟩) ((newF 32 n).length + [m].length) fcap := by
            rcases h.pull3.slE.2 with ⟨_, h0, _⟩ | ⟨g', c', cur, hv, _⟩
            · simp at h0
            · exact ⟨g', c', hv⟩
          have hfr : rs[m]? = some o1 := hi.free m (Nat.le_refl _) (by have := hi.le; omega)
          refine (rcarve_ok h hfr (by rw [newF_len]; omega) i a ha his gs cpu per hm hc cl hcl hi.ok hf).mono ?_
          rintro e w' ⟨h1, h2⟩
          refine ⟨_, h1, RQ.shut (b := b) (cap := cap) (vF := .slice (some ⟨fa, 0, none⟩) (newF 32 n).length fcap) (m := m + 1) (hi.carve him (by have := hi.le; omega) hm hc) (h2.cast ?_)⟩
          rw [hg, show 32 - (m + 1) = n by omega, List.length_set]
      · exact (rcarve_quota h i a ha his gs cpu per hm hc cl hcl hi.ok hf).mono fun e w' ⟨h1, h2⟩ => ⟨_, h1, RQ.shut hi h2⟩
    · have hst : isR rs i 1 = false := by
        unfold isR
        rw [if_neg (by omega), Int.toNat_natCast]
        cases hr : rs[i]? with
        | none => rfl
        | some a =>
          have hi32 : i < 32 := by rw [← hi.len]; exact (List.getElem?_eq_some_iff.1 hr).1
          have := hi.free i (by omega) hi32
          rw [hr] at this
          cases this
          rfl
      exact (rcarve_stale h i 1 gs cpu per hm hst).mono fun e w' ⟨h1, h2⟩ => ⟨_, h1, RQ.shut hi h2⟩
  · exact (rcarve_arg h i 1 gs cpu per hm).mono fun e w' ⟨h1, h2⟩ => ⟨_, h1, RQ.shut hi h2⟩
/-- What Carve answers of domains that are only carved. -/
def CarvedTo (w0 : World) (d p : Nat) (F : Hp) (m : Nat) (e : Ending) (w' : World) : Prop :=
  ∃ (e1 ri rg : Int) (ps' : List Pl) (m' : Nat), e = .returned (.tuple #[vr ri rg, vi e1]) ∧ DInv ps' m' ∧ ((e1 ≠ 0 ∧ m' = m) ∨ (e1 = 0 ∧ m' = m + 1 ∧ ri = m ∧ rg = 1)) ∧ Sat w0 (domB d p * (tblP p ps' (newF 32 (32 - m')) * F)) w'
theorem d_carve_any {ps : List Pl} {m : Nat} (hS : Sat w0 (domB d p * (tblP p ps (newF 32 (32 - m)) * F)) w) (hi : DInv ps m) (i : Nat) (him : i < m) (gs cpu per : Int) (hc : 0 ≤ cpu) :
    Calls Try.prog 32 #[vp d, vr i 1, vi gs, vu cpu, vu per] w (CarvedTo w0 d p F m) := by
  obtain ⟨a, ha, ht, hg, hok, _⟩ := hi.here i him
  obtain ⟨hE, hX⟩ := getE_here ha ht hg
  by_cases hm : MayD gs cpu per
  · by_cases hf : FitsD (getX ps i 1) gs cpu
    · by_cases h32 : m = 32
      · subst h32
        exact (carve_full hS i 1 gs cpu per hm hE (hX ▸ hok) hf).mono fun e w' ⟨h1, h2⟩ => ⟨3, 0, 0, ps, 32, h1, hi, .inl ⟨by omega, rfl⟩, h2⟩
      · obtain ⟨n, hn⟩ : ∃ n, 32 - m = n + 1 := ⟨31 - m, by have := hi.le; omega⟩
        have hj : 32 - 1 - n = m := by omega
        rw [hn, newF_succ, hj] at hS
        have hfr := hi.free m (Nat.le_refl _) (by have := hi.le; omega)
        refine (carve_ok hS hfr i 1 gs cpu per hm hE (hX ▸ hok) hf hc).mono ?_
        rintro e w' ⟨h1, h2⟩
        refine ⟨0, m, 1, _, m + 1, h1, hi.carve him (by have := hi.le; omega) hm hc hf, .inr ⟨rfl, rfl, rfl, rfl⟩, ?_⟩
        rw [show 32 - (m + 1) = n by omega]
        exact h2
    · exact (carve_quota hS i 1 gs cpu per hm hE (hX ▸ hok) hf).mono fun e w' ⟨h1, h2⟩ => ⟨15, 0, 0, ps, m, h1, hi, .inl ⟨by omega, rfl⟩, h2⟩
  · exact (carve_arg hS i 1 gs cpu per hm).mono fun e w' ⟨h1, h2⟩ => ⟨2, 0, 0, ps, m, h1, hi, .inl ⟨by omega, rfl⟩, h2⟩
end
end Go.Proofs.Ytfioghpnehfjhaa.Dm
