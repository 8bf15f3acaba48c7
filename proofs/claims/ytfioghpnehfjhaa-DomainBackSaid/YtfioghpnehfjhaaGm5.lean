/-
  Law 09: each act, of both. No statement is proved here.
-/
import Derived.Test.YtfioghpnehfjhaaGm4
namespace Go.Proofs.Ytfioghpnehfjhaa.Dm
open Go.RowKit Ad
set_option linter.unusedVariables false

/-- What the reference has, of these domains. -/
abbrev refD (q b cap : Nat) (vF : Value) (ps : List Pl) (free : List Nat) (F : Hp) : Hp :=
  rdB q b (ps.map oneOf).length cap vF * (rdL b cap (ps.map oneOf) * (sl 3 1 vF free.length (nats free) * F))
def PD (f : Nat) (i g : Int) (more : List Value) (ps : List Pl) (free : List Nat) (res : Value) (ps' : List Pl) (free' : List Nat) : Prop :=
  ∀ (w0 w : World) (F : Hp) (d p : Nat), Sat w0 (domB d p * (tblP p ps free * F)) w → Calls Try.prog f (vp d :: vr i g :: more).toArray w fun e w' => e = .returned res ∧ Sat w0 (domB d p * (tblP p ps' free' * F)) w'
def RD (f : Nat) (i g : Int) (more : List Value) (ps : List Pl) (free : List Nat) (res : Value) (ps' : List Pl) (free' : List Nat) : Prop :=
  ∀ (w0 w : World) (F : Hp) (q b cap : Nat) (vF : Value), Sat w0 (refD q b cap vF ps free F) w → Calls Try.prog f (vp q :: vr i g :: more).toArray w fun e w' => ∃ vG, e = .returned res ∧ Sat w0 (refD q b cap vG ps' free' F) w'
/-- Both answer the same, and the books balance behind it. -/
def Step (n T : Nat) (fP fR : Nat) (i g : Int) (more : List Value) (ps : List Pl) (free : List Nat) : Prop :=
  ∃ (code : Int) (ps' : List Pl) (free' : List Nat), Rel n (T + 1) ps' free' ∧ PD fP i g more ps free (vi code) ps' free' ∧ RD fR i g more ps free (vi code) ps' free'

section
variable {n T : Nat} {ps : List Pl} {free : List Nat}
theorem map_set {k : Nat} {a : Pl} : (ps.set k a).map oneOf = (ps.map oneOf).set k (oneOf a) := List.map_set
theorem getE_or (i g : Int) : getE ps i g = 11 ∨ ∃ k a, i = (k : Nat) ∧ ps[k]? = some a ∧ a.there = true ∧ a.gen = g ∧ isAt ps i g = some (k, a) := by
  rcases getE_cases ps i g with h | h
  · exact .inr (at_ref h)
  · exact .inl h
theorem set_here {k : Nat} {a : Pl} (ha : ps[k]? = some a) (ht : a.there = true) (x : El) : setP ps k a.gen x = ps.set k { a with x := x } := by
  unfold setP
  rw [isAt_of ha ht]
theorem refD_set {w0 w : World} {F : Hp} {q b cap : Nat} {vF : Value} {k : Nat} {a : Pl} {o : One} (e : oneOf a = o) (h : Sat w0 (rdB q b (ps.map oneOf).length cap vF * (rdL b cap ((ps.map oneOf).set k o) * (sl 3 1 vF free.length (nats free) * F))) w) : Sat w0 (refD q b cap vF (ps.set k a) free F) w := by
  subst e
  refine h.cast ?_
  unfold refD
  rw [map_set, List.length_set]
theorem livP_one {c : List Nat} {more : Int} {r : Nat} {a : Pl} (ha : ps[r]? = some a) (hr : r ∈ c) : (livP ps c more r).map oneOf = (ps.map oneOf).set r { oneOf a with own := (oneOf a).own + more } := by
  refine List.ext_getElem? fun j => ?_
  rw [List.getElem?_map, livP_at]
  by_cases hj : j = r
  · subst hj
    rw [List.getElem?_set_self (by rw [List.length_map]; exact (List.getElem?_eq_some_iff.1 ha).1), ha]
    simp only [Option.map_some, if_pos hr]
    simp [oneOf]
  · rw [List.getElem?_set_ne (by omega), List.getElem?_map]
    cases ps[j]? with
    | none => rfl
    | some b =>
      simp only [Option.map_some]
      have : (j == r) = false := beq_eq_false_iff_ne.2 hj
      rw [this]
      split <;> rfl
theorem Rel.chain0 (h : Rel n T ps free) {k : Nat} {a : Pl} (ha : ps[k]? = some a) (ht : a.there = true) : ∃ c : List Nat, Ch ps ((k : Int), a.gen) (c.map (rfp ps)) ∧ c.Nodup ∧ k ∈ c ∧ c[0]? = some k := by
  obtain ⟨c, hc, hn, hk, _⟩ := h.chain k a ha ht
  refine ⟨c, hc, hn, hk, ?_⟩
  cases c with
  | nil => cases hk
  | cons x l =>
    have : rfp ps x = ((k : Int), a.gen) := hc.1
    injection this with e _
    have : x = k := by omega
    rw [this]
    rfl
theorem stale_step (h : Rel n T ps free) {fP fR : Nat} {i g : Int} {more : List Value} (he : getE ps i g = 11)
    (hp : ∀ (w0 w : World) (F : Hp) (d p : Nat), Sat w0 (domB d p * (tblP p ps free * F)) w → Calls Try.prog fP (vp d :: vr i g :: more).toArray w fun e w' => e = .returned (vi 11) ∧ Sat w0 (domB d p * (tblP p ps free * F)) w')
    (hr : ∀ (w0 w : World) (F : Hp) (q b cap : Nat) (vF : Value), isR (ps.map oneOf) i g = false → Sat w0 (rdB q b (ps.map oneOf).length cap vF * (rdL b cap (ps.map oneOf) * F)) w → Calls Try.prog fR (vp q :: vr i g :: more).toArray w fun e w' => e = .returned (vi 11) ∧ Sat w0 (rdB q b (ps.map oneOf).length cap vF * (rdL b cap (ps.map oneOf) * F)) w') :
    Step n T fP fR i g more ps free :=
  ⟨11, ps, free, h.mono (Nat.le_succ T), hp, fun w0 w F q b cap vF hS => (hr w0 w _ q b cap vF (isR_no he) hS).mono fun e w' h => ⟨vF, h⟩⟩
theorem join_step (h : Rel n T ps free) (i g : Int) : Step n T 50 52 i g [] ps free := by
  rcases getE_or (ps := ps) i g with he | ⟨k, a, rfl, ha, ht, rfl, hA⟩
  · exact stale_step h he (fun w0 w F d p hS => join_stale hS i g he) (fun w0 w F q b cap vF hi hS => rjoin_stale hS i g hi)
  · obtain ⟨hX, hE⟩ := getX_of ha ht
    obtain ⟨cl, hcl⟩ := h.chains
    have htold := h.told hcl ha ht
    have hl := h.lim k a ha ht
    by_cases hq : a.x.v7 < a.x.v2 - a.x.v5
    · obtain ⟨c, hc, hn, hk, hr⟩ := h.chain0 ha ht
      have := hl.own
      refine ⟨0, livP ps c 1 k, free, (h.live_ ha ht hc hn hr (by omega)).mono (Nat.le_succ T), fun w0 w F d p hS => join_ok hS k a.gen hE c hc hn h.bd (by rw [hX]; exact h.dom ha ht) (by rw [hX]; exact hq), fun w0 w F q b cap vF hS => ?_⟩
      refine (rjoin_ok hS k (oneOf a) (one_at ha) ht cl hcl h.oneOk (by have := hl.gs; have := (h.v5 ha ht).1; show 0 ≤ a.x.v7 ∧ a.x.v7 ≤ 64; omega) (by rw [htold.v7, htold.v5, htold.v2]; omega)).mono fun e w' h2 => ⟨vF, h2.1, h2.2.cast ?_⟩
      unfold refD
      rw [livP_one ha hk, List.length_set]
    · refine ⟨15, ps, free, h.mono (Nat.le_succ T), fun w0 w F d p hS => join_quota hS k a.gen hE (by rw [hX]; exact h.dom ha ht) (by rw [hX]; omega), fun w0 w F q b cap vF hS => ?_⟩
      exact (rjoin_quota hS k (oneOf a) (one_at ha) ht cl hcl h.oneOk (by rw [htold.v7, htold.v5, htold.v2]; omega)).mono fun e w' h2 => ⟨vF, h2⟩
theorem leave_step (h : Rel n T ps free) (i g : Int) : Step n T 53 54 i g [] ps free := by
  rcases getE_or (ps := ps) i g with he | ⟨k, a, rfl, ha, ht, rfl, hA⟩
  · exact stale_step h he (fun w0 w F d p hS => leave_stale hS i g he) (fun w0 w F q b cap vF hi hS => rleave_stale hS i g hi)
  · obtain ⟨hX, hE⟩ := getX_of ha ht
    have hl := h.lim k a ha ht
    by_cases hq : a.x.v7 = 0
    · refine ⟨5, ps, free, h.mono (Nat.le_succ T), fun w0 w F d p hS => leave_state hS k a.gen hE (by rw [hX]; exact hq), fun w0 w F q b cap vF hS => ?_⟩
      exact (rleave_state hS k (oneOf a) (one_at ha) ht hq).mono fun e w' h2 => ⟨vF, h2⟩
    · obtain ⟨c, hc, hn, hk, hr⟩ := h.chain0 ha ht
      have := hl.own
      refine ⟨0, livP ps c (-1) k, free, (h.live_ ha ht hc hn hr (by omega)).mono (Nat.le_succ T), fun w0 w F d p hS => leave_ok hS k a.gen hE c hc hn h.bd (by rw [hX]; exact hq), fun w0 w F q b cap vF hS => ?_⟩
      refine (rleave_ok hS k (oneOf a) (one_at ha) ht hq (by have := hl.gs; have := (h.v5 ha ht).1; show 0 ≤ a.x.v7 ∧ a.x.v7 ≤ 64; omega)).mono fun e w' h2 => ⟨vF, h2.1, h2.2.cast ?_⟩
      unfold refD
      rw [livP_one ha hk, List.length_set]
      rfl
theorem use_step (h : Rel n T ps free) (i g : Int) {m : Int} (hm : U64 m) : Step n T 12 55 i g [vu m] ps free := by
  rcases getE_or (ps := ps) i g with he | ⟨k, a, rfl, ha, ht, rfl, hA⟩
  · refine stale_step h he (fun w0 w F d p hS => ?_) (fun w0 w F q b cap vF hi hS => ruse_stale hS i g m hi)
    have h1 := dm_use hS i g m (fun e => absurd (he ▸ e : (11 : Int) = 0) (by omega)) hm
    rw [he, setP_none he] at h1
    exact h1
  · obtain ⟨hX, hE⟩ := getX_of ha ht
    have hl := h.lim k a ha ht
    refine ⟨0, ps.set k { a with x := { a.x with v9 := addS a.x.v9 m } }, free, (h.turn ha ht { a.x with v9 := addS a.x.v9 m } rfl rfl rfl rfl rfl rfl rfl rfl rfl (addS_u64 hl.used hm)).mono (Nat.le_succ T), fun w0 w F d p hS => ?_, fun w0 w F q b cap vF hS => ?_⟩
    · have h1 := dm_use hS k a.gen m (fun _ => by rw [hX]; exact hl.used) hm
      rw [hE, hX, set_here ha ht] at h1
      exact h1
    · exact (ruse_ok hS k (oneOf a) (one_at ha) ht m hl.used hm).mono fun e w' h2 => ⟨vF, h2.1, refD_set rfl h2.2⟩
theorem clear_step (h : Rel n T ps free) (i g : Int) : Step n T 40 56 i g [] ps free := by
  rcases getE_or (ps := ps) i g with he | ⟨k, a, rfl, ha, ht, rfl, hA⟩
  · refine stale_step h he (fun w0 w F d p hS => ?_) (fun w0 w F q b cap vF hi hS => rclear_stale hS i g hi)
    have h1 := dm_clear hS i g
    rw [he, setP_none he] at h1
    exact h1
  · obtain ⟨hX, hE⟩ := getX_of ha ht
    refine ⟨0, ps.set k { a with x := { a.x with v9 := 0 } }, free, (h.turn ha ht { a.x with v9 := 0 } rfl rfl rfl rfl rfl rfl rfl rfl rfl (show U64 0 from ⟨by decide, by decide⟩)).mono (Nat.le_succ T), fun w0 w F d p hS => ?_, fun w0 w F q b cap vF hS => ?_⟩
    · have h1 := dm_clear hS k a.gen
      rw [hE, hX, set_here ha ht] at h1
      exact h1
    · exact (rclear_ok hS k (oneOf a) (one_at ha) ht).mono fun e w' h2 => ⟨vF, h2.1, refD_set rfl h2.2⟩
/-- Giving back one that nobody lives in, and out of which none is carved: by the program. -/
theorem merge_prog (h : Rel n T ps free) (hT : T ≤ 1000) {k j : Nat} {a b : Pl} (ha : ps[k]? = some a) (ht : a.there = true) (hk0 : k ≠ 0) (h8 : a.x.v8 ≤ 0) (h10 : a.x.v10 ≤ 0) (hb : ps[j]? = some b) (hbt : b.there = true) (e0 : a.x.v0 = (j : Nat)) (e1 : a.x.v1 = b.gen) :
    PD 26 k a.gen [] ps free (vi 0) (mrgP ps k j a b) (free ++ [k]) := by
  obtain ⟨hjk, hR⟩ := h.merge ha ht hk0 h8 h10 hb hbt e0 e1
  have hg := h.gens k a ha
  have hbd : (ps.set k { a with gen := a.gen + 1, there := false, x := ez })[j]? = some b := by rw [List.getElem?_set_ne (by omega)]; exact hb
  obtain ⟨qX, qE⟩ := getX_of hbd hbt
  have h5 := h.v5 hb hbt
  have hl := h.lim j b hb hbt
  have hla := h.lim k a ha ht
  have atJ : (mrgP ps k j a b)[j]? = some { b with x := mrgX b.x a.x } := List.getElem?_set_self (by rw [List.length_set]; exact (List.getElem?_eq_some_iff.1 hb).1)
  have h5' := hR.v5 atJ hbt
  have q5 : 0 ≤ b.x.v5 - a.x.v2 ∧ 0 ≤ b.x.v6 - a.x.v3 ∧ 0 ≤ b.x.v10 - 1 ∧ b.x.v10 - 1 ≤ 32 := h5'
  have l1 := hla.gs
  have l2 := hla.cpu
  have l3 := hl.own
  have l4 := hl.gs
  have l5 := hl.cpu
  have l6 := hl.car
  intro w0 w F d p hS
  have hA := isAt_of ha ht
  have := merge_ok hS k a.gen hA (by omega) (by omega) ⟨h8, h10⟩ (ps.set k { a with gen := a.gen + 1, there := false, x := ez }) rfl (by rw [e0, e1]; exact qE) b.x (by rw [e0, e1]; exact qX.symm) (IntWalk.i64_in _ (by omega)) (IntWalk.u64_in _ (by omega)) (IntWalk.i64_in _ (by omega))
  rw [e0, e1, set_here hbd hbt] at this
  exact this
theorem merge_step (h : Rel n T ps free) (hT : T ≤ 1000) (i g : Int) : Step n T 26 51 i g [] ps free := by
  rcases getE_or (ps := ps) i g with he | ⟨k, a, rfl, ha, ht, rfl, hA⟩
  · exact stale_step h he (fun w0 w F d p hS => merge_stale hS i g he) (fun w0 w F q b cap vF hi hS => rmerge_stale hS i g hi)
  · obtain ⟨hX, hE⟩ := getX_of ha ht
    obtain ⟨cl, hcl⟩ := h.chains
    have htold := h.told hcl ha ht
    have hg := h.gens k a ha
    rcases h.up ha ht with ⟨rfl, e0, e1, e2⟩ | ⟨hk0, j, b, hb, hbt, e0, e1⟩
    · refine ⟨2, ps, free, h.mono (Nat.le_succ T), fun w0 w F d p hS => ?_, fun w0 w F q b cap vF hS => ?_⟩
      · rw [e2] at hE ⊢
        exact merge_root hS hE
      · exact (rmerge_root hS 0 (oneOf a) (one_at ha) ht e1).mono fun e w' h2 => ⟨vF, h2⟩
    · have hpg : (oneOf a).pg ≠ 0 := by
        have := (h.gens j b hb).1
        show a.x.v1 ≠ 0
        omega
      by_cases hbusy : 0 < a.x.v8 ∨ 0 < a.x.v10
      · refine ⟨14, ps, free, h.mono (Nat.le_succ T), fun w0 w F d p hS => merge_busy hS k a.gen hE (by omega) (by rw [hX]; exact hbusy), fun w0 w F q b cap vF hS => ?_⟩
        refine (rmerge_busy hS k (oneOf a) (one_at ha) ht cl hcl h.oneOk hpg ?_).mono fun e w' h2 => ⟨vF, h2⟩
        rw [htold.v10]
        by_cases h10 : 0 < a.x.v10
        · exact .inr h10
        · rw [htold.v8 (by omega)]
          exact .inl (by omega)
      · have h8 : a.x.v8 ≤ 0 := by omega
        have h10 : a.x.v10 ≤ 0 := by omega
        obtain ⟨hjk, hR⟩ := h.merge ha ht hk0 h8 h10 hb hbt e0 e1
        refine ⟨0, mrgP ps k j a b, free ++ [k], hR, merge_prog h hT ha ht hk0 h8 h10 hb hbt e0 e1, fun w0 w F q b' cap vF hS => ?_⟩
        obtain ⟨vo, vc, rfl⟩ := hS.dropL.dropL.rd.len
        have hfl := h.flen
        have := h.n32
        have hm : (mrgP ps k j a b).map oneOf = (ps.map oneOf).set k ⟨(oneOf a).gen + 1, false, 0, 0, 0, 0, 0, 0, 0⟩ := by
          unfold mrgP
          rw [map_set, map_set]
          refine List.ext_getElem? fun m => ?_
          by_cases hmj : m = j
          · subst hmj
            rw [List.getElem?_set_self (by rw [List.length_set, List.length_map]; exact (List.getElem?_eq_some_iff.1 hb).1), List.getElem?_set_ne (by omega), one_at hb]
            rfl
          · rw [List.getElem?_set_ne (by omega)]
            rfl
        refine (rmerge_ok hS k (oneOf a) (one_at ha) ht cl hcl h.oneOk (by show 0 ≤ a.gen ∧ a.gen < _; omega) hpg (by rw [htold.v8 h10]; exact h8) (by rw [htold.v10]; exact h10) (by omega)).mono ?_
        rintro e w' ⟨vG, rfl, h2⟩
        refine ⟨vG, rfl, h2.cast ?_⟩
        unfold refD
        rw [hm, List.length_set, List.length_append, List.length_singleton]
/-- What carving answers: none, or one more. -/
def CarveStep (n T : Nat) (i g gs cpu per : Int) (ps : List Pl) (free : List Nat) : Prop :=
  ∃ (xi xg code : Int) (ps' : List Pl) (free' : List Nat), Rel n (T + 1) ps' free' ∧
    PD 32 i g [vi gs, vu cpu, vu per] ps free (.tuple #[vr xi xg, vi code]) ps' free' ∧
    RD 33 i g [vi gs, vu cpu, vu per] ps free (.tuple #[vr xi xg, vi code]) ps' free' ∧
    ((code ≠ 0 ∧ ps' = ps ∧ free' = free) ∨ (code = 0 ∧ ∃ (k m : Nat) (a am : Pl), ps[k]? = some a ∧ a.there = true ∧ ps[m]? = some am ∧ am.there = false ∧ xi = (m : Nat) ∧ xg = am.gen ∧ free = free' ++ [m] ∧ ps' = carP ps k m a am gs cpu per))
theorem carve_step (h : Rel n T ps free) (i g gs cpu per : Int) (hc : 0 ≤ cpu) : CarveStep n T i g gs cpu per ps free := by
  by_cases hm : MayD gs cpu per
  · rcases getE_or (ps := ps) i g with he | ⟨k, a, rfl, ha, ht, rfl, hA⟩
    · exact ⟨0, 0, 11, ps, free, h.mono (Nat.le_succ T), fun w0 w F d p hS => carve_stale hS i g gs cpu per hm he, fun w0 w F q b cap vF hS => (rcarve_stale hS i g gs cpu per hm (isR_no he)).mono fun e w' h2 => ⟨vF, h2⟩, .inl ⟨by omega, rfl, rfl⟩⟩
    · obtain ⟨hX, hE⟩ := getX_of ha ht
      obtain ⟨cl, hcl⟩ := h.chains
      have htold := h.told hcl ha ht
      have hdom : DomOk (getX ps k a.gen) := by rw [hX]; exact h.dom ha ht
      by_cases hf : FitsD (getX ps k a.gen) gs cpu
      · have hf2 : FitsR (getRR (ps.map oneOf) cl k (oneOf a)) gs cpu := by
          rw [hX] at hf
          unfold FitsD at hf
          unfold FitsR
          rw [htold.v2, htold.v3, htold.v5, htold.v6, htold.v7]
          omega
        rcases List.eq_nil_or_concat free with rfl | ⟨free', m, rfl⟩
        · exact ⟨0, 0, 3, ps, [], h.mono (Nat.le_succ T), fun w0 w F d p hS => carve_full hS k a.gen gs cpu per hm hE hdom hf, fun w0 w F q b cap vF hS => (rcarve_full rfl hS k (oneOf a) (one_at ha) ht gs cpu per hm hc cl hcl h.oneOk hf2).mono fun e w' h2 => ⟨vF, h2⟩, .inl ⟨by omega, rfl, rfl⟩⟩
        · rw [List.concat_eq_append] at h ⊢
          obtain ⟨am, ham, hamt⟩ := (h.mem m).1 (by simp)
          refine ⟨m, am.gen, 0, carP ps k m a am gs cpu per, free', h.carve ha ht ham hm hc (hX ▸ hf), fun w0 w F d p hS => ?_, fun w0 w F q b cap vF hS => ?_, .inr ⟨rfl, k, m, a, am, ha, ht, ham, hamt, rfl, rfl, rfl, rfl⟩⟩
          · have h1 := carve_ok hS ham k a.gen gs cpu per hm hE hdom hf hc
            rw [carP_set ha ht ham hamt] at h1
            exact h1
          · have hfl := h.flen
            have hn := h.n32
            rw [List.length_append, List.length_singleton] at hfl
            have hS' : Sat w0 (rdB q b (ps.map oneOf).length cap vF * (rdL b cap (ps.map oneOf) * (sl 3 1 vF (free'.length + 1) (nats (free' ++ [m])) * F))) w := hS.cast (by unfold refD; rw [List.length_append, List.length_singleton])
            obtain ⟨fa, fcap, rfl⟩ : ∃ fa fcap, vF = .slice (some ⟨fa, 0, none⟩) (free'.length + 1) fcap := by
              rcases hS'.pull3.slE.2 with ⟨_, h0, _⟩ | ⟨g', c', cur, hv, _⟩
              · omega
              · exact ⟨g', c', hv⟩
            have hne : m ≠ k := fun e => by subst e; rw [ha] at ham; cases ham; rw [ht] at hamt; cases hamt
            have hmp : (carP ps k m a am gs cpu per).map oneOf = (ps.map oneOf).set m ⟨(oneOf am).gen, true, gs, cpu, per, k, (oneOf a).gen, 0, 0⟩ := by
              unfold carP
              rw [map_set, map_set]
              refine List.ext_getElem? fun j => ?_
              by_cases hj : j = k
              · subst hj
                rw [List.getElem?_set_self (by rw [List.length_set, List.length_map]; exact (List.getElem?_eq_some_iff.1 ha).1), List.getElem?_set_ne (by omega), one_at ha]
                rfl
              · rw [List.getElem?_set_ne (by omega)]
                rfl
            refine (rcarve_ok hS' (one_at ham) (by omega) k (oneOf a) (one_at ha) ht gs cpu per hm hc cl hcl h.oneOk hf2).mono ?_
            rintro e w' ⟨rfl, h2⟩
            refine ⟨.slice (some ⟨fa, 0, none⟩) free'.length fcap, rfl, h2.cast ?_⟩
            unfold refD
            rw [hmp, List.length_set]
      · have hf2 : ¬ FitsR (getRR (ps.map oneOf) cl k (oneOf a)) gs cpu := by
          intro hf3
          apply hf
          rw [hX]
          unfold FitsR at hf3
          unfold FitsD
          rw [htold.v2, htold.v3, htold.v5, htold.v6, htold.v7] at hf3
          omega
        exact ⟨0, 0, 15, ps, free, h.mono (Nat.le_succ T), fun w0 w F d p hS => carve_quota hS k a.gen gs cpu per hm hE hdom hf, fun w0 w F q b cap vF hS => (rcarve_quota hS k (oneOf a) (one_at ha) ht gs cpu per hm hc cl hcl h.oneOk hf2).mono fun e w' h2 => ⟨vF, h2⟩, .inl ⟨by omega, rfl, rfl⟩⟩
  · exact ⟨0, 0, 2, ps, free, h.mono (Nat.le_succ T), fun w0 w F d p hS => carve_arg hS i g gs cpu per hm, fun w0 w F q b cap vF hS => (rcarve_arg hS i g gs cpu per hm).mono fun e w' h2 => ⟨vF, h2⟩, .inl ⟨by omega, rfl, rfl⟩⟩
end
end Go.Proofs.Ytfioghpnehfjhaa.Dm
