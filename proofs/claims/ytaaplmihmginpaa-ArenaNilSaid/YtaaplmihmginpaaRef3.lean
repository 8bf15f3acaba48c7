/-
  Contracts of the reference of layer 3 (a list and its room): Push, Take, Cut, Remove. No statement is proved here.
-/
import Derived.Test.YtaaplmihmginpaaSlices
namespace Go.Proofs.Ytaaplmihmginpaa
open Go.RowKit
set_option linter.unusedVariables false

/-- A slice somewhere in a block of the call's own, n elements of one cell. -/
def rs (e : TypeId) (v : Value) (xs : List Value) : Hp :=
  ⟨fun L => (v = .slice none 0 0 ∧ xs = [] ∧ L = []) ∨ ∃ g off cap cur, v = .slice (some ⟨g, off, none⟩) xs.length cap ∧ xs.length ≤ cap ∧ cap ≤ maxLen ∧ L = [(g, .cells cur e (0, 0))] ∧ ∀ j u, xs[j]? = some u → cur[off + j]? = some u,
   fun {L L'} h hx => by
    rcases hx with ⟨a, b, rfl⟩ | ⟨g, off, cap, cur, a, b, c, rfl, r⟩
    · exact .inl ⟨a, b, List.nil_perm.1 h⟩
    · exact .inr ⟨g, off, cap, cur, a, b, c, List.perm_singleton.1 h.symm, r⟩⟩

section
variable {w0 w : World} {F : Hp} {e : TypeId} {v : Value} {xs : List Value}
theorem Sat.rsE (h : Sat w0 (rs e v xs * F) w) : (v = .slice none 0 0 ∧ xs = [] ∧ Sat w0 F w) ∨
    ∃ g off cap cur, v = .slice (some ⟨g, off, none⟩) xs.length cap ∧ xs.length ≤ cap ∧ cap ≤ maxLen ∧ Sat w0 (pc g e cur * F) w ∧ ∀ j u, xs[j]? = some u → cur[off + j]? = some u := by
  have hd := h.dropL
  obtain ⟨hb, L, ⟨L1, L2, p, a, b⟩, r⟩ := h
  rcases a with ⟨rfl, rfl, rfl⟩ | ⟨g, off, cap, cur, rfl, h1, h2, rfl, h3⟩
  · exact .inl ⟨rfl, rfl, hd⟩
  · exact .inr ⟨g, off, cap, cur.toList, rfl, h1, h2, ⟨hb, L, ⟨_, L2, p, by simp [pc, pt], b⟩, r⟩, by simpa using h3⟩
theorem Sat.rsI {g off cap : Nat} {cur : List Value} (h : Sat w0 (pc g e cur * F) w) (hn : xs.length ≤ cap) (hc : cap ≤ maxLen) (h3 : ∀ j u, xs[j]? = some u → cur[off + j]? = some u) : Sat w0 (rs e (.slice (some ⟨g, off, none⟩) xs.length cap) xs * F) w := by
  obtain ⟨hb, L, ⟨L1, L2, p, a, b⟩, r⟩ := h
  have a : L1 = [(g, .cells cur.toArray e (0, 0))] := a
  subst a
  exact ⟨hb, L, ⟨_, L2, p, .inr ⟨g, off, cap, cur.toArray, rfl, hn, hc, rfl, by simpa using h3⟩, b⟩, r⟩
theorem Sat.rsNil (h : Sat w0 F w) (e : TypeId) : Sat w0 (rs e (.slice none 0 0) [] * F) w := by
  obtain ⟨hb, L, hL, r⟩ := h
  exact ⟨hb, L, ⟨[], L, List.Perm.refl _, .inl ⟨rfl, rfl, rfl⟩, hL⟩, r⟩
theorem Sat.rsRd (h : Sat w0 (rs e v xs * F) w) : Rd w 1 v xs.length xs := by
  refine ⟨by simp, ?_⟩
  rcases h.rsE with ⟨rfl, rfl, _⟩ | ⟨g, off, cap, cur, rfl, h1, _, hS, h3⟩
  · exact .inl ⟨rfl, _, _, rfl⟩
  · exact .inr ⟨g, off, cap, rfl, fun j u hj => hS.cell _ (h3 j u hj)⟩
theorem Sat.rsOfSl {n : Nat} (h : Sat w0 (sl e 1 v n xs * F) w) : Sat w0 (rs e v xs * F) w := by
  obtain ⟨hl, h⟩ := h.slE
  rw [Nat.mul_one] at hl
  subst hl
  rcases h with ⟨rfl, h0, hS⟩ | ⟨g, cap, cur, rfl, h1, h2, h3, h4, hS⟩
  · have : xs = [] := List.eq_nil_of_length_eq_zero h0
    subst this
    exact hS.rsNil e
  · refine hS.rsI h1 h2 ?_
    intro j u hj
    rw [Nat.zero_add]
    rw [← h4, List.getElem?_take] at hj
    split at hj
    · exact hj
    · cases hj
end

def refC (q : Nat) (v : Value) (most : Nat) (xs : List Int) : Hp := pc q 62 [v, vi most] * rs 3 v (xs.map vi)
def refP (q : Nat) (most : Nat) (xs : List Int) : Hp := ex fun v : Value => refC q v most xs

theorem Sat.ref {w0 w : World} {q most : Nat} {xs : List Int} {F : Hp} (h : Sat w0 (refP q most xs * F) w) : ∃ v, Sat w0 (pc q 62 [v, vi most] * (rs 3 v (xs.map vi) * F)) w ∧ RdI w v xs := by
  obtain ⟨v, h⟩ := h.exE
  have h' := h.cast (sep_assoc _ _ _)
  refine ⟨v, h', ?_⟩
  have h2 := (h'.cast (show _ = rs 3 v (xs.map vi) * (pc q 62 [v, vi most] * F) by ac_rfl)).rsRd
  simpa [RdI] using h2
theorem Sat.refI {w0 w : World} {q most : Nat} {xs : List Int} {F : Hp} {v : Value} (h : Sat w0 (pc q 62 [v, vi most] * (rs 3 v (xs.map vi) * F)) w) : Sat w0 (refP q most xs * F) w :=
  Sat.exI v (h.cast (sep_assoc _ _ _).symm)

/-! ### Push -/
theorem ref_push {w0 w : World} {q most : Nat} {xs : List Int} {F : Hp} (h : Sat w0 (refP q most xs * F) w) (hn : xs.length ≤ most) (hm : most ≤ 4096) (x : Int) :
    Calls Try.prog 59 #[vp q, vi x] w fun e w' => e = .returned (vi (pushE most xs)) ∧ Sat w0 (refP q most (pushL most xs x) * F) w' := by
  obtain ⟨v, hS, hR⟩ := h.ref
  obtain ⟨ao, cap, rfl⟩ := hR.len
  have c0 := hS.cell 0 rfl
  have c1 := hS.cell 1 rfl
  have hR' := Lib.hid hR
  have hS' := Lib.hid hS
  by_cases hf : xs.length = most
  · unfold pushL pushE
    rw [if_pos hf, if_pos hf]
    have hle : most ≤ xs.length := by omega
    have hf' := Lib.hid hf
    clear hf hn
    go_enter Try.func59, Try.ntmps59
    go_wp2
    go_quiet (fail)
    go_wp2
    go_ret
    exact ⟨rfl, Sat.refI (hS'.out.drewN _)⟩
  · unfold pushL pushE
    rw [if_neg hf, if_neg hf]
    have hlt : xs.length < most := by omega
    clear hf hn
    go_enter Try.func59, Try.ntmps59
    go_wp2
    go_quiet (fail)
    go_wp2_with (first | (at_builtin; refine wpList_append_sl Einti rfl (.const (.slice none 0 0)) (.tmp 19) rfl rfl ((hS'.out.drewN _).addNil 3 1) (by rfl) (hR'.out.drewN _) (by simp [Value.oneCell']) (by unfold maxLen; omega) (by omega) ?_; intro ao1 cap1 w1 hS1; simp only [Nat.zero_add, List.nil_append] at hS1) | (at_builtin; refine wpList_append_sl Einti rfl (.tmp 20) (.tmp 22) rfl rfl (hS1.alloc' _) (by rfl) (Rd.one _ _ _) (by simp [Value.oneCell']) (by unfold maxLen; omega) (by omega) ?_; intro ao2 cap2 w2 hS2; have d2 := (hS2.dropL).cell 0 rfl; have f2 := hS2.dropL.free 0))
    go_ret
    have h3 := (hS2.pull2.store 0 (.slice ao2 (xs.length + 1) cap2)).drop3
    have h4 := h3.in2 Sat.rsOfSl
    exact ⟨rfl, Sat.refI (v := .slice ao2 (xs.length + 1) cap2) (h4.cast (by simp))⟩

/-! ### Take -/
def takeK (n : Int) (xs : List Int) : Nat := min n.toNat xs.length

theorem ref_take_nil {w0 w : World} {q most : Nat} {F : Hp} (hS : Sat w0 (pc q 62 [.slice none 0 0, vi most] * F) w) (n : Int) :
    Calls Try.prog 60 #[vp q, vi n] w fun e w' => e = .returned (.slice none 0 0) ∧ Sat w0 (pc q 62 [.slice none 0 0, vi most] * F) w' := by
  have hf := hS.free 0
  have c0 := hS.cell 0 rfl
  have hS' := Lib.hid hS
  clear hS
  go_enter Try.func60, Try.ntmps60
  go_wp2
  go_loop [5] (fun i => i = vi 0) (fun i => 0)
  case atStart => exact rfl
  case round =>
    obtain rfl := hrel
    by_cases h1 : 0 < n
    · go_wp2
      go_ret
      exact ⟨rfl, (hS'.out.store 0 (.slice none 0 0)).cast (by simp)⟩
    · go_wp2
      go_ret
      exact ⟨rfl, (hS'.out.store 0 (.slice none 0 0)).cast (by simp)⟩

theorem ref_take_at {w0 w : World} {q most g off cap len : Nat} {F : Hp} (hS : Sat w0 (pc q 62 [.slice (some ⟨g, off, none⟩) len cap, vi most] * F) w) (hl : len ≤ 4096) (hlc : len ≤ cap) (hcm : cap ≤ maxLen) (n : Int) :
    Calls Try.prog 60 #[vp q, vi n] w fun e w' => e = .returned (.slice (some ⟨g, off, none⟩) (min n.toNat len) cap) ∧ ∃ off', (min n.toNat len < len → off' = off + min n.toNat len) ∧
      Sat w0 (pc q 62 [.slice (some ⟨g, off', none⟩) (len - min n.toNat len) (cap - min n.toNat len), vi most] * F) w' := by
  have hf := hS.free 0
  have c0 := hS.cell 0 rfl
  have hS' := Lib.hid hS
  unfold maxLen at hcm
  clear hS
  go_enter Try.func60, Try.ntmps60
  go_wp2
  go_loop [5] (fun i => ∃ k : Nat, k ≤ len ∧ (k ≤ n.toNat) ∧ i = vi k) (fun i => len - (intOf i).toNat)
  case atStart => exact ⟨0, Nat.zero_le _, Nat.zero_le _, rfl⟩
  case round =>
    obtain ⟨k, hk, hkn, rfl⟩ := hrel
    have hkc : k ≤ cap := by omega
    have hmk : ¬ ((k : Int) < n ∧ k < len) → Hid (min n.toNat len = k) := fun h => Lib.hid (by omega)
    by_cases h1 : (k : Int) < n
    · by_cases h2 : k < len
      · clear hmk
        go_wp2
        go_round
        case rel => exact ⟨k + 1, by omega, by omega, by go_num⟩
        case measure => simp [intOf]; omega
      · have hm := hmk (by omega)
        clear hmk
        by_cases hck : cap = k
        · have hck' := Lib.hid hck
          go_wp2
          go_ret
          rw [hm.out]
          refine ⟨rfl, off, fun h => absurd h (by omega), (hS'.out.store 0 _).cast (congrArg (· * F) (congrArg (pc q _) ?_))⟩
          simp
        · go_wp2
          go_ret
          rw [hm.out]
          refine ⟨rfl, off + k, fun h => rfl, (hS'.out.store 0 _).cast (congrArg (· * F) (congrArg (pc q _) ?_))⟩
          simp
    · have hm := hmk (by omega)
      clear hmk
      by_cases hck : cap = k
      · have hck' := Lib.hid hck
        go_wp2
        go_ret
        rw [hm.out]
        refine ⟨rfl, off, fun h => absurd h (by omega), (hS'.out.store 0 _).cast (congrArg (· * F) (congrArg (pc q _) ?_))⟩
        simp
      · go_wp2
        go_ret
        rw [hm.out]
        refine ⟨rfl, off + k, fun h => rfl, (hS'.out.store 0 _).cast (congrArg (· * F) (congrArg (pc q _) ?_))⟩
        simp

theorem ref_take {w0 w : World} {q most : Nat} {xs : List Int} {F : Hp} (h : Sat w0 (refP q most xs * F) w) (hl : xs.length ≤ 4096) (n : Int) :
    Calls Try.prog 60 #[vp q, vi n] w fun e w' => ∃ v, e = .returned v ∧ RdI w' v (xs.take (takeK n xs)) ∧ Sat w0 (refP q most (xs.drop (takeK n xs)) * F) w' := by
  obtain ⟨v, hS, hR⟩ := h.ref
  rcases hS.pull2.rsE with ⟨rfl, hx, hS2⟩ | ⟨g, off, cap, cur, hv, h1, h2, hS2, hc⟩
  · have hx : xs = [] := by simpa using hx
    subst hx
    refine (ref_take_nil hS2 n).mono ?_
    rintro e w' ⟨rfl, hS3⟩
    refine ⟨.slice none 0 0, rfl, by simpa [RdI] using Rd.nil w' 1, Sat.refI (v := .slice none 0 0) ((hS3.rsNil 3).pull2.cast (by simp))⟩
  · subst hv
    simp only [List.length_map] at h1 hS2
    refine (ref_take_at hS2.pull2 hl h1 h2 n).mono ?_
    rintro e w' ⟨rfl, off', ho, hS3⟩
    have hk : takeK n xs ≤ xs.length := Nat.min_le_right _ _
    change Sat w0 (pc q _ [.slice (some ⟨g, off', none⟩) (xs.length - takeK n xs) (cap - takeK n xs), vi most] * (pc g 3 cur * F)) w' at hS3
    have hlen : xs.length - takeK n xs = (xs.drop (takeK n xs)).length := by simp
    refine ⟨_, rfl, ⟨by simp, ?_⟩, ?_⟩
    · by_cases h0 : takeK n xs = 0
      · refine .inl ⟨by simp [h0], some ⟨g, off, none⟩, cap, ?_⟩
        have : min n.toNat xs.length = 0 := h0
        rw [this]
      · refine .inr ⟨g, off, cap, ?_, fun j u hj => ?_⟩
        · rw [List.length_take, Nat.min_eq_left hk]; rfl
        · refine hS3.pull2.cell _ (hc j u ?_)
          rw [List.map_take, List.getElem?_take] at hj
          split at hj
          · exact hj
          · cases hj
    · rw [hlen] at hS3
      have e1 : (xs.drop (takeK n xs)).length = ((xs.drop (takeK n xs)).map vi).length := by simp
      have h5 : Sat w0 (rs 3 (.slice (some ⟨g, off', none⟩) ((xs.drop (takeK n xs)).map vi).length (cap - takeK n xs)) ((xs.drop (takeK n xs)).map vi) * (pc q 62 [.slice (some ⟨g, off', none⟩) (xs.drop (takeK n xs)).length (cap - takeK n xs), vi most] * F)) w' := by
        refine hS3.pull2.rsI (by simp; omega) (by omega) (fun j u hj => ?_)
        have hjl := (List.getElem?_eq_some_iff.1 hj).1
        simp only [List.length_map, List.length_drop] at hjl
        rw [List.map_drop, List.getElem?_drop] at hj
        have ho' : off' = off + takeK n xs := ho (show takeK n xs < xs.length by omega)
        have := hc _ u hj
        rw [ho', Nat.add_assoc]
        exact this
      rw [← e1] at h5
      exact Sat.refI h5.pull2

/-! ### Cut, Remove -/
theorem oneI (l : List Int) : ∀ u ∈ l.map vi, u.oneCell' = true := by
  intro u hu
  obtain ⟨x, _, rfl⟩ := List.mem_map.1 hu
  rfl

theorem RdI.pre {w : World} {b off n cap k : Nat} {xs : List Int} (h : RdI w (.slice (some ⟨b, off, none⟩) n cap) xs) (hn : xs.length ≠ 0) (hk : k ≤ xs.length) : RdI w (.slice (some ⟨b, off, none⟩) k cap) (xs.take k) := by
  obtain ⟨b', off', e, hc⟩ := h.at_ hn
  cases e
  refine ⟨by simp, ?_⟩
  refine .inr ⟨b, off, cap, by rw [List.length_take, Nat.min_eq_left hk], fun j u hj => ?_⟩
  have hjl := (List.getElem?_eq_some_iff.1 hj).1
  simp only [List.length_map, List.length_take] at hjl
  rw [hc j (by omega)]
  rw [List.map_take, List.getElem?_take, if_pos (by omega)] at hj
  have hjx : j < xs.length := by omega
  simpa [hjx] using hj
theorem RdI.post {w : World} {b off n cap c2 k : Nat} {a' : Addr} {xs : List Int} (h : RdI w (.slice (some ⟨b, off, none⟩) n cap) xs) (hn : xs.length ≠ 0) (hk : k ≤ xs.length) (ha : k < xs.length → a' = ⟨b, off + k, none⟩) : RdI w (.slice (some a') (xs.length - k) c2) (xs.drop k) := by
  obtain ⟨b', off', e, hc⟩ := h.at_ hn
  cases e
  refine ⟨by simp, ?_⟩
  by_cases hkk : k = xs.length
  · exact .inl ⟨by simp [hkk], _, _, by rw [hkk, Nat.sub_self]⟩
  · rw [ha (by omega)]
    refine .inr ⟨b, off + k, c2, by rw [List.length_drop], fun j u hj => ?_⟩
    have hjl := (List.getElem?_eq_some_iff.1 hj).1
    simp only [List.length_map, List.length_drop] at hjl
    rw [Nat.add_assoc, hc (k + j) (by omega)]
    rw [List.map_drop, List.getElem?_drop] at hj
    have hjx : k + j < xs.length := by omega
    simpa [hjx] using hj

set_option maxRecDepth 100000 in
set_option maxHeartbeats 1000000 in
theorem ref_cut {w0 w : World} {F : Hp} {v : Value} {xs : List Int} (h : Sat w0 F w) (hR : ∀ w', Sat w0 F w' → RdI w' v xs) (hl : xs.length ≤ 4096) (hcap : ∀ ao n cap, v = .slice ao n cap → n ≤ cap ∧ cap ≤ maxLen) (k : Nat) (hk : k < xs.length) :
    Calls Try.prog 73 #[v, vi k] w fun e w' => ∃ v', e = .returned v' ∧ Sat w0 (sl 3 1 v' (xs.eraseIdx k).length ((xs.eraseIdx k).map vi) * F) w' := by
  obtain ⟨ao, cap, rfl⟩ := (hR w h).len
  obtain ⟨b, off, rfl, _⟩ := (hR w h).at_ (by omega)
  obtain ⟨hc1, hc2⟩ := hcap _ _ _ rfl
  unfold maxLen at hc2
  have hw1 : IntKind.i64.wrap ((k : Int) + 1) = (k : Int) + 1 := IntWalk.i64_in _ (by omega)
  have hk0 : (0 : Int) ≤ (k : Int) := by omega
  have hk1 : (k : Int) ≤ (cap : Int) := by omega
  have hk2 : (0 : Int) ≤ (k : Int) + 1 := by omega
  have hk3 : (k : Int) + 1 ≤ (xs.length : Int) := by omega
  have hk4 : k + 1 ≤ cap := by omega
  have hk6 : k ≤ cap := by omega
  have hk7 : k + 1 ≤ xs.length := by omega
  have hk8 : (xs.length : Int) ≤ (cap : Int) := by omega
  have hk9 : (k : Int) + 1 ≤ (cap : Int) := by omega
  have hk5 : ((k : Int) + 1).toNat = k + 1 := by omega
  have hpre : ∀ w', Sat w0 F w' → RdI w' (.slice (some ⟨b, off, none⟩) k cap) (xs.take k) := fun w' h' => (hR w' h').pre (by omega) (by omega)
  have hlen : (xs.take k).length = k := by simp; omega
  have hlen2 : (xs.drop (k + 1)).length = xs.length - (k + 1) := by simp
  have herase : xs.eraseIdx k = xs.take k ++ xs.drop (k + 1) := List.eraseIdx_eq_take_drop_succ _ _
  have hfin : ∀ v' w' a c, a = k → c = xs.length - (k + 1) → Sat w0 (sl 3 1 v' (a + c) ((xs.take k).map vi ++ (xs.drop (k + 1)).map vi) * F) w' → Sat w0 (sl 3 1 v' (xs.eraseIdx k).length ((xs.eraseIdx k).map vi) * F) w' := by
    intro v' w' a c ha hc h'
    rw [herase, List.length_append, List.map_append, hlen, hlen2]
    rw [ha, hc] at h'
    exact h'
  have HF := Lib.hid hfin
  have HP := Lib.hid hpre
  have HR := Lib.hid hR
  have HL := Lib.hid hlen
  have HL2 := Lib.hid hlen2
  have H := Lib.hid h
  clear hfin hpre hR hlen hlen2 herase h hcap
  have hone := Lib.hid (oneI (xs.take k))
  have hone2 := Lib.hid (oneI (xs.drop (k + 1)))
  by_cases hck : cap = k + 1
  · subst hck
    have hdrop : xs.drop (k + 1) = [] := List.drop_eq_nil_of_le (by omega)
    have HD := Lib.hid hdrop
    clear hdrop
    have HQ : Hid (∀ w', Rd w' 1 (.slice (some ⟨b, off, none⟩) 0 0) 0 ((xs.drop (k + 1)).map vi)) := Lib.hid (fun w' => ⟨by simp [HD.out], .inl ⟨rfl, _, _, rfl⟩⟩)
    clear hk1 hk8 hk9
    have hk1 : (k : Int) ≤ (k : Int) + 1 := by omega
    have hk8 : (xs.length : Int) ≤ (k : Int) + 1 := by omega
    go_enter Try.func73, Try.ntmps73
    go_wp2
    go_region_held3 (fun _ => True) (trivial)
      (first
        | ((refine step_append_sl Einti (by rfl) (.const (.slice none 0 0)) _ (by rfl) (by rfl) (H.out.drew.addNil 3 1) (by rfl) (by have := HP.out _ H.out.drew; rw [RdI, HL.out] at this; exact this) hone.out (by unfold maxLen; omega) (by omega) ?_; intro ao1 cap1 w1 hS1))
        | ((refine step_append_sl Einti (by rfl) (.tmp 8) _ (by rfl) (by rfl) hS1 (by rfl) (HQ.out _) hone2.out (by unfold maxLen; omega) (by omega) ?_; intro ao2 cap2 w2 hS2)))
    go_wp2
    go_ret
    simp only [Nat.zero_add, List.nil_append] at hS2
    exact ⟨_, rfl, HF.out _ _ _ _ rfl (by omega) hS2⟩
  · have hpost : ∀ w', Sat w0 F w' → RdI w' (.slice (some ⟨b, off + (k + 1), none⟩) (xs.length - (k + 1)) (cap - (k + 1))) (xs.drop (k + 1)) := fun w' h' => (HR.out w' h').post (by omega) (by omega) (fun _ => rfl)
    have HQ := Lib.hid hpost
    clear hpost
    have hcz : cap ≠ 0 := by omega
    go_enter Try.func73, Try.ntmps73
    go_wp2
    go_region_held3 (fun _ => True) (trivial)
      (first
        | ((refine step_append_sl Einti (by rfl) (.const (.slice none 0 0)) _ (by rfl) (by rfl) (H.out.drew.addNil 3 1) (by rfl) (by have := HP.out _ H.out.drew; rw [RdI, HL.out] at this; exact this) hone.out (by unfold maxLen; omega) (by omega) ?_; intro ao1 cap1 w1 hS1))
        | ((refine step_append_sl Einti (by rfl) (.tmp 8) _ (by rfl) (by rfl) hS1 (by rfl) (by have := HQ.out _ hS1.dropL; rw [RdI, HL2.out] at this; exact this) hone2.out (by unfold maxLen; omega) (by omega) ?_; intro ao2 cap2 w2 hS2)))
    go_wp2
    go_ret
    simp only [Nat.zero_add, List.nil_append] at hS2
    exact ⟨_, rfl, HF.out _ _ _ _ rfl (by omega) hS2⟩

theorem Sat.refCap {w0 w : World} {q most : Nat} {xs : List Int} {F : Hp} {v : Value} (h : Sat w0 (pc q 62 [v, vi most] * (rs 3 v (xs.map vi) * F)) w) : ∀ ao n cap, v = .slice ao n cap → n ≤ cap ∧ cap ≤ maxLen := by
  intro ao n cap hv
  rcases h.pull2.rsE with ⟨rfl, _, _⟩ | ⟨g, off, c, cur, rfl, h1, h2, _⟩
  · cases hv
    exact ⟨Nat.le_refl _, Nat.zero_le _⟩
  · cases hv
    exact ⟨h1, h2⟩

theorem findI_erase {xs : List Int} {x : Int} (h : 0 ≤ findI xs x) : xs.eraseIdx (findI xs x).toNat = xs.erase x ∧ (findI xs x).toNat < xs.length := by
  unfold findI at *
  split at h
  · rename_i hm
    rw [if_pos hm]
    refine ⟨?_, by simpa using List.idxOf_lt_length_of_mem hm⟩
    rw [List.erase_eq_eraseIdx_of_idxOf (i := xs.idxOf x)]
    · simp
    · rfl
  · omega
theorem findI_neg {xs : List Int} {x : Int} (h : findI xs x < 0) : x ∉ xs := by
  unfold findI at h
  split at h
  · omega
  · assumption

theorem ref_remove {w0 w : World} {q most : Nat} {xs : List Int} {F : Hp} (h : Sat w0 (refP q most xs * F) w) (hl : xs.length ≤ 4096) (x : Int) :
    Calls Try.prog 61 #[vp q, vi x] w fun e w' => e = .returned (.bool (decide (x ∈ xs))) ∧ Sat w0 (refP q most (xs.erase x) * F) w' := by
  obtain ⟨v, hS, hR⟩ := h.ref
  obtain ⟨ao, cap, rfl⟩ := hR.len
  have hcap := hS.refCap
  have c0 := hS.cell 0 rfl
  have hf := hS.free 0
  have hfind := Lib.hid (ref_find x xs _ w hR (by omega))
  have hb := findI_le xs x
  have hg : 0 ≤ findI xs x → _ := findI_erase (xs := xs) (x := x)
  have hng : findI xs x < 0 → _ := findI_neg (xs := xs) (x := x)
  have H := Lib.hid h
  have HS := Lib.hid hS
  generalize findI xs x = f at *
  by_cases hneg : f < 0
  · have hx := hng hneg
    have Hx := Lib.hid hx
    clear hg hng hcap hR hS h hx
    go_enter Try.func61, Try.ntmps61
    go_wp2_with (go_at_call 62; refine hfind.out.mono ?_; rintro e w' ⟨rfl, rfl⟩)
    go_ret
    refine ⟨by rw [decide_eq_false Hx.out]; rfl, ?_⟩
    rw [List.erase_of_not_mem Hx.out]
    exact H.out
  · obtain ⟨k, rfl⟩ := Int.eq_ofNat_of_zero_le (show 0 ≤ f by omega)
    obtain ⟨he, hk⟩ := hg (by omega)
    simp only [Int.toNat_natCast] at he hk
    have hmem : x ∈ xs := by
      rcases Decidable.em (x ∈ xs) with h1 | h1
      · exact h1
      · rw [List.erase_of_not_mem h1] at he
        have := congrArg List.length he
        rw [List.length_eraseIdx, if_pos hk] at this
        omega
    have hRR : ∀ w', Sat w0 (pc q 62 [.slice ao xs.length cap, vi most] * (rs 3 (.slice ao xs.length cap) (xs.map vi) * F)) w' → RdI w' (.slice ao xs.length cap) xs := fun w' h' => by
      have := h'.pull2.rsRd
      simpa [RdI] using this
    have hcut := Lib.hid (ref_cut hS hRR (by omega) hcap k hk)
    have He := Lib.hid he
    have Hm := Lib.hid hmem
    clear hg hng hcap hR hS h he hmem hRR H HS
    go_enter Try.func61, Try.ntmps61
    go_wp2_with (first | (go_at_call 62; refine hfind.out.mono ?_; rintro e w' ⟨rfl, rfl⟩) | (go_at_call 73; refine hcut.out.mono ?_; rintro e w1 ⟨v1, rfl, hS1⟩; obtain ⟨ao1, cap1, rfl⟩ := hS1.rdI.len; have d0 := hS1.pull2.cell 0 rfl; have f1 := hS1.pull2.free 0))
    go_ret
    refine ⟨by rw [decide_eq_true Hm.out]; rfl, ?_⟩
    have h3 := ((hS1.pull2.store 0 (.slice ao1 (xs.eraseIdx k).length cap1)).drop3).in2 Sat.rsOfSl
    rw [← He.out]
    exact Sat.refI h3
end Go.Proofs.Ytaaplmihmginpaa
