/-
  A slice somewhere in a block of the call's own; Cut. No statement is proved here.
-/
import Derived.Test.YtjgemfgneiaabaaGreatMg2
namespace Go.Proofs.YtjgemfgneiaabaaGreat
open Go.RowKit
set_option linter.unusedVariables false

/-- A slice somewhere in a block of the call's own, n elements of one cell. -/
def rs (e : TypeId) (v : Value) (xs : List Value) : Hp :=
  ⟨fun L => (v = .slice none 0 0 ∧ xs = [] ∧ L = []) ∨ ∃ g off cap cur, v = .slice (some ⟨g, off, none⟩) xs.length cap ∧ xs.length ≤ cap ∧ cap ≤ maxLen ∧ L = [(g, .cells cur e (0, 0))] ∧ ∀ j u, xs[j]? = some u → cur[off + j]? = some u,
   fun {L L'} h hx => by
    rcases hx with ⟨a, b, rfl⟩ | ⟨g, off, cap, cur, a, b, c, rfl, r⟩
    · exact .inl ⟨a, b, List.nil_perm.1 h⟩
    · exact .inr ⟨g, off, cap, cur, a, b, c, List.perm_singleton.1 h.symm, r⟩⟩

section
variable {w0 w : World} {F : Hp} {e : TypeId} {v : Value} {xs : List Value}
theorem Sat.rsE (h : Sat w0 (rs e v xs * F) w) : (v = .slice none 0 0 ∧ xs = [] ∧ Sat w0 F w) ∨
    ∃ g off cap cur, v = .slice (some ⟨g, off, none⟩) xs.length cap ∧ xs.length ≤ cap ∧ cap ≤ maxLen ∧ Sat w0 (pc g e cur * F) w ∧ ∀ j u, xs[j]? = some u → cur[off + j]? = some u := by
  have hd := h.dropL
  obtain ⟨hb, L, ⟨L1, L2, p, a, b⟩, r⟩ := h
  rcases a with ⟨rfl, rfl, rfl⟩ | ⟨g, off, cap, cur, rfl, h1, h2, rfl, h3⟩
  · exact .inl ⟨rfl, rfl, hd⟩
  · exact .inr ⟨g, off, cap, cur.toList, rfl, h1, h2, ⟨hb, L, ⟨_, L2, p, by simp [pc, pt], b⟩, r⟩, by simpa using h3⟩
theorem Sat.rsI {g off cap : Nat} {cur : List Value} (h : Sat w0 (pc g e cur * F) w) (hn : xs.length ≤ cap) (hc : cap ≤ maxLen) (h3 : ∀ j u, xs[j]? = some u → cur[off + j]? = some u) : Sat w0 (rs e (.slice (some ⟨g, off, none⟩) xs.length cap) xs * F) w := by
  obtain ⟨hb, L, ⟨L1, L2, p, a, b⟩, r⟩ := h
  have a : L1 = [(g, .cells cur.toArray e (0, 0))] := a
  subst a
  exact ⟨hb, L, ⟨_, L2, p, .inr ⟨g, off, cap, cur.toArray, rfl, hn, hc, rfl, by simpa using h3⟩, b⟩, r⟩
theorem Sat.rsNil (h : Sat w0 F w) (e : TypeId) : Sat w0 (rs e (.slice none 0 0) [] * F) w := by
  obtain ⟨hb, L, hL, r⟩ := h
  exact ⟨hb, L, ⟨[], L, List.Perm.refl _, .inl ⟨rfl, rfl, rfl⟩, hL⟩, r⟩
theorem Sat.rsRd (h : Sat w0 (rs e v xs * F) w) : Rd w 1 v xs.length xs := by
  refine ⟨by simp, ?_⟩
  rcases h.rsE with ⟨rfl, rfl, _⟩ | ⟨g, off, cap, cur, rfl, h1, _, hS, h3⟩
  · exact .inl ⟨rfl, _, _, rfl⟩
  · exact .inr ⟨g, off, cap, rfl, fun j u hj => hS.cell _ (h3 j u hj)⟩
theorem Sat.rsOfSl {n : Nat} (h : Sat w0 (sl e 1 v n xs * F) w) : Sat w0 (rs e v xs * F) w := by
  obtain ⟨hl, h⟩ := h.slE
  rw [Nat.mul_one] at hl
  subst hl
  rcases h with ⟨rfl, h0, hS⟩ | ⟨g, cap, cur, rfl, h1, h2, h3, h4, hS⟩
  · have : xs = [] := List.eq_nil_of_length_eq_zero h0
    subst this
    exact hS.rsNil e
  · refine hS.rsI h1 h2 ?_
    intro j u hj
    rw [Nat.zero_add]
    rw [← h4, List.getElem?_take] at hj
    split at hj
    · exact hj
    · cases hj
end

/-! ### Take -/
def takeK (n : Int) (xs : List Int) : Nat := min n.toNat xs.length

theorem oneI (l : List Int) : ∀ u ∈ l.map vi, u.oneCell' = true := by
  intro u hu
  obtain ⟨x, _, rfl⟩ := List.mem_map.1 hu
  rfl

theorem RdI.pre {w : World} {b off n cap k : Nat} {xs : List Int} (h : RdI w (.slice (some ⟨b, off, none⟩) n cap) xs) (hn : xs.length ≠ 0) (hk : k ≤ xs.length) : RdI w (.slice (some ⟨b, off, none⟩) k cap) (xs.take k) := by
  obtain ⟨b', off', e, hc⟩ := h.at_ hn
  cases e
  refine ⟨by simp, ?_⟩
  refine .inr ⟨b, off, cap, by rw [List.length_take, Nat.min_eq_left hk], fun j u hj => ?_⟩
  have hjl := (List.getElem?_eq_some_iff.1 hj).1
  simp only [List.length_map, List.length_take] at hjl
  rw [hc j (by omega)]
  rw [List.map_take, List.getElem?_take, if_pos (by omega)] at hj
  have hjx : j < xs.length := by omega
  simpa [hjx] using hj
theorem RdI.post {w : World} {b off n cap c2 k : Nat} {a' : Addr} {xs : List Int} (h : RdI w (.slice (some ⟨b, off, none⟩) n cap) xs) (hn : xs.length ≠ 0) (hk : k ≤ xs.length) (ha : k < xs.length → a' = ⟨b, off + k, none⟩) : RdI w (.slice (some a') (xs.length - k) c2) (xs.drop k) := by
  obtain ⟨b', off', e, hc⟩ := h.at_ hn
  cases e
  refine ⟨by simp, ?_⟩
  by_cases hkk : k = xs.length
  · exact .inl ⟨by simp [hkk], _, _, by rw [hkk, Nat.sub_self]⟩
  · rw [ha (by omega)]
    refine .inr ⟨b, off + k, c2, by rw [List.length_drop], fun j u hj => ?_⟩
    have hjl := (List.getElem?_eq_some_iff.1 hj).1
    simp only [List.length_map, List.length_drop] at hjl
    rw [Nat.add_assoc, hc (k + j) (by omega)]
    rw [List.map_drop, List.getElem?_drop] at hj
    have hjx : k + j < xs.length := by omega
    simpa [hjx] using hj

set_option maxRecDepth 100000 in
set_option maxHeartbeats 1000000 in
theorem ref_cut {w0 w : World} {F : Hp} {v : Value} {xs : List Int} (h : Sat w0 F w) (hR : ∀ w', Sat w0 F w' → RdI w' v xs) (hl : xs.length ≤ 4096) (hcap : ∀ ao n cap, v = .slice ao n cap → n ≤ cap ∧ cap ≤ maxLen) (k : Nat) (hk : k < xs.length) :
    Calls Tryz.prog 106 #[v, vi k] w fun e w' => ∃ v', e = .returned v' ∧ Sat w0 (sl 3 1 v' (xs.eraseIdx k).length ((xs.eraseIdx k).map vi) * F) w' := by
  obtain ⟨ao, cap, rfl⟩ := (hR w h).len
  obtain ⟨b, off, rfl, _⟩ := (hR w h).at_ (by omega)
  obtain ⟨hc1, hc2⟩ := hcap _ _ _ rfl
  unfold maxLen at hc2
  have hw1 : IntKind.i64.wrap ((k : Int) + 1) = (k : Int) + 1 := IntWalk.i64_in _ (by omega)
  have hk0 : (0 : Int) ≤ (k : Int) := by omega
  have hk1 : (k : Int) ≤ (cap : Int) := by omega
  have hk2 : (0 : Int) ≤ (k : Int) + 1 := by omega
  have hk3 : (k : Int) + 1 ≤ (xs.length : Int) := by omega
  have hk4 : k + 1 ≤ cap := by omega
  have hk6 : k ≤ cap := by omega
  have hk7 : k + 1 ≤ xs.length := by omega
  have hk8 : (xs.length : Int) ≤ (cap : Int) := by omega
  have hk9 : (k : Int) + 1 ≤ (cap : Int) := by omega
  have hk5 : ((k : Int) + 1).toNat = k + 1 := by omega
  have hpre : ∀ w', Sat w0 F w' → RdI w' (.slice (some ⟨b, off, none⟩) k cap) (xs.take k) := fun w' h' => (hR w' h').pre (by omega) (by omega)
  have hlen : (xs.take k).length = k := by simp; omega
  have hlen2 : (xs.drop (k + 1)).length = xs.length - (k + 1) := by simp
  have herase : xs.eraseIdx k = xs.take k ++ xs.drop (k + 1) := List.eraseIdx_eq_take_drop_succ _ _
  have hfin : ∀ v' w' a c, a = k → c = xs.length - (k + 1) → Sat w0 (sl 3 1 v' (a + c) ((xs.take k).map vi ++ (xs.drop (k + 1)).map vi) * F) w' → Sat w0 (sl 3 1 v' (xs.eraseIdx k).length ((xs.eraseIdx k).map vi) * F) w' := by
    intro v' w' a c ha hc h'
    rw [herase, List.length_append, List.map_append, hlen, hlen2]
    rw [ha, hc] at h'
    exact h'
  have HF := Lib.hid hfin
  have HP := Lib.hid hpre
  have HR := Lib.hid hR
  have HL := Lib.hid hlen
  have HL2 := Lib.hid hlen2
  have H := Lib.hid h
  clear hfin hpre hR hlen hlen2 herase h hcap
  have hone := Lib.hid (oneI (xs.take k))
  have hone2 := Lib.hid (oneI (xs.drop (k + 1)))
  by_cases hck : cap = k + 1
  · subst hck
    have hdrop : xs.drop (k + 1) = [] := List.drop_eq_nil_of_le (by omega)
    have HD := Lib.hid hdrop
    clear hdrop
    have HQ : Hid (∀ w', Rd w' 1 (.slice (some ⟨b, off, none⟩) 0 0) 0 ((xs.drop (k + 1)).map vi)) := Lib.hid (fun w' => ⟨by simp [HD.out], .inl ⟨rfl, _, _, rfl⟩⟩)
    clear hk1 hk8 hk9
    have hk1 : (k : Int) ≤ (k : Int) + 1 := by omega
    have hk8 : (xs.length : Int) ≤ (k : Int) + 1 := by omega
    go_enter Tryz.func106, Tryz.ntmps106
    go_wp2
    go_region_held3 (fun _ => True) (trivial)
      (first
        | ((refine step_append_sl Einti (by rfl) (.const (.slice none 0 0)) _ (by rfl) (by rfl) (H.out.drew.addNil 3 1) (by rfl) (by have := HP.out _ H.out.drew; rw [RdI, HL.out] at this; exact this) hone.out (by unfold maxLen; omega) (by omega) ?_; intro ao1 cap1 w1 hS1))
        | ((refine step_append_sl Einti (by rfl) (.tmp 8) _ (by rfl) (by rfl) hS1 (by rfl) (HQ.out _) hone2.out (by unfold maxLen; omega) (by omega) ?_; intro ao2 cap2 w2 hS2)))
    go_wp2
    go_ret
    simp only [Nat.zero_add, List.nil_append] at hS2
    exact ⟨_, rfl, HF.out _ _ _ _ rfl (by omega) hS2⟩
  · have hpost : ∀ w', Sat w0 F w' → RdI w' (.slice (some ⟨b, off + (k + 1), none⟩) (xs.length - (k + 1)) (cap - (k + 1))) (xs.drop (k + 1)) := fun w' h' => (HR.out w' h').post (by omega) (by omega) (fun _ => rfl)
    have HQ := Lib.hid hpost
    clear hpost
    have hcz : cap ≠ 0 := by omega
    go_enter Tryz.func106, Tryz.ntmps106
    go_wp2
    go_region_held3 (fun _ => True) (trivial)
      (first
        | ((refine step_append_sl Einti (by rfl) (.const (.slice none 0 0)) _ (by rfl) (by rfl) (H.out.drew.addNil 3 1) (by rfl) (by have := HP.out _ H.out.drew; rw [RdI, HL.out] at this; exact this) hone.out (by unfold maxLen; omega) (by omega) ?_; intro ao1 cap1 w1 hS1))
        | ((refine step_append_sl Einti (by rfl) (.tmp 8) _ (by rfl) (by rfl) hS1 (by rfl) (by have := HQ.out _ hS1.dropL; rw [RdI, HL2.out] at this; exact this) hone2.out (by unfold maxLen; omega) (by omega) ?_; intro ao2 cap2 w2 hS2)))
    go_wp2
    go_ret
    simp only [Nat.zero_add, List.nil_append] at hS2
    exact ⟨_, rfl, HF.out _ _ _ _ rfl (by omega) hS2⟩

theorem findI_erase {xs : List Int} {x : Int} (h : 0 ≤ findI xs x) : xs.eraseIdx (findI xs x).toNat = xs.erase x ∧ (findI xs x).toNat < xs.length := by
  unfold findI at *
  split at h
  · rename_i hm
    rw [if_pos hm]
    refine ⟨?_, by simpa using List.idxOf_lt_length_of_mem hm⟩
    rw [List.erase_eq_eraseIdx_of_idxOf (i := xs.idxOf x)]
    · simp
    · rfl
  · omega
theorem findI_neg {xs : List Int} {x : Int} (h : findI xs x < 0) : x ∉ xs := by
  unfold findI at h
  split at h
  · omega
  · assumption

end Go.Proofs.YtjgemfgneiaabaaGreat
