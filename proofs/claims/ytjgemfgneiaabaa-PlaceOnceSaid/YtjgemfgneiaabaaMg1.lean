/-
  Contracts of slices.Index, Contains, Equal, Clone at []int, and of the reference's Same and Find. No statement is proved here.
-/
import Derived.Test.YtjgemfgneiaabaaRing2
namespace Go.Proofs.Ytjgemfgneiaabaa
open Go.RowKit
set_option linter.unusedVariables false

def RdI (w : World) (v : Value) (xs : List Int) : Prop := Rd w 1 v xs.length (xs.map vi)
theorem RdI.len {w : World} {v : Value} {xs : List Int} (h : RdI w v xs) : ∃ ao cap, v = .slice ao xs.length cap := Rd.len h
theorem RdI.at_ {w : World} {ao : Option Addr} {cap n : Nat} {xs : List Int} (h : RdI w (.slice ao n cap) xs) (hn : xs.length ≠ 0) : ∃ b off, ao = some ⟨b, off, none⟩ ∧ ∀ k, k < xs.length → w.cell? ⟨b, off + k, none⟩ = some (vi (xs[k]?.getD 0)) := by
  obtain ⟨b, off, c, e, hc⟩ := Rd.pos h hn
  cases e
  exact ⟨b, off, rfl, fun k hk => hc k _ (by simp [hk])⟩
theorem RdI.drewN {w : World} {v : Value} {xs : List Int} (h : RdI w v xs) (k : Nat) : RdI (w.drewN k) v xs := h
theorem Sat.rdI {w0 w : World} {F : Hp} {e : TypeId} {v : Value} {xs : List Int} (h : Sat w0 (sl e 1 v xs.length (xs.map vi) * F) w) : RdI w v xs := h.rd

def findI (xs : List Int) (x : Int) : Int := if x ∈ xs then (xs.idxOf x : Int) else -1

theorem findI_hit {xs : List Int} {x : Int} {k : Nat} (hk : k < xs.length) (hno : ∀ j, j < k → xs[j]?.getD 0 ≠ x) (hx : xs[k]?.getD 0 = x) : findI xs x = k := by
  have hx' : xs[k] = x := by simpa [hk] using hx
  unfold findI
  rw [if_pos (hx' ▸ List.getElem_mem hk)]
  congr 1
  have h1 : xs.idxOf x ≤ k := by
    rcases Nat.lt_or_ge k (xs.idxOf x) with h | h
    · exact absurd hx' (by simpa using List.not_of_lt_findIdx (p := (· == x)) h)
    · exact h
  rcases Nat.lt_or_ge (xs.idxOf x) k with h | h
  · exfalso
    have hl : xs.idxOf x < xs.length := by omega
    refine hno _ h ?_
    rw [List.getElem?_eq_getElem hl]
    simp
  · omega
theorem findI_miss {xs : List Int} {x : Int} (hno : ∀ j, j < xs.length → xs[j]?.getD 0 ≠ x) : findI xs x = -1 := by
  unfold findI
  rw [if_neg]
  intro hm
  obtain ⟨j, hj, rfl⟩ := List.getElem_of_mem hm
  exact hno j hj (by simp [hj])

theorem slices_index (x : Int) (xs : List Int) (v : Value) (w : World) (h : RdI w v xs) (hl : xs.length ≤ 1000000) :
    Calls Try.prog 79 #[v, vi x] w fun e w' => e = .returned (vi (findI xs x)) ∧ w = w' := by
  obtain ⟨ao, cap, rfl⟩ := h.len
  go_enter Try.func79, Try.ntmps79
  go_wp2
  go_loop [8] (fun i => ∃ k : Nat, k ≤ xs.length ∧ i = vi k ∧ Hid (∀ j, j < k → xs[j]?.getD 0 ≠ x)) (fun i => xs.length - (intOf i).toNat)
  case atStart => exact ⟨0, Nat.zero_le _, rfl, Lib.hid (fun j hj => by omega)⟩
  case round =>
    obtain ⟨k, hk, rfl, hno⟩ := hrel
    by_cases hlt : k < xs.length
    · obtain ⟨b, off, rfl, hc⟩ := h.at_ (by omega)
      have hck := hc k hlt
      clear hc
      generalize hy : xs[k]?.getD 0 = y at *
      have hy' := Lib.hid hy
      clear hy
      by_cases hxy : x = y
      · subst hxy
        go_wp2
        go_ret
        exact ⟨by rw [findI_hit hlt hno.out hy'.out]; rfl, rfl⟩
      · have hne : (x == y) = false := by simpa using hxy
        go_wp2
        go_round
        case rel => exact ⟨k + 1, by omega, by go_num, Lib.hid (fun j hj => by
          rcases Nat.lt_or_ge j k with h1 | h1
          · exact hno.out j h1
          · obtain rfl : j = k := by omega
            rw [hy'.out]; exact fun e => hxy e.symm)⟩
        case measure => simp [intOf]; omega
    · obtain rfl : k = xs.length := by omega
      go_wp2
      go_ret
      exact ⟨by rw [findI_miss hno.out]; rfl, rfl⟩

/-- Two lists are the same. -/
def sameI (xs ys : List Int) : Bool := decide (xs = ys)

theorem sameI_len {xs ys : List Int} (h : xs.length ≠ ys.length) : sameI xs ys = false := by
  simp only [sameI, decide_eq_false_iff_not]
  exact fun e => h (by rw [e])
theorem sameI_part {xs ys : List Int} {k : Nat} (h : xs[k]?.getD 0 ≠ ys[k]?.getD 0) : sameI xs ys = false := by
  simp only [sameI, decide_eq_false_iff_not]
  exact fun e => h (by rw [e])
theorem sameI_all {xs ys : List Int} (hl : xs.length = ys.length) (h : ∀ j, j < xs.length → xs[j]?.getD 0 = ys[j]?.getD 0) : sameI xs ys = true := by
  simp only [sameI, decide_eq_true_eq]
  apply List.ext_getElem hl
  intro i h1 h2
  have := h i h1
  simpa [h1, h2] using this

theorem findI_ge (xs : List Int) (x : Int) : decide (0 ≤ findI xs x) = decide (x ∈ xs) := by
  unfold findI
  by_cases h : x ∈ xs
  · simp [h]
  · simp [h]
theorem findI_le (xs : List Int) (x : Int) : -1 ≤ findI xs x ∧ findI xs x ≤ xs.length := by
  unfold findI
  split
  · have := List.idxOf_le_length (a := x) (l := xs); omega
  · omega

theorem slices_contains (x : Int) (xs : List Int) (v : Value) (w : World) (h : RdI w v xs) (hl : xs.length ≤ 1000000) :
    Calls Try.prog 72 #[v, vi x] w fun e w' => e = .returned (.bool (decide (x ∈ xs))) ∧ w = w' := by
  have hb := findI_le xs x
  have hg := Lib.hid (findI_ge xs x)
  have hc := Lib.hid (slices_index x xs v w h hl)
  generalize findI xs x = f at *
  go_enter Try.func72, Try.ntmps72
  go_wp2_with (go_at_call 79; refine hc.out.mono ?_; rintro e w' ⟨rfl, rfl⟩)
  go_ret
  exact ⟨by rw [← hg.out]; rfl, rfl⟩
end Go.Proofs.Ytjgemfgneiaabaa

namespace Go.Proofs.Ytjgemfgneiaabaa
open Go.RowKit
set_option linter.unusedVariables false

/-- A slice somewhere in a block of the call's own, n elements of one cell. -/
def rs (e : TypeId) (v : Value) (xs : List Value) : Hp :=
  ⟨fun L => (v = .slice none 0 0 ∧ xs = [] ∧ L = []) ∨ ∃ g off cap cur, v = .slice (some ⟨g, off, none⟩) xs.length cap ∧ xs.length ≤ cap ∧ cap ≤ maxLen ∧ L = [(g, .cells cur e (0, 0))] ∧ ∀ j u, xs[j]? = some u → cur[off + j]? = some u,
   fun {L L'} h hx => by
    rcases hx with ⟨a, b, rfl⟩ | ⟨g, off, cap, cur, a, b, c, rfl, r⟩
    · exact .inl ⟨a, b, List.nil_perm.1 h⟩
    · exact .inr ⟨g, off, cap, cur, a, b, c, List.perm_singleton.1 h.symm, r⟩⟩

section
variable {w0 w : World} {F : Hp} {e : TypeId} {v : Value} {xs : List Value}
theorem Sat.rsE (h : Sat w0 (rs e v xs * F) w) : (v = .slice none 0 0 ∧ xs = [] ∧ Sat w0 F w) ∨
    ∃ g off cap cur, v = .slice (some ⟨g, off, none⟩) xs.length cap ∧ xs.length ≤ cap ∧ cap ≤ maxLen ∧ Sat w0 (pc g e cur * F) w ∧ ∀ j u, xs[j]? = some u → cur[off + j]? = some u := by
  have hd := h.dropL
  obtain ⟨hb, L, ⟨L1, L2, p, a, b⟩, r⟩ := h
  rcases a with ⟨rfl, rfl, rfl⟩ | ⟨g, off, cap, cur, rfl, h1, h2, rfl, h3⟩
  · exact .inl ⟨rfl, rfl, hd⟩
  · exact .inr ⟨g, off, cap, cur.toList, rfl, h1, h2, ⟨hb, L, ⟨_, L2, p, by simp [pc, pt], b⟩, r⟩, by simpa using h3⟩
theorem Sat.rsI {g off cap : Nat} {cur : List Value} (h : Sat w0 (pc g e cur * F) w) (hn : xs.length ≤ cap) (hc : cap ≤ maxLen) (h3 : ∀ j u, xs[j]? = some u → cur[off + j]? = some u) : Sat w0 (rs e (.slice (some ⟨g, off, none⟩) xs.length cap) xs * F) w := by
  obtain ⟨hb, L, ⟨L1, L2, p, a, b⟩, r⟩ := h
  have a : L1 = [(g, .cells cur.toArray e (0, 0))] := a
  subst a
  exact ⟨hb, L, ⟨_, L2, p, .inr ⟨g, off, cap, cur.toArray, rfl, hn, hc, rfl, by simpa using h3⟩, b⟩, r⟩
theorem Sat.rsNil (h : Sat w0 F w) (e : TypeId) : Sat w0 (rs e (.slice none 0 0) [] * F) w := by
  obtain ⟨hb, L, hL, r⟩ := h
  exact ⟨hb, L, ⟨[], L, List.Perm.refl _, .inl ⟨rfl, rfl, rfl⟩, hL⟩, r⟩
theorem Sat.rsRd (h : Sat w0 (rs e v xs * F) w) : Rd w 1 v xs.length xs := by
  refine ⟨by simp, ?_⟩
  rcases h.rsE with ⟨rfl, rfl, _⟩ | ⟨g, off, cap, cur, rfl, h1, _, hS, h3⟩
  · exact .inl ⟨rfl, _, _, rfl⟩
  · exact .inr ⟨g, off, cap, rfl, fun j u hj => hS.cell _ (h3 j u hj)⟩
theorem Sat.rsOfSl {n : Nat} (h : Sat w0 (sl e 1 v n xs * F) w) : Sat w0 (rs e v xs * F) w := by
  obtain ⟨hl, h⟩ := h.slE
  rw [Nat.mul_one] at hl
  subst hl
  rcases h with ⟨rfl, h0, hS⟩ | ⟨g, cap, cur, rfl, h1, h2, h3, h4, hS⟩
  · have : xs = [] := List.eq_nil_of_length_eq_zero h0
    subst this
    exact hS.rsNil e
  · refine hS.rsI h1 h2 ?_
    intro j u hj
    rw [Nat.zero_add]
    rw [← h4, List.getElem?_take] at hj
    split at hj
    · exact hj
    · cases hj
end

/-! ### Take -/
def takeK (n : Int) (xs : List Int) : Nat := min n.toNat xs.length

theorem oneI (l : List Int) : ∀ u ∈ l.map vi, u.oneCell' = true := by
  intro u hu
  obtain ⟨x, _, rfl⟩ := List.mem_map.1 hu
  rfl

theorem RdI.pre {w : World} {b off n cap k : Nat} {xs : List Int} (h : RdI w (.slice (some ⟨b, off, none⟩) n cap) xs) (hn : xs.length ≠ 0) (hk : k ≤ xs.length) : RdI w (.slice (some ⟨b, off, none⟩) k cap) (xs.take k) := by
  obtain ⟨b', off', e, hc⟩ := h.at_ hn
  cases e
  refine ⟨by simp, ?_⟩
  refine .inr ⟨b, off, cap, by rw [List.length_take, Nat.min_eq_left hk], fun j u hj => ?_⟩
  have hjl := (List.getElem?_eq_some_iff.1 hj).1
  simp only [List.length_map, List.length_take] at hjl
  rw [hc j (by omega)]
  rw [List.map_take, List.getElem?_take, if_pos (by omega)] at hj
  have hjx : j < xs.length := by omega
  simpa [hjx] using hj
theorem RdI.post {w : World} {b off n cap c2 k : Nat} {a' : Addr} {xs : List Int} (h : RdI w (.slice (some ⟨b, off, none⟩) n cap) xs) (hn : xs.length ≠ 0) (hk : k ≤ xs.length) (ha : k < xs.length → a' = ⟨b, off + k, none⟩) : RdI w (.slice (some a') (xs.length - k) c2) (xs.drop k) := by
  obtain ⟨b', off', e, hc⟩ := h.at_ hn
  cases e
  refine ⟨by simp, ?_⟩
  by_cases hkk : k = xs.length
  · exact .inl ⟨by simp [hkk], _, _, by rw [hkk, Nat.sub_self]⟩
  · rw [ha (by omega)]
    refine .inr ⟨b, off + k, c2, by rw [List.length_drop], fun j u hj => ?_⟩
    have hjl := (List.getElem?_eq_some_iff.1 hj).1
    simp only [List.length_map, List.length_drop] at hjl
    rw [Nat.add_assoc, hc (k + j) (by omega)]
    rw [List.map_drop, List.getElem?_drop] at hj
    have hjx : k + j < xs.length := by omega
    simpa [hjx] using hj

theorem findI_erase {xs : List Int} {x : Int} (h : 0 ≤ findI xs x) : xs.eraseIdx (findI xs x).toNat = xs.erase x ∧ (findI xs x).toNat < xs.length := by
  unfold findI at *
  split at h
  · rename_i hm
    rw [if_pos hm]
    refine ⟨?_, by simpa using List.idxOf_lt_length_of_mem hm⟩
    rw [List.erase_eq_eraseIdx_of_idxOf (i := xs.idxOf x)]
    · simp
    · rfl
  · omega
theorem findI_neg {xs : List Int} {x : Int} (h : findI xs x < 0) : x ∉ xs := by
  unfold findI at h
  split at h
  · omega
  · assumption

end Go.Proofs.Ytjgemfgneiaabaa
