/-
  Chapter 05: acts, as they come in. No statement is proved here.
-/
import Derived.Test.YtjgemfgneiaabaaGreatMg5
import Derived.Test.YtjgemfgneiaabaaGreatMg7
import Derived.Test.YtjgemfgneiaabaaGreatMg6
namespace Go.Proofs.YtjgemfgneiaabaaGreat.Rq
open Go.RowKit
set_option linter.unusedVariables false

/-- An affinity that came in: it reads so ever after. -/
def IsAff (w0 : World) (v : Value) (af : List Nat) : Prop := (∀ w, Below w0.heap.size w0 w → RdA w v af) ∧ af.length ≤ maxLen
/-- What an act's cells may be. -/
def actC (w0 : World) (j : Nat) (v : Value) : Prop := if j = 3 then IsInts w0 .u8 v else if j = 2 then IsBool v else IsInt .i64 v

theorem isAff_of {w0 : World} {v : Value} (h : IsInts w0 .u8 v) : ∃ af, IsAff w0 v af := by
  obtain ⟨n, A, h⟩ := h
  have hw : ∀ j, j < n → 0 ≤ A j ∧ A j < 256 := by
    intro j hj
    have := h.wf j (by omega)
    simp only [Lit.wf, Bool.and_eq_true, decide_eq_true_eq] at this
    have h1 := this.1
    have h2 := this.2
    rw [show IntKind.u8.min = 0 from rfl] at h1
    rw [show IntKind.u8.max = 255 from rfl] at h2
    omega
  refine ⟨(List.range n).map fun j => (A j).toNat, ⟨fun w hb => ⟨⟨by simp, ?_⟩, ?_⟩, by simpa using h.small⟩⟩
  · rcases h.form with ⟨rfl, ao, cap, rfl⟩ | ⟨b, off, cap, rfl, hlt, hc⟩
    · exact .inl ⟨by simp, ao, cap, rfl⟩
    · refine .inr ⟨b, off, cap, by simp, fun j u hj => ?_⟩
      have hjn : j < n := by
        have := (List.getElem?_eq_some_iff.1 hj).1
        simpa using this
      have h1 := hw j hjn
      simp only [List.map_map, List.getElem?_map, List.getElem?_range hjn, Option.map_some, Option.some.injEq, Function.comp] at hj
      rw [hb.cell (by exact hlt), hc j (by omega), ← hj]
      congr 2
      omega
  · intro a ha
    obtain ⟨j, hj, rfl⟩ := List.mem_map.1 ha
    have := hw j (List.mem_range.1 hj)
    omega

/-- Acts that came in: kinds, numbers, whether one inherits, affinities. -/
structure Acts (w0 : World) (v : Value) (n : Nat) (K G : Nat → Int) (Y : Nat → Bool) (V : Nat → Value) (af : Nat → List Nat) : Prop where
  form : (n = 0 ∧ ∃ ao cap, v = .slice ao 0 cap) ∨ ∃ b off cap, v = .slice (some ⟨b, off, none⟩) n cap ∧ b < w0.heap.size ∧ ∀ i, i < n →
    w0.cell? ⟨b, off + i * 4, none⟩ = some (vi (K i)) ∧ w0.cell? ⟨b, off + i * 4 + 1, none⟩ = some (vi (G i)) ∧ w0.cell? ⟨b, off + i * 4 + 2, none⟩ = some (.bool (Y i)) ∧ w0.cell? ⟨b, off + i * 4 + 3, none⟩ = some (V i)
  aff : ∀ i, i < n → IsAff w0 (V i) (af i)
  small : n ≤ maxLen

theorem acts_of {w0 : World} {v : Value} {n : Nat} {A : Nat → Value} (h : ArgS w0 4 (actC w0) v n A) : ∃ K G Y V af, Acts w0 v n K G Y V af := by
  have h0 : ∀ i, ∃ x : Int, i < n → A (i * 4) = vi x := fun i => by
    by_cases hi : i < n
    · obtain ⟨x, hx, _⟩ : IsInt .i64 (A (i * 4 + 0)) := h.each i hi 0 (by omega)
      exact ⟨x, fun _ => hx⟩
    · exact ⟨0, fun h => absurd h hi⟩
  have h1 : ∀ i, ∃ x : Int, i < n → A (i * 4 + 1) = vi x := fun i => by
    by_cases hi : i < n
    · obtain ⟨x, hx, _⟩ : IsInt .i64 (A (i * 4 + 1)) := h.each i hi 1 (by omega)
      exact ⟨x, fun _ => hx⟩
    · exact ⟨0, fun h => absurd h hi⟩
  have h2 : ∀ i, ∃ x : Bool, i < n → A (i * 4 + 2) = .bool x := fun i => by
    by_cases hi : i < n
    · obtain ⟨x, hx⟩ : IsBool (A (i * 4 + 2)) := h.each i hi 2 (by omega)
      exact ⟨x, fun _ => hx⟩
    · exact ⟨false, fun h => absurd h hi⟩
  have h3 : ∀ i, ∃ x : List Nat, i < n → IsAff w0 (A (i * 4 + 3)) x := fun i => by
    by_cases hi : i < n
    · obtain ⟨x, hx⟩ := isAff_of (show IsInts w0 .u8 (A (i * 4 + 3)) from h.each i hi 3 (by omega))
      exact ⟨x, fun _ => hx⟩
    · exact ⟨[], fun h => absurd h hi⟩
  refine ⟨fun i => (h0 i).choose, fun i => (h1 i).choose, fun i => (h2 i).choose, fun i => A (i * 4 + 3), fun i => (h3 i).choose, ?_, fun i hi => (h3 i).choose_spec hi, h.small⟩
  rcases h.form with ⟨rfl, ao, cap, rfl⟩ | ⟨b, off, cap, rfl, hb, hc⟩
  · exact .inl ⟨rfl, ao, cap, rfl⟩
  · refine .inr ⟨b, off, cap, rfl, hb, fun i hi => ⟨?_, ?_, ?_, ?_⟩⟩
    · exact (hc _ (by omega)).trans (congrArg some ((h0 i).choose_spec hi))
    · rw [Nat.add_assoc]
      exact (hc _ (by omega)).trans (congrArg some ((h1 i).choose_spec hi))
    · rw [Nat.add_assoc]
      exact (hc _ (by omega)).trans (congrArg some ((h2 i).choose_spec hi))
    · rw [Nat.add_assoc, hc _ (by omega)]
theorem Acts.len {w0 : World} {v : Value} {n : Nat} {K G : Nat → Int} {Y : Nat → Bool} {V : Nat → Value} {af : Nat → List Nat} (h : Acts w0 v n K G Y V af) : ∃ ao cap, v = .slice ao n cap := by
  rcases h.form with ⟨rfl, ao, cap, rfl⟩ | ⟨b, off, cap, rfl, _⟩
  · exact ⟨_, _, rfl⟩
  · exact ⟨_, _, rfl⟩
/-- An act's cells, later. -/
theorem Acts.at_ {w0 w : World} {ao : Option Addr} {n cap : Nat} {K G : Nat → Int} {Y : Nat → Bool} {V : Nat → Value} {af : Nat → List Nat} (h : Acts w0 (.slice ao n cap) n K G Y V af) (hS : Below w0.heap.size w0 w) (i : Nat) (hi : i < n) :
    ∃ b off, ao = some ⟨b, off, none⟩ ∧ w.cell? ⟨b, off + i * 4, none⟩ = some (vi (K i)) ∧ w.cell? ⟨b, off + i * 4 + 1, none⟩ = some (vi (G i)) ∧ w.cell? ⟨b, off + i * 4 + 2, none⟩ = some (.bool (Y i)) ∧ w.cell? ⟨b, off + i * 4 + 3, none⟩ = some (V i) := by
  rcases h.form with ⟨rfl, _⟩ | ⟨b, off, cap, e, hb, hc⟩
  · omega
  · cases e
    obtain ⟨h0, h1, h2, h3⟩ := hc i hi
    exact ⟨b, off, rfl, (hS.cell (by exact hb)).trans h0, (hS.cell (by exact hb)).trans h1, (hS.cell (by exact hb)).trans h2, (hS.cell (by exact hb)).trans h3⟩
end Go.Proofs.YtjgemfgneiaabaaGreat.Rq

namespace Go.Proofs.YtjgemfgneiaabaaGreat.Rq
open Go.RowKit
set_option linter.unusedVariables false

def ind (l : List Int) (g : Nat) : Int := if (g : Int) ∈ l then 1 else 0
/-- How often each of 0 to 99 is there. -/
def thereL (l : List Int) : List Int := (List.range 100).map (ind l)
theorem there_len (l : List Int) : (thereL l).length = 100 := by simp [thereL]
theorem there_at (l : List Int) (g : Nat) (hg : g < 100) : (thereL l)[g]? = some (ind l g) := by
  unfold thereL
  rw [List.getElem?_map, List.getElem?_range hg]
  rfl
theorem ind_congr {l l' : List Int} (h : ∀ x, x ∈ l ↔ x ∈ l') (g : Nat) : ind l g = ind l' g := by
  unfold ind
  simp only [h]
theorem there_congr {l l' : List Int} (h : ∀ x, x ∈ l ↔ x ∈ l') : thereL l = thereL l' := by
  unfold thereL
  exact List.map_congr_left fun g _ => ind_congr h g
theorem there_set {l l' : List Int} {x : Nat} (h : ∀ y, y ∈ l ↔ y = (x : Int) ∨ y ∈ l') : thereL l = (thereL l').set x 1 := by
  apply List.ext_getElem?
  intro i
  rw [List.getElem?_set, there_len]
  by_cases hi : i < 100
  · rw [there_at _ _ hi]
    by_cases hx : x = i
    · subst hx
      rw [if_pos rfl, if_pos hi]
      unfold ind
      rw [if_pos ((h _).2 (.inl rfl))]
    · rw [if_neg hx, there_at _ _ hi]
      have : ((i : Int) ∈ l ↔ (i : Int) ∈ l') := by rw [h]; exact ⟨fun h2 => h2.elim (fun e => absurd (by omega) hx) id, .inr⟩
      unfold ind
      simp only [this]
  · rw [List.getElem?_eq_none (by rw [there_len]; omega)]
    split
    · rw [if_neg (by omega)]
    · rw [List.getElem?_eq_none (by rw [there_len]; omega)]
theorem there_clr {l l' : List Int} {x : Nat} (h : ∀ y, y ∈ l ↔ y = (x : Int) ∨ y ∈ l') (hx : (x : Int) ∉ l') : thereL l' = (thereL l).set x 0 := by
  apply List.ext_getElem?
  intro i
  rw [List.getElem?_set, there_len]
  by_cases hi : i < 100
  · rw [there_at _ _ hi]
    by_cases hxi : x = i
    · subst hxi
      rw [if_pos rfl, if_pos hi]
      unfold ind
      rw [if_neg hx]
    · rw [if_neg hxi, there_at _ _ hi]
      have : ((i : Int) ∈ l ↔ (i : Int) ∈ l') := by rw [h]; exact ⟨fun h2 => h2.elim (fun e => absurd (by omega) hxi) id, .inr⟩
      unfold ind
      simp only [this]
  · rw [List.getElem?_eq_none (by rw [there_len]; omega)]
    split
    · rw [if_neg (by omega)]
    · rw [List.getElem?_eq_none (by rw [there_len]; omega)]
/-- How many of 0 to k - 1 are there. -/
def cntL (l : List Int) (k : Nat) : Nat := ((List.range k).filter fun g : Nat => decide ((g : Int) ∈ l)).length
theorem cntL_succ (l : List Int) (k : Nat) : (cntL l (k + 1) : Int) = cntL l k + ind l k := by
  unfold cntL ind
  rw [List.range_succ, List.filter_append, List.length_append]
  by_cases h : (k : Int) ∈ l
  · rw [if_pos h, List.filter_cons_of_pos (by simpa using h)]
    simp
  · rw [if_neg h, List.filter_cons_of_neg (by simpa using h)]
    simp
theorem cntL_le (l : List Int) (k : Nat) : cntL l k ≤ k := by
  unfold cntL
  exact Nat.le_trans (List.length_filter_le _ _) (by simp)
theorem cntL_all {l : List Int} (hn : l.Nodup) (hr : ∀ x ∈ l, 0 ≤ x ∧ x ≤ 99) : cntL l 100 = l.length := by
  have h1 : (((List.range 100).filter fun g : Nat => decide ((g : Int) ∈ l)).map fun g : Nat => (g : Int)).Perm l := by
    refine (List.perm_ext_iff_of_nodup ?_ hn).2 fun x => ?_
    · have h2 : ((List.range 100).filter fun g : Nat => decide ((g : Int) ∈ l)).Pairwise (· ≠ ·) := List.Pairwise.filter _ List.nodup_range
      exact List.Pairwise.map _ (fun a b h e => h (by omega)) h2
    · constructor
      · intro h
        obtain ⟨g, hg, rfl⟩ := List.mem_map.1 h
        simpa using (List.mem_filter.1 hg).2
      · intro h
        obtain ⟨h0, h9⟩ := hr x h
        refine List.mem_map.2 ⟨x.toNat, List.mem_filter.2 ⟨List.mem_range.2 (by omega), ?_⟩, by omega⟩
        simpa [Int.toNat_of_nonneg h0] using h
  have := h1.length_eq
  simpa [cntL] using this

theorem put_perm {m : Nat} {xs : List Int} (g : Int) : (putL m xs g ++ spillL m xs g).Perm (g :: xs) := by
  unfold putL spillL
  split
  · rw [List.append_nil]
    exact List.perm_append_comm
  · have h := List.take_append_drop ((m + 1) / 2) xs
    calc (xs.drop ((m + 1) / 2) ++ (xs.take ((m + 1) / 2) ++ [g])).Perm ((xs.take ((m + 1) / 2) ++ [g]) ++ xs.drop ((m + 1) / 2)) := List.perm_append_comm
      _ = xs.take ((m + 1) / 2) ++ g :: xs.drop ((m + 1) / 2) := by simp
      List.Perm _ (g :: (xs.take ((m + 1) / 2) ++ xs.drop ((m + 1) / 2))) := List.perm_middle
      _ = g :: xs := by rw [h]
theorem next_perm (m : Nat) (xs : List Int) (z : Int) (b : Bool) : (nextL m xs z b ++ nextS m xs z b).Perm (allQ xs z b) := by
  cases b with
  | false => simp [nextL, nextS, allQ]
  | true => simpa [nextL, nextS, allQ] using put_perm z
theorem steal_perm (f : Int → Bool) : ∀ (xs : List Int) (k : Nat), (stealL f k xs ++ stealO f k xs).Perm xs
  | [], k => by cases k <;> simp [stealO, stealL]
  | x :: t, 0 => by simp [stealO, stealL]
  | x :: t, k + 1 => by
    unfold stealO stealL
    by_cases h : f x = true
    · rw [if_pos h, if_pos h]
      exact List.perm_middle.trans ((steal_perm f t k).cons x)
    · rw [if_neg h, if_neg h]
      exact (steal_perm f t (k + 1)).cons x
theorem thief_perm (f : Int → Bool) (xs : List Int) (z : Int) (b : Bool) : (allQ (thiefL f xs) z (thiefB f xs z b) ++ thiefO f xs z b).Perm (allQ xs z b) := by
  have h := steal_perm f xs (halfK f xs)
  unfold thiefL thiefB thiefO
  split
  · rename_i hc
    simp only [Bool.and_eq_true] at hc
    obtain ⟨⟨h1, rfl⟩, h3⟩ := hc
    have he : stealO f (halfK f xs) xs = [] := by simpa using h1
    rw [he, List.append_nil] at h
    simp only [allQ, if_true]
    exact List.perm_append_comm.trans (h.cons z)
  · cases b with
    | false => simpa [allQ] using h
    | true => simpa [allQ] using h
/-- What is to be cleared. -/
theorem there_gone {l gl : List Int} {k : Nat} (hk : k < gl.length) (hn : (l ++ gl.drop k).Nodup) (hr : ∀ x ∈ l ++ gl.drop k, 0 ≤ x ∧ x ≤ 99) :
    0 ≤ gl[k] ∧ gl[k] ≤ 99 ∧ (thereL (l ++ gl.drop k))[gl[k].toNat]? = some 1 ∧ thereL (l ++ gl.drop (k + 1)) = (thereL (l ++ gl.drop k)).set gl[k].toNat 0 ∧
      (l ++ gl.drop (k + 1)).Nodup ∧ ∀ x ∈ l ++ gl.drop (k + 1), 0 ≤ x ∧ x ≤ 99 := by
  rw [List.drop_eq_getElem_cons hk] at hn hr ⊢
  generalize gl[k] = x at *
  generalize gl.drop (k + 1) = r at *
  have hp : (l ++ x :: r).Perm (x :: (l ++ r)) := List.perm_middle
  have hn2 := hp.nodup_iff.1 hn
  obtain ⟨hx, hn3⟩ := List.nodup_cons.1 hn2
  have h0 := hr x (by simp)
  obtain ⟨j, rfl⟩ := Int.eq_ofNat_of_zero_le h0.1
  rw [Int.toNat_natCast]
  refine ⟨h0.1, h0.2, ?_, there_clr (fun y => ?_) hx, hn3, fun y hy => hr y (hp.mem_iff.2 (by simp at hy ⊢; exact .inr hy))⟩
  · rw [there_at _ _ (by omega)]
    unfold ind
    rw [if_pos (by simp)]
  · rw [hp.mem_iff]
    simp
end Go.Proofs.YtjgemfgneiaabaaGreat.Rq
