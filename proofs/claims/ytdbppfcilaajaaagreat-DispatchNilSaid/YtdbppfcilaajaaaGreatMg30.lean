/-
  A heap of timers, its plain laws. No statement is proved here.
-/
import Derived.Test.YtdbppfcilaajaaaGreatMg29
import Derived.Test.YtdbppfcilaajaaaGreatProg
import Derived.WalkMore
import Derived.ScopeJumps
namespace Go.Proofs.YtdbppfcilaajaaaGreat.Hm
open Go.RowKit
set_option linter.unusedVariables false

/-- A timer: its time, its ID, the how many-th it is. -/
abbrev Tm := Int × Int × Int
/-- x does not come ahead of y. -/
def nl (x y : Tm) : Prop := y.1 < x.1 ∨ (y.1 = x.1 ∧ y.2.2 ≤ x.2.2)
theorem nl_trans {x y z : Tm} (h : nl x y) (k : nl y z) : nl x z := by unfold nl at *; omega
theorem nl_total {x y : Tm} (h : ¬ nl x y) : nl y x := by unfold nl at *; omega
theorem nl_refl (x : Tm) : nl x x := by unfold nl; omega

abbrev gt (l : List Tm) (j : Nat) : Tm := l[j]?.getD (0, 0, 0)
def Ok (l : List Tm) (j : Nat) : Prop := nl (gt l j) (gt l ((j - 1) / 2))
/-- In order but for what hangs on place i. -/
def E (l : List Tm) (i : Nat) : Prop := (∀ j, 0 < j → j < l.length → j ≠ i → (j - 1) / 2 ≠ i → Ok l j) ∧ ∀ c, 0 < i → 0 < c → c < l.length → (c - 1) / 2 = i → nl (gt l c) (gt l ((i - 1) / 2))
def Ch (l : List Tm) (i : Nat) : Prop := ∀ c, 0 < c → c < l.length → (c - 1) / 2 = i → Ok l c
def OkI (l : List Tm) (i : Nat) : Prop := 0 < i → Ok l i
def HO (l : List Tm) : Prop := ∀ j, 0 < j → j < l.length → Ok l j
def swp (l : List Tm) (i j : Nat) : List Tm := (l.set i (gt l j)).set j (gt l i)
theorem swp_len (l : List Tm) (i j : Nat) : (swp l i j).length = l.length := by simp [swp]
theorem gt_set {l : List Tm} {i : Nat} (hi : i < l.length) (x : Tm) (k : Nat) : gt (l.set i x) k = if k = i then x else gt l k := by
  unfold gt
  rw [List.getElem?_set]
  by_cases h : i = k
  · subst h
    rw [if_pos rfl, if_pos hi, if_pos rfl]
    rfl
  · rw [if_neg h, if_neg (Ne.symm h)]
theorem gt_swp {l : List Tm} {i j : Nat} (hi : i < l.length) (hj : j < l.length) (k : Nat) : gt (swp l i j) k = if k = j then gt l i else if k = i then gt l j else gt l k := by
  unfold swp
  rw [gt_set (by simpa using hj), gt_set hi]
theorem gt_eq {l : List Tm} {j : Nat} (hj : j < l.length) : l[j]? = some (gt l j) := by
  unfold gt
  rw [List.getElem?_eq_getElem hj]
  rfl
theorem HO.of {l : List Tm} {i : Nat} (h : E l i) (h1 : OkI l i) (h2 : Ch l i) : HO l := fun j h0 hj => by
  by_cases hji : j = i
  · subst hji
    exact h1 h0
  · by_cases hp : (j - 1) / 2 = i
    · exact h2 j h0 hj hp
    · exact h.1 j h0 hj hji hp
theorem up_step {l : List Tm} {i : Nat} (h0 : 0 < i) (hi : i < l.length) (h : E l i) (hl : ¬ nl (gt l i) (gt l ((i - 1) / 2))) : E (swp l i ((i - 1) / 2)) ((i - 1) / 2) ∧ Ch (swp l i ((i - 1) / 2)) ((i - 1) / 2) := by
  obtain ⟨p, hp⟩ : ∃ p, (i - 1) / 2 = p := ⟨_, rfl⟩
  rw [hp] at hl ⊢
  have hpi : p < i := by omega
  have hpl : p < l.length := by omega
  have g := fun k => gt_swp hi hpl k
  have hli := nl_total hl
  refine ⟨⟨fun j hj0 hj hjp hjq => ?_, fun c hp0 hc0 hc hcp => ?_⟩, fun c hc0 hc hcp => ?_⟩
  · rw [swp_len] at hj
    unfold Ok
    rw [g, g, if_neg hjp, if_neg hjq]
    by_cases hji : j = i
    · subst hji
      omega
    · rw [if_neg hji]
      by_cases hq : (j - 1) / 2 = i
      · rw [if_pos hq]
        have := h.2 j h0 hj0 hj hq
        rwa [hp] at this
      · rw [if_neg hq]
        exact h.1 j hj0 hj hji hq
  · rw [swp_len] at hc
    rw [g, g, if_neg (show (p - 1) / 2 ≠ p by omega), if_neg (show (p - 1) / 2 ≠ i by omega), if_neg (show c ≠ p by omega)]
    have hkp := h.1 p hp0 hpl (by omega) (by omega)
    by_cases hci : c = i
    · rw [if_pos hci]
      exact hkp
    · rw [if_neg hci]
      have := h.1 c hc0 hc hci (by omega)
      unfold Ok at this
      rw [hcp] at this
      exact nl_trans this hkp
  · rw [swp_len] at hc
    unfold Ok
    rw [g, g, if_pos hcp, if_neg (show c ≠ p by omega)]
    by_cases hci : c = i
    · rw [if_pos hci]
      exact hli
    · rw [if_neg hci]
      have := h.1 c hc0 hc hci (by omega)
      unfold Ok at this
      rw [hcp] at this
      exact nl_trans this hli
theorem down_step {l : List Tm} {i k : Nat} (hi : i < l.length) (hk : k < l.length) (hk0 : 0 < k) (hki : (k - 1) / 2 = i) (h : E l i) (h1 : OkI l i) (hm : ∀ c, 0 < c → c < l.length → (c - 1) / 2 = i → nl (gt l c) (gt l k)) (hl : ¬ nl (gt l k) (gt l i)) :
    E (swp l i k) k ∧ OkI (swp l i k) k := by
  have hik : i < k := by omega
  have g := fun x => gt_swp hi hk x
  have hlt := nl_total hl
  refine ⟨⟨fun j hj0 hj hjk hjq => ?_, fun c _ hc0 hc hck => ?_⟩, fun _ => ?_⟩
  · rw [swp_len] at hj
    unfold Ok
    rw [g, g, if_neg hjk, if_neg hjq]
    by_cases hji : j = i
    · subst hji
      rw [if_pos rfl, if_neg (by omega)]
      exact h.2 k hj0 hk0 hk hki
    · rw [if_neg hji]
      by_cases hq : (j - 1) / 2 = i
      · rw [if_pos hq]
        exact hm j hj0 hj hq
      · rw [if_neg hq]
        exact h.1 j hj0 hj hji hq
  · rw [swp_len] at hc
    rw [g, g, hki, if_neg (show i ≠ k by omega), if_pos rfl, if_neg (show c ≠ k by omega), if_neg (show c ≠ i by omega)]
    have := h.1 c hc0 hc (by omega) (by omega)
    unfold Ok at this
    rwa [hck] at this
  · unfold Ok
    rw [g, g, if_pos rfl, hki, if_neg (show i ≠ k by omega), if_pos rfl]
    exact hlt
/-- The first one comes ahead of all. -/
theorem HO.least {l : List Tm} (h : HO l) : ∀ j, j < l.length → nl (gt l j) (gt l 0)
  | 0, _ => nl_refl _
  | j + 1, hj => nl_trans (h (j + 1) (by omega) hj) (HO.least h ((j + 1 - 1) / 2) (by omega))
theorem swp_perm {l : List Tm} {i j : Nat} (hi : i < l.length) (hj : j < l.length) : (swp l i j).Perm l := by
  have h := Array.swap_perm (xs := l.toArray) (i := i) (j := j) (by simpa using hi) (by simpa using hj)
  have e : (l.toArray.swap i j (by simpa using hi) (by simpa using hj)).toList = swp l i j := by
    simp [Array.swap, swp, gt, hi, hj]
  rw [← e]
  simpa using h.toList
/-! ### Places -/
def Nd (l : List Tm) : Prop := ∀ a b, a < l.length → b < l.length → (gt l a).2.1 = (gt l b).2.1 → a = b
/-- Each ID's place, but for place i's. -/
def MP (l : List Tm) (M : Int → Option Int) (i : Nat) : Prop := (∀ j, j < l.length → j ≠ i → M (gt l j).2.1 = some (j : Int)) ∧ ∀ k, (M k).isSome = true → ∃ j, j < l.length ∧ (gt l j).2.1 = k
def MF (l : List Tm) (M : Int → Option Int) : Prop := (∀ j, j < l.length → M (gt l j).2.1 = some (j : Int)) ∧ ∀ k, (M k).isSome = true → ∃ j, j < l.length ∧ (gt l j).2.1 = k
theorem Nd.swap {l : List Tm} {i j : Nat} (hi : i < l.length) (hj : j < l.length) (h : Nd l) : Nd (swp l i j) := by
  have gs : ∀ k, gt (swp l i j) k = gt l (if k = j then i else if k = i then j else k) := fun k => by
    rw [gt_swp hi hj]
    by_cases h1 : k = j
    · rw [if_pos h1, if_pos h1]
    · rw [if_neg h1, if_neg h1]
      by_cases h2 : k = i
      · rw [if_pos h2, if_pos h2]
      · rw [if_neg h2, if_neg h2]
  have gb : ∀ k, k < l.length → (if k = j then i else if k = i then j else k) < l.length := fun k hk => by
    split
    · exact hi
    · split
      · exact hj
      · exact hk
  intro a b ha hb e
  rw [swp_len] at ha hb
  rw [gs, gs] at e
  have := h _ _ (gb a ha) (gb b hb) e
  by_cases h1 : a = j <;> by_cases h2 : b = j <;> by_cases h3 : a = i <;> by_cases h4 : b = i <;> simp only [h1, h2, h3, h4, if_true, if_false] at this <;> (try split at this) <;> omega
theorem MP.swap {l : List Tm} {M : Int → Option Int} {i j : Nat} (hi : i < l.length) (hj : j < l.length) (hij : i ≠ j) (hn : Nd l) (h : MP l M i) : MP (swp l i j) (putM M (gt l j).2.1 i) j := by
  refine ⟨fun k hk hkj => ?_, fun k hk => ?_⟩
  · rw [swp_len] at hk
    rw [gt_swp hi hj, if_neg hkj]
    unfold putM
    by_cases hki : k = i
    · rw [if_pos hki, if_pos rfl, hki]
    · rw [if_neg hki, if_neg (fun e => hkj (hn k j hk hj e.symm))]
      exact h.1 k hk hki
  · unfold putM at hk
    rw [swp_len]
    by_cases hjk : (gt l j).2.1 = k
    · exact ⟨i, hi, by rw [gt_swp hi hj, if_neg hij, if_pos rfl]; exact hjk⟩
    · rw [if_neg hjk] at hk
      obtain ⟨x, hx, hxk⟩ := h.2 k hk
      by_cases hxi : x = i
      · exact ⟨j, hj, by rw [gt_swp hi hj, if_pos rfl, ← hxi]; exact hxk⟩
      · by_cases hxj : x = j
        · rw [hxj] at hxk
          exact absurd hxk hjk
        · exact ⟨x, hx, by rw [gt_swp hi hj, if_neg hxj, if_neg hxi]; exact hxk⟩
theorem MP.done {l : List Tm} {M : Int → Option Int} {i : Nat} (hi : i < l.length) (hn : Nd l) (h : MP l M i) : MF l (putM M (gt l i).2.1 i) := by
  refine ⟨fun k hk => ?_, fun k hk => ?_⟩
  · unfold putM
    by_cases hki : k = i
    · rw [if_pos (by rw [hki]), hki]
    · rw [if_neg (fun e => hki (hn k i hk hi e.symm))]
      exact h.1 k hk hki
  · unfold putM at hk
    by_cases hjk : (gt l i).2.1 = k
    · exact ⟨i, hi, hjk⟩
    · rw [if_neg hjk] at hk
      exact h.2 k hk
end Go.Proofs.YtdbppfcilaajaaaGreat.Hm

namespace Go.Proofs.YtdbppfcilaajaaaGreat.Hm
open Go.RowKit
set_option linter.unusedVariables false

abbrev vi (x : Int) : Value := .int .i64 x
abbrev vp (p : Nat) : Value := .pointer (some ⟨p, 0, none⟩)
abbrev vu (x : Int) : Value := .int .u64 x
/-- A timer's cells. -/
def tmV (t : Tm) : List Value := [vu t.1, vi t.2.1, vi t.2.2]
def tmsV (l : List Tm) : List Value := l.flatMap tmV
section
variable {w0 w : World} {F : Hp}
end
end Go.Proofs.YtdbppfcilaajaaaGreat.Hm

namespace Go.Proofs.YtdbppfcilaajaaaGreat.Hm
open Go.RowKit
set_option linter.unusedVariables false

/-- A heap's block. -/
abbrev hpB (h : Nat) (vl vm : Value) (p : Int) : Hp := pc h 171 [vl, vm, vi p]
abbrev vs (g n cap : Nat) : Value := .slice (some ⟨g, 0, none⟩) n cap
section
variable {w0 w : World} {F : Hp} {h g b n cap : Nat} {p : Int} {A : List Tm} {M : Int → Option Int}
end
end Go.Proofs.YtdbppfcilaajaaaGreat.Hm

namespace Go.Proofs.YtdbppfcilaajaaaGreat.Hm
open Go.RowKit
set_option linter.unusedVariables false
/-- How it stands while the timer of place i rises: it is at place k. -/
def UpR (A : List Tm) (i n k : Nat) (A' : List Tm) (M' : Int → Option Int) : Prop :=
  k < n ∧ A'.length = n ∧ E (A'.set k (gt A i)) k ∧ Nd (A'.set k (gt A i)) ∧ MP (A'.set k (gt A i)) M' k ∧ (A'.set k (gt A i)).Perm A ∧ (Ch A i → Ch (A'.set k (gt A i)) k)
section
variable {A A' : List Tm} {i n k : Nat} {M M' : Int → Option Int}
theorem set_self {l : List Tm} {j : Nat} (hj : j < l.length) : l.set j (gt l j) = l := by
  apply List.ext_getElem?
  intro m
  rw [List.getElem?_set]
  by_cases h : j = m
  · subst h
    rw [if_pos rfl, if_pos hj, gt_eq hj]
  · rw [if_neg h]
theorem UpR.start (hi : i < n) (hl : A.length = n) (hE : E A i) (hN : Nd A) (hM : MP A M i) : UpR A i n i A M := by
  have e : A.set i (gt A i) = A := set_self (by omega)
  unfold UpR
  rw [e]
  exact ⟨hi, hl, hE, hN, hM, List.Perm.refl _, id⟩
theorem swp_set {l : List Tm} {k q : Nat} {t : Tm} (hk : k < l.length) (hkq : k ≠ q) : swp (l.set k t) k q = (l.set k (gt l q)).set q t := by
  unfold swp
  rw [gt_set hk, gt_set hk, if_neg (Ne.symm hkq), if_pos rfl, List.set_set]
theorem UpR.step (h : UpR A i n k A' M') (h0 : 0 < k) (hl : ¬ nl (gt A i) (gt A' ((k - 1) / 2))) : UpR A i n ((k - 1) / 2) (A'.set k (gt A' ((k - 1) / 2))) (putM M' (gt A' ((k - 1) / 2)).2.1 k) := by
  obtain ⟨h1, h2, h3, h4, h5, h6, h7⟩ := h
  obtain ⟨q, hq⟩ : ∃ q, (k - 1) / 2 = q := ⟨_, rfl⟩
  have hqk : q ≠ k := by omega
  have gk : gt (A'.set k (gt A i)) k = gt A i := by rw [gt_set (by omega), if_pos rfl]
  have gq : gt (A'.set k (gt A i)) q = gt A' q := by rw [gt_set (by omega), if_neg hqk]
  have hs := up_step h0 (by simpa [h2] using h1) h3 (by rw [hq, gk, gq, ← hq]; exact hl)
  rw [hq] at hs hl ⊢
  have hlen : (A'.set k (gt A i)).length = n := by simp [h2]
  have hsw := swp_set (l := A') (k := k) (q := q) (t := gt A i) (by omega) (Ne.symm hqk)
  have hm := h5.swap (i := k) (j := q) (by omega) (by omega) (Ne.symm hqk) h4
  rw [gq] at hm
  have hn := h4.swap (i := k) (j := q) (by omega) (by omega)
  have hp := swp_perm (l := A'.set k (gt A i)) (i := k) (j := q) (by omega) (by omega)
  rw [hsw] at hs hm hn hp
  exact ⟨by omega, by simp [h2], hs.1, hn, hm, hp.trans h6, fun _ => hs.2⟩
theorem UpR.done (h : UpR A i n k A' M') (hd : k = 0 ∨ nl (gt A i) (gt A' ((k - 1) / 2))) : k < n ∧ gt (A'.set k (gt A i)) k = gt A i ∧ E (A'.set k (gt A i)) k ∧ OkI (A'.set k (gt A i)) k ∧ Nd (A'.set k (gt A i)) ∧ MF (A'.set k (gt A i)) (putM M' (gt A i).2.1 k) ∧ (A'.set k (gt A i)).Perm A ∧ (Ch A i → Ch (A'.set k (gt A i)) k) := by
  obtain ⟨h1, h2, h3, h4, h5, h6, h7⟩ := h
  have gk : gt (A'.set k (gt A i)) k = gt A i := by rw [gt_set (by omega), if_pos rfl]
  have hm := h5.done (i := k) (by simp [h2, h1]) h4
  rw [gk] at hm
  refine ⟨h1, gk, h3, fun h0 => ?_, h4, hm, h6, h7⟩
  unfold Ok
  rw [gk, gt_set (by omega), if_neg (by omega)]
  exact hd.resolve_left (by omega)
end
section
variable {w0 w : World} {F : Hp} {h g b n cap : Nat} {p : Int} {A : List Tm} {M : Int → Option Int}
end
end Go.Proofs.YtdbppfcilaajaaaGreat.Hm

namespace Go.Proofs.YtdbppfcilaajaaaGreat.Hm
open Go.RowKit
set_option linter.unusedVariables false
/-- How it stands while the timer of place i sinks: it is at place k. -/
def DnR (A : List Tm) (i n k : Nat) (A' : List Tm) (M' : Int → Option Int) : Prop :=
  k < n ∧ A'.length = n ∧ E (A'.set k (gt A i)) k ∧ OkI (A'.set k (gt A i)) k ∧ Nd (A'.set k (gt A i)) ∧ MP (A'.set k (gt A i)) M' k ∧ (A'.set k (gt A i)).Perm A
section
variable {A A' : List Tm} {i n k : Nat} {M M' : Int → Option Int}
theorem DnR.start (hi : i < n) (hl : A.length = n) (hE : E A i) (hO : OkI A i) (hN : Nd A) (hM : MP A M i) : DnR A i n i A M := by
  have e : A.set i (gt A i) = A := set_self (by omega)
  unfold DnR
  rw [e]
  exact ⟨hi, hl, hE, hO, hN, hM, List.Perm.refl _⟩
theorem DnR.step {m : Nat} (h : DnR A i n k A' M') (h0 : 0 < m) (hm : m < n) (hk : (m - 1) / 2 = k) (hmin : ∀ c, 0 < c → c < n → (c - 1) / 2 = k → nl (gt A' c) (gt A' m)) (hl : ¬ nl (gt A' m) (gt A i)) :
    DnR A i n m (A'.set k (gt A' m)) (putM M' (gt A' m).2.1 k) := by
  obtain ⟨h1, h2, h3, h4, h5, h6, h7⟩ := h
  have hmk : m ≠ k := by omega
  have gk : gt (A'.set k (gt A i)) k = gt A i := by rw [gt_set (by omega), if_pos rfl]
  have gm : ∀ c, c ≠ k → gt (A'.set k (gt A i)) c = gt A' c := fun c hc => by rw [gt_set (by omega), if_neg hc]
  have hlen : (A'.set k (gt A i)).length = n := by simp [h2]
  have hs := down_step (l := A'.set k (gt A i)) (i := k) (k := m) (by omega) (by omega) h0 hk h3 h4 (fun c c0 c1 c2 => by rw [gm c (by omega), gm m hmk]; exact hmin c c0 (by omega) c2) (by rw [gm m hmk, gk]; exact hl)
  have hsw := swp_set (l := A') (k := k) (q := m) (t := gt A i) (by omega) (Ne.symm hmk)
  have hmp := h6.swap (i := k) (j := m) (by omega) (by omega) (Ne.symm hmk) h5
  rw [gm m hmk] at hmp
  have hn := h5.swap (i := k) (j := m) (by omega) (by omega)
  have hp := swp_perm (l := A'.set k (gt A i)) (i := k) (j := m) (by omega) (by omega)
  rw [hsw] at hs hmp hn hp
  exact ⟨hm, by simp [h2], hs.1, hs.2, hn, hmp, hp.trans h7⟩
theorem DnR.done (h : DnR A i n k A' M') (hd : ∀ c, 0 < c → c < n → (c - 1) / 2 = k → nl (gt A' c) (gt A i)) : HO (A'.set k (gt A i)) ∧ Nd (A'.set k (gt A i)) ∧ MF (A'.set k (gt A i)) (putM M' (gt A i).2.1 k) ∧ (A'.set k (gt A i)).Perm A := by
  obtain ⟨h1, h2, h3, h4, h5, h6, h7⟩ := h
  have gk : gt (A'.set k (gt A i)) k = gt A i := by rw [gt_set (by omega), if_pos rfl]
  have hm := h6.done (i := k) (by simp [h2, h1]) h5
  rw [gk] at hm
  refine ⟨HO.of h3 h4 (fun c c0 c1 c2 => ?_), h5, hm, h7⟩
  unfold Ok
  rw [c2, gk, gt_set (by omega), if_neg (by omega)]
  exact hd c c0 (by simpa [h2] using c1) c2
end
section
variable {w0 w : World} {F : Hp} {h g b n cap : Nat} {p : Int} {A : List Tm} {M : Int → Option Int}
end
end Go.Proofs.YtdbppfcilaajaaaGreat.Hm

namespace Go.Proofs.YtdbppfcilaajaaaGreat.Hm
open Go.RowKit
set_option linter.unusedVariables false

/-- A heap: in order, each ID once, each at its place. -/
def heapP (h : Nat) (A : List Tm) (p : Int) : Hp :=
  ex fun x : Value × Value × (Int → Option Int) => given (HO A ∧ Nd A ∧ MF A x.2.2) (hpB h x.1 x.2.1 p * (sl 405 3 x.1 A.length (tmsV A) * mapI x.2.1 x.2.2))
section
variable {w0 w : World} {F : Hp} {h : Nat} {p : Int} {A : List Tm}
theorem heapP_shut {vl vm : Value} {M : Int → Option Int} (h1 : HO A) (h2 : Nd A) (h3 : MF A M) (hS : Sat w0 (hpB h vl vm p * (sl 405 3 vl A.length (tmsV A) * (mapI vm M * F))) w) : Sat w0 (heapP h A p * F) w :=
  Sat.exI (f := fun x : Value × Value × (Int → Option Int) => given (HO A ∧ Nd A ∧ MF A x.2.2) (hpB h x.1 x.2.1 p * (sl 405 3 x.1 A.length (tmsV A) * mapI x.2.1 x.2.2))) (vl, vm, M) (Sat.givenI ⟨h1, h2, h3⟩ (hS.cast (by ac_rfl)))
set_option maxRecDepth 100000 in
theorem h_new (hS : Sat w0 F w) : Calls Tryz.prog 32 #[] w fun e w' => ∃ h, e = .returned (vp h) ∧ Sat w0 (heapP h [] 0 * F) w' := by
  have hB : Sat w0 (hpB w.heap.size (.slice none 0 0) (.map none) 0 * F) (w.alloc (.cells #[.slice none 0 0, .map none, vi 0] 171)) := hS.alloc (.cells #[.slice none 0 0, .map none, vi 0] 171)
  have H := Lib.hid hB
  clear hB hS
  go_enter Tryz.func32, Tryz.ntmps32
  go_wp2
  go_ret
  refine ⟨_, rfl, heapP_shut (vl := .slice none 0 0) (vm := .map none) (M := fun _ => none) (fun j _ hj => by simp at hj) (fun a b ha => by simp at ha) ⟨fun j hj => by simp at hj, fun k hk => by simp at hk⟩ ?_⟩
  have h9 : Sat w0 (hpB w.heap.size (.slice none 0 0) (.map none) 0 * (sl 405 3 (.slice none 0 0) 0 [] * (mapI (.map none) (fun _ => none) * F))) _ := ((H.out.mapNil).addNil 405 3).cast (by ac_rfl)
  exact h9
end
end Go.Proofs.YtdbppfcilaajaaaGreat.Hm
