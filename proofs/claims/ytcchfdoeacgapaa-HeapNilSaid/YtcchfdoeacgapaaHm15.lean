/-
  heap.Heap.All: slices.SortFunc at timers, in chunks. No statement is proved here.
-/
import Derived.Test.YtcchfdoeacgapaaHm14
import Derived.Test.YtcchfdoeacgapaaHm4
import Derived.Test.YtcchfdoeacgapaaHmS
import Derived.Test.YtcchfdoeacgapaaHmT
namespace Go.Proofs.Ytcchfdoeacgapaa.Hm
open Go.RowKit Go.Sort
set_option linter.unusedVariables false

theorem flat_at (l : List Tm) (j : Nat) (h : j < l.length * 3) : (tmsV l)[j]? = some ((flatK tmV 3 l.toArray)[j]!) := by
  rw [get_flatK _ _ _ _ (by simpa using h)]
  have e : j = j / 3 * 3 + j % 3 := by omega
  have h1 : (tmsV l)[j]? = (tmV (gt l (j / 3)))[j % 3]? := by
    have := tmsV_at l (j / 3) (j % 3) (by omega) (by omega)
    rw [← e] at this
    exact this
  rw [h1]
  have h2 : l.toArray[j / 3]! = gt l (j / 3) := by
    have h3 : j / 3 < l.length := by omega
    simp [gt, h3]
  rw [h2]
  have h4 : j % 3 < (tmV (gt l (j / 3))).length := by
    have : j % 3 < 3 := by omega
    simpa [tmV] using this
  rw [List.getElem?_eq_getElem h4, getElem!_pos (tmV (gt l (j / 3))) (j % 3) h4]

section
variable {w0 w : World} {F : Hp} {g cap n : Nat} {A : List Tm}
theorem sat_row {T : TypeId} {cur : List Value} (h : Sat w0 (pc g T cur * F) w) (d : Array Tm) (m : Nat) (os : Array Obj) :
    Sat w0 (pc g T (putCells id 0 (flatK tmV 3 d) cur.toArray).toList * F) (sortWorldK tmV 3 w g 0 m d os) := by
  have hb := h.blk.1
  have hlt := h.lt
  refine h.upd rfl rfl rfl ?_ ?_ ?_
  · show _ ≤ (w.heap.modify g _ ++ os).size
    simp
  · show (w.heap.modify g _ ++ os)[g]? = _
    rw [Array.getElem?_append_left (by simpa using hlt), Array.getElem?_modify, if_pos rfl, hb]
    simp [onCells]
  · intro k hk hne
    show (w.heap.modify g _ ++ os)[k]? = _
    rw [Array.getElem?_append_left (by simpa using hk), Array.getElem?_modify, if_neg (fun e => hne e.symm)]
theorem row_take {cur : List Value} (d : Array Tm) (h : d.size * 3 ≤ cur.length) :
    ((putCells id 0 (flatK tmV 3 d) cur.toArray).toList).take (d.size * 3) = tmsV d.toList := by
  refine List.ext_getElem? fun i => ?_
  rw [List.getElem?_take]
  by_cases hi : i < d.size * 3
  · rw [if_pos hi, flat_at d.toList i (by simpa using hi)]
    have hc : i < cur.length := by omega
    simp [putCells, hi, hc]
  · rw [if_neg hi, List.getElem?_eq_none (by rw [tmsV_len]; simp; omega)]
theorem holds_row (h : Sat w0 (tl (vs g n cap) n A * F) w) : HoldsK tmV 3 w g 0 A.toArray := by
  intro j hj
  have hl := (tlLen h).1
  rw [size_flatK] at hj
  rw [Nat.zero_add]
  exact ⟨h.slCell j (flat_at A j (by simpa using hj)), h.slFree j⟩

theorem lt_cfT (x y : Tm) : ltOf cfT x y = lessT x y := by
  obtain ⟨xa, xi, xn⟩ := x
  obtain ⟨ya, yi, yn⟩ := y
  show decide (orI (Lib.compareInt xa ya) (Lib.compareInt xn yn) < 0) = (decide (xa < ya) || (decide (xa = ya) && decide (xn < yn)))
  unfold orI Lib.compareInt
  rcases Int.lt_trichotomy xa ya with h | h | h
  · simp [h]
  · subst h
    rcases Int.lt_trichotomy xn yn with h | h | h
    · simp [h]
    · subst h
      simp
    · have h2 : ¬ xn < yn := by omega
      simp [h, h2]
  · have h2 : ¬ xa < ya := by omega
    have h3 : ¬ xa = ya := by omega
    simp [h, h2, h3]
theorem swoT : SWO (ltOf cfT) where
  irrefl x := by rw [lt_cfT, lessT_no]; unfold nl; omega
  trans x y z h1 h2 := by
    rw [lt_cfT, lessT_yes] at *
    unfold nl at *
    omega
  ntrans x y z h1 h2 := by
    rw [lt_cfT, lessT_no] at *
    unfold nl at *
    omega

set_option maxRecDepth 100000 in
theorem sort_ (h : Sat w0 (tl (vs g n cap) n A * F) w) (hn : n ≤ 4096) :
    Calls Try.prog 62 #[vs g n cap, .func (.func 63) #[] #[]] w fun e w' => e = .returned (.tuple #[]) ∧ ∃ A', A'.Perm A ∧ SortedT A' ∧ Sat w0 (tl (vs g n cap) n A' * F) w' := by
  obtain ⟨hl, hc1, hc2⟩ := tlLen h
  have eg : ∀ args w, (callFunc 63 args).run Try.prog w = .ok (.enter 63 args) w := enters_of Try.func63 (by kernel_rfl) rfl
  have hcon := AnyQ.slices_SortFunc Try.sortTm 3 Try.isAgg82 Try.sizeOf82 tmV (fun _ => rfl) (fun x v hv => by simp [tmV] at hv; rcases hv with rfl | rfl | rfl <;> rfl) cfT swoT 63 #[] g 0 cap A.toArray w eg (fun _ _ _ _ x y => clo_all x y _) (holds_row h) h.slLt (by simp [hl]; omega)
  rw [show A.toArray.size = n by simp [hl]] at hcon
  refine hcon.mono ?_
  rintro e w' ⟨rfl, d', m, os, hp, hs, rfl⟩
  have hsz : d'.size = n := by rw [hp.1]; simp [hl]
  refine ⟨rfl, d'.toList, ?_, ?_, ?_⟩
  · have := hp.2.2
    rw [← hsz, Array.extract_size] at this
    rw [hsz, show n = A.toArray.size by simp [hl], Array.extract_size] at this
    simpa using this
  · intro i j hij hj
    have := hs i j (Nat.zero_le _) hij (by simpa [hsz] using hj)
    rw [lt_cfT] at this
    have gg : ∀ i, i < d'.size → d'[i]! = gt d'.toList i := by
      intro i hi
      simp [gt, hi]
    rw [gg i (by have : j < d'.size := by simpa using hj
                 omega), gg j (by simpa using hj)] at this
    exact this
  · obtain ⟨cur, h1, h2, h3, h4, hS⟩ := h.slP
    refine (sat_row hS d' m os).slI h1 h2 ?_ ?_
    · simpa [putCells] using h3
    · rw [← hsz]
      exact row_take d' (by rw [hsz]; have := Nat.mul_le_mul_right 3 h1; omega)
end
end Go.Proofs.Ytcchfdoeacgapaa.Hm
