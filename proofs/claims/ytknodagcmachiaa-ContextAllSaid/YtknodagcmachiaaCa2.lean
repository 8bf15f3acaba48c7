/-
  Contracts of package arena at T = helmsman/api.Context: Get. No statement is proved here.
-/
import Derived.Test.YtknodagcmachiaaMg3
import Derived.Laws.ResultCell
namespace Go.Proofs.Ytknodagcmachiaa.Ac
open Go.RowKit
open Fi (vi vu)
set_option linter.unusedVariables false

theorem isAt_some {ps : List Pl} {i g : Int} {k : Nat} {a : Pl} (h : isAt ps i g = some (k, a)) : ps[k]? = some a ∧ i = k ∧ a.there = true ∧ a.gen = g := by
  unfold isAt at h
  split at h
  · cases h
  · split at h
    · cases h
    · rename_i h0 _ b hb
      split at h
      · rename_i hc
        simp only [Option.some.injEq, Prod.mk.injEq] at h
        obtain ⟨rfl, rfl⟩ := h
        simp only [Bool.and_eq_true, beq_iff_eq] at hc
        exact ⟨hb, by omega, hc.1, hc.2⟩
      · cases h

section
variable {ps : List Pl} {free : List Nat} {k : Nat} {a : Pl}
theorem get_set (hk : ps[k]? = some a) (a' : Pl) (j : Nat) (b : Pl) (h : (ps.set k a')[j]? = some b) : (j = k ∧ b = a') ∨ (j ≠ k ∧ ps[j]? = some b) := by
  rw [List.getElem?_set] at h
  by_cases hj : k = j
  · rw [if_pos hj] at h
    split at h
    · exact .inl ⟨hj.symm, by simpa using h.symm⟩
    · cases h
  · rw [if_neg hj] at h
    exact .inr ⟨fun e => hj e.symm, h⟩
theorem get_set_self (hk : ps[k]? = some a) (a' : Pl) : (ps.set k a')[k]? = some a' := by
  simp [(List.getElem?_eq_some_iff.1 hk).1]
theorem cnt_set (q : Pl → Bool) (hk : ps[k]? = some a) (a' : Pl) : (ps.set k a').countP q + (if q a then 1 else 0) = ps.countP q + if q a' then 1 else 0 := by
  obtain ⟨hl, hg⟩ := List.getElem?_eq_some_iff.1 hk
  rw [List.countP_set hl, hg]
  have : q a = true → 0 < ps.countP q := fun h => List.countP_pos_iff.2 ⟨a, hg ▸ List.getElem_mem hl, h⟩
  split
  · have := this (by assumption)
    omega
  · omega
theorem TblOk.setX (h : TblOk ps free) (hk : ps[k]? = some a) (x : El) : TblOk (ps.set k { a with x := x }) free := by
  refine ⟨by simpa using h.pos, by simpa using h.small, ?_, ?_, ?_, h.nodup, ?_⟩
  · intro j b hb
    rcases get_set hk _ j b hb with ⟨rfl, rfl⟩ | ⟨_, hb⟩
    · have h5 := h.gens _ _ hk; exact h5
    · exact h.gens _ _ hb
  · intro j b hb
    rcases get_set hk _ j b hb with ⟨rfl, rfl⟩ | ⟨_, hb⟩
    · have h5 := h.excl _ _ hk; exact h5
    · exact h.excl _ _ hb
  · intro j
    rw [h.mem]
    constructor
    · rintro ⟨b, hb, h1, h2⟩
      by_cases hj : j = k
      · subst hj
        rw [hk] at hb
        cases hb
        exact ⟨_, get_set_self hk _, h1, h2⟩
      · exact ⟨b, by rw [List.getElem?_set, if_neg (fun e => hj e.symm)]; exact hb, h1, h2⟩
    · rintro ⟨b, hb, h1, h2⟩
      rcases get_set hk _ j b hb with ⟨rfl, rfl⟩ | ⟨_, hb⟩
      · exact ⟨_, hk, h1, h2⟩
      · exact ⟨_, hb, h1, h2⟩
  · have := cnt_set Pl.busy hk { a with x := x }
    have hc := h.cnt
    rw [show Pl.busy { a with x := x } = Pl.busy a from rfl] at this
    rw [List.length_set]
    omega
/-- Something comes. -/
theorem TblOk.come (h : TblOk ps (free ++ [k])) (hk : ps[k]? = some a) (x : El) : TblOk (ps.set k { a with there := true, x := x }) free := by
  have hnd := List.nodup_append.1 h.nodup
  obtain ⟨b, hb, hth, hre⟩ := (h.mem k).1 (by simp)
  rw [hk] at hb
  cases hb
  refine ⟨by simpa using h.pos, by simpa using h.small, ?_, ?_, ?_, hnd.1, ?_⟩
  · intro j b hb
    rcases get_set hk _ j b hb with ⟨rfl, rfl⟩ | ⟨_, hb⟩
    · have h5 := h.gens _ _ hk; exact h5
    · exact h.gens _ _ hb
  · intro j b hb
    rcases get_set hk _ j b hb with ⟨rfl, rfl⟩ | ⟨_, hb⟩
    · exact fun _ => hre
    · exact h.excl _ _ hb
  · intro j
    by_cases hj : j = k
    · subst hj
      constructor
      · intro hm
        exact absurd rfl (hnd.2.2 j hm j (by simp))
      · rintro ⟨b, hb, h1, h2⟩
        rw [get_set_self hk] at hb
        cases hb
        cases h1
    · have := h.mem j
      rw [List.getElem?_set, if_neg (fun e => hj e.symm), ← this]
      simp [hj]
  · have := cnt_set Pl.busy hk { a with there := true, x := x }
    have hc := h.cnt
    simp only [Pl.busy, hth, hre, Bool.or_self, List.length_append, List.length_cons, List.length_nil, Bool.false_eq_true, if_false, Bool.true_or, if_true] at this hc ⊢
    rw [List.length_set]
    omega
/-- Something goes, for others to come there. -/
theorem TblOk.go (h : TblOk ps free) (hk : ps[k]? = some a) (ht : a.there = true) (hg : a.gen ≠ 18446744073709551614) : TblOk (ps.set k { a with gen := a.gen + 1, there := false, x := ez }) (free ++ [k]) := by
  have hre := h.excl _ _ hk ht
  refine ⟨by simpa using h.pos, by simpa using h.small, ?_, ?_, ?_, ?_, ?_⟩
  · intro j b hb
    rcases get_set hk _ j b hb with ⟨rfl, rfl⟩ | ⟨_, hb⟩
    · have := h.gens _ _ hk
      exact ⟨by show 1 ≤ a.gen + 1; omega, by show a.gen + 1 ≤ _; omega⟩
    · exact h.gens _ _ hb
  · intro j b hb
    rcases get_set hk _ j b hb with ⟨rfl, rfl⟩ | ⟨_, hb⟩
    · exact fun _ => hre
    · exact h.excl _ _ hb
  · intro j
    by_cases hj : j = k
    · subst hj
      exact ⟨fun _ => ⟨_, get_set_self hk _, rfl, hre⟩, fun _ => by simp⟩
    · have := h.mem j
      rw [List.getElem?_set, if_neg (fun e => hj e.symm), ← this]
      simp [hj]
  · refine List.nodup_append.2 ⟨h.nodup, by simp, ?_⟩
    rintro j hj j' hj' rfl
    simp only [List.mem_singleton] at hj'
    subst hj'
    obtain ⟨b, hb, h1, _⟩ := (h.mem j).1 hj
    rw [hk] at hb
    cases hb
    rw [ht] at h1
    cases h1
  · have := cnt_set Pl.busy hk { a with gen := a.gen + 1, there := false, x := ez }
    have hc := h.cnt
    simp only [Pl.busy, ht, hre, Bool.or_self, List.length_append, List.length_cons, List.length_nil, Bool.false_eq_true, if_false, Bool.true_or, if_true] at this hc ⊢
    rw [List.length_set]
    omega
/-- Something goes, and its place is retired. -/
theorem TblOk.retire (h : TblOk ps free) (hk : ps[k]? = some a) (ht : a.there = true) : TblOk (ps.set k { a with there := false, retired := true, x := ez }) free := by
  refine ⟨by simpa using h.pos, by simpa using h.small, ?_, ?_, ?_, h.nodup, ?_⟩
  · intro j b hb
    rcases get_set hk _ j b hb with ⟨rfl, rfl⟩ | ⟨_, hb⟩
    · have h5 := h.gens _ _ hk; exact h5
    · exact h.gens _ _ hb
  · intro j b hb
    rcases get_set hk _ j b hb with ⟨rfl, rfl⟩ | ⟨_, hb⟩
    · exact fun e => by cases e
    · exact h.excl _ _ hb
  · intro j
    by_cases hj : j = k
    · subst hj
      constructor
      · intro hm
        obtain ⟨b, hb, h1, _⟩ := (h.mem j).1 hm
        rw [hk] at hb
        cases hb
        rw [ht] at h1
        cases h1
      · rintro ⟨b, hb, h1, h2⟩
        rw [get_set_self hk] at hb
        cases hb
        cases h2
    · rw [h.mem, List.getElem?_set, if_neg (fun e => hj e.symm)]
  · have := cnt_set Pl.busy hk { a with there := false, retired := true, x := ez }
    have hc := h.cnt
    simp only [Pl.busy, ht, Bool.true_or, Bool.or_true, if_true] at this hc ⊢
    rw [List.length_set]
    omega
theorem TblOk.fresh (n : Nat) (h1 : 1 ≤ n) (h2 : n ≤ 4096) (g : Int) (hg : 1 ≤ g) (hg' : g ≤ 18446744073709551614) : TblOk (List.replicate n ⟨g, false, false, ez⟩) ((List.range n).map fun i => n - 1 - i) := by
  refine ⟨by simp; omega, by simpa using h2, ?_, ?_, ?_, ?_, ?_⟩
  · intro k a h
    simp only [List.getElem?_replicate] at h
    split at h
    · cases h; exact ⟨hg, hg'⟩
    · cases h
  · intro k a h
    simp only [List.getElem?_replicate] at h
    split at h
    · cases h; exact fun e => by cases e
    · cases h
  · intro k
    simp only [List.mem_map, List.mem_range, List.getElem?_replicate]
    constructor
    · rintro ⟨i, hi, rfl⟩
      exact ⟨_, by rw [if_pos (by omega)], rfl, rfl⟩
    · rintro ⟨a, ha, _⟩
      split at ha
      · exact ⟨n - 1 - k, by omega, by omega⟩
      · cases ha
  · rw [List.nodup_iff_pairwise_ne, List.pairwise_map]
    refine List.Pairwise.imp_of_mem ?_ List.pairwise_lt_range
    intro i j hi hj hij
    simp only [List.mem_range] at hi hj
    omega
  · simp [List.countP_replicate, Pl.busy]
end

section
variable {w0 w : World} {p : Nat} {s : TblS} {ps : List Pl} {free : List Nat} {F : Hp}
theorem find_no (h : TblIs w0 p s ps free F w) {i g : Int} (hA : isAt ps i g = none) :
    Calls Try.prog 81 #[vp p, vr i g] w fun e w' => e = .returned (.tuple #[.pointer none, vi 11]) ∧ TblIs w0 p s ps free F w' :=
  (find_ h i g).mono fun e w' ⟨h1, h2⟩ => by
    rw [hA] at h2
    exact ⟨h2, h1⟩
theorem find_yes (h : TblIs w0 p s ps free F w) {i g : Int} {k : Nat} {a : Pl} (hA : isAt ps i g = some (k, a)) :
    Calls Try.prog 81 #[vp p, vr i g] w fun e w' => e = .returned (.tuple #[.pointer (some ⟨s.a, k * 7, none⟩), vi 0]) ∧ TblIs w0 p s ps free F w' :=
  (find_ h i g).mono fun e w' ⟨h1, h2⟩ => by
    rw [hA] at h2
    exact ⟨h2, h1⟩

def getX (ps : List Pl) (i g : Int) : El := match isAt ps i g with | none => ez | some (_, a) => a.x
def getE (ps : List Pl) (i g : Int) : Int := match isAt ps i g with | none => 11 | some _ => 0

theorem TblIs.alloc (h : TblIs w0 p s ps free F w) (o : Obj) : TblIs w0 p s ps free F (w.alloc o) := ⟨h.ok, h.sat.alloc' o⟩

set_option maxRecDepth 100000 in
set_option maxHeartbeats 8000000 in
theorem get_at (h : TblIs w0 p s ps free F w) (i g : Int) :
    Calls Try.prog 74 #[vp p, vr i g] w fun e w' => e = .returned (.tuple #[ev (getX ps i g), vi (getE ps i g)]) ∧ TblIs w0 p s ps free F w' := by
  have hI : TblIs w0 p s ps free (elB (w.heap.size + 1) ez * F) ((w.alloc (.cells #[vi i, vu g] 30)).alloc (elO ez)) := ⟨h.ok, by
    have hh := (h.sat.alloc' (.cells #[vi i, vu g] 30)).alloc (elO ez)
    rw [size1] at hh
    exact (show Sat w0 (elB (w.heap.size + 1) ez * (tblB p s ps.length free.length * (tblL s ps * (tblF s free * F)))) _ from hh).cast (by ac_rfl)⟩
  unfold getX getE
  cases hA : isAt ps i g with
  | none =>
    have H := Lib.hid (find_no hI hA)
    have hA' := Lib.hid hA
    clear h hI hA
    go_enter Try.func74, Try.ntmps74
    go_wp2_with (first
      | (go_at_call 81; refine H.out.mono ?_; rintro e w1 ⟨rfl, hT0⟩; have hT := hT0.alloc (elO ez); have HX := Lib.hid hT.sat.pull4; have HTh := Lib.hid (there_ (n := 4) hT.sat.pull4 rfl); have HOK := Lib.hid hT.ok; have HLd := Lib.hid (range_ (hT0.sat.alloc (elO ez))); clear hT hT0)
      | (refine wpList_load_mid rfl 49 _ rfl w1.heap.size 0 (by rfl) (elC ez) _ HLd.out Try.underlying49 rfl einfo ?_)
      | (refine wpList_store_mid rfl 49 _ _ rfl (w.heap.size + 1) 0 (elC ez).toArray (by rfl) (by rfl) HTh.out einfo (all_oneCell_toArray (elOne ez)) ?_; have HS := Lib.hid (HX.out.stores (elC ez) 0); have HR := Lib.hid (World.rangeAt_setCells_same _ (w.heap.size + 1) 0 (elC ez) HTh.out); generalize hw2 : World.setCells _ _ _ _ = w2; have HS : Hid (Sat w0 _ w2) := hw2 ▸ HS; have HR : Hid (World.rangeAt w2 _ _ _) := hw2 ▸ HR; clear hw2))
    (try simp only [Exit.inBlock, Exit.then])
    refine bodyPost_ret (v := .tuple #[ev ez, vi 11]) (results_row rfl _ _ _ rfl rfl HR.out Try.underlying49 rfl einfo) rfl ?_
    exact ⟨rfl, HOK.out, HS.out.dropL⟩
  | some ka =>
    obtain ⟨k, a⟩ := ka
    have H := Lib.hid (find_yes hI hA)
    have ha := isAt_some hA
    have hlt : k < ps.length := (List.getElem?_eq_some_iff.1 ha.1).1
    have HA := Lib.hid ha
    have hA' := Lib.hid hA
    clear h hI hA ha
    go_enter Try.func74, Try.ntmps74
    go_wp2_with (first
      | (go_at_call 81; refine H.out.mono ?_; rintro e w1 ⟨rfl, hT⟩; have HLd := Lib.hid (hT.rng HA.out.1); have HX := Lib.hid hT.sat.pull4; have HTh := Lib.hid (there_ (n := 4) hT.sat.pull4 rfl); have HOK := Lib.hid hT.ok; clear hT)
      | (refine wpList_load_mid rfl 49 _ rfl s.a (k * 7 + 3) (by rfl) (elC a.x) _ HLd.out Try.underlying49 rfl einfo ?_)
      | (refine wpList_store_mid rfl 49 _ _ rfl (w.heap.size + 1) 0 (elC a.x).toArray (by rfl) (by rfl) HTh.out einfo (all_oneCell_toArray (elOne a.x)) ?_; have HS := Lib.hid (HX.out.stores (elC a.x) 0); have HR := Lib.hid (World.rangeAt_setCells_same _ (w.heap.size + 1) 0 (elC a.x) HTh.out); generalize hw2 : World.setCells _ _ _ _ = w2; have HS : Hid (Sat w0 _ w2) := hw2 ▸ HS; have HR : Hid (World.rangeAt w2 _ _ _) := hw2 ▸ HR; clear hw2))
    (try simp only [Exit.inBlock, Exit.then])
    refine bodyPost_ret (v := .tuple #[ev a.x, vi 0]) (results_row rfl _ _ _ rfl rfl HR.out Try.underlying49 rfl einfo) rfl ?_
    exact ⟨rfl, HOK.out, HS.out.dropL⟩

theorem get_ (h : Sat w0 (tblP p ps free * F) w) (i g : Int) :
    Calls Try.prog 74 #[vp p, vr i g] w fun e w' => e = .returned (.tuple #[ev (getX ps i g), vi (getE ps i g)]) ∧ Sat w0 (tblP p ps free * F) w' := by
  obtain ⟨s, hs⟩ := open_ h
  exact (get_at hs i g).mono fun e w' ⟨h1, h2⟩ => ⟨h1, h2.shut⟩

end
end Go.Proofs.Ytknodagcmachiaa.Ac
