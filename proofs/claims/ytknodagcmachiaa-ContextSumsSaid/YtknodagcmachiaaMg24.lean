/-
  Law 08: what all budgets are together, plainly. No statement is proved here.
-/
import Derived.Test.YtknodagcmachiaaMg19
import Derived.Test.YtknodagcmachiaaMg21
import Derived.Test.YtknodagcmachiaaMg23
import Derived.Test.YtknodagcmachiaaMg8
import Derived.Deep.DeepCutAuto
namespace Go.Proofs.Ytknodagcmachiaa.Cn
open Go.RowKit Ac Fi
set_option linter.unusedVariables false

/-- A place's budget. -/
def valC (c : CP) : Int := if c.there = true then c.cx.b else 0
/-- The first k places' budgets together. -/
def sumK (cs : List CP) (k : Nat) : Int := ((cs.take k).map valC).sum
def sumB (cs : List CP) : Int := sumK cs cs.length
section
variable {n T : Nat} {most times : Int} {cs : List CP} {free : List Nat} {i g j t : Int}
theorem sumK_succ {k : Nat} {c : CP} (h : cs[k]? = some c) : sumK cs (k + 1) = sumK cs k + valC c := by
  unfold sumK
  rw [List.take_add_one, h]
  simp
theorem sumB_eq (cs : List CP) : sumB cs = (cs.map valC).sum := by
  unfold sumB sumK
  rw [List.take_length]
theorem sum_set_ : ∀ (l : List CP) (k : Nat) (c c' : CP), l[k]? = some c → ((l.set k c').map valC).sum = (l.map valC).sum - valC c + valC c'
  | [], k, c, c', h => by simp at h
  | a :: l, 0, c, c', h => by
    simp at h
    subst h
    simp
    omega
  | a :: l, k + 1, c, c', h => by
    simp at h
    have := sum_set_ l k c c' h
    simp only [List.set_cons_succ, List.map_cons, List.sum_cons]
    omega
theorem sumB_set {k : Nat} {c : CP} (h : cs[k]? = some c) (c' : CP) : sumB (cs.set k c') = sumB cs - valC c + valC c' := by
  rw [sumB_eq, sumB_eq]
  exact sum_set_ cs k c c' h
theorem sumB_sC (he : eC cs i g = 0) (x : Cx) : sumB (sC cs i g x) = sumB cs - (gC cs i g).b + x.b := by
  obtain ⟨k, c, hc⟩ := eC_yes he
  obtain ⟨h1, h2, h3, h4⟩ := isC_some hc
  rw [(isC_gC hc).1]
  unfold sC
  rw [hc]
  show sumB (cs.set k { c with cx := x }) = _
  rw [sumB_set h1]
  unfold valC
  rw [if_pos h3, if_pos h3]
theorem sumB_same (x : Cx) (hb : eC cs i g = 0 → x.b = (gC cs i g).b) : sumB (sC cs i g x) = sumB cs := by
  rcases eC_01 cs i g with he | he
  · rw [sumB_sC he, hb he]
    omega
  · rw [sC_same cs i g he]
/-- Another place is turned: who is named stays. -/
theorem isC_set {k m : Nat} {c c' : CP} (hc : isC cs i g = some (k, c)) (hm : m ≠ k) : isC (cs.set m c') i g = some (k, c) := by
  obtain ⟨h1, h2, h3, h4⟩ := isC_some hc
  have := isC_of (cs := cs.set m c') (k := k) (c := c) (by rw [List.getElem?_set_ne hm]; exact h1) h3
  rw [h4, ← h2] at this
  exact this
theorem Inv.sum_sp (h : Inv n most T cs free times) (amount now : Int) : sumB (spL cs free i g amount now) = sumB cs := by
  unfold spL
  split
  · rename_i he
    unfold spE at he
    split at he
    · cases he
    · rename_i h0
      have h0 : eC cs i g = 0 := by rcases eC_01 cs i g with h | h <;> omega
      split at he
      · rename_i hne
        exact absurd he hne
      · obtain ⟨k, c, hc⟩ := eC_yes h0
        obtain ⟨h1, h2, h3, h4⟩ := isC_some hc
        obtain ⟨d, hd, hdt, _⟩ := h.mkAt he
        have hne : mkK free ≠ k := fun e => by
          rw [e, h1] at hd
          cases hd
          rw [h3] at hdt
          cases hdt
        have hML : mkL cs free amount (gC cs i g).p now = cs.set (mkK free) { d with there := true, cx := ⟨amount, (gC cs i g).p, [⟨amount, now⟩], 0⟩ } := by
          unfold mkL
          rw [if_pos he, hd]
        rw [hML]
        have hc2 := isC_set (c' := { d with there := true, cx := ⟨amount, (gC cs i g).p, [⟨amount, now⟩], 0⟩ }) hc hne
        rw [sumB_sC (isC_gC hc2).2, (isC_gC hc2).1, sumB_set hd, (isC_gC hc).1]
        unfold valC pullC
        rw [if_neg (by rw [hdt]; simp), if_pos rfl]
        dsimp only
        omega
  · rfl
theorem Inv.sum_do (h : Inv n most T cs free times) (amount now : Int) : sumB (doL most cs i g j t amount now) = sumB cs := by
  unfold doL
  split
  · rename_i he
    unfold doE at he
    split at he
    · rename_i hne
      exact absurd he hne
    · rename_i hz
      have hz : doE1 cs i g j t amount now = 0 := by omega
      obtain ⟨z1, z2, z3, z4, z5⟩ := donC_zero hz
      obtain ⟨k, c, hc⟩ := eC_yes z1
      obtain ⟨k2, c2, hc2⟩ := eC_yes z2
      obtain ⟨h1, h2, h3, h4⟩ := isC_some hc
      obtain ⟨d1, d2, d3, d4⟩ := isC_some hc2
      have hne : k2 ≠ k := fun e => z3 (by
        subst e
        rw [h1] at d1
        cases d1
        exact ⟨by omega, by omega⟩)
      have hsc : sC cs j t (giveC (gC cs j t) amount now) = cs.set k2 { c2 with cx := giveC (gC cs j t) amount now } := by
        unfold sC
        rw [hc2]
      have hc3 := isC_set (c' := { c2 with cx := giveC (gC cs j t) amount now }) hc hne
      rw [← hsc] at hc3
      rw [sumB_sC (isC_gC hc3).2, (isC_gC hc3).1, sumB_sC z2, (isC_gC hc).1]
      unfold giveC pullC
      dsimp only
      omega
  · rfl
theorem InvS.sum_step {s : CS} {x : Act8} (h : InvS n most T s) (h1 : x.k ≠ 1) (h7 : x.k ≠ 7) : sumB (stepS most s x).cs = sumB s.cs := by
  have h0 : Inv n most T s.cs s.free s.times := h
  unfold stepS
  rw [if_neg h1]
  split
  · show sumB (bindL s.cs x.i x.g 1) = _
    unfold bindL
    split
    · exact sumB_same _ (fun _ => rfl)
    · rfl
  split
  · show sumB (bindL s.cs x.i x.g (-1)) = _
    unfold bindL
    split
    · exact sumB_same _ (fun _ => rfl)
    · rfl
  split
  · show sumB (chgL most s.cs x.i x.g x.now) = _
    unfold chgL
    split
    · exact sumB_same _ (fun _ => rfl)
    · rfl
  split
  · exact h0.sum_sp _ _
  split
  · exact h0.sum_do _ _
  · first | rfl | rw [if_neg h7]
theorem Inv.val (h : Inv n most T cs free times) {k : Nat} {c : CP} (hc : cs[k]? = some c) : 0 ≤ valC c ∧ valC c ≤ 4294967296 := by
  unfold valC
  split
  · rename_i ht
    have := (h.live k c hc ht).b
    omega
  · omega
theorem Inv.sumK_le (h : Inv n most T cs free times) : ∀ k, k ≤ cs.length → 0 ≤ sumK cs k ∧ sumK cs k ≤ 4294967296 * (k : Int)
  | 0, _ => ⟨Int.le_refl _, by simp [sumK]⟩
  | k + 1, hk => by
    obtain ⟨c, hc⟩ : ∃ c, cs[k]? = some c := ⟨cs[k], List.getElem?_eq_getElem (by omega)⟩
    have h1 := h.sumK_le k (by omega)
    have h2 := h.val hc
    rw [sumK_succ hc]
    omega
theorem sumB_new (n : Nat) : sumB (newC n) = 0 := by
  rw [sumB_eq]
  have : ∀ l : List CP, (∀ c ∈ l, c.there = false) → (l.map valC).sum = 0 := by
    intro l
    induction l with
    | nil => intro _; rfl
    | cons a l ih =>
      intro hl
      have h1 := hl a List.mem_cons_self
      have h2 := ih (fun c hc => hl c (List.mem_cons_of_mem _ hc))
      simp only [List.map_cons, List.sum_cons, h2]
      unfold valC
      rw [h1]
      simp
  refine this _ (fun c hc => ?_)
  obtain ⟨k, hk⟩ := List.getElem?_of_mem hc
  rw [(newC_at hk).2]
end
end Go.Proofs.Ytknodagcmachiaa.Cn

namespace Go.Proofs.Ytknodagcmachiaa.Cn
open Go.RowKit Go.Shelf Ac Fi
attribute [local go_sem] Oper.semAt_some
set_option linter.unusedVariables false
set_option linter.unusedSimpArgs false

set_option maxRecDepth 100000 in
set_option maxHeartbeats 8000000 in
theorem sums8_row (w0 : World) (size : Int) (ws : (Lit.int .i64 size).wf = true) (most : Int) (wm : (Lit.int .i64 most).wf = true) (v2 : Value) (n : Nat) (A : Nat → Int) (h2 : ArgK w0 8 kA8 v2 n A) :
    Calls Try.prog 4 #[vi size, vi most, v2] w0 (QP8 w0) := by
  obtain ⟨ao, cap, rfl⟩ : ∃ ao cap, v2 = .slice ao n cap := by
    rcases h2.form with ⟨rfl, ao, cap, h⟩ | ⟨b, off, cap, h, _⟩
    · exact ⟨_, _, h⟩
    · exact ⟨_, _, h⟩
  have HA := Lib.hid h2
  clear h2
  have hB0 := ((Sat.start w0).alloc (.cells #[vi most] 3)).alloc (.cells #[.bool false] 4)
  rw [World.size_alloc] at hB0
  have hB : Sat w0 (pc w0.heap.size 3 [vi most] * (pc (w0.heap.size + 1) 4 [.bool false] * emp)) _ := (show Sat w0 (pc (w0.heap.size + 1) 4 [.bool false] * (pc w0.heap.size 3 [vi most] * emp)) _ from hB0).pull2
  have b0 := hB.cell 0 rfl
  have HB := Lib.hid hB
  clear hB hB0
  generalize hb1 : w0.heap.size + 1 = bR at *
  generalize hb2 : w0.heap.size = bM at *
  generalize hwb : (w0.alloc (.cells #[vi most] 3)).alloc (.cells #[.bool false] 4) = wb at *
  have HB1 := Lib.hid hb1
  have HB2 := Lib.hid hb2
  have HWB := Lib.hid hwb
  clear hb1 hb2 hwb
  by_cases hn : 120 < n
  · have hni : (120 : Int) < (n : Int) := by omega
    refine (callsIn_wide (n := 9)).1 ?_
    refine callsIn_of_wp_marks Try.func4 rfl trivial ?_ rfl
    simp only [Try.ntmps4, List.size_toArray, List.length_cons, List.length_nil, Nat.reduceAdd, Nat.reduceSub, Array.replicate_succ, Array.replicate_zero, List.push_toArray, List.append_toArray, List.nil_append, List.cons_append]
    refine wpIn_wide.2 ?_
    go_wp2_with fail
    rw [HWB.out, HB2.out, HB1.out]
    go_wp2_with (go_at_call 9; refine (known08 _).mono ?_; rintro e w2 ⟨rfl, hb⟩; have h2 := Sat.after HB.out hb; have z0 := h2.pull2.cell 0 rfl; have zf := h2.pull2.free 0; have K2 := Lib.hid (h2.pull2.store 0 (.bool true)); clear hb h2)
    have hc := K2.out.cell 0 rfl
    exact ⟨.bool true, by simp [results, Try.f4, go_sem, hc], rfl, K2.out.below⟩

  have hni : ¬ (120 : Int) < (n : Int) := by omega
  by_cases hm : size < 1 ∨ 32 < size ∨ most < 2 ∨ 16 < most
  · have HM := Lib.hid (fun w => r_may_no size most hm w)
    clear hm
    refine (callsIn_wide (n := 9)).1 ?_
    refine callsIn_of_wp_marks Try.func4 rfl trivial ?_ rfl
    simp only [Try.ntmps4, List.size_toArray, List.length_cons, List.length_nil, Nat.reduceAdd, Nat.reduceSub, Array.replicate_succ, Array.replicate_zero, List.push_toArray, List.append_toArray, List.nil_append, List.cons_append]
    refine wpIn_wide.2 ?_
    go_wp2_with fail
    rw [HWB.out, HB2.out, HB1.out]
    go_wp2_with (first
      | (go_at_call 16; (with_reducible refine (HM.out _).mono ?_); rintro e w1 ⟨rfl, rfl⟩)
      | (go_at_call 9; refine (known08 _).mono ?_; rintro e w2 ⟨rfl, hb⟩; have h2 := Sat.after HB.out hb; have z0 := h2.pull2.cell 0 rfl; have zf := h2.pull2.free 0; have K2 := Lib.hid (h2.pull2.store 0 (.bool true)); clear hb h2))
    have hc := K2.out.cell 0 rfl
    exact ⟨.bool true, by simp [results, Try.f4, go_sem, hc], rfl, K2.out.below⟩

  · obtain ⟨N, rfl⟩ := Int.eq_ofNat_of_zero_le (show 0 ≤ size by omega)
    have hN : 1 ≤ N ∧ N ≤ 32 := by omega
    have hMm : 2 ≤ most ∧ most ≤ 16 := by omega
    have HI := Lib.hid (InvS.new N hN most hMm)
    have HN := Lib.hid (fun (w : World) (G : Hp) (h : Sat w0 G w) => p_new N hN hMm h)
    have HM := Lib.hid (fun w => r_may_yes N most (by omega) (by omega) hMm.1 hMm.2 w)
    clear hm
    refine (callsIn_wide (n := 9)).1 ?_
    refine callsIn_of_wp_marks Try.func4 rfl trivial ?_ rfl
    simp only [Try.ntmps4, List.size_toArray, List.length_cons, List.length_nil, Nat.reduceAdd, Nat.reduceSub, Array.replicate_succ, Array.replicate_zero, List.push_toArray, List.append_toArray, List.nil_append, List.cons_append]
    refine wpIn_wide.2 ?_
    go_wp2_with fail
    rw [HWB.out, HB2.out, HB1.out]
    go_wp2_with (first
      | (go_at_call 16; (with_reducible refine (HM.out _).mono ?_); rintro e w1' ⟨rfl, rfl⟩)
      | (go_at_call 10; (with_reducible refine (HN.out _ _ HB.out).mono ?_); rintro e w1 ⟨h, rfl, hS1⟩; have k0 := hS1.dropL.cell 0 rfl; have HNR := Lib.hid (both_new hS1 hN); clear hS1)
      | (go_at_call 17; (with_reducible refine HNR.out.mono ?_); rintro e w2 ⟨q, rfl, hS2⟩; have HPREV := Lib.hid hS2; clear hS2))
    clear HNR HM HN
    refine wp_loop_k (fun a wr => ∃ (k : Nat) (s : CS) (ds : List Nat) (u12 u13 u14 u15 u16 u42 u43 u44 u45 u46 u47 u48 u49 u50 u51 u52 u53 u54 u55 u56 u57 u58 u59 u60 u61 u62 u63 u64 u65 u66 u67 u68 u69 u70 u71 u72 u73 u74 u75 u76 u77 u78 u79 u80 u81 u82 u83 u84 u85 u86 u87 u88 u89 u90 u91 u92 u93 u94 u95 u96 u97 u98 u99 u100 u101 u102 u103 u104 u105 u106 u107 u108 u109 u110 u111 u112 u113 u114 u115 u116 u117 u118 u119 u120 u121 : Value), a = ⟨#[vi N, vi most, .slice ao n cap, undef, vp bM, undef, vp bR, vp h, vi 0, vp q, vu (sumB s.cs), vi k, u12, u13, u14, u15, u16, .slice ao n cap, vi n, .bool false, .bool false, vi N, vi most, .bool true, .bool false, .bool false, undef, .tuple #[vp h, vi 0], vi N, vi most, .tuple #[vp h, vi 0], vp h, vi 0, vi 0, .bool false, .bool false, vp h, .bool false, .bool false, vi N, vi most, vp q, u42, u43, u44, u45, u46, u47, u48, u49, u50, u51, u52, u53, u54, u55, u56, u57, u58, u59, u60, u61, u62, u63, u64, u65, u66, u67, u68, u69, u70, u71, u72, u73, u74, u75, u76, u77, u78, u79, u80, u81, u82, u83, u84, u85, u86, u87, u88, u89, u90, u91, u92, u93, u94, u95, u96, u97, u98, u99, u100, u101, u102, u103, u104, u105, u106, u107, u108, u109, u110, u111, u112, u113, u114, u115, u116, u117, u118, u119, u120, u121], mkD ds⟩ ∧ k ≤ n ∧ Hid (InvS N most (2 * k) s) ∧ Sat w0 (mkH ds * (pc bM 3 [vi most] * (pc bR 4 [.bool false] * (cxQ [] h most s.cs s.free * (cyQ [] q most s.cs s.times * emp))))) wr) (fun a _ => n - (intOf (a.tmps[11]?.getD undef)).toNat) ?_ ?_
    · exact ⟨0, newS N, [], _, _, _, _, _, _, _, _, _, _, _, _, _, _, _, _, _, _, _, _, _, _, _, _, _, _, _, _, _, _, _, _, _, _, _, _, _, _, _, _, _, _, _, _, _, _, _, _, _, _, _, _, _, _, _, _, _, _, _, _, _, _, _, _, _, _, _, _, _, _, _, _, _, _, _, _, _, _, _, _, _, _, _, _, _, by rw [show (sumB (newS N).cs) = 0 from sumB_new N]; rfl, Nat.zero_le _, HI, (show Sat w0 (cxQ [] h most (newS N).cs (newS N).free * (cyQ [] q most (newS N).cs (newS N).times * (pc bM 3 [vi most] * (pc bR 4 [.bool false] * emp)))) _ from HPREV.out).cast (show _ = (mkH [] * (pc bM 3 [vi most] * (pc bR 4 [.bool false] * (cxQ [] h most (newS N).cs (newS N).free * (cyQ [] q most (newS N).cs (newS N).times * emp))))) by show _ = emp * _; rw [emp_sep]; ac_rfl)⟩
    · clear HPREV HI HB
      intro aa wr hr K hK
      refine Exists.elim hr ?_
      clear hr
      intro k hr
      refine Exists.elim hr ?_
      clear hr
      intro s hr
      refine Exists.elim hr ?_
      clear hr
      intro ds hr
      refine Exists.elim hr ?_
      clear hr
      intro u12 hr
      refine Exists.elim hr ?_
      clear hr
      intro u13 hr
      refine Exists.elim hr ?_
      clear hr
      intro u14 hr
      refine Exists.elim hr ?_
      clear hr
      intro u15 hr
      refine Exists.elim hr ?_
      clear hr
      intro u16 hr
      refine Exists.elim hr ?_
      clear hr
      intro u42 hr
      refine Exists.elim hr ?_
      clear hr
      intro u43 hr
      refine Exists.elim hr ?_
      clear hr
      intro u44 hr
      refine Exists.elim hr ?_
      clear hr
      intro u45 hr
      refine Exists.elim hr ?_
      clear hr
      intro u46 hr
      refine Exists.elim hr ?_
      clear hr
      intro u47 hr
      refine Exists.elim hr ?_
      clear hr
      intro u48 hr
      refine Exists.elim hr ?_
      clear hr
      intro u49 hr
      refine Exists.elim hr ?_
      clear hr
      intro u50 hr
      refine Exists.elim hr ?_
      clear hr
      intro u51 hr
      refine Exists.elim hr ?_
      clear hr
      intro u52 hr
      refine Exists.elim hr ?_
      clear hr
      intro u53 hr
      refine Exists.elim hr ?_
      clear hr
      intro u54 hr
      refine Exists.elim hr ?_
      clear hr
      intro u55 hr
      refine Exists.elim hr ?_
      clear hr
      intro u56 hr
      refine Exists.elim hr ?_
      clear hr
      intro u57 hr
      refine Exists.elim hr ?_
      clear hr
      intro u58 hr
      refine Exists.elim hr ?_
      clear hr
      intro u59 hr
      refine Exists.elim hr ?_
      clear hr
      intro u60 hr
      refine Exists.elim hr ?_
      clear hr
      intro u61 hr
      refine Exists.elim hr ?_
      clear hr
      intro u62 hr
      refine Exists.elim hr ?_
      clear hr
      intro u63 hr
      refine Exists.elim hr ?_
      clear hr
      intro u64 hr
      refine Exists.elim hr ?_
      clear hr
      intro u65 hr
      refine Exists.elim hr ?_
      clear hr
      intro u66 hr
      refine Exists.elim hr ?_
      clear hr
      intro u67 hr
      refine Exists.elim hr ?_
      clear hr
      intro u68 hr
      refine Exists.elim hr ?_
      clear hr
      intro u69 hr
      refine Exists.elim hr ?_
      clear hr
      intro u70 hr
      refine Exists.elim hr ?_
      clear hr
      intro u71 hr
      refine Exists.elim hr ?_
      clear hr
      intro u72 hr
      refine Exists.elim hr ?_
      clear hr
      intro u73 hr
      refine Exists.elim hr ?_
      clear hr
      intro u74 hr
      refine Exists.elim hr ?_
      clear hr
      intro u75 hr
      refine Exists.elim hr ?_
      clear hr
      intro u76 hr
      refine Exists.elim hr ?_
      clear hr
      intro u77 hr
      refine Exists.elim hr ?_
      clear hr
      intro u78 hr
      refine Exists.elim hr ?_
      clear hr
      intro u79 hr
      refine Exists.elim hr ?_
      clear hr
      intro u80 hr
      refine Exists.elim hr ?_
      clear hr
      intro u81 hr
      refine Exists.elim hr ?_
      clear hr
      intro u82 hr
      refine Exists.elim hr ?_
      clear hr
      intro u83 hr
      refine Exists.elim hr ?_
      clear hr
      intro u84 hr
      refine Exists.elim hr ?_
      clear hr
      intro u85 hr
      refine Exists.elim hr ?_
      clear hr
      intro u86 hr
      refine Exists.elim hr ?_
      clear hr
      intro u87 hr
      refine Exists.elim hr ?_
      clear hr
      intro u88 hr
      refine Exists.elim hr ?_
      clear hr
      intro u89 hr
      refine Exists.elim hr ?_
      clear hr
      intro u90 hr
      refine Exists.elim hr ?_
      clear hr
      intro u91 hr
      refine Exists.elim hr ?_
      clear hr
      intro u92 hr
      refine Exists.elim hr ?_
      clear hr
      intro u93 hr
      refine Exists.elim hr ?_
      clear hr
      intro u94 hr
      refine Exists.elim hr ?_
      clear hr
      intro u95 hr
      refine Exists.elim hr ?_
      clear hr
      intro u96 hr
      refine Exists.elim hr ?_
      clear hr
      intro u97 hr
      refine Exists.elim hr ?_
      clear hr
      intro u98 hr
      refine Exists.elim hr ?_
      clear hr
      intro u99 hr
      refine Exists.elim hr ?_
      clear hr
      intro u100 hr
      refine Exists.elim hr ?_
      clear hr
      intro u101 hr
      refine Exists.elim hr ?_
      clear hr
      intro u102 hr
      refine Exists.elim hr ?_
      clear hr
      intro u103 hr
      refine Exists.elim hr ?_
      clear hr
      intro u104 hr
      refine Exists.elim hr ?_
      clear hr
      intro u105 hr
      refine Exists.elim hr ?_
      clear hr
      intro u106 hr
      refine Exists.elim hr ?_
      clear hr
      intro u107 hr
      refine Exists.elim hr ?_
      clear hr
      intro u108 hr
      refine Exists.elim hr ?_
      clear hr
      intro u109 hr
      refine Exists.elim hr ?_
      clear hr
      intro u110 hr
      refine Exists.elim hr ?_
      clear hr
      intro u111 hr
      refine Exists.elim hr ?_
      clear hr
      intro u112 hr
      refine Exists.elim hr ?_
      clear hr
      intro u113 hr
      refine Exists.elim hr ?_
      clear hr
      intro u114 hr
      refine Exists.elim hr ?_
      clear hr
      intro u115 hr
      refine Exists.elim hr ?_
      clear hr
      intro u116 hr
      refine Exists.elim hr ?_
      clear hr
      intro u117 hr
      refine Exists.elim hr ?_
      clear hr
      intro u118 hr
      refine Exists.elim hr ?_
      clear hr
      intro u119 hr
      refine Exists.elim hr ?_
      clear hr
      intro u120 hr
      refine Exists.elim hr ?_
      clear hr
      intro u121 hr
      obtain ⟨rfl, hk, hI, hS⟩ := hr
      have HK := Lib.hid hK
      clear hK
      generalize htot : sumB s.cs = tot at *
      by_cases hlt : k < n
      · have hki : (k : Int) < (n : Int) := by omega
        obtain ⟨ab, aoff, rfl, x, hx, hca⟩ := act_of HA.out hlt
        obtain ⟨a0, a1, a2, a3, a4, a5, a6, a7⟩ := hca _ _ hS
        have HCA := Lib.hid hca
        have HI2 := Lib.hid (hI.out.step hx)
        have HSS : Hid (x.k ≠ 1 → x.k ≠ 7 → sumB (stepS most s x).cs = tot) := Lib.hid (fun h1 h7 => (hI.out.sum_step h1 h7).trans htot)
        have HD := Lib.hid (do8 hI.out (by omega) (hS.cast (show _ = cxQ [] h most s.cs s.free * (cyQ [] q most s.cs s.times * (mkH ds * (pc bM 3 [vi most] * (pc bR 4 [.bool false] * emp)))) by ac_rfl)) x hx)
        clear hS hca htot
        generalize stepS most s x = s2 at *
        go_wp2_with (first
          | (go_at_call 18; (with_reducible refine HD.out.mono ?_); rintro e w4 ⟨rfl, hS4⟩; have h4 := hS4.alloc (.cells #[vu 0] 22); have h4b : Sat w0 (cxQ [] h most s2.cs s2.free * (pc w4.heap.size 22 [vu 0] * (cyQ [] q most s2.cs s2.times * (mkH ds * (pc bM 3 [vi most] * (pc bR 4 [.bool false] * emp)))))) _ := (show Sat w0 (pc w4.heap.size 22 [vu 0] * _) _ from h4).cast (by unfold bothC; ac_rfl); have HALL := Lib.hid (p_all h4b); clear hS4 h4 h4b)
          | (go_at_call 19; (with_reducible refine HALL.out.mono ?_); rintro e w5 ⟨it, bx, g, cap, ps, L, rfl, hL, hp, hS5⟩; have H5 := Lib.hid hS5; have HP := Lib.hid hp; clear hS5 hp hL))
        clear HALL HD
        generalize w4.heap.size = bS at *
        refine (wpIn_wide (n := 9)).1 ?_
        refine wpIn_act ?_
        intro a0' ha0
        have h5 : Sat w0 (cxIt it bx g cap ps * (cxQ L h most s2.cs s2.free * (pc bS 22 [vu (sumK s2.cs 0)] * (cyQ [] q most s2.cs s2.times * (mkH ds * (pc bM 3 [vi most] * (pc bR 4 [.bool false] * emp))))))) w5 := H5.out.cast (by rw [show sumK s2.cs 0 = 0 from rfl])
        have HS5 := Lib.hid h5
        clear h5 H5
        have h32 : N ≤ 32 := hN.2
        have hln : s2.cs.length = N := Inv.len HI2.out
        have HV : Hid (Inv N most (2 * k + 2) s2.cs s2.free s2.times) := HI2
        refine wpIn_range_sat (H' := cxIt it bx g cap ps * (cxQ L h most s2.cs s2.free * (pc bS 22 [vu (sumK s2.cs s2.cs.length)] * (cyQ [] q most s2.cs s2.times * (mkH ds * (pc bM 3 [vi most] * (pc bR 4 [.bool false] * emp))))))) rfl (by omega) (gf := 53) (lb := #[vp it]) (by rw [ha0]; rfl) trivial (enters_of Try.func53 (by kernel_rfl) rfl) HS5.out ?call ?done
        case call =>
          intro fn ll DD R W hfn hR hS
          have hS1 : Sat w0 (cxIt it bx g cap ps * (pt ll R * (pt DD dmark * (cxQ L h most s2.cs s2.free * (pc bS 22 [vu (sumK s2.cs 0)] * (cyQ [] q most s2.cs s2.times * (mkH ds * (pc bM 3 [vi most] * (pc bR 4 [.bool false] * emp))))))))) W := hS.cast (by ac_rfl)
          have hpl : ps.length = s2.cs.length := HP.out.len
          refine (cx_all2 (L := L) HP.out (by omega) (fun k c hk => ?lens) (fun k => pt ll R * (pt DD dmark * (cxQ L h most s2.cs s2.free * (pc bS 22 [vu (sumK s2.cs k)] * (cyQ [] q most s2.cs s2.times * (mkH ds * (pc bM 3 [vi most] * (pc bR 4 [.bool false] * emp)))))))) (given False emp) ?rd ?skip ?round hS1).mono ?back
          case lens =>
            by_cases hct : c.there = true
            · have := (HV.out.live k c hk hct).len
              have := HV.out.mst
              omega
            · rw [HV.out.gone k c hk (by simpa using hct)]
              simp
          case rd =>
            intro k W F3 h3 v l hi
            exact cxQ_rd (h3.cast (show _ = cxQ L h most s2.cs s2.free * (pt ll R * (pt DD dmark * (pc bS 22 [vu (sumK s2.cs k)] * ((cyQ [] q most s2.cs s2.times * (mkH ds * (pc bM 3 [vi most] * (pc bR 4 [.bool false] * emp)))) * F3)))) by ac_rfl)) hi
          case skip =>
            intro k c W F3 hk hct h3
            have hz : sumK s2.cs (k + 1) = sumK s2.cs k := by
              rw [sumK_succ hk]
              unfold valC
              rw [hct]
              simp
            show Sat w0 ((pt ll R * (pt DD dmark * (cxQ L h most s2.cs s2.free * (pc bS 22 [vu (sumK s2.cs (k + 1))] * (cyQ [] q most s2.cs s2.times * (mkH ds * (pc bM 3 [vi most] * (pc bR 4 [.bool false] * emp)))))))) * F3) W
            rw [hz]
            exact h3
          case back =>
            rintro e W' ⟨he, b, h3⟩
            refine ⟨he, ?_⟩
            cases b with
            | true =>
              rw [if_pos rfl, hpl] at h3
              exact h3.cast (by ac_rfl)
            | false =>
              rw [if_neg (by simp)] at h3
              exact absurd (h3.cast (sep_comm _ _)).givenE.1 (fun h => h)
          case round =>
            intro k2 c ao2 lc W2 F2 hc hct hS2
            have hlive := HV.out.live k2 c hc hct
            have hsk := HV.out.sumK_le k2 (by have := (List.getElem?_eq_some_iff.1 hc).1; omega)
            have hk2 : k2 < s2.cs.length := (List.getElem?_eq_some_iff.1 hc).1
            have HSN : Hid (sumK s2.cs (k2 + 1) = sumK s2.cs k2 + c.cx.b) := Lib.hid (by
              rw [sumK_succ hc]
              unfold valC
              rw [if_pos hct])
            have hb1 := hlive.b
            have hlen := hlive.len
            have HOK := Lib.hid hlive.ok
            have hl16 : c.cx.l.length ≤ 16 := by have := HV.out.mst; omega
            have HSUM : Hid (∀ (w : World) (v : Value), RdF w v c.cx.l → Calls Try.prog 20 #[v] w fun e w' => e = .returned (.tuple #[vu c.cx.b, .bool true]) ∧ w = w') := Lib.hid fun w v h1 => by
              have := rsum c.cx.l v w h1 (by omega)
              rw [sumP_eq hlive.ok, if_neg (by rw [hlive.tot]; omega), hlive.tot] at this
              exact this
            have HMAY : Hid (∀ (w : World) (v : Value), RdF w v c.cx.l → Calls Try.prog 21 #[v] w fun e w' => e = .returned (.bool true) ∧ Below w.heap.size w w') := Lib.hid fun w v h1 => by
              have := rmay c.cx.l v w h1 (by omega)
              rw [mayB_yes hlive.may] at this
              exact this
            clear hS hS1 hlive hc hct HA HCA HI2 HSS hI hpl
            obtain ⟨cg, cth, ⟨xb, xp, xl, xn⟩, cf⟩ := c
            dsimp only at HSN hb1 hlen HOK hl16 HSUM HMAY hS2 ⊢
            generalize sumK s2.cs k2 = sk at *
            have h3 : Sat w0 (pt ll R * (fiS (.slice ao2 xl.length lc) xl * (pt DD dmark * (cxQ L h most s2.cs s2.free * (pc bS 22 [vu sk] * (cyQ [] q most s2.cs s2.times * (mkH ds * (pc bM 3 [vi most] * (pc bR 4 [.bool false] * (emp * F2)))))))))) W2 := hS2.cast (by ac_rfl)
            have h3 : Sat w0 (pt ll R * (fiS (.slice ao2 xl.length lc) xl * (pt DD dmark * (cxQ L h most s2.cs s2.free * (pc bS 22 [vu sk] * (cyQ [] q most s2.cs s2.times * (mkH ds * (pc bM 3 [vi most] * (pc bR 4 [.bool false] * F2))))))))) W2 := h3.cast (by rw [emp_sep])
            have H3 := Lib.hid h3
            have h4' := h3.alloc (elO (⟨xb, xp, ao2, xl.length, lc, xn⟩ : El))
            have H4 := Lib.hid ((show Sat w0 (pc W2.heap.size 49 (elC (⟨xb, xp, ao2, xl.length, lc, xn⟩ : El)) * _) _ from h4').cast (show _ = pt ll R * (pc W2.heap.size 49 (elC (⟨xb, xp, ao2, xl.length, lc, xn⟩ : El)) * (fiS (.slice ao2 xl.length lc) xl * (pt DD dmark * (cxQ L h most s2.cs s2.free * (pc bS 22 [vu sk] * (cyQ [] q most s2.cs s2.times * (mkH ds * (pc bM 3 [vi most] * (pc bR 4 [.bool false] * F2))))))))) by ac_rfl))
            clear hS2 h3 h4'
            have hY := yield_sat (P := Try.prog) (G := Fence.wide) (n := 7 - 1 - 1) (args := #[vr k2 cg, ev (⟨xb, xp, ao2, xl.length, lc, xn⟩ : El)]) (X' := pt DD dmark * (cxQ L h most s2.cs s2.free * (pc bS 22 [vu (sk + xb)] * (cyQ [] q most s2.cs s2.times * (mkH ds * (pc bM 3 [vi most] * (pc bR 4 [.bool false] * F2)))))))
              (A := fun a' W' => a' = { tmps := ((a0'.tmps.setIfInBounds 58 (vr k2 cg)).setIfInBounds 59 (ev (⟨xb, xp, ao2, xl.length, lc, xn⟩ : El))).setIfInBounds 14 (.pointer (some ⟨W2.heap.size, 0, none⟩)), defers := [] } ∧ W' = W2.alloc (elO (⟨xb, xp, ao2, xl.length, lc, xn⟩ : El))) hfn rfl hR H3.out ?ha ?assign ?body
            case ha =>
              rintro a' W' ⟨_, rfl⟩
              exact H4.out.blk.1
            case assign =>
              intro K hK
              have HK := Lib.hid hK
              clear hK hR
              subst ha0
              gi_wp2
              exact HK.out _ _ ⟨by simp, rfl⟩
            case body =>
              rintro B a' W' ⟨rfl, rfl⟩
              have h5 : Sat w0 (pt ll B * _) _ := H4.out.putObj (o' := B)
              clear hR H3 H4 HP HV HS5 HK
              subst ha0
              simp only [List.setIfInBounds_toArray, List.set_cons_succ, List.set_cons_zero]
              generalize ((W2.alloc (elO (⟨xb, xp, ao2, xl.length, lc, xn⟩ : El))).putObj ll B) = W3 at *
              generalize W2.heap.size = ba at *
              have x0 := h5.pull2.cell 0 rfl
              have x2 := h5.pull2.cell 2 rfl
              have m0 := (h5.cast (show _ = pc bM 3 [vi most] * (pt ll B * (pc ba 49 (elC (⟨xb, xp, ao2, xl.length, lc, xn⟩ : El)) * (fiS (.slice ao2 xl.length lc) xl * (pt DD dmark * (cxQ L h most s2.cs s2.free * (pc bS 22 [vu sk] * (cyQ [] q most s2.cs s2.times * (mkH ds * (pc bR 4 [.bool false] * F2))))))))) by ac_rfl)).cell 0 rfl
              have H5 := Lib.hid (h5.cast (show _ = fiS (.slice ao2 xl.length lc) xl * (pt ll B * (pc ba 49 (elC (⟨xb, xp, ao2, xl.length, lc, xn⟩ : El)) * (pt DD dmark * (cxQ L h most s2.cs s2.free * (pc bS 22 [vu sk] * (cyQ [] q most s2.cs s2.times * (mkH ds * (pc bM 3 [vi most] * (pc bR 4 [.bool false] * F2))))))))) by ac_rfl))
              have hnb : ¬ xb < 1 := by omega
              have hnb2 : ¬ 4294967296 < xb := by omega
              have hnl : ¬ most < (xl.length : Int) := by omega
              have hwr : IntKind.u64.wrap (sk + xb) = sk + xb := IntWalk.u64_in _ (by omega)
              clear h5 hb1 hlen hsk
              gi_wp2_with (first
      | (refine ⟨trivial, ?_⟩; gi_at_call 20; (with_reducible refine ((callsIn_wide.2 (HSUM.out _ _ (Sat.fiR H5.out HOK.out))).inRound ll).mono ?_); rintro e w6 ⟨rfl, rfl⟩)
      | (refine ⟨trivial, ?_⟩; gi_at_call 21; (with_reducible refine ((callsIn_wide.2 (HMAY.out _ _ (Sat.fiR H5.out HOK.out))).inRound ll).mono ?_); rintro e w7 ⟨rfl, hb⟩; have h7 := (Sat.after H5.out hb).cast (show _ = pc bS 22 [vu sk] * (pc ba 49 (elC (⟨xb, xp, ao2, xl.length, lc, xn⟩ : El)) * (pt ll B * (fiS (.slice ao2 xl.length lc) xl * (pt DD dmark * (cxQ L h most s2.cs s2.free * (cyQ [] q most s2.cs s2.times * (mkH ds * (pc bM 3 [vi most] * (pc bR 4 [.bool false] * F2))))))))) by ac_rfl); have z0 := h7.cell 0 rfl; have zf := h7.free 0; have q0 := h7.pull2.cell 0 rfl; have H7 := Lib.hid (h7.store 0 (vu (sk + xb))); clear hb h7))
              exact (H7.out.cast (show _ = pc ba 49 (elC (⟨xb, xp, ao2, xl.length, lc, xn⟩ : El)) * (fiS (.slice ao2 xl.length lc) xl * (pt ll B * (pt DD dmark * (cxQ L h most s2.cs s2.free * (pc bS 22 [vu (sk + xb)] * (cyQ [] q most s2.cs s2.times * (mkH ds * (pc bM 3 [vi most] * (pc bR 4 [.bool false] * F2))))))))) by simp only [List.set_cons_zero]; ac_rfl)).dropL.dropL
            refine hY.mono ?_
            rintro e W' ⟨rfl, h9⟩
            refine ⟨true, rfl, ?_⟩
            rw [if_pos rfl, HSN.out]
            exact h9.cast (by simp only [sep_emp]; ac_rfl)
        case done =>
          intro D W hS
          have h6 := (hS.cast (show _ = pc bS 22 [vu (sumB s2.cs)] * (mkH (D :: ds) * (pc bM 3 [vi most] * (pc bR 4 [.bool false] * (cxQ L h most s2.cs s2.free * (cyQ [] q most s2.cs s2.times * cxIt it bx g cap ps))))) by show _ = pc bS 22 [vu (sumK s2.cs s2.cs.length)] * ((pt D dmark * mkH ds) * _); simp only [sep_emp]; ac_rfl))
          obtain ⟨b0, b1, b2, b3, b4, b5, b6, b7⟩ := HCA.out _ _ h6
          have s0 := h6.cell 0 rfl
          have H6 := Lib.hid h6
          clear hS h6 HS5 HP hln h32
          subst ha0
          generalize htt : sumB s2.cs = tt at *
          by_cases he : tt = tot
          · have heb : (tt != tot) = false := by simp [he]
            subst he
            go_wp2_with fail
            subst htt
            refine HK.out _ _ ⟨⟨k + 1, s2, D :: ds, _, _, _, _, _, _, _, _, _, _, _, _, _, _, _, _, _, _, _, _, _, _, _, _, _, _, _, _, _, _, _, _, _, _, _, _, _, _, _, _, _, _, _, _, _, _, _, _, _, _, _, _, _, _, _, _, _, _, _, _, _, _, _, _, _, _, _, _, _, _, _, _, _, _, _, _, _, _, _, _, _, _, _, _, _, rfl, by omega, HI2, ?_⟩, ?_⟩
            · obtain ⟨p5, ps5, L5, hL5, hp5, hs5⟩ := cx_open (H6.out.cast (show _ = cxQ L h most s2.cs s2.free * (pc bS 22 [vu (sumB s2.cs)] * (mkH (D :: ds) * (pc bM 3 [vi most] * (pc bR 4 [.bool false] * (cyQ [] q most s2.cs s2.times * cxIt it bx g cap ps))))) by ac_rfl))
              have h9 := cx_shut (L0 := []) (fun y hy => by simp at hy) hp5 hs5
              exact (h9.cast (show _ = pc bS 22 [vu (sumB s2.cs)] * (cxIt it bx g cap ps * (mkH (D :: ds) * (pc bM 3 [vi most] * (pc bR 4 [.bool false] * (cxQ [] h most s2.cs s2.free * (cyQ [] q most s2.cs s2.times * emp)))))) by simp only [sep_emp]; ac_rfl)).dropL.dropL
            · simp [intOf]
              omega
          · have heb : (tt != tot) = true := by simpa using he
            by_cases h1 : x.k = 1
            · have h1b : (x.k != 1) = false := by simp [h1]
              go_wp2_with fail
              subst htt
              refine HK.out _ _ ⟨⟨k + 1, s2, D :: ds, _, _, _, _, _, _, _, _, _, _, _, _, _, _, _, _, _, _, _, _, _, _, _, _, _, _, _, _, _, _, _, _, _, _, _, _, _, _, _, _, _, _, _, _, _, _, _, _, _, _, _, _, _, _, _, _, _, _, _, _, _, _, _, _, _, _, _, _, _, _, _, _, _, _, _, _, _, _, _, _, _, _, _, _, _, rfl, by omega, HI2, ?_⟩, ?_⟩
              · obtain ⟨p5, ps5, L5, hL5, hp5, hs5⟩ := cx_open (H6.out.cast (show _ = cxQ L h most s2.cs s2.free * (pc bS 22 [vu (sumB s2.cs)] * (mkH (D :: ds) * (pc bM 3 [vi most] * (pc bR 4 [.bool false] * (cyQ [] q most s2.cs s2.times * cxIt it bx g cap ps))))) by ac_rfl))
                have h9 := cx_shut (L0 := []) (fun y hy => by simp at hy) hp5 hs5
                exact (h9.cast (show _ = pc bS 22 [vu (sumB s2.cs)] * (cxIt it bx g cap ps * (mkH (D :: ds) * (pc bM 3 [vi most] * (pc bR 4 [.bool false] * (cxQ [] h most s2.cs s2.free * (cyQ [] q most s2.cs s2.times * emp)))))) by simp only [sep_emp]; ac_rfl)).dropL.dropL
              · simp [intOf]
                omega
            · have h7 : x.k = 7 := Classical.byContradiction fun h7 => he (HSS.out h1 h7)
              have h1b : (x.k != 1) = true := by simpa using h1
              have h7b : (x.k != 7) = false := by simp [h7]
              clear h7
              go_wp2_with fail
              subst htt
              refine HK.out _ _ ⟨⟨k + 1, s2, D :: ds, _, _, _, _, _, _, _, _, _, _, _, _, _, _, _, _, _, _, _, _, _, _, _, _, _, _, _, _, _, _, _, _, _, _, _, _, _, _, _, _, _, _, _, _, _, _, _, _, _, _, _, _, _, _, _, _, _, _, _, _, _, _, _, _, _, _, _, _, _, _, _, _, _, _, _, _, _, _, _, _, _, _, _, _, _, rfl, by omega, HI2, ?_⟩, ?_⟩
              · obtain ⟨p5, ps5, L5, hL5, hp5, hs5⟩ := cx_open (H6.out.cast (show _ = cxQ L h most s2.cs s2.free * (pc bS 22 [vu (sumB s2.cs)] * (mkH (D :: ds) * (pc bM 3 [vi most] * (pc bR 4 [.bool false] * (cyQ [] q most s2.cs s2.times * cxIt it bx g cap ps))))) by ac_rfl))
                have h9 := cx_shut (L0 := []) (fun y hy => by simp at hy) hp5 hs5
                exact (h9.cast (show _ = pc bS 22 [vu (sumB s2.cs)] * (cxIt it bx g cap ps * (mkH (D :: ds) * (pc bM 3 [vi most] * (pc bR 4 [.bool false] * (cxQ [] h most s2.cs s2.free * (cyQ [] q most s2.cs s2.times * emp)))))) by simp only [sep_emp]; ac_rfl)).dropL.dropL
              · simp [intOf]
                omega
      · obtain rfl : k = n := by omega
        have hki : ¬ (k : Int) < (k : Int) := by omega
        have HSK := Lib.hid hS
        clear hS
        go_wp2_with (go_at_call 9; refine (known08 _).mono ?_; rintro e w2 ⟨rfl, hb⟩; have h2 := (Sat.after HSK.out hb).cast (show _ = pc bR 4 [.bool false] * (mkH ds * (pc bM 3 [vi most] * (cxQ [] h most s.cs s.free * (cyQ [] q most s.cs s.times * emp)))) by ac_rfl); have z0 := h2.cell 0 rfl; have zf := h2.free 0; have K2 := Lib.hid (h2.store 0 (.bool true)); clear hb h2)
        exact leaves_marks ds _ (K2.out.cast (show _ = mkH ds * (pc bR 4 [.bool true] * (pc bM 3 [vi most] * (cxQ [] h most s.cs s.free * (cyQ [] q most s.cs s.times * emp)))) by simp only [List.set_cons_zero]; ac_rfl)) (fun w' h' => by
          have hc := h'.cell 0 rfl
          exact ⟨.bool true, by simp [results, Try.f4, go_sem, hc], rfl, h'.below⟩)
end Go.Proofs.Ytknodagcmachiaa.Cn
