/-
  Chapter 16: gtable's Live and At. No statement is proved here.
-/
import Derived.Test.YtffjckdaekamgaaGt9
import Derived.Test.YtffjckdaekamgaaGa9
import Derived.Test.YtffjckdaekamgaaGa7
import Derived.Test.YtffjckdaekamgaaGn3
namespace Go.Proofs.Ytffjckdaekamgaa.Gt
open Go.RowKit Ag
set_option linter.unusedVariables false
set_option linter.unusedSimpArgs false

section
variable {w0 w : World} {F : Hp} {h p : Nat} {ps : List Pl} {free : List Nat}
theorem gt_live (hS : Sat w0 (gtB h p * (tblP p ps free * F)) w) (hsm : ps.length ≤ 4096) : Calls Try.prog 35 #[vp h] w fun e w' => e = .returned (vi (Ag.seen ps ps.length).length) ∧ Sat w0 (gtB h p * (tblP p ps free * F)) w' := by
  have c0 := hS.cell 0 rfl
  have HN := Lib.hid (gt_none hS)
  have HL := Lib.hid (da_len hS.pull2 hsm)
  clear hS
  go_enter Try.func35, Try.ntmps35
  go_wp2_with (first
    | (go_at_call 30; (with_reducible refine HN.out.mono ?_); rintro e w1 ⟨rfl, rfl⟩)
    | (go_at_call 48; (with_reducible refine HL.out.mono ?_); rintro e w1 ⟨rfl, hS1⟩))
  go_ret
  exact ⟨rfl, hS1.pull2⟩
set_option maxRecDepth 100000 in
set_option maxHeartbeats 4000000 in
theorem gt_at (hS : Sat w0 (gtB h p * (tblP p ps free * F)) w) (i : Int) : Calls Try.prog 38 #[vp h, vi i] w fun e w' => e = .returned (.tuple #[vr (atR ps i).1 (atR ps i).2.1, .bool (atR ps i).2.2]) ∧ Sat w0 (gtB h p * (tblP p ps free * F)) w' := by
  have hB : Sat w0 (pc w.heap.size 25 [vi 0, vu 0] * (gtB h p * (tblP p ps free * F))) (w.alloc (.cells #[vi 0, vu 0] 25)) := hS.alloc _
  have c0 := hB.pull2.cell 0 rfl
  have HN := Lib.hid (gt_none hB.pull2)
  have HL := Lib.hid (da_at hB.pull3 i)
  clear hS hB
  generalize (atR ps i).1 = xi at *
  generalize (atR ps i).2.1 = xg at *
  generalize (atR ps i).2.2 = xb at *
  go_enter Try.func38, Try.ntmps38
  go_wp2_with (first
    | (go_at_call 30; (with_reducible refine HN.out.mono ?_); rintro e w1 ⟨rfl, rfl⟩)
    | (go_at_call 50; (with_reducible refine HL.out.mono ?_); rintro e w1 ⟨rfl, hS1⟩; have b0 := hS1.pull2.cell 0 rfl; have b1 := hS1.pull2.cell 1 rfl; have f0 := hS1.pull2.free 0; have f1 := hS1.pull2.free 1; have hst := (hS1.pull2.store 0 (vi xi)).store 1 (vu xg); have o0 := hst.cell 0 rfl; have o1 := hst.cell 1 rfl; have HST := Lib.hid hst; clear hS1 hst))
  (try simp only [Exit.inBlock, Exit.then])
  refine bodyPost_ret (v := .tuple #[vr xi xg, .bool xb]) (by rw [results_cell_tmp rfl]; go_simp) rfl ?_
  exact ⟨rfl, HST.out.dropL.pull2⟩
end
end Go.Proofs.Ytffjckdaekamgaa.Gt

namespace Go.Proofs.Ytffjckdaekamgaa.Gt
open Go.RowKit Ag
set_option linter.unusedVariables false
set_option linter.unusedSimpArgs false

/-- Those of a state. -/
def ofL (l : List (Nat × Int × El)) (st : Int) : List (Int × Int) := l.filterMap fun y => if y.2.2.v0 = st then some ((y.1 : Int), y.2.1) else none
theorem ofL_snoc (l : List (Nat × Int × El)) (y : Nat × Int × El) (st : Int) : ofL (l ++ [y]) st = ofL l st ++ if y.2.2.v0 = st then [((y.1 : Int), y.2.1)] else [] := by
  unfold ofL
  rw [List.filterMap_append]
  congr 1
  by_cases h : y.2.2.v0 = st <;> simp [h]
theorem ofL_len (l : List (Nat × Int × El)) (st : Int) : (ofL l st).length ≤ l.length := List.length_filterMap_le _ _
theorem tkinfo : (Try.prog.info? 50).map (·.size) = some 21 := by kernel_rfl
theorem pdC_len (y : Nat × Int × El) : (pdC y).length = 21 := rfl
theorem slRangeT {T : TypeId} {g n cap k : Nat} {l : List (Nat × Int × El)} {y : Nat × Int × El} {F : Hp} {w0 w : World} (h : Sat w0 (sl T 21 (.slice (some ⟨g, 0, none⟩) n cap) n (fpd l) * F) w) (hk : l[k]? = some y) : w.rangeAt g (k * 21) (pdC y) := fun j v hv =>
  h.slCell (k * 21 + j) (flat_get (f := pdC) (N := 21) (fun _ => rfl) hk hv)
section
variable {w0 w : World} {F : Hp} {h p : Nat} {ps : List Pl} {free : List Nat}
set_option maxRecDepth 100000 in
set_option maxHeartbeats 4000000 in
theorem of_one (y : Nat × Int × El) (st : Int) {bs : Nat} (hS : Sat w0 (pc bs 22 [vi st] * F) w) : Calls Try.prog 52 #[.agg (pdC y).toArray, vp bs] w fun e w' => e = .returned (.tuple #[vr y.1 y.2.1, .bool (y.2.2.v0 == st)]) ∧ Sat w0 (pc bs 22 [vi st] * F) w' := by
  obtain ⟨cs, hcs⟩ : ∃ cs, cs = pdC y := ⟨_, rfl⟩
  rw [← hcs]
  have hA0 : Sat w0 (pc w.heap.size 50 (cs) * (pc bs 22 [vi st] * F)) (w.alloc (.cells (cs).toArray 50)) := hS.alloc _
  have hB0 := hA0.alloc (.cells #[vi 0, vu 0] 25)
  rw [Ag.size1] at hB0
  have hB : Sat w0 (pc (w.heap.size + 1) 25 [vi 0, vu 0] * (pc w.heap.size 50 (cs) * (pc bs 22 [vi st] * F))) ((w.alloc (.cells (cs).toArray 50)).alloc (.cells #[vi 0, vu 0] 25)) := hB0
  have t0 : World.cell? _ ⟨w.heap.size, 0, none⟩ = some (vi y.1) := hB.pull2.cell 0 (by rw [hcs]; rfl)
  have t1 : World.cell? _ ⟨w.heap.size, 1, none⟩ = some (vu y.2.1) := hB.pull2.cell 1 (by rw [hcs]; rfl)
  have t2 : World.cell? _ ⟨w.heap.size, 2, none⟩ = some (vi y.2.2.v0) := hB.pull2.cell 2 (by rw [hcs]; rfl)
  have s0 := hB.pull3.cell 0 rfl
  have b0 := hB.cell 0 rfl
  have b1 := hB.cell 1 rfl
  have f0 := hB.free 0
  have f1 := hB.free 1
  have hst := ((hB.store 0 (vi y.1)).store 1 (vu y.2.1)).drew
  have HST := Lib.hid hst
  have HB := Lib.hid hB
  have T0 : cs[0]? = some (vi y.1) := by rw [hcs]; rfl
  have T1 : cs[1]? = some (vu y.2.1) := by rw [hcs]; rfl
  have T2 : cs[2]? = some (vi y.2.2.v0) := by rw [hcs]; rfl
  clear hS hA0 hB0 hB hst hcs
  go_enter Try.func52, Try.ntmps52
  go_upto_region 1 with fail
  generalize ((w.alloc (.cells (cs).toArray 50)).alloc (.cells #[vi 0, vu 0] 25)) = W1 at *
  generalize w.heap.size + 1 = bB at *
  generalize w.heap.size = bA at *
  have m0 : World.cell? _ ⟨bA, 0, none⟩ = some (vi y.1) := HST.out.pull2.cell 0 T0
  have m1 : World.cell? _ ⟨bA, 1, none⟩ = some (vu y.2.1) := HST.out.pull2.cell 1 T1
  have m2 : World.cell? _ ⟨bA, 2, none⟩ = some (vi y.2.2.v0) := HST.out.pull2.cell 2 T2
  have m3 := HST.out.pull3.cell 0 rfl
  go_region_held3 (fun w' => w'.cell? ⟨bA, 0, none⟩ = some (vi y.1) ∧ w'.cell? ⟨bA, 1, none⟩ = some (vu y.2.1) ∧ w'.cell? ⟨bA, 2, none⟩ = some (vi y.2.2.v0) ∧ w'.cell? ⟨bs, 0, none⟩ = some (vi st))
    (first | exact ⟨t0, t1, t2, s0⟩ | exact ⟨m0, m1, m2, m3⟩ | go_keep)
    (fail)
  have o0 := HST.out.cell 0 rfl
  have o1 := HST.out.cell 1 rfl
  go_wp2_with fail
  (try simp only [Exit.inBlock, Exit.then])
  refine bodyPost_ret (v := .tuple #[vr y.1 y.2.1, .bool (y.2.2.v0 == st)]) (by rw [results_cell_tmp rfl]; go_simp) rfl ?_
  exact ⟨rfl, HST.out.dropL.dropL⟩
set_option maxRecDepth 100000 in
set_option maxHeartbeats 4000000 in
theorem pick_of {l : List (Nat × Int × El)} {v : Value} {bs : Nat} {st : Int} (hS : Sat w0 (sl 50 21 v l.length (fpd l) * (pc bs 22 [vi st] * F)) w) (hl : l.length ≤ 64) :
    Calls Try.prog 51 #[v, .func (.func 52) #[] #[vp bs]] w fun e w' => ∃ vo, e = .returned vo ∧ Sat w0 (sl 25 2 vo (ofL l st).length (frefs (ofL l st)) * (sl 50 21 v l.length (fpd l) * (pc bs 22 [vi st] * F))) w' := by
  obtain ⟨ao, acap, rfl⟩ := hS.rd.len
  have H0 : Hid (Sat w0 (sl 25 2 (.slice none 0 0) (ofL (l.take 0) st).length (frefs (ofL (l.take 0) st)) * (sl 50 21 (.slice ao l.length acap) l.length (fpd l) * (pc bs 22 [vi st] * F))) w) := Lib.hid (hS.addNil 25 2)
  clear hS
  go_enter Try.func51, Try.ntmps51
  go_wp2_with fail
  go_loopw [4, 11] (fun vo ix wr => ∃ j : Nat, j ≤ l.length ∧ ix = vi j ∧ Sat w0 (sl 25 2 vo (ofL (l.take j) st).length (frefs (ofL (l.take j) st)) * (sl 50 21 (.slice ao l.length acap) l.length (fpd l) * (pc bs 22 [vi st] * F))) wr) (fun _ ix _ => l.length - (intOf ix).toNat)
  case atStart => exact ⟨0, Nat.zero_le _, rfl, H0.out⟩
  case round =>
    obtain ⟨j, hj, rfl, hS⟩ := hrel
    clear H0
    obtain ⟨oo, ocap, rfl⟩ := hS.rd.len
    by_cases hjl : j < l.length
    · have hji : (j : Int) < (l.length : Int) := by omega
      obtain ⟨ga, rfl⟩ : ∃ ga, ao = some ⟨ga, 0, none⟩ := by
        rcases hS.pull2.slE.2 with ⟨_, h0, _⟩ | ⟨g', c', cur, hv, _⟩
        · omega
        · injection hv with h1 h2 h3
          exact ⟨g', h1⟩
      obtain ⟨y, hy⟩ : ∃ y, l[j]? = some y := ⟨l[j], List.getElem?_eq_getElem hjl⟩
      have HRg := Lib.hid (slRangeT hS.pull2 hy)
      have HTake : Hid (ofL (l.take (j + 1)) st = ofL (l.take j) st ++ if y.2.2.v0 = st then [((y.1 : Int), y.2.1)] else []) := Lib.hid (by
        rw [List.take_add_one, hy]
        exact ofL_snoc _ _ _)
      have hlen := ofL_len (l.take j) st
      rw [List.length_take] at hlen
      have hlen2 : (ofL (l.take j) st).length ≤ 64 := by omega
      generalize ofL (l.take j) st = ol at *
      obtain ⟨cs, hcs⟩ : ∃ cs, cs = pdC y := ⟨_, rfl⟩
      have hlc : cs.length = 21 := by rw [hcs]; rfl
      have hone : cs.toArray.all (·.oneCell') = true := by rw [hcs]; exact all_oneCell_toArray (pd_one y)
      have hinfo : (Try.prog.info? 50).map (·.size) = some cs.length := by rw [hlc]; exact tkinfo
      have HOf : Hid (∀ (w1 : World) (G : Hp), Sat w0 (pc bs 22 [vi st] * G) w1 → Calls Try.prog 52 #[.agg cs.toArray, vp bs] w1 fun e w' => e = .returned (.tuple #[vr y.1 y.2.1, .bool (y.2.2.v0 == st)]) ∧ Sat w0 (pc bs 22 [vi st] * G) w') := Lib.hid fun w1 G h1 => by
        rw [hcs]
        exact of_one y st h1
      rw [← hcs] at HRg
      have hA : Sat w0 (pc wr.heap.size 50 (vi 0 :: vu 0 :: elC ez) * (sl 25 2 (.slice oo ol.length ocap) ol.length (frefs ol) * (sl 50 21 (.slice (some ⟨ga, 0, none⟩) l.length acap) l.length (fpd l) * (pc bs 22 [vi st] * F)))) (wr.alloc (.cells (vi 0 :: vu 0 :: elC ez).toArray 50)) := hS.alloc _
      have hth := there_ (n := 21) hA rfl
      rw [← hlc] at hth
      have HTh := Lib.hid hth
      have hst := hA.stores cs 0
      rw [setL_all (vi 0 :: vu 0 :: elC ez) cs (by rw [hlc]; rfl)] at hst
      have HST : Hid (Sat w0 (pc wr.heap.size 50 cs * (sl 25 2 (.slice oo ol.length ocap) ol.length (frefs ol) * (sl 50 21 (.slice (some ⟨ga, 0, none⟩) l.length acap) l.length (fpd l) * (pc bs 22 [vi st] * F)))) _) := Lib.hid hst
      have HRg2 := Lib.hid (range_ hst)
      clear hS hA hst hy hcs hlen hth
      by_cases hv : y.2.2.v0 = st
      · rw [if_pos hv] at HTake
        have hvb : (y.2.2.v0 == st) = true := beq_iff_eq.2 hv
        rw [hvb] at HOf
        clear hv hvb
        go_wp2_with (first
          | (refine wpList_load_mid rfl 50 _ rfl ga (j * 21) (by rfl) cs _ HRg.out Try.underlying50 rfl hinfo ?_)
          | (refine wpList_store_mid rfl 50 _ _ rfl wr.heap.size 0 cs.toArray (by rfl) (by rfl) HTh.out hinfo hone ?_)
          | (refine wpList_load_mid rfl 50 _ rfl wr.heap.size 0 (by rfl) cs _ HRg2.out Try.underlying50 rfl hinfo ?_)
          | (go_at_call 52; (with_reducible refine (HOf.out _ _ (HST.out.pull4)).mono ?_); rintro e w5 ⟨rfl, hS5⟩; have H6 : Hid (Sat w0 (sl 25 2 (.slice oo ol.length ocap) ol.length (frefs ol) * (sl 50 21 (.slice (some ⟨ga, 0, none⟩) l.length acap) l.length (fpd l) * (pc bs 22 [vi st] * F))) w5) := Lib.hid (hS5.cast (show _ = pc wr.heap.size 50 cs * (sl 25 2 (.slice oo ol.length ocap) ol.length (frefs ol) * (sl 50 21 (.slice (some ⟨ga, 0, none⟩) l.length acap) l.length (fpd l) * (pc bs 22 [vi st] * F))) by ac_rfl)).dropL; clear hS5)
          | (at_builtin; refine wpList_append_sl Eref rfl (.tmp 22) (.tmp 24) rfl (by rfl) ((H6.out.alloc' _).alloc' _) (by rfl) (rdTwo _ _ (vi y.1) (vu y.2.1) (by simp)) (by simp [Value.oneCell']) (by unfold maxLen; omega) (by omega) ?_; intro ao7 cap7 w7 hS7; have H7 := Lib.hid hS7; clear hS7))
        go_roundw
        case rel =>
          refine ⟨j + 1, by omega, by go_num, ?_⟩
          rw [HTake.out, frefs_snoc, List.length_append, List.length_singleton]
          exact H7.out
        case measure => (simp [intOf]; try omega)
      · rw [if_neg hv, List.append_nil] at HTake
        have hvb : (y.2.2.v0 == st) = false := beq_eq_false_iff_ne.2 hv
        rw [hvb] at HOf
        clear hv hvb
        go_wp2_with (first
          | (refine wpList_load_mid rfl 50 _ rfl ga (j * 21) (by rfl) cs _ HRg.out Try.underlying50 rfl hinfo ?_)
          | (refine wpList_store_mid rfl 50 _ _ rfl wr.heap.size 0 cs.toArray (by rfl) (by rfl) HTh.out hinfo hone ?_)
          | (refine wpList_load_mid rfl 50 _ rfl wr.heap.size 0 (by rfl) cs _ HRg2.out Try.underlying50 rfl hinfo ?_)
          | (go_at_call 52; (with_reducible refine (HOf.out _ _ (HST.out.pull4)).mono ?_); rintro e w5 ⟨rfl, hS5⟩; have H6 : Hid (Sat w0 (sl 25 2 (.slice oo ol.length ocap) ol.length (frefs ol) * (sl 50 21 (.slice (some ⟨ga, 0, none⟩) l.length acap) l.length (fpd l) * (pc bs 22 [vi st] * F))) w5) := Lib.hid (hS5.cast (show _ = pc wr.heap.size 50 cs * (sl 25 2 (.slice oo ol.length ocap) ol.length (frefs ol) * (sl 50 21 (.slice (some ⟨ga, 0, none⟩) l.length acap) l.length (fpd l) * (pc bs 22 [vi st] * F))) by ac_rfl)).dropL; clear hS5))
        go_roundw
        case rel =>
          refine ⟨j + 1, by omega, by go_num, ?_⟩
          rw [HTake.out]
          exact H6.out.alloc' _
        case measure => (simp [intOf]; try omega)
    · obtain rfl : j = l.length := by omega
      have HS := Lib.hid hS
      clear hS
      go_wp2_with fail
      go_ret
      refine ⟨_, rfl, ?_⟩
      have h9 := HS.out
      simp only [List.take_length] at h9 ⊢
      exact h9
set_option maxRecDepth 100000 in
set_option maxHeartbeats 4000000 in
theorem gt_of (hS : Sat w0 (gtB h p * (tblP p ps free * F)) w) (hsm : ps.length ≤ 64) (st : Int) : Calls Try.prog 39 #[vp h, vi st] w fun e w' => ∃ vo, e = .returned vo ∧ Sat w0 (sl 25 2 vo (ofL (Ag.seen ps ps.length) st).length (frefs (ofL (Ag.seen ps ps.length) st)) * (gtB h p * (tblP p ps free * F))) w' := by
  have hB : Sat w0 (pc w.heap.size 22 [vi st] * (gtB h p * (tblP p ps free * F))) (w.alloc (.cells #[vi st] 22)) := hS.alloc _
  have HAl := Lib.hid (gt_all (hB.cast (show _ = gtB h p * (tblP p ps free * (pc w.heap.size 22 [vi st] * F)) by ac_rfl)) (by omega))
  have hlen : (Ag.seen ps ps.length).length ≤ 64 := Nat.le_trans (Ag.seen_len ps _) hsm
  clear hS hB
  generalize Ag.seen ps ps.length = l at *
  go_enter Try.func39, Try.ntmps39
  go_wp2_with (first
    | (go_at_call 14; (with_reducible refine HAl.out.mono ?_); rintro e w1 ⟨vA, rfl, hS1⟩; have HPk := Lib.hid (pick_of (hS1.cast (show _ = sl 50 21 vA l.length (fpd l) * (pc w.heap.size 22 [vi st] * (gtB h p * (tblP p ps free * F))) by ac_rfl)) hlen); clear hS1)
    | (go_at_call 51; (with_reducible refine HPk.out.mono ?_); rintro e w2 ⟨vo, rfl, hS2⟩; have H2 := Lib.hid hS2; clear hS2))
  go_ret
  exact ⟨vo, rfl, (H2.out.cast (show _ = sl 50 21 vA l.length (fpd l) * (pc w.heap.size 22 [vi st] * (sl 25 2 vo (ofL l st).length (frefs (ofL l st)) * (gtB h p * (tblP p ps free * F)))) by ac_rfl)).dropL.dropL⟩
end
end Go.Proofs.Ytffjckdaekamgaa.Gt

namespace Go.Proofs.Ytffjckdaekamgaa.Gt
open Go.RowKit Go.Shelf Ag
set_option linter.unusedVariables false
set_option linter.unusedSimpArgs false

attribute [local go_sem] Oper.semAt_some
theorem wpListIn_make_sl {G : Fence} {nf : Nat} {P : Program} {w0 w : World} {F : Hp} {ops : Array Oper} {rest : List Oper} {o : Oper} {a : Act} {Q : Exit → Act → World → Prop} {t e : TypeId} {size bytes : Nat} {z : Value} (E : SlT P t e size bytes z) (hgd : o.guard = none) (l c : Operand)
    (ho : o.op = Op.makeSlice t l c) (kl kc : IntKind) (L C : Int) (n m : Nat) (hl : a.eval l = .int kl L) (hc : a.eval c = .int kc C) (eL : L = n) (eC : C = m) (c1 : n ≤ m) (hC : bytes * m ≤ 281474976710656) (h63 : m ≤ 9223372036854775807)
    (hS : Sat w0 F w)
    (h : ∀ g w', Sat w0 (pc g e (madeCells z.cells (m * size)).toList * F) w' → wpListIn G nf P ops Q rest (a.put o.dst (.slice (some ⟨g, 0, none⟩) n m)) w') : wpListIn G nf P ops Q (o :: rest) a w := by
  refine wpListIn_plain hgd fun K hK => ?_
  obtain ⟨i, hi, hz, rfl, rfl⟩ := E.info
  subst eL
  subst eC
  have hb : (i.bytes : Int) * (m : Int) ≤ 281474976710656 := by
    have h : ((i.bytes * m : Nat) : Int) ≤ 281474976710656 := by omega
    rwa [Int.natCast_mul] at h
  have hr := run_make (P := P) w t e i z E.und hi hz kl kc n m (by omega) (by omega) hb (by omega)
  unfold Oper.wpIn
  refine ⟨?_, ?_⟩
  · simp [Oper.about, ho]
  · rw [Oper.semAt_plain G _ _ (by rw [ho]; intro c hc'; cases hc')]
    simp [execOp, ho, hl, hc, hr, Result.andThen]
    exact hK _ _ (h _ _ ((hS.alloc _).cast (by simp [pc])))
theorem made_u8 (n : Nat) : (madeCells (Value.int .u8 0).cells (n * 1)).toList = List.replicate n (.int .u8 0) := by
  refine List.ext_getElem? fun i => ?_
  simp only [madeCells, Value.cells, Array.toList_map, Array.toList_range, List.getElem?_map, List.getElem?_replicate]
  by_cases h : i < n
  · simp [h, Nat.mod_one]
  · simp [h]
theorem Eu8 : SlT Try.prog 89 5 1 1 (.int .u8 0) := SlT.mk' Try.underlying89 (by kernel_rfl) rfl (by decide)
/-- Affinities, as they have been written so far. -/
def affL (n : Nat) (l : List (Nat × Int × El)) : List Value := l.foldl (fun a y => a.set y.1 (.int .u8 y.2.2.v6)) (List.replicate n (.int .u8 0))
theorem affL_snoc (n : Nat) (l : List (Nat × Int × El)) (y : Nat × Int × El) : affL n (l ++ [y]) = (affL n l).set y.1 (.int .u8 y.2.2.v6) := by
  unfold affL
  rw [List.foldl_append]
  rfl
theorem affL_len (n : Nat) : ∀ l : List (Nat × Int × El), (affL n l).length = n := by
  intro l
  unfold affL
  generalize hb : List.replicate n (Value.int .u8 0) = b
  have hl : b.length = n := by rw [← hb]; simp
  clear hb
  induction l generalizing b with
  | nil => exact hl
  | cons y l ih =>
    rw [List.foldl_cons]
    exact ih _ (by rw [List.length_set]; exact hl)
abbrev affP (ps : List Pl) : List Value := ps.map fun a => .int .u8 a.x.v6
theorem affL_seen (ps : List Pl) (hg : ∀ (k : Nat) (a : Pl), ps[k]? = some a → a.there = false → a.x = ez) : ∀ k, k ≤ ps.length → affL ps.length (Ag.seen ps k) = affP (ps.take k) ++ List.replicate (ps.length - k) (.int .u8 0)
  | 0, _ => by simp [Ag.seen, affL, affP]
  | k + 1, hk => by
    have ih := affL_seen ps hg k (by omega)
    obtain ⟨a, ha⟩ : ∃ a, ps[k]? = some a := ⟨ps[k], List.getElem?_eq_getElem (by omega)⟩
    have hrep : List.replicate (ps.length - k) (Value.int .u8 0) = .int .u8 0 :: List.replicate (ps.length - (k + 1)) (.int .u8 0) := by
      rw [← List.replicate_succ]
      congr 1
      omega
    have htk : affP (ps.take (k + 1)) = affP (ps.take k) ++ [.int .u8 a.x.v6] := by
      unfold affP
      rw [List.take_add_one, ha, List.map_append]
      rfl
    have hlk : (affP (ps.take k)).length = k := by simp [affP]; omega
    cases ht : a.there with
    | true =>
      rw [Ag.seen_yes ha ht, affL_snoc, ih, htk, hrep, List.append_assoc, List.set_append_right _ _ (by omega), hlk, Nat.sub_self]
      rfl
    | false =>
      have hz := hg k a ha ht
      rw [Ag.seen_no ha ht, ih, htk, hrep, List.append_assoc, hz]
      rfl
theorem affL_all (ps : List Pl) (hg : ∀ (k : Nat) (a : Pl), ps[k]? = some a → a.there = false → a.x = ez) : affL ps.length (Ag.seen ps ps.length) = affP ps := by
  rw [affL_seen ps hg ps.length (Nat.le_refl _), List.take_length, Nat.sub_self]
  simp
abbrev afH (bo go : Nat) (ps : List Pl) (F : Hp) (l : List (Nat × Int × El)) : Hp := pc bo 89 [.slice (some ⟨go, 0, none⟩) ps.length ps.length] * (sl 5 1 (.slice (some ⟨go, 0, none⟩) ps.length ps.length) ps.length (affL ps.length l) * F)
section
variable {w0 w : World} {F : Hp} {d p : Nat} {ps : List Pl} {free : List Nat}
set_option maxRecDepth 100000 in
set_option maxHeartbeats 4000000 in
theorem gt_aff (hS : Sat w0 (gtB d p * (tblP p ps free * F)) w) (hsm : ps.length ≤ 64) (hpos : 1 ≤ ps.length) :
    Calls Try.prog 36 #[vp d] w fun e w' => ∃ go, e = .returned (.slice (some ⟨go, 0, none⟩) ps.length ps.length) ∧ Sat w0 (sl 5 1 (.slice (some ⟨go, 0, none⟩) ps.length ps.length) ps.length (affL ps.length (Ag.seen ps ps.length)) * (gtB d p * (tblP p ps free * F))) w' := by
  have c0 := hS.cell 0 rfl
  have HN := Lib.hid (gt_none hS)
  have HSz := Lib.hid (da_size hS.pull2)
  clear hS
  refine (callsIn_wide (n := 9)).1 ?_
  refine callsIn_of_wp_marks Try.func36 rfl trivial ?_ rfl
  simp only [Try.ntmps36, List.size_toArray, List.length_cons, List.length_nil, Nat.reduceAdd, Nat.reduceSub, Array.replicate_succ, Array.replicate_zero, List.push_toArray, List.append_toArray, List.nil_append, List.cons_append]
  gi_wp2_with fail
  refine ⟨trivial, ?_⟩
  refine (callsIn_wide.2 HN.out).mono ?_
  rintro e w' ⟨rfl, rfl⟩
  gi_wp2_with fail
  refine ⟨trivial, ?_⟩
  refine (callsIn_wide.2 HSz.out).mono ?_
  rintro e w1 ⟨rfl, hS1⟩
  have H1 := Lib.hid hS1.pull2
  clear hS1 c0
  gi_wp2_with (gi_at_make; refine wpListIn_make_sl Eu8 rfl _ _ rfl .i64 .i64 ps.length ps.length ps.length ps.length rfl rfl rfl rfl (by omega) (by omega) (by omega) H1.out ?_; intro go w2 hM; have hM2 : Sat w0 (sl 5 1 (.slice (some ⟨go, 0, none⟩) ps.length ps.length) ps.length (affL ps.length []) * (gtB d p * (tblP p ps free * F))) w2 := (hM.cast (show _ = pc go 5 (List.replicate ps.length (.int .u8 0)) * (gtB d p * (tblP p ps free * F)) by rw [made_u8])).slI (Nat.le_refl _) (by unfold maxLen; omega) (by simp) (List.take_of_length_le (by simp)); have hM3 : Sat w0 (pc w2.heap.size 89 [.slice (some ⟨go, 0, none⟩) ps.length ps.length] * (sl 5 1 (.slice (some ⟨go, 0, none⟩) ps.length ps.length) ps.length (affL ps.length []) * (gtB d p * (tblP p ps free * F)))) (w2.alloc (.cells #[.slice (some ⟨go, 0, none⟩) ps.length ps.length] 89)) := hM2.alloc _; have c0 := hM3.pull3.cell 0 rfl; have HM := Lib.hid hM3; clear hM hM2 hM3)
  have HAl := Lib.hid (da_all HM.out.pull4)
  generalize hbo : w2.heap.size = bo at *
  refine ⟨trivial, ?_⟩
  refine (callsIn_wide.2 HAl.out).mono ?_
  rintro e w3 ⟨bx, g, cap, rfl, hS⟩
  have h1 : Sat w0 (Ag.itP bx (.slice (some ⟨g, 0, none⟩) ps.length cap) ps * afH bo go ps (gtB d p * (tblP p ps free * F)) []) w3 := hS.cast (by
    show _ = _ * (pc bo 89 [.slice (some ⟨go, 0, none⟩) ps.length ps.length] * _)
    ac_rfl)
  have H3 := Lib.hid h1
  clear hS h1 c0 HM HAl HN HSz H1 hbo
  gi_wp2
  refine Ag.wpIn_act ?_
  intro a0 ha0
  refine wpIn_range_sat (H' := Ag.itP bx (.slice (some ⟨g, 0, none⟩) ps.length cap) ps * afH bo go ps (gtB d p * (tblP p ps free * F)) (Ag.seen ps ps.length)) rfl (by omega) (gf := 47) (lb := #[vp bx]) (by rw [ha0]; rfl) trivial (enters_of Try.func47 (by kernel_rfl) rfl) H3.out ?call ?done
  case call =>
    intro fn ll DD R W hfn hR hS
    have hS : Sat w0 (Ag.itP bx (.slice (some ⟨g, 0, none⟩) ps.length cap) ps * (afH bo go ps (gtB d p * (tblP p ps free * F)) [] * (pt ll R * pt DD dmark))) W := hS.cast (by ac_rfl)
    refine (Ag.da_all1 8 (by omega) (by omega) (fun l => afH bo go ps (gtB d p * (tblP p ps free * F)) l * (pt ll R * pt DD dmark)) bx g cap ll ?_ hS).mono ?_
    · intro k a W2 F2 hk hth hS2
      have hkn : k < ps.length := (List.getElem?_eq_some_iff.1 hk).1
      have hki : (k : Int) < (ps.length : Int) := by omega
      clear hS hk
      obtain ⟨gen, there, retired, x⟩ := a
      dsimp only at hS2 ⊢
      generalize hl : Ag.seen ps k = l at *
      have h3 : Sat w0 (pt ll R * (pc bo 89 [.slice (some ⟨go, 0, none⟩) ps.length ps.length] * (sl 5 1 (.slice (some ⟨go, 0, none⟩) ps.length ps.length) ps.length (affL ps.length l) * (Ag.itP bx (.slice (some ⟨g, 0, none⟩) ps.length cap) ps * ((gtB d p * (tblP p ps free * F)) * (pt DD dmark * F2)))))) W2 := hS2.cast (by unfold afH; ac_rfl)
      have H3 := Lib.hid h3
      have h40 := (h3.alloc (.cells #[vi k, vu gen] 25)).alloc (elO ez)
      rw [Ag.size1] at h40
      have h40 : Sat w0 (pc (W2.heap.size + 1) 29 (elC ez) * _) _ := h40
      have HTh := Lib.hid (there_ (n := 19) h40 rfl)
      have h4' := h40.stores (elC x) 0
      rw [setL_all (elC ez) (elC x) rfl] at h4'
      have h4 : Sat w0 (elB (W2.heap.size + 1) x * (pc W2.heap.size 25 [vi k, vu gen] * (pt ll R * (pc bo 89 [.slice (some ⟨go, 0, none⟩) ps.length ps.length] * (sl 5 1 (.slice (some ⟨go, 0, none⟩) ps.length ps.length) ps.length (affL ps.length l) * (Ag.itP bx (.slice (some ⟨g, 0, none⟩) ps.length cap) ps * ((gtB d p * (tblP p ps free * F)) * (pt DD dmark * F2)))))))) (World.setCells ((W2.alloc (.cells #[vi k, vu gen] 25)).alloc (elO ez)) (W2.heap.size + 1) 0 (elC x)) := h4'
      have h4 : Sat w0 (pt ll R * (pc W2.heap.size 25 [vi k, vu gen] * (elB (W2.heap.size + 1) x * (pc bo 89 [.slice (some ⟨go, 0, none⟩) ps.length ps.length] * (sl 5 1 (.slice (some ⟨go, 0, none⟩) ps.length ps.length) ps.length (affL ps.length l) * (Ag.itP bx (.slice (some ⟨g, 0, none⟩) ps.length cap) ps * ((gtB d p * (tblP p ps free * F)) * (pt DD dmark * F2)))))))) (World.setCells ((W2.alloc (.cells #[vi k, vu gen] 25)).alloc (elO ez)) (W2.heap.size + 1) 0 (elC x)) := h4.cast (by ac_rfl)
      have H4 := Lib.hid h4
      clear hS2 h3 h40 h4' h4
      have hY := yield_sat (P := Try.prog) (G := Fence.wide) (n := 8 - 1) (args := #[vr k gen, ev x]) (X' := Ag.itP bx (.slice (some ⟨g, 0, none⟩) ps.length cap) ps * (afH bo go ps (gtB d p * (tblP p ps free * F)) (l ++ [(k, gen, x)]) * (pt DD dmark * F2)))
        (A := fun a' W' => a' = { tmps := (((a0.tmps.setIfInBounds 19 (vr k gen)).setIfInBounds 20 (ev x)).setIfInBounds 4 (.pointer (some ⟨W2.heap.size, 0, none⟩))).setIfInBounds 5 (.pointer (some ⟨W2.heap.size + 1, 0, none⟩)), defers := [] } ∧ W' = World.setCells ((W2.alloc (.cells #[vi k, vu gen] 25)).alloc (elO ez)) (W2.heap.size + 1) 0 (elC x)) hfn rfl hR H3.out ?ha ?assign ?body
      case ha =>
        rintro a' W' ⟨_, rfl⟩
        exact H4.out.blk.1
      case assign =>
        intro K hK
        have HK := Lib.hid hK
        clear hK hR
        subst ha0
        gi_wp2_with (refine wpListIn_store_mid rfl 29 _ _ rfl (W2.heap.size + 1) 0 (elC x).toArray (by rfl) (by rfl) HTh.out einfo (all_oneCell_toArray (elOne x)) ?_)
        exact HK.out _ _ ⟨by simp, rfl⟩
      case body =>
        rintro B a' W' ⟨rfl, rfl⟩
        have h5 : Sat w0 (pt ll B * _) _ := H4.out.putObj (o' := B)
        have p0 := h5.pull2.cell 0 rfl
        have q6 := h5.pull3.cell 6 rfl
        have o0 := h5.pull4.cell 0 rfl
        have h6 := h5.cast (show _ = sl 5 1 (.slice (some ⟨go, 0, none⟩) ps.length ps.length) ps.length (affL ps.length l) * (pt ll B * (pc W2.heap.size 25 [vi k, vu gen] * (elB (W2.heap.size + 1) x * (pc bo 89 [.slice (some ⟨go, 0, none⟩) ps.length ps.length] * (Ag.itP bx (.slice (some ⟨g, 0, none⟩) ps.length cap) ps * ((gtB d p * (tblP p ps free * F)) * (pt DD dmark * F2))))))) by ac_rfl)
        have s0 := h6.slCell k (List.getElem?_eq_getElem (by rw [affL_len]; exact hkn))
        have s1 := h6.slFree k
        have h7 := h6.slStore k (by omega) (.int .u8 x.v6)
        rw [← affL_snoc ps.length l (k, gen, x)] at h7
        have H7 := Lib.hid h7
        clear h5 hR h6 h7
        subst ha0
        simp only [List.setIfInBounds_toArray, List.set_cons_succ, List.set_cons_zero]
        generalize (World.putObj (World.setCells ((W2.alloc (.cells #[vi k, vu gen] 25)).alloc (elO ez)) (W2.heap.size + 1) 0 (elC x)) ll B) = W3 at *
        generalize W2.heap.size = ba at *
        gi_wp2
        exact (H7.out.cast (show _ = elB (ba + 1) x * (pc ba 25 [vi k, vu gen] * (pt ll B * (Ag.itP bx (.slice (some ⟨g, 0, none⟩) ps.length cap) ps * (afH bo go ps (gtB d p * (tblP p ps free * F)) (l ++ [(k, gen, x)]) * (pt DD dmark * F2))))) by unfold afH; ac_rfl)).dropL.dropL
      exact hY.mono fun e W' h => ⟨h.1, h.2.cast (by ac_rfl)⟩
    · rintro e W' ⟨he, h⟩
      exact ⟨he, h.cast (by ac_rfl)⟩
  case done =>
    intro DD W hS
    have h3 : Sat w0 (pc bo 89 [.slice (some ⟨go, 0, none⟩) ps.length ps.length] * (pt DD dmark * (Ag.itP bx (.slice (some ⟨g, 0, none⟩) ps.length cap) ps * (sl 5 1 (.slice (some ⟨go, 0, none⟩) ps.length ps.length) ps.length (affL ps.length (Ag.seen ps ps.length)) * (gtB d p * (tblP p ps free * F)))))) W := hS.cast (by unfold afH; ac_rfl)
    have o0 := h3.cell 0 rfl
    have hk := h3.pull2.blk.1
    have H4 := Lib.hid h3
    clear hS h3
    subst ha0
    gi_wp2
    refine ⟨by simp, .inl ⟨_, _, rfl, run_takeDeferred hk, ?_⟩⟩
    exact ⟨_, by simp [results, Try.f36, go_sem], go, rfl, H4.out.pull2.putObj.dropL.dropL.dropL⟩
end
end Go.Proofs.Ytffjckdaekamgaa.Gt
