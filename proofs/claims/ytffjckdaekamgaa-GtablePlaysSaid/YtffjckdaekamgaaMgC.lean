/-
  Chapter 16: reference's All and Affinities. No statement is proved here.
-/
import Derived.Test.YtffjckdaekamgaaMgB
import Derived.Test.YtffjckdaekamgaaGn3
import Derived.Deep.RegionLaw
import Derived.Test.YtffjckdaekamgaaGn3e
import Derived.Test.YtffjckdaekamgaaGn4
import Derived.Laws.BytesArg
namespace Go.Proofs.Ytffjckdaekamgaa.Gt
open Go.RowKit Ag
set_option linter.unusedVariables false
set_option linter.unusedSimpArgs false

section
attribute [local irreducible] loadCellsFrom
variable {w0 w : World} {F : Hp} {q b cap : Nat} {ps : List Pl} {vF : Value}
set_option maxRecDepth 100000 in
set_option maxHeartbeats 8000000 in
theorem rt_all (hS : Sat w0 (rtB q b ps.length cap vF * (rtL b cap ps * F)) w) (hsm : ps.length ≤ 64) : Calls Try.prog 34 #[vp q] w fun e w' => ∃ v, e = .returned v ∧ Sat w0 (sl 50 21 v (Ag.seen ps ps.length).length (fpd (Ag.seen ps ps.length)) * (rtB q b ps.length cap vF * (rtL b cap ps * F))) w' := by
  have H0 : Hid (Sat w0 (sl 50 21 (.slice none 0 0) (Ag.seen ps 0).length (fpd (Ag.seen ps 0)) * (rtB q b ps.length cap vF * (rtL b cap ps * F))) w) := Lib.hid (hS.addNil 50 21)
  clear hS
  go_enter Try.func34, Try.ntmps34
  go_wp2_with fail
  go_loopw [3, 4] (fun vo ix wr => ∃ k : Nat, k ≤ ps.length ∧ ix = vi k ∧ Sat w0 (sl 50 21 vo (Ag.seen ps k).length (fpd (Ag.seen ps k)) * (rtB q b ps.length cap vF * (rtL b cap ps * F))) wr) (fun _ ix _ => ps.length - (intOf ix).toNat)
  case atStart => exact ⟨0, Nat.zero_le _, rfl, H0.out⟩
  case round =>
    obtain ⟨k, hk, rfl, hS⟩ := hrel
    clear H0
    obtain ⟨oo, ocap, rfl⟩ := hS.rd.len
    have q0 := hS.pull2.cell 0 rfl
    by_cases hlt : k < ps.length
    · have hki : (k : Int) < (ps.length : Int) := by omega
      have hk0 : (0 : Int) ≤ (k : Int) := by omega
      obtain ⟨a, ha⟩ : ∃ a, ps[k]? = some a := ⟨ps[k], List.getElem?_eq_getElem hlt⟩
      have e1 : wr.cell? ⟨b, k * 21 + 1, none⟩ = some (.bool a.there) := hS.pull3.slCell _ (flat_get (j := 1) pcl_len ha rfl)
      cases ht : a.there with
      | false =>
        rw [ht] at e1
        have HSE := Lib.hid (Ag.seen_no ha ht)
        have HS := Lib.hid hS
        clear hS ha ht
        go_wp2_with fail
        go_roundw
        case rel => exact ⟨k + 1, by omega, by go_num, by rw [HSE.out]; exact HS.out⟩
        case measure => (simp [intOf]; try omega)
      | true =>
        rw [ht] at e1
        have HSE := Lib.hid (Ag.seen_yes ha ht)
        have hlen := Ag.seen_len ps k
        have e0 : wr.cell? ⟨b, k * 21 + 0, none⟩ = some (vu a.gen) := hS.pull3.slCell _ (flat_get (j := 0) pcl_len ha rfl)
        rw [Nat.add_zero] at e0
        have hrg : wr.drew.rangeAt b (k * 21 + 2) (elC a.x) := slRangeG hS.pull3.drew ha
        have hz := (hS.alloc' (.cells (vi k :: vu a.gen :: elC a.x).toArray 50)).drew
        have z0 := hz.pull2.cell 0 rfl
        have z1 : World.cell? _ ⟨b, k * 21 + 0, none⟩ = some (vu a.gen) := hz.pull3.slCell _ (flat_get (j := 0) pcl_len ha rfl)
        rw [Nat.add_zero] at z1
        have z2 : World.rangeAt _ b (k * 21 + 2) (elC a.x) := slRangeG hz.pull3 ha
        have HZ := Lib.hid hz
        have HS := Lib.hid hS
        clear hz
        generalize Ag.seen ps k = l at *
        have hr1 := rowLd_eq
        have hr2 := fun w : World => run_rowLd (w := w) (b := b) (o := k * 21 + 2) (x := a.x)
        have HK := Lib.hid ha
        clear hS ha ht
        go_wp2_with fail
        go_region_held3 (fun w' => w'.cell? ⟨q, 0, none⟩ = some (.slice (some ⟨b, 0, none⟩) ps.length cap) ∧ w'.cell? ⟨b, k * 21, none⟩ = some (vu a.gen) ∧ w'.rangeAt b (k * 21 + 2) (elC a.x))
          (first | with_reducible exact ⟨q0, e0, hrg⟩ | with_reducible exact ⟨z0, z1, z2⟩ | with_reducible exact ⟨y0, y1, y2⟩ | go_keep)
          ((refine step_append_sl Epd (by rfl) _ _ (by rfl) (by rfl) HZ.out (by rfl) (rdPd wr.drew _ (k, a.gen, a.x) rfl) (pd_one (k, a.gen, a.x)) (by unfold maxLen; omega) (by omega) ?_; intro ao' cap' w9 hS9; have y0 := hS9.pull2.cell 0 rfl; have y1 : World.cell? _ ⟨b, k * 21 + 0, none⟩ = some (vu a.gen) := hS9.pull3.slCell _ (flat_get (j := 0) pcl_len HK.out rfl); rw [Nat.add_zero] at y1; have y2 : World.rangeAt _ b (k * 21 + 2) (elC a.x) := slRangeG hS9.pull3 HK.out; have H9 := Lib.hid hS9; clear hS9))
        go_wp2_with fail
        go_roundw
        case rel =>
          refine ⟨k + 1, by omega, by go_num, ?_⟩
          rw [HSE.out, fpd_snoc, List.length_append, List.length_singleton]
          exact H9.out
        case measure => (simp [intOf]; try omega)
    · obtain rfl : k = ps.length := by omega
      have HS := Lib.hid hS
      clear hS
      go_wp2_with fail
      go_ret
      exact ⟨_, rfl, HS.out⟩
set_option maxRecDepth 100000 in
set_option maxHeartbeats 8000000 in
theorem rt_aff (hS : Sat w0 (rtB q b ps.length cap vF * (rtL b cap ps * F)) w) (hsm : ps.length ≤ 64) : Calls Try.prog 37 #[vp q] w fun e w' => ∃ v, e = .returned v ∧ Sat w0 (sl 5 1 v ps.length (affP ps) * (rtB q b ps.length cap vF * (rtL b cap ps * F))) w' := by
  have H0 : Hid (Sat w0 (sl 5 1 (.slice none 0 0) (ps.take 0).length (affP (ps.take 0)) * (rtB q b ps.length cap vF * (rtL b cap ps * F))) w) := Lib.hid (hS.addNil 5 1)
  clear hS
  go_enter Try.func37, Try.ntmps37
  go_wp2_with fail
  go_loopw [3, 4] (fun vo ix wr => ∃ k : Nat, k ≤ ps.length ∧ ix = vi k ∧ Sat w0 (sl 5 1 vo (ps.take k).length (affP (ps.take k)) * (rtB q b ps.length cap vF * (rtL b cap ps * F))) wr) (fun _ ix _ => ps.length - (intOf ix).toNat)
  case atStart => exact ⟨0, Nat.zero_le _, rfl, H0.out⟩
  case round =>
    obtain ⟨k, hk, rfl, hS⟩ := hrel
    clear H0
    obtain ⟨oo, ocap, rfl⟩ := hS.rd.len
    have q0 := hS.pull2.cell 0 rfl
    by_cases hlt : k < ps.length
    · have hki : (k : Int) < (ps.length : Int) := by omega
      have hk0 : (0 : Int) ≤ (k : Int) := by omega
      obtain ⟨a, ha⟩ : ∃ a, ps[k]? = some a := ⟨ps[k], List.getElem?_eq_getElem hlt⟩
      have e1 : wr.cell? ⟨b, k * 21 + 2 + 6, none⟩ = some (.int .u8 a.x.v6) := hS.pull3.slCell _ (flat_get (j := 8) pcl_len ha rfl)
      have HTk : Hid (ps.take (k + 1) = ps.take k ++ [a]) := Lib.hid (by rw [List.take_add_one, ha]; rfl)
      have hlen : (ps.take k).length ≤ 64 := by rw [List.length_take]; omega
      have HS := Lib.hid hS
      generalize ps.take k = l at *
      clear hS ha
      go_wp2_with (at_builtin; refine wpList_append_sl Eu8 rfl (.tmp 14) (.tmp 24) rfl (by rfl) (HS.out.alloc' _) (by rfl) (rdI1 (.int .u8 a.x.v6) _ _ rfl) (by simp [Value.oneCell']) (by unfold maxLen; omega) (by omega) ?_; intro ao' cap' w9 hS9; have H9 := Lib.hid hS9; clear hS9)
      go_roundw
      case rel =>
        refine ⟨k + 1, by omega, by go_num, ?_⟩
        rw [HTk.out, List.length_append, List.length_singleton]
        exact H9.out.cast (by rw [show affP (l ++ [a]) = affP l ++ [.int .u8 a.x.v6] by simp [affP]])
      case measure => (simp [intOf]; try omega)
    · obtain rfl : k = ps.length := by omega
      have HS := Lib.hid hS
      clear hS
      go_wp2_with fail
      go_ret
      refine ⟨_, rfl, ?_⟩
      have h9 := HS.out
      simp only [List.take_length] at h9 ⊢
      exact h9
end
end Go.Proofs.Ytffjckdaekamgaa.Gt

namespace Go.Proofs.Ytffjckdaekamgaa.Gt
open Go.RowKit Ag
set_option linter.unusedVariables false
set_option linter.unusedSimpArgs false

def rowLT (a : Addr) : Sem (Array Value) := loadCellsFrom a 0 21 #[]
theorem rowLT_eq : ∀ a : Addr, loadCellsFrom a 0 21 #[] = rowLT a := fun _ => rfl
theorem run_rowLT {w : World} {b o : Nat} {cs : List Value} (hl : cs.length = 21) (hc : w.rangeAt b o cs) : (rowLT ⟨b, o, none⟩).run Try.prog w = .ok cs.toArray w := by
  have := run_loadCells_list (P := Try.prog) w ⟨b, o, none⟩ cs (fun j v hj => by rw [Addr.add_mid]; exact hc j v hj)
  rw [hl] at this
  exact this
set_option maxRecDepth 100000 in
set_option maxHeartbeats 8000000 in
theorem run_neT (w : World) (y : Nat × Int × El) : (binOp .neq 50 (.agg (pdC y).toArray) (.agg (pdC y).toArray)).run Try.prog w = .ok (.bool false) w := by
  obtain ⟨k, g, v0, v1, v2, v3, v4, v5, v6, v7, v8, v9, v10, v11, v12, v13, v14, v15, v16, v17, v18⟩ := y
  obtain ⟨i, hi⟩ := info_of_underlying (P := Try.prog) Try.underlying23
  have h8 : ∀ (xs ys : Array Value) (w : World), (Op.equalIn 9998 26 (.agg xs) (.agg ys)).run Try.prog w = (Op.eqItems 9997 23 1 xs ys (List.range 8)).run Try.prog w := fun xs ys w => run_equalIn_array w 9997 xs ys Try.underlying26 hi
  have e1 : ∀ (xs ys : Array Value), Op.eqItems 9997 23 1 xs ys [] = pure true := fun _ _ => rfl
  have e2 : ∀ (xs ys : Array Value) (i : Nat) (is : List Nat), Op.eqItems 9997 23 1 xs ys (i :: is) = (do let a ← part 23 xs (i * 1); let b ← part 23 ys (i * 1); let r ← Op.equalIn 9997 23 a b; if (!r) = true then pure false else Op.eqItems 9997 23 1 xs ys is) := fun _ _ _ _ => rfl
  go_simp
section
attribute [local irreducible] loadCellsFrom
variable {w0 w : World} {F G : Hp}
theorem rt_same {l : List (Nat × Int × El)} {v1 v2 : Value} (hS : Sat w0 (sl 50 21 v1 l.length (fpd l) * (sl 50 21 v2 l.length (fpd l) * F)) w) (hl : l.length ≤ 64) : Calls Try.prog 33 #[v1, v2] w fun e w' => e = .returned (.bool true) ∧ Sat w0 (sl 50 21 v1 l.length (fpd l) * (sl 50 21 v2 l.length (fpd l) * F)) w' := by
  obtain ⟨a1, c1, rfl⟩ := hS.rd.len
  obtain ⟨a2, c2, rfl⟩ := hS.pull2.rd.len
  have H0 := Lib.hid hS
  clear hS
  go_enter Try.func33, Try.ntmps33
  go_wp2_with fail
  go_loopw [5] (fun ix wr => ∃ j : Nat, j ≤ l.length ∧ ix = vi j ∧ Sat w0 (sl 50 21 (.slice a1 l.length c1) l.length (fpd l) * (sl 50 21 (.slice a2 l.length c2) l.length (fpd l) * F)) wr) (fun ix _ => l.length - (intOf ix).toNat)
  case atStart => exact ⟨0, Nat.zero_le _, rfl, H0.out⟩
  case round =>
    obtain ⟨j, hj, rfl, hS⟩ := hrel
    clear H0
    by_cases hjl : j < l.length
    · have hji : (j : Int) < (l.length : Int) := by omega
      have hj0 : (0 : Int) ≤ (j : Int) := by omega
      obtain ⟨g1, rfl⟩ : ∃ g1, a1 = some ⟨g1, 0, none⟩ := by
        rcases hS.slE.2 with ⟨_, h0, _⟩ | ⟨g', c', cur, hv, _⟩
        · omega
        · injection hv with h1 h2 h3
          exact ⟨g', h1⟩
      obtain ⟨g2, rfl⟩ : ∃ g2, a2 = some ⟨g2, 0, none⟩ := by
        rcases hS.pull2.slE.2 with ⟨_, h0, _⟩ | ⟨g', c', cur, hv, _⟩
        · omega
        · injection hv with h1 h2 h3
          exact ⟨g', h1⟩
      obtain ⟨y, hy⟩ : ∃ y, l[j]? = some y := ⟨l[j], List.getElem?_eq_getElem hjl⟩
      have hg1 : ∀ n, (wr.drewN n).rangeAt g1 (j * 21) (pdC y) := fun n => slRangeT (hS.drewN n) hy
      have hg2 : ∀ n, (wr.drewN n).rangeAt g2 (j * 21) (pdC y) := fun n => slRangeT (hS.drewN n).pull2 hy
      obtain ⟨cs, hcs⟩ : ∃ cs, cs = pdC y := ⟨_, rfl⟩
      have hlc : cs.length = 21 := by rw [hcs]; rfl
      have heq : ∀ w : World, (binOp .neq 50 (.agg cs.toArray) (.agg cs.toArray)).run Try.prog w = .ok (.bool false) w := fun w => by rw [hcs]; exact run_neT w y
      rw [← hcs] at hg1 hg2
      have hr1 := rowLT_eq
      have hr2 := fun (w : World) (b o : Nat) => run_rowLT (w := w) (b := b) (o := o) hlc
      have HS := Lib.hid hS
      clear hS hy hcs
      go_wp2_with fail
      go_quiet (fail)
      go_wp2_with fail
      go_roundw
      case rel => exact ⟨j + 1, by omega, by go_num, HS.out.drewN _⟩
      case measure => (simp [intOf]; try omega)
    · obtain rfl : j = l.length := by omega
      have HS := Lib.hid hS
      clear hS
      go_wp2_with fail
      go_ret
      exact ⟨rfl, HS.out⟩
end
end Go.Proofs.Ytffjckdaekamgaa.Gt

namespace Go.Proofs.Ytffjckdaekamgaa.Gt
open Go.RowKit Ag
set_option linter.unusedVariables false
set_option linter.unusedSimpArgs false

theorem conv_aff {w0 w : World} {F : Hp} {ps : List Pl} {gb c : Nat} (h : Sat w0 (sl 5 1 (.slice (some ⟨gb, 0, none⟩) ps.length c) ps.length (affP ps) * F) w) : (convert 89 9 (.slice (some ⟨gb, 0, none⟩) ps.length c)).run Try.prog w = .ok (.string (strOfNums (ps.map fun a => a.x.v6))) w :=
  run_convert_bytes_arg w 89 5 Try.underlying89 Try.underlying5 gb 0 ps.length c (ps.map fun a => a.x.v6) (by simp) (fun i hi => by
    have := h.slCell i (u := .int .u8 ((ps.map fun a => a.x.v6).getD i 0)) (by
      rw [List.getElem?_map, List.getElem?_eq_getElem hi]
      simp [List.getD, hi])
    rw [Nat.zero_add]
    exact this) 9 Try.underlying9
theorem str_self (t : TypeId) (s : ByteArray) (w : World) (h : Try.prog.underlying t = some .string) : (binOp .neq t (.string s) (.string s)).run Try.prog w = .ok (.bool false) w := by
  cases s
  go_simp
section
variable {w0 w : World} {E F : Hp} {n T g h p q b cap : Nat} {vF vR : Value} {ps : List Pl} {free : List Nat} {rl : List (Int × Int)}
theorem gmR (E : Hp) : E * gmC g h p q b cap vF vR ps free rl F = rtB q b ps.length cap vF * (rtL b cap ps * (E * (pc g 47 [vp h, vp q, vR] * (sl 25 2 vR rl.length (frefs rl) * (gtB h p * (tblP p ps free * (sl 3 1 vF free.length (nats free) * F))))))) := by
  unfold gmC refG
  ac_rfl
theorem gmG (E : Hp) : E * gmC g h p q b cap vF vR ps free rl F = gtB h p * (tblP p ps free * (E * (pc g 47 [vp h, vp q, vR] * (sl 25 2 vR rl.length (frefs rl) * refG q b cap vF ps free F)))) := by
  unfold gmC
  ac_rfl
theorem gm_rall (hps : ps.length ≤ 64) (hS : Sat w0 (E * gmC g h p q b cap vF vR ps free rl F) w) : Calls Try.prog 34 #[vp q] w fun e w' => ∃ v, e = .returned v ∧ Sat w0 (sl 50 21 v (Ag.seen ps ps.length).length (fpd (Ag.seen ps ps.length)) * (E * gmC g h p q b cap vF vR ps free rl F)) w' := by
  refine (rt_all (hS.cast (gmR E)) hps).mono fun e w' ⟨v, h1, h2⟩ => ⟨v, h1, h2.cast ?_⟩
  rw [gmR E]
theorem gm_raff (hps : ps.length ≤ 64) (hS : Sat w0 (E * gmC g h p q b cap vF vR ps free rl F) w) : Calls Try.prog 37 #[vp q] w fun e w' => ∃ v, e = .returned v ∧ Sat w0 (sl 5 1 v ps.length (affP ps) * (E * gmC g h p q b cap vF vR ps free rl F)) w' := by
  refine (rt_aff (hS.cast (gmR E)) hps).mono fun e w' ⟨v, h1, h2⟩ => ⟨v, h1, h2.cast ?_⟩
  rw [gmR E]
theorem gm_all (hps : ps.length ≤ 64) (hS : Sat w0 (E * gmC g h p q b cap vF vR ps free rl F) w) : Calls Try.prog 14 #[vp h] w fun e w' => ∃ v, e = .returned v ∧ Sat w0 (sl 50 21 v (Ag.seen ps ps.length).length (fpd (Ag.seen ps ps.length)) * (E * gmC g h p q b cap vF vR ps free rl F)) w' := by
  refine (gt_all (hS.cast (gmG E)) (by omega)).mono fun e w' ⟨v, h1, h2⟩ => ⟨v, h1, h2.cast ?_⟩
  rw [gmG E]
theorem gm_live (hps : ps.length ≤ 64) (hS : Sat w0 (E * gmC g h p q b cap vF vR ps free rl F) w) : Calls Try.prog 35 #[vp h] w fun e w' => e = .returned (vi (Ag.seen ps ps.length).length) ∧ Sat w0 (E * gmC g h p q b cap vF vR ps free rl F) w' := by
  refine (gt_live (hS.cast (gmG E)) (by omega)).mono fun e w' ⟨h1, h2⟩ => ⟨h1, h2.cast ?_⟩
  rw [gmG E]
theorem gm_aff (hps : ps.length ≤ 64) (hpos : 1 ≤ ps.length) (hS : Sat w0 (E * gmC g h p q b cap vF vR ps free rl F) w) : Calls Try.prog 36 #[vp h] w fun e w' => ∃ go, e = .returned (.slice (some ⟨go, 0, none⟩) ps.length ps.length) ∧ Sat w0 (sl 5 1 (.slice (some ⟨go, 0, none⟩) ps.length ps.length) ps.length (affL ps.length (Ag.seen ps ps.length)) * (E * gmC g h p q b cap vF vR ps free rl F)) w' := by
  refine (gt_aff (hS.cast (gmG E)) hps hpos).mono fun e w' ⟨v, h1, h2⟩ => ⟨v, h1, h2.cast ?_⟩
  rw [gmG E]
theorem gm_at (i : Int) (hS : Sat w0 (E * gmC g h p q b cap vF vR ps free rl F) w) : Calls Try.prog 38 #[vp h, vi i] w fun e w' => e = .returned (.tuple #[vr (atR ps i).1 (atR ps i).2.1, .bool (atR ps i).2.2]) ∧ Sat w0 (E * gmC g h p q b cap vF vR ps free rl F) w' := by
  refine (gt_at (hS.cast (gmG E)) i).mono fun e w' ⟨h1, h2⟩ => ⟨h1, h2.cast ?_⟩
  rw [gmG E]
theorem gm_of (hps : ps.length ≤ 64) (st : Int) (hS : Sat w0 (E * gmC g h p q b cap vF vR ps free rl F) w) : Calls Try.prog 39 #[vp h, vi st] w fun e w' => ∃ vo, e = .returned vo ∧ Sat w0 (sl 25 2 vo (ofL (Ag.seen ps ps.length) st).length (frefs (ofL (Ag.seen ps ps.length) st)) * (E * gmC g h p q b cap vF vR ps free rl F)) w' := by
  refine (gt_of (hS.cast (gmG E)) hps st).mono fun e w' ⟨v, h1, h2⟩ => ⟨v, h1, h2.cast ?_⟩
  rw [gmG E]
end
end Go.Proofs.Ytffjckdaekamgaa.Gt
