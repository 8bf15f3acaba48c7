/-
  Contracts of package refill that make lists: New, Due, less; slices.Clone; the law's own; the reference's Due. No statement is proved here.
-/
import Derived.Test.YtknodagcmachiaaFi5
import Derived.Deep.RegionLaw
namespace Go.Proofs.Ytknodagcmachiaa.Fi
open Go.RowKit
set_option linter.unusedVariables false

theorem Efi : SlT Try.prog 47 61 2 16 (.agg #[vu 0, vu 0]) := SlT.mk' Try.underlying47 (by kernel_rfl) rfl (by decide)
theorem Rf.one (r : Rf) : ∀ u ∈ r.cells, u.oneCell' = true := by
  intro u hu
  simp [Rf.cells] at hu
  rcases hu with rfl | rfl <;> rfl
/-- A list of the call's own. -/
abbrev fiS (v : Value) (l : List Rf) : Hp := slo 61 2 v l.length (rflat l)
theorem Sat.base {w w2 w3 : World} {H : Hp} (hb : Below w.heap.size w w2) (h : Sat w2 H w3) : Sat w H w3 := by
  have h0 : Sat w emp w2 := ⟨hb, [], rfl, by simp, by simp⟩
  exact (h0.chain h).cast (sep_emp _)
theorem Sat.fiR {w0 w : World} {F : Hp} {v : Value} {l : List Rf} (h : Sat w0 (fiS v l * F) w) (hok : OkL l) : RdF w v l := ⟨h.sloRd, hok⟩
theorem rflat_one (l : List Rf) : ∀ u ∈ rflat l, u.oneCell' = true := flat_one Rf.one l
theorem rflat_len (l : List Rf) : (rflat l).length = l.length * 2 := flat_len Rf.len l

section
variable {w : World} {v : Value} {l : List Rf}
theorem clone_ (h : RdF w v l) (hl : l.length ≤ 1000000) :
    Calls Try.prog 94 #[v] w fun e w' => ∃ v', e = .returned v' ∧ Sat w (fiS v' l * emp) w' := by
  obtain ⟨ao, cap, rfl⟩ := h.rd.len
  have hn := @Lib.run_eql_slice_nil Try.prog
  have hone := Lib.hid (rflat_one l)
  have HR := Lib.hid h.rd
  cases ao with
  | none =>
    have hl0 : l = [] := by
      rcases h.rd.2 with ⟨h0, _⟩ | ⟨b, off, c, hv, _⟩
      · exact List.eq_nil_of_length_eq_zero h0
      · cases hv
    subst hl0
    clear h
    go_enter Try.func94, Try.ntmps94
    go_wp2
    go_ret
    exact ⟨_, rfl, (Sat.start w).sloNil 61 2⟩
  | some a =>
    clear h
    go_enter Try.func94, Try.ntmps94
    go_wp2_with (at_builtin; refine wpList_append_slo Efi rfl (.tmp 5) (.tmp 6) rfl (by rfl) ((Sat.start w).sl0 61 2).slo (by rfl) (HR.out.below (below_alloc _ _)) hone.out (by unfold maxLen; omega) (by omega) ?_; intro ao1 cap1 w1 hS1; simp only [Nat.zero_add, List.nil_append] at hS1)
    go_ret
    exact ⟨_, by simp, hS1⟩
theorem new_zero (now : Int) (w : World) :
    Calls Try.prog 37 #[vu 0, vu now] w fun e w' => e = .returned (.slice none 0 0) ∧ w = w' := by
  go_enter Try.func37, Try.ntmps37
  go_wp2
  go_ret
  exact ⟨rfl, rfl⟩
theorem new_pos (b now : Int) (hb : b ≠ 0) (w : World) :
    Calls Try.prog 37 #[vu b, vu now] w fun e w' => ∃ v', e = .returned v' ∧ Sat w (fiS v' [⟨b, now⟩] * emp) w' := by
  have hb2 : (b == 0) = false := beq_eq_false_iff_ne.2 hb
  have hS := Lib.hid ((Sat.start w).sloOne (size := 2) 61 [vu b, vu now] rfl)
  clear hb
  go_enter Try.func37, Try.ntmps37
  go_wp2
  go_ret
  exact ⟨_, rfl, hS.out⟩
end

section
variable {w0 w : World} {F : Hp} {v : Value} {r : Rf} {t : List Rf}
set_option maxRecDepth 100000 in
set_option maxHeartbeats 1000000 in
theorem less_ (h : Sat w0 (fiS v (r :: t) * F) w) (hu : U64 r.amount) (k : Int) (hk : 0 ≤ k) (hk2 : k ≤ r.amount) (hl : t.length ≤ 1000000) :
    Calls Try.prog 79 #[v, vu k] w fun e w' => ∃ v', e = .returned v' ∧ Sat w0 (fiS v' (lessL (r :: t) k) * F) w' := by
  obtain ⟨g, off, cap, rfl⟩ := h.sloPos (by simp)
  have hcap := h.sloCap
  have c0 : w.cell? ⟨g, off, none⟩ = some (vu r.amount) := h.sloCell 0 rfl
  have f0 := h.sloFree off
  have h2 := h.sloStore 0 (by simp) (vu (r.amount - k))
  have e2 : (rflat (r :: t)).set 0 (vu (r.amount - k)) = rflat (⟨r.amount - k, r.at_⟩ :: t) := rfl
  rw [e2, Nat.add_zero] at h2
  have h2 : Sat w0 (fiS (.slice (some ⟨g, off, none⟩) (t.length + 1) cap) (⟨r.amount - k, r.at_⟩ :: t) * F) (w.setCell ⟨g, off, none⟩ (vu (r.amount - k))) := h2
  have d0 : (w.setCell ⟨g, off, none⟩ (vu (r.amount - k))).cell? ⟨g, off, none⟩ = some (vu (r.amount - k)) := h2.sloCell 0 rfl
  have hw : IntKind.u64.wrap (r.amount - k) = r.amount - k := IntWalk.u64_in _ (by unfold U64 at hu; omega)
  have hpos : (0 : Int) < ((t.length : Int) + 1) := by omega
  have hc1 : ((t.length : Int) + 1) ≤ (cap : Int) := by have := hcap.1; simp at this; omega
  have hc1' : t.length + 1 ≤ cap := by have := hcap.1; simpa using this
  simp only [List.length_cons] at *
  by_cases hz : r.amount - k = 0
  · have hle : lessL (r :: t) k = t := by simp [lessL, hz]
    have HLE := Lib.hid hle
    have hz2 : (r.amount - k == 0) = true := by simp [hz]
    have H2 := Lib.hid h2
    have hz3 := Lib.hid hz
    by_cases hcp : cap = 1
    · have HT := Lib.hid (h2.sloTail off (.inl ⟨hcp, rfl⟩))
      obtain rfl : t = [] := List.eq_nil_of_length_eq_zero (by omega)
      subst hcp
      clear h h2 hle hz hu hk hk2 hcap
      go_enter Try.func79, Try.ntmps79
      go_wp2
      go_ret
      exact ⟨_, rfl, by rw [HLE.out]; exact HT.out⟩
    · have HT := Lib.hid (h2.sloTail (off + 2) (.inr rfl))
      have hcp2 : (cap : Int) ≠ 1 := by omega
      have hcp3 : 1 < cap := by omega
      clear h h2 hle hz hu hk hk2 hcap
      go_enter Try.func79, Try.ntmps79
      go_wp2
      go_ret
      exact ⟨_, rfl, by rw [HLE.out]; exact HT.out⟩
  · have hle : lessL (r :: t) k = ⟨r.amount - k, r.at_⟩ :: t := by simp [lessL, hz]
    have HLE := Lib.hid hle
    have hz2 : (r.amount - k == 0) = false := beq_eq_false_iff_ne.2 hz
    have H2 := Lib.hid h2
    clear h h2 hle hz hu hk hk2 hcap
    go_enter Try.func79, Try.ntmps79
    go_wp2
    go_ret
    exact ⟨_, rfl, by rw [HLE.out]; exact H2.out⟩
end
end Go.Proofs.Ytknodagcmachiaa.Fi

namespace Go.Proofs.Ytknodagcmachiaa.Fi
open Go.RowKit
set_option linter.unusedVariables false

section
variable {w : World} {v : Value} {l : List Rf}
theorem RdF.take {w : World} {ao : Option Addr} {cap : Nat} (h : RdF w (.slice ao l.length cap) l) (n : Nat) (hn : n ≤ l.length) : RdF w (.slice ao n cap) (l.take n) := by
  refine ⟨⟨?_, ?_⟩, OkL.sub h.ok fun x hx => List.mem_of_mem_take hx⟩
  · rw [rflat_len]
  · have hl : (l.take n).length = n := by rw [List.length_take]; omega
    rw [hl]
    by_cases h0 : n = 0
    · exact .inl ⟨h0, ao, cap, by rw [h0]⟩
    · obtain ⟨b, off, c, hv, hc⟩ := h.rd.pos (by omega)
      cases hv
      refine .inr ⟨b, off, cap, rfl, fun j u hj => hc j u ?_⟩
      have e := flat_take Rf.len l n
      rw [show rflat (l.take n) = (rflat l).take (n * 2) from e.symm, List.getElem?_take] at hj
      split at hj
      · exact hj
      · cases hj
theorem rflat_drop (l : List Rf) (n : Nat) : rflat (l.drop n) = (rflat l).drop (n * 2) := by
  induction n generalizing l with
  | zero => simp
  | succ n ih =>
    match l with
    | [] => simp
    | r :: t =>
      have e : rflat (r :: t) = r.cells ++ rflat t := rfl
      have e2 : r.cells.drop ((n + 1) * 2) = [] := List.drop_eq_nil_of_le (by rw [Rf.len]; omega)
      rw [List.drop_succ_cons, ih, e, List.drop_append, Rf.len, e2, show (n + 1) * 2 - 2 = n * 2 by omega]
      rfl
theorem RdF.drop {w : World} {b off cap : Nat} (h : RdF w (.slice (some ⟨b, off, none⟩) l.length cap) l) (n : Nat) (hn : n ≤ l.length) (o : Nat) (ho : o = off + n * 2 ∨ n = l.length) : Rd w 2 (.slice (some ⟨b, o, none⟩) (l.length - n) (cap - n)) (l.length - n) (rflat (l.drop n)) := by
  refine ⟨by rw [rflat_len, List.length_drop], ?_⟩
  by_cases h0 : n = l.length
  · exact .inl ⟨by omega, some ⟨b, o, none⟩, cap - n, by rw [show l.length - n = 0 by omega]⟩
  · have ho2 := ho.resolve_right h0
    subst ho2
    obtain ⟨b', off', c, hv, hc⟩ := h.rd.pos (by omega)
    cases hv
    refine .inr ⟨b, off + n * 2, cap - n, rfl, fun j u hj => ?_⟩
    rw [rflat_drop, List.getElem?_drop] at hj
    rw [Nat.add_assoc]
    exact hc _ u hj

theorem Rd.two' (w : World) (T : TypeId) (a b : Value) {g : Nat} (hg : g = w.heap.size) : Rd (w.alloc (.cells #[a, b] T)) 2 (.slice (some ⟨g, 0, none⟩) 1 1) 1 [a, b] := by
  subst hg
  refine ⟨rfl, .inr ⟨_, _, _, rfl, fun j u hj => ?_⟩⟩
  rcases j with _ | _ | j
  all_goals simp at hj
  all_goals (try (subst hj; simp))
/-- A slice is within its array. -/
def Room (v : Value) (n : Nat) : Prop := ∀ ao c, v = .slice ao n c → n ≤ c
theorem Sat.room {w0 w : World} {F : Hp} {v : Value} {l : List Rf} (h : Sat w0 (fiS v l * F) w) : Room v l.length := by
  intro ao c hv
  rcases h.sloE.2 with ⟨_, h0, _⟩ | ⟨g, off, cap, cur, hv2, h1, _⟩
  · omega
  · rw [hv] at hv2
    injection hv2 with _ _ e
    omega
theorem due_no (now : Int) (h : RdF w v l) (hl : l.length ≤ 1000000) (hm : ¬ MayL l) :
    Calls Try.prog 80 #[v, vu now] w fun e w' => e = .returned (.slice none 0 0) ∧ Below w.heap.size w w' := by
  have H1 := Lib.hid (thereN_ l now v w h hl)
  have HM : Hid (∀ w', Below w.heap.size w w' → Calls Try.prog 77 #[v] w' fun e w2 => e = .returned (.bool false) ∧ Below w'.heap.size w' w2) := Lib.hid fun w' hb => by
    have := may_ l v w' (h.below hb) hl
    rw [mayB_no hm] at this
    exact this
  clear h hm
  go_enter Try.func80, Try.ntmps80
  go_wp2_with (first
    | (go_at_call 78; refine H1.out.mono ?_; rintro e w1 ⟨rfl, hb⟩; have HB1 := Lib.hid hb; clear hb)
    | (go_at_call 77; refine (HM.out _ HB1.out).mono ?_; rintro e w2 ⟨rfl, hb⟩; have HB2 := Lib.hid hb; clear hb))
  go_ret
  exact ⟨rfl, Below.then HB1.out HB2.out⟩

set_option maxRecDepth 100000 in
set_option maxHeartbeats 2000000 in
theorem due_yes (now : Int) (h : RdF w v l) (hrm : Room v l.length) (hl : l.length ≤ 1000000) (hm : MayL l) :
    Calls Try.prog 80 #[v, vu now] w fun e w' => ∃ v', e = .returned v' ∧ Sat w (fiS v' (dueL l now) * emp) w' := by
  have hok := h.ok
  have H1 := Lib.hid (thereN_ l now v w h hl)
  have HM : Hid (∀ w', Below w.heap.size w w' → Calls Try.prog 77 #[v] w' fun e w2 => e = .returned (.bool true) ∧ Below w'.heap.size w' w2) := Lib.hid fun w' hb => by
    have := may_ l v w' (h.below hb) hl
    rw [mayB_yes hm] at this
    exact this
  have HC : Hid (∀ w', Below w.heap.size w w' → Calls Try.prog 94 #[v] w' fun e w2 => ∃ v', e = .returned v' ∧ Sat w' (fiS v' l * emp) w2) := Lib.hid fun w' hb => clone_ (h.below hb) hl
  have hle := thN_le l now
  by_cases h0 : thN l now = 0
  · rw [h0] at H1
    have HD := Lib.hid (due_zero h0)
    clear h hm hok hle h0
    go_enter Try.func80, Try.ntmps80
    go_wp2_with (first
      | (go_at_call 78; refine H1.out.mono ?_; rintro e w1 ⟨rfl, hb⟩; have HB1 := Lib.hid hb; clear hb)
      | (go_at_call 77; refine (HM.out _ HB1.out).mono ?_; rintro e w2 ⟨rfl, hb⟩; have HB2 := Lib.hid (Below.then HB1.out hb); clear hb)
      | (go_at_call 94; refine (HC.out _ HB2.out).mono ?_; rintro e w3 ⟨v', rfl, hS⟩; have HS := Lib.hid (Sat.base HB2.out hS); clear hS))
    go_ret
    exact ⟨_, rfl, by rw [HD.out]; exact HS.out⟩
  · obtain ⟨r, hr, hat, hd⟩ := due_pos h0
    obtain ⟨ao, cap, rfl⟩ := h.rd.len
    obtain ⟨b, off, rfl, -, c1, -, hur⟩ := h.at_ hr
    have hT : sumP (l.take (thN l now)) = some (tot (l.take (thN l now))) := by
      rw [sumP_eq (OkL.sub hok fun x hx => List.mem_of_mem_take hx), if_neg]
      have h1 := tot_nonneg (l := l.drop (thN l now)) (OkL.sub hok fun x hx => List.mem_of_mem_drop hx)
      have h2 : tot l = tot (l.take (thN l now)) + tot (l.drop (thN l now)) := by
        conv => lhs; rw [← List.take_append_drop (thN l now) l]
        rw [tot_append]
      have := hm.fit
      omega
    have HTo : Hid (∀ w', Below w.heap.size w w' → Calls Try.prog 97 #[.slice (some ⟨b, off, none⟩) (thN l now) cap] w' fun e w2 => e = .returned (.tuple #[vu (tot (l.take (thN l now))), .bool true]) ∧ Below w'.heap.size w' w2) := Lib.hid fun w' hb => by
      have := total_ _ _ w' ((h.below hb).take _ hle) (by rw [List.length_take]; omega)
      rw [hT] at this
      exact this
    have HD := Lib.hid hd
    have HR := Lib.hid h
    have hone := Lib.hid (rflat_one (l.drop (thN l now)))
    have hcapn : l.length ≤ cap := hrm _ _ rfl
    have HDr : Hid (Rd w 2 (.slice (if cap = thN l now then some ⟨b, off, none⟩ else some ⟨b, off + thN l now * 2, none⟩) (l.length - thN l now) (cap - thN l now)) (l.length - thN l now) (rflat (l.drop (thN l now)))) := Lib.hid (by
      split
      · exact h.drop _ hle _ (.inr (by omega))
      · exact h.drop _ hle _ (.inl rfl))
    have HTT : Hid (0 ≤ tot (l.take (thN l now))) := Lib.hid (tot_nonneg (OkL.sub hok fun x hx => List.mem_of_mem_take hx))
    obtain ⟨m, hmm⟩ : ∃ m, m = thN l now - 1 := ⟨_, rfl⟩
    rw [← hmm] at c1
    have hw1 : IntKind.i64.wrap ((thN l now : Int) - 1) = (m : Int) := by rw [IntWalk.i64_in _ (by omega)]; omega
    have hz0 : ((thN l now : Int) == 0) = false := beq_eq_false_iff_ne.2 (by omega)
    have i1 : (thN l now : Int) ≤ (cap : Int) := by omega
    have i2 : thN l now ≤ cap := by omega
    have i3 : (m : Int) < (l.length : Int) := by omega
    have i4 : (thN l now : Int) ≤ (l.length : Int) := by omega
    have i5 : (l.length : Int) ≤ (cap : Int) := by omega
    have hln : l.length ≤ 1000000 := hl
    have HW1 : Hid (∀ w', Below w.heap.size w w' → w'.cell? ⟨b, off + m * 2 + 1, none⟩ = some (vu r.at_)) := Lib.hid fun w' hb => (hb.cell (p := ⟨b, off + m * 2 + 1, none⟩) (lt_cell c1)).trans c1
    have HLD : Hid ((dueL l now).length = 1 + (l.length - thN l now)) := Lib.hid (by rw [hd, List.length_cons, List.length_drop]; omega)
    clear hd hT hok hm hr h hat c1 hrm h0 hur
    have HLE := Lib.hid hle
    generalize tot (l.take (thN l now)) = s at *
    generalize hnn : thN l now = nn at *
    have HNN := Lib.hid hnn
    clear hnn
    clear hmm
    go_enter Try.func80, Try.ntmps80
    go_wp2_with (first
      | (go_at_call 78; refine H1.out.mono ?_; rintro e w1 ⟨rfl, hb⟩; have HB1 := Lib.hid hb; clear hb)
      | (go_at_call 77; refine (HM.out _ HB1.out).mono ?_; rintro e w2 ⟨rfl, hb⟩; have HB2 := Lib.hid (Below.then HB1.out hb); clear hb)
      | (go_at_call 97; refine (HTo.out _ HB2.out).mono ?_; rintro e w3 ⟨rfl, hb⟩; have HB3 := Lib.hid (Below.then HB2.out hb); clear hb; have e1 := HW1.out _ HB3.out))
    have HSt : Hid (Sat w3 emp w3) := Lib.hid (Sat.start w3)
    go_region_held3 (fun w' => w'.cell? ⟨b, off + m * 2 + 1, none⟩ = some (vu r.at_))
      (first | exact e2 | go_keep)
      ((refine step_append_slo Efi (by rfl) _ _ (by rfl) (by rfl) ((HSt.out.drewN 1).sloOne (size := 2) 61 [vu s, vu r.at_] rfl) (by rfl) (HDr.out.below (Below.then (drewB HB3.out 1) (below_alloc _ _))) hone.out (by unfold maxLen; omega) (by omega) ?_; intro ao1 cap1 w4 hS4; have e2 : w4.cell? ⟨b, off + m * 2 + 1, none⟩ = some (vu r.at_) := (hS4.old (lt_cell e1)).trans e1; have HS4 := Lib.hid hS4; clear hS4))
    have h9 := Lib.hid (Sat.base HB3.out HS4.out)
    go_wp2
    all_goals
      go_ret
      refine ⟨_, rfl, ?_⟩
      rw [HD.out]
      have e9 : (⟨s, r.at_⟩ :: l.drop nn : List Rf).length = 1 + (l.length - nn) := by simp; omega
      show Sat w (slo 61 2 _ (⟨s, r.at_⟩ :: l.drop nn : List Rf).length _ * emp) _
      rw [e9]
      exact h9.out

/-- The reference's Due, of a list that may be. -/
theorem rdue (now : Int) (h : RdF w v l) (hl : l.length ≤ 1000000) (hm : MayL l) :
    Calls Try.prog 102 #[v, vu now] w fun e w' => ∃ v', e = .returned v' ∧ Sat w (fiS v' (dueL l now) * emp) w' := by
  obtain ⟨ao, cap, rfl⟩ := h.rd.len
  have HR := Lib.hid h
  have HM := Lib.hid hm
  clear h hm
  go_enter Try.func102, Try.ntmps102
  go_wp2
  go_loopw [5, 6] (fun s i wr => ∃ (k : Nat), k ≤ l.length ∧ i = vi k ∧ Sat w (fiS s (dueL (l.take k) now) * emp) wr) (fun _ i _ => l.length - (intOf i).toNat)
  case atStart => exact ⟨0, Nat.zero_le _, rfl, (Sat.start w).sloNil 61 2⟩
  case round =>
    obtain ⟨k, hk, rfl, hS⟩ := hrel
    have hlen := due_len (l.take k) now
    rw [List.length_take] at hlen
    by_cases hlt : k < l.length
    · obtain ⟨r, hr⟩ : ∃ r, l[k]? = some r := ⟨l[k], List.getElem?_eq_getElem hlt⟩
      obtain ⟨b, off, rfl, c0, c1, hok, hok2⟩ := (HR.out.below hS.below).at_ hr
      have hkl : (k : Int) < (l.length : Int) := by omega
      by_cases hc : k = 0 ∨ now < r.at_
      · have hda := Lib.hid (due_app (now := now) hr hc)
        obtain ⟨so, scap, rfl⟩ := hS.sloForm
        have HS := Lib.hid hS
        have hdk : decide (0 < k) = false ∨ (decide (0 < k) = true ∧ ¬ (r.at_ ≤ now)) := by
          rcases hc with h0 | h1
          · exact .inl (decide_eq_false (by omega))
          · by_cases h0 : k = 0
            · exact .inl (decide_eq_false (by omega))
            · exact .inr ⟨decide_eq_true (by omega), by omega⟩
        clear hS hr hok hok2 hc
        generalize dueL (l.take k) now = dl at *
        rcases hdk with hd0 | ⟨hd0, hat⟩
        all_goals
          go_wp2_with (at_builtin; refine wpList_append_slo Efi rfl (.tmp 45) (.tmp 50) rfl (by rfl) (HS.out.alloc' _) (by rfl) (Rd.two' _ _ (vu r.amount) (vu r.at_) rfl) (by simp [Value.oneCell']) (by unfold maxLen; omega) (by omega) ?_; intro ao6 cap6 w6 hS6; have H6 := Lib.hid hS6; clear hS6)
          go_roundw
          case rel =>
            refine ⟨k + 1, by omega, by go_num, ?_⟩
            rw [hda.out]
            have e9 : (dl ++ [r]).length = dl.length + 1 := by simp
            have e8 : rflat (dl ++ [r]) = rflat dl ++ [vu r.amount, vu r.at_] := by simp [rflat, List.flatMap_append, Rf.cells]
            show Sat w (slo 61 2 _ (dl ++ [r]).length (rflat (dl ++ [r])) * emp) _
            rw [e9, e8]
            exact H6.out
          case measure => (simp [intOf]; try omega)
      · have hk0 : k ≠ 0 := fun e => hc (.inl e)
        have hat : r.at_ ≤ now := by
          rcases Int.lt_or_le now r.at_ with h1 | h1
          · exact absurd (.inr h1) hc
          · exact h1
        obtain ⟨⟨a, hd1⟩, hd2⟩ := due_merge HM.out hk0 hr hat
        rw [hd1] at hS
        obtain ⟨g, so, scap, rfl⟩ := hS.sloPos (by simp)
        have s0 : wr.cell? ⟨g, so, none⟩ = some (vu (tot (l.take k))) := hS.sloCell 0 rfl
        have s1 : wr.cell? ⟨g, so + 1, none⟩ = some (vu a) := hS.sloCell 1 rfl
        have hokl : OkL l := HR.out.ok
        have hsum : 0 ≤ tot (l.take k) ∧ tot (l.take k) + r.amount ≤ 18446744073709551615 := by
          have h1 := tot_nonneg (l := l.take k) (OkL.sub hokl fun x hx => List.mem_of_mem_take hx)
          have h2 := tot_nonneg (l := l.drop (k + 1)) (OkL.sub hokl fun x hx => List.mem_of_mem_drop hx)
          have h3 : tot l = tot (l.take (k + 1)) + tot (l.drop (k + 1)) := by
            conv => lhs; rw [← List.take_append_drop (k + 1) l]
            rw [tot_append]
          have h4 : tot (l.take (k + 1)) = tot (l.take k) + r.amount := by
            rw [List.take_add_one, hr, tot_append]
            simp [tot]
          have := HM.out.fit
          exact ⟨h1, by omega⟩
        have hw1 : IntKind.u64.wrap (tot (l.take k) + r.amount) = tot (l.take k) + r.amount := IntWalk.u64_in _ (by unfold U64 at hok; omega)
        have hd0 : decide (0 < k) = true := decide_eq_true (by omega)
        have HD2 := Lib.hid hd2
        have hsf := hS.sloFree so
        have hsf1 := hS.sloFree (so + 1)
        have hbg : b ≠ g := by
          obtain ⟨cur, _, _, _, _, hP⟩ := hS.sloP
          have h1 := hP.blk.2
          obtain ⟨b2, off2, e2, x0, _⟩ := HR.out.at_ hr
          cases e2
          have h2 := lt_cell x0
          simp only at h2
          omega
        have HS := Lib.hid hS
        clear hS hr hc hd1 hd2 hsum hlen
        go_wp2
        refine wp_quiet_tail 11 (by kernel_rfl) (by kernel_rfl) ?_
        simp only [List.take_succ_cons, List.take_zero, List.drop_succ_cons, List.drop_zero]
        repeat (go_big_quiet_step (fail))
        refine wpQuiet_nil ?_
        go_wp2
        go_roundw
        case rel =>
          refine ⟨k + 1, by omega, by go_num, ?_⟩
          rw [HD2.out]
          exact (HS.out.drew.sloStore 0 (by simp) (vu (tot (l.take k) + r.amount))).sloStore 1 (by simp) (vu r.at_)
        case measure => (simp [intOf]; try omega)
    · obtain rfl : k = l.length := by omega
      rw [List.take_length] at hS
      go_wp2
      go_ret
      exact ⟨_, rfl, hS⟩
end
end Go.Proofs.Ytknodagcmachiaa.Fi
