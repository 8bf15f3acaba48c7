/-
  Contracts of package refill that make lists: New, Due, less; slices.Clone; the law's own; the reference's Due. No statement is proved here.
-/
import Derived.Test.YtdbppfcilaajaaaGreatMg14
import Derived.Deep.RegionLaw
import Derived.Test.YtdbppfcilaajaaaGreatMg13
namespace Go.Proofs.YtdbppfcilaajaaaGreat.Fi
open Go.RowKit
set_option linter.unusedVariables false

theorem Efi : SlT Tryz.prog 178 244 2 16 (.agg #[vu 0, vu 0]) := SlT.mk' Tryz.underlying178 (by kernel_rfl) rfl (by decide)
theorem Rf.one (r : Rf) : ∀ u ∈ r.cells, u.oneCell' = true := by
  intro u hu
  simp [Rf.cells] at hu
  rcases hu with rfl | rfl <;> rfl
/-- A list of the call's own. -/
abbrev fiS (v : Value) (l : List Rf) : Hp := slo 244 2 v l.length (rflat l)
theorem Sat.base {w w2 w3 : World} {H : Hp} (hb : Below w.heap.size w w2) (h : Sat w2 H w3) : Sat w H w3 := by
  have h0 : Sat w emp w2 := ⟨hb, [], rfl, by simp, by simp⟩
  exact (h0.chain h).cast (sep_emp _)
theorem rflat_one (l : List Rf) : ∀ u ∈ rflat l, u.oneCell' = true := flat_one Rf.one l
theorem rflat_len (l : List Rf) : (rflat l).length = l.length * 2 := flat_len Rf.len l

section
variable {w : World} {v : Value} {l : List Rf}
theorem clone_ (h : RdF w v l) (hl : l.length ≤ 1000000) :
    Calls Tryz.prog 210 #[v] w fun e w' => ∃ v', e = .returned v' ∧ Sat w (fiS v' l * emp) w' := by
  obtain ⟨ao, cap, rfl⟩ := h.rd.len
  have hn := @Lib.run_eql_slice_nil Tryz.prog
  have hone := Lib.hid (rflat_one l)
  have HR := Lib.hid h.rd
  cases ao with
  | none =>
    have hl0 : l = [] := by
      rcases h.rd.2 with ⟨h0, _⟩ | ⟨b, off, c, hv, _⟩
      · exact List.eq_nil_of_length_eq_zero h0
      · cases hv
    subst hl0
    clear h
    go_enter Tryz.func210, Tryz.ntmps210
    go_wp2
    go_ret
    exact ⟨_, rfl, (Sat.start w).sloNil 244 2⟩
  | some a =>
    clear h
    go_enter Tryz.func210, Tryz.ntmps210
    go_wp2_with (at_builtin; refine wpList_append_slo Efi rfl (.tmp 5) (.tmp 6) rfl (by rfl) ((Sat.start w).sl0 244 2).slo (by rfl) (HR.out.below (below_alloc _ _)) hone.out (by unfold maxLen; omega) (by omega) ?_; intro ao1 cap1 w1 hS1; simp only [Nat.zero_add, List.nil_append] at hS1)
    go_ret
    exact ⟨_, by simp, hS1⟩
theorem new_pos (b now : Int) (hb : b ≠ 0) (w : World) :
    Calls Tryz.prog 101 #[vu b, vu now] w fun e w' => ∃ v', e = .returned v' ∧ Sat w (fiS v' [⟨b, now⟩] * emp) w' := by
  have hb2 : (b == 0) = false := beq_eq_false_iff_ne.2 hb
  have hS := Lib.hid ((Sat.start w).sloOne (size := 2) 244 [vu b, vu now] rfl)
  clear hb
  go_enter Tryz.func101, Tryz.ntmps101
  go_wp2
  go_ret
  exact ⟨_, rfl, hS.out⟩
end

section
variable {w0 w : World} {F : Hp} {v : Value} {r : Rf} {t : List Rf}
set_option maxRecDepth 100000 in
set_option maxHeartbeats 1000000 in
theorem less_ (h : Sat w0 (fiS v (r :: t) * F) w) (hu : U64 r.amount) (k : Int) (hk : 0 ≤ k) (hk2 : k ≤ r.amount) (hl : t.length ≤ 1000000) :
    Calls Tryz.prog 194 #[v, vu k] w fun e w' => ∃ v', e = .returned v' ∧ Sat w0 (fiS v' (lessL (r :: t) k) * F) w' := by
  obtain ⟨g, off, cap, rfl⟩ := h.sloPos (by simp)
  have hcap := h.sloCap
  have c0 : w.cell? ⟨g, off, none⟩ = some (vu r.amount) := h.sloCell 0 rfl
  have f0 := h.sloFree off
  have h2 := h.sloStore 0 (by simp) (vu (r.amount - k))
  have e2 : (rflat (r :: t)).set 0 (vu (r.amount - k)) = rflat (⟨r.amount - k, r.at_⟩ :: t) := rfl
  rw [e2, Nat.add_zero] at h2
  have h2 : Sat w0 (fiS (.slice (some ⟨g, off, none⟩) (t.length + 1) cap) (⟨r.amount - k, r.at_⟩ :: t) * F) (w.setCell ⟨g, off, none⟩ (vu (r.amount - k))) := h2
  have d0 : (w.setCell ⟨g, off, none⟩ (vu (r.amount - k))).cell? ⟨g, off, none⟩ = some (vu (r.amount - k)) := h2.sloCell 0 rfl
  have hw : IntKind.u64.wrap (r.amount - k) = r.amount - k := IntWalk.u64_in _ (by unfold U64 at hu; omega)
  have hpos : (0 : Int) < ((t.length : Int) + 1) := by omega
  have hc1 : ((t.length : Int) + 1) ≤ (cap : Int) := by have := hcap.1; simp at this; omega
  have hc1' : t.length + 1 ≤ cap := by have := hcap.1; simpa using this
  simp only [List.length_cons] at *
  by_cases hz : r.amount - k = 0
  · have hle : lessL (r :: t) k = t := by simp [lessL, hz]
    have HLE := Lib.hid hle
    have hz2 : (r.amount - k == 0) = true := by simp [hz]
    have H2 := Lib.hid h2
    have hz3 := Lib.hid hz
    by_cases hcp : cap = 1
    · have HT := Lib.hid (h2.sloTail off (.inl ⟨hcp, rfl⟩))
      obtain rfl : t = [] := List.eq_nil_of_length_eq_zero (by omega)
      subst hcp
      clear h h2 hle hz hu hk hk2 hcap
      go_enter Tryz.func194, Tryz.ntmps194
      go_wp2
      go_ret
      exact ⟨_, rfl, by rw [HLE.out]; exact HT.out⟩
    · have HT := Lib.hid (h2.sloTail (off + 2) (.inr rfl))
      have hcp2 : (cap : Int) ≠ 1 := by omega
      have hcp3 : 1 < cap := by omega
      clear h h2 hle hz hu hk hk2 hcap
      go_enter Tryz.func194, Tryz.ntmps194
      go_wp2
      go_ret
      exact ⟨_, rfl, by rw [HLE.out]; exact HT.out⟩
  · have hle : lessL (r :: t) k = ⟨r.amount - k, r.at_⟩ :: t := by simp [lessL, hz]
    have HLE := Lib.hid hle
    have hz2 : (r.amount - k == 0) = false := beq_eq_false_iff_ne.2 hz
    have H2 := Lib.hid h2
    clear h h2 hle hz hu hk hk2 hcap
    go_enter Tryz.func194, Tryz.ntmps194
    go_wp2
    go_ret
    exact ⟨_, rfl, by rw [HLE.out]; exact H2.out⟩
end
end Go.Proofs.YtdbppfcilaajaaaGreat.Fi

namespace Go.Proofs.YtdbppfcilaajaaaGreat.Fi
open Go.RowKit
set_option linter.unusedVariables false

section
variable {w : World} {v : Value} {l : List Rf}
theorem RdF.take {w : World} {ao : Option Addr} {cap : Nat} (h : RdF w (.slice ao l.length cap) l) (n : Nat) (hn : n ≤ l.length) : RdF w (.slice ao n cap) (l.take n) := by
  refine ⟨⟨?_, ?_⟩, OkL.sub h.ok fun x hx => List.mem_of_mem_take hx⟩
  · rw [rflat_len]
  · have hl : (l.take n).length = n := by rw [List.length_take]; omega
    rw [hl]
    by_cases h0 : n = 0
    · exact .inl ⟨h0, ao, cap, by rw [h0]⟩
    · obtain ⟨b, off, c, hv, hc⟩ := h.rd.pos (by omega)
      cases hv
      refine .inr ⟨b, off, cap, rfl, fun j u hj => hc j u ?_⟩
      have e := flat_take Rf.len l n
      rw [show rflat (l.take n) = (rflat l).take (n * 2) from e.symm, List.getElem?_take] at hj
      split at hj
      · exact hj
      · cases hj
theorem rflat_drop (l : List Rf) (n : Nat) : rflat (l.drop n) = (rflat l).drop (n * 2) := by
  induction n generalizing l with
  | zero => simp
  | succ n ih =>
    match l with
    | [] => simp
    | r :: t =>
      have e : rflat (r :: t) = r.cells ++ rflat t := rfl
      have e2 : r.cells.drop ((n + 1) * 2) = [] := List.drop_eq_nil_of_le (by rw [Rf.len]; omega)
      rw [List.drop_succ_cons, ih, e, List.drop_append, Rf.len, e2, show (n + 1) * 2 - 2 = n * 2 by omega]
      rfl
theorem RdF.drop {w : World} {b off cap : Nat} (h : RdF w (.slice (some ⟨b, off, none⟩) l.length cap) l) (n : Nat) (hn : n ≤ l.length) (o : Nat) (ho : o = off + n * 2 ∨ n = l.length) : Rd w 2 (.slice (some ⟨b, o, none⟩) (l.length - n) (cap - n)) (l.length - n) (rflat (l.drop n)) := by
  refine ⟨by rw [rflat_len, List.length_drop], ?_⟩
  by_cases h0 : n = l.length
  · exact .inl ⟨by omega, some ⟨b, o, none⟩, cap - n, by rw [show l.length - n = 0 by omega]⟩
  · have ho2 := ho.resolve_right h0
    subst ho2
    obtain ⟨b', off', c, hv, hc⟩ := h.rd.pos (by omega)
    cases hv
    refine .inr ⟨b, off + n * 2, cap - n, rfl, fun j u hj => ?_⟩
    rw [rflat_drop, List.getElem?_drop] at hj
    rw [Nat.add_assoc]
    exact hc _ u hj

theorem Rd.two' (w : World) (T : TypeId) (a b : Value) {g : Nat} (hg : g = w.heap.size) : Rd (w.alloc (.cells #[a, b] T)) 2 (.slice (some ⟨g, 0, none⟩) 1 1) 1 [a, b] := by
  subst hg
  refine ⟨rfl, .inr ⟨_, _, _, rfl, fun j u hj => ?_⟩⟩
  rcases j with _ | _ | j
  all_goals simp at hj
  all_goals (try (subst hj; simp))
/-- A slice is within its array. -/
def Room (v : Value) (n : Nat) : Prop := ∀ ao c, v = .slice ao n c → n ≤ c
theorem Sat.room {w0 w : World} {F : Hp} {v : Value} {l : List Rf} (h : Sat w0 (fiS v l * F) w) : Room v l.length := by
  intro ao c hv
  rcases h.sloE.2 with ⟨_, h0, _⟩ | ⟨g, off, cap, cur, hv2, h1, _⟩
  · omega
  · rw [hv] at hv2
    injection hv2 with _ _ e
    omega
set_option maxRecDepth 100000 in
set_option maxHeartbeats 2000000 in
theorem due_yes (now : Int) (h : RdF w v l) (hrm : Room v l.length) (hl : l.length ≤ 1000000) (hm : MayL l) :
    Calls Tryz.prog 195 #[v, vu now] w fun e w' => ∃ v', e = .returned v' ∧ Sat w (fiS v' (dueL l now) * emp) w' := by
  have hok := h.ok
  have H1 := Lib.hid (thereN_ l now v w h hl)
  have HM : Hid (∀ w', Below w.heap.size w w' → Calls Tryz.prog 192 #[v] w' fun e w2 => e = .returned (.bool true) ∧ Below w'.heap.size w' w2) := Lib.hid fun w' hb => by
    have := may_ l v w' (h.below hb) hl
    rw [mayB_yes hm] at this
    exact this
  have HC : Hid (∀ w', Below w.heap.size w w' → Calls Tryz.prog 210 #[v] w' fun e w2 => ∃ v', e = .returned v' ∧ Sat w' (fiS v' l * emp) w2) := Lib.hid fun w' hb => clone_ (h.below hb) hl
  have hle := thN_le l now
  by_cases h0 : thN l now = 0
  · rw [h0] at H1
    have HD := Lib.hid (due_zero h0)
    clear h hm hok hle h0
    go_enter Tryz.func195, Tryz.ntmps195
    go_wp2_with (first
      | (go_at_call 193; refine H1.out.mono ?_; rintro e w1 ⟨rfl, hb⟩; have HB1 := Lib.hid hb; clear hb)
      | (go_at_call 192; refine (HM.out _ HB1.out).mono ?_; rintro e w2 ⟨rfl, hb⟩; have HB2 := Lib.hid (Below.then HB1.out hb); clear hb)
      | (go_at_call 210; refine (HC.out _ HB2.out).mono ?_; rintro e w3 ⟨v', rfl, hS⟩; have HS := Lib.hid (Sat.base HB2.out hS); clear hS))
    go_ret
    exact ⟨_, rfl, by rw [HD.out]; exact HS.out⟩
  · obtain ⟨r, hr, hat, hd⟩ := due_pos h0
    obtain ⟨ao, cap, rfl⟩ := h.rd.len
    obtain ⟨b, off, rfl, -, c1, -, hur⟩ := h.at_ hr
    have hT : sumP (l.take (thN l now)) = some (tot (l.take (thN l now))) := by
      rw [sumP_eq (OkL.sub hok fun x hx => List.mem_of_mem_take hx), if_neg]
      have h1 := tot_nonneg (l := l.drop (thN l now)) (OkL.sub hok fun x hx => List.mem_of_mem_drop hx)
      have h2 : tot l = tot (l.take (thN l now)) + tot (l.drop (thN l now)) := by
        conv => lhs; rw [← List.take_append_drop (thN l now) l]
        rw [tot_append]
      have := hm.fit
      omega
    have HTo : Hid (∀ w', Below w.heap.size w w' → Calls Tryz.prog 228 #[.slice (some ⟨b, off, none⟩) (thN l now) cap] w' fun e w2 => e = .returned (.tuple #[vu (tot (l.take (thN l now))), .bool true]) ∧ Below w'.heap.size w' w2) := Lib.hid fun w' hb => by
      have := total_ _ _ w' ((h.below hb).take _ hle) (by rw [List.length_take]; omega)
      rw [hT] at this
      exact this
    have HD := Lib.hid hd
    have HR := Lib.hid h
    have hone := Lib.hid (rflat_one (l.drop (thN l now)))
    have hcapn : l.length ≤ cap := hrm _ _ rfl
    have HDr : Hid (Rd w 2 (.slice (if cap = thN l now then some ⟨b, off, none⟩ else some ⟨b, off + thN l now * 2, none⟩) (l.length - thN l now) (cap - thN l now)) (l.length - thN l now) (rflat (l.drop (thN l now)))) := Lib.hid (by
      split
      · exact h.drop _ hle _ (.inr (by omega))
      · exact h.drop _ hle _ (.inl rfl))
    have HTT : Hid (0 ≤ tot (l.take (thN l now))) := Lib.hid (tot_nonneg (OkL.sub hok fun x hx => List.mem_of_mem_take hx))
    obtain ⟨m, hmm⟩ : ∃ m, m = thN l now - 1 := ⟨_, rfl⟩
    rw [← hmm] at c1
    have hw1 : IntKind.i64.wrap ((thN l now : Int) - 1) = (m : Int) := by rw [IntWalk.i64_in _ (by omega)]; omega
    have hz0 : ((thN l now : Int) == 0) = false := beq_eq_false_iff_ne.2 (by omega)
    have i1 : (thN l now : Int) ≤ (cap : Int) := by omega
    have i2 : thN l now ≤ cap := by omega
    have i3 : (m : Int) < (l.length : Int) := by omega
    have i4 : (thN l now : Int) ≤ (l.length : Int) := by omega
    have i5 : (l.length : Int) ≤ (cap : Int) := by omega
    have hln : l.length ≤ 1000000 := hl
    have HW1 : Hid (∀ w', Below w.heap.size w w' → w'.cell? ⟨b, off + m * 2 + 1, none⟩ = some (vu r.at_)) := Lib.hid fun w' hb => (hb.cell (p := ⟨b, off + m * 2 + 1, none⟩) (lt_cell c1)).trans c1
    have HLD : Hid ((dueL l now).length = 1 + (l.length - thN l now)) := Lib.hid (by rw [hd, List.length_cons, List.length_drop]; omega)
    clear hd hT hok hm hr h hat c1 hrm h0 hur
    have HLE := Lib.hid hle
    generalize tot (l.take (thN l now)) = s at *
    generalize hnn : thN l now = nn at *
    have HNN := Lib.hid hnn
    clear hnn
    clear hmm
    go_enter Tryz.func195, Tryz.ntmps195
    go_wp2_with (first
      | (go_at_call 193; refine H1.out.mono ?_; rintro e w1 ⟨rfl, hb⟩; have HB1 := Lib.hid hb; clear hb)
      | (go_at_call 192; refine (HM.out _ HB1.out).mono ?_; rintro e w2 ⟨rfl, hb⟩; have HB2 := Lib.hid (Below.then HB1.out hb); clear hb)
      | (go_at_call 228; refine (HTo.out _ HB2.out).mono ?_; rintro e w3 ⟨rfl, hb⟩; have HB3 := Lib.hid (Below.then HB2.out hb); clear hb; have e1 := HW1.out _ HB3.out))
    have HSt : Hid (Sat w3 emp w3) := Lib.hid (Sat.start w3)
    go_region_held3 (fun w' => w'.cell? ⟨b, off + m * 2 + 1, none⟩ = some (vu r.at_))
      (first | exact e2 | go_keep)
      ((refine step_append_slo Efi (by rfl) _ _ (by rfl) (by rfl) ((HSt.out.drewN 1).sloOne (size := 2) 244 [vu s, vu r.at_] rfl) (by rfl) (HDr.out.below (Below.then (drewB HB3.out 1) (below_alloc _ _))) hone.out (by unfold maxLen; omega) (by omega) ?_; intro ao1 cap1 w4 hS4; have e2 : w4.cell? ⟨b, off + m * 2 + 1, none⟩ = some (vu r.at_) := (hS4.old (lt_cell e1)).trans e1; have HS4 := Lib.hid hS4; clear hS4))
    have h9 := Lib.hid (Sat.base HB3.out HS4.out)
    go_wp2
    all_goals
      go_ret
      refine ⟨_, rfl, ?_⟩
      rw [HD.out]
      have e9 : (⟨s, r.at_⟩ :: l.drop nn : List Rf).length = 1 + (l.length - nn) := by simp; omega
      show Sat w (slo 244 2 _ (⟨s, r.at_⟩ :: l.drop nn : List Rf).length _ * emp) _
      rw [e9]
      exact h9.out

end
end Go.Proofs.YtdbppfcilaajaaaGreat.Fi

namespace Go.Proofs.YtdbppfcilaajaaaGreat.Fi
open Go.RowKit
set_option linter.unusedVariables false

section
variable {r x y : Rf} {t a init out l : List Rf} {k back most now T : Int}
theorem lessL_cons : lessL (r :: t) k = if r.amount - k = 0 then t else ⟨r.amount - k, r.at_⟩ :: t := rfl
theorem less_may (h : MayL (r :: t)) (hok : OkL (r :: t)) (h1 : 1 ≤ k) (h2 : k ≤ r.amount) :
    MayL (lessL (r :: t) k) ∧ OkL (lessL (r :: t) k) ∧ tot (lessL (r :: t) k) = tot (r :: t) - k ∧ (lessL (r :: t) k).length ≤ (r :: t).length := by
  rw [lessL_cons]
  have hf := h.fit
  simp only [tot] at hf
  split
  · refine ⟨may_tail h, hok.tail, ?_, by simp⟩
    simp only [tot]
    omega
  · have hu := hok.head
    unfold U64 at hu
    refine ⟨may_cons (by simp only; omega) (may_tail h) (fun s hs => h.adj 0 r s rfl (by simpa using hs)) (by simp only [tot]; omega), ?_, ?_, by simp⟩
    · intro z hz
      rcases List.mem_cons.1 hz with rfl | hz
      · exact ⟨⟨by simp only; omega, by simp only; omega⟩, hok.head.2⟩
      · exact hok z (List.mem_cons_of_mem _ hz)
    · simp only [tot]
      omega
theorem putL_nil : putL [] back most = [⟨1, back⟩] := rfl
theorem putL_app : putL (init ++ [x]) back most = if back ≤ x.at_ then init ++ [⟨x.amount + 1, x.at_⟩] else if ((init.length + 1 : Nat) : Int) < most then init ++ [x] ++ [⟨1, back⟩] else init ++ [⟨x.amount + 1, back⟩] := by
  unfold putL
  rw [List.getLast?_append]
  simp
theorem may_snoc (h : MayL a) (h1 : 1 ≤ y.amount) (h2 : ∀ z, a[a.length - 1]? = some z → z.at_ < y.at_) (h3 : tot a + y.amount ≤ 18446744073709551615) : MayL (a ++ [y]) := by
  refine ⟨?_, ?_, by rw [tot_append]; simp only [tot]; omega⟩
  · intro k z hz
    by_cases hk : k < a.length
    · rw [List.getElem?_append_left hk] at hz
      exact h.pos k z hz
    · rw [List.getElem?_append_right (by omega)] at hz
      obtain ⟨hl, e⟩ := List.getElem?_eq_some_iff.1 hz
      simp at hl e
      subst e
      exact h1
  · intro k z s hz hs
    have hl := (List.getElem?_eq_some_iff.1 hs).1
    simp at hl
    by_cases hk : k + 1 < a.length
    · rw [List.getElem?_append_left (by omega)] at hz
      rw [List.getElem?_append_left hk] at hs
      exact h.adj k z s hz hs
    · rw [List.getElem?_append_left (by omega)] at hz
      rw [List.getElem?_append_right (by omega), show k + 1 - a.length = 0 by omega] at hs
      simp at hs
      subst hs
      exact h2 z (by rw [show a.length - 1 = k by omega]; exact hz)
theorem may_init (h : MayL (init ++ [x])) (hx : 0 ≤ x.amount) : MayL init ∧ ∀ z, init[init.length - 1]? = some z → z.at_ < x.at_ := by
  refine ⟨⟨?_, ?_, ?_⟩, ?_⟩
  · intro k z hz
    exact h.pos k z (by rw [List.getElem?_append_left (List.getElem?_eq_some_iff.1 hz).1]; exact hz)
  · intro k z s hz hs
    exact h.adj k z s (by rw [List.getElem?_append_left (List.getElem?_eq_some_iff.1 hz).1]; exact hz) (by rw [List.getElem?_append_left (List.getElem?_eq_some_iff.1 hs).1]; exact hs)
  · have := h.fit
    rw [tot_append] at this
    simp only [tot] at this
    omega
  · intro z hz
    have hl := (List.getElem?_eq_some_iff.1 hz).1
    refine h.adj (init.length - 1) z x (by rw [List.getElem?_append_left hl]; exact hz) ?_
    rw [show init.length - 1 + 1 = init.length by omega, List.getElem?_append_right (Nat.le_refl _), Nat.sub_self]
    rfl
theorem put_may (h : MayL out) (hok : OkL out) (hf : tot out + 1 ≤ 18446744073709551615) (hb : U64 back) :
    MayL (putL out back most) ∧ OkL (putL out back most) ∧ tot (putL out back most) = tot out + 1 := by
  rcases List.eq_nil_or_concat out with rfl | ⟨init, x, rfl⟩
  · rw [putL_nil]
    refine ⟨⟨?_, ?_, by simp [tot]⟩, ?_, by simp [tot]⟩
    · intro k z hz
      have := (List.getElem?_eq_some_iff.1 hz).1
      simp at this
      subst this
      simp at hz
      subst hz
      simp
    · intro k z s hz hs
      have := (List.getElem?_eq_some_iff.1 hs).1
      simp at this
    · intro z hz
      simp at hz
      subst hz
      exact ⟨⟨by simp, by simp⟩, hb⟩
  · rw [List.concat_eq_append] at *
    rw [putL_app]
    have hx := hok x (by simp)
    have hx1 := h.pos init.length x (by simp)
    obtain ⟨hi, hl⟩ := may_init h (by omega)
    rw [tot_append] at hf ⊢
    simp only [tot] at hf ⊢
    have hni := tot_nonneg (l := init) (OkL.sub hok fun z hz => by simp [hz])
    have hoki : OkL init := OkL.sub hok fun z hz => by simp [hz]
    have hone : ∀ y : Rf, U64 y.amount ∧ U64 y.at_ → OkL (init ++ [y]) := fun y hy => OkL.app hoki (fun z hz => by simp at hz; subst hz; exact hy)
    unfold U64 at hx
    split
    · refine ⟨may_snoc hi (by simp only; omega) (fun z hz => by have := hl z hz; simp only; omega) (by simp only; omega), hone _ ⟨⟨by simp only; omega, by simp only; omega⟩, hx.2⟩, ?_⟩
      rw [tot_append]
      simp only [tot]
      omega
    · rename_i hlt
      split
      · refine ⟨may_snoc h (by simp) (fun z hz => ?_) (by rw [tot_append]; simp only [tot]; omega), OkL.app hok (fun z hz => by simp at hz; subst hz; exact ⟨⟨by simp, by simp⟩, hb⟩), ?_⟩
        · simp at hz
          subst hz
          simp only
          omega
        · rw [tot_append, tot_append]
          simp only [tot]
          omega
      · refine ⟨may_snoc hi (by simp only; omega) (fun z hz => by have := hl z hz; simp only; omega) (by simp only; omega), hone _ ⟨⟨by simp only; omega, by simp only; omega⟩, hb⟩, ?_⟩
        rw [tot_append]
        simp only [tot]
        omega
theorem put_len (h : (out.length : Int) ≤ most) (h1 : 1 ≤ most) : ((putL out back most).length : Int) ≤ most := by
  rcases List.eq_nil_or_concat out with rfl | ⟨init, x, rfl⟩
  · rw [putL_nil]
    simpa using h1
  · rw [List.concat_eq_append] at *
    rw [putL_app]
    simp at h
    split
    · simpa using h
    · split
      · simp
        omega
      · simpa using h
/-- When one can be used. -/
structure ChOk (l : List Rf) (now period most : Int) : Prop where
  may : MayL l
  m1 : 1 ≤ most
  len : (l.length : Int) ≤ most
  per : period ≠ 0
  fits : now + period ≤ 18446744073709551615
  th : thN l now ≠ 0
def chargeL (l : List Rf) (now period most : Int) : List Rf := putL (lessL (dueL l now) 1) (now + period) most
theorem due_cons (h : MayL l) (hok : OkL l) (h0 : thN l now ≠ 0) : ∃ r t, dueL l now = r :: t ∧ r.at_ ≤ now ∧ 1 ≤ r.amount := by
  obtain ⟨z, hz, hat, hd⟩ := due_pos h0
  have hm := may_due (now := now) h hok
  rw [hd] at hm ⊢
  exact ⟨_, _, rfl, hat, hm.pos 0 _ rfl⟩
theorem charge_law {period : Int} (h : ChOk l now period most) (hok : OkL l) (hn : 0 ≤ now) (hp : 0 ≤ period) :
    MayL (chargeL l now period most) ∧ OkL (chargeL l now period most) ∧ tot (chargeL l now period most) = tot l ∧ ((chargeL l now period most).length : Int) ≤ most := by
  obtain ⟨r, t, hd, hat, h1⟩ := due_cons h.may hok h.th
  have hm := may_due (now := now) h.may hok
  have hk := ok_due (now := now) h.may hok
  have ht := tot_due l now
  have hl := due_len l now
  unfold chargeL
  rw [hd] at hm hk ht hl ⊢
  obtain ⟨a1, a2, a3, a4⟩ := less_may hm hk (k := 1) (by omega) h1
  have hf := h.may.fit
  have hfi := h.fits
  obtain ⟨b1, b2, b3⟩ := put_may (most := most) (back := now + period) a1 a2 (by omega) ⟨by omega, by omega⟩
  have hle := h.len
  exact ⟨b1, b2, by omega, put_len (by omega) h.m1⟩
end
end Go.Proofs.YtdbppfcilaajaaaGreat.Fi

namespace Go.Proofs.YtdbppfcilaajaaaGreat.Fi
open Go.RowKit
set_option linter.unusedVariables false

section
variable {w0 w : World} {F : Hp} {g so cap m : Nat} {init : List Rf} {x : Rf}
theorem fi_last (h : Sat w0 (slo 244 2 (.slice (some ⟨g, so, none⟩) (m + 1) cap) (m + 1) (rflat (init ++ [x])) * F) w) (hm : m = init.length) :
    w.cell? ⟨g, so + m * 2, none⟩ = some (vu x.amount) ∧ w.cell? ⟨g, so + m * 2 + 1, none⟩ = some (vu x.at_) ∧ (∀ i, w.frozen? ⟨g, i, none⟩ = false) := by
  subst hm
  have hx : (init ++ [x])[init.length]? = some x := by simp
  have c0 := h.sloCell (init.length * 2 + 0) (flat_get Rf.len hx rfl)
  have c1 := h.sloCell (init.length * 2 + 1) (flat_get Rf.len hx rfl)
  exact ⟨c0, c1, fun i => h.sloFree i⟩
theorem fi_setA (h : Sat w0 (slo 244 2 (.slice (some ⟨g, so, none⟩) (m + 1) cap) (m + 1) (rflat (init ++ [x])) * F) w) (hm : m = init.length) (a : Int) :
    Sat w0 (slo 244 2 (.slice (some ⟨g, so, none⟩) (m + 1) cap) (m + 1) (rflat (init ++ [⟨a, x.at_⟩])) * F) (w.setCell ⟨g, so + m * 2, none⟩ (vu a)) := by
  subst hm
  have hx : (init ++ [x])[init.length]? = some x := by simp
  have h1 := h.sloStore (init.length * 2 + 0) (by omega) (vu a)
  rw [flat_set Rf.len (init ++ [x]) init.length 0 x ⟨a, x.at_⟩ (vu a) hx (by omega) rfl] at h1
  simpa using h1
theorem fi_setT (h : Sat w0 (slo 244 2 (.slice (some ⟨g, so, none⟩) (m + 1) cap) (m + 1) (rflat (init ++ [x])) * F) w) (hm : m = init.length) (a : Int) :
    Sat w0 (slo 244 2 (.slice (some ⟨g, so, none⟩) (m + 1) cap) (m + 1) (rflat (init ++ [⟨x.amount, a⟩])) * F) (w.setCell ⟨g, so + m * 2 + 1, none⟩ (vu a)) := by
  subst hm
  have hx : (init ++ [x])[init.length]? = some x := by simp
  have h1 := h.sloStore (init.length * 2 + 1) (by omega) (vu a)
  rw [flat_set Rf.len (init ++ [x]) init.length 1 x ⟨x.amount, a⟩ (vu a) hx (by omega) rfl] at h1
  simpa [Nat.add_assoc] using h1
end

section
variable {w : World} {v : Value} {l : List Rf} {now period most : Int}
set_option maxHeartbeats 4000000 in
theorem charge_no (h : RdF w v l) (hl : l.length ≤ 1000000) (hn : U64 now) (hp : U64 period) (hc : ¬ ChOk l now period most) :
    Calls Tryz.prog 143 #[v, vu now, vu period, vi most] w fun e w' => e = .returned (.tuple #[.slice none 0 0, .bool false]) ∧ Below w.heap.size w w' := by
  obtain ⟨ao, cap, rfl⟩ := h.rd.len
  have HM : Hid (∀ w', Below w.heap.size w w' → Calls Tryz.prog 192 #[.slice ao l.length cap] w' fun e w2 => e = .returned (.bool (mayB l)) ∧ Below w'.heap.size w' w2) := Lib.hid fun w' hb => may_ l _ w' (h.below hb) hl
  have HT : Hid (∀ w', Below w.heap.size w w' → Calls Tryz.prog 193 #[.slice ao l.length cap, vu now] w' fun e w2 => e = .returned (vi (thN l now)) ∧ Below w'.heap.size w' w2) := Lib.hid fun w' hb => thereN_ l now _ w' (h.below hb) hl
  have HA := Lib.hid (nadd now period hn hp w)
  obtain ⟨ax, ab, hv, hv1, hv2⟩ := addV_form (addP now period)
  rw [hv] at HA
  by_cases c1 : MayL l
  · rw [mayB_yes c1] at HM
    by_cases c2 : most < 1
    · clear c1 h hn hp hc hv hv1 hv2
      go_enter Tryz.func143, Tryz.ntmps143
      go_wp2_with (first
        | (go_at_call 191; refine HA.out.mono ?_; rintro e w' ⟨rfl, rfl⟩)
        | (go_at_call 192; refine (HM.out _ (Below.refl _ _)).mono ?_; rintro e w1 ⟨rfl, hb⟩; have HB1 := Lib.hid hb; clear hb))
      go_ret2
      exact ⟨rfl, HB1.out⟩
    by_cases c3 : most < (l.length : Int)
    · clear c1 h hn hp hc hv hv1 hv2
      go_enter Tryz.func143, Tryz.ntmps143
      go_wp2_with (first
        | (go_at_call 191; refine HA.out.mono ?_; rintro e w' ⟨rfl, rfl⟩)
        | (go_at_call 192; refine (HM.out _ (Below.refl _ _)).mono ?_; rintro e w1 ⟨rfl, hb⟩; have HB1 := Lib.hid hb; clear hb))
      go_ret2
      exact ⟨rfl, HB1.out⟩
    by_cases c4 : period = 0
    · subst c4
      clear c1 h hn hp hc hv hv1 hv2
      go_enter Tryz.func143, Tryz.ntmps143
      go_wp2_with (first
        | (go_at_call 191; refine HA.out.mono ?_; rintro e w' ⟨rfl, rfl⟩)
        | (go_at_call 192; refine (HM.out _ (Below.refl _ _)).mono ?_; rintro e w1 ⟨rfl, hb⟩; have HB1 := Lib.hid hb; clear hb))
      go_ret2
      exact ⟨rfl, HB1.out⟩
    have c4' : (period == 0) = false := beq_eq_false_iff_ne.2 c4
    by_cases c5 : 18446744073709551615 < now + period
    · have hab : ab = false := by
        cases ab with
        | false => rfl
        | true =>
          have := hv1 rfl
          rw [addP, if_pos c5] at this
          cases this
      subst hab
      clear c1 c5 h hn hp hc hv hv1 hv2 c4
      go_enter Tryz.func143, Tryz.ntmps143
      go_wp2_with (first
        | (go_at_call 191; refine HA.out.mono ?_; rintro e w' ⟨rfl, rfl⟩)
        | (go_at_call 192; refine (HM.out _ (Below.refl _ _)).mono ?_; rintro e w1 ⟨rfl, hb⟩; have HB1 := Lib.hid hb; clear hb))
      go_ret2
      exact ⟨rfl, HB1.out⟩
    have hab : ab = true := by
      cases ab with
      | true => rfl
      | false =>
        have := (hv2 rfl).1
        rw [addP, if_neg c5] at this
        cases this
    subst hab
    by_cases c6 : thN l now = 0
    · rw [c6] at HT
      clear c1 c5 h hn hp hc hv hv1 hv2 c4 c6
      go_enter Tryz.func143, Tryz.ntmps143
      go_wp2_with (first
        | (go_at_call 191; refine HA.out.mono ?_; rintro e w' ⟨rfl, rfl⟩)
        | (go_at_call 192; refine (HM.out _ (Below.refl _ _)).mono ?_; rintro e w1 ⟨rfl, hb⟩; have HB1 := Lib.hid hb; clear hb)
        | (go_at_call 193; refine (HT.out _ HB1.out).mono ?_; rintro e w2 ⟨rfl, hb⟩; have HB2 := Lib.hid (Below.then HB1.out hb); clear hb))
      go_ret2
      exact ⟨rfl, HB2.out⟩
    · exact absurd ⟨c1, by omega, by omega, c4, by omega, c6⟩ hc
  · rw [mayB_no c1] at HM
    clear c1 h hn hp hc hv hv1 hv2
    go_enter Tryz.func143, Tryz.ntmps143
    go_wp2_with (first
      | (go_at_call 191; refine HA.out.mono ?_; rintro e w' ⟨rfl, rfl⟩)
      | (go_at_call 192; refine (HM.out _ (Below.refl _ _)).mono ?_; rintro e w1 ⟨rfl, hb⟩; have HB1 := Lib.hid hb; clear hb))
    go_ret2
    exact ⟨rfl, HB1.out⟩

end
end Go.Proofs.YtdbppfcilaajaaaGreat.Fi
