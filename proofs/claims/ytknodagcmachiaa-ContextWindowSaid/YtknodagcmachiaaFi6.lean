/-
  Contracts of package refill that make lists: New, Due, less; slices.Clone; the law's own; the reference's Due. No statement is proved here.
-/
import Derived.Test.YtknodagcmachiaaFi5
namespace Go.Proofs.Ytknodagcmachiaa.Fi
open Go.RowKit
set_option linter.unusedVariables false

theorem Efi : SlT Try.prog 47 61 2 16 (.agg #[vu 0, vu 0]) := SlT.mk' Try.underlying47 (by kernel_rfl) rfl (by decide)
theorem Rf.one (r : Rf) : ∀ u ∈ r.cells, u.oneCell' = true := by
  intro u hu
  simp [Rf.cells] at hu
  rcases hu with rfl | rfl <;> rfl
/-- A list of the call's own. -/
abbrev fiS (v : Value) (l : List Rf) : Hp := slo 61 2 v l.length (rflat l)
theorem Sat.base {w w2 w3 : World} {H : Hp} (hb : Below w.heap.size w w2) (h : Sat w2 H w3) : Sat w H w3 := by
  have h0 : Sat w emp w2 := ⟨hb, [], rfl, by simp, by simp⟩
  exact (h0.chain h).cast (sep_emp _)
theorem Sat.fiR {w0 w : World} {F : Hp} {v : Value} {l : List Rf} (h : Sat w0 (fiS v l * F) w) (hok : OkL l) : RdF w v l := ⟨h.sloRd, hok⟩
theorem rflat_one (l : List Rf) : ∀ u ∈ rflat l, u.oneCell' = true := flat_one Rf.one l
theorem rflat_len (l : List Rf) : (rflat l).length = l.length * 2 := flat_len Rf.len l

section
variable {w : World} {v : Value} {l : List Rf}
theorem clone_ (h : RdF w v l) (hl : l.length ≤ 1000000) :
    Calls Try.prog 94 #[v] w fun e w' => ∃ v', e = .returned v' ∧ Sat w (fiS v' l * emp) w' := by
  obtain ⟨ao, cap, rfl⟩ := h.rd.len
  have hn := @Lib.run_eql_slice_nil Try.prog
  have hone := Lib.hid (rflat_one l)
  have HR := Lib.hid h.rd
  cases ao with
  | none =>
    have hl0 : l = [] := by
      rcases h.rd.2 with ⟨h0, _⟩ | ⟨b, off, c, hv, _⟩
      · exact List.eq_nil_of_length_eq_zero h0
      · cases hv
    subst hl0
    clear h
    go_enter Try.func94, Try.ntmps94
    go_wp2
    go_ret
    exact ⟨_, rfl, (Sat.start w).sloNil 61 2⟩
  | some a =>
    clear h
    go_enter Try.func94, Try.ntmps94
    go_wp2_with (at_builtin; refine wpList_append_slo Efi rfl (.tmp 5) (.tmp 6) rfl (by rfl) ((Sat.start w).sl0 61 2).slo (by rfl) (HR.out.below (below_alloc _ _)) hone.out (by unfold maxLen; omega) (by omega) ?_; intro ao1 cap1 w1 hS1; simp only [Nat.zero_add, List.nil_append] at hS1)
    go_ret
    exact ⟨_, by simp, hS1⟩
theorem new_zero (now : Int) (w : World) :
    Calls Try.prog 37 #[vu 0, vu now] w fun e w' => e = .returned (.slice none 0 0) ∧ w = w' := by
  go_enter Try.func37, Try.ntmps37
  go_wp2
  go_ret
  exact ⟨rfl, rfl⟩
theorem new_pos (b now : Int) (hb : b ≠ 0) (w : World) :
    Calls Try.prog 37 #[vu b, vu now] w fun e w' => ∃ v', e = .returned v' ∧ Sat w (fiS v' [⟨b, now⟩] * emp) w' := by
  have hb2 : (b == 0) = false := beq_eq_false_iff_ne.2 hb
  have hS := Lib.hid ((Sat.start w).sloOne (size := 2) 61 [vu b, vu now] rfl)
  clear hb
  go_enter Try.func37, Try.ntmps37
  go_wp2
  go_ret
  exact ⟨_, rfl, hS.out⟩
end

section
variable {w0 w : World} {F : Hp} {v : Value} {r : Rf} {t : List Rf}
set_option maxRecDepth 100000 in
set_option maxHeartbeats 1000000 in
theorem less_ (h : Sat w0 (fiS v (r :: t) * F) w) (hu : U64 r.amount) (k : Int) (hk : 0 ≤ k) (hk2 : k ≤ r.amount) (hl : t.length ≤ 1000000) :
    Calls Try.prog 79 #[v, vu k] w fun e w' => ∃ v', e = .returned v' ∧ Sat w0 (fiS v' (lessL (r :: t) k) * F) w' := by
  obtain ⟨g, off, cap, rfl⟩ := h.sloPos (by simp)
  have hcap := h.sloCap
  have c0 : w.cell? ⟨g, off, none⟩ = some (vu r.amount) := h.sloCell 0 rfl
  have f0 := h.sloFree off
  have h2 := h.sloStore 0 (by simp) (vu (r.amount - k))
  have e2 : (rflat (r :: t)).set 0 (vu (r.amount - k)) = rflat (⟨r.amount - k, r.at_⟩ :: t) := rfl
  rw [e2, Nat.add_zero] at h2
  have h2 : Sat w0 (fiS (.slice (some ⟨g, off, none⟩) (t.length + 1) cap) (⟨r.amount - k, r.at_⟩ :: t) * F) (w.setCell ⟨g, off, none⟩ (vu (r.amount - k))) := h2
  have d0 : (w.setCell ⟨g, off, none⟩ (vu (r.amount - k))).cell? ⟨g, off, none⟩ = some (vu (r.amount - k)) := h2.sloCell 0 rfl
  have hw : IntKind.u64.wrap (r.amount - k) = r.amount - k := IntWalk.u64_in _ (by unfold U64 at hu; omega)
  have hpos : (0 : Int) < ((t.length : Int) + 1) := by omega
  have hc1 : ((t.length : Int) + 1) ≤ (cap : Int) := by have := hcap.1; simp at this; omega
  have hc1' : t.length + 1 ≤ cap := by have := hcap.1; simpa using this
  simp only [List.length_cons] at *
  by_cases hz : r.amount - k = 0
  · have hle : lessL (r :: t) k = t := by simp [lessL, hz]
    have HLE := Lib.hid hle
    have hz2 : (r.amount - k == 0) = true := by simp [hz]
    have H2 := Lib.hid h2
    have hz3 := Lib.hid hz
    by_cases hcp : cap = 1
    · have HT := Lib.hid (h2.sloTail off (.inl ⟨hcp, rfl⟩))
      obtain rfl : t = [] := List.eq_nil_of_length_eq_zero (by omega)
      subst hcp
      clear h h2 hle hz hu hk hk2 hcap
      go_enter Try.func79, Try.ntmps79
      go_wp2
      go_ret
      exact ⟨_, rfl, by rw [HLE.out]; exact HT.out⟩
    · have HT := Lib.hid (h2.sloTail (off + 2) (.inr rfl))
      have hcp2 : (cap : Int) ≠ 1 := by omega
      have hcp3 : 1 < cap := by omega
      clear h h2 hle hz hu hk hk2 hcap
      go_enter Try.func79, Try.ntmps79
      go_wp2
      go_ret
      exact ⟨_, rfl, by rw [HLE.out]; exact HT.out⟩
  · have hle : lessL (r :: t) k = ⟨r.amount - k, r.at_⟩ :: t := by simp [lessL, hz]
    have HLE := Lib.hid hle
    have hz2 : (r.amount - k == 0) = false := beq_eq_false_iff_ne.2 hz
    have H2 := Lib.hid h2
    clear h h2 hle hz hu hk hk2 hcap
    go_enter Try.func79, Try.ntmps79
    go_wp2
    go_ret
    exact ⟨_, rfl, by rw [HLE.out]; exact H2.out⟩
end
end Go.Proofs.Ytknodagcmachiaa.Fi
