/-
  Law 09: Same of equal lists; what carving and giving back leaves. No statement is proved here.
-/
import Derived.Test.YtfioghpnehfjhaaGm8
namespace Go.Proofs.Ytfioghpnehfjhaa.Dm
open Go.RowKit Ad
set_option linter.unusedVariables false
set_option linter.unusedSimpArgs false

section
variable {w0 w : World} {F : Hp}
set_option maxRecDepth 100000 in
set_option maxHeartbeats 4000000 in
theorem rd_same {l : List (Nat × Int × El)} {va vb : Value} (hS : Sat w0 (sl 69 13 va l.length (fpd l) * (sl 69 13 vb l.length (fpd l) * F)) w) (hl : l.length ≤ 1000) :
    Calls Try.prog 27 #[va, vb] w fun e w' => e = .returned (.bool true) ∧ Sat w0 (sl 69 13 va l.length (fpd l) * (sl 69 13 vb l.length (fpd l) * F)) w' := by
  obtain ⟨ao, ac, rfl⟩ := hS.rd.len
  obtain ⟨bo, bc, rfl⟩ := hS.pull2.rd.len
  have H := Lib.hid hS
  clear hS
  go_enter Try.func27, Try.ntmps27
  go_wp2
  go_loopw [5] (fun ix wr => ∃ k : Nat, k ≤ l.length ∧ ix = vi k ∧ Sat w0 (sl 69 13 (.slice ao l.length ac) l.length (fpd l) * (sl 69 13 (.slice bo l.length bc) l.length (fpd l) * F)) wr) (fun ix _ => l.length - (intOf ix).toNat)
  case atStart => exact ⟨0, Nat.zero_le _, rfl, H.out⟩
  case round =>
    obtain ⟨k, hk, rfl, hS⟩ := hrel
    clear H
    by_cases hlt : k < l.length
    · have hki : (k : Int) < (l.length : Int) := by omega
      obtain ⟨ga, rfl⟩ : ∃ ga, ao = some ⟨ga, 0, none⟩ := by
        rcases hS.slE.2 with ⟨_, h0, _⟩ | ⟨g', c', cur, hv, _⟩
        · omega
        · injection hv with h1 h2 h3
          exact ⟨g', h1⟩
      obtain ⟨gb, rfl⟩ : ∃ gb, bo = some ⟨gb, 0, none⟩ := by
        rcases hS.pull2.slE.2 with ⟨_, h0, _⟩ | ⟨g', c', cur, hv, _⟩
        · omega
        · injection hv with h1 h2 h3
          exact ⟨g', h1⟩
      obtain ⟨x, hx⟩ : ∃ x, l[k]? = some x := ⟨l[k], List.getElem?_eq_getElem hlt⟩
      obtain ⟨i, gen, ⟨v0, v1, v2, v3, v4, v5, v6, v7, v8, v9, v10⟩⟩ := x
      have e0 : wr.cell? ⟨ga, k * 13, none⟩ = some (vi i) := hS.slCell (k * 13 + 0) (fpd_at9 hx rfl)
      have e1 : wr.cell? ⟨ga, k * 13 + 1, none⟩ = some (vu gen) := hS.slCell (k * 13 + 1) (fpd_at9 hx rfl)
      have e2 : wr.cell? ⟨ga, k * 13 + 2, none⟩ = some (.int .i64 v0) := hS.slCell (k * 13 + 2) (fpd_at9 hx rfl)
      have e3 : wr.cell? ⟨ga, k * 13 + 3, none⟩ = some (.int .u64 v1) := hS.slCell (k * 13 + 3) (fpd_at9 hx rfl)
      have e4 : wr.cell? ⟨ga, k * 13 + 4, none⟩ = some (.int .i64 v2) := hS.slCell (k * 13 + 4) (fpd_at9 hx rfl)
      have e5 : wr.cell? ⟨ga, k * 13 + 5, none⟩ = some (.int .u64 v3) := hS.slCell (k * 13 + 5) (fpd_at9 hx rfl)
      have e6 : wr.cell? ⟨ga, k * 13 + 6, none⟩ = some (.int .u64 v4) := hS.slCell (k * 13 + 6) (fpd_at9 hx rfl)
      have e7 : wr.cell? ⟨ga, k * 13 + 7, none⟩ = some (.int .i64 v5) := hS.slCell (k * 13 + 7) (fpd_at9 hx rfl)
      have e8 : wr.cell? ⟨ga, k * 13 + 8, none⟩ = some (.int .u64 v6) := hS.slCell (k * 13 + 8) (fpd_at9 hx rfl)
      have e9 : wr.cell? ⟨ga, k * 13 + 9, none⟩ = some (.int .i64 v7) := hS.slCell (k * 13 + 9) (fpd_at9 hx rfl)
      have e10 : wr.cell? ⟨ga, k * 13 + 10, none⟩ = some (.int .i64 v8) := hS.slCell (k * 13 + 10) (fpd_at9 hx rfl)
      have e11 : wr.cell? ⟨ga, k * 13 + 11, none⟩ = some (.int .u64 v9) := hS.slCell (k * 13 + 11) (fpd_at9 hx rfl)
      have e12 : wr.cell? ⟨ga, k * 13 + 12, none⟩ = some (.int .i64 v10) := hS.slCell (k * 13 + 12) (fpd_at9 hx rfl)
      have f0 : wr.cell? ⟨gb, k * 13, none⟩ = some (vi i) := hS.pull2.slCell (k * 13 + 0) (fpd_at9 hx rfl)
      have f1 : wr.cell? ⟨gb, k * 13 + 1, none⟩ = some (vu gen) := hS.pull2.slCell (k * 13 + 1) (fpd_at9 hx rfl)
      have f2 : wr.cell? ⟨gb, k * 13 + 2, none⟩ = some (.int .i64 v0) := hS.pull2.slCell (k * 13 + 2) (fpd_at9 hx rfl)
      have f3 : wr.cell? ⟨gb, k * 13 + 3, none⟩ = some (.int .u64 v1) := hS.pull2.slCell (k * 13 + 3) (fpd_at9 hx rfl)
      have f4 : wr.cell? ⟨gb, k * 13 + 4, none⟩ = some (.int .i64 v2) := hS.pull2.slCell (k * 13 + 4) (fpd_at9 hx rfl)
      have f5 : wr.cell? ⟨gb, k * 13 + 5, none⟩ = some (.int .u64 v3) := hS.pull2.slCell (k * 13 + 5) (fpd_at9 hx rfl)
      have f6 : wr.cell? ⟨gb, k * 13 + 6, none⟩ = some (.int .u64 v4) := hS.pull2.slCell (k * 13 + 6) (fpd_at9 hx rfl)
      have f7 : wr.cell? ⟨gb, k * 13 + 7, none⟩ = some (.int .i64 v5) := hS.pull2.slCell (k * 13 + 7) (fpd_at9 hx rfl)
      have f8 : wr.cell? ⟨gb, k * 13 + 8, none⟩ = some (.int .u64 v6) := hS.pull2.slCell (k * 13 + 8) (fpd_at9 hx rfl)
      have f9 : wr.cell? ⟨gb, k * 13 + 9, none⟩ = some (.int .i64 v7) := hS.pull2.slCell (k * 13 + 9) (fpd_at9 hx rfl)
      have f10 : wr.cell? ⟨gb, k * 13 + 10, none⟩ = some (.int .i64 v8) := hS.pull2.slCell (k * 13 + 10) (fpd_at9 hx rfl)
      have f11 : wr.cell? ⟨gb, k * 13 + 11, none⟩ = some (.int .u64 v9) := hS.pull2.slCell (k * 13 + 11) (fpd_at9 hx rfl)
      have f12 : wr.cell? ⟨gb, k * 13 + 12, none⟩ = some (.int .i64 v10) := hS.pull2.slCell (k * 13 + 12) (fpd_at9 hx rfl)
      have HS := Lib.hid hS
      clear hS hx
      go_wp2_with fail
      go_quiet (fail)
      go_wp2
      go_roundw
      case rel => exact ⟨k + 1, by omega, by go_num, HS.out.drewN _⟩
      case measure => (simp [intOf]; try omega)
    · obtain rfl : k = l.length := by omega
      have HS := Lib.hid hS
      clear hS
      go_wp2
      go_ret
      exact ⟨rfl, HS.out⟩
end
theorem seen_eq {ps ps' : List Pl} (h : ∀ j : Nat, seenO ps' j = seenO ps j) (n : Nat) : seen ps' n = seen ps n := by
  unfold seen
  rw [show seenO ps' = seenO ps from funext h]
/-- Carving a child out and giving it back leaves all as it was. -/
theorem back_seen {n T : Nat} {ps : List Pl} {free : List Nat} {m k : Nat} {a am : Pl} (h : Rel n T ps (free ++ [m])) (ha : ps[k]? = some a) (ht : a.there = true) (hm : ps[m]? = some am) (hmt : am.there = false) (gs cpu per : Int) :
    m ≠ 0 ∧ (carP ps k m a am gs cpu per)[m]? = some { am with there := true, x := domX k a.gen gs cpu per } ∧ (carP ps k m a am gs cpu per)[k]? = some { a with x := carX a.x gs cpu } ∧
      ∀ N, seen (mrgP (carP ps k m a am gs cpu per) m k { am with there := true, x := domX k a.gen gs cpu per } { a with x := carX a.x gs cpu }) N = seen ps N := by
  have hne : m ≠ k := fun e => by subst e; rw [ha] at hm; cases hm; rw [ht] at hmt; cases hmt
  have hm0 : m ≠ 0 := fun e => by
    subst e
    obtain ⟨b, hb, hbt, _⟩ := h.root
    rw [hm] at hb
    cases hb
    rw [hmt] at hbt
    cases hbt
  have hml : m < ps.length := (List.getElem?_eq_some_iff.1 hm).1
  have hkl : k < ps.length := (List.getElem?_eq_some_iff.1 ha).1
  have atK : (carP ps k m a am gs cpu per)[k]? = some { a with x := carX a.x gs cpu } := List.getElem?_set_self (by rw [List.length_set]; exact hkl)
  have atM : (carP ps k m a am gs cpu per)[m]? = some { am with there := true, x := domX k a.gen gs cpu per } := by
    unfold carP
    rw [List.getElem?_set_ne (by omega)]
    exact List.getElem?_set_self hml
  refine ⟨hm0, atM, atK, fun N => seen_eq (fun j => ?_) N⟩
  have hcl : (carP ps k m a am gs cpu per).length = ps.length := by simp [carP]
  unfold seenO mrgP
  by_cases h1 : j = k
  · subst h1
    rw [List.getElem?_set_self (by rw [List.length_set, hcl]; exact hkl), ha]
    have e : mrgX (carX a.x gs cpu) (domX j a.gen gs cpu per) = a.x := by
      obtain ⟨gen, there, ret, ⟨v0, v1, v2, v3, v4, v5, v6, v7, v8, v9, v10⟩⟩ := a
      simp only [mrgX, carX, domX]
      congr 1 <;> omega
    show (if a.there = true then some (j, a.gen, mrgX (carX a.x gs cpu) (domX j a.gen gs cpu per)) else none) = _
    rw [e]
  · rw [List.getElem?_set_ne (by omega)]
    by_cases h2 : j = m
    · subst h2
      rw [List.getElem?_set_self (by rw [hcl]; exact hml), hm]
      dsimp only
      rw [hmt]
      simp
    · rw [List.getElem?_set_ne (by omega)]
      unfold carP
      rw [List.getElem?_set_ne (by omega), List.getElem?_set_ne (by omega)]
end Go.Proofs.Ytfioghpnehfjhaa.Dm
