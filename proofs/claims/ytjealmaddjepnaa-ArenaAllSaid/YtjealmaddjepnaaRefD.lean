/-
  Contracts of the reference's table: Drop where a ref names something, Put, Copy. No statement is proved here.
-/
import Derived.Test.YtjealmaddjepnaaRefC
namespace Go.Proofs.Ytjealmaddjepnaa.Ar
open Go.RowKit
set_option linter.unusedVariables false

/-- What is there behind a drop. -/
def rdropped (rs : List RP) (times : Int) (k : Nat) (a : RP) : List RP × Int :=
  if a.gen = 18446744073709551614 then (rs.set k { a with there := false, retired := true, x := 0 }, times)
  else (rs.set k { a with gen := a.gen + 1, there := false, x := 0, freed := times + 1 }, times + 1)

section
variable {w0 w : World} {q : Nat} {rs : List RP} {times : Int} {F : Hp}
theorem put5 {b cap k : Nat} {a : RP} {G : Hp} (h : Sat w0 (sl 50 5 (.slice (some ⟨b, 0, none⟩) rs.length cap) rs.length (rflat rs) * G) w) (hk : rs[k]? = some a) (a' : RP) :
    Sat w0 (sl 50 5 (.slice (some ⟨b, 0, none⟩) rs.length cap) rs.length (rflat (rs.set k a')) * G) (((((w.setCell ⟨b, k * 5, none⟩ (vu a'.gen)).setCell ⟨b, k * 5 + 1, none⟩ (.bool a'.there)).setCell ⟨b, k * 5 + 2, none⟩ (.bool a'.retired)).setCell ⟨b, k * 5 + 3, none⟩ (vi a'.x)).setCell ⟨b, k * 5 + 4, none⟩ (vi a'.freed)) := by
  have hkl : k < rs.length := (List.getElem?_eq_some_iff.1 hk).1
  obtain ⟨g, t, r, x, f⟩ := a
  obtain ⟨g', t', r', x', f'⟩ := a'
  have gs : ∀ z : RP, (rs.set k z)[k]? = some z := fun z => by simp [hkl]
  have h1 := h.slStore (k * 5 + 0) (by omega) (vu g')
  rw [flat_set RP.len rs k 0 _ ⟨g', t, r, x, f⟩ (vu g') hk (by omega) rfl] at h1
  have h2 := h1.slStore (k * 5 + 1) (by omega) (.bool t')
  rw [flat_set RP.len _ k 1 (⟨g', t, r, x, f⟩ : RP) ⟨g', t', r, x, f⟩ (.bool t') (gs _) (by omega) rfl, List.set_set] at h2
  have h3 := h2.slStore (k * 5 + 2) (by omega) (.bool r')
  rw [flat_set RP.len _ k 2 (⟨g', t', r, x, f⟩ : RP) ⟨g', t', r', x, f⟩ (.bool r') (gs _) (by omega) rfl, List.set_set] at h3
  have h4 := h3.slStore (k * 5 + 3) (by omega) (vi x')
  rw [flat_set RP.len _ k 3 (⟨g', t', r', x, f⟩ : RP) ⟨g', t', r', x', f⟩ (vi x') (gs _) (by omega) rfl, List.set_set] at h4
  have h5 := h4.slStore (k * 5 + 4) (by omega) (vi f')
  rw [flat_set RP.len _ k 4 (⟨g', t', r', x', f⟩ : RP) ⟨g', t', r', x', f'⟩ (vi f') (gs _) (by omega) rfl, List.set_set] at h5
  exact h5

set_option maxRecDepth 100000 in
set_option maxHeartbeats 4000000 in
theorem rdrop_yes (h : Sat w0 (refP q rs times * F) w) (hs : rs.length ≤ 4096) (ht : 0 ≤ times ∧ times ≤ 1000000) (i g : Int) {k : Nat} {a : RP} (hA : isR rs i g = some (k, a)) (hgen : 1 ≤ a.gen ∧ a.gen ≤ 18446744073709551614) :
    Calls Try.prog 28 #[vp q, vr i g] w fun e w' => e = .returned (vi 0) ∧ Sat w0 (refP q (rdropped rs times k a).1 (rdropped rs times k a).2 * F) w' := by
  obtain ⟨v, hv⟩ := ropen h
  have H := Lib.hid (ris_yes hv hs i g hA)
  obtain ⟨ao, cap, rfl⟩ := hv.pull2.rd.len
  obtain ⟨h1, rfl, h3, h4⟩ := isR_some hA
  have hkl : k < rs.length := (List.getElem?_eq_some_iff.1 h1).1
  have hkl' : (k : Int) < (rs.length : Int) := by omega
  have HA := Lib.hid h1
  obtain ⟨gen, there, retired, x, freed⟩ := a
  simp only at hgen h3
  subst h3
  clear h hv hA h1 h4
  unfold rdropped
  by_cases hg : gen = 18446744073709551614
  · subst hg
    simp only [if_true]
    clear hgen
    go_enter Try.func28, Try.ntmps28
    go_wp2_with (go_at_call 41; refine H.out.mono ?_; rintro e w1 ⟨rfl, hS⟩; have HS := Lib.hid hS; clear hS)
    obtain ⟨b, c, hv, hqb, hc, hfr⟩ := rat HS.out (by omega)
    cases hv
    have c0 := HS.out.cell 0 rfl
    have e0 := hc k 0 _ _ HA.out rfl
    have e1 := hc k 1 _ _ HA.out rfl
    have e2 := hc k 2 _ _ HA.out rfl
    have e3 := hc k 3 _ _ HA.out rfl
    have e4 := hc k 4 _ _ HA.out rfl
    rw [Nat.add_zero] at e0
    have b0 := HS.out.pull3.cell 0 rfl
    have n1 := World.new_ne w1 _ c0
    have n2 := World.new_ne w1 _ e0
    have n3 := World.new_ne w1 _ b0
    clear hc hfr
    generalize w.heap.size = bx at *
    go_region_held3 (fun w' => w'.cell? ⟨q, 0, none⟩ = some (.slice (some ⟨b, 0, none⟩) rs.length cap) ∧ w'.cell? ⟨bx, 0, none⟩ = some (vi k) ∧ w'.cell? ⟨b, k * 5, none⟩ = some (vu 18446744073709551614) ∧ w'.cell? ⟨b, k * 5 + 1, none⟩ = some (.bool true) ∧ w'.cell? ⟨b, k * 5 + 2, none⟩ = some (.bool retired) ∧ w'.cell? ⟨b, k * 5 + 3, none⟩ = some (vi x) ∧ w'.cell? ⟨b, k * 5 + 4, none⟩ = some (vi freed))
      (go_keep)
      (fail)
    have hB : Sat w0 (pc w1.heap.size 50 [vu 18446744073709551614, .bool true, .bool retired, vi x, vi freed] * (refB q (.slice (some ⟨b, 0, none⟩) rs.length cap) times * (refL (.slice (some ⟨b, 0, none⟩) rs.length cap) rs * (pc bx 35 [vi k, vu g] * F)))) (w1.alloc (.cells #[vu 18446744073709551614, .bool true, .bool retired, vi x, vi freed] 50)).drew := (HS.out.alloc _).drew
    generalize (w1.alloc (.cells #[vu 18446744073709551614, .bool true, .bool retired, vi x, vi freed] 50)).drew = w2 at *
    generalize w1.heap.size = nb at *
    have m0 := hB.cell 0 rfl
    have m1 := hB.cell 1 rfl
    have m2 := hB.cell 2 rfl
    have m3 := hB.cell 3 rfl
    have m4 := hB.cell 4 rfl
    have k0 := hB.free 0
    have k1 := hB.free 1
    have k2 := hB.free 2
    have k3 := hB.free 3
    have k4 := hB.free 4
    have HB := Lib.hid hB
    clear hB c0 e0 e1 e2 e3 e4 b0 n1 n2 n3
    obtain ⟨b', c', hv, hqb', hc, hfr⟩ := rat HB.out.dropL (by omega)
    cases hv
    have c0 := HB.out.dropL.cell 0 rfl
    have e0 := hc k 0 _ _ HA.out rfl
    have e1 := hc k 1 _ _ HA.out rfl
    have e2 := hc k 2 _ _ HA.out rfl
    have e3 := hc k 3 _ _ HA.out rfl
    have e4 := hc k 4 _ _ HA.out rfl
    rw [Nat.add_zero] at e0
    have f0 := hfr (k * 5)
    have f1 := hfr (k * 5 + 1)
    have f2 := hfr (k * 5 + 2)
    have f3 := hfr (k * 5 + 3)
    have f4 := hfr (k * 5 + 4)
    have b0 := HB.out.dropL.pull3.cell 0 rfl
    have hnq : nb ≠ q := HB.out.ne
    have hnb : nb ≠ b := HB.out.drop2.slNe
    have hnx : nb ≠ bx := HB.out.drop2.drop2.ne
    clear hc hfr
    go_wp2
    refine wp_quiet_tail 8 (by kernel_rfl) (by kernel_rfl) ?_
    simp only [List.take_succ_cons, List.take_zero, List.drop_succ_cons, List.drop_zero]
    repeat (go_big_quiet_step (fail))
    refine wpQuiet_nil ?_
    go_wp2
    go_ret
    refine ⟨rfl, ?_⟩
    have p1 := ((HB.out.store 1 (.bool false)).store 3 (vi 0)).store 2 (.bool true)
    have p2 := (put5 p1.dropL.pull2 HA.out ⟨18446744073709551614, false, true, 0, freed⟩).drew
    have hl : (rs.set k (⟨18446744073709551614, false, true, 0, freed⟩ : RP)).length = rs.length := List.length_set
    have p3 : Sat w0 (refB q (.slice (some ⟨b, 0, none⟩) rs.length cap) times * (refL (.slice (some ⟨b, 0, none⟩) rs.length cap) (rs.set k ⟨18446744073709551614, false, true, 0, freed⟩) * (pc bx 35 [vi k, vu g] * F))) _ := p2.pull2.cast (by rw [refL, hl])
    exact (rshut p3).drop2
  · have hgb : (gen == 18446744073709551614) = false := beq_eq_false_iff_ne.2 hg
    have hw : IntKind.u64.wrap (gen + 1) = gen + 1 := IntWalk.u64_in _ (by omega)
    have hwt : IntKind.i64.wrap (times + 1) = times + 1 := IntWalk.i64_in _ (by omega)
    simp only [if_neg hg]
    clear hgen hg
    go_enter Try.func28, Try.ntmps28
    go_wp2_with (go_at_call 41; refine H.out.mono ?_; rintro e w1 ⟨rfl, hS⟩; have HS := Lib.hid hS; clear hS)
    obtain ⟨b, c, hv, hqb, hc, hfr⟩ := rat HS.out (by omega)
    cases hv
    have c0 := HS.out.cell 0 rfl
    have e0 := hc k 0 _ _ HA.out rfl
    have e1 := hc k 1 _ _ HA.out rfl
    have e2 := hc k 2 _ _ HA.out rfl
    have e3 := hc k 3 _ _ HA.out rfl
    have e4 := hc k 4 _ _ HA.out rfl
    rw [Nat.add_zero] at e0
    have b0 := HS.out.pull3.cell 0 rfl
    have n1 := World.new_ne w1 _ c0
    have n2 := World.new_ne w1 _ e0
    have n3 := World.new_ne w1 _ b0
    clear hc hfr
    generalize w.heap.size = bx at *
    go_region_held3 (fun w' => w'.cell? ⟨q, 0, none⟩ = some (.slice (some ⟨b, 0, none⟩) rs.length cap) ∧ w'.cell? ⟨bx, 0, none⟩ = some (vi k) ∧ w'.cell? ⟨b, k * 5, none⟩ = some (vu gen) ∧ w'.cell? ⟨b, k * 5 + 1, none⟩ = some (.bool true) ∧ w'.cell? ⟨b, k * 5 + 2, none⟩ = some (.bool retired) ∧ w'.cell? ⟨b, k * 5 + 3, none⟩ = some (vi x) ∧ w'.cell? ⟨b, k * 5 + 4, none⟩ = some (vi freed))
      (go_keep)
      (fail)
    have hB : Sat w0 (pc w1.heap.size 50 [vu gen, .bool true, .bool retired, vi x, vi freed] * (refB q (.slice (some ⟨b, 0, none⟩) rs.length cap) times * (refL (.slice (some ⟨b, 0, none⟩) rs.length cap) rs * (pc bx 35 [vi k, vu g] * F)))) (w1.alloc (.cells #[vu gen, .bool true, .bool retired, vi x, vi freed] 50)).drew := (HS.out.alloc _).drew
    generalize (w1.alloc (.cells #[vu gen, .bool true, .bool retired, vi x, vi freed] 50)).drew = w2 at *
    generalize w1.heap.size = nb at *
    have m0 := hB.cell 0 rfl
    have m1 := hB.cell 1 rfl
    have m2 := hB.cell 2 rfl
    have m3 := hB.cell 3 rfl
    have m4 := hB.cell 4 rfl
    have k0 := hB.free 0
    have k1 := hB.free 1
    have k2 := hB.free 2
    have k3 := hB.free 3
    have k4 := hB.free 4
    have HB := Lib.hid hB
    clear hB c0 e0 e1 e2 e3 e4 b0 n1 n2 n3
    obtain ⟨b', c', hv, hqb', hc, hfr⟩ := rat HB.out.dropL (by omega)
    cases hv
    have c0 := HB.out.dropL.cell 0 rfl
    have e0 := hc k 0 _ _ HA.out rfl
    have e1 := hc k 1 _ _ HA.out rfl
    have e2 := hc k 2 _ _ HA.out rfl
    have e3 := hc k 3 _ _ HA.out rfl
    have e4 := hc k 4 _ _ HA.out rfl
    rw [Nat.add_zero] at e0
    have f0 := hfr (k * 5)
    have f1 := hfr (k * 5 + 1)
    have f2 := hfr (k * 5 + 2)
    have f3 := hfr (k * 5 + 3)
    have f4 := hfr (k * 5 + 4)
    have b0 := HB.out.dropL.pull3.cell 0 rfl
    have hnq : nb ≠ q := HB.out.ne
    have hnb : nb ≠ b := HB.out.drop2.slNe
    have hnx : nb ≠ bx := HB.out.drop2.drop2.ne
    clear hc hfr
    have c1 := HB.out.dropL.cell 1 rfl
    have fq1 := HB.out.dropL.free 1
    go_wp2
    refine wp_quiet_tail 8 (by kernel_rfl) (by kernel_rfl) ?_
    simp only [List.take_succ_cons, List.take_zero, List.drop_succ_cons, List.drop_zero]
    repeat (go_big_quiet_step (fail))
    refine wpQuiet_nil ?_
    go_wp2
    go_ret
    refine ⟨rfl, ?_⟩
    have p1 := ((((HB.out.store 1 (.bool false)).store 3 (vi 0)).store 0 (vu (gen + 1))).pull2.store 1 (vi (times + 1))).pull2.store 4 (vi (times + 1))
    have p2 := (put5 p1.dropL.pull2 HA.out ⟨gen + 1, false, retired, 0, times + 1⟩).drew
    have hl : (rs.set k (⟨gen + 1, false, retired, 0, times + 1⟩ : RP)).length = rs.length := List.length_set
    have p3 : Sat w0 (refB q (.slice (some ⟨b, 0, none⟩) rs.length cap) (times + 1) * (refL (.slice (some ⟨b, 0, none⟩) rs.length cap) (rs.set k ⟨gen + 1, false, retired, 0, times + 1⟩) * (pc bx 35 [vi k, vu g] * F))) _ := p2.pull2.cast (by rw [refL, hl]; rfl)
    exact (rshut p3).drop2
end
end Go.Proofs.Ytjealmaddjepnaa.Ar
