/-
  Chapter 19: the statements' helper do, kinds 11, 10, 0. No statement is proved here.
-/
import Derived.Test.YtjgemfgneiaabaaGreatDp3
namespace Go.Proofs.YtjgemfgneiaabaaGreat.Pc
open Go.RowKit Rq Gq Nu
set_option linter.unusedVariables false
set_option linter.unusedSimpArgs false

section
variable {w0 w : World} {F : Hp} {D : Ad} {R : Ar} {p : Nat → Pl} {gx : List Int} {N : Nat} {T : Int → Prop} {g pp nn : Int} {st : Nat} {a5 : Option Addr} {p5 : Nat} {af : List Nat}
set_option maxRecDepth 100000 in
set_option maxHeartbeats 8000000 in
theorem do19_11 (h : Two w0 D R p gx F w) (hM : Mate D R) (hf : Fit D.n p gx N T) (hN : N ≤ 3000) (hA : ∀ w', Below w0.heap.size w0 w' → RdA w' (.slice a5 af.length p5) af) (hst : st < 256) (h9 : nn ≤ 9223372036854775807) (hT : T g) : Calls Tryz.prog 10 #[vp D.s, vp R.s, .agg #[vi 11, vi g, vi pp, vi nn, .int .u8 st, .slice a5 af.length p5]] w fun e w' => IsB e ∧ ∃ p' gx', Fit D.n p' gx' (N + 1) T ∧ Two w0 D R p' gx' F w' := by
  have hb : Two w0 D R p gx (pc w.heap.size 34 [vi 11, vi g, vi pp, vi nn, .int .u8 st, .slice a5 af.length p5] * F) (w.alloc (.cells #[vi 11, vi g, vi pp, vi nn, .int .u8 st, .slice a5 af.length p5] 34)) := (h.alloc (.cells #[vi 11, vi g, vi pp, vi nn, .int .u8 st, .slice a5 af.length p5] 34)).rot3
  have hN2 : N ≤ 4000 := by omega
  have HW := Lib.hid (b_where hb hM hf hN2 g)
  have hwm := where_mem p D.n gx g
  obtain ⟨x, hx⟩ : ∃ x, (whereV p D.n gx g).1 = x := ⟨_, rfl⟩
  obtain ⟨x2, hx2⟩ : ∃ x2, (whereV p D.n gx g).2 = x2 := ⟨_, rfl⟩
  rw [hx] at hwm HW
  rw [hx2] at HW
  have hfd : ∀ (a b : Int) (w : World), (Instr.field 39 (.agg #[vi a, vi b]) 0).run Tryz.prog w = .ok (vi a) w := fun _ _ _ => rfl
  have HAF := Lib.hid hA
  clear h hb hx hx2 hA
  clear hwm
  go_enter Tryz.func10, Tryz.ntmps10
  go_wp2_with (first
    | (go_at_call 22; refine HW.out.mono ?_; rintro e w1 ⟨rfl, hS⟩; have c0 := hS.dropL.dropL.cell 0 rfl; have c1 := hS.dropL.dropL.cell 1 rfl; have c2 := hS.dropL.dropL.cell 2 rfl; have HX := Lib.hid (b_turn hS.drew hM hf pp); clear hS))
  go_region_held3 (fun w' => w'.cell? ⟨w.heap.size, 2, none⟩ = some (vi pp)) (first | (with_reducible exact z2) | (with_reducible exact d2) | exact c2)
    (first
      | (go_at_call 43; refine HX.out.mono ?_; rintro e w2 ⟨⟨t1, rfl⟩, hF, hB⟩; have d2 := hF.cell 2 rfl; have HB := Lib.hid hB; clear hF hB)
      | (go_at_call 44; refine HB.out.mono ?_; rintro e w3 ⟨⟨t2, rfl⟩, p', gx', hfit, hS3⟩; have z2 := hS3.dropL.dropL.cell 2 rfl; have HE := Lib.hid hS3.pull3.dropL; have HFT := Lib.hid hfit; clear hS3 hfit))
  all_goals go_wp2
  all_goals go_ret
  all_goals exact ⟨⟨_, rfl⟩, _, _, HFT.out, HE.out⟩
set_option maxRecDepth 100000 in
set_option maxHeartbeats 8000000 in
theorem do19_10 (h : Two w0 D R p gx F w) (hM : Mate D R) (hf : Fit D.n p gx N T) (hN : N ≤ 3000) (hA : ∀ w', Below w0.heap.size w0 w' → RdA w' (.slice a5 af.length p5) af) (hst : st < 256) (h9 : nn ≤ 9223372036854775807) (hT : T g) : Calls Tryz.prog 10 #[vp D.s, vp R.s, .agg #[vi 10, vi g, vi pp, vi nn, .int .u8 st, .slice a5 af.length p5]] w fun e w' => IsB e ∧ ∃ p' gx', Fit D.n p' gx' (N + 1) T ∧ Two w0 D R p' gx' F w' := by
  have hb : Two w0 D R p gx (pc w.heap.size 34 [vi 10, vi g, vi pp, vi nn, .int .u8 st, .slice a5 af.length p5] * F) (w.alloc (.cells #[vi 10, vi g, vi pp, vi nn, .int .u8 st, .slice a5 af.length p5] 34)) := (h.alloc (.cells #[vi 10, vi g, vi pp, vi nn, .int .u8 st, .slice a5 af.length p5] 34)).rot3
  have hN2 : N ≤ 4000 := by omega
  have HW := Lib.hid (b_where hb hM hf hN2 g)
  have hwm := where_mem p D.n gx g
  obtain ⟨x, hx⟩ : ∃ x, (whereV p D.n gx g).1 = x := ⟨_, rfl⟩
  obtain ⟨x2, hx2⟩ : ∃ x2, (whereV p D.n gx g).2 = x2 := ⟨_, rfl⟩
  rw [hx] at hwm HW
  rw [hx2] at HW
  have hfd : ∀ (a b : Int) (w : World), (Instr.field 39 (.agg #[vi a, vi b]) 0).run Tryz.prog w = .ok (vi a) w := fun _ _ _ => rfl
  have HAF := Lib.hid hA
  clear h hb hx hx2 hA
  clear hwm
  go_enter Tryz.func10, Tryz.ntmps10
  go_wp2_with (first
    | (go_at_call 22; refine HW.out.mono ?_; rintro e w1 ⟨rfl, hS⟩; have c0 := hS.dropL.dropL.cell 0 rfl; have c1 := hS.dropL.dropL.cell 1 rfl; have c2 := hS.dropL.dropL.cell 2 rfl; have HX := Lib.hid (b_kick hS hM hf hN2 pp); clear hS)
    | (go_at_call 41; refine HX.out.mono ?_; rintro e w2 ⟨rfl, hF, hB⟩; have d0 := hF.cell 0 rfl; have d1 := hF.cell 1 rfl; have d2 := hF.cell 2 rfl; have HB := Lib.hid hB; clear hF hB)
    | (go_at_call 42; refine HB.out.mono ?_; rintro e w3 ⟨rfl, p', gx', hfit, hS3⟩; have HE := Lib.hid hS3.pull3.dropL; have HFT := Lib.hid hfit; clear hS3 hfit))
  all_goals go_ret
  all_goals exact ⟨⟨_, rfl⟩, _, _, HFT.out, HE.out⟩
set_option maxRecDepth 100000 in
set_option maxHeartbeats 8000000 in
theorem do19_0 {kd : Int} (k1 : (kd == 1) = false) (k2 : (kd == 2) = false) (k3 : (kd == 3) = false) (k4 : (kd == 4) = false) (k5 : (kd == 5) = false) (k6 : (kd == 6) = false) (k7 : (kd == 7) = false) (k8 : (kd == 8) = false) (k9 : (kd == 9) = false) (k10 : (kd == 10) = false) (k11 : (kd == 11) = false) (h : Two w0 D R p gx F w) (hM : Mate D R) (hf : Fit D.n p gx N T) (hN : N ≤ 3000) (hA : ∀ w', Below w0.heap.size w0 w' → RdA w' (.slice a5 af.length p5) af) (hst : st < 256) (h9 : nn ≤ 9223372036854775807) (hT : T g) : Calls Tryz.prog 10 #[vp D.s, vp R.s, .agg #[vi kd, vi g, vi pp, vi nn, .int .u8 st, .slice a5 af.length p5]] w fun e w' => IsB e ∧ ∃ p' gx', Fit D.n p' gx' (N + 1) T ∧ Two w0 D R p' gx' F w' := by
  have hb : Two w0 D R p gx (pc w.heap.size 34 [vi kd, vi g, vi pp, vi nn, .int .u8 st, .slice a5 af.length p5] * F) (w.alloc (.cells #[vi kd, vi g, vi pp, vi nn, .int .u8 st, .slice a5 af.length p5] 34)) := (h.alloc (.cells #[vi kd, vi g, vi pp, vi nn, .int .u8 st, .slice a5 af.length p5] 34)).rot3
  have hN2 : N ≤ 4000 := by omega
  have HW := Lib.hid (b_where hb hM hf hN2 g)
  have hwm := where_mem p D.n gx g
  obtain ⟨x, hx⟩ : ∃ x, (whereV p D.n gx g).1 = x := ⟨_, rfl⟩
  obtain ⟨x2, hx2⟩ : ∃ x2, (whereV p D.n gx g).2 = x2 := ⟨_, rfl⟩
  rw [hx] at hwm HW
  rw [hx2] at HW
  have hfd : ∀ (a b : Int) (w : World), (Instr.field 39 (.agg #[vi a, vi b]) 0).run Tryz.prog w = .ok (vi a) w := fun _ _ _ => rfl
  have HAF := Lib.hid hA
  clear h hb hx hx2 hA
  clear hwm
  go_enter Tryz.func10, Tryz.ntmps10
  go_wp2_with (first
    | (go_at_call 22; refine HW.out.mono ?_; rintro e w1 ⟨rfl, hS⟩; have c0 := hS.dropL.dropL.cell 0 rfl; have c1 := hS.dropL.dropL.cell 1 rfl; have H1 := Lib.hid hS.pull3.dropL; clear hS))
  all_goals go_ret
  all_goals exact ⟨⟨_, rfl⟩, _, _, hf.same, H1.out⟩
end
end Go.Proofs.YtjgemfgneiaabaaGreat.Pc

namespace Go.Proofs.YtjgemfgneiaabaaGreat.Pc
open Go.RowKit Rq Gq Nu
set_option linter.unusedVariables false
set_option linter.unusedSimpArgs false

section
variable {w0 w : World} {F : Hp} {D : Ad} {R : Ar} {p : Nat → Pl} {gx : List Int} {N : Nat} {T : Int → Prop} {g pp nn : Int} {st : Nat} {a5 : Option Addr} {p5 : Nat} {af : List Nat}
set_option maxRecDepth 100000 in
set_option maxHeartbeats 8000000 in
theorem do19_5 (h : Two w0 D R p gx F w) (hM : Mate D R) (hf : Fit D.n p gx N T) (hN : N ≤ 3000) (hA : ∀ w', Below w0.heap.size w0 w' → RdA w' (.slice a5 af.length p5) af) (hst : st < 256) (h9 : nn ≤ 9223372036854775807) (hT : T g) : Calls Tryz.prog 10 #[vp D.s, vp R.s, .agg #[vi 5, vi g, vi pp, vi nn, .int .u8 st, .slice a5 af.length p5]] w fun e w' => IsB e ∧ ∃ p' gx', Fit D.n p' gx' (N + 1) T ∧ Two w0 D R p' gx' F w' := by
  have hb : Two w0 D R p gx (pc w.heap.size 34 [vi 5, vi g, vi pp, vi nn, .int .u8 st, .slice a5 af.length p5] * F) (w.alloc (.cells #[vi 5, vi g, vi pp, vi nn, .int .u8 st, .slice a5 af.length p5] 34)) := (h.alloc (.cells #[vi 5, vi g, vi pp, vi nn, .int .u8 st, .slice a5 af.length p5] 34)).rot3
  have hN2 : N ≤ 4000 := by omega
  have HW := Lib.hid (b_where hb hM hf hN2 g)
  have hwm := where_mem p D.n gx g
  obtain ⟨x, hx⟩ : ∃ x, (whereV p D.n gx g).1 = x := ⟨_, rfl⟩
  obtain ⟨x2, hx2⟩ : ∃ x2, (whereV p D.n gx g).2 = x2 := ⟨_, rfl⟩
  rw [hx] at hwm HW
  rw [hx2] at HW
  have hfd : ∀ (a b : Int) (w : World), (Instr.field 39 (.agg #[vi a, vi b]) 0).run Tryz.prog w = .ok (vi a) w := fun _ _ _ => rfl
  have HAF := Lib.hid hA
  clear h hb hx hx2 hA
  clear hwm
  go_enter Tryz.func10, Tryz.ntmps10
  go_wp2_with (first
    | (go_at_call 22; refine HW.out.mono ?_; rintro e w1 ⟨rfl, hS⟩; have c0 := hS.dropL.dropL.cell 0 rfl; have c1 := hS.dropL.dropL.cell 1 rfl; have c2 := hS.dropL.dropL.cell 2 rfl; have HY := Lib.hid (b_runs hS hM pp); have HX := Lib.hid (b_stop hS hM hf pp); have H1 := Lib.hid hS.pull3.dropL; clear hS)
    | (go_at_call 31; refine (answer19 HR2.out _ _).mono ?_; rintro e w9 ⟨⟨b9, rfl⟩, rfl⟩)
    | (go_at_call 31; refine (answer19 HR1.out _ _).mono ?_; rintro e w8 ⟨⟨b8, rfl⟩, rfl⟩)
    | (go_at_call 30; refine HY.out.mono ?_; rintro e w2 ⟨⟨g1, t1, rfl⟩, rfl, hB⟩; have HYB := Lib.hid hB; clear hB)
    | (go_at_call 32; refine HYB.out.mono ?_; rintro e w3 ⟨v1, ys1, rfl, hR, rfl⟩; have HR1 := Lib.hid hR; clear hR)
    | (go_at_call 33; refine HX.out.mono ?_; rintro e w2 ⟨⟨g2, t2, rfl⟩, hF, hB⟩; have d0 := hF.cell 0 rfl; have d1 := hF.cell 1 rfl; have d2 := hF.cell 2 rfl; have HB := Lib.hid hB; clear hF hB)
    | (go_at_call 34; refine HB.out.mono ?_; rintro e w3 ⟨v2, ys2, rfl, hR, p', gx', hfit, hS3⟩; have HR2 := Lib.hid hR; clear hR; have HE := Lib.hid hS3.pull3.dropL; have HFT := Lib.hid hfit; clear hS3 hfit))
  all_goals go_ret
  all_goals first
    | exact ⟨⟨_, rfl⟩, _, _, HFT.out, HE.out⟩
    | exact ⟨⟨_, rfl⟩, _, _, hf.same, H1.out⟩
set_option maxRecDepth 100000 in
set_option maxHeartbeats 8000000 in
theorem do19_7 (h : Two w0 D R p gx F w) (hM : Mate D R) (hf : Fit D.n p gx N T) (hN : N ≤ 3000) (hA : ∀ w', Below w0.heap.size w0 w' → RdA w' (.slice a5 af.length p5) af) (hst : st < 256) (h9 : nn ≤ 9223372036854775807) (hT : T g) : Calls Tryz.prog 10 #[vp D.s, vp R.s, .agg #[vi 7, vi g, vi pp, vi nn, .int .u8 st, .slice a5 af.length p5]] w fun e w' => IsB e ∧ ∃ p' gx', Fit D.n p' gx' (N + 1) T ∧ Two w0 D R p' gx' F w' := by
  have hb : Two w0 D R p gx (pc w.heap.size 34 [vi 7, vi g, vi pp, vi nn, .int .u8 st, .slice a5 af.length p5] * F) (w.alloc (.cells #[vi 7, vi g, vi pp, vi nn, .int .u8 st, .slice a5 af.length p5] 34)) := (h.alloc (.cells #[vi 7, vi g, vi pp, vi nn, .int .u8 st, .slice a5 af.length p5] 34)).rot3
  have hN2 : N ≤ 4000 := by omega
  have HW := Lib.hid (b_where hb hM hf hN2 g)
  have hwm := where_mem p D.n gx g
  obtain ⟨x, hx⟩ : ∃ x, (whereV p D.n gx g).1 = x := ⟨_, rfl⟩
  obtain ⟨x2, hx2⟩ : ∃ x2, (whereV p D.n gx g).2 = x2 := ⟨_, rfl⟩
  rw [hx] at hwm HW
  rw [hx2] at HW
  have hfd : ∀ (a b : Int) (w : World), (Instr.field 39 (.agg #[vi a, vi b]) 0).run Tryz.prog w = .ok (vi a) w := fun _ _ _ => rfl
  have HAF := Lib.hid hA
  clear h hb hx hx2 hA
  clear hwm
  go_enter Tryz.func10, Tryz.ntmps10
  go_wp2_with (first
    | (go_at_call 22; refine HW.out.mono ?_; rintro e w1 ⟨rfl, hS⟩; have c0 := hS.dropL.dropL.cell 0 rfl; have c1 := hS.dropL.dropL.cell 1 rfl; have c2 := hS.dropL.dropL.cell 2 rfl; obtain ⟨nx, hX⟩ := b_own hS hM hf hN2 pp; have HX := Lib.hid hX; clear hX; clear hS)
    | (go_at_call 31; refine (answer19 HR2.out _ _).mono ?_; rintro e w9 ⟨⟨b9, rfl⟩, rfl⟩)
    | (go_at_call 37; refine HX.out.mono ?_; rintro e w2 ⟨⟨g2, t2, rfl⟩, hF, hB⟩; have d0 := hF.cell 0 rfl; have d1 := hF.cell 1 rfl; have d2 := hF.cell 2 rfl; have HB := Lib.hid hB; clear hF hB)
    | (go_at_call 38; refine HB.out.mono ?_; rintro e w3 ⟨v2, ys2, rfl, hR, p', gx', hfit, hS3⟩; have HR2 := Lib.hid hR; clear hR; have HE := Lib.hid hS3.pull3.dropL; have HFT := Lib.hid hfit; clear hS3 hfit))
  all_goals go_ret
  all_goals exact ⟨⟨_, rfl⟩, _, _, HFT.out, HE.out⟩
set_option maxRecDepth 100000 in
set_option maxHeartbeats 8000000 in
theorem do19_8 (h : Two w0 D R p gx F w) (hM : Mate D R) (hf : Fit D.n p gx N T) (hN : N ≤ 3000) (hA : ∀ w', Below w0.heap.size w0 w' → RdA w' (.slice a5 af.length p5) af) (hst : st < 256) (h9 : nn ≤ 9223372036854775807) (hT : T g) : Calls Tryz.prog 10 #[vp D.s, vp R.s, .agg #[vi 8, vi g, vi pp, vi nn, .int .u8 st, .slice a5 af.length p5]] w fun e w' => IsB e ∧ ∃ p' gx', Fit D.n p' gx' (N + 1) T ∧ Two w0 D R p' gx' F w' := by
  have hb : Two w0 D R p gx (pc w.heap.size 34 [vi 8, vi g, vi pp, vi nn, .int .u8 st, .slice a5 af.length p5] * F) (w.alloc (.cells #[vi 8, vi g, vi pp, vi nn, .int .u8 st, .slice a5 af.length p5] 34)) := (h.alloc (.cells #[vi 8, vi g, vi pp, vi nn, .int .u8 st, .slice a5 af.length p5] 34)).rot3
  have hN2 : N ≤ 4000 := by omega
  have HW := Lib.hid (b_where hb hM hf hN2 g)
  have hwm := where_mem p D.n gx g
  obtain ⟨x, hx⟩ : ∃ x, (whereV p D.n gx g).1 = x := ⟨_, rfl⟩
  obtain ⟨x2, hx2⟩ : ∃ x2, (whereV p D.n gx g).2 = x2 := ⟨_, rfl⟩
  rw [hx] at hwm HW
  rw [hx2] at HW
  have hfd : ∀ (a b : Int) (w : World), (Instr.field 39 (.agg #[vi a, vi b]) 0).run Tryz.prog w = .ok (vi a) w := fun _ _ _ => rfl
  have HAF := Lib.hid hA
  clear h hb hx hx2 hA
  clear hwm
  go_enter Tryz.func10, Tryz.ntmps10
  go_wp2_with (first
    | (go_at_call 22; refine HW.out.mono ?_; rintro e w1 ⟨rfl, hS⟩; have c0 := hS.dropL.dropL.cell 0 rfl; have c1 := hS.dropL.dropL.cell 1 rfl; have c2 := hS.dropL.dropL.cell 2 rfl; have c5 := hS.dropL.dropL.cell 5 rfl; have HX := Lib.hid (b_shared hS hM hf hN2 pp (u := .slice a5 af.length p5) (af := af) (fun w' h' => HAF.out w' h'.below)); clear hS)
    | (go_at_call 31; refine (answer19 HR2.out _ _).mono ?_; rintro e w9 ⟨⟨b9, rfl⟩, rfl⟩)
    | (go_at_call 39; refine HX.out.mono ?_; rintro e w2 ⟨⟨g2, t2, rfl⟩, hF, hB⟩; have d0 := hF.cell 0 rfl; have d1 := hF.cell 1 rfl; have d2 := hF.cell 2 rfl; have d5 := hF.cell 5 rfl; have HB := Lib.hid hB; clear hF hB)
    | (go_at_call 40; refine HB.out.mono ?_; rintro e w3 ⟨v2, ys2, rfl, hR, p', gx', hfit, hS3⟩; have HR2 := Lib.hid hR; clear hR; have HE := Lib.hid hS3.pull3.dropL; have HFT := Lib.hid hfit; clear hS3 hfit))
  all_goals go_ret
  all_goals exact ⟨⟨_, rfl⟩, _, _, HFT.out, HE.out⟩
set_option maxRecDepth 100000 in
set_option maxHeartbeats 8000000 in
theorem do19_9 (h : Two w0 D R p gx F w) (hM : Mate D R) (hf : Fit D.n p gx N T) (hN : N ≤ 3000) (hA : ∀ w', Below w0.heap.size w0 w' → RdA w' (.slice a5 af.length p5) af) (hst : st < 256) (h9 : nn ≤ 9223372036854775807) (hT : T g) : Calls Tryz.prog 10 #[vp D.s, vp R.s, .agg #[vi 9, vi g, vi pp, vi nn, .int .u8 st, .slice a5 af.length p5]] w fun e w' => IsB e ∧ ∃ p' gx', Fit D.n p' gx' (N + 1) T ∧ Two w0 D R p' gx' F w' := by
  have hb : Two w0 D R p gx (pc w.heap.size 34 [vi 9, vi g, vi pp, vi nn, .int .u8 st, .slice a5 af.length p5] * F) (w.alloc (.cells #[vi 9, vi g, vi pp, vi nn, .int .u8 st, .slice a5 af.length p5] 34)) := (h.alloc (.cells #[vi 9, vi g, vi pp, vi nn, .int .u8 st, .slice a5 af.length p5] 34)).rot3
  have hN2 : N ≤ 4000 := by omega
  have HW := Lib.hid (b_where hb hM hf hN2 g)
  have hwm := where_mem p D.n gx g
  obtain ⟨x, hx⟩ : ∃ x, (whereV p D.n gx g).1 = x := ⟨_, rfl⟩
  obtain ⟨x2, hx2⟩ : ∃ x2, (whereV p D.n gx g).2 = x2 := ⟨_, rfl⟩
  rw [hx] at hwm HW
  rw [hx2] at HW
  have hfd : ∀ (a b : Int) (w : World), (Instr.field 39 (.agg #[vi a, vi b]) 0).run Tryz.prog w = .ok (vi a) w := fun _ _ _ => rfl
  have HAF := Lib.hid hA
  clear h hb hx hx2 hA
  clear hwm
  go_enter Tryz.func10, Tryz.ntmps10
  go_wp2_with (first
    | (go_at_call 22; refine HW.out.mono ?_; rintro e w1 ⟨rfl, hS⟩; have c0 := hS.dropL.dropL.cell 0 rfl; have c1 := hS.dropL.dropL.cell 1 rfl; have c2 := hS.dropL.dropL.cell 2 rfl; have c3 := hS.dropL.dropL.cell 3 rfl; have c5 := hS.dropL.dropL.cell 5 rfl; obtain ⟨ys, p', gx', hfit, _, _, _, _, hX⟩ := b_steal hS hM hf hN2 pp nn (u := .slice a5 af.length p5) (af := af) (fun w' h' => HAF.out w' h'.below); have HX := Lib.hid hX; have HFT := Lib.hid hfit; clear hX hfit; clear hS)
    | (go_at_call 31; refine (answer19 HR2.out _ _).mono ?_; rintro e w9 ⟨⟨b9, rfl⟩, rfl⟩)
    | (go_at_call 15; refine HX.out.mono ?_; rintro e w2 ⟨rfl, hS2, hB⟩; have d0 := hS2.dropL.dropL.cell 0 rfl; have d1 := hS2.dropL.dropL.cell 1 rfl; have d2 := hS2.dropL.dropL.cell 2 rfl; have d3 := hS2.dropL.dropL.cell 3 rfl; have d5 := hS2.dropL.dropL.cell 5 rfl; have HB := Lib.hid (hB _ _ _ hS2 (fun w' h' => HAF.out w' h'.below)); clear hS2 hB)
    | (go_at_call 17; refine HB.out.mono ?_; rintro e w3 ⟨v2, rfl, hR, hS3⟩; have HR2 := Lib.hid hR; have HE := Lib.hid hS3.pull3.dropL; clear hR hS3))
  all_goals go_ret
  all_goals exact ⟨⟨_, rfl⟩, _, _, HFT.out, HE.out⟩
end
end Go.Proofs.YtjgemfgneiaabaaGreat.Pc
