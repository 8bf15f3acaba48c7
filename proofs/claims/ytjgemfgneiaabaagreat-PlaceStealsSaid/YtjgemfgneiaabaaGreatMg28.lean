/-
  Chapter 19: the statements' helper do, kinds 1, 2. No statement is proved here.
-/
import Derived.Test.YtjgemfgneiaabaaGreatDp3
namespace Go.Proofs.YtjgemfgneiaabaaGreat.Pc
open Go.RowKit Rq Gq Nu
set_option linter.unusedVariables false
set_option linter.unusedSimpArgs false

section
variable {w0 w : World} {F : Hp} {D : Ad} {R : Ar} {p : Nat → Pl} {gx : List Int} {N : Nat} {T : Int → Prop} {g pp nn : Int} {st : Nat} {a5 : Option Addr} {p5 : Nat} {af : List Nat}
set_option maxRecDepth 100000 in
set_option maxHeartbeats 8000000 in
theorem do19_1 (h : Two w0 D R p gx F w) (hM : Mate D R) (hf : Fit D.n p gx N T) (hN : N ≤ 3000) (hA : ∀ w', Below w0.heap.size w0 w' → RdA w' (.slice a5 af.length p5) af) (hst : st < 256) (h9 : nn ≤ 9223372036854775807) (hT : T g) : Calls Tryz.prog 10 #[vp D.s, vp R.s, .agg #[vi 1, vi g, vi pp, vi nn, .int .u8 st, .slice a5 af.length p5]] w fun e w' => IsB e ∧ ∃ p' gx', Fit D.n p' gx' (N + 1) T ∧ Two w0 D R p' gx' F w' := by
  have hb : Two w0 D R p gx (pc w.heap.size 34 [vi 1, vi g, vi pp, vi nn, .int .u8 st, .slice a5 af.length p5] * F) (w.alloc (.cells #[vi 1, vi g, vi pp, vi nn, .int .u8 st, .slice a5 af.length p5] 34)) := (h.alloc (.cells #[vi 1, vi g, vi pp, vi nn, .int .u8 st, .slice a5 af.length p5] 34)).rot3
  have hN2 : N ≤ 4000 := by omega
  have HW := Lib.hid (b_where hb hM hf hN2 g)
  have hwm := where_mem p D.n gx g
  obtain ⟨x, hx⟩ : ∃ x, (whereV p D.n gx g).1 = x := ⟨_, rfl⟩
  obtain ⟨x2, hx2⟩ : ∃ x2, (whereV p D.n gx g).2 = x2 := ⟨_, rfl⟩
  rw [hx] at hwm HW
  rw [hx2] at HW
  have hfd : ∀ (a b : Int) (w : World), (Instr.field 39 (.agg #[vi a, vi b]) 0).run Tryz.prog w = .ok (vi a) w := fun _ _ _ => rfl
  have HAF := Lib.hid hA
  clear h hb hx hx2 hA
  by_cases hx0 : x = 0
  · subst hx0
    have hg : g ∉ allP p D.n gx := fun h => (hwm.2 h) rfl
    have HG := Lib.hid hg
    clear hwm hg
    go_enter Tryz.func10, Tryz.ntmps10
    go_wp2_with (first
      | (go_at_call 22; refine HW.out.mono ?_; rintro e w1 ⟨rfl, hS⟩; have c0 := hS.dropL.dropL.cell 0 rfl; have c1 := hS.dropL.dropL.cell 1 rfl; have c2 := hS.dropL.dropL.cell 2 rfl; have c3 := hS.dropL.dropL.cell 3 rfl; have c4 := hS.dropL.dropL.cell 4 rfl; have HX := Lib.hid (b_put hS hM hf hN2 g HG.out hT hst pp nn); clear hS)
      | (go_at_call 11; refine HX.out.mono ?_; rintro e w2 ⟨rfl, hF, hB⟩; have d0 := hF.cell 0 rfl; have d1 := hF.cell 1 rfl; have d2 := hF.cell 2 rfl; have d3 := hF.cell 3 rfl; have d4 := hF.cell 4 rfl; have HB := Lib.hid hB; clear hF hB)
      | (go_at_call 23; refine HB.out.mono ?_; rintro e w3 ⟨rfl, p', gx', hfit, hS3⟩; have HE := Lib.hid hS3.pull3.dropL; have HFT := Lib.hid hfit; clear hS3 hfit))
    all_goals go_ret
    all_goals exact ⟨⟨_, rfl⟩, _, _, HFT.out, HE.out⟩
  · have hx1 : (x != 0) = true := bne_iff_ne.2 hx0
    clear hwm
    go_enter Tryz.func10, Tryz.ntmps10
    go_wp2_with (first
      | (go_at_call 22; refine HW.out.mono ?_; rintro e w1 ⟨rfl, hS⟩; have c0 := hS.dropL.dropL.cell 0 rfl; have c1 := hS.dropL.dropL.cell 1 rfl; have H1 := Lib.hid hS.pull3.dropL; clear hS))
    all_goals go_ret
    all_goals exact ⟨⟨_, rfl⟩, _, _, hf.same, H1.out⟩
set_option maxRecDepth 100000 in
set_option maxHeartbeats 8000000 in
theorem do19_2 (h : Two w0 D R p gx F w) (hM : Mate D R) (hf : Fit D.n p gx N T) (hN : N ≤ 3000) (hA : ∀ w', Below w0.heap.size w0 w' → RdA w' (.slice a5 af.length p5) af) (hst : st < 256) (h9 : nn ≤ 9223372036854775807) (hT : T g) : Calls Tryz.prog 10 #[vp D.s, vp R.s, .agg #[vi 2, vi g, vi pp, vi nn, .int .u8 st, .slice a5 af.length p5]] w fun e w' => IsB e ∧ ∃ p' gx', Fit D.n p' gx' (N + 1) T ∧ Two w0 D R p' gx' F w' := by
  have hb : Two w0 D R p gx (pc w.heap.size 34 [vi 2, vi g, vi pp, vi nn, .int .u8 st, .slice a5 af.length p5] * F) (w.alloc (.cells #[vi 2, vi g, vi pp, vi nn, .int .u8 st, .slice a5 af.length p5] 34)) := (h.alloc (.cells #[vi 2, vi g, vi pp, vi nn, .int .u8 st, .slice a5 af.length p5] 34)).rot3
  have hN2 : N ≤ 4000 := by omega
  have HW := Lib.hid (b_where hb hM hf hN2 g)
  have hwm := where_mem p D.n gx g
  obtain ⟨x, hx⟩ : ∃ x, (whereV p D.n gx g).1 = x := ⟨_, rfl⟩
  obtain ⟨x2, hx2⟩ : ∃ x2, (whereV p D.n gx g).2 = x2 := ⟨_, rfl⟩
  rw [hx] at hwm HW
  rw [hx2] at HW
  have hfd : ∀ (a b : Int) (w : World), (Instr.field 39 (.agg #[vi a, vi b]) 0).run Tryz.prog w = .ok (vi a) w := fun _ _ _ => rfl
  have HAF := Lib.hid hA
  clear h hb hx hx2 hA
  by_cases hx0 : x = 0
  · subst hx0
    have hg : g ∉ allP p D.n gx := fun h => (hwm.2 h) rfl
    have HG := Lib.hid hg
    clear hwm hg
    go_enter Tryz.func10, Tryz.ntmps10
    go_wp2_with (first
      | (go_at_call 22; refine HW.out.mono ?_; rintro e w1 ⟨rfl, hS⟩; have c0 := hS.dropL.dropL.cell 0 rfl; have c1 := hS.dropL.dropL.cell 1 rfl; have HX := Lib.hid (b_back1 hS hM hf hN2 g); clear hS)
      | (go_at_call 24; refine HX.out.mono ?_; rintro e w2 ⟨rfl, hS2⟩; have d1 := hS2.dropL.dropL.cell 1 rfl; obtain ⟨vG, vR, h2⟩ := pr_open hS2.pull2; have r1 := (pr_cells h2).2; have hZ := (hS2.alloc' (.cells #[vi g] 3)).drew; have e1 := hZ.dropL.dropL.cell 1 rfl; obtain ⟨vG9, vR9, h9'⟩ := pr_open hZ.pull2; have r2 := (pr_cells h9').2; have HB := Lib.hid (b_back2 hS2 hf hN2 HG.out hT); clear hS2 h2 hZ h9'))
    go_region_held3 (fun w' => w'.cell? ⟨w.heap.size, 1, none⟩ = some (vi g) ∧ w'.cell? ⟨R.s, 1, none⟩ = some (vp R.a)) (first | (with_reducible exact ⟨e3, r3⟩) | (with_reducible exact ⟨e1, r2⟩) | exact ⟨d1, r1⟩)
      ((go_at_call 25; refine HB.out.mono ?_; rintro e w3 ⟨rfl, p', gx', hfit, hS3⟩; have e3 := hS3.dropL.dropL.cell 1 rfl; obtain ⟨vG3, vR3, h3⟩ := pr_open hS3.pull2; have r3 := (pr_cells h3).2; have HE := Lib.hid hS3.pull3.dropL; have HFT := Lib.hid hfit; clear hS3 hfit; clear h3))
    all_goals go_wp2
    all_goals go_ret
    all_goals exact ⟨⟨_, rfl⟩, _, _, HFT.out, HE.out⟩
  · have hx1 : (x != 0) = true := bne_iff_ne.2 hx0
    clear hwm
    go_enter Tryz.func10, Tryz.ntmps10
    go_wp2_with (first
      | (go_at_call 22; refine HW.out.mono ?_; rintro e w1 ⟨rfl, hS⟩; have c0 := hS.dropL.dropL.cell 0 rfl; have c1 := hS.dropL.dropL.cell 1 rfl; have H1 := Lib.hid hS.pull3.dropL; clear hS))
    all_goals go_ret
    all_goals exact ⟨⟨_, rfl⟩, _, _, hf.same, H1.out⟩
end
end Go.Proofs.YtjgemfgneiaabaaGreat.Pc

namespace Go.Proofs.YtjgemfgneiaabaaGreat.Pc
open Go.RowKit Rq Gq Nu
set_option linter.unusedVariables false
set_option linter.unusedSimpArgs false

section
variable {w0 w : World} {F : Hp} {D : Ad} {R : Ar} {p : Nat → Pl} {gx : List Int} {N : Nat} {T : Int → Prop} {g pp nn : Int} {st : Nat} {a5 : Option Addr} {p5 : Nat} {af : List Nat}
set_option maxRecDepth 100000 in
set_option maxHeartbeats 8000000 in
theorem do19_3 (h : Two w0 D R p gx F w) (hM : Mate D R) (hf : Fit D.n p gx N T) (hN : N ≤ 3000) (hA : ∀ w', Below w0.heap.size w0 w' → RdA w' (.slice a5 af.length p5) af) (hst : st < 256) (h9 : nn ≤ 9223372036854775807) (hT : T g) : Calls Tryz.prog 10 #[vp D.s, vp R.s, .agg #[vi 3, vi g, vi pp, vi nn, .int .u8 st, .slice a5 af.length p5]] w fun e w' => IsB e ∧ ∃ p' gx', Fit D.n p' gx' (N + 1) T ∧ Two w0 D R p' gx' F w' := by
  have hb : Two w0 D R p gx (pc w.heap.size 34 [vi 3, vi g, vi pp, vi nn, .int .u8 st, .slice a5 af.length p5] * F) (w.alloc (.cells #[vi 3, vi g, vi pp, vi nn, .int .u8 st, .slice a5 af.length p5] 34)) := (h.alloc (.cells #[vi 3, vi g, vi pp, vi nn, .int .u8 st, .slice a5 af.length p5] 34)).rot3
  have hN2 : N ≤ 4000 := by omega
  have HW := Lib.hid (b_where hb hM hf hN2 g)
  have hwm := where_mem p D.n gx g
  obtain ⟨x, hx⟩ : ∃ x, (whereV p D.n gx g).1 = x := ⟨_, rfl⟩
  obtain ⟨x2, hx2⟩ : ∃ x2, (whereV p D.n gx g).2 = x2 := ⟨_, rfl⟩
  rw [hx] at hwm HW
  rw [hx2] at HW
  have hfd : ∀ (a b : Int) (w : World), (Instr.field 39 (.agg #[vi a, vi b]) 0).run Tryz.prog w = .ok (vi a) w := fun _ _ _ => rfl
  have HAF := Lib.hid hA
  clear h hb hx hx2 hA
  clear hwm
  go_enter Tryz.func10, Tryz.ntmps10
  go_wp2_with (first
    | (go_at_call 22; refine HW.out.mono ?_; rintro e w1 ⟨rfl, hS⟩; have c0 := hS.dropL.dropL.cell 0 rfl; have c1 := hS.dropL.dropL.cell 1 rfl; have c1 := hS.dropL.dropL.cell 1 rfl; have HX := Lib.hid (b_remove hS.drew hM hf hN2 g); clear hS))
  go_region_held3 (fun w' => w'.cell? ⟨w.heap.size, 1, none⟩ = some (vi g)) (first | (with_reducible exact z1) | (with_reducible exact d1) | exact c1)
    (first
      | (go_at_call 26; refine HX.out.mono ?_; rintro e w2 ⟨⟨t1, rfl⟩, hF, hB⟩; have d1 := hF.cell 1 rfl; have HB := Lib.hid hB; clear hF hB)
      | (go_at_call 27; refine HB.out.mono ?_; rintro e w3 ⟨⟨t2, rfl⟩, p', gx', hfit, hS3⟩; have z1 := hS3.dropL.dropL.cell 1 rfl; have HE := Lib.hid hS3.pull3.dropL; have HFT := Lib.hid hfit; clear hS3 hfit))
  all_goals go_wp2
  all_goals go_ret
  all_goals exact ⟨⟨_, rfl⟩, _, _, HFT.out, HE.out⟩
set_option maxRecDepth 100000 in
set_option maxHeartbeats 8000000 in
theorem do19_4 (h : Two w0 D R p gx F w) (hM : Mate D R) (hf : Fit D.n p gx N T) (hN : N ≤ 3000) (hA : ∀ w', Below w0.heap.size w0 w' → RdA w' (.slice a5 af.length p5) af) (hst : st < 256) (h9 : nn ≤ 9223372036854775807) (hT : T g) : Calls Tryz.prog 10 #[vp D.s, vp R.s, .agg #[vi 4, vi g, vi pp, vi nn, .int .u8 st, .slice a5 af.length p5]] w fun e w' => IsB e ∧ ∃ p' gx', Fit D.n p' gx' (N + 1) T ∧ Two w0 D R p' gx' F w' := by
  have hb : Two w0 D R p gx (pc w.heap.size 34 [vi 4, vi g, vi pp, vi nn, .int .u8 st, .slice a5 af.length p5] * F) (w.alloc (.cells #[vi 4, vi g, vi pp, vi nn, .int .u8 st, .slice a5 af.length p5] 34)) := (h.alloc (.cells #[vi 4, vi g, vi pp, vi nn, .int .u8 st, .slice a5 af.length p5] 34)).rot3
  have hN2 : N ≤ 4000 := by omega
  have HW := Lib.hid (b_where hb hM hf hN2 g)
  have hwm := where_mem p D.n gx g
  obtain ⟨x, hx⟩ : ∃ x, (whereV p D.n gx g).1 = x := ⟨_, rfl⟩
  obtain ⟨x2, hx2⟩ : ∃ x2, (whereV p D.n gx g).2 = x2 := ⟨_, rfl⟩
  rw [hx] at hwm HW
  rw [hx2] at HW
  have hfd : ∀ (a b : Int) (w : World), (Instr.field 39 (.agg #[vi a, vi b]) 0).run Tryz.prog w = .ok (vi a) w := fun _ _ _ => rfl
  have HAF := Lib.hid hA
  clear h hb hx hx2 hA
  by_cases hx0 : x = 0
  · subst hx0
    have hg : g ∉ allP p D.n gx := fun h => (hwm.2 h) rfl
    have HG := Lib.hid hg
    clear hwm hg
    go_enter Tryz.func10, Tryz.ntmps10
    go_wp2_with (first
      | (go_at_call 22; refine HW.out.mono ?_; rintro e w1 ⟨rfl, hS⟩; have c0 := hS.dropL.dropL.cell 0 rfl; have c1 := hS.dropL.dropL.cell 1 rfl; have c1 := hS.dropL.dropL.cell 1 rfl; have c2 := hS.dropL.dropL.cell 2 rfl; have c3 := hS.dropL.dropL.cell 3 rfl; have HX := Lib.hid (b_start hS.drew hM hf pp g nn HG.out hT h9); clear hS))
    go_region_held3 (fun w' => w'.cell? ⟨w.heap.size, 1, none⟩ = some (vi g) ∧ w'.cell? ⟨w.heap.size, 2, none⟩ = some (vi pp) ∧ w'.cell? ⟨w.heap.size, 3, none⟩ = some (vi nn)) (first | (with_reducible exact ⟨z1, z2, z3⟩) | (with_reducible exact ⟨d1, d2, d3⟩) | exact ⟨c1, c2, c3⟩)
      (first
        | (go_at_call 28; refine HX.out.mono ?_; rintro e w2 ⟨⟨t1, rfl⟩, hF, hB⟩; have d1 := hF.cell 1 rfl; have d2 := hF.cell 2 rfl; have d3 := hF.cell 3 rfl; have HB := Lib.hid hB; clear hF hB)
        | (go_at_call 29; refine HB.out.mono ?_; rintro e w3 ⟨⟨t2, rfl⟩, p', gx', hfit, hS3⟩; have z1 := hS3.dropL.dropL.cell 1 rfl; have z2 := hS3.dropL.dropL.cell 2 rfl; have z3 := hS3.dropL.dropL.cell 3 rfl; have HE := Lib.hid hS3.pull3.dropL; have HFT := Lib.hid hfit; clear hS3 hfit))
    all_goals go_wp2
    all_goals go_ret
    all_goals exact ⟨⟨_, rfl⟩, _, _, HFT.out, HE.out⟩
  · have hx1 : (x != 0) = true := bne_iff_ne.2 hx0
    clear hwm
    go_enter Tryz.func10, Tryz.ntmps10
    go_wp2_with (first
      | (go_at_call 22; refine HW.out.mono ?_; rintro e w1 ⟨rfl, hS⟩; have c0 := hS.dropL.dropL.cell 0 rfl; have c1 := hS.dropL.dropL.cell 1 rfl; have H1 := Lib.hid hS.pull3.dropL; clear hS))
    all_goals go_ret
    all_goals exact ⟨⟨_, rfl⟩, _, _, hf.same, H1.out⟩
set_option maxRecDepth 100000 in
set_option maxHeartbeats 8000000 in
theorem do19_6 (h : Two w0 D R p gx F w) (hM : Mate D R) (hf : Fit D.n p gx N T) (hN : N ≤ 3000) (hA : ∀ w', Below w0.heap.size w0 w' → RdA w' (.slice a5 af.length p5) af) (hst : st < 256) (h9 : nn ≤ 9223372036854775807) (hT : T g) : Calls Tryz.prog 10 #[vp D.s, vp R.s, .agg #[vi 6, vi g, vi pp, vi nn, .int .u8 st, .slice a5 af.length p5]] w fun e w' => IsB e ∧ ∃ p' gx', Fit D.n p' gx' (N + 1) T ∧ Two w0 D R p' gx' F w' := by
  have hb : Two w0 D R p gx (pc w.heap.size 34 [vi 6, vi g, vi pp, vi nn, .int .u8 st, .slice a5 af.length p5] * F) (w.alloc (.cells #[vi 6, vi g, vi pp, vi nn, .int .u8 st, .slice a5 af.length p5] 34)) := (h.alloc (.cells #[vi 6, vi g, vi pp, vi nn, .int .u8 st, .slice a5 af.length p5] 34)).rot3
  have hN2 : N ≤ 4000 := by omega
  have HW := Lib.hid (b_where hb hM hf hN2 g)
  have hwm := where_mem p D.n gx g
  obtain ⟨x, hx⟩ : ∃ x, (whereV p D.n gx g).1 = x := ⟨_, rfl⟩
  obtain ⟨x2, hx2⟩ : ∃ x2, (whereV p D.n gx g).2 = x2 := ⟨_, rfl⟩
  rw [hx] at hwm HW
  rw [hx2] at HW
  have hfd : ∀ (a b : Int) (w : World), (Instr.field 39 (.agg #[vi a, vi b]) 0).run Tryz.prog w = .ok (vi a) w := fun _ _ _ => rfl
  have HAF := Lib.hid hA
  clear h hb hx hx2 hA
  clear hwm
  go_enter Tryz.func10, Tryz.ntmps10
  go_wp2_with (first
    | (go_at_call 22; refine HW.out.mono ?_; rintro e w1 ⟨rfl, hS⟩; have c0 := hS.dropL.dropL.cell 0 rfl; have c1 := hS.dropL.dropL.cell 1 rfl; have c2 := hS.dropL.dropL.cell 2 rfl; have HX := Lib.hid (b_spend hS.drew hM hf pp); clear hS))
  go_region_held3 (fun w' => w'.cell? ⟨w.heap.size, 2, none⟩ = some (vi pp)) (first | (with_reducible exact z2) | (with_reducible exact d2) | exact c2)
    (first
      | (go_at_call 35; refine HX.out.mono ?_; rintro e w2 ⟨⟨t1, rfl⟩, hF, hB⟩; have d2 := hF.cell 2 rfl; have HB := Lib.hid hB; clear hF hB)
      | (go_at_call 36; refine HB.out.mono ?_; rintro e w3 ⟨⟨t2, rfl⟩, p', gx', hfit, hS3⟩; have z2 := hS3.dropL.dropL.cell 2 rfl; have HE := Lib.hid hS3.pull3.dropL; have HFT := Lib.hid hfit; clear hS3 hfit))
  all_goals go_wp2
  all_goals go_ret
  all_goals exact ⟨⟨_, rfl⟩, _, _, HFT.out, HE.out⟩
end
end Go.Proofs.YtjgemfgneiaabaaGreat.Pc
