/-
  Chapter 19: what the program's places own. No statement is proved here.
-/
import Derived.Test.YtdbppfcilaajaaaGreatMg7
import Derived.Test.YtdbppfcilaajaaaGreatMg11
import Derived.Test.YtdbppfcilaajaaaGreatMg10
import Derived.Deep.RegionHeld3
namespace Go.Proofs.YtdbppfcilaajaaaGreat.Pc
open Go.RowKit Rq Gq
set_option linter.unusedVariables false

/-- Where all lies: the places, the global queue, the array of Ps and its room; each P's queue and ring; how many Ps, and a ring's room. -/
structure Ad where
  s : Nat
  a : Nat
  sb : Nat
  cap : Nat
  q : Nat → Nat
  r : Nat → Nat
  n : Nat
  m : Nat
abbrev vu (x : Int) : Value := .int .u64 x
abbrev Ad.v (D : Ad) : Value := .slice (some ⟨D.sb, 0, none⟩) D.n D.cap
def rowP (D : Ad) (p : Nat → Pl) (i : Nat) : List Value := [vp (D.q i), vi (p i).g, .bool (p i).runs, vi (p i).left, vu (p i).turns]
def oneP (D : Ad) (p : Nat → Pl) (i : Nat) : Hp := quB (D.q i) (D.r i) (p i).z (p i).b * ringP (D.r i) D.m (p i).xs
def plB (D : Ad) (p : Nat → Pl) (gx : List Int) : Hp := pc D.s 148 [D.v, vi D.m, vp D.a] * (sl 144 5 D.v D.n (rowsN (rowP D p) D.n) * (gQ D.a gx * star (oneP D p) D.n))
theorem rowP_len (D : Ad) (p : Nat → Pl) : ∀ i, (rowP D p i).length = 5 := fun _ => rfl
section
variable {w0 w : World} {F : Hp} {D : Ad} {p : Nat → Pl} {gx : List Int} {k : Nat}
theorem pl_head (h : Sat w0 (plB D p gx * F) w) : Sat w0 (pc D.s 148 [D.v, vi D.m, vp D.a] * (sl 144 5 D.v D.n (rowsN (rowP D p) D.n) * (gQ D.a gx * (star (oneP D p) D.n * F)))) w := h.cast (by unfold plB; ac_rfl)
/-- The global queue is taken out, and put back. -/
theorem pl_glob (h : Sat w0 (plB D p gx * F) w) : Sat w0 (gQ D.a gx * (pc D.s 148 [D.v, vi D.m, vp D.a] * (sl 144 5 D.v D.n (rowsN (rowP D p) D.n) * (star (oneP D p) D.n * F)))) w := h.cast (by unfold plB; ac_rfl)
theorem pl_globI (h : Sat w0 (gQ D.a gx * (pc D.s 148 [D.v, vi D.m, vp D.a] * (sl 144 5 D.v D.n (rowsN (rowP D p) D.n) * (star (oneP D p) D.n * F)))) w) : Sat w0 (plB D p gx * F) w := h.cast (by unfold plB; ac_rfl)
/-- All but the k-th P's queue. -/
def plX (D : Ad) (p : Nat → Pl) (gx : List Int) (k : Nat) : Hp := pc D.s 148 [D.v, vi D.m, vp D.a] * (sl 144 5 D.v D.n (rowsN (rowP D p) D.n) * (gQ D.a gx * starx (oneP D p) D.n k))
theorem pl_out (h : Sat w0 (plB D p gx * F) w) (hk : k < D.n) : Sat w0 (quB (D.q k) (D.r k) (p k).z (p k).b * (ringP (D.r k) D.m (p k).xs * (plX D p gx k * F))) w := h.cast (by
  unfold plB plX
  rw [star_at _ hk]
  show _ = quB (D.q k) (D.r k) (p k).z (p k).b * (ringP (D.r k) D.m (p k).xs * _)
  unfold oneP
  ac_rfl)
/-- The k-th P's queue is put back, turned; its row is as it was. -/
theorem pl_in {y : Pl} (h : Sat w0 (quB (D.q k) (D.r k) y.z y.b * (ringP (D.r k) D.m y.xs * (plX D p gx k * F))) w) (hk : k < D.n) (h1 : y.g = (p k).g) (h2 : y.runs = (p k).runs) (h3 : y.left = (p k).left) (h4 : y.turns = (p k).turns) : Sat w0 (plB D (up p k y) gx * F) w := h.cast (by
  have e1 : rowsN (rowP D (up p k y)) D.n = rowsN (rowP D p) D.n := rowsN_congr fun i _ => by
    by_cases hi : i = k
    · subst hi
      unfold rowP
      rw [up_at, h1, h2, h3, h4]
    · unfold rowP
      rw [up_ne _ _ hi]
  have e2 : starx (oneP D (up p k y)) D.n k = starx (oneP D p) D.n k := starx_congr fun i hi => by unfold oneP; rw [up_ne _ _ hi]
  unfold plB plX
  rw [star_at _ hk, e1, e2]
  show quB (D.q k) (D.r k) y.z y.b * (ringP (D.r k) D.m y.xs * _) = _
  rw [show oneP D (up p k y) k = quB (D.q k) (D.r k) y.z y.b * ringP (D.r k) D.m y.xs by unfold oneP; rw [up_at]]
  ac_rfl)
theorem pl_cells (h : Sat w0 (plB D p gx * F) w) : w.cell? ⟨D.s, 0, none⟩ = some D.v ∧ w.cell? ⟨D.s, 1, none⟩ = some (vi D.m) ∧ w.cell? ⟨D.s, 2, none⟩ = some (vp D.a) := ⟨(pl_head h).cell 0 rfl, (pl_head h).cell 1 rfl, (pl_head h).cell 2 rfl⟩
theorem pl_row (h : Sat w0 (plB D p gx * F) w) (hk : k < D.n) : w.cell? ⟨D.sb, k * 5, none⟩ = some (vp (D.q k)) ∧ w.cell? ⟨D.sb, k * 5 + 1, none⟩ = some (vi (p k).g) ∧ w.cell? ⟨D.sb, k * 5 + 2, none⟩ = some (.bool (p k).runs) ∧ w.cell? ⟨D.sb, k * 5 + 3, none⟩ = some (vi (p k).left) ∧ w.cell? ⟨D.sb, k * 5 + 4, none⟩ = some (vu (p k).turns) :=
  ⟨(pl_head h).pull2.slCell (k * 5 + 0) (rowsN_at (rowP_len D p) hk rfl), (pl_head h).pull2.slCell (k * 5 + 1) (rowsN_at (rowP_len D p) hk rfl), (pl_head h).pull2.slCell (k * 5 + 2) (rowsN_at (rowP_len D p) hk rfl), (pl_head h).pull2.slCell (k * 5 + 3) (rowsN_at (rowP_len D p) hk rfl), (pl_head h).pull2.slCell (k * 5 + 4) (rowsN_at (rowP_len D p) hk rfl)⟩
theorem pl_free (h : Sat w0 (plB D p gx * F) w) (i : Nat) : w.frozen? ⟨D.sb, i, none⟩ = false := (pl_head h).pull2.slFree i
/-- A cell of a P's row is stored. -/
theorem pl_store {y : Pl} {j : Nat} {u : Value} (h : Sat w0 (plB D p gx * F) w) (hk : k < D.n) (hj : j < 5) (hr : [vp (D.q k), vi y.g, .bool y.runs, vi y.left, vu y.turns] = (rowP D p k).set j u) (h1 : y.xs = (p k).xs) (h2 : y.z = (p k).z) (h3 : y.b = (p k).b) : Sat w0 (plB D (up p k y) gx * F) (w.setCell ⟨D.sb, k * 5 + j, none⟩ u) := by
  have h5 := (pl_head h).pull2.slStore (k * 5 + j) (by have := Nat.mul_le_mul_right 5 (show k + 1 ≤ D.n by omega); omega) u
  rw [rowsN_set (row' := rowP D (up p k y)) (rowP_len D p) hj (by unfold rowP at hr ⊢; rw [up_at]; exact hr) (fun i hi => by unfold rowP; rw [up_ne _ _ hi]) D.n hk] at h5
  have e2 : star (oneP D (up p k y)) D.n = star (oneP D p) D.n := star_congr fun i _ => by
    by_cases hi : i = k
    · subst hi
      unfold oneP
      rw [up_at, h1, h2, h3]
    · unfold oneP
      rw [up_ne _ _ hi]
  exact h5.cast (by unfold plB; rw [e2]; ac_rfl)
theorem pl_ring (h : Sat w0 (plB D p gx * F) w) (hk : k < D.n) : (p k).xs.length ≤ D.m ∧ D.m ≤ 4096 := by
  have := (pl_out h hk).pull2.ringLen
  omega
end
end Go.Proofs.YtdbppfcilaajaaaGreat.Pc

namespace Go.Proofs.YtdbppfcilaajaaaGreat.Kn
open Go.RowKit Pc
set_option linter.unusedVariables false
set_option linter.unusedSimpArgs false

section
variable {w0 w : World} {F : Hp} {g n : Nat} {fn : Nat → Nat} {cp : Nat → Array Value} {J : Nat → World → Prop}
set_option maxRecDepth 100000 in
theorem jfirst (hn : n ≤ 100) (h : J 0 w)
    (hg : ∀ k, k < n → ∀ w, J k w → w.cell? ⟨g, k, none⟩ = some (.func (.func (fn k)) #[] (cp k)))
    (he : ∀ k, k < n → ∀ (xs : Array Value) (w : World), (callFunc (fn k) xs).run Tryz.prog w = .ok (.enter (fn k) xs) w)
    (hc : ∀ k, k < n → ∀ (w : World), J k w → Calls Tryz.prog (fn k) (cp k) w fun e w' => e = .returned (vi 0) ∧ J (k + 1) w') :
    Calls Tryz.prog 33 #[.slice (some ⟨g, 0, none⟩) n n] w fun e w' => e = .returned (vi 0) ∧ J n w' := by
  have H := Lib.hid h
  have HC := Lib.hid hc
  have HE := Lib.hid he
  have HG := Lib.hid hg
  clear h hc he hg
  go_enter Tryz.func33, Tryz.ntmps33
  go_wp2
  go_loopw [8] (fun i wr => ∃ k : Nat, k ≤ n ∧ i = vi k ∧ J k wr) (fun i _ => n - (intOf i).toNat)
  case atStart => exact ⟨0, by omega, rfl, H.out⟩
  case round =>
    clear H
    obtain ⟨k, hk, rfl, hS⟩ := hrel
    by_cases hlt : k < n
    · have hki : (k : Int) < (n : Int) := by omega
      have ck := HG.out k hlt _ hS
      have HC1 := Lib.hid (HC.out k hlt _ hS)
      have hE := HE.out k hlt
      clear HE HC HG
      generalize fn k = f at *
      generalize cp k = c at *
      have HL := Lib.hid hlt
      clear hS hlt
      go_wp2_with (refine HC1.out.mono ?_; rintro e w1 ⟨rfl, hS1⟩; have H1 := Lib.hid hS1; clear hS1)
      go_roundw
      case rel => exact ⟨k + 1, by have := HL.out; omega, by go_num, H1.out⟩
      case measure => (have := HL.out; simp [intOf]; omega)
    · obtain rfl : k = n := by omega
      have HS := Lib.hid hS
      clear hS
      go_wp2
      go_ret
      exact ⟨rfl, HS.out⟩
end
/-- The cells of a kernel. -/
abbrev knL (ps gs : Nat) (pr : Value) (now : Int) (g c d s p t a : Value) : List Value := cfgL ps gs pr ++ [.int .u64 now, g, c, d, s, p, t, a]
section
variable {w0 w : World} {F : Hp} {k ps gs g : Nat} {pr c d s p t a : Value} {now : Int}
abbrev knB (k ps gs : Nat) (pr : Value) (now : Int) (g c d s p t a : Value) : Hp := pc k 85 (knL ps gs pr now g c d s p t a)
set_option maxRecDepth 100000 in
theorem k_none (h : Sat w0 (knB k ps gs pr now (vp g) c d s p t a * F) w) : Calls Tryz.prog 65 #[vp k] w fun e w' => e = .returned (.bool false) ∧ w = w' := by
  have c16 := h.cell 16 rfl
  clear h
  go_enter Tryz.func65, Tryz.ntmps65
  go_wp2
  go_ret
  exact ⟨rfl, rfl⟩
set_option maxRecDepth 100000 in
theorem k_places (h : Sat w0 (knB k ps gs pr now (vp g) c d s p t a * F) w) : Calls Tryz.prog 11 #[vp k] w fun e w' => e = .returned p ∧ w = w' := by
  have c20 := h.cell 20 rfl
  have HN := Lib.hid (k_none h)
  clear h
  go_enter Tryz.func11, Tryz.ntmps11
  go_wp2_with (go_at_call 65; refine HN.out.mono ?_; rintro e w' ⟨rfl, rfl⟩)
  go_ret
  exact ⟨rfl, rfl⟩
set_option maxRecDepth 100000 in
theorem k_places_nil (w : World) : Calls Tryz.prog 11 #[.pointer none] w fun e w' => e = .returned (.pointer none) ∧ w = w' := by
  have HN : Hid (∀ w : World, Calls Tryz.prog 65 #[.pointer none] w fun e w' => e = .returned (.bool true) ∧ w = w') := Lib.hid fun w => by
    go_enter Tryz.func65, Tryz.ntmps65
    go_wp2
    go_ret
    exact ⟨rfl, rfl⟩
  go_enter Tryz.func11, Tryz.ntmps11
  go_wp2_with (go_at_call 65; refine (HN.out _).mono ?_; rintro e w' ⟨rfl, rfl⟩)
  go_ret
  exact ⟨rfl, rfl⟩
set_option maxRecDepth 100000 in
theorem k_gs (h : Sat w0 (knB k ps gs pr now (vp g) c d s p t a * F) w) : Calls Tryz.prog 20 #[vp k] w fun e w' => e = .returned (vp g) ∧ w = w' := by
  have c16 := h.cell 16 rfl
  have HN := Lib.hid (k_none h)
  clear h
  go_enter Tryz.func20, Tryz.ntmps20
  go_wp2_with (go_at_call 65; refine HN.out.mono ?_; rintro e w' ⟨rfl, rfl⟩)
  go_ret
  exact ⟨rfl, rfl⟩
theorem Erc : SlT Tryz.prog 203 413 12 96 (.agg #[.int .u64 0, .int .u64 0, .int .i64 0, .int .u64 0, .int .i64 0, .int .i64 0, .int .u64 0, .int .u64 0, .int .u64 0, .int .u64 0, .int .u64 0, .int .i64 0]) := SlT.mk' Tryz.underlying203 (by kernel_rfl) rfl (by decide)
set_option maxRecDepth 100000 in
theorem au_new (h : Sat w0 F w) : Calls Tryz.prog 45 #[.int .i64 8] w fun e w' => ∃ p, e = .returned (.tuple #[vp p, vi 0]) ∧ Sat w0 F w' := by
  have H := Lib.hid h
  clear h
  go_enter Tryz.func45, Tryz.ntmps45
  go_wp2_with (at_make; refine wpList_make_sl Erc rfl _ _ rfl .i64 .i64 8 8 8 8 rfl rfl rfl rfl (by omega) (by omega) (by omega) H.out ?_; intro g w1 hM; have HM := Lib.hid hM.dropL; clear hM)
  go_ret2
  exact ⟨_, rfl, HM.out.alloc' _⟩
end
end Go.Proofs.YtdbppfcilaajaaaGreat.Kn

namespace Go.Proofs.YtdbppfcilaajaaaGreat.Kn
open Go.RowKit Pc
set_option linter.unusedVariables false
set_option linter.unusedSimpArgs false

section
variable {w0 w : World} {F : Hp} {bc bk be kk ps gs : Nat} {pr er : Value} {cs : List Value} {α : Type} {X : α → Hp} {ad : α → Nat}
abbrev nwC (bc bk be kk ps gs : Nat) (pr er : Value) (cs : List Value) (F : Hp) : Hp := pc bk 35 [vp kk] * (pc bc 27 (cfgL ps gs pr) * (pc kk 85 cs * (pc be 32 [er] * F)))
abbrev nwS1 (bc bk kk ps gs : Nat) (w' : World) : Prop := w'.cell? ⟨bk, 0, none⟩ = some (vp kk) ∧ w'.cell? ⟨bc, 2, none⟩ = some (vi gs)
theorem nw_S1 (h : Sat w0 (nwC bc bk be kk ps gs pr er cs F) w) : nwS1 bc bk kk ps gs w := ⟨h.cell 0 rfl, h.pull2.cell 2 rfl⟩
set_option maxRecDepth 100000 in
set_option maxHeartbeats 4000000 in
theorem new_1 (h : Sat w0 (nwC bc bk be kk ps gs pr er cs F) w) {u : Value} (hu : cs[16]? = some u)
    (hc : ∀ (H : Hp) (w : World), Sat w0 H w → Calls Tryz.prog 35 #[vi gs] w fun e w' => ∃ a, e = .returned (.tuple #[vp (ad a), vi 0]) ∧ Sat w0 (X a * H) w') :
    Calls Tryz.prog 34 #[vp bc, vp bk, vp be] w fun e w' => e = .returned (vi 0) ∧ ∃ a, Sat w0 (nwC bc bk be kk ps gs pr (vi 0) (cs.set 16 (vp (ad a))) (X a * F)) w' := by
  have hD := h.drew
  have T0 := Lib.hid (nw_S1 hD)
  have HC := Lib.hid (hc _ _ hD)
  have HU := Lib.hid hu
  clear h hc hD hu
  go_enter Tryz.func34, Tryz.ntmps34
  go_wp2
  go_region_held3 (nwS1 bc bk kk ps gs)
    (first | (with_reducible exact T3.out) | (with_reducible exact T2.out) | (with_reducible exact T1.out) | (with_reducible exact T0.out))
    (first
      | (go_at_call 35; refine HC.out.mono ?_; rintro e w1 ⟨a, rfl, hS1⟩; have hE := hS1.cast (show _ = nwC bc bk be kk ps gs pr er cs (X a * F) from (by simp only [nwC]; ac_rfl)); have T1 := Lib.hid (nw_S1 hE); have x1 := hE.pull3.cell 16 HU.out; have f1 := hE.pull3.free 16; have hs1 : Sat w0 (nwC bc bk be kk ps gs pr er (cs.set 16 (vp (ad a))) (X a * F)) _ := ((hE.pull3.store 16 (vp (ad a))).cast (by simp only [nwC]; ac_rfl)); have T2 := Lib.hid (nw_S1 hs1); have x2 := hs1.pull4.cell 0 rfl; have f2 := hs1.pull4.free 0; have hs2 : Sat w0 (nwC bc bk be kk ps gs pr (vi 0) (cs.set 16 (vp (ad a))) (X a * F)) _ := ((hs1.pull4.store 0 (vi 0)).cast (by simp only [nwC, List.set_cons_zero]; ac_rfl)); have T3 := Lib.hid (nw_S1 hs2); have x3 := hs2.pull4.cell 0 rfl; have E := Lib.hid hs2; clear hS1 hE hs1 hs2))
  go_wp2_with fail
  go_ret
  exact ⟨rfl, a, E.out⟩
abbrev nwS2 (bc bk kk ps gs : Nat) (w' : World) : Prop := w'.cell? ⟨bk, 0, none⟩ = some (vp kk) ∧ w'.cell? ⟨bc, 3, none⟩ = some (vi 4) ∧ w'.cell? ⟨bc, 7, none⟩ = some (vi 4)
theorem nw_S2 (h : Sat w0 (nwC bc bk be kk ps gs pr er cs F) w) : nwS2 bc bk kk ps gs w := ⟨h.cell 0 rfl, h.pull2.cell 3 rfl, h.pull2.cell 7 rfl⟩
set_option maxRecDepth 100000 in
set_option maxHeartbeats 4000000 in
theorem new_2 (h : Sat w0 (nwC bc bk be kk ps gs pr er cs F) w) {u : Value} (hu : cs[17]? = some u)
    (hc : ∀ (H : Hp) (w : World), Sat w0 H w → Calls Tryz.prog 37 #[vi 4, vi 4] w fun e w' => ∃ a, e = .returned (.tuple #[vp (ad a), vi 0]) ∧ Sat w0 (X a * H) w') :
    Calls Tryz.prog 36 #[vp bc, vp bk, vp be] w fun e w' => e = .returned (vi 0) ∧ ∃ a, Sat w0 (nwC bc bk be kk ps gs pr (vi 0) (cs.set 17 (vp (ad a))) (X a * F)) w' := by
  have hD := h.drew
  have T0 := Lib.hid (nw_S2 hD)
  have HC := Lib.hid (hc _ _ hD)
  have HU := Lib.hid hu
  clear h hc hD hu
  go_enter Tryz.func36, Tryz.ntmps36
  go_wp2
  go_region_held3 (nwS2 bc bk kk ps gs)
    (first | (with_reducible exact T3.out) | (with_reducible exact T2.out) | (with_reducible exact T1.out) | (with_reducible exact T0.out))
    (first
      | (go_at_call 37; refine HC.out.mono ?_; rintro e w1 ⟨a, rfl, hS1⟩; have hE := hS1.cast (show _ = nwC bc bk be kk ps gs pr er cs (X a * F) from (by simp only [nwC]; ac_rfl)); have T1 := Lib.hid (nw_S2 hE); have x1 := hE.pull3.cell 17 HU.out; have f1 := hE.pull3.free 17; have hs1 : Sat w0 (nwC bc bk be kk ps gs pr er (cs.set 17 (vp (ad a))) (X a * F)) _ := ((hE.pull3.store 17 (vp (ad a))).cast (by simp only [nwC]; ac_rfl)); have T2 := Lib.hid (nw_S2 hs1); have x2 := hs1.pull4.cell 0 rfl; have f2 := hs1.pull4.free 0; have hs2 : Sat w0 (nwC bc bk be kk ps gs pr (vi 0) (cs.set 17 (vp (ad a))) (X a * F)) _ := ((hs1.pull4.store 0 (vi 0)).cast (by simp only [nwC, List.set_cons_zero]; ac_rfl)); have T3 := Lib.hid (nw_S2 hs2); have x3 := hs2.pull4.cell 0 rfl; have E := Lib.hid hs2; clear hS1 hE hs1 hs2))
  go_wp2_with fail
  go_ret
  exact ⟨rfl, a, E.out⟩
abbrev nwS3 (bc bk kk ps gs : Nat) (w' : World) : Prop := w'.cell? ⟨bk, 0, none⟩ = some (vp kk) ∧ w'.cell? ⟨bc, 4, none⟩ = some (vi 4) ∧ w'.cell? ⟨bc, 2, none⟩ = some (vi gs) ∧ w'.cell? ⟨bc, 10, none⟩ = some (vu 1000) ∧ w'.cell? ⟨bc, 11, none⟩ = some (vu 50)
theorem nw_S3 (h : Sat w0 (nwC bc bk be kk ps gs pr er cs F) w) : nwS3 bc bk kk ps gs w := ⟨h.cell 0 rfl, h.pull2.cell 4 rfl, h.pull2.cell 2 rfl, h.pull2.cell 10 rfl, h.pull2.cell 11 rfl⟩
set_option maxRecDepth 100000 in
set_option maxHeartbeats 4000000 in
theorem new_3 (h : Sat w0 (nwC bc bk be kk ps gs pr er cs F) w) {u : Value} (hu : cs[18]? = some u)
    (hc : ∀ (H : Hp) (w : World), Sat w0 H w → Calls Tryz.prog 39 #[vi 4, vi gs, vu 1000, vu 50] w fun e w' => ∃ a, e = .returned (.tuple #[vp (ad a), vi 0]) ∧ Sat w0 (X a * H) w') :
    Calls Tryz.prog 38 #[vp bc, vp bk, vp be] w fun e w' => e = .returned (vi 0) ∧ ∃ a, Sat w0 (nwC bc bk be kk ps gs pr (vi 0) (cs.set 18 (vp (ad a))) (X a * F)) w' := by
  have hD := h.drew
  have T0 := Lib.hid (nw_S3 hD)
  have HC := Lib.hid (hc _ _ hD)
  have HU := Lib.hid hu
  clear h hc hD hu
  go_enter Tryz.func38, Tryz.ntmps38
  go_wp2
  go_region_held3 (nwS3 bc bk kk ps gs)
    (first | (with_reducible exact T3.out) | (with_reducible exact T2.out) | (with_reducible exact T1.out) | (with_reducible exact T0.out))
    (first
      | (go_at_call 39; refine HC.out.mono ?_; rintro e w1 ⟨a, rfl, hS1⟩; have hE := hS1.cast (show _ = nwC bc bk be kk ps gs pr er cs (X a * F) from (by simp only [nwC]; ac_rfl)); have T1 := Lib.hid (nw_S3 hE); have x1 := hE.pull3.cell 18 HU.out; have f1 := hE.pull3.free 18; have hs1 : Sat w0 (nwC bc bk be kk ps gs pr er (cs.set 18 (vp (ad a))) (X a * F)) _ := ((hE.pull3.store 18 (vp (ad a))).cast (by simp only [nwC]; ac_rfl)); have T2 := Lib.hid (nw_S3 hs1); have x2 := hs1.pull4.cell 0 rfl; have f2 := hs1.pull4.free 0; have hs2 : Sat w0 (nwC bc bk be kk ps gs pr (vi 0) (cs.set 18 (vp (ad a))) (X a * F)) _ := ((hs1.pull4.store 0 (vi 0)).cast (by simp only [nwC, List.set_cons_zero]; ac_rfl)); have T3 := Lib.hid (nw_S3 hs2); have x3 := hs2.pull4.cell 0 rfl; have E := Lib.hid hs2; clear hS1 hE hs1 hs2))
  go_wp2_with fail
  go_ret
  exact ⟨rfl, a, E.out⟩
abbrev nwS4 (bc bk kk ps gs : Nat) (w' : World) : Prop := w'.cell? ⟨bk, 0, none⟩ = some (vp kk) ∧ w'.cell? ⟨bc, 2, none⟩ = some (vi gs) ∧ w'.cell? ⟨bc, 6, none⟩ = some (vi 6) ∧ w'.cell? ⟨bc, 5, none⟩ = some (vi 40)
theorem nw_S4 (h : Sat w0 (nwC bc bk be kk ps gs pr er cs F) w) : nwS4 bc bk kk ps gs w := ⟨h.cell 0 rfl, h.pull2.cell 2 rfl, h.pull2.cell 6 rfl, h.pull2.cell 5 rfl⟩
set_option maxRecDepth 100000 in
set_option maxHeartbeats 4000000 in
theorem new_4 (h : Sat w0 (nwC bc bk be kk ps gs pr er cs F) w) {u : Value} (hu : cs[19]? = some u)
    (hc : ∀ (H : Hp) (w : World), Sat w0 H w → Calls Tryz.prog 41 #[vi gs, vi 6, vi 40] w fun e w' => ∃ a, e = .returned (.tuple #[vp (ad a), vi 0]) ∧ Sat w0 (X a * H) w') :
    Calls Tryz.prog 40 #[vp bc, vp bk, vp be] w fun e w' => e = .returned (vi 0) ∧ ∃ a, Sat w0 (nwC bc bk be kk ps gs pr (vi 0) (cs.set 19 (vp (ad a))) (X a * F)) w' := by
  have hD := h.drew
  have T0 := Lib.hid (nw_S4 hD)
  have HC := Lib.hid (hc _ _ hD)
  have HU := Lib.hid hu
  clear h hc hD hu
  go_enter Tryz.func40, Tryz.ntmps40
  go_wp2
  go_region_held3 (nwS4 bc bk kk ps gs)
    (first | (with_reducible exact T3.out) | (with_reducible exact T2.out) | (with_reducible exact T1.out) | (with_reducible exact T0.out))
    (first
      | (go_at_call 41; refine HC.out.mono ?_; rintro e w1 ⟨a, rfl, hS1⟩; have hE := hS1.cast (show _ = nwC bc bk be kk ps gs pr er cs (X a * F) from (by simp only [nwC]; ac_rfl)); have T1 := Lib.hid (nw_S4 hE); have x1 := hE.pull3.cell 19 HU.out; have f1 := hE.pull3.free 19; have hs1 : Sat w0 (nwC bc bk be kk ps gs pr er (cs.set 19 (vp (ad a))) (X a * F)) _ := ((hE.pull3.store 19 (vp (ad a))).cast (by simp only [nwC]; ac_rfl)); have T2 := Lib.hid (nw_S4 hs1); have x2 := hs1.pull4.cell 0 rfl; have f2 := hs1.pull4.free 0; have hs2 : Sat w0 (nwC bc bk be kk ps gs pr (vi 0) (cs.set 19 (vp (ad a))) (X a * F)) _ := ((hs1.pull4.store 0 (vi 0)).cast (by simp only [nwC, List.set_cons_zero]; ac_rfl)); have T3 := Lib.hid (nw_S4 hs2); have x3 := hs2.pull4.cell 0 rfl; have E := Lib.hid hs2; clear hS1 hE hs1 hs2))
  go_wp2_with fail
  go_ret
  exact ⟨rfl, a, E.out⟩
abbrev nwS5 (bc bk kk ps gs : Nat) (w' : World) : Prop := w'.cell? ⟨bk, 0, none⟩ = some (vp kk) ∧ w'.cell? ⟨bc, 0, none⟩ = some (vi ps) ∧ w'.cell? ⟨bc, 1, none⟩ = some (vi 2)
theorem nw_S5 (h : Sat w0 (nwC bc bk be kk ps gs pr er cs F) w) : nwS5 bc bk kk ps gs w := ⟨h.cell 0 rfl, h.pull2.cell 0 rfl, h.pull2.cell 1 rfl⟩
set_option maxRecDepth 100000 in
set_option maxHeartbeats 4000000 in
theorem new_5 (h : Sat w0 (nwC bc bk be kk ps gs pr er cs F) w) {u : Value} (hu : cs[20]? = some u)
    (hc : ∀ (H : Hp) (w : World), Sat w0 H w → Calls Tryz.prog 43 #[vi ps, vi 2] w fun e w' => ∃ a, e = .returned (.tuple #[vp (ad a), vi 0]) ∧ Sat w0 (X a * H) w') :
    Calls Tryz.prog 42 #[vp bc, vp bk, vp be] w fun e w' => e = .returned (vi 0) ∧ ∃ a, Sat w0 (nwC bc bk be kk ps gs pr (vi 0) (cs.set 20 (vp (ad a))) (X a * F)) w' := by
  have hD := h.drew
  have T0 := Lib.hid (nw_S5 hD)
  have HC := Lib.hid (hc _ _ hD)
  have HU := Lib.hid hu
  clear h hc hD hu
  go_enter Tryz.func42, Tryz.ntmps42
  go_wp2
  go_region_held3 (nwS5 bc bk kk ps gs)
    (first | (with_reducible exact T3.out) | (with_reducible exact T2.out) | (with_reducible exact T1.out) | (with_reducible exact T0.out))
    (first
      | (go_at_call 43; refine HC.out.mono ?_; rintro e w1 ⟨a, rfl, hS1⟩; have hE := hS1.cast (show _ = nwC bc bk be kk ps gs pr er cs (X a * F) from (by simp only [nwC]; ac_rfl)); have T1 := Lib.hid (nw_S5 hE); have x1 := hE.pull3.cell 20 HU.out; have f1 := hE.pull3.free 20; have hs1 : Sat w0 (nwC bc bk be kk ps gs pr er (cs.set 20 (vp (ad a))) (X a * F)) _ := ((hE.pull3.store 20 (vp (ad a))).cast (by simp only [nwC]; ac_rfl)); have T2 := Lib.hid (nw_S5 hs1); have x2 := hs1.pull4.cell 0 rfl; have f2 := hs1.pull4.free 0; have hs2 : Sat w0 (nwC bc bk be kk ps gs pr (vi 0) (cs.set 20 (vp (ad a))) (X a * F)) _ := ((hs1.pull4.store 0 (vi 0)).cast (by simp only [nwC, List.set_cons_zero]; ac_rfl)); have T3 := Lib.hid (nw_S5 hs2); have x3 := hs2.pull4.cell 0 rfl; have E := Lib.hid hs2; clear hS1 hE hs1 hs2))
  go_wp2_with fail
  go_ret
  exact ⟨rfl, a, E.out⟩
abbrev nwS6 (bc bk kk ps gs : Nat) (w' : World) : Prop := w'.cell? ⟨bk, 0, none⟩ = some (vp kk) ∧ w'.cell? ⟨bc, 8, none⟩ = some (vi 8)
theorem nw_S6 (h : Sat w0 (nwC bc bk be kk ps gs pr er cs F) w) : nwS6 bc bk kk ps gs w := ⟨h.cell 0 rfl, h.pull2.cell 8 rfl⟩
set_option maxRecDepth 100000 in
set_option maxHeartbeats 4000000 in
theorem new_6 (h : Sat w0 (nwC bc bk be kk ps gs pr er cs F) w) {u : Value} (hu : cs[22]? = some u)
    (hc : ∀ (H : Hp) (w : World), Sat w0 H w → Calls Tryz.prog 45 #[vi 8] w fun e w' => ∃ a, e = .returned (.tuple #[vp (ad a), vi 0]) ∧ Sat w0 (X a * H) w') :
    Calls Tryz.prog 44 #[vp bc, vp bk, vp be] w fun e w' => e = .returned (vi 0) ∧ ∃ a, Sat w0 (nwC bc bk be kk ps gs pr (vi 0) (cs.set 22 (vp (ad a))) (X a * F)) w' := by
  have hD := h.drew
  have T0 := Lib.hid (nw_S6 hD)
  have HC := Lib.hid (hc _ _ hD)
  have HU := Lib.hid hu
  clear h hc hD hu
  go_enter Tryz.func44, Tryz.ntmps44
  go_wp2
  go_region_held3 (nwS6 bc bk kk ps gs)
    (first | (with_reducible exact T3.out) | (with_reducible exact T2.out) | (with_reducible exact T1.out) | (with_reducible exact T0.out))
    (first
      | (go_at_call 45; refine HC.out.mono ?_; rintro e w1 ⟨a, rfl, hS1⟩; have hE := hS1.cast (show _ = nwC bc bk be kk ps gs pr er cs (X a * F) from (by simp only [nwC]; ac_rfl)); have T1 := Lib.hid (nw_S6 hE); have x1 := hE.pull3.cell 22 HU.out; have f1 := hE.pull3.free 22; have hs1 : Sat w0 (nwC bc bk be kk ps gs pr er (cs.set 22 (vp (ad a))) (X a * F)) _ := ((hE.pull3.store 22 (vp (ad a))).cast (by simp only [nwC]; ac_rfl)); have T2 := Lib.hid (nw_S6 hs1); have x2 := hs1.pull4.cell 0 rfl; have f2 := hs1.pull4.free 0; have hs2 : Sat w0 (nwC bc bk be kk ps gs pr (vi 0) (cs.set 22 (vp (ad a))) (X a * F)) _ := ((hs1.pull4.store 0 (vi 0)).cast (by simp only [nwC, List.set_cons_zero]; ac_rfl)); have T3 := Lib.hid (nw_S6 hs2); have x3 := hs2.pull4.cell 0 rfl; have E := Lib.hid hs2; clear hS1 hE hs1 hs2))
  go_wp2_with fail
  go_ret
  exact ⟨rfl, a, E.out⟩
end
end Go.Proofs.YtdbppfcilaajaaaGreat.Kn
