/-
  Package kernel: New's closures, one behind the other. No statement is proved here.
-/
import Derived.Test.YtdbppfcilaajaaaGreatMg13
import Derived.Test.YtdbppfcilaajaaaGreatMg28
import Derived.Test.YtdbppfcilaajaaaGreatMg29
import Derived.Test.YtdbppfcilaajaaaGreatMg30
import Derived.Test.YtdbppfcilaajaaaGreatMg27
import Derived.Deep.CutBlock
import Derived.Deep.DeepCutAuto
namespace Go.Proofs.YtdbppfcilaajaaaGreat.Kn
open Go.RowKit Pc
set_option linter.unusedVariables false
set_option linter.unusedSimpArgs false

/-- Where a kernel's parts lie. -/
structure KA where
  kk : Nat
  g : Nat
  q1 : Nat
  c : Nat
  d : Nat
  q2 : Nat
  s : Nat
  D : Pc.Ad
  t : Nat
  a : Nat
def kc0 : List Cn.CP := Cn.newC 4
def kf0 : List Nat := Ac.newF 4 4
def kc1 : List Cn.CP := Cn.mkL kc0 kf0 100 20 0
def kf1 : List Nat := Cn.mkF kf0 100 20 0
theorem kx1 : Cn.mkI kf0 100 20 0 = 0 ∧ Cn.mkG kc0 kf0 100 20 0 = 1 ∧ Cn.mkE kf0 100 20 0 = 0 := by decide
def kc2 : List Cn.CP := Cn.bindL kc1 0 1 1
theorem kx2 : Cn.eC kc1 0 1 = 0 ∧ Cn.bindE kc1 0 1 1 = 0 := by decide
theorem kI0 : Cn.Inv 4 4 0 kc0 kf0 0 := Cn.Inv.new 4 ⟨by omega, by omega⟩ 4 ⟨by omega, by omega⟩
theorem kI1 : Cn.Inv 4 4 1 kc1 kf1 0 := kI0.mk_ 100 20 0 (by omega)
theorem kI2 : Cn.Inv 4 4 2 kc2 kf1 0 := kI1.bind 1 (by omega)
/-- The domains: so many live in the root, so much of it is used. -/
def dmL (gs : Nat) (l u : Int) : List Ad.Pl := [⟨1, true, false, ⟨0, 0, gs, 1000, 50, 0, 0, l, l, u, 0⟩⟩, ⟨1, false, false, Ad.ez⟩, ⟨1, false, false, Ad.ez⟩, ⟨1, false, false, Ad.ez⟩]
theorem dm_bd (gs : Nat) (l u : Int) (hl : 0 ≤ l ∧ l ≤ 64) : ∀ (k : Nat) (a : Ad.Pl), (dmL gs l u)[k]? = some a → -1000 ≤ a.x.v7 ∧ a.x.v7 ≤ 1000000 ∧ -1000 ≤ a.x.v8 ∧ a.x.v8 ≤ 1000000 := by
  intro k a h
  have := List.mem_of_getElem? h
  simp only [dmL, List.mem_cons, List.not_mem_nil, or_false] at this
  rcases this with rfl | rfl | rfl | rfl
  · exact ⟨by show -1000 ≤ l; omega, by show l ≤ 1000000; omega, by show -1000 ≤ l; omega, by show l ≤ 1000000; omega⟩
  all_goals exact ⟨by decide, by decide, by decide, by decide⟩
section
variable {w0 w : World} {F : Hp} {d q : Nat}
theorem dm_join (gs : Nat) (l u : Int) (fr : List Nat) (hg : gs ≤ 64) (hl : 0 ≤ l) (hlt : l < gs) (hu : u = 0) (hS : Sat w0 (Dm.domB d q * (Ad.tblP q (dmL gs l u) fr * F)) w) :
    Calls Tryz.prog 108 #[vp d, Ad.vr 0 1] w fun e w' => e = .returned (vi 0) ∧ Sat w0 (Dm.domB d q * (Ad.tblP q (dmL gs (l + 1) u) fr * F)) w' :=
  Dm.join_ok hS 0 1 rfl [0] ⟨rfl, rfl, rfl⟩ (by simp) (dm_bd gs l u ⟨hl, by omega⟩) (by show Dm.DomOk ⟨0, 0, gs, 1000, 50, 0, 0, l, l, u, 0⟩; simp only [Dm.DomOk]; omega) (by show l < (gs : Int) - 0; omega)
end
def gp0 (gs : Nat) : List Ag.Pl := List.replicate gs ⟨1, false, false, Ag.ez⟩
def gp1 (ps gs : Nat) : List Ag.Pl := (gp0 gs).set 0 ⟨1, true, false, newG 0 1 0 1 (Nu.maskN ps) 0⟩
section
variable {w0 w : World} {F : Hp} {bc bk be bl br kk ht g8 ps gs : Nat} {pr prv er : Value}
def newFn (k : Nat) : Nat := if k = 0 then 34 else if k = 1 then 36 else if k = 2 then 38 else if k = 3 then 40 else if k = 4 then 42 else if k = 5 then 44 else if k = 6 then 46 else 48
def newCp (bc bk be bl br : Nat) (k : Nat) : Array Value := if k < 6 then #[vp bc, vp bk, vp be] else if k = 6 then #[vp bk, vp bc, vp bl, vp be] else #[vp bk, vp bl, vp br, vp be]
theorem new_enter (k : Nat) (hk : k < 8) (xs : Array Value) (w : World) : (callFunc (newFn k) xs).run Tryz.prog w = .ok (.enter (newFn k) xs) w := by
  have hs : k = 0 ∨ k = 1 ∨ k = 2 ∨ k = 3 ∨ k = 4 ∨ k = 5 ∨ k = 6 ∨ k = 7 := by omega
  rcases hs with rfl | rfl | rfl | rfl | rfl | rfl | rfl | rfl
  · exact run_enter Tryz.func34 (by kernel_rfl) (by kernel_rfl) (by kernel_rfl) xs w
  · exact run_enter Tryz.func36 (by kernel_rfl) (by kernel_rfl) (by kernel_rfl) xs w
  · exact run_enter Tryz.func38 (by kernel_rfl) (by kernel_rfl) (by kernel_rfl) xs w
  · exact run_enter Tryz.func40 (by kernel_rfl) (by kernel_rfl) (by kernel_rfl) xs w
  · exact run_enter Tryz.func42 (by kernel_rfl) (by kernel_rfl) (by kernel_rfl) xs w
  · exact run_enter Tryz.func44 (by kernel_rfl) (by kernel_rfl) (by kernel_rfl) xs w
  · exact run_enter Tryz.func46 (by kernel_rfl) (by kernel_rfl) (by kernel_rfl) xs w
  · exact run_enter Tryz.func48 (by kernel_rfl) (by kernel_rfl) (by kernel_rfl) xs w
/-- What lies beside the tables while they are made. -/
abbrev nwR (bc bk be bl br g8 ht : Nat) (prv x0 x1 : Value) (F : Hp) : Hp := pc br 30 [x0, x1] * (sl 89 1 (.slice (some ⟨g8, 0, none⟩) 8 8) 8 (cloL newFn (newCp bc bk be bl br) 8) * (Hm.heapP ht [] 0 * (prB prv * F)))
abbrev nilP : Value := .pointer none
def stC (A : KA) (ht ps gs : Nat) (prv : Value) (k : Nat) : List Value := knL ps gs prv 0 (if 1 ≤ k then vp A.g else nilP) (if 2 ≤ k then vp A.c else nilP) (if 3 ≤ k then vp A.d else nilP) (if 4 ≤ k then vp A.s else nilP) (if 5 ≤ k then vp A.D.s else nilP) (vp ht) (if 6 ≤ k then vp A.a else nilP)
abbrev cG (A : KA) (gps : List Ag.Pl) (gfr : List Nat) : Hp := Gt.gtB A.g A.q1 * Ag.tblP A.q1 gps gfr
def stX (A : KA) (ps gs : Nat) : Nat → Hp → Hp
  | 0, F => F
  | 1, F => cG A (gp0 gs) (Ag.newF gs gs) * F
  | 2, F => Cn.cxQ [] A.c 4 kc0 kf0 * (cG A (gp0 gs) (Ag.newF gs gs) * F)
  | 3, F => domD A.d A.q2 (dmL gs 0 0) (Ad.newF 4 3) * (Cn.cxQ [] A.c 4 kc0 kf0 * (cG A (gp0 gs) (Ag.newF gs gs) * F))
  | 4, F => spQ A.s gs 0 * (domD A.d A.q2 (dmL gs 0 0) (Ad.newF 4 3) * (Cn.cxQ [] A.c 4 kc0 kf0 * (cG A (gp0 gs) (Ag.newF gs gs) * F)))
  | 5, F => plB A.D (fun _ => pl0) [] * (spQ A.s gs 0 * (domD A.d A.q2 (dmL gs 0 0) (Ad.newF 4 3) * (Cn.cxQ [] A.c 4 kc0 kf0 * (cG A (gp0 gs) (Ag.newF gs gs) * F))))
  | 6, F => plB A.D (fun _ => pl0) [] * (spQ A.s gs 0 * (domD A.d A.q2 (dmL gs 0 0) (Ad.newF 4 3) * (Cn.cxQ [] A.c 4 kc0 kf0 * (cG A (gp0 gs) (Ag.newF gs gs) * F))))
  | 7, F => plB A.D (fun _ => pl0) [] * (spQ A.s gs 0 * (domD A.d A.q2 (dmL gs 0 0) (Ad.newF 4 3) * (Cn.cxQ [] A.c 4 kc1 kf1 * (cG A (gp0 gs) (Ag.newF gs gs) * F))))
  | _, F => plB A.D (fun _ => pl0) [] * (spQ A.s gs 0 * (domD A.d A.q2 (dmL gs 1 0) (Ad.newF 4 3) * (Cn.cxQ [] A.c 4 kc2 kf1 * (cG A (gp1 ps gs) (Ag.newF gs (gs - 1)) * F))))
/-- All behind so many closures. -/
def stA (A : KA) (bc bk be bl br kk ht g8 ps gs : Nat) (pr prv er : Value) (k : Nat) (F : Hp) : Hp :=
  nwC bc bk be kk ps gs pr er (stC A ht ps gs prv k) (stX A ps gs k (pc bl 30 (if k < 7 then [.int .i64 0, .int .u64 0] else [.int .i64 0, .int .u64 1]) * nwR bc bk be bl br g8 ht prv (.int .i64 0) (if k < 8 then .int .u64 0 else .int .u64 1) F))
def stJ (w0 : World) (bc bk be bl br kk ht g8 ps gs : Nat) (pr prv : Value) (F : Hp) (k : Nat) (w : World) : Prop :=
  ∃ (A : KA) (er : Value), (5 ≤ k → A.D.n = ps ∧ A.D.m = 2) ∧ Sat w0 (stA A bc bk be bl br kk ht g8 ps gs pr prv er k F) w
end
section
variable {w0 w : World} {F : Hp} {bc bk be bl br kk ht g8 ps gs : Nat} {pr prv er : Value}
theorem st_step (hps : 1 ≤ ps ∧ ps ≤ 8) (hgs : 1 ≤ gs ∧ gs ≤ 64) (k : Nat) (hk : k < 8) (w : World) (h : stJ w0 bc bk be bl br kk ht g8 ps gs pr prv F k w) :
    Calls Tryz.prog (newFn k) (newCp bc bk be bl br k) w fun e w' => e = .returned (vi 0) ∧ stJ w0 bc bk be bl br kk ht g8 ps gs pr prv F (k + 1) w' := by
  obtain ⟨A, er, hD, hS⟩ := h
  have hs : k = 0 ∨ k = 1 ∨ k = 2 ∨ k = 3 ∨ k = 4 ∨ k = 5 ∨ k = 6 ∨ k = 7 := by omega
  rcases hs with rfl | rfl | rfl | rfl | rfl | rfl | rfl | rfl
  · refine (new_1 (X := fun x : Nat × Nat => Gt.gtB x.1 x.2 * Ag.tblP x.2 (gp0 gs) (Ag.newF gs gs)) (ad := fun x => x.1) (show Sat w0 (nwC bc bk be kk ps gs pr er _ _) w from hS) (u := nilP) rfl (fun H w hw => (Gt.gt_new gs hgs.1 hgs.2 hw).mono ?_)).mono ?_
    · rintro e w' ⟨h, p, rfl, h'⟩
      exact ⟨(h, p), rfl, h'.cast (by simp only [gp0]; ac_rfl)⟩
    · rintro e w' ⟨rfl, a, h'⟩
      exact ⟨rfl, { A with g := a.1, q1 := a.2 }, _, fun h => absurd h (by omega), h'.cast (by rfl)⟩
  · refine (new_2 (X := fun x : Nat => Cn.cxQ [] x 4 kc0 kf0) (ad := fun x => x) (show Sat w0 (nwC bc bk be kk ps gs pr er _ _) w from hS) (u := nilP) rfl (fun H w hw => (Cn.p_new 4 ⟨by omega, by omega⟩ ⟨by omega, by omega⟩ hw).mono ?_)).mono ?_
    · rintro e w' ⟨h, rfl, h'⟩
      exact ⟨h, rfl, h'⟩
    · rintro e w' ⟨rfl, a, h'⟩
      exact ⟨rfl, { A with c := a }, _, fun h => absurd h (by omega), h'.cast (by rfl)⟩
  · refine (new_3 (X := fun x : Nat × Nat => domD x.1 x.2 (dmL gs 0 0) (Ad.newF 4 3)) (ad := fun x => x.1) (show Sat w0 (nwC bc bk be kk ps gs pr er _ _) w from hS) (u := nilP) rfl (fun H w hw => (Dm.dm_new 4 (by omega) (by omega) gs 1000 50 (by unfold Dm.MayD; omega) hw).mono ?_)).mono ?_
    · rintro e w' ⟨h, p, rfl, h'⟩
      exact ⟨(h, p), rfl, h'.cast (by simp only [domD]; rw [show Dm.rootL 4 gs 1000 50 = dmL gs 0 0 from rfl]; ac_rfl)⟩
    · rintro e w' ⟨rfl, a, h'⟩
      exact ⟨rfl, { A with d := a.1, q2 := a.2 }, _, fun h => absurd h (by omega), h'.cast (by rfl)⟩
  · refine (new_4 (X := fun x : Nat => spQ x gs 0) (ad := fun x => x) (show Sat w0 (nwC bc bk be kk ps gs pr er _ _) w from hS) (u := nilP) rfl (fun H w hw => (sp_new gs hgs.1 hgs.2 hw).mono ?_)).mono ?_
    · rintro e w' ⟨h, rfl, h'⟩
      exact ⟨h, rfl, h'⟩
    · rintro e w' ⟨rfl, a, h'⟩
      exact ⟨rfl, { A with s := a }, _, fun h => absurd h (by omega), h'.cast (by rfl)⟩
  · refine (new_5 (X := fun x : { D : Pc.Ad // D.n = ps ∧ D.m = 2 } => plB x.1 (fun _ => pl0) []) (ad := fun x => x.1.s) (show Sat w0 (nwC bc bk be kk ps gs pr er _ _) w from hS) (u := nilP) rfl (fun H w hw => (pl_new ps 2 hps.1 hps.2 (by omega) (by omega) hw).mono ?_)).mono ?_
    · rintro e w' ⟨D, h1, h2, rfl, h'⟩
      exact ⟨⟨D, h1, h2⟩, rfl, h'⟩
    · rintro e w' ⟨rfl, a, h'⟩
      exact ⟨rfl, { A with D := a.1 }, _, fun _ => a.2, h'.cast (by rfl)⟩
  · refine (new_6 (X := fun x : Nat => emp) (ad := fun x => x) (show Sat w0 (nwC bc bk be kk ps gs pr er _ _) w from hS) (u := nilP) rfl (fun H w hw => (au_new hw).mono ?_)).mono ?_
    · rintro e w' ⟨h, rfl, h'⟩
      exact ⟨h, rfl, h'.cast (emp_sep H).symm⟩
    · rintro e w' ⟨rfl, a, h'⟩
      exact ⟨rfl, { A with a := a }, _, fun _ => hD (by omega), h'.cast (by rw [emp_sep]; rfl)⟩
  · have hS' := hS.cast (show _ = nw7 bc bk be bl kk ps gs pr er (.int .i64 0) (.int .u64 0) (pc kk 85 (stC A ht ps gs prv 6) * Cn.cxQ [] A.c 4 kc0 kf0) (plB A.D (fun _ => pl0) [] * (spQ A.s gs 0 * (domD A.d A.q2 (dmL gs 0 0) (Ad.newF 4 3) * (cG A (gp0 gs) (Ag.newF gs gs) * nwR bc bk be bl br g8 ht prv (.int .i64 0) (.int .u64 0) F)))) by
      show nwC _ _ _ _ _ _ _ _ _ (plB _ _ _ * (spQ _ _ _ * (domD _ _ _ _ * (Cn.cxQ _ _ _ _ _ * (cG _ _ _ * (pc bl _ [.int .i64 0, .int .u64 0] * nwR _ _ _ _ _ _ _ _ _ (.int .u64 0) _)))))) = _
      simp only [nwC, nw7]
      ac_rfl)
    refine (new_7 (c := A.c) (x := 0) (y := 1) (Y' := pc kk 85 (stC A ht ps gs prv 6) * Cn.cxQ [] A.c 4 kc1 kf1) hS' (fun H w h => (h.cast (sep_assoc _ _ _)).cell 17 rfl) (fun H w h => (h.cast (sep_assoc _ _ _)).cell 17 rfl) (fun H w h => ?_)).mono ?_
    · have := Cn.p_make kI0 (h.cast (show _ = Cn.cxQ [] A.c 4 kc0 kf0 * (pc kk 85 (stC A ht ps gs prv 6) * H) by ac_rfl)) 100 20 0 (by omega)
      rw [kx1.1, kx1.2.1, kx1.2.2] at this
      refine this.mono ?_
      rintro e w' ⟨rfl, h'⟩
      exact ⟨rfl, h'.cast (by simp only [kc1, kf1]; ac_rfl)⟩
    · rintro e w' ⟨rfl, h'⟩
      refine ⟨rfl, A, vi 0, fun _ => hD (by omega), h'.cast ?_⟩
      show _ = nwC _ _ _ _ _ _ _ _ (stC A ht ps gs prv 6) (plB _ _ _ * (spQ _ _ _ * (domD _ _ _ _ * (Cn.cxQ _ _ _ _ _ * (cG _ _ _ * (pc bl _ [.int .i64 0, .int .u64 1] * nwR _ _ _ _ _ _ _ _ _ (.int .u64 0) _))))))
      simp only [nwC, nw7]
      ac_rfl
  · have hg1 : Ag.newF gs gs = Ag.newF gs (gs - 1) ++ [0] := by
      obtain ⟨m, rfl⟩ : ∃ m, gs = m + 1 := ⟨gs - 1, by omega⟩
      rw [Ag.newF_succ]
      simp
    have hk0 : (gp0 gs)[0]? = some ⟨1, false, false, Ag.ez⟩ := by
      unfold gp0
      rw [List.getElem?_replicate, if_pos (by omega)]
    have hS' := hS.cast (show _ = nw8 bk be bl br kk er (.int .i64 0) (.int .u64 0) (knB kk ps gs prv 0 (vp A.g) (vp A.c) (vp A.d) (vp A.s) (vp A.D.s) (vp ht) (vp A.a) * (Gt.gtB A.g A.q1 * (Ag.tblP A.q1 (gp0 gs) (Ag.newF gs (gs - 1) ++ [0]) * (Cn.cxQ [] A.c 4 kc1 kf1 * (domD A.d A.q2 (dmL gs 0 0) (Ad.newF 4 3) * prB prv))))) (plB A.D (fun _ => pl0) [] * (spQ A.s gs 0 * (pc bc 27 (cfgL ps gs pr) * (sl 89 1 (.slice (some ⟨g8, 0, none⟩) 8 8) 8 (cloL newFn (newCp bc bk be bl br) 8) * (Hm.heapP ht [] 0 * F))))) by
      show nwC _ _ _ _ _ _ _ _ (knL ps gs prv 0 (vp A.g) (vp A.c) (vp A.d) (vp A.s) (vp A.D.s) (vp ht) (vp A.a)) (plB _ _ _ * (spQ _ _ _ * (domD _ _ _ _ * (Cn.cxQ _ _ _ _ _ * (cG _ _ _ * (pc bl _ [.int .i64 0, .int .u64 1] * nwR _ _ _ _ _ _ _ _ _ (.int .u64 0) _)))))) = _
      rw [hg1]
      simp only [nwC, nw8, nwR, cG, rfO, knB]
      ac_rfl)
    refine (new_8 (d := A.d) (x := 0) (y := 1) (Y' := knB kk ps gs prv 0 (vp A.g) (vp A.c) (vp A.d) (vp A.s) (vp A.D.s) (vp ht) (vp A.a) * (Gt.gtB A.g A.q1 * (Ag.tblP A.q1 (gp1 ps gs) (Ag.newF gs (gs - 1)) * (Cn.cxQ [] A.c 4 kc2 kf1 * (domD A.d A.q2 (dmL gs 1 0) (Ad.newF 4 3) * prB prv))))) hS' (fun H w h => (h.cast (sep_assoc _ _ _)).cell 18 rfl) (fun H w h => (h.cast (sep_assoc _ _ _)).cell 18 rfl) (fun H w h => ?_) (fun H w h => ?_)).mono ?_
    · refine (Dm.dm_root (h := A.d) (p := A.q2) (h.cast (show _ = Dm.domB A.d A.q2 * (Ad.tblP A.q2 (dmL gs 0 0) (Ad.newF 4 3) * (knB kk ps gs prv 0 (vp A.g) (vp A.c) (vp A.d) (vp A.s) (vp A.D.s) (vp ht) (vp A.a) * (Gt.gtB A.g A.q1 * (Ag.tblP A.q1 (gp0 gs) (Ag.newF gs (gs - 1) ++ [0]) * (Cn.cxQ [] A.c 4 kc1 kf1 * (prB prv * H)))))) by simp only [domD]; ac_rfl))).mono ?_
      rintro e w' ⟨rfl, h'⟩
      exact ⟨rfl, h'.cast (by simp only [domD]; ac_rfl)⟩
    · have := spawn_ (pg := 0) (k0 := 0) (a0 := ⟨1, false, false, Ag.ez⟩) kI1 (by omega) hps.2 (F := H) (h.cast (show _ = knB kk ps gs prv 0 (vp A.g) (vp A.c) (vp A.d) (vp A.s) (vp A.D.s) (vp ht) (vp A.a) * (Gt.gtB A.g A.q1 * (Ag.tblP A.q1 (gp0 gs) (Ag.newF gs (gs - 1) ++ [0]) * (Cn.cxQ [] A.c 4 kc1 kf1 * (domD A.d A.q2 (dmL gs 0 0) (Ad.newF 4 3) * (prB prv * H))))) by simp only [domD]; ac_rfl)) (by omega) (by omega) (di := 0) (dn := 1) (ci := 0) (cn := 1) rfl kx2.1 kx2.2 (dps' := dmL gs 1 0) (fun H w h => dm_join gs 0 0 (Ad.newF 4 3) hgs.2 (by omega) (by omega) rfl h) hk0
      refine this.mono ?_
      rintro e w' ⟨rfl, h'⟩
      exact ⟨rfl, h'.cast (by simp only [kc2, gp1, domD]; ac_rfl)⟩
    · rintro e w' ⟨rfl, h'⟩
      refine ⟨rfl, A, vi 0, fun _ => hD (by omega), h'.cast ?_⟩
      show _ = nwC _ _ _ _ _ _ _ _ (knL ps gs prv 0 (vp A.g) (vp A.c) (vp A.d) (vp A.s) (vp A.D.s) (vp ht) (vp A.a)) (plB _ _ _ * (spQ _ _ _ * (domD _ _ _ _ * (Cn.cxQ _ _ _ _ _ * (cG _ _ _ * (pc bl _ [.int .i64 0, .int .u64 1] * nwR _ _ _ _ _ _ _ _ _ (.int .u64 1) _))))))
      simp only [nwC, nw8, nwR, cG, rfO, knB]
      ac_rfl
theorem fn8 {H : Hp} {k : Nat} (hk : k < 8) (h : Sat w0 (sl 89 1 (.slice (some ⟨g8, 0, none⟩) 8 8) 8 (cloL newFn (newCp bc bk be bl br) 8) * H) w) : w.cell? ⟨g8, k, none⟩ = some (.func (.func (newFn k)) #[] (newCp bc bk be bl br k)) :=
  Sat.slCell h k (by
    have := rowsN_at (row := fun k => [.func (.func (newFn k)) #[] (newCp bc bk be bl br k)]) (N := 1) (n := 8) (k := k) (j := 0) (v := .func (.func (newFn k)) #[] (newCp bc bk be bl br k)) (fun _ => rfl) hk rfl
    simpa using this)
theorem new_first (hps : 1 ≤ ps ∧ ps ≤ 8) (hgs : 1 ≤ gs ∧ gs ≤ 64) (h : stJ w0 bc bk be bl br kk ht g8 ps gs pr prv F 0 w) :
    Calls Tryz.prog 33 #[.slice (some ⟨g8, 0, none⟩) 8 8] w fun e w' => e = .returned (vi 0) ∧ stJ w0 bc bk be bl br kk ht g8 ps gs pr prv F 8 w' := by
  refine jfirst (n := 8) (by omega) h (fun k hk w hJ => ?_) (fun k hk => new_enter k hk) (fun k hk w hJ => st_step hps hgs k hk w hJ)
  obtain ⟨A, er, _, hS⟩ := hJ
  have hs : k = 0 ∨ k = 1 ∨ k = 2 ∨ k = 3 ∨ k = 4 ∨ k = 5 ∨ k = 6 ∨ k = 7 := by omega
  rcases hs with rfl | rfl | rfl | rfl | rfl | rfl | rfl | rfl
  · exact fn8 hk (Sat.dropL (Sat.dropL (Sat.dropL (Sat.dropL (Sat.dropL (Sat.dropL (show Sat w0 (nwC bc bk be kk ps gs pr er _ _) w from hS)))))))
  · exact fn8 hk (Sat.dropL (Sat.dropL (Sat.dropL (Sat.dropL (Sat.dropL (Sat.dropL (Sat.dropL (show Sat w0 (nwC bc bk be kk ps gs pr er _ _) w from hS))))))))
  · exact fn8 hk (Sat.dropL (Sat.dropL (Sat.dropL (Sat.dropL (Sat.dropL (Sat.dropL (Sat.dropL (Sat.dropL (show Sat w0 (nwC bc bk be kk ps gs pr er _ _) w from hS)))))))))
  · exact fn8 hk (Sat.dropL (Sat.dropL (Sat.dropL (Sat.dropL (Sat.dropL (Sat.dropL (Sat.dropL (Sat.dropL (Sat.dropL (show Sat w0 (nwC bc bk be kk ps gs pr er _ _) w from hS))))))))))
  · exact fn8 hk (Sat.dropL (Sat.dropL (Sat.dropL (Sat.dropL (Sat.dropL (Sat.dropL (Sat.dropL (Sat.dropL (Sat.dropL (Sat.dropL (show Sat w0 (nwC bc bk be kk ps gs pr er _ _) w from hS)))))))))))
  · exact fn8 hk (Sat.dropL (Sat.dropL (Sat.dropL (Sat.dropL (Sat.dropL (Sat.dropL (Sat.dropL (Sat.dropL (Sat.dropL (Sat.dropL (Sat.dropL (show Sat w0 (nwC bc bk be kk ps gs pr er _ _) w from hS))))))))))))
  · exact fn8 hk (Sat.dropL (Sat.dropL (Sat.dropL (Sat.dropL (Sat.dropL (Sat.dropL (Sat.dropL (Sat.dropL (Sat.dropL (Sat.dropL (Sat.dropL (show Sat w0 (nwC bc bk be kk ps gs pr er _ _) w from hS))))))))))))
  · exact fn8 hk (Sat.dropL (Sat.dropL (Sat.dropL (Sat.dropL (Sat.dropL (Sat.dropL (Sat.dropL (Sat.dropL (Sat.dropL (Sat.dropL (Sat.dropL (show Sat w0 (nwC bc bk be kk ps gs pr er _ _) w from hS))))))))))))
end
end Go.Proofs.YtdbppfcilaajaaaGreat.Kn

namespace Go.Proofs.YtdbppfcilaajaaaGreat.Kn
open Go.RowKit Pc
set_option linter.unusedVariables false
set_option linter.unusedSimpArgs false

/-- A kernel at the time 0: its goroutines, contexts, domains, who is where, so many slots. -/
abbrev kF (A : KA) (ps gs : Nat) (prv : Value) (gps : List Ag.Pl) (gfr : List Nat) (cs : List Cn.CP) (cfr : List Nat) (dps : List Ad.Pl) (dfr : List Nat) (j : Nat) (p : Nat → Pl) (gx : List Int) (F : Hp) : Hp :=
  knB A.kk ps gs prv 0 (vp A.g) (vp A.c) (vp A.d) (vp A.s) (vp A.D.s) (vp A.t) (vp A.a) * (cG A gps gfr * (Cn.cxQ [] A.c 4 cs cfr * (domD A.d A.q2 dps dfr * (plB A.D p gx * (spQ A.s gs j * (Hm.heapP A.t [] 0 * (prB prv * F)))))))
theorem wpList_build {P : Program} {ops : Array Oper} {rest : List Oper} {o : Oper} {a : Act} {Q : Exit → Act → World → Prop} {w : World} {t : TypeId} {parts : Array (Nat × Operand)} {v : Value} (hg : o.guard = none) (hop : o.op = .build t parts)
    (hr : ∀ w, (Instr.build t (parts.map fun (i, x) => (i, a.eval x))).run P w = .ok v w) (hK : wpList P ops Q rest (a.put o.dst v) w) : wpList P ops Q (o :: rest) a w := by
  refine wpList_plain hg fun K hK' => ?_
  unfold Oper.wp execOp
  simp only [hop, Sem.run_bind, Sem.run_pure, Result.andThen_ok, hr]
  exact hK' _ _ hK
section
variable {w0 w : World} {F : Hp} {ps gs : Nat} {pr prv : Value}
theorem new_start {bc ht : Nat} (h : Sat w0 (Hm.heapP ht [] 0 * (prB prv * (prB pr * (pc bc 27 (cfgL ps gs pr) * F)))) w) :
    stJ w0 bc (w.heap.size + 1) (w.heap.size + 1 + 1 + 1 + 1) (w.heap.size + 1 + 1 + 1) (w.heap.size + 1 + 1) w.heap.size ht (w.heap.size + 1 + 1 + 1 + 1 + 1) ps gs pr prv (prB pr * F) 0
      ((((((w.alloc (.cells (knL ps gs prv 0 nilP nilP nilP nilP nilP (vp ht) nilP).toArray 85)).alloc (.cells #[.pointer (some ⟨w.heap.size, 0, none⟩)] 35)).alloc (.cells #[.int .i64 0, .int .u64 0] 30)).alloc (.cells #[.int .i64 0, .int .u64 0] 30)).alloc (.cells #[.int .i64 0] 32)).alloc (.cells (cloL newFn (newCp bc (w.heap.size + 1) (w.heap.size + 1 + 1 + 1 + 1) (w.heap.size + 1 + 1 + 1) (w.heap.size + 1 + 1)) 8).toArray 89)) := by
  have a1 := h.alloc (.cells (knL ps gs prv 0 nilP nilP nilP nilP nilP (vp ht) nilP).toArray 85)
  have a2 := a1.alloc (.cells #[.pointer (some ⟨w.heap.size, 0, none⟩)] 35)
  rw [sizeK] at a2
  have a3 := a2.alloc (.cells #[.int .i64 0, .int .u64 0] 30)
  rw [sizeK, sizeK] at a3
  have a4 := a3.alloc (.cells #[.int .i64 0, .int .u64 0] 30)
  rw [sizeK, sizeK, sizeK] at a4
  have a5 := a4.alloc (.cells #[.int .i64 0] 32)
  rw [sizeK, sizeK, sizeK, sizeK] at a5
  have a6 := a5.alloc (.cells (cloL newFn (newCp bc (w.heap.size + 1) (w.heap.size + 1 + 1 + 1 + 1) (w.heap.size + 1 + 1 + 1) (w.heap.size + 1 + 1)) 8).toArray 89)
  rw [sizeK, sizeK, sizeK, sizeK, sizeK] at a6
  have a7 := Sat.slI (g := w.heap.size + 1 + 1 + 1 + 1 + 1) (cur := cloL newFn (newCp bc (w.heap.size + 1) (w.heap.size + 1 + 1 + 1 + 1) (w.heap.size + 1 + 1 + 1) (w.heap.size + 1 + 1)) 8) (n := 8) (cap := 8) (size := 1) a6 (by omega) (by unfold maxLen; omega) (Nat.le_of_eq (rowsN_len (N := 1) (fun _ => rfl) 8).symm) (List.take_of_length_le (Nat.le_of_eq (rowsN_len (N := 1) (fun _ => rfl) 8)))
  refine ⟨⟨0, 0, 0, 0, 0, 0, 0, ⟨0, 0, 0, 0, fun _ => 0, fun _ => 0, 0, 0⟩, 0, 0⟩, vi 0, fun h => absurd h (by omega), a7.cast ?_⟩
  generalize w.heap.size = n
  show _ = nwC _ _ _ _ _ _ _ _ (knL ps gs prv 0 nilP nilP nilP nilP nilP (vp ht) nilP) (pc _ _ [.int .i64 0, .int .u64 0] * nwR _ _ _ _ _ _ _ _ _ (.int .u64 0) _)
  simp only [nwC, nwR, pc]
  ac_rfl
theorem new_end {bc bk be bl br kk ht g8 : Nat} (h : stJ w0 bc bk be bl br kk ht g8 ps gs pr prv (prB pr * F) 8 w) :
    ∃ A : KA, (A.D.n = ps ∧ A.D.m = 2) ∧ A.kk = kk ∧ Sat w0 (pc bk 35 [vp kk] * (pc br 30 [.int .i64 0, .int .u64 1] * (pc bl 30 [.int .i64 0, .int .u64 1] * kF A ps gs prv (gp1 ps gs) (Ag.newF gs (gs - 1)) kc2 kf1 (dmL gs 1 0) (Ad.newF 4 3) 0 (fun _ => pl0) [] (prB pr * F)))) w := by
  obtain ⟨A, er, hD, hS⟩ := h
  refine ⟨{ A with kk := kk, t := ht }, hD (by omega), rfl, ?_⟩
  have h1 : Sat w0 (nwC bc bk be kk ps gs pr er (knL ps gs prv 0 (vp A.g) (vp A.c) (vp A.d) (vp A.s) (vp A.D.s) (vp ht) (vp A.a)) (plB A.D (fun _ => pl0) [] * (spQ A.s gs 0 * (domD A.d A.q2 (dmL gs 1 0) (Ad.newF 4 3) * (Cn.cxQ [] A.c 4 kc2 kf1 * (cG A (gp1 ps gs) (Ag.newF gs (gs - 1)) * (pc bl 30 [.int .i64 0, .int .u64 1] * nwR bc bk be bl br g8 ht prv (.int .i64 0) (.int .u64 1) (prB pr * F)))))))) w := hS
  have h2 := h1.cast (show _ = pc bc 27 (cfgL ps gs pr) * (pc be 32 [er] * (sl 89 1 (.slice (some ⟨g8, 0, none⟩) 8 8) 8 (cloL newFn (newCp bc bk be bl br) 8) * (pc bk 35 [vp kk] * (pc br 30 [.int .i64 0, .int .u64 1] * (pc bl 30 [.int .i64 0, .int .u64 1] * kF { A with kk := kk, t := ht } ps gs prv (gp1 ps gs) (Ag.newF gs (gs - 1)) kc2 kf1 (dmL gs 1 0) (Ad.newF 4 3) 0 (fun _ => pl0) [] (prB pr * F)))))) by
    simp only [nwC, nwR, kF, knB, cG]
    ac_rfl)
  exact h2.dropL.dropL.dropL
/-- Beside the kernel: where it is named, the first goroutine's and the first context's refs. -/
abbrev nwE (bk br bl kk : Nat) (X : Hp) : Hp := pc bk 35 [vp kk] * (pc br 30 [.int .i64 0, .int .u64 1] * (pc bl 30 [.int .i64 0, .int .u64 1] * X))
section
variable {A : KA} {gps : List Ag.Pl} {gfr dfr cfr : List Nat} {cs : List Cn.CP} {dps : List Ad.Pl} {j : Nat} {p : Nat → Pl} {gx : List Int} {bk br bl : Nat}
abbrev neS1 (bk br kk s : Nat) (w' : World) : Prop := w'.cell? ⟨bk, 0, none⟩ = some (vp kk) ∧ w'.cell? ⟨kk, 20, none⟩ = some (vp s) ∧ w'.cell? ⟨br, 0, none⟩ = some (.int .i64 0)
theorem ne_S1 (h : Sat w0 (nwE bk br bl A.kk (kF A ps gs prv gps gfr cs cfr dps dfr j p gx F)) w) : neS1 bk br A.kk A.D.s w := ⟨h.cell 0 rfl, h.pull4.cell 20 rfl, h.pull2.cell 0 rfl⟩
abbrev neS2 (bk br bl kk d : Nat) (w' : World) : Prop := w'.cell? ⟨bk, 0, none⟩ = some (vp kk) ∧ w'.cell? ⟨kk, 18, none⟩ = some (vp d) ∧ w'.cell? ⟨br, 0, none⟩ = some (.int .i64 0) ∧ w'.cell? ⟨br, 1, none⟩ = some (.int .u64 1) ∧ w'.cell? ⟨bl, 0, none⟩ = some (.int .i64 0) ∧ w'.cell? ⟨bl, 1, none⟩ = some (.int .u64 1)
theorem ne_S2 (h : Sat w0 (nwE bk br bl A.kk (kF A ps gs prv gps gfr cs cfr dps dfr j p gx F)) w) : neS2 bk br bl A.kk A.d w := ⟨h.cell 0 rfl, h.pull4.cell 18 rfl, h.pull2.cell 0 rfl, h.pull2.cell 1 rfl, h.pull3.cell 0 rfl, h.pull3.cell 1 rfl⟩
abbrev neS3 (bk br bx kk s : Nat) (j : Int) (w' : World) : Prop := w'.cell? ⟨bk, 0, none⟩ = some (vp kk) ∧ w'.cell? ⟨kk, 19, none⟩ = some (vp s) ∧ w'.cell? ⟨br, 0, none⟩ = some (.int .i64 0) ∧ w'.cell? ⟨bx, 0, none⟩ = some (.int .i64 (3 - j)) ∧ w'.cell? ⟨bx, 1, none⟩ = some (.int .i64 0) ∧ w'.cell? ⟨bx, 2, none⟩ = some (.int .u64 1) ∧ w'.cell? ⟨bx, 3, none⟩ = some (.int .u8 255)
theorem ne_S3 {bx : Nat} {i : Int} (h : Sat w0 (pc bx 106 (capL (3 - i) 0 1 255) * nwE bk br bl A.kk (kF A ps gs prv gps gfr cs cfr dps dfr j p gx F)) w) : neS3 bk br bx A.kk A.s i w :=
  have h2 := h.dropL
  ⟨h2.cell 0 rfl, h2.pull4.cell 19 rfl, h2.pull2.cell 0 rfl, h.cell 0 rfl, h.cell 1 rfl, h.cell 2 rfl, h.cell 3 rfl⟩
end
abbrev capsA : Array Value := #[.int .i64 3, .int .i64 0, .int .u64 1, .int .u8 0, .int .i64 2, .int .i64 0, .int .u64 1, .int .u8 0, .int .i64 1, .int .i64 0, .int .u64 1, .int .u8 0]
theorem root_ {d q : Nat} (h : Sat w0 (Dm.domB d q * F) w) : Calls Tryz.prog 50 #[vp d] w fun e w' => e = .returned (.agg #[.int .i64 0, .int .u64 1]) ∧ Sat w0 (Dm.domB d q * F) w' := Dm.dm_root h
set_option maxRecDepth 100000 in
theorem caps_at (k : Nat) (hk : k < 3) (w : World) : (Instr.index 107 (.agg capsA) (.int .i64 (k : Int))).run Tryz.prog w = .ok (.agg #[.int .i64 (3 - (k : Int)), .int .i64 0, .int .u64 1, .int .u8 0]) w := by
  have hs : k = 0 ∨ k = 1 ∨ k = 2 := by omega
  rcases hs with rfl | rfl | rfl <;> rfl
set_option maxRecDepth 100000 in
set_option maxHeartbeats 8000000 in
theorem k_new (hps : 1 ≤ ps ∧ ps ≤ 8) (hgs : 1 ≤ gs ∧ gs ≤ 64) (h : Sat w0 (prB pr * F) w) :
    Calls Tryz.prog 9 #[.agg (cfgL ps gs pr).toArray] w fun e w' => ∃ (A : KA) (prv : Value), (A.D.n = ps ∧ A.D.m = 2) ∧ e = .returned (.tuple #[vp A.kk, vi 0]) ∧ Sat w0 (kF A ps gs prv (gp1 ps gs) (Ag.newF gs (gs - 1)) kc2 kf1 (dmL gs 1 0) (Ad.newF 4 3) 3 (fun _ => pl0) [0] (prB pr * F)) w' := by
  have hA : Sat w0 (pc w.heap.size 27 (cfgL ps gs pr) * (prB pr * F)) (w.alloc (.cells (cfgL ps gs pr).toArray 27)) := h.alloc _
  have HA := Lib.hid hA
  have HR := Lib.hid hA.rangeN
  have hi15 : (Tryz.prog.info? 27).map (·.size) = some 15 := by kernel_rfl
  have HM := Lib.hid (May_ (ps := ps) (gs := gs) hA.pull2 hps.1 hps.2 hgs.1 hgs.2)
  have HC : Hid (∀ w : World, Sat w0 (prB pr * (pc w.heap.size 27 (cfgL ps gs pr) * F)) w → True) := Lib.hid fun _ _ => trivial
  have HOK : Hid (∀ A : KA, A.D.n = ps ∧ A.D.m = 2 → A.D.Ok) := Lib.hid fun A hA => ⟨by omega, by omega, by omega, by omega⟩
  clear h hA HC
  go_enter Tryz.func9, Tryz.ntmps9
  go_wp2_with (first
    | (refine wpList_load_mid rfl 27 _ rfl _ 0 (by rfl) (cfgL ps gs pr) _ HR.out Tryz.underlying27 rfl hi15 ?_)
    | (refine wpList_load_mid rfl 27 _ rfl _ 0 (by rfl) (cfgL ps gs pr) _ HR1.out Tryz.underlying27 rfl hi15 ?_)
    | (go_at_call 30; refine HM.out.mono ?_; rintro e w1 ⟨rfl, hS1⟩; have HR1 := Lib.hid hS1.pull2.rangeN; have HC := Lib.hid (Copy_ (ps := ps) (gs := gs) hS1); clear hS1 HM HA HR)
)
  refine HC.out.mono ?_
  rintro e w2 ⟨prv, rfl, hS2⟩
  have HH := Lib.hid (Hm.h_new hS2)
  clear HC HR1 hS2
  go_wp2_with fail
  refine HH.out.mono ?_
  rintro e w3 ⟨ht, rfl, hS3⟩
  have H3 := Lib.hid hS3
  clear hS3 HH
  go_wp2_with (refine wpList_build (v := .agg (knL ps gs prv 0 nilP nilP nilP nilP nilP (vp ht) nilP).toArray) rfl rfl (by intro w; kernel_rfl) ?_)
  refine (new_first hps hgs (new_start H3.out)).mono ?_
  rintro e w4 ⟨rfl, hJ⟩
  obtain ⟨A, hD, hkk, hS4⟩ := new_end hJ
  have H4 := Lib.hid hS4
  have HD := Lib.hid hD
  clear hJ hS4 H3 hD
  generalize w3.heap.size + 1 + 1 + 1 + 1 + 1 = b5 at *
  generalize w3.heap.size + 1 + 1 + 1 + 1 = b4 at *
  generalize w3.heap.size + 1 + 1 + 1 = bl at *
  generalize w3.heap.size + 1 + 1 = br at *
  generalize w3.heap.size + 1 = bk at *
  generalize w3.heap.size = kk at *
  subst hkk
  go_wp2_with fail
  have hE := H4.out.drew
  have T0 := Lib.hid (ne_S1 hE)
  have hE2 := (H4.out.alloc (.cells #[.int .i64 0] 3)).drew
  have T1 := Lib.hid (ne_S1 hE2.dropL)
  have HB := Lib.hid (pl_back (ys := [0]) (v := .slice (some ⟨w4.heap.size, 0, none⟩) 1 1) (F := pc w4.heap.size 3 [vi 0] * nwE bk br bl A.kk (knB A.kk ps gs prv 0 (vp A.g) (vp A.c) (vp A.d) (vp A.s) (vp A.D.s) (vp A.t) (vp A.a) * (cG A (gp1 ps gs) (Ag.newF gs (gs - 1)) * (Cn.cxQ [] A.c 4 kc2 kf1 * (domD A.d A.q2 (dmL gs 1 0) (Ad.newF 4 3) * (spQ A.s gs 0 * (Hm.heapP A.t [] 0 * (prB prv * (prB pr * F))))))))) (hE2.cast (by simp only [nwE, kF, pc]; ac_rfl)) (HOK.out A HD.out) (fun w' h' => rdI_pc h') (by simp))
  clear hE hE2
  go_region_held3 (neS1 bk br A.kk A.D.s)
    (first | (with_reducible exact T2.out) | (with_reducible exact T1.out) | (with_reducible exact T0.out))
    (first
      | (go_at_call 29; refine HB.out.mono ?_; rintro e w5 ⟨rfl, hS5⟩; have hE5 : Sat w0 (nwE bk br bl A.kk (kF A ps gs prv (gp1 ps gs) (Ag.newF gs (gs - 1)) kc2 kf1 (dmL gs 1 0) (Ad.newF 4 3) 0 (fun _ => pl0) [0] (prB pr * F))) w5 := ((hS5.cast (show _ = pc w4.heap.size 3 [vi 0] * nwE bk br bl A.kk (kF A ps gs prv (gp1 ps gs) (Ag.newF gs (gs - 1)) kc2 kf1 (dmL gs 1 0) (Ad.newF 4 3) 0 (fun _ => pl0) ([] ++ [0]) (prB pr * F)) by simp only [nwE, kF]; ac_rfl)).dropL); have T2 := Lib.hid (ne_S1 hE5); have H5 := Lib.hid hE5; clear hS5 hE5))
  have hE5 := H5.out.drew
  have U0 := Lib.hid (ne_S2 hE5)
  have HRt := Lib.hid (root_ (hE5.cast (show _ = Dm.domB A.d A.q2 * (Ad.tblP A.q2 (dmL gs 1 0) (Ad.newF 4 3) * nwE bk br bl A.kk (knB A.kk ps gs prv 0 (vp A.g) (vp A.c) (vp A.d) (vp A.s) (vp A.D.s) (vp A.t) (vp A.a) * (cG A (gp1 ps gs) (Ag.newF gs (gs - 1)) * (Cn.cxQ [] A.c 4 kc2 kf1 * (plB A.D (fun _ => pl0) [0] * (spQ A.s gs 0 * (Hm.heapP A.t [] 0 * (prB prv * (prB pr * F))))))))) by simp only [nwE, kF, domD]; ac_rfl)))
  clear hE5 T0 T1 T2 HB H4
  go_wp2_with fail
  go_region_held3 (neS2 bk br bl A.kk A.d)
    (first | (with_reducible exact U1.out) | (with_reducible exact U0.out))
    (first
      | (go_at_call 50; refine HRt.out.mono ?_; rintro e w6 ⟨rfl, hS6⟩; have hE6 : Sat w0 (nwE bk br bl A.kk (kF A ps gs prv (gp1 ps gs) (Ag.newF gs (gs - 1)) kc2 kf1 (dmL gs 1 0) (Ad.newF 4 3) 0 (fun _ => pl0) [0] (prB pr * F))) w6 := (hS6.cast (by simp only [nwE, kF, domD]; ac_rfl)); have U1 := Lib.hid (ne_S2 hE6); have H6 := Lib.hid hE6; clear hS6 hE6))
  go_wp2_with fail
  have HI := Lib.hid caps_at
  unfold capsA at HI
  generalize (#[.int .i64 3, .int .i64 0, .int .u64 1, .int .u8 0, .int .i64 2, .int .i64 0, .int .u64 1, .int .u8 0, .int .i64 1, .int .i64 0, .int .u64 1, .int .u8 0] : Array Value) = B at *
  clear U0 U1 HRt H5
  go_loopw [54] (fun i wr => ∃ k : Nat, k ≤ 3 ∧ i = vi k ∧ Sat w0 (nwE bk br bl A.kk (kF A ps gs prv (gp1 ps gs) (Ag.newF gs (gs - 1)) kc2 kf1 (dmL gs 1 0) (Ad.newF 4 3) k (fun _ => pl0) [0] (prB pr * F))) wr) (fun i _ => 3 - (intOf i).toNat)
  case atStart => exact ⟨0, by omega, rfl, H6.out⟩
  case round =>
    clear H6
    obtain ⟨k, hk, rfl, hS⟩ := hrel
    by_cases hlt : k < 3
    · have hki : (k : Int) < 3 := by omega
      have hI := HI.out k hlt
      have hX := hS.alloc (.cells #[.int .i64 (3 - (k : Int)), .int .i64 0, .int .u64 1, .int .u8 255] 106)
      have HX := Lib.hid hX
      have HS := Lib.hid hS
      have HL := Lib.hid hlt
      clear hS hlt hX
      go_wp2_with fail
      have hX1 : Sat w0 (pc wr.heap.size 106 (capL (3 - (k : Int)) 0 1 255) * nwE bk br bl A.kk (kF A ps gs prv (gp1 ps gs) (Ag.newF gs (gs - 1)) kc2 kf1 (dmL gs 1 0) (Ad.newF 4 3) k (fun _ => pl0) [0] (prB pr * F))) (wr.alloc (.cells #[.int .i64 (3 - (k : Int)), .int .i64 0, .int .u64 1, .int .u8 255] 106)).drew := HX.out.drew
      have U0 := Lib.hid (ne_S3 hX1)
      have hX2 := hX1.cast (show _ = spQ A.s gs k * (pc wr.heap.size 106 (capL (3 - (k : Int)) 0 1 255) * nwE bk br bl A.kk (knB A.kk ps gs prv 0 (vp A.g) (vp A.c) (vp A.d) (vp A.s) (vp A.D.s) (vp A.t) (vp A.a) * (cG A (gp1 ps gs) (Ag.newF gs (gs - 1)) * (Cn.cxQ [] A.c 4 kc2 kf1 * (domD A.d A.q2 (dmL gs 1 0) (Ad.newF 4 3) * (plB A.D (fun _ => pl0) [0] * (Hm.heapP A.t [] 0 * (prB prv * (prB pr * F))))))))) by simp only [nwE, kF]; ac_rfl)
      have HRo := Lib.hid (sp_root (3 - (k : Int)) 0 1 255 (by have := HL.out; omega) (by omega) (by omega) (by omega) hgs.1 (by have := HL.out; omega) hX2)
      clear hX1 hX2 HX HS
      generalize (wr.alloc (.cells #[.int .i64 (3 - (k : Int)), .int .i64 0, .int .u64 1, .int .u8 255] 106)) = wx at *
      generalize wr.heap.size = bx at *
      go_region_held3 (neS3 bk br bx A.kk A.s k)
        (first | (with_reducible exact U1.out) | (with_reducible exact U0.out))
        (first
          | (go_at_call 51; refine HRo.out.mono ?_; rintro e w7 ⟨rfl, hS7⟩; have hE7 : Sat w0 (pc bx 106 (capL (3 - (k : Int)) 0 1 255) * nwE bk br bl A.kk (kF A ps gs prv (gp1 ps gs) (Ag.newF gs (gs - 1)) kc2 kf1 (dmL gs 1 0) (Ad.newF 4 3) (k + 1) (fun _ => pl0) [0] (prB pr * F))) w7 := (hS7.cast (by simp only [nwE, kF]; ac_rfl)); have U1 := Lib.hid (ne_S3 hE7); have H7 := Lib.hid hE7.dropL; clear hS7 hE7))
      go_wp2_with fail
      go_roundw
      case rel => exact ⟨k + 1, by have := HL.out; omega, by go_num, H7.out⟩
      case measure => (have := HL.out; simp [intOf]; omega)
    · obtain rfl : k = 3 := by omega
      have HS := Lib.hid hS
      have c0 := hS.cell 0 rfl
      clear hS
      go_wp2_with fail
      go_ret2
      exact ⟨A, prv, HD.out, rfl, HS.out.dropL.dropL.dropL⟩
end
end Go.Proofs.YtdbppfcilaajaaaGreat.Kn
