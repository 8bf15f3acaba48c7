/-
  Package kernel: Spawn, put on a P's ring; package dispatch: names. No statement is proved here.
-/
import Derived.Test.YtdbppfcilaajaaaGreatMg41
import Derived.Test.YtdbppfcilaajaaaGreatMg42
import Derived.Test.YtdbppfcilaajaaaGreatMg34
namespace Go.Proofs.YtdbppfcilaajaaaGreat.Kn
open Go.RowKit Pc Rq
set_option linter.unusedVariables false
set_option linter.unusedSimpArgs false
section
variable {w0 w : World} {F : Hp} {A : KA} {ps gs : Nat} {prv : Value} {gps gps' : List Ag.Pl} {gfr gfr' dfr cfr : List Nat} {cs cs' : List Cn.CP} {dps dps' : List Ad.Pl} {j m k0 : Nat} {p p1 : Nat → Pl} {gx gx' : List Int} {g : Int}
abbrev spE (b1 b2 b3 bx : Nat) (i g : Int) (x y : Value) (X : Hp) : Hp := pc bx 30 [.int .i64 i, .int .u64 g] * (pc b3 30 [x, y] * (pc b1 30 [.int .i64 0, .int .u64 1] * (pc b2 30 [.int .i64 0, .int .u64 1] * X)))
abbrev seS (bx kk s ps : Nat) (i g : Int) (w' : World) : Prop := w'.cell? ⟨kk, 20, none⟩ = some (vp s) ∧ w'.cell? ⟨kk, 0, none⟩ = some (vi ps) ∧ w'.cell? ⟨bx, 0, none⟩ = some (.int .i64 i) ∧ w'.cell? ⟨bx, 1, none⟩ = some (.int .u64 g)
theorem se_S {b1 b2 b3 bx : Nat} {i g : Int} {x y : Value} (h : Sat w0 (spE b1 b2 b3 bx i g x y (kF A ps gs prv gps gfr cs cfr dps dfr j p gx F)) w) : seS bx A.kk A.D.s ps i g w :=
  have h2 := h.dropL.dropL.dropL.dropL
  ⟨h2.cell 20 rfl, h2.cell 0 rfl, h.cell 0 rfl, h.cell 1 rfl⟩
set_option maxRecDepth 100000 in
set_option maxHeartbeats 8000000 in
theorem k_spawn (hps : ps ≤ 8) (h : Sat w0 (kF A ps gs prv gps gfr cs cfr dps dfr j p gx F) w)
    (hsp : ∀ (F : Hp) (w : World), Sat w0 (kF A ps gs prv gps gfr cs cfr dps dfr j p gx F) w → Calls Tryz.prog 49 #[vp A.kk, .agg #[.int .i64 0, .int .u64 1], .agg #[.int .i64 0, .int .u64 1], vi 1] w fun e w' => e = .returned (.tuple #[.agg #[.int .i64 (k0 : Int), .int .u64 g], vi 0]) ∧ Sat w0 (kF A ps gs prv gps' gfr' cs' cfr dps' dfr j p gx F) w')
    (hpt : ∀ (H : Hp) (w : World), Sat w0 (plB A.D p gx * H) w → Calls Tryz.prog 84 #[vp A.D.s, vi k0, .int .u8 (Nu.maskN ps), vi (-1), vi 0] w fun e w' => e = .returned (.tuple #[]) ∧ Sat w0 (plB A.D p1 gx' * H) w') :
    Calls Tryz.prog 27 #[vp A.kk, .agg #[.int .i64 0, .int .u64 1], .agg #[.int .i64 0, .int .u64 1], vi 1, vi (-1), vi 0] w fun e w' => e = .returned (.tuple #[.agg #[.int .i64 (k0 : Int), .int .u64 g], vi 0]) ∧ Sat w0 (kF A ps gs prv gps' gfr' cs' cfr dps' dfr j p1 gx' F) w' := by
  have a1 := h.alloc (.cells #[.int .i64 0, .int .u64 1] 30)
  have a2 := a1.alloc (.cells #[.int .i64 0, .int .u64 1] 30)
  rw [sizeK] at a2
  have a3 := a2.alloc (.cells #[.int .i64 0, .int .u64 0] 30)
  rw [sizeK, sizeK] at a3
  have hN := k_none (a3.dropL.dropL.dropL)
  have c0 := a3.pull3.cell 0 rfl
  have c1 := a3.pull3.cell 1 rfl
  have c2 := a3.pull2.cell 0 rfl
  have c3 := a3.pull2.cell 1 rfl
  have HSp := Lib.hid (hsp (pc (w.heap.size + 1 + 1) 30 [.int .i64 0, .int .u64 0] * (pc (w.heap.size + 1) 30 [.int .i64 0, .int .u64 1] * (pc w.heap.size 30 [.int .i64 0, .int .u64 1] * F))) _ (a3.cast (by simp only [kF, pc]; ac_rfl)))
  have HN := Lib.hid hN
  have HPt := Lib.hid hpt
  have HMk := Lib.hid (Nu.num_mask ps hps)
  clear h a1 a2 a3 hN hsp hpt
  go_enter Tryz.func27, Tryz.ntmps27
  go_wp2_with (first
    | (go_at_call 65; refine HN.out.mono ?_; rintro e w' ⟨rfl, rfl⟩)
    | (go_at_call 49; refine HSp.out.mono ?_; rintro e w1 ⟨rfl, hS1⟩; have HS1 := Lib.hid hS1; clear hS1))
  have hB := HS1.out.alloc (.cells #[.int .i64 (k0 : Int), .int .u64 g] 30)
  have hE : Sat w0 (spE (w.heap.size + 1) w.heap.size (w.heap.size + 1 + 1) w1.heap.size k0 g (.int .i64 0) (.int .u64 0) (kF A ps gs prv gps' gfr' cs' cfr dps' dfr j p gx F)) (w1.alloc (.cells #[.int .i64 (k0 : Int), .int .u64 g] 30)) := hB.cast (by
    generalize w.heap.size + 1 + 1 = b2
    generalize w.heap.size + 1 = b1
    generalize w.heap.size = b0
    simp only [spE, kF, pc]
    ac_rfl)
  clear HSp HN c0 c1 c2 c3 hB HS1
  generalize w1.alloc (.cells #[.int .i64 (k0 : Int), .int .u64 g] 30) = wb at *
  generalize w.heap.size + 1 + 1 = b3 at *
  generalize w.heap.size + 1 = b1 at *
  generalize w.heap.size = b2 at *
  generalize w1.heap.size = bx at *
  have hE2 := hE.drew
  have T0 := Lib.hid (se_S hE2)
  have HPu := Lib.hid (HPt.out (spE b1 b2 b3 bx k0 g (.int .i64 0) (.int .u64 0) (kP A ps gs prv gps' gfr' cs' cfr dps' dfr j F)) _ (hE2.cast (by rw [kF_p]; simp only [spE]; ac_rfl)))
  clear hE hE2
  go_region_held3 (seS bx A.kk A.D.s ps k0 g)
    (first | (with_reducible exact T1.out) | (with_reducible exact T0.out))
    (first
      | (go_at_call 85; refine (HMk.out _).mono ?_; rintro e w' ⟨rfl, rfl⟩)
      | (go_at_call 84; refine HPu.out.mono ?_; rintro e w2 ⟨rfl, hS2⟩; have hE2 : Sat w0 (spE b1 b2 b3 bx k0 g (.int .i64 0) (.int .u64 0) (kF A ps gs prv gps' gfr' cs' cfr dps' dfr j p1 gx' F)) w2 := hS2.cast (by rw [kF_p]; simp only [spE]; ac_rfl); have T1 := Lib.hid (se_S hE2); have x0 := hE2.cell 0 rfl; have x1 := hE2.cell 1 rfl; have y0 := hE2.pull2.cell 0 rfl; have y1 := hE2.pull2.cell 1 rfl; have f0 := hE2.pull2.free 0; have f1 := hE2.pull2.free 1; have hst := (hE2.pull2.store 0 (.int .i64 (k0 : Int))).store 1 (.int .u64 g); have z0 := hst.cell 0 rfl; have z1 := hst.cell 1 rfl; have H2 := Lib.hid hst; clear hS2 hE2 hst))
  go_wp2_with fail
  refine bodyPost_ret (v := .tuple #[.agg #[.int .i64 (k0 : Int), .int .u64 g], vi 0]) (by rw [results_cell_tmp rfl]; go_simp) rfl ?_
  exact ⟨rfl, H2.out.dropL.dropL.dropL.dropL⟩
def nmS : Nat → ByteArray
  | 0 => ⟨#[110, 111, 110, 101]⟩
  | 1 => ⟨#[110, 101, 120, 116]⟩
  | 2 => ⟨#[114, 105, 110, 103]⟩
  | 3 => ⟨#[103, 108, 111, 98, 97, 108]⟩
  | _ => ⟨#[115, 116, 111, 108, 101, 110]⟩
set_option maxRecDepth 100000 in
set_option maxHeartbeats 4000000 in
theorem name_in (i : Nat) (hi : i < 5) (h : Sat w0 F w) : Calls Tryz.prog 7 #[vi i] w fun e w' => e = .returned (.string (nmS i)) ∧ Sat w0 F w' := by
  have hs : i = 0 ∨ i = 1 ∨ i = 2 ∨ i = 3 ∨ i = 4 := by omega
  have H := Lib.hid (fun o => h.alloc' o)
  clear h hi
  rcases hs with rfl | rfl | rfl | rfl | rfl
  all_goals go_enter Tryz.func7, Tryz.ntmps7
  all_goals go_wp2
  all_goals go_ret
  all_goals exact ⟨rfl, H.out _⟩
set_option maxRecDepth 100000 in
set_option maxHeartbeats 4000000 in
theorem name_out (i : Int) (hi : i = 5 ∨ i = -1) (h : Sat w0 F w) : Calls Tryz.prog 7 #[vi i] w fun e w' => e = .returned (.string ⟨#[63]⟩) ∧ Sat w0 F w' := by
  have H := Lib.hid (fun o => h.alloc' o)
  clear h
  rcases hi with rfl | rfl
  all_goals go_enter Tryz.func7, Tryz.ntmps7
  all_goals go_wp2
  all_goals go_ret
  all_goals exact ⟨rfl, H.out _⟩
end
end Go.Proofs.YtdbppfcilaajaaaGreat.Kn

namespace Go.Proofs.YtdbppfcilaajaaaGreat.Kn
open Go.RowKit Pc Rq
set_option linter.unusedVariables false
set_option linter.unusedSimpArgs false
section
variable {w0 w : World} {F : Hp} {A : KA} {ps gs : Nat} {prv : Value} {gps gps' : List Ag.Pl} {gfr gfr' dfr cfr : List Nat} {cs cs' : List Cn.CP} {dps dps' : List Ad.Pl} {j m k0 : Nat} {p p1 : Nat → Pl} {gx gx' : List Int} {g : Int}
theorem dm_used (gs : Nat) (l u : Int) (hu : Dm.U64 u) : Dm.Used0 (dmL gs l u) := by
  intro k a h
  have := List.mem_of_getElem? h
  simp only [dmL, List.mem_cons, List.not_mem_nil, or_false] at this
  rcases this with rfl | rfl | rfl | rfl
  · exact ⟨show Dm.U64 (1000 : Int) from ⟨by omega, by omega⟩, show Dm.U64 u from hu⟩
  all_goals exact ⟨show Dm.U64 (0 : Int) from ⟨by omega, by omega⟩, show Dm.U64 (0 : Int) from ⟨by omega, by omega⟩⟩
theorem ch_of {n : Nat} {times : Int} {TT : Nat} (hI : Cn.Inv n 4 TT cs cfr times) (gs : Nat) (l u : Int) (hu : u = 0 ∨ u = 1) (hcan : Cn.canB cs 0 1 0 = true) (hchg : Cn.chgB 4 cs 0 1 0 = true) :
    ChOf w0 A cs (Cn.chgL 4 cs 0 1 0) cfr (dmL gs l u) (dmL gs l (u + 1)) dfr where
  can H w h := by
    have := Cn.p_can hI h 0 1 0
    rw [hcan] at this
    exact this
  qcan H w h := by
    have := Dm.q_can (h := A.d) (p := A.q2) (F := H) (ps := dmL gs l u) (free := dfr) (h.cast (show _ = Dm.domB A.d A.q2 * (Ad.tblP A.q2 (dmL gs l u) dfr * H) by simp only [domD]; ac_rfl)) 0 1 [(0, 1)] ⟨rfl, rfl, rfl⟩ (by simp) (dm_used gs l u (by rcases hu with rfl | rfl <;> exact ⟨by omega, by omega⟩))
    have hd : decide (0 < Dm.LeftP (dmL gs l u) [(0, 1)]) = true := by rcases hu with rfl | rfl <;> rfl
    rw [hd] at this
    refine this.mono ?_
    rintro e w' ⟨rfl, h'⟩
    exact ⟨rfl, h'.cast (by simp only [domD]; ac_rfl)⟩
  chg H w h := by
    have := Cn.p_charge hI h 0 1 0 ⟨by omega, by omega⟩
    rw [hchg] at this
    exact this
  qchg H w h := by
    have hd : 0 < Dm.LeftP (dmL gs l u) [(0, 1)] := by rcases hu with rfl | rfl <;> (apply of_decide_eq_true; rfl)
    have := Dm.q_charge_yes (h := A.d) (p := A.q2) (F := H) (ps := dmL gs l u) (free := dfr) (h.cast (show _ = Dm.domB A.d A.q2 * (Ad.tblP A.q2 (dmL gs l u) dfr * H) by simp only [domD]; ac_rfl)) 0 1 [(0, 1)] ⟨rfl, rfl, rfl⟩ (by simp) (dm_used gs l u (by rcases hu with rfl | rfl <;> exact ⟨by omega, by omega⟩)) hd
    have he : Dm.chargeP (dmL gs l u) [(0, 1)] = dmL gs l (u + 1) := by rcases hu with rfl | rfl <;> rfl
    rw [he] at this
    refine this.mono ?_
    rintro e w' ⟨rfl, h'⟩
    exact ⟨rfl, h'.cast (by simp only [domD]; ac_rfl)⟩
theorem next_fresh {k : Nat} {gg gen aff pg : Int} {af : List Nat} (hq : ChOf w0 A cs cs' cfr dps dps' dfr) (ho : A.D.Ok) (hk : k < A.D.n) (h : Sat w0 (kF A ps gs prv gps gfr cs cfr dps dfr j p gx F) w) (hp : p k = pl0) (hl : gx.length ≤ 1000)
    (hg1 : gps.length ≤ 64) (hg2 : 1 ≤ gps.length) (haf : Gt.affL gps.length (Ag.seen gps gps.length) = af.map fun a : Nat => Value.int .u8 a) (hal : gps.length = af.length) (ha : ∀ a ∈ af, a < 256) (hf : gx.find? (mayG af k) = some gg)
    (hat : Ag.atR gps gg = (gg, gen, true)) (he : Ag.getE gps gg gen = 0) (hx : Ag.getX gps gg gen = newG 0 1 0 1 aff pg) (htu : Gt.turnE gps gg gen 2 = 0) (vic : Int) :
    Calls Tryz.prog 6 #[vp A.kk, vi k, vi vic] w fun e w' => e = .returned (.tuple #[.agg #[.int .i64 gg, .int .u64 gen], vi 3, vi 0]) ∧ Sat w0 (kF A ps gs prv (Gt.turnP gps gg gen 2) gfr cs' cfr dps' dfr j (up (up p k (turnY pl0 1)) k (startY (turnY pl0 1) gg 2)) (gx.eraseP (mayG af k)) F) w' := by
  have e1 : (up p k (turnY pl0 1)) k = turnY pl0 1 := up_at _ _ _
  have := next_ok (p1 := up p k (turnY pl0 1)) (t := 1) hq ho hk h (by rw [hp]; rfl) (by rw [hp]; rfl) (by rw [hp]; rfl) rfl (by rw [hp]) (by rw [e1]; rfl) (by
    rw [e1]
    funext i
    show (if i = k then _ else _) = _
    by_cases hi : i = k
    · rw [if_pos hi, hi, e1]; rfl
    · rw [if_neg hi]) (by rw [e1]; rfl) (by rw [e1]; rfl) hl hg1 hg2 haf hal ha hf hat he hx htu vic
  rw [e1] at this
  exact this
end
end Go.Proofs.YtdbppfcilaajaaaGreat.Kn

namespace Go.Proofs.YtdbppfcilaajaaaGreat.Kn
open Go.RowKit Pc Rq
set_option linter.unusedVariables false
set_option linter.unusedSimpArgs false
set_option maxRecDepth 100000
def gp2 : List Ag.Pl := (gp1 2 4).set 1 ⟨1, true, false, newG 0 1 0 1 (Nu.maskN 2) 1⟩
def gp3 : List Ag.Pl := Gt.turnP gp2 0 1 2
def gp4 : List Ag.Pl := Gt.turnP gp3 1 1 2
def gpA : List Ag.Pl := Gt.turnP (gp1 1 2) 0 1 2
noncomputable def kcA : List Cn.CP := Cn.chgL 4 kc2 0 1 0
def kc3 : List Cn.CP := Cn.bindL kc2 0 1 1
noncomputable def kc4 : List Cn.CP := Cn.chgL 4 kc3 0 1 0
noncomputable def kc5 : List Cn.CP := Cn.chgL 4 kc4 0 1 0
theorem cg2 : Cn.chgB 4 kc2 0 1 0 = true := if_pos ⟨by decide, show Fi.ChOk [⟨100, 0⟩] 0 20 4 from ⟨Fi.may1 100 0 (by omega) (by omega), by omega, by simp, by omega, by omega, by decide⟩⟩
theorem cg3 : Cn.chgB 4 kc3 0 1 0 = true := if_pos ⟨by decide, show Fi.ChOk [⟨100, 0⟩] 0 20 4 from ⟨Fi.may1 100 0 (by omega) (by omega), by omega, by simp, by omega, by omega, by decide⟩⟩
def kd4 : List Cn.CP := Cn.sC kc3 0 1 ⟨100, 20, [⟨99, 0⟩, ⟨1, 20⟩], 2⟩
theorem kc4_eq : kc4 = kd4 := by
  unfold kc4 Cn.chgL
  rw [if_pos cg3]
  rfl
theorem cn4 : Cn.canB kc4 0 1 0 = true := by
  rw [kc4_eq]
  decide
theorem cg4 : Cn.chgB 4 kc4 0 1 0 = true := by
  rw [kc4_eq]
  exact if_pos ⟨by decide, show Fi.ChOk [⟨99, 0⟩, ⟨1, 20⟩] 0 20 4 from ⟨Fi.may2 99 0 1 20 (by omega) (by omega) (by omega) (by omega), by omega, by simp, by omega, by omega, by decide⟩⟩
theorem kI3 : Cn.Inv 4 4 3 kc3 kf1 0 := kI2.bind 1 (by omega)
theorem kI4 : Cn.Inv 4 4 4 kc4 kf1 0 := kI3.chg 0 (by omega)
def pp0 : Nat → Pl := fun _ => pl0
def pp1 : Nat → Pl := up pp0 0 (putY 2 pl0 1)
def pp2 : Nat → Pl := up (up pp0 0 (turnY pl0 1)) 0 (startY (turnY pl0 1) 0 2)
def pp3 : Nat → Pl := up (up pp2 1 (turnY pl0 1)) 1 (startY (turnY pl0 1) 1 2)
theorem pp_rm : rmP pp1 2 1 = pp0 := by
  have h : rmK pp1 2 1 = some 0 := by decide
  unfold rmP
  rw [h]
  funext i
  show (if i = 0 then _ else _) = _
  by_cases hi : i = 0
  · rw [if_pos hi]; rfl
  · rw [if_neg hi]
    show (if i = 0 then _ else _) = _
    rw [if_neg hi]
section
variable {w0 w : World} {F : Hp} {A : KA} {prv : Value}
abbrev kA1 (A : KA) (prv : Value) (F : Hp) : Hp := kF A 1 2 prv (gp1 1 2) (Ag.newF 2 (2 - 1)) kc2 kf1 (dmL 2 1 0) (Ad.newF 4 3) 3 pp0 [0] F
noncomputable abbrev kA2 (A : KA) (prv : Value) (F : Hp) : Hp := kF A 1 2 prv gpA (Ag.newF 2 (2 - 1)) kcA kf1 (dmL 2 1 1) (Ad.newF 4 3) 3 pp2 [] F
theorem a_next (hD : A.D.n = 1 ∧ A.D.m = 2) (h : Sat w0 (kA1 A prv F) w) : Calls Tryz.prog 6 #[vp A.kk, vi 0, vi 0] w fun e w' => e = .returned (.tuple #[.agg #[.int .i64 0, .int .u64 1], vi 3, vi 0]) ∧ Sat w0 (kA2 A prv F) w' :=
  next_fresh (k := 0) (gg := 0) (gen := 1) (aff := Nu.maskN 1) (pg := 0) (af := [1, 0]) (ch_of kI2 2 1 0 (.inl rfl) (by decide) cg2) ⟨by omega, by omega, by omega, by omega⟩ (by omega) h rfl (by decide) (by decide) (by decide) rfl rfl (by decide) (by decide) (by decide) (by decide) rfl (by decide) 0
theorem a_busy (hD : A.D.n = 1 ∧ A.D.m = 2) (h : Sat w0 (kA2 A prv F) w) : Calls Tryz.prog 6 #[vp A.kk, vi 0, vi 0] w fun e w' => e = .returned (.tuple #[rf0, vi 0, vi 14]) ∧ Sat w0 (kA2 A prv F) w' := next_busy h 0 (by omega) rfl
theorem a_hi (hD : A.D.n = 1 ∧ A.D.m = 2) (h : Sat w0 (kA1 A prv F) w) : Calls Tryz.prog 6 #[vp A.kk, vi 1, vi 0] w fun e w' => e = .returned (.tuple #[rf0, vi 0, vi 2]) ∧ Sat w0 (kA1 A prv F) w' := next_hi h 1 (by omega)
theorem a_neg (h : Sat w0 (kA1 A prv F) w) : Calls Tryz.prog 6 #[vp A.kk, vi (-1), vi 0] w fun e w' => e = .returned (.tuple #[rf0, vi 0, vi 2]) ∧ Sat w0 (kA1 A prv F) w' := next_neg h
abbrev kB1 (A : KA) (prv : Value) (F : Hp) : Hp := kF A 2 4 prv (gp1 2 4) (Ag.newF 4 (4 - 1)) kc2 kf1 (dmL 4 1 0) (Ad.newF 4 3) 3 pp0 [0] F
abbrev kB2 (A : KA) (prv : Value) (p : Nat → Pl) (gx : List Int) (F : Hp) : Hp := kF A 2 4 prv gp2 [3, 2] kc3 kf1 (dmL 4 2 0) (Ad.newF 4 3) 3 p gx F
noncomputable abbrev kB3 (A : KA) (prv : Value) (F : Hp) : Hp := kF A 2 4 prv gp3 [3, 2] kc4 kf1 (dmL 4 2 1) (Ad.newF 4 3) 3 pp2 [1] F
noncomputable abbrev kB4 (A : KA) (prv : Value) (F : Hp) : Hp := kF A 2 4 prv gp4 [3, 2] kc5 kf1 (dmL 4 2 2) (Ad.newF 4 3) 3 pp3 [] F
theorem b_ok (hD : A.D.n = 2 ∧ A.D.m = 2) : A.D.Ok := ⟨by omega, by omega, by omega, by omega⟩
theorem b_spawn (hD : A.D.n = 2 ∧ A.D.m = 2) (h : Sat w0 (kB1 A prv F) w) : Calls Tryz.prog 27 #[vp A.kk, .agg #[.int .i64 0, .int .u64 1], .agg #[.int .i64 0, .int .u64 1], vi 1, vi (-1), vi 0] w fun e w' => e = .returned (.tuple #[.agg #[.int .i64 1, .int .u64 1], vi 0]) ∧ Sat w0 (kB2 A prv pp1 [0] F) w' := by
  refine k_spawn (k0 := 1) (g := 1) (gps' := gp2) (gfr' := [3, 2]) (cs' := kc3) (dps' := dmL 4 2 0) (p1 := pp1) (gx' := [0]) (by omega) h (fun F w h => ?_) (fun H w h => ?_)
  · have := spawn_ (pg := 1) (k0 := 1) (a0 := ⟨1, false, false, Ag.ez⟩) (gfr := [3, 2]) kI2 (by omega) (by omega) (F := plB A.D pp0 [0] * (spQ A.s 4 3 * (Hm.heapP A.t [] 0 * F))) (h.cast (show _ = knB A.kk 2 4 prv 0 (vp A.g) (vp A.c) (vp A.d) (vp A.s) (vp A.D.s) (vp A.t) (vp A.a) * (Gt.gtB A.g A.q1 * (Ag.tblP A.q1 (gp1 2 4) ([3, 2] ++ [1]) * (Cn.cxQ [] A.c 4 kc2 kf1 * (domD A.d A.q2 (dmL 4 1 0) (Ad.newF 4 3) * (prB prv * (plB A.D pp0 [0] * (spQ A.s 4 3 * (Hm.heapP A.t [] 0 * F)))))))) by
      have e : Ag.newF 4 (4 - 1) = [3, 2] ++ [1] := rfl
      rw [e]
      simp only [kF, cG]
      ac_rfl)) (by omega) (by omega) (di := 0) (dn := 1) (ci := 0) (cn := 1) rfl (by decide) (by decide) (dps' := dmL 4 2 0) (fun H w h => dm_join 4 1 0 (Ad.newF 4 3) (by omega) (by omega) (by omega) rfl h) rfl
    refine this.mono ?_
    rintro e w' ⟨rfl, h'⟩
    refine ⟨rfl, h'.cast ?_⟩
    simp only [kF, cG, kc3, gp2]
    ac_rfl
  · have := pl_put_ring_out (p := pp0) (gx := [0]) h (b_ok hD) 1 (s := Nu.maskN 2) (by decide) (-1) 0 (by rw [hD.1]; decide) 0 (by omega) (by rw [hD.1]; decide) (by rw [hD.1]; decide) (by simp)
    rw [hD.2] at this
    exact this
theorem b_remove (hD : A.D.n = 2 ∧ A.D.m = 2) {H : Hp} (h : Sat w0 (plB A.D pp1 [0] * H) w) : Calls Tryz.prog 28 #[vp A.D.s, vi 1] w fun e w' => e = .returned (.bool true) ∧ Sat w0 (plB A.D pp0 [0] * H) w' := by
  have := pl_remove h (b_ok hD) 1 (by simp)
  rw [hD.1, pp_rm] at this
  exact this
theorem b_next1 (hD : A.D.n = 2 ∧ A.D.m = 2) (h : Sat w0 (kB2 A prv pp0 [0, 1] F) w) : Calls Tryz.prog 6 #[vp A.kk, vi 0, vi 1] w fun e w' => e = .returned (.tuple #[.agg #[.int .i64 0, .int .u64 1], vi 3, vi 0]) ∧ Sat w0 (kB3 A prv F) w' :=
  next_fresh (k := 0) (gg := 0) (gen := 1) (aff := Nu.maskN 2) (pg := 0) (af := [3, 3, 0, 0]) (ch_of kI3 4 2 0 (.inl rfl) (by decide) cg3) (b_ok hD) (by omega) h rfl (by decide) (by decide) (by decide) rfl rfl (by decide) (by decide) (by decide) (by decide) rfl (by decide) 1
theorem b_next2 (hD : A.D.n = 2 ∧ A.D.m = 2) (h : Sat w0 (kB3 A prv F) w) : Calls Tryz.prog 6 #[vp A.kk, vi 1, vi 0] w fun e w' => e = .returned (.tuple #[.agg #[.int .i64 1, .int .u64 1], vi 3, vi 0]) ∧ Sat w0 (kB4 A prv F) w' :=
  next_fresh (k := 1) (gg := 1) (gen := 1) (aff := Nu.maskN 2) (pg := 1) (af := [3, 3, 0, 0]) (ch_of kI4 4 2 1 (.inr rfl) cn4 cg4) (b_ok hD) (by omega) h rfl (by decide) (by decide) (by decide) rfl rfl (by decide) (by decide) (by decide) (by decide) rfl (by decide) 0
end
end Go.Proofs.YtdbppfcilaajaaaGreat.Kn

namespace Go.Proofs.YtdbppfcilaajaaaGreat.Kn
open Go.RowKit Pc Rq
set_option linter.unusedVariables false
set_option linter.unusedSimpArgs false
section
variable {w0 w : World} {F : Hp} {A : KA} {prv x y : Value}
abbrev gmB (gm : Nat) (A : KA) (x y : Value) (X : Hp) : Hp := pc gm 39 [vp A.kk, x, y] * X
abbrev k2E (b1 gm : Nat) (A : KA) (x y : Value) (X : Hp) : Hp := pc b1 30 [.int .i64 0, .int .u64 1] * gmB gm A x y X
abbrev k3E (b3 b1 gm : Nat) (A : KA) (x y : Value) (X : Hp) : Hp := pc b3 30 [.int .i64 1, .int .u64 1] * k2E b1 gm A x y X
abbrev k2S (b1 gm kk : Nat) (w' : World) : Prop := w'.cell? ⟨gm, 0, none⟩ = some (vp kk) ∧ w'.cell? ⟨b1, 0, none⟩ = some (.int .i64 0) ∧ w'.cell? ⟨b1, 1, none⟩ = some (.int .u64 1)
theorem k2_S {b1 gm : Nat} {X : Hp} (h : Sat w0 (k2E b1 gm A x y X) w) : k2S b1 gm A.kk w := ⟨h.pull2.cell 0 rfl, h.cell 0 rfl, h.cell 1 rfl⟩
abbrev k3S (b3 gm kk : Nat) (w' : World) : Prop := w'.cell? ⟨gm, 0, none⟩ = some (vp kk) ∧ w'.cell? ⟨b3, 0, none⟩ = some (.int .i64 1)
theorem k3_S {b3 b1 gm : Nat} {X : Hp} (h : Sat w0 (k3E b3 b1 gm A x y X) w) : k3S b3 gm A.kk w := ⟨h.pull3.cell 0 rfl, h.cell 0 rfl⟩
section
variable {ps gs j : Nat} {gps : List Ag.Pl} {gfr dfr cfr : List Nat} {cs : List Cn.CP} {dps : List Ad.Pl} {p : Nat → Pl} {gx : List Int} {b1 b3 gm : Nat}
theorem k2_in : k2E b1 gm A x y (kF A ps gs prv gps gfr cs cfr dps dfr j p gx F) = kF A ps gs prv gps gfr cs cfr dps dfr j p gx (k2E b1 gm A x y F) := by simp only [k2E, gmB, kF]; ac_rfl
theorem k3_in : k3E b3 b1 gm A x y (kF A ps gs prv gps gfr cs cfr dps dfr j p gx F) = kF A ps gs prv gps gfr cs cfr dps dfr j p gx (k3E b3 b1 gm A x y F) := by simp only [k3E, k2E, gmB, kF]; ac_rfl
theorem k3_pl : k3E b3 b1 gm A x y (kF A ps gs prv gps gfr cs cfr dps dfr j p gx F) = plB A.D p gx * k3E b3 b1 gm A x y (kP A ps gs prv gps gfr cs cfr dps dfr j F) := by rw [kF_p]; simp only [k3E, k2E, gmB]; ac_rfl
end
theorem eq_ref (a b : Int) (w : World) : (binOp .eql 30 (.agg #[.int .i64 a, .int .u64 b]) (.agg #[.int .i64 a, .int .u64 b])).run Tryz.prog w = .ok (.bool true) w := by
  have h : ∀ d : Nat, (Op.equalIn (d + 2) 30 (.agg #[.int .i64 a, .int .u64 b]) (.agg #[.int .i64 a, .int .u64 b])).run Tryz.prog w = .ok true w := fun d => by
    simp [Op.equalIn, go_sem]
  simp only [binOp]
  simp [Op.equal, Op.maxDepth, h 9998]
set_option maxRecDepth 100000 in
set_option maxHeartbeats 8000000 in
theorem known24 (h : Sat w0 F w) : Calls Tryz.prog 8 #[] w fun e w' => e = .returned (.bool true) ∧ Sat w0 F w' := by
  have HSm := Lib.hid (small_ 2 4 h)
  have HB1 := Lib.hid (fun (pr : Value) (F : Hp) (w : World) (h : Sat w0 (prB pr * F) w) => begin_ (ps := 2) (gs := 4) (pr := pr) ⟨by omega, by omega⟩ ⟨by omega, by omega⟩ h)
  clear h
  go_enter Tryz.func8, Tryz.ntmps8
  go_wp2_with (first
    | (go_at_call 5; refine HSm.out.mono ?_; rintro e w1 ⟨pr, rfl, hS1⟩; have HBg := Lib.hid (HB1.out pr F w1 hS1); clear hS1 HB1 HSm)
    | (go_at_call 4; refine HBg.out.mono ?_; rintro e w2 ⟨gm, A, prv, x, y, hD, rfl, hS2⟩; have HD := Lib.hid hD; have H2 : Hid (Sat w0 (gmB gm A x y (kB1 A prv F)) w2) := Lib.hid hS2; clear hS2 hD HBg))
  have hW : Sat w0 (k2E w2.heap.size gm A x y (kB1 A prv F)) (w2.alloc (.cells #[.int .i64 0, .int .u64 1] 30)) := H2.out.alloc _
  have hA := hW.drew
  have hB := (hW.alloc (.cells #[.int .i64 0, .int .u64 0] 30)).drew
  have T0 := Lib.hid (k2_S hA)
  have U0 := Lib.hid (k2_S hB.dropL)
  have HSpA := Lib.hid (b_spawn HD.out (hA.cast k2_in))
  have HSpB := Lib.hid (b_spawn (prv := prv) HD.out (F := pc (w2.alloc (.cells #[.int .i64 0, .int .u64 1] 30)).heap.size 30 [.int .i64 0, .int .u64 0] * k2E w2.heap.size gm A x y F) (hB.cast (by simp only [kB1, k2E, gmB, kF, pc]; ac_rfl)))
  clear hW hA hB H2
  generalize w2.alloc (.cells #[.int .i64 0, .int .u64 1] 30) = wA at *
  generalize w2.heap.size = b1 at *
  go_region_held3 (k2S b1 gm A.kk)
    (first | (with_reducible exact T3.out) | (with_reducible exact U2.out) | (with_reducible exact T2.out) | (with_reducible exact T1.out) | (with_reducible exact U1.out) | (with_reducible exact U0.out) | (with_reducible exact T0.out))
    (first
      | (go_at_call 27; with_reducible refine HSpA.out.mono ?_; rintro e w3 ⟨rfl, hS3⟩; have hE := hS3.cast k2_in.symm; have T1 := Lib.hid (k2_S hE); have T2 := Lib.hid (k2_S (hE.alloc' (.cells #[.int .i64 0, .int .u64 0] 30))); have hE2 := hE.alloc (.cells #[.int .i64 1, .int .u64 1] 30); have T3 := Lib.hid (k2_S hE2.dropL); obtain ⟨b3, hb3⟩ : ∃ b3, b3 = w3.heap.size := ⟨_, rfl⟩; rw [← hb3] at hE2; have HB3 := Lib.hid hb3; obtain ⟨wz, hwz⟩ : ∃ wz, wz = w3.alloc (.cells #[.int .i64 1, .int .u64 1] 30) := ⟨_, rfl⟩; rw [← hwz] at hE2; have HWZ := Lib.hid hwz; have H5 : Hid (Sat w0 (k3E b3 b1 gm A x y (kB2 A prv pp1 [0] F)) wz) := Lib.hid (hE2.cast (by simp only [k3E, kB2, pc])); clear hS3 hE hE2 hb3 hwz)
      | (go_at_call 27; with_reducible refine HSpB.out.mono ?_; rintro e w3 ⟨rfl, hS3⟩; have hE : Sat w0 (pc wA.heap.size 30 [.int .i64 0, .int .u64 0] * k2E b1 gm A x y (kB2 A prv pp1 [0] F)) w3 := hS3.cast (by simp only [kB2, k2E, gmB, kF]; ac_rfl); have U1 := Lib.hid (k2_S hE.dropL); have x0 := hE.cell 0 rfl; have x1 := hE.cell 1 rfl; have f0 := hE.free 0; have f1 := hE.free 1; have hst := (hE.store 0 (.int .i64 1)).store 1 (.int .u64 1); have U2 := Lib.hid (k2_S hst.dropL); obtain ⟨b3, hb3⟩ : ∃ b3, b3 = wA.heap.size := ⟨_, rfl⟩; have HB3 := Lib.hid hb3; obtain ⟨wz, hwz⟩ : ∃ wz, wz = (w3.setCell ⟨wA.heap.size, 0, none⟩ (.int .i64 1)).setCell ⟨wA.heap.size, 1, none⟩ (.int .u64 1) := ⟨_, rfl⟩; rw [← hwz] at hst; have HWZ := Lib.hid hwz; have H5 : Hid (Sat w0 (k3E b3 b1 gm A x y (kB2 A prv pp1 [0] F)) wz) := Lib.hid (hst.cast (by rw [← hb3]; simp only [k3E, kB2, List.set_cons_zero, List.set_cons_succ])); clear hS3 hE hst hb3 hwz))
  all_goals go_wp2_with fail
  all_goals (rw [← HWZ.out, ← HB3.out])
  all_goals (have hE6 := H5.out.drew)
  all_goals (have S0 := Lib.hid (k3_S hE6))
  all_goals (have HPl := Lib.hid (k_places (hE6.cast k3_in)))
  all_goals (have HRm := Lib.hid (b_remove HD.out (hE6.cast k3_pl)))
  all_goals (clear hE6)
  all_goals (
    go_region_held3 (k3S b3 gm A.kk)
      (first | (with_reducible exact S1.out) | (with_reducible exact S0.out))
      (first
        | (go_at_call 11; refine HPl.out.mono ?_; rintro e w' ⟨rfl, rfl⟩)
        | (go_at_call 28; refine HRm.out.mono ?_; rintro e w4 ⟨rfl, hS4⟩; have hE4 : Sat w0 (k3E b3 b1 gm A x y (kB2 A prv pp0 [0] F)) w4 := hS4.cast k3_pl.symm; have S1 := Lib.hid (k3_S hE4); have H6 := Lib.hid hE4; clear hS4 hE4)))
  all_goals (go_wp2_with fail)
  all_goals (have hE7 := H6.out.drew)
  all_goals (have R0 := Lib.hid (k3_S hE7))
  all_goals (have hE8 := (H6.out.alloc (.cells #[.int .i64 1] 3)).drew)
  all_goals (have R1 := Lib.hid (k3_S hE8.dropL))
  all_goals (have HPl2 := Lib.hid (k_places (hE7.cast k3_in)))
  all_goals (have HPl3 := Lib.hid (k_places (hE8.dropL.cast k3_in)))
  all_goals (have HBk := Lib.hid (pl_back (ys := [1]) (v := .slice (some ⟨w4.heap.size, 0, none⟩) 1 1) (F := pc w4.heap.size 3 [vi 1] * k3E b3 b1 gm A x y (kP A 2 4 prv gp2 [3, 2] kc3 kf1 (dmL 4 2 0) (Ad.newF 4 3) 3 F)) (hE8.cast (show _ = plB A.D pp0 [0] * (pc w4.heap.size 3 [vi 1] * k3E b3 b1 gm A x y (kP A 2 4 prv gp2 [3, 2] kc3 kf1 (dmL 4 2 0) (Ad.newF 4 3) 3 F)) by rw [kB2, k3_pl]; simp only [pc]; ac_rfl)) (b_ok HD.out) (fun w' h' => rdI_pc h') (by simp)))
  all_goals (clear hE7 hE8)
  all_goals (
    go_region_held3 (k3S b3 gm A.kk)
      (first | (with_reducible exact R2.out) | (with_reducible exact R1.out) | (with_reducible exact R0.out))
      (first
        | (go_at_call 11; with_reducible refine HPl2.out.mono ?_; rintro e w' ⟨rfl, rfl⟩)
        | (go_at_call 11; with_reducible refine HPl3.out.mono ?_; rintro e w' ⟨rfl, rfl⟩)
        | (go_at_call 29; refine HBk.out.mono ?_; rintro e w5 ⟨rfl, hS5⟩; have hE5 : Sat w0 (k3E b3 b1 gm A x y (kB2 A prv pp0 [0, 1] F)) w5 := (hS5.cast (show _ = pc w4.heap.size 3 [vi 1] * k3E b3 b1 gm A x y (kB2 A prv pp0 [0, 1] F) by rw [kB2, k3_pl]; show plB _ _ [0, 1] * _ = _; ac_rfl)).dropL; have R2 := Lib.hid (k3_S hE5); have H7 := Lib.hid hE5; clear hS5 hE5)))
  all_goals (clear HPl2 HPl3 HBk R0 R1 R2 S0 S1 H6 H5)
  all_goals (have g0 := H7.out.pull3.cell 0 rfl)
  all_goals (have HN1 := Lib.hid (b_next1 HD.out (H7.out.cast k3_in)))
  all_goals (have q01 := eq_ref 0 1)
  all_goals (have q11 := eq_ref 1 1)
  all_goals (
    go_wp2_with (first
      | (go_at_call 6; with_reducible refine HN1.out.mono ?_; rintro e w6 ⟨rfl, hS6⟩; have hE6 := (hS6.cast k3_in.symm).alloc (.cells #[.int .i64 0, .int .u64 1] 30); have g1 := hE6.pull4.cell 0 rfl; have HN2 := Lib.hid (b_next2 (prv := prv) HD.out (F := pc w6.heap.size 30 [.int .i64 0, .int .u64 1] * k3E b3 b1 gm A x y F) (hE6.cast (by simp only [kB3, k3E, k2E, gmB, kF, pc]; ac_rfl))); clear hS6 hE6 HN1)
      | (go_at_call 6; with_reducible refine HN2.out.mono ?_; rintro e w7 ⟨rfl, hS7⟩; have hE7 : Sat w0 (pc w6.heap.size 30 [.int .i64 0, .int .u64 1] * k3E b3 b1 gm A x y (kB4 A prv F)) w7 := hS7.cast (by simp only [kB4, k3E, k2E, gmB, kF, pc]; ac_rfl); have hE8 := (hE7.alloc (.cells #[.int .i64 1, .int .u64 1] 30)).dropL; have a0 := hE8.cell 0 rfl; have a1 := hE8.cell 1 rfl; have c0 := hE8.pull2.cell 0 rfl; have c1 := hE8.pull2.cell 1 rfl; have d0 := hE8.pull3.cell 0 rfl; have d1 := hE8.pull3.cell 1 rfl; have H8 := Lib.hid hE8; clear hS7 hE7 hE8 HN2)))
  all_goals (go_ret)
  all_goals (exact ⟨rfl, H8.out.dropL.dropL.dropL.dropL.dropL.dropL.dropL.dropL.dropL.dropL.dropL.dropL⟩)
end
end Go.Proofs.YtdbppfcilaajaaaGreat.Kn

namespace Go.Proofs.YtdbppfcilaajaaaGreat.Kn
open Go.RowKit Pc Rq
set_option linter.unusedVariables false
set_option linter.unusedSimpArgs false
section
variable {w0 w : World} {F : Hp} {A : KA} {prv x y : Value}
theorem nm0 (h : Sat w0 F w) : Calls Tryz.prog 7 #[.int .i64 0] w fun e w' => e = .returned (.string ⟨#[110, 111, 110, 101]⟩) ∧ Sat w0 F w' := name_in 0 (by omega) h
theorem nm1 (h : Sat w0 F w) : Calls Tryz.prog 7 #[.int .i64 1] w fun e w' => e = .returned (.string ⟨#[110, 101, 120, 116]⟩) ∧ Sat w0 F w' := name_in 1 (by omega) h
theorem nm2 (h : Sat w0 F w) : Calls Tryz.prog 7 #[.int .i64 2] w fun e w' => e = .returned (.string ⟨#[114, 105, 110, 103]⟩) ∧ Sat w0 F w' := name_in 2 (by omega) h
theorem nm3 (h : Sat w0 F w) : Calls Tryz.prog 7 #[.int .i64 3] w fun e w' => e = .returned (.string ⟨#[103, 108, 111, 98, 97, 108]⟩) ∧ Sat w0 F w' := name_in 3 (by omega) h
theorem nm4 (h : Sat w0 F w) : Calls Tryz.prog 7 #[.int .i64 4] w fun e w' => e = .returned (.string ⟨#[115, 116, 111, 108, 101, 110]⟩) ∧ Sat w0 F w' := name_in 4 (by omega) h
theorem nm5 (h : Sat w0 F w) : Calls Tryz.prog 7 #[.int .i64 5] w fun e w' => e = .returned (.string ⟨#[63]⟩) ∧ Sat w0 F w' := name_out 5 (.inl rfl) h
theorem nm6 (h : Sat w0 F w) : Calls Tryz.prog 7 #[.int .i64 (-1)] w fun e w' => e = .returned (.string ⟨#[63]⟩) ∧ Sat w0 F w' := name_out (-1) (.inr rfl) h
theorem gm_in {ps gs j gm : Nat} {gps : List Ag.Pl} {gfr dfr cfr : List Nat} {cs : List Cn.CP} {dps : List Ad.Pl} {p : Nat → Pl} {gx : List Int} : gmB gm A x y (kF A ps gs prv gps gfr cs cfr dps dfr j p gx F) = kF A ps gs prv gps gfr cs cfr dps dfr j p gx (gmB gm A x y F) := by simp only [gmB, kF]; ac_rfl
theorem eq_str (s : ByteArray) (w : World) : (binOp .eql 9 (.string s) (.string s)).run Tryz.prog w = .ok (.bool true) w := by
  have hu := Tryz.underlying9
  cases s
  go_simp
set_option maxRecDepth 100000 in
set_option maxHeartbeats 8000000 in
theorem nil24 (h : Sat w0 F w) : Calls Tryz.prog 3 #[] w fun e w' => e = .returned (.bool true) ∧ Sat w0 F w' := by
  have HSm := Lib.hid (small_ 1 2 h)
  have HB1 := Lib.hid (fun (pr : Value) (F : Hp) (w : World) (h : Sat w0 (prB pr * F) w) => begin_ (ps := 1) (gs := 2) (pr := pr) ⟨by omega, by omega⟩ ⟨by omega, by omega⟩ h)
  have q01 := eq_ref 0 1
  have HSt := eq_str
  clear h
  go_enter Tryz.func3, Tryz.ntmps3
  go_wp2_with (first
    | (go_at_call 5; refine HSm.out.mono ?_; rintro e w1 ⟨pr, rfl, hS1⟩; have HBg := Lib.hid (HB1.out pr F w1 hS1); clear hS1 HB1 HSm)
    | (go_at_call 4; refine HBg.out.mono ?_; rintro e w2 ⟨gm, A, prv, x, y, hD, rfl, hS2⟩; have HD := Lib.hid hD; have H2 : Hid (Sat w0 (gmB gm A x y (kA1 A prv F)) w2) := Lib.hid hS2; have HN0 := Lib.hid (next_nil H2.out); clear hS2 hD HBg H2)
    | (go_at_call 6; with_reducible refine HN0.out.mono ?_; rintro e w3 ⟨rfl, hS3⟩; have hE3 := hS3.alloc' (.cells #[.int .i64 0, .int .u64 0] 30); have g3 := hE3.cell 0 rfl; have HN1 := Lib.hid (a_hi HD.out (hE3.cast gm_in)); clear hS3 hE3 HN0)
    | (go_at_call 6; with_reducible refine HN1.out.mono ?_; rintro e w4 ⟨rfl, hS4⟩; have hE4 := (hS4.cast gm_in.symm).alloc' (.cells #[.int .i64 0, .int .u64 0] 30); have g4 := hE4.cell 0 rfl; have HN2 := Lib.hid (a_neg (hE4.cast gm_in)); clear hS4 hE4 HN1 g3)
    | (go_at_call 6; with_reducible refine HN2.out.mono ?_; rintro e w5 ⟨rfl, hS5⟩; have hE5 := (hS5.cast gm_in.symm).alloc' (.cells #[.int .i64 0, .int .u64 0] 30); have g5 := hE5.cell 0 rfl; have HN3 := Lib.hid (a_next HD.out (hE5.cast gm_in)); clear hS5 hE5 HN2 g4)
    | (go_at_call 6; with_reducible refine HN3.out.mono ?_; rintro e w6 ⟨rfl, hS6⟩; have hE6 := (hS6.cast gm_in.symm).alloc (.cells #[.int .i64 0, .int .u64 1] 30); have g6 := hE6.pull2.cell 0 rfl; have HN4 := Lib.hid (a_busy (prv := prv) HD.out (F := pc w6.heap.size 30 [.int .i64 0, .int .u64 1] * gmB gm A x y F) (hE6.cast (by simp only [kA2, gmB, kF, pc]; ac_rfl))); clear hS6 hE6 HN3 g5)
    | (go_at_call 6; with_reducible refine HN4.out.mono ?_; rintro e w7 ⟨rfl, hS7⟩; have hE7 : Sat w0 (pc w6.heap.size 30 [.int .i64 0, .int .u64 1] * gmB gm A x y (kA2 A prv F)) w7 := hS7.cast (by simp only [kA2, gmB, kF, pc]; ac_rfl); have hE8 := hE7.alloc' (.cells #[.int .i64 0, .int .u64 0] 30); have r0 := hE8.cell 0 rfl; have r1 := hE8.cell 1 rfl; have M0 := Lib.hid (nm0 hE8.dropL.dropL.dropL.dropL.dropL.dropL.dropL.dropL.dropL.dropL); clear hS7 hE7 hE8 HN4 g6)
    | (go_at_call 7; with_reducible refine M0.out.mono ?_; rintro e v0 ⟨rfl, hS⟩; have M1 := Lib.hid (nm1 hS); clear hS M0)
    | (go_at_call 7; with_reducible refine M1.out.mono ?_; rintro e v1 ⟨rfl, hS⟩; have M2 := Lib.hid (nm2 hS); clear hS M1)
    | (go_at_call 7; with_reducible refine M2.out.mono ?_; rintro e v2 ⟨rfl, hS⟩; have M3 := Lib.hid (nm3 hS); clear hS M2)
    | (go_at_call 7; with_reducible refine M3.out.mono ?_; rintro e v3 ⟨rfl, hS⟩; have M4 := Lib.hid (nm4 hS); clear hS M3)
    | (go_at_call 7; with_reducible refine M4.out.mono ?_; rintro e v4 ⟨rfl, hS⟩; have M5 := Lib.hid (nm5 hS); clear hS M4)
    | (go_at_call 7; with_reducible refine M5.out.mono ?_; rintro e v5 ⟨rfl, hS⟩; have M6 := Lib.hid (nm6 hS); clear hS M5)
    | (go_at_call 7; with_reducible refine M6.out.mono ?_; rintro e v6 ⟨rfl, hS⟩; have M7 := Lib.hid (known24 hS); clear hS M6)
    | (go_at_call 8; refine M7.out.mono ?_; rintro e v8 ⟨rfl, hS⟩; have H8 := Lib.hid hS; clear hS M7))
  go_ret
  exact ⟨rfl, H8.out⟩
/-- As the row asks it. -/
theorem nil24_row (W : World) : Calls Tryz.prog 3 #[] W fun e w' => e = .returned (.bool true) ∧ Below W.heap.size W w' :=
  (nil24 (Sat.start W)).mono fun e w' h => ⟨h.1, h.2.below⟩
end
end Go.Proofs.YtdbppfcilaajaaaGreat.Kn
