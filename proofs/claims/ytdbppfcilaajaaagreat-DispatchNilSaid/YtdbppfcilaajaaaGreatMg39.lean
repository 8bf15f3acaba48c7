/-
  Reference 20: New. No statement is proved here.
-/
import Derived.Test.YtdbppfcilaajaaaGreatMg38
namespace Go.Proofs.YtdbppfcilaajaaaGreat.Kn
open Go.RowKit Pc
set_option linter.unusedVariables false
set_option linter.unusedSimpArgs false

def rG (gs q : Nat) : Hp := ex fun x : Nat × Nat × Value => Gt.rtB q x.1 gs x.2.1 x.2.2 * (sl 221 21 (.slice (some ⟨x.1, 0, none⟩) gs x.2.1) gs (Gt.pfl (List.replicate gs Gt.p1)) * sl 3 1 x.2.2 gs (Gt.nats (Ag.newF gs gs)))
def rC (c : Nat) : Hp := Cn.cyQ [] c 4 kc0 0
def rC2 (c : Nat) : Hp := Cn.cyQ [] c 4 kc1 0
def rD (gs d : Nat) : Hp := ex fun x : Nat × Nat × Nat => Dm.rdB d x.1 4 4 (.slice (some ⟨x.2.1, 0, none⟩) 3 x.2.2) * (sl 231 9 (.slice (some ⟨x.1, 0, none⟩) 4 4) 4 (Dm.oflat (Dm.rootO 4 gs 1000 50)) * sl 3 1 (.slice (some ⟨x.2.1, 0, none⟩) 3 x.2.2) 3 (Dm.nats (Ad.newF 4 3)))
def rP (p : Nat) : Hp := ex fun D : Pc.Ar => given (D.s = p) (Pc.prB D (fun _ => pl0) [])
section
variable {w0 w : World} {F H : Hp} {ps gs : Nat} {pr : Value}
theorem rG_new (hgs : 1 ≤ gs ∧ gs ≤ 64) (h : Sat w0 H w) : Calls Tryz.prog 53 #[vi gs] w fun e w' => ∃ g, e = .returned (vp g) ∧ Sat w0 (rG gs g * H) w' :=
  (Gt.rt_new gs hgs.1 hgs.2 h).mono fun e w' ⟨q, b, cap, vF, h1, h2⟩ => ⟨q, h1, Sat.exI (f := fun x : Nat × Nat × Value => Gt.rtB q x.1 gs x.2.1 x.2.2 * (sl 221 21 (.slice (some ⟨x.1, 0, none⟩) gs x.2.1) gs (Gt.pfl (List.replicate gs Gt.p1)) * sl 3 1 x.2.2 gs (Gt.nats (Ag.newF gs gs)))) (b, cap, vF) (h2.cast (by ac_rfl))⟩
theorem rG_make (hgs : 1 ≤ gs ∧ gs ≤ 64) (g : Nat) (x : Int) (h : Sat w0 (rG gs g * H) w) : Calls Tryz.prog 61 #[vp g, Ag.ev (newG 0 1 0 1 x 0)] w fun e w' => (∃ v, e = .returned v) ∧ Sat w0 (emp * H) w' := by
  obtain ⟨⟨b, cap, vF⟩, h1⟩ := h.exE
  have h2 : Sat w0 (sl 3 1 vF gs (Gt.nats (Ag.newF gs gs)) * (Gt.rtB g b gs cap vF * (sl 221 21 (.slice (some ⟨b, 0, none⟩) gs cap) gs (Gt.pfl (List.replicate gs Gt.p1)) * H))) w := h1.cast (by ac_rfl)
  obtain ⟨fa, vc, rfl⟩ := slPosK h2 (by omega)
  have hg1 : Ag.newF gs gs = Ag.newF gs (gs - 1) ++ [0] := by
    obtain ⟨m, rfl⟩ : ∃ m, gs = m + 1 := ⟨gs - 1, by omega⟩
    rw [Ag.newF_succ]
    simp
  have hl : (List.replicate gs Gt.p1).length = gs := List.length_replicate
  have hf : (Ag.newF gs (gs - 1)).length = gs - 1 := Ag.newF_len gs (gs - 1)
  have hm : Gt.mayB (newG 0 1 0 1 x 0) = true := by
    refine decide_eq_true ⟨show (1 : Int) ≤ 1 by decide, show (1 : Int) ≤ 6 by decide, show (0 : Int) ≤ 1152921504606846976 by decide, .inl rfl, show (0 : Int) ≤ 0 by decide, show (0 : Int) ≤ 0 by decide, fun h => absurd (show (1 : Int) = 5 from h) (by decide), fun _ => rfl⟩
  refine (Gt.rt_make (ps := List.replicate gs Gt.p1) (k := 0) (a := Gt.p1) (fr := Ag.newF gs (gs - 1)) (m := gs) (b := b) (cap := cap) (F := H) (by omega) (h2.cast (show _ = Gt.rtB g b (List.replicate gs Gt.p1).length cap (.slice (some ⟨fa, 0, none⟩) gs vc) * (Gt.rtL b cap (List.replicate gs Gt.p1) * (sl 3 1 (.slice (some ⟨fa, 0, none⟩) gs vc) gs (Gt.nats (Ag.newF gs (gs - 1) ++ [0])) * H)) by
    simp only [Gt.rtL]
    rw [hl, ← hg1]
    ac_rfl)) (by rw [List.getElem?_replicate, if_pos (by omega)]) (by omega) (newG 0 1 0 1 x 0) (show (0 : Int) ≤ 0 by omega) hm).mono ?_
  rintro e w' ⟨vG, rfl, h3⟩
  exact ⟨⟨_, rfl⟩, h3.dropL.dropL.dropL.cast (emp_sep H).symm⟩
theorem rC_new (h : Sat w0 H w) : Calls Tryz.prog 54 #[vi 4, vi 4] w fun e w' => ∃ g, e = .returned (vp g) ∧ Sat w0 (rC g * H) w' := Cn.r_new 4 ⟨by omega, by omega⟩ 4 h
theorem rC_make (c : Nat) (h : Sat w0 (rC c * H) w) : Calls Tryz.prog 58 #[vp c, vu 100, vu 20, vu 0] w fun e w' => (∃ v, e = .returned v) ∧ Sat w0 (rC2 c * H) w' :=
  (Cn.r_make kI0 h 100 20 0 (by omega)).mono fun e w' ⟨h1, h2⟩ => ⟨⟨_, h1⟩, h2⟩
theorem rC_bind (c : Nat) (h : Sat w0 (rC2 c * H) w) : Calls Tryz.prog 60 #[vp c, .agg #[.int .i64 0, .int .u64 1], vi 1] w fun e w' => (∃ v, e = .returned v) ∧ Sat w0 (emp * H) w' :=
  (Cn.r_bind kI1 (by omega) h 0 1 1 ⟨by omega, by omega⟩).mono fun e w' ⟨h1, h2⟩ => ⟨⟨_, h1⟩, h2.dropL.cast (emp_sep H).symm⟩
theorem rD_new (hgs : 1 ≤ gs ∧ gs ≤ 64) (h : Sat w0 H w) : Calls Tryz.prog 55 #[vi 4, vi gs, vu 1000, vu 50] w fun e w' => ∃ g, e = .returned (vp g) ∧ Sat w0 (rD gs g * H) w' :=
  (Dm.rd_new 4 (by omega) (by omega) gs 1000 50 h).mono fun e w' ⟨q, b, fa, fcap, h1, h2⟩ => ⟨q, h1, Sat.exI (f := fun x : Nat × Nat × Nat => Dm.rdB q x.1 4 4 (.slice (some ⟨x.2.1, 0, none⟩) 3 x.2.2) * (sl 231 9 (.slice (some ⟨x.1, 0, none⟩) 4 4) 4 (Dm.oflat (Dm.rootO 4 gs 1000 50)) * sl 3 1 (.slice (some ⟨x.2.1, 0, none⟩) 3 x.2.2) 3 (Dm.nats (Ad.newF 4 3)))) (b, fa, fcap) (h2.cast (by ac_rfl))⟩
theorem rD_join (hgs : 1 ≤ gs ∧ gs ≤ 64) (d : Nat) (h : Sat w0 (rD gs d * H) w) : Calls Tryz.prog 59 #[vp d, .agg #[.int .i64 0, .int .u64 1]] w fun e w' => (∃ v, e = .returned v) ∧ Sat w0 (emp * H) w' := by
  obtain ⟨⟨b, fa, fcap⟩, h1⟩ := h.exE
  refine (Dm.rjoin_ok (rs := Dm.rootO 4 gs 1000 50) (k := 0) (a := ⟨1, true, gs, 1000, 50, 0, 0, 0, 0⟩) (b := b) (cap := 4) (F := sl 3 1 (.slice (some ⟨fa, 0, none⟩) 3 fcap) 3 (Dm.nats (Ad.newF 4 3)) * H) (h1.cast (show _ = Dm.rdB d b 4 4 _ * (Dm.rdL b 4 (Dm.rootO 4 gs 1000 50) * (sl 3 1 (.slice (some ⟨fa, 0, none⟩) 3 fcap) 3 (Dm.nats (Ad.newF 4 3)) * H)) by
    simp only [Dm.rdL]
    show _ = _ * (sl _ _ (.slice _ 4 _) 4 _ * _)
    ac_rfl)) rfl rfl (fun _ => [(0, 1)]) ?_ ?_ ⟨show (0 : Int) ≤ 0 by omega, show (0 : Int) ≤ 64 by omega⟩ ?_).mono ?_
  · intro k a ha hi
    have hs : k = 0 ∨ k = 1 ∨ k = 2 ∨ k = 3 := by
      have := (List.getElem?_eq_some_iff.1 ha).1
      have h4 : (Dm.rootO 4 gs 1000 50).length = 4 := rfl
      omega
    rcases hs with rfl | rfl | rfl | rfl
    · obtain rfl : (⟨1, true, gs, 1000, 50, 0, 0, 0, 0⟩ : Dm.One) = a := Option.some.inj ha
      exact ⟨⟨rfl, rfl, rfl⟩, by simp⟩
    all_goals
      obtain rfl : Dm.o1 = a := Option.some.inj ha
      cases hi
  · refine ⟨by show (4 : Nat) ≤ 1000; omega, ?_⟩
    intro k a ha
    have := List.mem_of_getElem? ha
    have h4 : Dm.rootO 4 gs 1000 50 = [⟨1, true, gs, 1000, 50, 0, 0, 0, 0⟩, Dm.o1, Dm.o1, Dm.o1] := rfl
    rw [h4] at this
    simp only [List.mem_cons, List.not_mem_nil, or_false] at this
    rcases this with rfl | rfl | rfl | rfl
    · exact ⟨show (0 : Int) ≤ gs by omega, show (gs : Int) ≤ 64 by omega, show (0 : Int) ≤ 1000 by omega, show (1000 : Int) ≤ 4294967296 by omega, show (0 : Int) ≤ 0 by omega, show (0 : Int) ≤ 64 by omega⟩
    all_goals exact ⟨by decide, by decide, by decide, by decide, by decide, by decide⟩
  · show (0 : Int) + 0 < (gs : Int)
    omega
  · rintro e w' ⟨rfl, h3⟩
    exact ⟨⟨_, rfl⟩, h3.dropL.dropL.dropL.cast (emp_sep H).symm⟩
theorem rP_new (hps : 1 ≤ ps ∧ ps ≤ 8) (h : Sat w0 H w) : Calls Tryz.prog 57 #[vi ps, vi 2] w fun e w' => ∃ g, e = .returned (vp g) ∧ Sat w0 (rP g * H) w' :=
  (pr_new ps 2 hps.1 hps.2 (by omega) (by omega) h).mono fun e w' ⟨D, h1, h2, h3, h4⟩ => ⟨D.s, h3, Sat.exI (f := fun D' : Pc.Ar => given (D'.s = D.s) (Pc.prB D' (fun _ => pl0) [])) D (Sat.givenI rfl h4)⟩
theorem rP_put (p : Nat) (h : Sat w0 (rP p * H) w) : ∃ a, w.cell? ⟨p, 1, none⟩ = some (vp a) ∧ Calls Tryz.prog 63 #[vp a, .slice (some ⟨w.heap.size, 0, none⟩) 1 1] (w.alloc (.cells #[.int .i64 0] 3)) fun e w' => (∃ v, e = .returned v) ∧ Sat w0 (emp * H) w' := by
  obtain ⟨D, h1⟩ := h.exE
  obtain ⟨rfl, h2⟩ := h1.givenE
  obtain ⟨vG, vR, h3⟩ := pr_open h2
  refine ⟨D.a, (pr_head h3).cell 1 rfl, ?_⟩
  have h4 := (pr_glob h3).alloc (.cells #[.int .i64 0] 3)
  have h5 : Sat w0 (rgB D.a vG * (rs 3 vG (([] : List Int).map vi) * (pc w.heap.size 3 [vi 0] * (prY D vR (fun _ => pl0) * H)))) (w.alloc (.cells #[.int .i64 0] 3)) := h4.cast (by simp only [pc]; ac_rfl)
  refine (rg_put h5 (ys := [0]) (fun w' h' => rdI_pc h') (by simp)).mono ?_
  rintro e w' ⟨vL', rfl, h6⟩
  exact ⟨⟨_, rfl⟩, h6.dropL.dropL.dropL.dropL.cast (emp_sep H).symm⟩
theorem r20_new (hps : 1 ≤ ps ∧ ps ≤ 8) (hgs : 1 ≤ gs ∧ gs ≤ 64) (h : Sat w0 (prB pr * F) w) : Calls Tryz.prog 10 #[.agg (cfgL ps gs pr).toArray] w fun e w' => ∃ q, e = .returned (.tuple #[vp q, vi 0]) ∧ Sat w0 (prB pr * F) w' :=
  r20_walk hps hgs h (rG gs) rC rC2 (rD gs) rP (fun H w h => rG_new hgs h) (fun H w h => rC_new h) (fun H w h => rD_new hgs h) (fun H w h => rP_new hps h) (fun c H w h => rC_make c h) (fun d H w h => rD_join hgs d h) (fun c H w h => rC_bind c h) (fun g x H w h => rG_make hgs g x h) (fun p H w h => rP_put p h)
end
end Go.Proofs.YtdbppfcilaajaaaGreat.Kn

namespace Go.Proofs.YtdbppfcilaajaaaGreat.Kn
open Go.RowKit Pc
set_option linter.unusedVariables false
set_option linter.unusedSimpArgs false

section
variable {w0 w : World} {F : Hp} {ps gs : Nat} {pr : Value}
set_option maxRecDepth 100000 in
set_option maxHeartbeats 4000000 in
theorem small_ (ps gs : Nat) (h : Sat w0 F w) : Calls Tryz.prog 5 #[vi ps, vi gs] w fun e w' => ∃ pr, e = .returned (.agg (cfgL ps gs pr).toArray) ∧ Sat w0 (prB pr * F) w' := by
  have a0 := h.alloc (.cells zC.toArray 27)
  have a1 := a0.alloc (.cells #[] 5)
  rw [sizeK] at a1
  have a2 := a1.alloc (.cells #[.int .u8 0, .int .u8 0, .int .u8 0, .int .u8 0] 5)
  rw [sizeK, sizeK] at a2
  have a3 := a2.alloc (.cells #[.slice (some ⟨w.heap.size + 1, 0, none⟩) 0 0, .slice (some ⟨w.heap.size + 1 + 1, 0, none⟩) 4 4] 46)
  rw [sizeK, sizeK, sizeK] at a3
  have hX : Sat w0 (pc w.heap.size 27 zC * (pc (w.heap.size + 1) 5 [] * (pc (w.heap.size + 1 + 1) 5 [.int .u8 0, .int .u8 0, .int .u8 0, .int .u8 0] * (pc (w.heap.size + 1 + 1 + 1) 46 [.slice (some ⟨w.heap.size + 1, 0, none⟩) 0 0, .slice (some ⟨w.heap.size + 1 + 1, 0, none⟩) 4 4] * F)))) _ := a3.cast (by simp only [pc]; ac_rfl)
  have hi15 : (Tryz.prog.info? 27).map (·.size) = some 15 := by kernel_rfl
  have HT := Lib.hid (hX.thereN (n := 15) rfl)
  have HE := Lib.hid (hX.rowAll (cfgL ps gs (.slice (some ⟨w.heap.size + 1 + 1 + 1, 0, none⟩) 2 2)) rfl)
  have h1 : ∀ u ∈ cfgL ps gs (.slice (some ⟨w.heap.size + 1 + 1 + 1, 0, none⟩) 2 2), u.oneCell' = true := by simp [cfgL, Value.oneCell']
  have HO := Lib.hid h1
  clear h a0 a1 a2 a3 hX h1
  go_enter Tryz.func5, Tryz.ntmps5
  go_wp2_with (first
    | (refine wpList_build (v := .agg (cfgL ps gs (.slice (some ⟨w.heap.size + 1 + 1 + 1, 0, none⟩) 2 2)).toArray) rfl rfl (by intro w; kernel_rfl) ?_)
    | (refine wpList_store_mid rfl 27 _ _ rfl w.heap.size 0 (cfgL ps gs (.slice (some ⟨w.heap.size + 1 + 1 + 1, 0, none⟩) 2 2)).toArray (by rfl) (by rfl) HT.out hi15 (all_oneCell_toArray HO.out) ?_))
  refine bodyPost_ret (results_row1 rfl _ _ _ rfl (cs := cfgL ps gs (.slice (some ⟨w.heap.size + 1 + 1 + 1, 0, none⟩) 2 2)) HE.out.rangeN Tryz.underlying27 rfl (by kernel_rfl)) rfl ?_
  refine ⟨_, rfl, ?_⟩
  have h2 := HE.out.dropL
  have b1 := Sat.slI (n := 0) (cap := 0) (size := 1) (xs := []) h2 (by omega) (by unfold maxLen; omega) (by simp) (by simp)
  have b2 := Sat.slI (n := 4) (cap := 4) (size := 1) b1.pull2 (by omega) (by unfold maxLen; omega) (by simp) rfl
  have b3 := Sat.slI (n := 2) (cap := 2) (size := 1) b2.pull3 (by omega) (by unfold maxLen; omega) (by simp) rfl
  refine prB_shut (rv := fun k => if k = 0 then .slice (some ⟨w.heap.size + 1, 0, none⟩) 0 0 else .slice (some ⟨w.heap.size + 1 + 1, 0, none⟩) 4 4) (b3.cast ?_)
  have e1 : bytesB (fun k => if k = 0 then .slice (some ⟨w.heap.size + 1, 0, none⟩) 0 0 else .slice (some ⟨w.heap.size + 1 + 1, 0, none⟩) 4 4) 2 = sl 5 1 (.slice (some ⟨w.heap.size + 1, 0, none⟩) 0 0) 0 [] * (sl 5 1 (.slice (some ⟨w.heap.size + 1 + 1, 0, none⟩) 4 4) 4 [.int .u8 0, .int .u8 0, .int .u8 0, .int .u8 0] * emp) := rfl
  rw [e1, sep_emp]
  show sl _ _ _ 2 _ * _ = sl _ _ _ 2 [.slice (some ⟨w.heap.size + 1, 0, none⟩) 0 0, .slice (some ⟨w.heap.size + 1 + 1, 0, none⟩) 4 4] * _
  ac_rfl
set_option maxRecDepth 100000 in
set_option maxHeartbeats 4000000 in
theorem begin_ (hps : 1 ≤ ps ∧ ps ≤ 8) (hgs : 1 ≤ gs ∧ gs ≤ 64) (h : Sat w0 (prB pr * F) w) : Calls Tryz.prog 4 #[.agg (cfgL ps gs pr).toArray] w fun e w' => ∃ (gm : Nat) (A : KA) (prv x y : Value), (A.D.n = ps ∧ A.D.m = 2) ∧ e = .returned (vp gm) ∧ Sat w0 (pc gm 39 [vp A.kk, x, y] * kF A ps gs prv (gp1 ps gs) (Ag.newF gs (gs - 1)) kc2 kf1 (dmL gs 1 0) (Ad.newF 4 3) 3 (fun _ => pl0) [0] F) w' := by
  have hA : Sat w0 (pc w.heap.size 27 (cfgL ps gs pr) * (prB pr * F)) (w.alloc (.cells (cfgL ps gs pr).toArray 27)) := h.alloc _
  have HR := Lib.hid hA.rangeN
  have hi15 : (Tryz.prog.info? 27).map (·.size) = some 15 := by kernel_rfl
  have HK := Lib.hid (k_new (ps := ps) (gs := gs) hps hgs hA.pull2)
  clear h hA
  go_enter Tryz.func4, Tryz.ntmps4
  go_wp2_with (first
    | (refine wpList_load_mid rfl 27 _ rfl _ 0 (by rfl) (cfgL ps gs pr) _ HR.out Tryz.underlying27 rfl hi15 ?_)
    | (refine wpList_load_mid rfl 27 _ rfl _ 0 (by rfl) (cfgL ps gs pr) _ HR1.out Tryz.underlying27 rfl hi15 ?_)
    | (go_at_call 9; refine HK.out.mono ?_; rintro e w1 ⟨A, prv, hD, rfl, hS1⟩; have hE : Sat w0 (prB pr * (pc w.heap.size 27 (cfgL ps gs pr) * kF A ps gs prv (gp1 ps gs) (Ag.newF gs (gs - 1)) kc2 kf1 (dmL gs 1 0) (Ad.newF 4 3) 3 (fun _ => pl0) [0] F)) w1 := hS1.cast (by simp only [kF]; ac_rfl); have HR1 := Lib.hid hE.pull2.rangeN; have HQ := Lib.hid (r20_new (ps := ps) (gs := gs) hps hgs hE); have HD := Lib.hid hD; clear hS1 hE HR HK hD)
    | (go_at_call 10; refine HQ.out.mono ?_; rintro e w2 ⟨q, rfl, hS2⟩; have HS2 := Lib.hid hS2; clear hS2 HQ HR1))
  go_ret
  have h3 := (HS2.out.dropL.dropL.alloc' (.cells #[.int .i64 0, .int .u64 1] 30)).alloc (.cells #[vp A.kk, vp q, .slice (some ⟨w2.heap.size, 0, none⟩) 1 1] 39)
  rw [sizeK] at h3
  exact ⟨w2.heap.size + 1, A, prv, vp q, .slice (some ⟨w2.heap.size, 0, none⟩) 1 1, HD.out, rfl, h3.cast (by simp only [pc])⟩
end
end Go.Proofs.YtdbppfcilaajaaaGreat.Kn

namespace Go.Proofs.YtdbppfcilaajaaaGreat.Pc
open Go.RowKit Rq Gq
set_option linter.unusedVariables false
set_option linter.unusedSimpArgs false

section
variable {w0 w : World} {F : Hp} {D : Ad} {p : Nat → Pl} {gx : List Int}
theorem pl_put_at (h : Sat w0 (plB D p gx * F) w) (ho : D.Ok) (k : Nat) (hk : k < D.n) (g : Int) (hl : gx.length ≤ 999000) :
    Calls Tryz.prog 133 #[vp (D.q k), vi g] w fun e w' => ∃ v, e = .returned v ∧ (∃ ao n cap, v = .slice ao n cap) ∧ w'.cell? ⟨D.s, 0, none⟩ = some D.v ∧ Calls Tryz.prog 29 #[vp D.s, v] w' fun e w' => e = .returned (.tuple #[]) ∧ Sat w0 (plB D (up p k (putY D.m (p k) g)) (gx ++ spillL D.m (p k).xs g) * F) w' :=
  (q_put (pl_out h hk) g).mono fun e w1 ⟨v, he, hS⟩ => by
    refine ⟨v, he, ?_, (plX_cells hS.dropL.dropL.dropL hk).1, ?_⟩
    · obtain ⟨ao, cap, hv⟩ := hS.rd.len
      exact ⟨_, _, _, hv⟩
    · have h1 := pl_in (y := putY D.m (p k) g) (F := sl 3 1 v (spillL D.m (p k).xs g).length ((spillL D.m (p k).xs g).map vi) * F) (hS.cast (show _ = quB (D.q k) (D.r k) (p k).z (p k).b * (ringP (D.r k) D.m (putL D.m (p k).xs g) * (plX D p gx k * (sl 3 1 v (spillL D.m (p k).xs g).length ((spillL D.m (p k).xs g).map vi) * F))) by ac_rfl)) hk rfl rfl rfl rfl
      have hsl := spill_len (m := D.m) (xs := (p k).xs) g
      have h2 := ho.m32
      exact (pl_back h1 ho (ys := spillL D.m (p k).xs g) (fun w' h' => h'.rd) (by omega)).mono fun e w' hh => ⟨hh.1, hh.2.drop2⟩
end
end Go.Proofs.YtdbppfcilaajaaaGreat.Pc

namespace Go.Proofs.YtdbppfcilaajaaaGreat.Pc
open Go.RowKit Rq Gq
set_option linter.unusedVariables false
set_option linter.unusedSimpArgs false
section
variable {w0 w : World} {F : Hp} {D : Ad} {p : Nat → Pl} {gx : List Int}
set_option maxRecDepth 100000 in
theorem pl_inherits (h : Sat w0 (plB D p gx * F) w) (k : Nat) (hk : k < D.n) (hb : (p k).b = false) : Calls Tryz.prog 17 #[vp D.s, vi k] w fun e w' => e = .returned (.bool false) ∧ w = w' := by
  obtain ⟨c1, r0, r1, r2, r3, r4⟩ : w.cell? ⟨D.s, 0, none⟩ = some D.v ∧ _ := ⟨(pl_cells h).1, pl_row h hk⟩
  have hki : (k : Int) < (D.n : Int) := by omega
  have HI := Lib.hid (pl_is h (k : Int))
  rw [inP_nat hk] at HI
  have ho1 := pl_out h hk
  rw [hb] at ho1
  have HN := Lib.hid (q_next ho1)
  unfold Ad.v at c1
  clear h hk hb ho1
  go_enter Tryz.func17, Tryz.ntmps17
  go_wp2_with (first | (go_at_call 66; refine HI.out.mono ?_; rintro e w' ⟨rfl, rfl⟩) | (go_at_call 68; refine HN.out.mono ?_; rintro e w' ⟨rfl, rfl⟩))
  go_ret
  exact ⟨rfl, rfl⟩
end
end Go.Proofs.YtdbppfcilaajaaaGreat.Pc
namespace Go.Proofs.YtdbppfcilaajaaaGreat.Kn
open Go.RowKit Pc
set_option linter.unusedVariables false
set_option linter.unusedSimpArgs false
section
variable {w0 w : World} {F : Hp} {A : KA} {ps gs : Nat} {prv : Value} {gps : List Ag.Pl} {gfr dfr cfr : List Nat} {cs cs' : List Cn.CP} {dps dps' : List Ad.Pl} {j : Nat} {p : Nat → Pl} {gx : List Int} {af pg i g : Int} {bx : Nat}
abbrev caL (bx : Nat) (af pg : Int) (X : Hp) : Hp := Ag.elB bx (newG 0 1 0 1 af pg) * X
abbrev caS (A : KA) (bx : Nat) (w' : World) : Prop := w'.cell? ⟨A.kk, 15, none⟩ = some (vu 0) ∧ w'.cell? ⟨A.kk, 17, none⟩ = some (vp A.c) ∧ w'.cell? ⟨A.kk, 18, none⟩ = some (vp A.d) ∧ w'.cell? ⟨bx, 2, none⟩ = some (.int .i64 0) ∧ w'.cell? ⟨bx, 3, none⟩ = some (.int .u64 1) ∧ w'.cell? ⟨bx, 4, none⟩ = some (.int .i64 0) ∧ w'.cell? ⟨bx, 5, none⟩ = some (.int .u64 1)
theorem ca_S (h : Sat w0 (caL bx af pg (kF A ps gs prv gps gfr cs cfr dps dfr j p gx F)) w) : caS A bx w := ⟨h.pull2.cell 15 rfl, h.pull2.cell 17 rfl, h.pull2.cell 18 rfl, h.cell 2 rfl, h.cell 3 rfl, h.cell 4 rfl, h.cell 5 rfl⟩
abbrev kR (A : KA) (ps gs : Nat) (prv : Value) (gps : List Ag.Pl) (gfr : List Nat) (j : Nat) (p : Nat → Pl) (gx : List Int) (F : Hp) : Hp := knB A.kk ps gs prv 0 (vp A.g) (vp A.c) (vp A.d) (vp A.s) (vp A.D.s) (vp A.t) (vp A.a) * (cG A gps gfr * (plB A.D p gx * (spQ A.s gs j * (Hm.heapP A.t [] 0 * (prB prv * F)))))
theorem kF_c : kF A ps gs prv gps gfr cs cfr dps dfr j p gx F = Cn.cxQ [] A.c 4 cs cfr * kR A ps gs prv gps gfr j p gx (domD A.d A.q2 dps dfr * F) := by simp only [kF, kR]; ac_rfl
theorem kF_d : kF A ps gs prv gps gfr cs cfr dps dfr j p gx F = domD A.d A.q2 dps dfr * kR A ps gs prv gps gfr j p gx (Cn.cxQ [] A.c 4 cs cfr * F) := by simp only [kF, kR]; ac_rfl
theorem kF_x {X : Hp} : X * kF A ps gs prv gps gfr cs cfr dps dfr j p gx F = kF A ps gs prv gps gfr cs cfr dps dfr j p gx (X * F) := by simp only [kF]; ac_rfl
/-- What a context, a domain is asked: can they be charged, charge them. -/
structure ChOf (w0 : World) (A : KA) (cs cs' : List Cn.CP) (cfr : List Nat) (dps dps' : List Ad.Pl) (dfr : List Nat) : Prop where
  can : ∀ (H : Hp) (w : World), Sat w0 (Cn.cxQ [] A.c 4 cs cfr * H) w → Calls Tryz.prog 140 #[vp A.c, .agg #[.int .i64 0, .int .u64 1], vu 0] w fun e w' => e = .returned (.bool true) ∧ Sat w0 (Cn.cxQ [] A.c 4 cs cfr * H) w'
  qcan : ∀ (H : Hp) (w : World), Sat w0 (domD A.d A.q2 dps dfr * H) w → Calls Tryz.prog 141 #[vp A.d, .agg #[.int .i64 0, .int .u64 1]] w fun e w' => e = .returned (.bool true) ∧ Sat w0 (domD A.d A.q2 dps dfr * H) w'
  chg : ∀ (H : Hp) (w : World), Sat w0 (Cn.cxQ [] A.c 4 cs cfr * H) w → Calls Tryz.prog 79 #[vp A.c, .agg #[.int .i64 0, .int .u64 1], vu 0] w fun e w' => e = .returned (.bool true) ∧ Sat w0 (Cn.cxQ [] A.c 4 cs' cfr * H) w'
  qchg : ∀ (H : Hp) (w : World), Sat w0 (domD A.d A.q2 dps dfr * H) w → Calls Tryz.prog 80 #[vp A.d, .agg #[.int .i64 0, .int .u64 1]] w fun e w' => e = .returned (.bool true) ∧ Sat w0 (domD A.d A.q2 dps' dfr * H) w'
theorem k_gF (h : Sat w0 (kF A ps gs prv gps gfr cs cfr dps dfr j p gx F) w) (he : Ag.getE gps i g = 0) (hx : Ag.getX gps i g = newG 0 1 0 1 af pg) : Calls Tryz.prog 78 #[vp A.kk, .agg #[.int .i64 i, .int .u64 g]] w fun e w' => e = .returned (.tuple #[Ag.ev (newG 0 1 0 1 af pg), vi 0]) ∧ Sat w0 (kF A ps gs prv gps gfr cs cfr dps dfr j p gx F) w' := by
  have := Gt.k_g (h.cast (show _ = knB A.kk ps gs prv 0 (vp A.g) (vp A.c) (vp A.d) (vp A.s) (vp A.D.s) (vp A.t) (vp A.a) * (Gt.gtB A.g A.q1 * (Ag.tblP A.q1 gps gfr * (Cn.cxQ [] A.c 4 cs cfr * (domD A.d A.q2 dps dfr * (plB A.D p gx * (spQ A.s gs j * (Hm.heapP A.t [] 0 * (prB prv * F)))))))) by simp only [kF, cG]; ac_rfl)) i g
  rw [he, hx] at this
  refine this.mono ?_
  rintro e w' ⟨rfl, h'⟩
  exact ⟨rfl, h'.cast (by simp only [kF, cG]; ac_rfl)⟩
set_option maxRecDepth 100000 in
set_option maxHeartbeats 8000000 in
theorem k_can (hq : ChOf w0 A cs cs' cfr dps dps' dfr) (h : Sat w0 (kF A ps gs prv gps gfr cs cfr dps dfr j p gx F) w) (he : Ag.getE gps i g = 0) (hx : Ag.getX gps i g = newG 0 1 0 1 af pg) :
    Calls Tryz.prog 77 #[vp A.kk, .agg #[.int .i64 i, .int .u64 g]] w fun e w' => e = .returned (.bool true) ∧ Sat w0 (kF A ps gs prv gps gfr cs cfr dps dfr j p gx F) w' := by
  have hB : Sat w0 (pc w.heap.size 30 [.int .i64 i, .int .u64 g] * kF A ps gs prv gps gfr cs cfr dps dfr j p gx F) (w.alloc (.cells #[.int .i64 i, .int .u64 g] 30)) := h.alloc _
  have b0 := hB.cell 0 rfl
  have b1 := hB.cell 1 rfl
  have HG := Lib.hid (k_gF (hB.cast kF_x) he hx)
  have hi19 : (Tryz.prog.info? 134).map (·.size) = some 19 := by kernel_rfl
  have HQ := Lib.hid hq
  have HO := Lib.hid (Ag.elOne (newG 0 1 0 1 af pg))
  clear h hB he hx hq
  go_enter Tryz.func77, Tryz.ntmps77
  go_wp2_with (first
    | (go_at_call 78; refine HG.out.mono ?_; rintro e w1 ⟨rfl, hS1⟩; have hA1 := hS1.alloc (Ag.elO Ag.ez); have HA1 : Hid (Sat w0 (Ag.elB w1.heap.size Ag.ez * kF A ps gs prv gps gfr cs cfr dps dfr j p gx (pc w.heap.size 30 [.int .i64 i, .int .u64 g] * F)) (w1.alloc (Ag.elO Ag.ez))) := Lib.hid hA1; have HTh := Lib.hid (HA1.out.thereN (n := 19) rfl); clear hS1 hA1)
    | (refine wpList_store_mid rfl 134 _ _ rfl w1.heap.size 0 (Ag.elC (newG 0 1 0 1 af pg)).toArray (by rfl) (by rfl) HTh.out hi19 (all_oneCell_toArray HO.out) ?_))
  have hW := HA1.out.rowAll (Ag.elC (newG 0 1 0 1 af pg)) rfl
  generalize (w1.alloc (Ag.elO Ag.ez)).setCells w1.heap.size 0 (Ag.elC (newG 0 1 0 1 af pg)) = wb at *
  have hE : Sat w0 (caL w1.heap.size af pg (kF A ps gs prv gps gfr cs cfr dps dfr j p gx (pc w.heap.size 30 [.int .i64 i, .int .u64 g] * F))) wb.drew := hW.drew
  generalize w1.heap.size = bx at *
  have T0 := Lib.hid (ca_S hE)
  have HC := Lib.hid (HQ.out.can _ _ ((hE.cast kF_x).cast kF_c))
  clear hW hE HA1 HTh HG
  go_region_held3 (caS A bx)
    (first | (with_reducible exact T2.out) | (with_reducible exact T1.out) | (with_reducible exact T0.out))
    (first
      | (go_at_call 140; refine HC.out.mono ?_; rintro e w2 ⟨rfl, hS2⟩; have hE2 := (hS2.cast kF_c.symm).cast kF_x.symm; have T1 := Lib.hid (ca_S hE2); have HD := Lib.hid (HQ.out.qcan _ _ ((hE2.cast kF_x).cast kF_d)); clear hS2 hE2)
      | (go_at_call 141; refine HD.out.mono ?_; rintro e w3 ⟨rfl, hS3⟩; have hE3 := (hS3.cast kF_d.symm).cast kF_x.symm; have T2 := Lib.hid (ca_S hE3); have H3 := Lib.hid hE3; clear hS3 hE3))
  go_wp2_with fail
  go_ret
  exact ⟨rfl, (H3.out.dropL.cast kF_x.symm).dropL⟩
end
end Go.Proofs.YtdbppfcilaajaaaGreat.Kn

namespace Go.Proofs.YtdbppfcilaajaaaGreat.Kn
open Go.RowKit Pc
set_option linter.unusedVariables false
set_option linter.unusedSimpArgs false
section
variable {w0 w : World} {F : Hp} {A : KA} {ps gs : Nat} {prv : Value} {gps : List Ag.Pl} {gfr dfr cfr : List Nat} {cs cs' : List Cn.CP} {dps dps' : List Ad.Pl} {j : Nat} {p : Nat → Pl} {gx : List Int} {af pg i g : Int} {bx : Nat}
set_option maxRecDepth 100000 in
set_option maxHeartbeats 8000000 in
theorem k_charge (hq : ChOf w0 A cs cs' cfr dps dps' dfr) (h : Sat w0 (kF A ps gs prv gps gfr cs cfr dps dfr j p gx F) w) (he : Ag.getE gps i g = 0) (hx : Ag.getX gps i g = newG 0 1 0 1 af pg) :
    Calls Tryz.prog 22 #[vp A.kk, .agg #[.int .i64 i, .int .u64 g]] w fun e w' => e = .returned (.bool true) ∧ Sat w0 (kF A ps gs prv gps gfr cs' cfr dps' dfr j p gx F) w' := by
  have hB : Sat w0 (pc w.heap.size 30 [.int .i64 i, .int .u64 g] * kF A ps gs prv gps gfr cs cfr dps dfr j p gx F) (w.alloc (.cells #[.int .i64 i, .int .u64 g] 30)) := h.alloc _
  have b0 := hB.cell 0 rfl
  have b1 := hB.cell 1 rfl
  have HN := Lib.hid (k_can hq (hB.cast kF_x) he hx)
  have hi19 : (Tryz.prog.info? 134).map (·.size) = some 19 := by kernel_rfl
  have HQ := Lib.hid hq
  have HEX := Lib.hid (And.intro he hx)
  have HO := Lib.hid (Ag.elOne (newG 0 1 0 1 af pg))
  clear h hB he hx hq
  go_enter Tryz.func22, Tryz.ntmps22
  go_wp2_with (first
    | (go_at_call 77; refine HN.out.mono ?_; rintro e w1 ⟨rfl, hS1⟩; have c0 := (hS1.cast kF_x.symm).cell 0 rfl; have c1 := (hS1.cast kF_x.symm).cell 1 rfl; have HG := Lib.hid (k_gF hS1 HEX.out.1 HEX.out.2); clear hS1)
    | (go_at_call 78; refine HG.out.mono ?_; rintro e w2 ⟨rfl, hS1⟩; have hA1 := hS1.alloc (Ag.elO Ag.ez); have HA1 : Hid (Sat w0 (Ag.elB w2.heap.size Ag.ez * kF A ps gs prv gps gfr cs cfr dps dfr j p gx (pc w.heap.size 30 [.int .i64 i, .int .u64 g] * F)) (w2.alloc (Ag.elO Ag.ez))) := Lib.hid hA1; have HTh := Lib.hid (HA1.out.thereN (n := 19) rfl); clear hS1 hA1)
    | (refine wpList_store_mid rfl 134 _ _ rfl w2.heap.size 0 (Ag.elC (newG 0 1 0 1 af pg)).toArray (by rfl) (by rfl) HTh.out hi19 (all_oneCell_toArray HO.out) ?_))
  have hW := HA1.out.rowAll (Ag.elC (newG 0 1 0 1 af pg)) rfl
  generalize (w2.alloc (Ag.elO Ag.ez)).setCells w2.heap.size 0 (Ag.elC (newG 0 1 0 1 af pg)) = wb at *
  have hE : Sat w0 (caL w2.heap.size af pg (kF A ps gs prv gps gfr cs cfr dps dfr j p gx (pc w.heap.size 30 [.int .i64 i, .int .u64 g] * F))) wb.drew := hW.drew
  generalize w2.heap.size = bx at *
  have T0 := Lib.hid (ca_S hE)
  have HC := Lib.hid (HQ.out.chg _ _ ((hE.cast kF_x).cast kF_c))
  clear hW hE HA1 HTh HG HN
  go_region_held3 (caS A bx)
    (first | (with_reducible exact T2.out) | (with_reducible exact T1.out) | (with_reducible exact T0.out))
    (first
      | (go_at_call 79; refine HC.out.mono ?_; rintro e w3 ⟨rfl, hS2⟩; have hE2 := (hS2.cast kF_c.symm).cast kF_x.symm; have T1 := Lib.hid (ca_S hE2); have HD := Lib.hid (HQ.out.qchg _ _ ((hE2.cast kF_x).cast kF_d)); clear hS2 hE2)
      | (go_at_call 80; refine HD.out.mono ?_; rintro e w4 ⟨rfl, hS3⟩; have hE3 := (hS3.cast kF_d.symm).cast kF_x.symm; have T2 := Lib.hid (ca_S hE3); have H3 := Lib.hid hE3; clear hS3 hE3))
  go_wp2_with fail
  go_ret
  exact ⟨rfl, (H3.out.dropL.cast kF_x.symm).dropL⟩
end
end Go.Proofs.YtdbppfcilaajaaaGreat.Kn
