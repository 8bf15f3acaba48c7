/-
  Contracts of heap.Heap: Put, Pop. No statement is proved here.
-/
import Derived.Test.YtcchfdoeacgapaaHm8
import Derived.Deep.RegionLaw
namespace Go.Proofs.Ytcchfdoeacgapaa.Hm
open Go.RowKit
set_option linter.unusedVariables false

theorem Etm : SlT Try.prog 76 82 3 24 (.agg #[vu 0, vi 0, vi 0]) := SlT.mk' Try.underlying76 (by kernel_rfl) rfl (by decide)
theorem Rd.oneT (w : World) (a id p : Int) {b : Nat} (hb : b = w.heap.size) : Rd (w.alloc (.cells #[vu a, vi id, vi p] 82)).drew 3 (.slice (some ⟨b, 0, none⟩) 1 1) 1 (tmV (a, id, p)) := by
  subst hb
  refine ⟨rfl, .inr ⟨_, _, _, rfl, fun j u hj => ?_⟩⟩
  have hc : (w.alloc (.cells #[vu a, vi id, vi p] 82)).heap[w.heap.size]? = some (.cells #[vu a, vi id, vi p] 82 (0, 0)) := heap_alloc_new w _
  have key : ∀ k, (w.alloc (.cells #[vu a, vi id, vi p] 82)).drew.cell? ⟨w.heap.size, 0 + k, none⟩ = #[vu a, vi id, vi p][k]? := fun k => by
    show (match (w.alloc (.cells #[vu a, vi id, vi p] 82)).heap[w.heap.size]? with | some (.cells c _ _) => c[0 + k]? | _ => none) = _
    rw [hc, Nat.zero_add]
  rw [key]
  simpa [tmV] using hj
theorem tmsV_append (A : List Tm) (t : Tm) : tmsV (A ++ [t]) = tmsV A ++ tmV t := by simp [tmsV]
section
variable {w0 w : World} {F : Hp} {h n : Nat} {p : Int} {A : List Tm} {M : Int → Option Int}
theorem heapP_shut' {g cap : Nat} {vm : Value} (h1 : HO A) (h2 : Nd A) (h3 : MF A M) (hS : Sat w0 (hpB h (vs g n cap) vm p * (tl (vs g n cap) n A * (mapI vm M * F))) w) : Sat w0 (heapP h A p * F) w :=
  heapP_shut (vl := vs g n cap) (vm := vm) h1 h2 h3 (by rw [(tlLen hS.pull2).1]; exact hS)
theorem slSome {e : TypeId} {size : Nat} {ao : Option Addr} {cap : Nat} {xs : List Value} (hS : Sat w0 (sl e size (.slice ao n cap) n xs * F) w) (hn : n ≠ 0) : ∃ g, ao = some ⟨g, 0, none⟩ := by
  rcases hS.slE.2 with ⟨_, h0, _⟩ | ⟨g, cap', cur, hv, _⟩
  · exact absurd h0 hn
  · cases hv
    exact ⟨g, rfl⟩
theorem put_ready (hl : A.length = n) (a id p : Int) (h1 : HO A) (h2 : Nd A) (h3 : MF A M) (hno : hasT A id = false) :
    E (A ++ [(a, id, p)]) n ∧ Nd (A ++ [(a, id, p)]) ∧ MP (A ++ [(a, id, p)]) M n ∧ Ch (A ++ [(a, id, p)]) n := by
  have hlen : (A ++ [(a, id, p)]).length = n + 1 := by simp [hl]
  have g : ∀ j, j < n → gt (A ++ [(a, id, p)]) j = gt A j := fun j hj => by
    unfold gt
    rw [List.getElem?_append_left (by omega)]
  have gn : gt (A ++ [(a, id, p)]) n = (a, id, p) := by
    unfold gt
    rw [List.getElem?_append_right (by omega), hl, Nat.sub_self]
    rfl
  have hnew : ∀ j, j < n → (gt A j).2.1 ≠ id := fun j hj e => by
    rw [hasT_iff.2 ⟨j, by omega, e⟩] at hno
    cases hno
  refine ⟨⟨fun j h0 hj hjn hjp => ?_, fun c hn0 h0 hc hcn => by omega⟩, fun x y hx hy e => ?_, ⟨fun j hj hjn => ?_, fun k hk => ?_⟩, fun c h0 hc hcn => by omega⟩
  · unfold Ok
    rw [g j (by omega), g _ (by omega)]
    exact h1 j h0 (by omega)
  · rw [hlen] at hx hy
    by_cases hxn : x = n
    · by_cases hyn : y = n
      · omega
      · rw [hxn, gn, g y (by omega)] at e
        exact absurd e.symm (hnew y (by omega))
    · by_cases hyn : y = n
      · rw [hyn, gn, g x (by omega)] at e
        exact absurd e (hnew x (by omega))
      · rw [g x (by omega), g y (by omega)] at e
        exact h2 x y (by omega) (by omega) e
  · rw [g j (by omega)]
    exact h3.1 j (by omega)
  · obtain ⟨j, hj, e⟩ := h3.2 k hk
    exact ⟨j, by omega, by rw [g j (by omega)]; exact e⟩
set_option maxRecDepth 100000 in
theorem h_put_no (hS : Sat w0 (heapP h A p * F) w) (a id : Int) (hh : hasT A id = true) :
    Calls Try.prog 16 #[vp h, vu a, vi id] w fun e w' => e = .returned (vi 14) ∧ w = w' := by
  have HH := Lib.hid (h_has hS id)
  rw [hh] at HH
  clear hS
  go_enter Try.func16, Try.ntmps16
  go_wp2_with (go_at_call 42; refine HH.out.mono ?_; rintro e w' ⟨rfl, rfl⟩)
  go_ret
  exact ⟨rfl, rfl⟩
set_option maxRecDepth 1000000 in
set_option maxHeartbeats 4000000 in
theorem h_put (hS : Sat w0 (heapP h A p * F) w) (a id : Int) (hno : hasT A id = false) (hn : A.length ≤ 100000) (hp0 : 0 ≤ p) (hp1 : p ≤ 100000) :
    Calls Try.prog 16 #[vp h, vu a, vi id] w fun e w' => e = .returned (vi 0) ∧ ∃ A', A'.Perm ((a, id, p) :: A) ∧ Sat w0 (heapP h A' (p + 1) * F) w' := by
  have HH := Lib.hid (h_has hS id)
  rw [hno] at HH
  obtain ⟨vl, vm, M, h1, h2, h3, hS⟩ := heapP_open hS
  rcases hS.pull3.mapForm with ⟨rfl, hmn⟩ | ⟨b, rfl⟩
  · have hAn : A = [] := by
      cases A with
      | nil => rfl
      | cons x A =>
        have := h3.1 0 (by simp)
        rw [hmn _] at this
        cases this
    subst hAn
    obtain rfl : M = fun _ => none := funext hmn
    have c0 := hS.cell 0 rfl
    have c1 := hS.cell 1 rfl
    have c2 := hS.cell 2 rfl
    have f1 := hS.free 1
    have hmw : Sat w0 (mapI (.map (some w.heap.size)) (fun _ => none) * (hpB h vl (.map none) p * (sl 82 3 vl 0 (tmsV []) * F))) (w.alloc (.map #[] 0)) := (hS.pull3.dropL).mapNew
    have k1 := hmw.pull2.free 1
    have k2 := hmw.pull2.cell 1 rfl
    have hst := hmw.pull2.store 1 (.map (some w.heap.size))
    have H5 : Hid (Sat w0 (hpB h vl (.map (some w.heap.size)) p * (sl 82 3 vl 0 (tmsV []) * (mapI (.map (some w.heap.size)) (fun _ => none) * F))) ((w.alloc (.map #[] 0)).setCell ⟨h, 1, none⟩ (.map (some w.heap.size)))) := Lib.hid (hst.cast (by simp only [hpB, List.set_cons_succ, List.set_cons_zero]; ac_rfl))
    have q0 := H5.out.cell 0 rfl
    have q2 := H5.out.cell 2 rfl
    have HA := Lib.hid (put_ready (A := []) (M := fun _ => none) (n := 0) rfl a id p h1 h2 h3 hno)
    have hmk : (Instr.makeMap 77 none).run Try.prog w = .ok (.map (some w.heap.size)) (w.alloc (.map #[] 0)) := rfl
    clear hS hmw hst hmn h1 h2 h3
    obtain ⟨ao, cap, rfl⟩ := H5.out.pull2.rd.len
    have HU : Hid (∀ (g cap' : Nat) (w9 : World), Sat w0 (hpB h (vs g (0 + 1) cap') (.map (some w.heap.size)) (p + 1) * (tl (vs g (0 + 1) cap') (0 + 1) ([] ++ [(a, id, p)]) * (mapI (.map (some w.heap.size)) (fun _ => none) * F))) w9 → Calls Try.prog 49 #[vp h, vi (0 : Nat)] w9 fun e w' => e = .returned (.tuple #[]) ∧ ∃ A', HO A' ∧ Nd A' ∧ ∃ M', MF A' M' ∧ A'.Perm ((a, id, p) :: []) ∧ Sat w0 (hpB h (vs g (0 + 1) cap') (.map (some w.heap.size)) (p + 1) * (tl (vs g (0 + 1) cap') (0 + 1) A' * (mapI (.map (some w.heap.size)) M' * F))) w') :=
      Lib.hid fun g cap' w9 h9 => (h_up h9 0 (by omega) HA.out.1 HA.out.2.1 HA.out.2.2.1).mono fun e w' ⟨he, A', M', i', _, _, hE, hO, hN, hM, hp, hC, hS⟩ => ⟨he, A', HO.of hE hO (hC HA.out.2.2.2), hN, M', hM, hp.trans (List.perm_append_singleton _ _), hS⟩
    have hcmp : (binOp BinOp.eql 77 (Value.map none) (Value.map none)).run Try.prog w = .ok (.bool true) w := rfl
    have hpw : IntKind.i64.wrap (p + 1) = p + 1 := IntWalk.i64_in _ (by omega)
    have n1 := World.new_ne ((w.alloc (.map #[] 0)).setCell ⟨h, 1, none⟩ (.map (some w.heap.size))) _ q0
    have n2 := World.new_ne ((w.alloc (.map #[] 0)).setCell ⟨h, 1, none⟩ (.map (some w.heap.size))) _ q2
    have l1 := H5.out.lt
    have HA2 := H5.out.alloc (.cells #[vu a, vi id, vi p] 82)
    have m0 := HA2.pull2.cell 0 rfl
    have m2 := HA2.pull2.cell 2 rfl
    clear HA2
    clear HA
    go_enter Try.func16, Try.ntmps16
    go_wp2_with (go_at_call 42; refine HH.out.mono ?_; rintro e w' ⟨rfl, rfl⟩)
    go_region_law
      ((refine step_append_sl Etm (by rfl) _ _ (by rfl) (by rfl) ((H5.out.pull2.alloc' _).drew) (by rfl) (Rd.oneT _ _ _ _ (by simp)) (by simp [tmV, Value.oneCell']) (by unfold maxLen; omega) (by omega) ?_; intro ao' cap' w2 hS2; obtain ⟨g, rfl⟩ := slSome hS2 (by omega); have hF1 := hS2.pull2.free 0; have hC1 := hS2.pull2.cell 0 rfl; have b1 := hS2.pull2.store 0 (vs g (0 + 1) cap'); have x2 := b1.cell 2 rfl; have y2 := b1.free 2; have b2 := b1.store 2 (vi (p + 1)); have z0 := b2.cell 0 rfl; have H9 : Hid (Sat w0 (hpB h (vs g (0 + 1) cap') (.map (some w.heap.size)) (p + 1) * (tl (vs g (0 + 1) cap') (0 + 1) ([] ++ [(a, id, p)]) * (mapI (.map (some w.heap.size)) (fun _ => none) * F))) _) := Lib.hid (b2.cast (by simp only [hpB, tl, List.set_cons_succ, List.set_cons_zero, tmsV_append] <;> ac_rfl))))
    all_goals
      go_wp2_with (go_at_call 49; refine (HU.out _ _ _ H9.out).mono ?_; rintro e w6 ⟨rfl, A1, hO1, hN1, M1, hM1, hp1, hS6⟩; have H7 := Lib.hid hS6; clear hS6)
      go_ret
      exact ⟨rfl, A1, hp1, heapP_shut' hO1 hN1 hM1 H7.out⟩
  · have c0 := hS.cell 0 rfl
    have c1 := hS.cell 1 rfl
    have c2 := hS.cell 2 rfl
    obtain ⟨n, hnl⟩ : ∃ n, A.length = n := ⟨_, rfl⟩
    have HA := Lib.hid (put_ready (A := A) (M := M) (n := n) hnl a id p h1 h2 h3 hno)
    rw [hnl] at hS hn
    have H5 := Lib.hid hS
    have HNL := Lib.hid hnl
    clear hS h1 h2 h3 hnl
    obtain ⟨ao, cap, rfl⟩ := H5.out.pull2.rd.len
    have HU : Hid (∀ (g cap' : Nat) (w9 : World), Sat w0 (hpB h (vs g (n + 1) cap') (.map (some b)) (p + 1) * (tl (vs g (n + 1) cap') (n + 1) (A ++ [(a, id, p)]) * (mapI (.map (some b)) M * F))) w9 → Calls Try.prog 49 #[vp h, vi (n : Nat)] w9 fun e w' => e = .returned (.tuple #[]) ∧ ∃ A', HO A' ∧ Nd A' ∧ ∃ M', MF A' M' ∧ A'.Perm ((a, id, p) :: A) ∧ Sat w0 (hpB h (vs g (n + 1) cap') (.map (some b)) (p + 1) * (tl (vs g (n + 1) cap') (n + 1) A' * (mapI (.map (some b)) M' * F))) w') :=
      Lib.hid fun g cap' w9 h9 => (h_up h9 n (by omega) HA.out.1 HA.out.2.1 HA.out.2.2.1).mono fun e w' ⟨he, A', M', i', _, _, hE, hO, hN, hM, hp, hC, hS⟩ => ⟨he, A', HO.of hE hO (hC HA.out.2.2.2), hN, M', hM, hp.trans (List.perm_append_singleton _ _), hS⟩
    have hcmp : (binOp BinOp.eql 77 (Value.map (some b)) (Value.map none)).run Try.prog w = .ok (.bool false) w := rfl
    have hpw : IntKind.i64.wrap (p + 1) = p + 1 := IntWalk.i64_in _ (by omega)
    have n1 := World.new_ne w _ c0
    have n2 := World.new_ne w _ c2
    have l1 := H5.out.lt
    have HA2 := H5.out.alloc (.cells #[vu a, vi id, vi p] 82)
    have m0 := HA2.pull2.cell 0 rfl
    have m2 := HA2.pull2.cell 2 rfl
    clear HA2
    clear HA
    go_enter Try.func16, Try.ntmps16
    go_wp2_with (go_at_call 42; refine HH.out.mono ?_; rintro e w' ⟨rfl, rfl⟩)
    go_region_law
      ((refine step_append_sl Etm (by rfl) _ _ (by rfl) (by rfl) ((H5.out.pull2.alloc' _).drew) (by rfl) (Rd.oneT _ _ _ _ (by simp)) (by simp [tmV, Value.oneCell']) (by unfold maxLen; omega) (by omega) ?_; intro ao' cap' w2 hS2; obtain ⟨g, rfl⟩ := slSome hS2 (by omega); have hF1 := hS2.pull2.free 0; have hC1 := hS2.pull2.cell 0 rfl; have b1 := hS2.pull2.store 0 (vs g (n + 1) cap'); have x2 := b1.cell 2 rfl; have y2 := b1.free 2; have b2 := b1.store 2 (vi (p + 1)); have z0 := b2.cell 0 rfl; have H9 : Hid (Sat w0 (hpB h (vs g (n + 1) cap') (.map (some b)) (p + 1) * (tl (vs g (n + 1) cap') (n + 1) (A ++ [(a, id, p)]) * (mapI (.map (some b)) M * F))) _) := Lib.hid (b2.cast (by simp only [hpB, tl, List.set_cons_succ, List.set_cons_zero, tmsV_append] <;> ac_rfl))))
    all_goals
      go_wp2_with (go_at_call 49; refine (HU.out _ _ _ H9.out).mono ?_; rintro e w6 ⟨rfl, A1, hO1, hN1, M1, hM1, hp1, hS6⟩; have H7 := Lib.hid hS6; clear hS6)
      go_ret
      exact ⟨rfl, A1, hp1, heapP_shut' hO1 hN1 hM1 H7.out⟩
end
end Go.Proofs.Ytcchfdoeacgapaa.Hm
