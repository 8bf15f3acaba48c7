/-
  Package global: All, Has. No statement is proved here.
-/
import Derived.Test.YtjgemfgneiaabaaGreatMg14
import Derived.Test.YtjgemfgneiaabaaGreatMg15
namespace Go.Proofs.YtjgemfgneiaabaaGreat.Gq
open Go.RowKit Rq
attribute [local go_sem] Oper.semAt_some
set_option linter.unusedVariables false

theorem wpIn_act {Fe : Fence} {n : Nat} {P : Program} {c : Code} {Q : Exit → Act → World → Prop} {a : Act} {w : World} (h : ∀ a', a' = a → c.wpIn Fe n P Q a' w) : c.wpIn Fe n P Q a w := h a rfl
theorem EintG : SlT Tryz.prog 41 3 1 8 (.int .i64 0) := SlT.mk' Tryz.underlying41 (by kernel_rfl) rfl (by decide)
section
variable {P : Program} {G : Fence} {n : Nat} {w0 w : World} {F : Hp}
/-- One operation, an append, inside a fence. -/
theorem opIn_append {o : Oper} {a : Act} {K : Act → World → Prop} {Q : Exit → Act → World → Prop} {t e : TypeId} {size bytes : Nat} {z v y : Value} {k m : Nat} {xs news : List Value} (E : SlT P t e size bytes z) (s x : Operand)
    (ho : o.op = .call { callee := .builtin .append, args := #[s, x], argTypes := #[t, t] })
    (hs : a.eval s = v) (hS : Sat w0 (sl e size v k xs * F) w) (hx : a.eval x = y) (hR : Rd w size y m news) (h1 : ∀ u ∈ news, u.oneCell' = true)
    (h63 : k + m ≤ maxLen) (hby : (k + m) * bytes ≤ 140737488355328)
    (h : ∀ ao cap w', Sat w0 (sl e size (.slice ao (k + m) cap) (k + m) (xs ++ news) * F) w' → K (a.put o.dst (.slice ao (k + m) cap)) w') : o.wpIn G n P a w K Q := by
  obtain ⟨ao', cap', w', hr, h2⟩ := run_append_sl (P := P) E o.type hS hR h1 h63 hby
  unfold Oper.wpIn
  refine ⟨?_, ?_⟩
  · simp [Oper.about, ho, resolve, Target.leads, Sem.run_pure]
  · rw [Oper.semAt_plain G _ _ (by rw [ho]; intro c hc'; cases hc')]
    unfold execOp
    simp only [ho, resolve, invoke, builtin, Sem.run_bind, Sem.run_pure, Result.andThen_ok, List.map_toArray, List.map_cons, List.map_nil, hs, hx, hr]
    exact h ao' cap' w' h2
end
def plG (bo : Nat) (F : Hp) (l : List Int) : Hp := ex fun v : Value => pc bo 41 [v] * (sl 3 1 v l.length (l.map vi) * F)
section
variable {w0 w : World} {F : Hp} {q : Nat} {xs : List Int}
set_option maxRecDepth 100000 in
set_option maxHeartbeats 4000000 in
theorem g_all (h : Sat w0 (gQ q xs * F) w) (hl : xs.length ≤ 1000000) :
    Calls Tryz.prog 70 #[vp q] w fun e w' => ∃ v, e = .returned v ∧ Sat w0 (sl 3 1 v xs.length (xs.map vi) * (gQ q xs * F)) w' := by
  have hB : Sat w0 (pc w.heap.size 41 [.slice none 0 0] * (gQ q xs * F)) (w.alloc (.cells #[.slice none 0 0] 41)) := h.alloc _
  have c0 := hB.cell 0 rfl
  have HA := Lib.hid (g_each (q := q) hB)
  clear h hB
  generalize hwb : w.alloc (.cells #[.slice none 0 0] 41) = wb at *
  generalize hb1 : w.heap.size = bo at *
  have HW := Lib.hid hwb
  have HB1 := Lib.hid hb1
  clear hwb hb1
  refine (callsIn_wide (n := 9)).1 ?_
  refine callsIn_of_wp_marks Tryz.func70 rfl trivial ?_ rfl
  simp only [Tryz.ntmps70, List.size_toArray, List.length_cons, List.length_nil, Nat.reduceAdd, Nat.reduceSub, Array.replicate_succ, Array.replicate_zero, List.push_toArray, List.append_toArray, List.nil_append, List.cons_append]
  gi_wp2_with fail
  refine ⟨trivial, ?_⟩
  rw [HW.out, HB1.out]
  refine (callsIn_wide.2 HA.out).mono ?_
  rintro e w1 ⟨bx, rfl, hS⟩
  obtain ⟨ns, hns, hG⟩ := gq_open (hS.cast (show _ = gQ q xs * (pc bx 54 [vp q] * (pc bo 41 [.slice none 0 0] * F)) by ac_rfl))
  have h1 : Sat w0 (itG bx q ns * plG bo F []) w1 := by
    have h2 := hG.addNil 3 1
    refine (Sat.exI (f := fun v : Value => pc bo 41 [v] * (sl 3 1 v 0 [] * F)) (F := itG bx q ns) (.slice none 0 0) (h2.cast ?_)).cast ?_
    · unfold itG
      ac_rfl
    · unfold plG
      exact sep_comm _ _
  have H1 := Lib.hid h1
  have HNS := Lib.hid hns
  clear hS hG h1 hns c0
  gi_wp2
  refine wpIn_act ?_
  intro a0 ha0
  refine wpIn_range_sat (H' := itG bx q ns * plG bo F xs) rfl (by omega) (gf := 113) (lb := #[vp bx]) (by rw [ha0]; rfl) trivial (enters_of Tryz.func113 (by kernel_rfl) rfl) H1.out ?call ?done
  case call =>
    intro fn ll DD R W hfn hR hS
    have hS : Sat w0 (itG bx q ns * (plG bo F (xs.take 0) * (pt ll R * pt DD dmark))) W := hS.cast (by rw [List.take_zero]; ac_rfl)
    refine (g_each1 8 (by omega) (fun k => plG bo F (xs.take k) * (pt ll R * pt DD dmark)) (given False emp) bx ll ?_ hS).mono ?_
    · intro a x g r W2 F2 hnr hS2
      have hxa : xs.take a.length = a.map Prod.snd := by rw [← HNS.out, hnr, List.map_append]; simp
      have hxb : xs.take (a.length + 1) = a.map Prod.snd ++ [g] := by
        rw [← HNS.out, hnr, List.map_append, List.take_append, List.take_of_length_le (by simp)]
        simp
      have hlen : (a.map Prod.snd).length < xs.length := by
        rw [← HNS.out, hnr]
        simp
      rw [hxa] at hS2
      have HXB := Lib.hid hxb
      have HNR := Lib.hid hnr
      clear hxa hxb hS
      clear hnr
      generalize a.map Prod.snd = l at *
      obtain ⟨v, hv⟩ := (hS2.cast (show _ = plG bo F l * (itG bx q ns * (pt ll R * (pt DD dmark * F2))) by ac_rfl)).exE
      have h3 : Sat w0 (pt ll R * (pc bo 41 [v] * (sl 3 1 v l.length (l.map vi) * (itG bx q ns * (F * (pt DD dmark * F2)))))) W2 := hv.cast (by ac_rfl)
      have H3 := Lib.hid h3
      have hback : ∀ (B : Obj) (W' : World) (v' : Value), Sat w0 (pc bo 41 [v'] * (sl 3 1 v' (l.length + 1) (l.map vi ++ [vi g]) * (pt ll B * (itG bx q ns * (F * (pt DD dmark * F2)))))) W' → Sat w0 (pt ll B * (plG bo F (l ++ [g]) * (itG bx q ns * (pt DD dmark * F2)))) W' := fun B W' v' h => by
        refine (Sat.exI (f := fun v : Value => pc bo 41 [v] * (sl 3 1 v (l ++ [g]).length ((l ++ [g]).map vi) * F)) (F := pt ll B * (itG bx q ns * (pt DD dmark * F2))) v' (h.cast ?_)).cast ?_
        · rw [List.length_append, List.map_append]
          show _ = (pc bo 41 [v'] * (sl 3 1 v' (l.length + 1) (l.map vi ++ [vi g]) * F)) * _
          ac_rfl
        · unfold plG
          ac_rfl
      have HBK := Lib.hid hback
      clear hS2 hv hback
      have hY := yield_sat (P := Tryz.prog) (G := Fence.wide) (n := 8 - 1) (args := #[lst (.pointer none) a, vp x]) (X' := plG bo F (l ++ [g]) * (itG bx q ns * (pt DD dmark * F2)))
        (A := fun a' W' => a' = { tmps := ((a0.tmps.setIfInBounds 7 (lst (.pointer none) a)).setIfInBounds 8 (vp x)).setIfInBounds 4 (vp x), defers := [] } ∧ W' = W2) hfn rfl hR H3.out ?ha ?assign ?body
      case ha =>
        rintro a' W' ⟨_, rfl⟩
        exact H3.out.blk.1
      case assign =>
        intro K hK
        have HK := Lib.hid hK
        clear hK hR
        subst ha0
        gi_wp2
        exact HK.out _ _ ⟨by simp, rfl⟩
      case body =>
        rintro B a' W' ⟨rfl, rfl⟩
        have h5 : Sat w0 (pt ll B * _) _ := H3.out.putObj (o' := B)
        subst ha0
        simp only [List.setIfInBounds_toArray, List.set_cons_succ, List.set_cons_zero]
        have hpre := h5
        have h5 := h5.drew
        have o0 := h5.pull2.cell 0 rfl
        have of0 := h5.pull2.free 0
        have hsg := sg_at (T := 136) (n := .pointer none) (a := a) (x := x) (g := g) (r := r) (F := pc bx 54 [vp q] * (pc q 114 [fst (.pointer none) ns, lst (.pointer none) ns, vi ns.length] * (pt ll B * (pc bo 41 [v] * (sl 3 1 v l.length (l.map vi) * (F * (pt DD dmark * F2))))))) (h5.cast (by rw [← HNR.out]; unfold itG; ac_rfl))
        have x0 := hsg.1
        have H5 := Lib.hid hpre
        have oa := (((hpre.alloc' (.cells #[vi g] 3)).drew).pull2).cell 0 rfl
        clear h5 hpre hR h3 hsg
        generalize (W'.putObj ll B) = W3 at *
        have hmix : Tryz.prog.follows .mixedOrders = true := by kernel_rfl
        gi_wp2
        -- REGION
        refine wpIn_region_any hmix ?_
        change wpAnyIn _ _ _ _ _ _ _ _ _ (World.drew _)
        refine wpAnyIn_ready (rs := [0, 1]) (by kernel_rfl) (by simp) ?_
        refine AllReadyIn.cons rfl (fun K hK => ?_) ?_
        · skip
          go_simp
          refine hK _ _ ?_
          clear hK K
          refine wpAnyIn_ready (rs := [1]) (by kernel_rfl) (by simp) ?_
          refine AllReadyIn.cons rfl (fun K hK => ?_) AllReadyIn.nil
          go_simp
          refine hK _ _ ?_
          clear hK K
          refine wpAnyIn_ready (rs := [2]) (by kernel_rfl) (by simp) ?_
          refine AllReadyIn.cons rfl (fun K hK => ?_) AllReadyIn.nil
          go_simp
          refine hK _ _ ?_
          clear hK K
          refine wpAnyIn_ready (rs := [3]) (by kernel_rfl) (by simp) ?_
          refine AllReadyIn.cons rfl (fun K hK => ?_) AllReadyIn.nil
          go_simp
          refine hK _ _ ?_
          clear hK K
          refine wpAnyIn_ready (rs := [4]) (by kernel_rfl) (by simp) ?_
          refine AllReadyIn.cons rfl (fun K hK => ?_) AllReadyIn.nil
          go_simp
          refine hK _ _ ?_
          clear hK K
          refine wpAnyIn_ready (rs := [5]) (by kernel_rfl) (by simp) ?_
          refine AllReadyIn.cons rfl (fun K hK => ?_) AllReadyIn.nil
          go_simp
          refine hK _ _ ?_
          clear hK K
          refine wpAnyIn_ready (rs := [6]) (by kernel_rfl) (by simp) ?_
          refine AllReadyIn.cons rfl (fun K hK => ?_) AllReadyIn.nil
          rw [if_pos (by rfl)]
          refine opIn_append EintG (.tmp 9) (.tmp 14) rfl (by rfl) (((H5.out.cast (show _ = sl 3 1 v l.length (l.map vi) * (pc bo 41 [v] * (pt ll B * (itG bx q ns * (F * (pt DD dmark * F2))))) by ac_rfl)).alloc' (.cells #[vi g] 3)).drew) (by rfl) (Rd.one _ _ _) (by simp [Value.oneCell']) (by unfold maxLen; omega) (by omega) ?_
          intro ao6 cap6 w6 hS6
          have o6 := hS6.pull2.cell 0 rfl
          have f6 := hS6.pull2.free 0
          have H6 := Lib.hid hS6
          clear hS6
          refine hK _ _ ?_
          clear hK K
          refine wpAnyIn_ready (rs := [7]) (by kernel_rfl) (by simp) ?_
          refine AllReadyIn.cons rfl (fun K hK => ?_) AllReadyIn.nil
          go_simp
          refine hK _ _ ?_
          clear hK K
          refine wpAnyIn_done (by kernel_rfl) ?_ _
          have h7 := H6.out.pull2.store 0 (.slice ao6 (l.length + 1) cap6)
          exact HBK.out B _ _ h7
        refine AllReadyIn.cons rfl (fun K hK => ?_) AllReadyIn.nil
        go_simp
        refine hK _ _ ?_
        clear hK K
        refine wpAnyIn_ready (rs := [0, 2]) (by kernel_rfl) (by simp) ?_
        refine AllReadyIn.cons rfl (fun K hK => ?_) ?_
        · skip
          go_simp
          refine hK _ _ ?_
          clear hK K
          refine wpAnyIn_ready (rs := [2]) (by kernel_rfl) (by simp) ?_
          refine AllReadyIn.cons rfl (fun K hK => ?_) AllReadyIn.nil
          go_simp
          refine hK _ _ ?_
          clear hK K
          refine wpAnyIn_ready (rs := [3]) (by kernel_rfl) (by simp) ?_
          refine AllReadyIn.cons rfl (fun K hK => ?_) AllReadyIn.nil
          go_simp
          refine hK _ _ ?_
          clear hK K
          refine wpAnyIn_ready (rs := [4]) (by kernel_rfl) (by simp) ?_
          refine AllReadyIn.cons rfl (fun K hK => ?_) AllReadyIn.nil
          go_simp
          refine hK _ _ ?_
          clear hK K
          refine wpAnyIn_ready (rs := [5]) (by kernel_rfl) (by simp) ?_
          refine AllReadyIn.cons rfl (fun K hK => ?_) AllReadyIn.nil
          go_simp
          refine hK _ _ ?_
          clear hK K
          refine wpAnyIn_ready (rs := [6]) (by kernel_rfl) (by simp) ?_
          refine AllReadyIn.cons rfl (fun K hK => ?_) AllReadyIn.nil
          rw [if_pos (by rfl)]
          refine opIn_append EintG (.tmp 9) (.tmp 14) rfl (by rfl) (((H5.out.cast (show _ = sl 3 1 v l.length (l.map vi) * (pc bo 41 [v] * (pt ll B * (itG bx q ns * (F * (pt DD dmark * F2))))) by ac_rfl)).alloc' (.cells #[vi g] 3)).drew) (by rfl) (Rd.one _ _ _) (by simp [Value.oneCell']) (by unfold maxLen; omega) (by omega) ?_
          intro ao6 cap6 w6 hS6
          have o6 := hS6.pull2.cell 0 rfl
          have f6 := hS6.pull2.free 0
          have H6 := Lib.hid hS6
          clear hS6
          refine hK _ _ ?_
          clear hK K
          refine wpAnyIn_ready (rs := [7]) (by kernel_rfl) (by simp) ?_
          refine AllReadyIn.cons rfl (fun K hK => ?_) AllReadyIn.nil
          go_simp
          refine hK _ _ ?_
          clear hK K
          refine wpAnyIn_done (by kernel_rfl) ?_ _
          have h7 := H6.out.pull2.store 0 (.slice ao6 (l.length + 1) cap6)
          exact HBK.out B _ _ h7
        refine AllReadyIn.cons rfl (fun K hK => ?_) AllReadyIn.nil
        go_simp
        refine hK _ _ ?_
        clear hK K
        refine wpAnyIn_ready (rs := [0, 3]) (by kernel_rfl) (by simp) ?_
        refine AllReadyIn.cons rfl (fun K hK => ?_) ?_
        · skip
          go_simp
          refine hK _ _ ?_
          clear hK K
          refine wpAnyIn_ready (rs := [3]) (by kernel_rfl) (by simp) ?_
          refine AllReadyIn.cons rfl (fun K hK => ?_) AllReadyIn.nil
          go_simp
          refine hK _ _ ?_
          clear hK K
          refine wpAnyIn_ready (rs := [4]) (by kernel_rfl) (by simp) ?_
          refine AllReadyIn.cons rfl (fun K hK => ?_) AllReadyIn.nil
          go_simp
          refine hK _ _ ?_
          clear hK K
          refine wpAnyIn_ready (rs := [5]) (by kernel_rfl) (by simp) ?_
          refine AllReadyIn.cons rfl (fun K hK => ?_) AllReadyIn.nil
          go_simp
          refine hK _ _ ?_
          clear hK K
          refine wpAnyIn_ready (rs := [6]) (by kernel_rfl) (by simp) ?_
          refine AllReadyIn.cons rfl (fun K hK => ?_) AllReadyIn.nil
          rw [if_pos (by rfl)]
          refine opIn_append EintG (.tmp 9) (.tmp 14) rfl (by rfl) (((H5.out.cast (show _ = sl 3 1 v l.length (l.map vi) * (pc bo 41 [v] * (pt ll B * (itG bx q ns * (F * (pt DD dmark * F2))))) by ac_rfl)).alloc' (.cells #[vi g] 3)).drew) (by rfl) (Rd.one _ _ _) (by simp [Value.oneCell']) (by unfold maxLen; omega) (by omega) ?_
          intro ao6 cap6 w6 hS6
          have o6 := hS6.pull2.cell 0 rfl
          have f6 := hS6.pull2.free 0
          have H6 := Lib.hid hS6
          clear hS6
          refine hK _ _ ?_
          clear hK K
          refine wpAnyIn_ready (rs := [7]) (by kernel_rfl) (by simp) ?_
          refine AllReadyIn.cons rfl (fun K hK => ?_) AllReadyIn.nil
          go_simp
          refine hK _ _ ?_
          clear hK K
          refine wpAnyIn_done (by kernel_rfl) ?_ _
          have h7 := H6.out.pull2.store 0 (.slice ao6 (l.length + 1) cap6)
          exact HBK.out B _ _ h7
        refine AllReadyIn.cons rfl (fun K hK => ?_) AllReadyIn.nil
        go_simp
        refine hK _ _ ?_
        clear hK K
        refine wpAnyIn_ready (rs := [0, 4]) (by kernel_rfl) (by simp) ?_
        refine AllReadyIn.cons rfl (fun K hK => ?_) ?_
        · skip
          go_simp
          refine hK _ _ ?_
          clear hK K
          refine wpAnyIn_ready (rs := [4]) (by kernel_rfl) (by simp) ?_
          refine AllReadyIn.cons rfl (fun K hK => ?_) AllReadyIn.nil
          go_simp
          refine hK _ _ ?_
          clear hK K
          refine wpAnyIn_ready (rs := [5]) (by kernel_rfl) (by simp) ?_
          refine AllReadyIn.cons rfl (fun K hK => ?_) AllReadyIn.nil
          go_simp
          refine hK _ _ ?_
          clear hK K
          refine wpAnyIn_ready (rs := [6]) (by kernel_rfl) (by simp) ?_
          refine AllReadyIn.cons rfl (fun K hK => ?_) AllReadyIn.nil
          rw [if_pos (by rfl)]
          refine opIn_append EintG (.tmp 9) (.tmp 14) rfl (by rfl) (((H5.out.cast (show _ = sl 3 1 v l.length (l.map vi) * (pc bo 41 [v] * (pt ll B * (itG bx q ns * (F * (pt DD dmark * F2))))) by ac_rfl)).alloc' (.cells #[vi g] 3)).drew) (by rfl) (Rd.one _ _ _) (by simp [Value.oneCell']) (by unfold maxLen; omega) (by omega) ?_
          intro ao6 cap6 w6 hS6
          have o6 := hS6.pull2.cell 0 rfl
          have f6 := hS6.pull2.free 0
          have H6 := Lib.hid hS6
          clear hS6
          refine hK _ _ ?_
          clear hK K
          refine wpAnyIn_ready (rs := [7]) (by kernel_rfl) (by simp) ?_
          refine AllReadyIn.cons rfl (fun K hK => ?_) AllReadyIn.nil
          go_simp
          refine hK _ _ ?_
          clear hK K
          refine wpAnyIn_done (by kernel_rfl) ?_ _
          have h7 := H6.out.pull2.store 0 (.slice ao6 (l.length + 1) cap6)
          exact HBK.out B _ _ h7
        refine AllReadyIn.cons rfl (fun K hK => ?_) AllReadyIn.nil
        go_simp
        refine hK _ _ ?_
        clear hK K
        refine wpAnyIn_ready (rs := [0, 5]) (by kernel_rfl) (by simp) ?_
        refine AllReadyIn.cons rfl (fun K hK => ?_) ?_
        · skip
          go_simp
          refine hK _ _ ?_
          clear hK K
          refine wpAnyIn_ready (rs := [5]) (by kernel_rfl) (by simp) ?_
          refine AllReadyIn.cons rfl (fun K hK => ?_) AllReadyIn.nil
          go_simp
          refine hK _ _ ?_
          clear hK K
          refine wpAnyIn_ready (rs := [6]) (by kernel_rfl) (by simp) ?_
          refine AllReadyIn.cons rfl (fun K hK => ?_) AllReadyIn.nil
          rw [if_pos (by rfl)]
          refine opIn_append EintG (.tmp 9) (.tmp 14) rfl (by rfl) (((H5.out.cast (show _ = sl 3 1 v l.length (l.map vi) * (pc bo 41 [v] * (pt ll B * (itG bx q ns * (F * (pt DD dmark * F2))))) by ac_rfl)).alloc' (.cells #[vi g] 3)).drew) (by rfl) (Rd.one _ _ _) (by simp [Value.oneCell']) (by unfold maxLen; omega) (by omega) ?_
          intro ao6 cap6 w6 hS6
          have o6 := hS6.pull2.cell 0 rfl
          have f6 := hS6.pull2.free 0
          have H6 := Lib.hid hS6
          clear hS6
          refine hK _ _ ?_
          clear hK K
          refine wpAnyIn_ready (rs := [7]) (by kernel_rfl) (by simp) ?_
          refine AllReadyIn.cons rfl (fun K hK => ?_) AllReadyIn.nil
          go_simp
          refine hK _ _ ?_
          clear hK K
          refine wpAnyIn_done (by kernel_rfl) ?_ _
          have h7 := H6.out.pull2.store 0 (.slice ao6 (l.length + 1) cap6)
          exact HBK.out B _ _ h7
        refine AllReadyIn.cons rfl (fun K hK => ?_) AllReadyIn.nil
        go_simp
        refine hK _ _ ?_
        clear hK K
        refine wpAnyIn_ready (rs := [0]) (by kernel_rfl) (by simp) ?_
        refine AllReadyIn.cons rfl (fun K hK => ?_) AllReadyIn.nil
        go_simp
        refine hK _ _ ?_
        clear hK K
        refine wpAnyIn_ready (rs := [6]) (by kernel_rfl) (by simp) ?_
        refine AllReadyIn.cons rfl (fun K hK => ?_) AllReadyIn.nil
        rw [if_pos (by rfl)]
        refine opIn_append EintG (.tmp 9) (.tmp 14) rfl (by rfl) (((H5.out.cast (show _ = sl 3 1 v l.length (l.map vi) * (pc bo 41 [v] * (pt ll B * (itG bx q ns * (F * (pt DD dmark * F2))))) by ac_rfl)).alloc' (.cells #[vi g] 3)).drew) (by rfl) (Rd.one _ _ _) (by simp [Value.oneCell']) (by unfold maxLen; omega) (by omega) ?_
        intro ao6 cap6 w6 hS6
        have o6 := hS6.pull2.cell 0 rfl
        have f6 := hS6.pull2.free 0
        have H6 := Lib.hid hS6
        clear hS6
        refine hK _ _ ?_
        clear hK K
        refine wpAnyIn_ready (rs := [7]) (by kernel_rfl) (by simp) ?_
        refine AllReadyIn.cons rfl (fun K hK => ?_) AllReadyIn.nil
        go_simp
        refine hK _ _ ?_
        clear hK K
        refine wpAnyIn_done (by kernel_rfl) ?_ _
        have h7 := H6.out.pull2.store 0 (.slice ao6 (l.length + 1) cap6)
        exact HBK.out B _ _ h7
      refine hY.mono fun e W' h => .inl ⟨h.1, ?_⟩
      rw [HXB.out]
      exact h.2.cast (by ac_rfl)
    · rintro e W' ⟨he, h9⟩
      refine ⟨he, ?_⟩
      rcases h9 with h9 | h9
      · rw [show ns.length = xs.length by rw [← HNS.out]; simp, List.take_length] at h9
        exact h9.cast (by ac_rfl)
      · exact ((h9.cast (sep_emp _).symm).givenE).1.elim
  case done =>
    intro DD W hS
    obtain ⟨v, hv⟩ := (hS.cast (show _ = plG bo F xs * (itG bx q ns * pt DD dmark) by ac_rfl)).exE
    have h3 : Sat w0 (pc bo 41 [v] * (pt DD dmark * (pc bx 54 [vp q] * (sl 3 1 v xs.length (xs.map vi) * ((pc q 114 [fst (.pointer none) ns, lst (.pointer none) ns, vi ns.length] * sg 136 (.pointer none) ns) * F))))) W := hv.cast (by unfold itG; ac_rfl)
    obtain ⟨vo, vc, rfl⟩ := h3.dropL.dropL.dropL.rd.len
    have o0 := h3.cell 0 rfl
    have o1 := h3.free 0
    have h4 := h3.store 0 (.slice vo xs.length vc)
    have hne := h4.ne
    have hc := h4.cell 0 rfl
    have hk := h4.dropL.blk.1
    have H4 := Lib.hid h4
    clear hS hv h3 h4
    subst ha0
    gi_wp2
    generalize W.setCell ⟨bo, 0, none⟩ (.slice vo xs.length vc) = W4 at *
    refine ⟨by simp, .inl ⟨_, _, rfl, run_takeDeferred hk, ?_⟩⟩
    have hc2 : (W4.putObj DD (.deferred none)).cell? ⟨bo, 0, none⟩ = some (.slice vo xs.length vc) := (World.cell?_of_block (a := ⟨bo, 0, none⟩) (World.putObj_heap_other hne)).trans hc
    exact ⟨.slice vo xs.length vc, by simp [results, Tryz.f70, go_sem, hc2], _, rfl, (gq_shut ns HNS.out ((H4.out.pull2.putObj.dropL.dropL.dropL).cast (show _ = pc q 114 [fst (.pointer none) ns, lst (.pointer none) ns, vi ns.length] * (sg 136 (.pointer none) ns * (sl 3 1 (.slice vo xs.length vc) xs.length (xs.map vi) * F)) by ac_rfl))).pull2⟩
theorem g_has (h : Sat w0 (gQ q xs * F) w) (hl : xs.length ≤ 1000000) (x : Int) :
    Calls Tryz.prog 58 #[vp q, vi x] w fun e w' => e = .returned (.bool (decide (x ∈ xs))) ∧ Sat w0 (gQ q xs * F) w' := by
  have HA := Lib.hid (g_all h hl)
  clear h
  go_enter Tryz.func58, Tryz.ntmps58
  go_wp2_with (first
    | (go_at_call 70; refine HA.out.mono ?_; rintro e w1 ⟨v, rfl, hS⟩; have H1 := Lib.hid hS; clear hS)
    | (go_at_call 98; refine (slices_contains x xs v _ H1.out.rd hl).mono ?_; rintro e w2 ⟨rfl, hw⟩))
  go_ret
  exact ⟨rfl, by subst hw; exact H1.out.dropL⟩
end
end Go.Proofs.YtjgemfgneiaabaaGreat.Gq
