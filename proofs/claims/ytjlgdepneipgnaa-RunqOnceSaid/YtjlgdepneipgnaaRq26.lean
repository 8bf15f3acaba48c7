/-
  Chapter 05: the statements' helper do, whole. No statement is proved here.
-/
import Derived.Test.YtjlgdepneipgnaaRq25
namespace Go.Proofs.Ytjlgdepneipgnaa.Rq
open Go.RowKit
set_option linter.unusedVariables false

section
variable {w0 w : World} {F : Hp} {q r p m : Nat} {z : Int} {b : Bool} {xs : List Int} {ao : Option Addr} {n cap : Nat}
set_option maxRecDepth 100000 in
set_option maxHeartbeats 4000000 in
theorem do5_3 (h : Sat w0 (bothQ q r p m xs z b F) w) (hm1 : 2 ≤ m) (g : Int) (y : Bool) :
    Calls Try.prog 22 #[vp q, vp p, .agg #[vi 3, vi g, .bool y, .slice ao n cap]] w (DoQ w0 q r p m xs z b F) := by
  have hl := h.pull2.ringLen
  have hB : Sat w0 (actQ w.heap.size 3 g y (.slice ao n cap) * (bothQ q r p m xs z b F)) (w.alloc (.cells #[vi 3, vi g, .bool y, .slice ao n cap] 47)) := h.alloc (.cells #[vi 3, vi g, .bool y, .slice ao n cap] 47)
  have c0 := hB.cell 0 rfl
  have c2 := hB.cell 2 rfl
  have H := Lib.hid hB
  have hsl := tkS_len (m := m) (xs := xs) (z := z) (b := b) y
  have hcs := tkG_cases (m := m) (xs := xs) (z := z) (b := b) y
  have HP := Lib.hid (take_permA (m := m) (xs := xs) (z := z) (b := b) y)
  clear hB h
  have HQ := Lib.hid (q_take' H.out.rot4 y)
  have HR : Hid (∀ (w1 : World) (G : Hp), Sat w0 (refQ p m xs z b * G) w1 → Calls Try.prog 54 #[vp p, .bool y] w1 fun e w' => ∃ v u, e = .returned (.tuple #[v, .bool (b && y), u]) ∧ RdI w' v (tkG m xs z b y) ∧
      Sat w0 (sl 3 1 u (tkS m xs z b y).length ((tkS m xs z b y).map vi) * (refQ p m (tkL m xs z b y) z false * G)) w') := Lib.hid fun w1 G h1 => r_take' h1 hl.1 hm1 hl.2.1 y
  have HX : Hid (∀ w', Sat w0 (bothQ q r p m (tkL m xs z b y) z false F) w' → DoQ w0 q r p m xs z b F (.returned (.bool true)) w') := Lib.hid fun w' h' => ⟨tkL m xs z b y, z, false, rfl, h', fun hn => (List.nodup_append.1 (HP.out.nodup_iff.2 hn)).1⟩
  generalize tkG m xs z b y = G at *
  generalize tkS m xs z b y = S at *
  generalize tkL m xs z b y = L at *
  generalize (b && y) = t at *
  clear HP
  go_enter Try.func22, Try.ntmps22
  go_wp2_with fail
  generalize hwb : w.alloc (.cells #[vi 3, vi g, .bool y, .slice ao n cap] 47) = wb at *
  generalize w.heap.size = bx at *
  clear hwb
  refine HQ.out.mono ?_
  rintro e w1 ⟨v1, rfl, hS1⟩
  have d2 := hS1.pull5.cell 2 rfl
  have H1 := Lib.hid hS1
  clear hS1
  rcases hcs with rfl | ⟨x, rfl⟩
  · go_wp2_with fail
    refine (HR.out _ _ H1.out.pull4).mono ?_
    rintro e w2 ⟨v2, u2, rfl, hR2, hS2⟩
    obtain ⟨a2, p2, rfl⟩ := hR2.len
    have H2 := Lib.hid hS2
    clear hS2 hR2
    cases t
    all_goals
      go_wp2_with (go_at_call 27; refine (ref_same_yes S _ _ _ H2.out.pull3.rd H2.out.rd (by omega)).mono ?_; rintro e w3 ⟨rfl, N, rfl⟩)
      go_ret
      exact HX.out _ ((H2.out.drewN N).cast (show _ = actQ bx 3 g y (.slice ao n cap) * (sl 3 1 v1 S.length (S.map vi) * (sl 3 1 u2 S.length (S.map vi) * bothQ q r p m L z false F)) by unfold bothQ; ac_rfl)).dropL.dropL.dropL
  · go_wp2_with fail
    refine (HR.out _ _ H1.out.pull4).mono ?_
    rintro e w2 ⟨v2, u2, rfl, hR2, hS2⟩
    obtain ⟨a2, p2, rfl⟩ := hR2.len
    obtain ⟨b2, o2, rfl, hc2⟩ := hR2.at_ (by simp)
    have ca := hc2 0 (by simp)
    simp only [Nat.add_zero, List.getElem?_cons_zero, Option.getD_some] at ca
    have H2 := Lib.hid hS2
    clear hS2 hR2 hc2
    have hxx : (x == x) = true := by simp
    have ca' : ∀ k, (w2.drewN k).cell? ⟨b2, o2, none⟩ = some (vi x) := fun k => ca
    cases t
    all_goals
      go_wp2_with (go_at_call 27; refine (ref_same_yes S _ _ _ H2.out.pull3.rd H2.out.rd (by omega)).mono ?_; rintro e w3 ⟨rfl, N, rfl⟩; have cb := ca' N)
      go_ret
      exact HX.out _ ((H2.out.drewN N).cast (show _ = actQ bx 3 g y (.slice ao n cap) * (sl 3 1 v1 S.length (S.map vi) * (sl 3 1 u2 S.length (S.map vi) * bothQ q r p m L z false F)) by unfold bothQ; ac_rfl)).dropL.dropL.dropL
set_option maxRecDepth 100000 in
set_option maxHeartbeats 4000000 in
theorem do5_6 (h : Sat w0 (bothQ q r p m xs z b F) w) (g : Int) (y : Bool) {af : List Nat} (hA : ∀ w', Sat w0 F w' → RdA w' (.slice ao n cap) af) :
    Calls Try.prog 22 #[vp q, vp p, .agg #[vi 6, vi g, .bool y, .slice ao n cap]] w (DoQ w0 q r p m xs z b F) := by
  have hl := h.pull2.ringLen
  have hB : Sat w0 (actQ w.heap.size 6 g y (.slice ao n cap) * (bothQ q r p m xs z b F)) (w.alloc (.cells #[vi 6, vi g, .bool y, .slice ao n cap] 47)) := h.alloc (.cells #[vi 6, vi g, .bool y, .slice ao n cap] 47)
  have c0 := hB.cell 0 rfl
  have c1 := hB.cell 1 rfl
  have c3 := hB.cell 3 rfl
  have H := Lib.hid hB
  have hsl := thiefO_len (xs := xs) (z := z) (b := b) (mayG af g)
  have HP := Lib.hid (thief_perm (mayG af g) xs z b)
  clear hB h
  have HQ := Lib.hid (q_steal H.out.rot4 g (fun w' h' => hA w' h'.dropL.dropL))
  have HR : Hid (∀ (w1 : World) (A B C D : Hp), Sat w0 (refQ p m xs z b * (A * (B * (C * (D * F))))) w1 → Calls Try.prog 26 #[vp p, vi g, .slice ao n cap] w1 fun e w' => ∃ u, e = .returned u ∧ RdI w' u (thiefO (mayG af g) xs z b) ∧
      Sat w0 (refQ p m (thiefL (mayG af g) xs) z (thiefB (mayG af g) xs z b) * (A * (B * (C * (D * F))))) w') := Lib.hid fun w1 A B C D h1 => r_steal' h1 (by omega) g (fun w' h' => hA w' h'.dropL.dropL.dropL.dropL)
  have HX : Hid (∀ w', Sat w0 (bothQ q r p m (thiefL (mayG af g) xs) z (thiefB (mayG af g) xs z b) F) w' → DoQ w0 q r p m xs z b F (.returned (.bool true)) w') := Lib.hid fun w' h' => ⟨_, z, _, rfl, h', fun hn => (List.nodup_append.1 (HP.out.nodup_iff.2 hn)).1⟩
  generalize thiefO (mayG af g) xs z b = O at *
  generalize thiefL (mayG af g) xs = L at *
  generalize thiefB (mayG af g) xs z b = t at *
  clear HP hA
  go_enter Try.func22, Try.ntmps22
  go_wp2_with fail
  generalize hwb : w.alloc (.cells #[vi 6, vi g, .bool y, .slice ao n cap] 47) = wb at *
  generalize w.heap.size = bx at *
  clear hwb
  refine HQ.out.mono ?_
  rintro e w1 ⟨v1, rfl, hS1⟩
  obtain ⟨a1, p1, rfl⟩ := hS1.rd.len
  have d1 := hS1.pull5.cell 1 rfl
  have d3 := hS1.pull5.cell 3 rfl
  have H1 := Lib.hid hS1
  clear hS1
  go_wp2_with fail
  refine (HR.out _ _ _ _ _ H1.out.pull4).mono ?_
  rintro e w2 ⟨u2, rfl, hR2, hS2⟩
  have H2 := Lib.hid hS2.pull2
  have HR2 := Lib.hid hR2
  clear hS2 hR2
  go_wp2_with (go_at_call 27; refine (ref_same_yes O _ _ _ H2.out.rd HR2.out (by omega)).mono ?_; rintro e w3 ⟨rfl, N, rfl⟩)
  go_loopw [15] (fun i wr => ∃ (k : Nat) (zs : List Int), k ≤ O.length ∧ i = vi k ∧ Hid (zs.length = O.length) ∧
      Sat w0 (sl 3 1 (.slice a1 O.length p1) O.length (zs.map vi) * (refQ p m L z t * (quB q r z t * (ringP r m L * (actQ bx 6 g y (.slice ao n cap) * F))))) wr) (fun i _ => O.length - (intOf i).toNat)
  case atStart => exact ⟨0, O, Nat.zero_le _, rfl, Lib.hid rfl, H2.out.drewN _⟩
  case round =>
    obtain ⟨k, zs, hk, rfl, hz, hS⟩ := hrel
    clear d1 d3
    by_cases hlt : k < O.length
    · rcases hS.slE.2 with ⟨hv', h0, _⟩ | ⟨g', c2, cur, hv', h1, _⟩
      · omega
      · cases hv'
        have ca := hS.slCell k (u := vi (zs[k]?.getD 0)) (by have h9 : k < zs.length := (by rw [hz.out]; exact hlt); simp [h9])
        have cf := hS.slFree k
        have hst : ∀ X : Int, Sat w0 (sl 3 1 (.slice (some ⟨g', 0, none⟩) O.length p1) O.length ((zs.set k X).map vi) * (refQ p m L z t * (quB q r z t * (ringP r m L * (actQ bx 6 g y (.slice ao n cap) * F))))) (wr.setCell ⟨g', k, none⟩ (vi X)) := fun X => by
          rw [List.map_set]
          exact hS.slStore k (by omega) (vi X)
        have HSt := Lib.hid hst
        clear hst hS
        generalize zs[k]?.getD 0 = zk at *
        go_wp2
        go_roundw
        case rel => exact ⟨k + 1, _, by omega, by go_num, Lib.hid (by rw [List.length_set]; exact hz.out), HSt.out _⟩
        case measure => simp [intOf]; omega
    · obtain rfl : O.length = k := by omega
      have HS := Lib.hid (HX.out _ (hS.cast (show _ = actQ bx 6 g y (.slice ao n cap) * (sl 3 1 (.slice a1 O.length p1) O.length (zs.map vi) * bothQ q r p m L z t F) by unfold bothQ; ac_rfl)).dropL.dropL)
      clear hS
      go_wp2
      go_ret
      exact HS.out

theorem do5 (h : Sat w0 (bothQ q r p m xs z b F) w) (hm1 : 2 ≤ m) (k g : Int) (y : Bool) {af : List Nat} (hA : ∀ w', Sat w0 F w' → RdA w' (.slice ao n cap) af) :
    Calls Try.prog 22 #[vp q, vp p, .agg #[vi k, vi g, .bool y, .slice ao n cap]] w (DoQ w0 q r p m xs z b F) := by
  by_cases h1 : k = 1
  · exact h1 ▸ do5_1 h hm1 g y
  · by_cases h2 : k = 2
    · exact h2 ▸ do5_2 h hm1 g y
    · by_cases h3 : k = 3
      · exact h3 ▸ do5_3 h hm1 g y
      · by_cases h4 : k = 4
        · exact h4 ▸ do5_4 h hm1 g y
        · by_cases h5 : k = 5
          · exact h5 ▸ do5_5 h hm1 g y
          · by_cases h6 : k = 6
            · exact h6 ▸ do5_6 h g y hA
            · exact do5_0 h k g y h1 h2 h3 h4 h5 h6
end
end Go.Proofs.Ytjlgdepneipgnaa.Rq
