/-
  Package domain: change, Use, Clear. No statement is proved here.
-/
import Derived.Test.YtdbppfcilaajaaaGreatMg20
import Derived.RangeFuncNested
import Derived.RangeFuncBound
import Derived.RangeFuncCalls
import Derived.RangeFuncLeaves
import Derived.RangeFuncWrites
import Derived.Test.YtdbppfcilaajaaaGreatMg2
import Derived.OwnWalkIn
import Derived.Sort.LoopGhostIn
import Derived.Shelf.Abstract
import Derived.Shelf.RegionOpen
import Derived.TacticsInMore
import Derived.LoopNIn
import Derived.LoopIn
set_option linter.unusedVariables false
set_option linter.unusedSimpArgs false
namespace Go.Proofs.YtdbppfcilaajaaaGreat.Dm
open Go.RowKit Ad
set_option linter.unusedVariables false
set_option linter.unusedSimpArgs false

theorem getE_cases (ps : List Pl) (i g : Int) : getE ps i g = 0 ∨ getE ps i g = 11 := by
  unfold getE
  split
  · exact .inr rfl
  · exact .inl rfl
theorem setP_none {ps : List Pl} {i g : Int} (h : getE ps i g = 11) (x : El) : setP ps i g x = ps := by
  unfold getE at h
  unfold setP
  split at h
  · rename_i h0; rw [h0]
  · cases h
theorem setL_full (cs vs : List Value) (h : vs.length = cs.length) : setL cs 0 vs = vs := List.ext_getElem? fun i => by
  by_cases hi : i < vs.length
  · have := setL_in vs cs 0 i hi (by omega)
    rw [Nat.zero_add] at this
    exact this
  · rw [List.getElem?_eq_none (by rw [setL_len]; omega), List.getElem?_eq_none (by omega)]
def addS (a b : Int) : Int := (addP a b).getD 18446744073709551615
section
variable {w0 w : World} {F : Hp} {h p : Nat} {ps : List Pl} {free : List Nat}
set_option maxRecDepth 100000 in
set_option maxHeartbeats 2000000 in
theorem use1_ {b bn : Nat} {n : Int} {x : El} (hS : Sat w0 (elB b x * (pc bn 24 [vu n] * F)) w) (hu : U64 x.v9) (hn : U64 n) : Calls Tryz.prog 199 #[vp b, vp bn] w fun e w' => (∃ v, e = .returned v) ∧ Sat w0 (elB b { x with v9 := addS x.v9 n } * (pc bn 24 [vu n] * F)) w' := by
  have c9 := hS.cell 9 rfl
  have f9 := hS.free 9
  have cn := hS.pull2.cell 0 rfl
  have HN := Lib.hid (fun w => naddSat x.v9 n hu hn w)
  rw [show ((addP x.v9 n).getD 18446744073709551615) = addS x.v9 n from rfl] at HN
  have HST := Lib.hid (hS.store 9 (vu (addS x.v9 n)))
  have HST : Hid (Sat w0 (elB b { x with v9 := addS x.v9 n } * (pc bn 24 [vu n] * F)) _) := HST
  clear hS hu hn
  generalize addS x.v9 n = r at *
  obtain ⟨v0, v1, v2, v3, v4, v5, v6, v7, v8, v9, v10⟩ := x
  go_enter Tryz.func199, Tryz.ntmps199
  go_wp2
  refine wp_quiet_tail 9 (by kernel_rfl) (by kernel_rfl) ?_
  simp only [List.take_succ_cons, List.take_zero, List.drop_succ_cons, List.drop_zero]
  repeat (go_big_quiet_step (fail))
  go_big_quiet_want
  go_big_quiet_op
  apply Exists.intro
  refine ⟨(HN.out _).mono fun _ _ h => ⟨h.1, h.2.symm⟩, ?_⟩
  go_big_quiet_on
  repeat (go_big_quiet_step (fail))
  refine wpQuiet_nil ?_
  go_wp2
  go_end0
  first | exact ⟨⟨_, rfl⟩, HST.out⟩ | exact ⟨⟨_, rfl⟩, HST.out.drew⟩ | exact ⟨⟨_, rfl⟩, HST.out.drew.drew⟩
abbrev carC (bg bc : Nat) (gs cpu : Int) : Hp := pc bg 3 [vi gs] * pc bc 24 [vu cpu]
set_option maxRecDepth 100000 in
set_option maxHeartbeats 2000000 in
theorem change_use (bn : Nat) (n : Int) (hS : Sat w0 (domB h p * (tblP p ps free * (pc bn 24 [vu n] * F))) w) (i g : Int) (X2 : El)
    (hK : getE ps i g = 0 → ∀ (b : Nat) (w1 : World) (F' : Hp), Sat w0 (elB b (getX ps i g) * (pc bn 24 [vu n] * F')) w1 → Calls Tryz.prog 199 #[vp b, vp bn] w1 fun e w' => (∃ v, e = .returned v) ∧ Sat w0 (elB b X2 * (pc bn 24 [vu n] * F')) w') :
    Calls Tryz.prog 198 #[vp h, vr i g, .func (.func 199) #[] #[vp bn]] w fun e w' => e = .returned (vi (getE ps i g)) ∧ Sat w0 (domB h p * (tblP p (setP ps i g X2) free * (pc bn 24 [vu n] * F))) w' := by
  have hB0 : Sat w0 (pc w.heap.size 30 [vi i, vu g] * (domB h p * (tblP p ps free * (pc bn 24 [vu n] * F)))) (w.alloc (.cells #[vi i, vu g] 30)) := hS.alloc (.cells #[vi i, vu g] 30)
  have hB : Sat w0 (domB h p * (tblP p ps free * (pc w.heap.size 30 [vi i, vu g] * (pc bn 24 [vu n] * F)))) (w.alloc (.cells #[vi i, vu g] 30)) := hB0.cast (by ac_rfl)
  have HG := Lib.hid (dm_get hB i g)
  have HSet : Hid (∀ (w1 : World) (G : Hp) (x : El), Sat w0 (tblP p ps free * G) w1 → Calls Tryz.prog 232 #[vp p, vr i g, ev x] w1 fun e w' => e = .returned (vi (getE ps i g)) ∧ Sat w0 (tblP p (setP ps i g x) free * G) w') := Lib.hid fun w1 G x h1 => set_ h1 i g x
  have HE := getE_cases ps i g
  have HK := Lib.hid hK
  clear hS hB hB0 hK
  generalize getX ps i g = x at *
  obtain ⟨v0, v1, v2, v3, v4, v5, v6, v7, v8, v9, v10⟩ := x
  rcases HE with he | he
  · rw [he] at HG HSet HK ⊢
    have HK2 := Lib.hid (HK.out rfl)
    clear HK
    clear he
    obtain ⟨y0, y1, y2, y3, y4, y5, y6, y7, y8, y9, y10⟩ := X2
    go_enter Tryz.func198, Tryz.ntmps198
    go_wp2_with (first
      | (go_at_call 104; refine HG.out.mono ?_; rintro e w1 ⟨rfl, hS1⟩; have hA := hS1.alloc (elO ez); have HTh := Lib.hid (there_ (n := 11) hA rfl); have HA := Lib.hid hA; clear hA hS1)
      | (refine wpList_store_mid rfl 188 _ _ rfl w1.heap.size 0 (elC ⟨v0, v1, v2, v3, v4, v5, v6, v7, v8, v9, v10⟩).toArray (by rfl) (by rfl) HTh.out einfo (all_oneCell_toArray (elOne _)) ?_; have hs := HA.out.stores (elC ⟨v0, v1, v2, v3, v4, v5, v6, v7, v8, v9, v10⟩) 0; rw [setL_full (elC ez) (elC ⟨v0, v1, v2, v3, v4, v5, v6, v7, v8, v9, v10⟩) rfl] at hs; have HS := Lib.hid hs; have HS : Hid (Sat w0 _ ((w1.alloc (elO ez)).setCells w1.heap.size 0 (elC ⟨v0, v1, v2, v3, v4, v5, v6, v7, v8, v9, v10⟩).toArray.toList)) := HS; clear hs; generalize World.setCells _ _ _ _ = w2 at *)
      | (go_at_call 199; refine (HK2.out _ _ (domB h p * (tblP p ps free * (pc w.heap.size 30 [vi i, vu g] * F))) (HS.out.cast (by (try unfold elB); (try unfold carC); ac_rfl))).mono ?_; rintro e w3 ⟨⟨v3, rfl⟩, hS3⟩; have hW : Sat w0 (elB w1.heap.size ⟨y0, y1, y2, y3, y4, y5, y6, y7, y8, y9, y10⟩ * (domB h p * (tblP p ps free * (pc w.heap.size 30 [vi i, vu g] * (pc bn 24 [vu n] * F))))) w3 := hS3.cast (by (try unfold elB); (try unfold carC); ac_rfl); have c4 := hW.pull2.cell 0 rfl; have b4 := hW.pull4.cell 0 rfl; have b5 := hW.pull4.cell 1 rfl; have HW := Lib.hid hW; clear hW hS3))
    refine wp_quiet_tail 6 (by kernel_rfl) (by kernel_rfl) ?_
    simp only [List.take_succ_cons, List.take_zero, List.drop_succ_cons, List.drop_zero]
    iterate 5 (go_big_quiet_step (fail))
    refine wpQuiet_load_row (by rfl) 188 _ rfl w1.heap.size 0 (by rfl) (elC ⟨y0, y1, y2, y3, y4, y5, y6, y7, y8, y9, y10⟩) _ (fun w' hw' => by subst hw'; exact range_ HW.out.drew) Tryz.underlying188 rfl einfo ?_
    refine wpQuiet_nil ?_
    go_wp2_with (go_at_call 232; refine (HSet.out _ _ ⟨y0, y1, y2, y3, y4, y5, y6, y7, y8, y9, y10⟩ (HW.out.drew.pull3)).mono ?_; rintro e w5 ⟨rfl, hS5⟩; have H5 := Lib.hid hS5; clear hS5)
    go_ret
    exact ⟨rfl, (H5.out.cast (show _ = pc w1.heap.size 188 (elC ⟨y0, y1, y2, y3, y4, y5, y6, y7, y8, y9, y10⟩) * (pc w.heap.size 30 [vi i, vu g] * (domB h p * (tblP p (setP ps i g ⟨y0, y1, y2, y3, y4, y5, y6, y7, y8, y9, y10⟩) free * (pc bn 24 [vu n] * F)))) by (try unfold elB); (try unfold carC); ac_rfl)).dropL.dropL⟩
  · have hn := Lib.hid (setP_none he X2)
    rw [he] at HG ⊢
    clear he HSet HK
    go_enter Tryz.func198, Tryz.ntmps198
    go_wp2_with (first
      | (go_at_call 104; refine HG.out.mono ?_; rintro e w1 ⟨rfl, hS1⟩; have hA := hS1.alloc (elO ez); have HTh := Lib.hid (there_ (n := 11) hA rfl); have HA := Lib.hid hA; clear hA hS1)
      | (refine wpList_store_mid rfl 188 _ _ rfl w1.heap.size 0 (elC ⟨v0, v1, v2, v3, v4, v5, v6, v7, v8, v9, v10⟩).toArray (by rfl) (by rfl) HTh.out einfo (all_oneCell_toArray (elOne _)) ?_; have hs := HA.out.stores (elC ⟨v0, v1, v2, v3, v4, v5, v6, v7, v8, v9, v10⟩) 0; rw [setL_full (elC ez) (elC ⟨v0, v1, v2, v3, v4, v5, v6, v7, v8, v9, v10⟩) rfl] at hs; have HS := Lib.hid hs; have HS : Hid (Sat w0 _ ((w1.alloc (elO ez)).setCells w1.heap.size 0 (elC ⟨v0, v1, v2, v3, v4, v5, v6, v7, v8, v9, v10⟩).toArray.toList)) := HS; clear hs; generalize World.setCells _ _ _ _ = w2 at *))
    go_ret
    rw [hn.out]
    exact ⟨rfl, (HS.out.cast (show _ = pc w1.heap.size 188 (elC ⟨v0, v1, v2, v3, v4, v5, v6, v7, v8, v9, v10⟩) * (pc w.heap.size 30 [vi i, vu g] * (domB h p * (tblP p ps free * (pc bn 24 [vu n] * F)))) by (try unfold elB); (try unfold carC); ac_rfl)).dropL.dropL⟩
set_option maxRecDepth 100000 in
set_option maxHeartbeats 2000000 in
theorem dm_use (hS : Sat w0 (domB h p * (tblP p ps free * F)) w) (i g n : Int) (hu : getE ps i g = 0 → U64 (getX ps i g).v9) (hn : U64 n) :
    Calls Tryz.prog 146 #[vp h, vr i g, vu n] w fun e w' => e = .returned (vi (getE ps i g)) ∧ Sat w0 (domB h p * (tblP p (setP ps i g { getX ps i g with v9 := addS (getX ps i g).v9 n }) free * F)) w' := by
  have hB0 := (hS.alloc (.cells #[vi i, vu g] 30)).alloc (.cells #[vu n] 24)
  rw [size1] at hB0
  have hB1 : Sat w0 (pc (w.heap.size + 1) 24 [vu n] * (pc w.heap.size 30 [vi i, vu g] * (domB h p * (tblP p ps free * F)))) ((w.alloc (.cells #[vi i, vu g] 30)).alloc (.cells #[vu n] 24)) := hB0
  have b0 := hB1.pull2.cell 0 rfl
  have b1 := hB1.pull2.cell 1 rfl
  have hB : Sat w0 (domB h p * (tblP p ps free * (pc (w.heap.size + 1) 24 [vu n] * (pc w.heap.size 30 [vi i, vu g] * F)))) _ := hB1.cast (by ac_rfl)
  have HC := Lib.hid (change_use (w.heap.size + 1) n hB i g { getX ps i g with v9 := addS (getX ps i g).v9 n } (fun he b w1 F' h1 => use1_ h1 (hu he) hn))
  clear hS hB0 hB1 hB hu hn
  generalize getE ps i g = er at *
  generalize setP ps i g _ = ps' at *
  go_enter Tryz.func146, Tryz.ntmps146
  go_wp2_with (go_at_call 198; refine HC.out.mono ?_; rintro e w1 ⟨rfl, hS1⟩; have H1 := Lib.hid hS1; clear hS1)
  go_ret
  exact ⟨rfl, (H1.out.cast (show _ = pc (w.heap.size + 1) 24 [vu n] * (pc w.heap.size 30 [vi i, vu g] * (domB h p * (tblP p ps' free * F))) by ac_rfl)).dropL.dropL⟩
end
end Go.Proofs.YtdbppfcilaajaaaGreat.Dm

namespace Go.Proofs.YtdbppfcilaajaaaGreat.Dm
open Go.RowKit Ad
set_option linter.unusedVariables false
set_option linter.unusedSimpArgs false

/-- A new domain. -/
abbrev domX (i g gs cpu per : Int) : El := ⟨i, g, gs, cpu, per, 0, 0, 0, 0, 0, 0⟩
def rootL (n : Nat) (gs cpu per : Int) : List Pl := (List.replicate n ⟨1, false, false, ez⟩).set 0 ⟨1, true, false, domX 0 0 gs cpu per⟩
theorem newF_last (n : Nat) (h : 1 ≤ n) : newF n n = newF n (n - 1) ++ [0] := by
  obtain ⟨m, rfl⟩ : ∃ m, n = m + 1 := ⟨n - 1, by omega⟩
  rw [Nat.add_sub_cancel, newF_succ]
  simp
/-- What is said of a domain's books. -/
def DomOk (x : El) : Prop := 0 ≤ x.v2 ∧ x.v2 ≤ 64 ∧ 0 ≤ x.v5 ∧ x.v5 ≤ 64 ∧ 0 ≤ x.v7 ∧ x.v7 ≤ 64 ∧ 0 ≤ x.v6 ∧ x.v6 ≤ x.v3 ∧ x.v3 ≤ 4294967296 ∧ 0 ≤ x.v10 ∧ x.v10 ≤ 1000
/-- Is there room for so much more? -/
def FitsD (x : El) (gs cpu : Int) : Prop := gs ≤ x.v2 - x.v5 - x.v7 ∧ cpu ≤ x.v3 - x.v6
instance (x : El) (gs cpu : Int) : Decidable (FitsD x gs cpu) := inferInstanceAs (Decidable (_ ∧ _))
section
variable {w0 w : World} {F : Hp} {h p : Nat} {ps : List Pl} {free : List Nat}
set_option maxRecDepth 100000 in
set_option maxHeartbeats 4000000 in
theorem dm_new (n : Nat) (hn : 1 ≤ n) (hn' : n ≤ 32) (gs cpu per : Int) (hm : MayD gs cpu per) (hS : Sat w0 F w) :
    Calls Tryz.prog 39 #[vi n, vi gs, vu cpu, vu per] w fun e w' => ∃ h p, e = .returned (.tuple #[vp h, vi 0]) ∧ Sat w0 (domB h p * (tblP p (rootL n gs cpu per) (newF n (n - 1)) * F)) w' := by
  have HM := Lib.hid (fun w => dm_may gs cpu per w)
  rw [decide_eq_true hm] at HM
  have HN := Lib.hid (new_ n 1 hn (by omega) (by omega) (by omega) hS)
  rw [newF_last n hn] at HN
  have HP : Hid (∀ (p : Nat) (w1 : World), Sat w0 (tblP p (List.replicate n ⟨1, false, false, ez⟩) (newF n (n - 1) ++ [0]) * F) w1 → Calls Tryz.prog 95 #[vp p, ev (domX 0 0 gs cpu per)] w1 fun e w' => e = .returned (.tuple #[vr 0 1, vi 0]) ∧ Sat w0 (tblP p (rootL n gs cpu per) (newF n (n - 1)) * F) w') := Lib.hid fun p w1 h1 => put_yes h1 (k := 0) (a := ⟨1, false, false, ez⟩) (by rw [List.getElem?_replicate, if_pos (by omega)]) _
  have h1 : ¬ ((n : Int) < 1) := by omega
  have h2 : ¬ (32 < (n : Int)) := by omega
  clear hS hm
  generalize rootL n gs cpu per = L at *
  go_enter Tryz.func39, Tryz.ntmps39
  go_wp2_with (first
    | (go_at_call 93; refine (HM.out _).mono ?_; rintro e w' ⟨rfl, rfl⟩)
    | (go_at_call 94; refine HN.out.mono ?_; rintro e w1 ⟨p, rfl, hS1⟩; have H1 := Lib.hid hS1; clear hS1)
    | (go_at_call 95; refine (HP.out _ _ H1.out).mono ?_; rintro e w2 ⟨rfl, hS2⟩; have hB := hS2.alloc (.cells #[vi 0, vu 1] 30); have hB2 := hB.dropL.alloc (.cells #[vp p, vi 0, vu 1] 191); rw [size1] at hB2; have c0 := hB.cell 0 rfl; have c1 := hB.cell 1 rfl; have H2 := Lib.hid hB2; clear hS2 hB hB2))
  go_ret2
  exact ⟨_, p, rfl, H2.out⟩
end
end Go.Proofs.YtdbppfcilaajaaaGreat.Dm

namespace Go.Proofs.YtdbppfcilaajaaaGreat
open Go.RowKit
set_option linter.unusedVariables false

/-- All blocks are cells. -/
def CO (H : Hp) : Prop := ∀ L, H.holds L → ∀ x ∈ L, x.2.isCells = true
theorem CO.pc (b : Nat) (T : TypeId) (cs : List Value) : CO (pc b T cs) := by
  intro L h x hx
  have h : L = [(b, .cells cs.toArray T (0, 0))] := h
  subst h
  simp at hx
  subst hx
  rfl
theorem CO.emp : CO emp := by
  intro L h x hx
  have h : L = [] := h
  subst h
  cases hx
theorem CO.ex {α : Sort _} {f : α → Hp} (h : ∀ a, CO (f a)) : CO (ex f) := fun L ⟨a, ha⟩ => h a L ha
theorem CO.given {p : Prop} {A : Hp} (h : CO A) : CO (given p A) := fun L ⟨_, ha⟩ => h L ha
theorem CO.sl (e : TypeId) (size : Nat) (v : Value) (n : Nat) (xs : List Value) : CO (sl e size v n xs) := by
  rintro L ⟨hl, ⟨_, _, rfl⟩ | ⟨g, cap, cur, _, rfl, _⟩⟩ x hx
  · cases hx
  · simp at hx
    subst hx
    rfl

section
variable {w0 w : World} {F H : Hp}
theorem Sat.grown (h : Sat w0 H w) (hc : CO H) {B : Nat} (hB : w0.heap.size ≤ B) {W : World} {row : Option Nat} (hg : w.grownBy W row) (hr : ∀ r, row = some r → B ≤ r ∧ ∃ o : Obj, w.heap[r]? = some o ∧ o.isCells = false) : Sat w0 H W := by
  obtain ⟨hbel, L, hL, hn, hx⟩ := h
  refine ⟨hbel.grown hg hbel.size (fun k e => Nat.le_trans hB (hr k e).1), L, hL, hn, fun x hm => ?_⟩
  have h1 := hx x hm
  refine ⟨h1.1, (hg.block _ (lt_of_block h1.2) ?_).trans h1.2⟩
  intro e
  obtain ⟨_, o, ho, hoc⟩ := hr _ e.symm
  rw [h1.2] at ho
  cases ho
  rw [hc L hL x hm] at hoc
  cases hoc
theorem Sat.own {β : Type} {f : β → Hp} (hc : ∀ s, CO (f s)) {B : Nat} (hB : w0.heap.size ≤ B) : OwnFrom B (fun (s : β) W => Sat w0 (f s) W) :=
  fun s W W' row hs hg hr => hs.grown (hc s) hB hg hr

/-- As Sat; and each block lies below B, or is cells: so it abides what a loop over an iterator does behind B. -/
def SatC (w0 : World) (B : Nat) (H : Hp) (w : World) : Prop :=
  Below w0.heap.size w0 w ∧ ∃ L, H.holds L ∧ (L.map (·.1)).Nodup ∧ ∀ x ∈ L, (w0.heap.size ≤ x.1 ∧ w.heap[x.1]? = some x.2) ∧ (x.1 < B ∨ x.2.isCells = true)
theorem SatC.sat {B : Nat} (h : SatC w0 B H w) : Sat w0 H w := by
  obtain ⟨hb, L, hL, hn, hx⟩ := h
  exact ⟨hb, L, hL, hn, fun x hm => (hx x hm).1⟩
theorem SatC.cast {B : Nat} (h : SatC w0 B H w) {H' : Hp} (e : H = H') : SatC w0 B H' w := e ▸ h
theorem SatC.own {β : Type} {f : β → Hp} {B : Nat} (hB : w0.heap.size ≤ B) : OwnFrom B (fun (s : β) W => SatC w0 B (f s) W) := by
  intro s W W' row hs hg hr
  obtain ⟨hbel, L, hL, hn, hx⟩ := hs
  refine ⟨hbel.grown hg hbel.size (fun k e => Nat.le_trans hB (hr k e).1), L, hL, hn, fun x hm => ?_⟩
  have h1 := hx x hm
  refine ⟨⟨h1.1.1, (hg.block _ (lt_of_block h1.1.2) ?_).trans h1.1.2⟩, h1.2⟩
  intro e
  obtain ⟨h2, o, ho, hoc⟩ := hr _ e.symm
  rcases h1.2 with h3 | h3
  · omega
  · rw [h1.1.2] at ho
    cases ho
    rw [h3] at hoc
    cases hoc
theorem SatC.store {B b : Nat} {T : TypeId} {cs : List Value} (h : SatC w0 B (pc b T cs * F) w) (i : Nat) (v : Value) : SatC w0 B (pc b T (cs.set i v) * F) (w.setCell ⟨b, i, none⟩ v) := by
  have hs := h.sat.store i v
  obtain ⟨hbel, L, ⟨L1, L2, p, a, c⟩, hn, hx⟩ := h
  have a : L1 = [(b, .cells cs.toArray T (0, 0))] := a
  subst a
  have hn' := (p.map (·.1)).nodup_iff.1 hn
  have hb1 := (hx (b, .cells cs.toArray T (0, 0)) (p.mem_iff.2 (by simp))).1
  refine ⟨hs.1, (b, .cells (cs.set i v).toArray T (0, 0)) :: L2, ⟨[(b, .cells (cs.set i v).toArray T (0, 0))], L2, List.Perm.refl _, rfl, c⟩, by simpa using hn', ?_⟩
  intro x hm
  rcases List.mem_cons.1 hm with rfl | hm
  · refine ⟨⟨hb1.1, ?_⟩, .inr rfl⟩
    rw [setCell_block _ _ _ _ _ _ _ hb1.2]
    simp
  · have h1 := hx x (p.mem_iff.2 (List.mem_append_right _ hm))
    refine ⟨⟨h1.1.1, (Below.heap_setCell _ _ _ _ ?_).trans h1.1.2⟩, h1.2⟩
    intro e
    have e : x.1 = b := e
    have : (b :: L2.map (·.1)).Nodup := by simpa using hn'
    exact (List.nodup_cons.1 this).1 (e ▸ List.mem_map_of_mem hm)
end
end Go.Proofs.YtdbppfcilaajaaaGreat

namespace Go.Proofs.YtdbppfcilaajaaaGreat
open Go.RowKit
set_option linter.unusedVariables false

section
variable {w0 w : World} {F : Hp} {G : Fence} {n : Nat} {P : Program}
theorem Sat.putObj {b : Nat} {o o' : Obj} (h : Sat w0 (pt b o * F) w) : Sat w0 (pt b o' * F) (w.putObj b o') :=
  h.upd rfl rfl rfl (by simp [World.putObj]) (World.putObj_heap_same h.lt) (fun k hk hne => World.putObj_heap_other hne)

/-- A loop's record. -/
abbrev lrec (fn : FuncId) (tmps : Array Value) (ps : Array Tmp) (assign body : Code) (D : Nat) (st : LoopState) : Obj :=
  .loop { state := st, pending := none, fn := fn, tmps := tmps, params := ps, assign := assign, body := body, defers := D }
abbrev dmark : Obj := .deferred (some [])

theorem wpIn_range_sat {gf : Nat} {lb : Array Value} {g : Operand} {ps : Array Tmp} {assign body : Code} {Q : Exit → Act → World → Prop} {a : Act} {H H' : Hp}
    (hro : G.round = none) (h1 : 1 ≤ n) (hg : a.eval g = .func (.func gf) #[] lb) (hFg : G.fn gf) (eg : ∀ args w, (callFunc gf args).run P w = .ok (.enter gf args) w)
    (h : Sat w0 H w)
    (hcall : ∀ (fn : FuncId) (l D : Nat) (R : Obj) (W : World), G.fn fn → R = lrec fn a.tmps ps assign body D .ready → Sat w0 (pt l R * (pt D dmark * H)) W →
      CallsIn G (n - 1) P gf (#[.func (.yield l) #[] #[]] ++ lb) W fun e W' => (∃ v, e = .returned v) ∧ Sat w0 (pt l R * (pt D dmark * H')) W')
    (hdone : ∀ (D : Nat) (W : World), Sat w0 (pt D dmark * H') W → Q .normal { a with defers := { target := .collected D, args := #[] } :: a.defers } W) :
    (Code.rangeFunc g ps assign body).wpIn G n P Q a w := by
  refine wpIn_rangeFunc ?_
  intro fn hfn
  rw [hro]
  have hS : Sat w0 (pt (w.heap.size + 1) (lrec fn a.tmps ps assign body w.heap.size .ready) * (pt w.heap.size dmark * H)) ((w.alloc dmark).alloc (lrec fn a.tmps ps assign body w.heap.size .ready)) := by
    have h2 := (h.alloc dmark).alloc (lrec fn a.tmps ps assign body w.heap.size .ready)
    rwa [World.size_alloc] at h2
  have he := run_enterLoop_outer (P := P) (w := w) fn a.tmps ps assign body
  obtain ⟨W1, hW1⟩ : ∃ W1, (w.alloc dmark).alloc (lrec fn a.tmps ps assign body w.heap.size .ready) = W1 := ⟨_, rfl⟩
  rw [hW1] at hS
  have he : (Instr.enterLoop fn a.tmps ps assign body none).run P w = .ok (w.heap.size + 1, [{ target := .collected w.heap.size, args := #[] }]) W1 := by rw [← hW1]; exact he
  clear hW1
  generalize w.heap.size = D at *
  refine ⟨D + 1, [{ target := .collected D, args := #[] }], W1, { target := .fn (.func gf) lb, args := #[.func (.yield (D + 1)) #[] #[]] }, W1, gf,
    #[.func (.yield (D + 1)) #[] #[]] ++ lb, W1, he, ?_, ?_, ?_, fun _ => h1, ?_⟩
  · simp only [resolve, hg]
    simp [go_sem]
  · intro f' hf'
    simp [Target.leads] at hf'
    subst hf'
    exact hFg
  · simp [invoke, go_sem, eg]
  · refine (hcall fn (D + 1) D _ W1 hfn rfl hS).mono ?_
    rintro e W2 ⟨⟨v, rfl⟩, h2⟩
    have hend := run_endLoop (P := P) h2.blk.1 (by simp)
    exact ⟨none, _, hend, hdone D _ h2.putObj.dropL⟩

/-- What a round of it ends with. -/
def normPost (R : World → Prop) : Exit → Act → World → Prop
  | .normal, _, W => R W
  | _, _, _ => False

theorem yield_sat {l D : Nat} {fn : FuncId} {tmps : Array Value} {ps : Array Tmp} {assign body : Code} {X X' : Hp} {args : Array Value} {R : Obj} {A : Act → World → Prop}
    (hfn : G.fn fn) (hps : args.size = ps.size) (hR : R = lrec fn tmps ps assign body D .ready) (h : Sat w0 (pt l R * X) w)
    (hA : ∀ a' W', A a' W' → W'.heap[l]? = some R)
    (hassign : ∀ K : Act → World → Prop, (∀ a' W', A a' W' → K a' W') → assign.wpIn (G.inRound l) n P (Exit.then K (fun _ _ _ => False)) { tmps := (ps.zip args).foldl (fun t (p, v) => t.setIfInBounds p v) tmps, defers := [] } w)
    (hbody : ∀ (B : Obj) (a' : Act) (W' : World), A a' W' → body.wpIn (G.inRound l) n P (normPost fun W2 => Sat w0 (pt l B * X') W2) a' (W'.putObj l B)) :
    YieldAt G n P l args w fun e W' => e = .returned (.bool true) ∧ Sat w0 (pt l R * X') W' := by
  subst hR
  refine ⟨fn, _, assign, body, run_yield h.blk.1 hps, roundIn_of_wpIn hfn (hassign _ fun a' W' ha => ?_)⟩
  refine ⟨_, run_beginRound (hA _ _ ha) rfl, wpIn_mono (hbody (lrec fn tmps ps assign body D .busy) _ _ ha) ?_⟩
  intro e a2 W2 hp
  cases e with
  | normal =>
    have hp : Sat w0 (pt l (lrec fn tmps ps assign body D .busy) * X') W2 := hp
    exact ⟨_, _, run_endRound none hp.blk.1, rfl, hp.putObj⟩
  | ret => exact hp.elim
  | exit id => exact hp.elim
  | goto t => exact hp.elim
  | panic ch => exact hp.elim
  | outgrown => exact hp.elim
theorem wpListIn_append_sl {ops : Array Oper} {rest : List Oper} {o : Oper} {a : Act} {Q : Exit → Act → World → Prop} {t e : TypeId} {size bytes : Nat} {z v y : Value} {k m : Nat} {xs news : List Value} (E : SlT P t e size bytes z) (hgd : o.guard = none) (s x : Operand)
    (ho : o.op = .call { callee := .builtin .append, args := #[s, x], argTypes := #[t, t] })
    (hs : a.eval s = v) (hS : Sat w0 (sl e size v k xs * F) w) (hx : a.eval x = y) (hR : Rd w size y m news) (h1 : ∀ u ∈ news, u.oneCell' = true)
    (h63 : k + m ≤ maxLen) (hby : (k + m) * bytes ≤ 140737488355328)
    (h : ∀ ao cap w', Sat w0 (sl e size (.slice ao (k + m) cap) (k + m) (xs ++ news) * F) w' → wpListIn G n P ops Q rest (a.put o.dst (.slice ao (k + m) cap)) w') : wpListIn G n P ops Q (o :: rest) a w := by
  refine wpListIn_plain hgd fun K hK => ?_
  obtain ⟨ao', cap', w', hr, h2⟩ := run_append_sl (P := P) E o.type hS hR h1 h63 hby
  unfold Oper.wpIn
  refine ⟨?_, ?_⟩
  · simp [Oper.about, ho, resolve, Target.leads, Sem.run_pure]
  · rw [Oper.semAt_plain G _ _ (by rw [ho]; intro c hc'; cases hc')]
    unfold execOp
    simp only [ho, resolve, invoke, builtin, Sem.run_bind, Sem.run_pure, Result.andThen_ok, List.map_toArray, List.map_cons, List.map_nil, hs, hx, hr]
    exact hK _ _ (h ao' cap' w' h2)
end
end Go.Proofs.YtdbppfcilaajaaaGreat

namespace Go.Proofs.YtdbppfcilaajaaaGreat.Dm
open Go.RowKit Go.Shelf Ad
attribute [local go_sem] Oper.semAt_some
set_option linter.unusedVariables false

abbrev upS (d p bd br : Nat) (i g : Int) (ps : List Pl) (free : List Nat) (H : Hp) : Hp := pc br 30 [vi i, vu g] * (pc bd 81 [vp d] * (domB d p * (tblP p ps free * H)))
section
variable {w0 w : World} {free : List Nat}
set_option maxRecDepth 100000 in
set_option maxHeartbeats 2000000 in
theorem up1_ (n : Nat) (hn : 1 ≤ n) (m : Nat) (ri rg : Nat → Int) (pss : Nat → List Pl) (H : Nat → Hp) (d p bd br l : Nat)
    (hY : ∀ k W (F : Hp), k < m → Sat w0 (upS d p bd br (ri k) (rg k) (pss k) free (H k * F)) W → YieldAt Fence.wide (n - 1) Tryz.prog l #[vr (ri k) (rg k), ev (getX (pss k) (ri k) (rg k))] W fun e W' => e = .returned (.bool true) ∧ Sat w0 (upS d p bd br (ri k) (rg k) (pss (k + 1)) free (H (k + 1) * F)) W')
    (hU : ∀ k, k < m → getE (pss k) (ri k) (rg k) = 0 ∧ (getX (pss k) (ri k) (rg k)).v0 = ri (k + 1) ∧ (getX (pss k) (ri k) (rg k)).v1 = rg (k + 1))
    (hE : getE (pss m) (ri m) (rg m) = 11)
    (h0 : Sat w0 (upS d p bd br (ri 0) (rg 0) (pss 0) free (H 0)) w) :
    CallsIn Fence.wide n Tryz.prog 231 #[.func (.yield l) #[] #[], vp bd, vp br] w fun e W' => (∃ v, e = .returned v) ∧ Sat w0 (upS d p bd br (ri m) (rg m) (pss m) free (H m)) W' := by
  have HY := Lib.hid hY
  have HU := Lib.hid hU
  have HE := Lib.hid hE
  have HS0 := Lib.hid h0
  clear hY hU hE h0
  refine callsIn_of_wp Tryz.func231 rfl trivial ?_ rfl
  simp only [Tryz.ntmps231, List.size_toArray, List.length_cons, List.length_nil, Nat.reduceAdd, Nat.reduceSub, Array.replicate_succ, Array.replicate_zero, List.push_toArray, List.append_toArray, List.nil_append, List.cons_append]
  gi_wp2
  gi_loopg [6] m (fun gk _ wr => ∃ k, k + gk = m ∧ Sat w0 (upS d p bd br (ri k) (rg k) (pss k) free (H k)) wr)
  case atStart => exact ⟨0, by omega, HS0.out⟩
  case round =>
    obtain ⟨k, hk, hS⟩ := hrel
    have b0 := hS.cell 0 rfl
    have b1 := hS.cell 1 rfl
    have d0 := hS.pull2.cell 0 rfl
    have HG := Lib.hid (dm_get (hS.pull3.cast (show _ = domB d p * (tblP p (pss k) free * (pc br 30 [vi (ri k), vu (rg k)] * (pc bd 81 [vp d] * H k))) by ac_rfl)) (ri k) (rg k))
    have HSk := Lib.hid hS
    clear hS
    by_cases hlt : k < m
    · obtain ⟨he, hv0, hv1⟩ := HU.out k hlt
      rw [he] at HG
      have HYk := Lib.hid (fun W F h => HY.out k W F hlt h)
      have HV0 := Lib.hid hv0
      have HV1 := Lib.hid hv1
      clear he hv0 hv1
      generalize getX (pss k) (ri k) (rg k) = x at *
      obtain ⟨v0, v1, v2, v3, v4, v5, v6, v7, v8, v9, v10⟩ := x
      gi_wp2_with fail
      refine ⟨trivial, ?_⟩
      refine (callsIn_wide.2 HG.out).mono ?_
      rintro e w1 ⟨rfl, hS1⟩
      have hT : Sat w0 (pc w1.heap.size 188 (elC ⟨v0, v1, v2, v3, v4, v5, v6, v7, v8, v9, v10⟩) * (domB d p * (tblP p (pss k) free * (pc br 30 [vi (ri k), vu (rg k)] * (pc bd 81 [vp d] * H k))))) (w1.alloc (elO ⟨v0, v1, v2, v3, v4, v5, v6, v7, v8, v9, v10⟩)) := hS1.alloc (elO ⟨v0, v1, v2, v3, v4, v5, v6, v7, v8, v9, v10⟩)
      have hT2 : Sat w0 (upS d p bd br (ri k) (rg k) (pss k) free (H k * elB w1.heap.size ⟨v0, v1, v2, v3, v4, v5, v6, v7, v8, v9, v10⟩)) (w1.alloc (elO ⟨v0, v1, v2, v3, v4, v5, v6, v7, v8, v9, v10⟩)) := hT.cast (by unfold elB upS; ac_rfl)
      clear b0 b1 d0
      have b0 := hT2.cell 0 rfl
      have b1 := hT2.cell 1 rfl
      have q0 := hT.cell 0 rfl
      have q1 := hT.cell 1 rfl
      have q2 := hT.cell 2 rfl
      have q3 := hT.cell 3 rfl
      have q4 := hT.cell 4 rfl
      have q5 := hT.cell 5 rfl
      have q6 := hT.cell 6 rfl
      have q7 := hT.cell 7 rfl
      have q8 := hT.cell 8 rfl
      have q9 := hT.cell 9 rfl
      have q10 := hT.cell 10 rfl
      obtain ⟨fn, tmps, assign, body, hy, hR⟩ := HYk.out _ _ hT2
      have H1 := Lib.hid hT2
      clear hS1 hT hT2
      gi_wp2
      clear b0 b1 q0 q1 q2 q3 q4 q5 q6 q7 q8 q9 q10
      refine hR.mono ?_
      rintro e W3 ⟨rfl, hS3⟩
      have hx : Sat w0 (pc w1.heap.size 188 (elC ⟨v0, v1, v2, v3, v4, v5, v6, v7, v8, v9, v10⟩) * (upS d p bd br (ri k) (rg k) (pss (k + 1)) free (H (k + 1)))) W3 := hS3.cast (by unfold elB upS; ac_rfl)
      have q0 := hx.cell 0 rfl
      have q1 := hx.cell 1 rfl
      have f0 := hS3.free 0
      have f1 := hS3.free 1
      have b0 := hS3.cell 0 rfl
      have b1 := hS3.cell 1 rfl
      have hst := (hx.dropL.store 0 (vi v0)).store 1 (vu v1)
      have HST := Lib.hid hst
      clear hy hR hS3 hx hst
      gi_wp2
      gi_roundg (gk - 1)
      case measure => omega
      case rel =>
        refine ⟨k + 1, by omega, ?_⟩
        rw [← HV0.out, ← HV1.out]
        exact HST.out
    · obtain rfl : k = m := by omega
      rw [HE.out] at HG
      generalize getX (pss k) (ri k) (rg k) = x at *
      obtain ⟨v0, v1, v2, v3, v4, v5, v6, v7, v8, v9, v10⟩ := x
      gi_wp2_with fail
      refine ⟨trivial, ?_⟩
      refine (callsIn_wide.2 HG.out).mono ?_
      rintro e w1 ⟨rfl, hS1⟩
      have hT2 : Sat w0 (upS d p bd br (ri k) (rg k) (pss k) free (H k)) (w1.alloc (elO ⟨v0, v1, v2, v3, v4, v5, v6, v7, v8, v9, v10⟩)) := (hS1.alloc' _).cast (by unfold upS; ac_rfl)
      have H1 := Lib.hid hT2
      clear hS1 hT2
      gi_wp2
      all_goals
        refine ⟨fun _ h => (by cases h), ?_⟩
        gi_wp2
        refine bodyPost_ret (results_none rfl _ _ _) rfl ?_
        exact ⟨⟨_, rfl⟩, H1.out⟩
end
end Go.Proofs.YtdbppfcilaajaaaGreat.Dm
