/-
  Package quota: left, Left, Can, Charge. No statement is proved here.
-/
import Derived.Test.YtfioghpnehfjhaaDn5
namespace Go.Proofs.Ytfioghpnehfjhaa.Dm
open Go.RowKit Ad
set_option linter.unusedVariables false

/-- What is left of a domain itself. -/
def leftP (ps : List Pl) (r : Int × Int) : Int := subS (getX ps r.1 r.2).v3 (getX ps r.1 r.2).v9
/-- The least of some. -/
def minP : List Int → Int
  | [] => 0
  | x :: xs => xs.foldl (fun n m => if m < n then m else n) x
theorem minP_snoc (l : List Int) (m : Int) : minP (l ++ [m]) = if l = [] then m else if m < minP l then m else minP l := by
  cases l with
  | nil => rfl
  | cons x xs =>
    rw [if_neg (by simp)]
    show (xs ++ [m]).foldl _ x = _
    rw [List.foldl_append]
    rfl
/-- How often it can be charged. -/
def LeftP (ps : List Pl) (l : List (Int × Int)) : Int := minP (l.map (leftP ps))
def Used0 (ps : List Pl) : Prop := ∀ (k : Nat) (a : Pl), ps[k]? = some a → U64 a.x.v3 ∧ U64 a.x.v9
theorem Used0.at_ {ps : List Pl} (h : Used0 ps) (i g : Int) : U64 (getX ps i g).v3 ∧ U64 (getX ps i g).v9 := by
  unfold getX
  split
  · exact ⟨⟨by decide, by decide⟩, ⟨by decide, by decide⟩⟩
  · rename_i k a hA
    exact h k a (isAt_some hA).1

section
variable {w0 w : World} {F : Hp} {h p : Nat} {ps : List Pl} {free : List Nat}
set_option maxRecDepth 100000 in
set_option maxHeartbeats 2000000 in
theorem q_left (hS : Sat w0 (domB h p * (tblP p ps free * F)) w) (i g : Int) (hu : Used0 ps) :
    Calls Try.prog 39 #[vp h, vr i g] w fun e w' => e = .returned (.tuple #[vu (leftP ps (i, g)), .bool (decide (getE ps i g = 0))]) ∧ Sat w0 (domB h p * (tblP p ps free * F)) w' := by
  have hB : Sat w0 (pc w.heap.size 32 [vi i, vu g] * (domB h p * (tblP p ps free * F))) (w.alloc (.cells #[vi i, vu g] 32)) := hS.alloc _
  have b0 := hB.cell 0 rfl
  have b1 := hB.cell 1 rfl
  have HG := Lib.hid (dm_get (hB.cast (show _ = domB h p * (tblP p ps free * (pc w.heap.size 32 [vi i, vu g] * F)) by ac_rfl)) i g)
  obtain ⟨hu1, hu2⟩ := hu.at_ i g
  have HSub := Lib.hid (fun w => nsubSat (getX ps i g).v3 (getX ps i g).v9 hu1 hu2 w)
  clear hS hB hu1 hu2
  unfold leftP
  dsimp only
  rw [show subS (getX ps i g).v3 (getX ps i g).v9 = subS (getX ps i g).v3 (getX ps i g).v9 from rfl]
  generalize hs : subS (getX ps i g).v3 (getX ps i g).v9 = sv at *
  clear hs
  generalize getX ps i g = x at *
  obtain ⟨v0, v1, v2, v3, v4, v5, v6, v7, v8, v9, v10⟩ := x
  have hd : Hid (((getE ps i g == 0) : Bool) = decide (getE ps i g = 0)) := Lib.hid rfl
  have HD : decide (getE ps i g = 0) = (getE ps i g == 0) := rfl
  rw [HD]
  clear HD hd
  generalize getE ps i g = er at *
  go_enter Try.func39, Try.ntmps39
  go_wp2_with (first
    | (go_at_call 16; refine HG.out.mono ?_; rintro e w1 ⟨rfl, hS1⟩; have hT : Sat w0 (pc w1.heap.size 45 (elC ⟨v0, v1, v2, v3, v4, v5, v6, v7, v8, v9, v10⟩) * _) (w1.alloc (elO ⟨v0, v1, v2, v3, v4, v5, v6, v7, v8, v9, v10⟩)) := hS1.alloc (elO ⟨v0, v1, v2, v3, v4, v5, v6, v7, v8, v9, v10⟩); have q3 := hT.cell 3 rfl; have q9 := hT.cell 9 rfl; have HT := Lib.hid hT; clear hS1 hT b0 b1)
    | (go_at_call 67; refine (HSub.out _).mono ?_; rintro e w' ⟨rfl, rfl⟩))
  go_ret2
  exact ⟨rfl, (HT.out.dropL.cast (show _ = pc w.heap.size 32 [vi i, vu g] * (domB h p * (tblP p ps free * F)) by ac_rfl)).dropL⟩
set_option maxRecDepth 100000 in
set_option maxHeartbeats 2000000 in
theorem q_left1 {bd : Nat} (hS : Sat w0 (domB h p * (tblP p ps free * (pc bd 25 [vp h] * F))) w) (i g : Int) (hu : Used0 ps) :
    Calls Try.prog 38 #[vr i g, vp bd] w fun e w' => e = .returned (.tuple #[vu (leftP ps (i, g)), .bool (decide (getE ps i g = 0))]) ∧ Sat w0 (domB h p * (tblP p ps free * (pc bd 25 [vp h] * F))) w' := by
  have hB : Sat w0 (pc w.heap.size 32 [vi i, vu g] * (domB h p * (tblP p ps free * (pc bd 25 [vp h] * F)))) (w.alloc (.cells #[vi i, vu g] 32)) := hS.alloc _
  have b0 := hB.cell 0 rfl
  have b1 := hB.cell 1 rfl
  have d0 := hB.pull4.cell 0 rfl
  have HL := Lib.hid (q_left (hB.cast (show _ = domB h p * (tblP p ps free * (pc w.heap.size 32 [vi i, vu g] * (pc bd 25 [vp h] * F))) by ac_rfl)) i g hu)
  clear hS hB
  generalize leftP ps (i, g) = lv at *
  generalize decide (getE ps i g = 0) = er at *
  go_enter Try.func38, Try.ntmps38
  go_wp2_with (go_at_call 39; refine HL.out.mono ?_; rintro e w1 ⟨rfl, hS1⟩; have H1 := Lib.hid hS1; clear hS1)
  go_ret2
  exact ⟨rfl, (H1.out.cast (show _ = pc w.heap.size 32 [vi i, vu g] * (domB h p * (tblP p ps free * (pc bd 25 [vp h] * F))) by ac_rfl)).dropL⟩
end
end Go.Proofs.Ytfioghpnehfjhaa.Dm
