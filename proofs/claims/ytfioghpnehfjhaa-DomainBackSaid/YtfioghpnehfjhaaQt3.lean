/-
  Package quota: Charge. No statement is proved here.
-/
import Derived.Test.YtfioghpnehfjhaaQt2
namespace Go.Proofs.Ytfioghpnehfjhaa.Dm
open Go.RowKit Ad
set_option linter.unusedVariables false

theorem addS_u64 {a b : Int} (ha : U64 a) (hb : U64 b) : U64 (addS a b) := by
  unfold U64 at *
  unfold addS addP
  split
  · simp
  · simp only [Option.getD_some]
    omega
/-- So much more is used of a domain. -/
def useP (ps : List Pl) (r : Int × Int) (n : Int) : List Pl := setP ps r.1 r.2 { getX ps r.1 r.2 with v9 := addS (getX ps r.1 r.2).v9 n }
def chargeP (ps : List Pl) (l : List (Int × Int)) : List Pl := l.foldl (fun ps r => useP ps r 1) ps
theorem Used0.set {ps : List Pl} (h : Used0 ps) (i g : Int) (x : El) (h3 : U64 x.v3) (h9 : U64 x.v9) : Used0 (setP ps i g x) := by
  unfold setP
  split
  · exact h
  · rename_i k a hA
    intro j b hb
    rcases get_set (isAt_some hA).1 _ j b hb with ⟨rfl, rfl⟩ | ⟨_, hb⟩
    · exact ⟨h3, h9⟩
    · exact h j b hb
theorem Used0.use {ps : List Pl} (h : Used0 ps) (r : Int × Int) {n : Int} (hn : U64 n) : Used0 (useP ps r n) :=
  h.set _ _ _ (h.at_ _ _).1 (addS_u64 (h.at_ _ _).2 hn)
theorem chargeP_snoc (ps : List Pl) (l : List (Int × Int)) (r : Int × Int) : chargeP ps (l ++ [r]) = useP (chargeP ps l) r 1 := by simp [chargeP]
theorem Used0.charge {ps : List Pl} (h : Used0 ps) : ∀ l, Used0 (chargeP ps l) := by
  intro l
  induction l generalizing ps with
  | nil => exact h
  | cons r l ih => exact ih (h.use r ⟨by decide, by decide⟩)
section
variable {w0 w : World} {F : Hp} {h p : Nat} {ps : List Pl} {free : List Nat}
set_option maxRecDepth 100000 in
set_option maxHeartbeats 4000000 in
theorem q_charge_no (hS : Sat w0 (domB h p * (tblP p ps free * F)) w) (i g : Int) (l : List (Int × Int)) (hC : Ch ps (i, g) l) (hlen : l.length ≤ 1000) (hu : Used0 ps) (hn : ¬ 0 < LeftP ps l) :
    Calls Try.prog 11 #[vp h, vr i g] w fun e w' => e = .returned (.bool false) ∧ Sat w0 (domB h p * (tblP p ps free * F)) w' := by
  have hB : Sat w0 (pc w.heap.size 32 [vi i, vu g] * (domB h p * (tblP p ps free * F))) (w.alloc (.cells #[vi i, vu g] 32)) := hS.alloc _
  have b0 := hB.cell 0 rfl
  have b1 := hB.cell 1 rfl
  have HL := Lib.hid (q_can (hB.cast (show _ = domB h p * (tblP p ps free * (pc w.heap.size 32 [vi i, vu g] * F)) by ac_rfl)) i g l hC hlen hu)
  rw [decide_eq_false hn] at HL
  clear hS hB hC hu hn
  go_enter Try.func11, Try.ntmps11
  go_wp2_with (go_at_call 14; refine HL.out.mono ?_; rintro e w1 ⟨rfl, hS1⟩; have H1 := Lib.hid hS1; clear hS1)
  go_ret
  exact ⟨rfl, (H1.out.cast (show _ = pc w.heap.size 32 [vi i, vu g] * (domB h p * (tblP p ps free * F)) by ac_rfl)).dropL⟩
set_option maxRecDepth 100000 in
set_option maxHeartbeats 4000000 in
theorem q_charge_yes (hS : Sat w0 (domB h p * (tblP p ps free * F)) w) (i g : Int) (l : List (Int × Int)) (hC : Ch ps (i, g) l) (hlen : l.length ≤ 1000) (hu : Used0 ps) (hn : 0 < LeftP ps l) :
    Calls Try.prog 11 #[vp h, vr i g] w fun e w' => e = .returned (.bool true) ∧ Sat w0 (domB h p * (tblP p (chargeP ps l) free * F)) w' := by
  have hB : Sat w0 (pc w.heap.size 32 [vi i, vu g] * (domB h p * (tblP p ps free * F))) (w.alloc (.cells #[vi i, vu g] 32)) := hS.alloc _
  have b0 := hB.cell 0 rfl
  have b1 := hB.cell 1 rfl
  have HL := Lib.hid (q_can (hB.cast (show _ = domB h p * (tblP p ps free * (pc w.heap.size 32 [vi i, vu g] * F)) by ac_rfl)) i g l hC hlen hu)
  rw [decide_eq_true hn] at HL
  have HC : Hid (∀ w1 : World, Sat w0 (domB h p * (tblP p ps free * (pc w.heap.size 32 [vi i, vu g] * F))) w1 → Calls Try.prog 17 #[vp h, vr i g] w1 fun e w' => ∃ v, e = .returned v ∧ Sat w0 (sl 32 2 v l.length (frefs l) * (domB h p * (tblP p ps free * (pc w.heap.size 32 [vi i, vu g] * F)))) w') := Lib.hid fun w1 h1 => dm_chain h1 i g l hC hlen
  have HUs := Lib.hid hu
  clear hS hB hC hu hn
  go_enter Try.func11, Try.ntmps11
  go_wp2_with (first
    | (go_at_call 14; refine HL.out.mono ?_; rintro e w1 ⟨rfl, hS1⟩; have hr : Sat w0 (pc w.heap.size 32 [vi i, vu g] * (domB h p * (tblP p ps free * F))) w1 := hS1.cast (by ac_rfl); clear b0 b1; have b0 := hr.cell 0 rfl; have b1 := hr.cell 1 rfl; have H1 := Lib.hid hS1; clear hS1 hr)
    | (go_at_call 17; refine (HC.out _ H1.out).mono ?_; rintro e w2 ⟨v, rfl, hS2⟩; obtain ⟨vo, vc, rfl⟩ := hS2.rd.len; have H2 := Lib.hid hS2; clear hS2 b0 b1))
  go_loopw [15] (fun ix wr => ∃ k : Nat, k ≤ l.length ∧ ix = vi k ∧ Sat w0 (sl 32 2 (.slice vo l.length vc) l.length (frefs l) * (domB h p * (tblP p (chargeP ps (l.take k)) free * F))) wr) (fun ix _ => l.length - (intOf ix).toNat)
  case atStart => exact ⟨0, Nat.zero_le _, rfl, (H2.out.cast (show _ = pc w.heap.size 32 [vi i, vu g] * (sl 32 2 (.slice vo l.length vc) l.length (frefs l) * (domB h p * (tblP p ps free * F))) by ac_rfl)).dropL⟩
  case round =>
    obtain ⟨k, hk, rfl, hS⟩ := hrel
    by_cases hlt : k < l.length
    · have hki : (k : Int) < (l.length : Int) := by omega
      obtain ⟨r, hr⟩ : ∃ r, l[k]? = some r := ⟨l[k], List.getElem?_eq_getElem hlt⟩
      have HLK := Lib.hid hr
      obtain ⟨g', rfl⟩ : ∃ g', vo = some ⟨g', 0, none⟩ := by
        rcases hS.slE.2 with ⟨_, h0, _⟩ | ⟨g', c, cur, hv, _⟩
        · omega
        · injection hv with h1 h2 h3
          exact ⟨g', h1⟩
      have c0 := hS.slCell _ (frefs_at hr).1
      have c1 := hS.slCell _ (frefs_at hr).2
      clear hr
      have HU := Lib.hid (HUs.out.charge (l.take k))
      have HN : Hid (chargeP ps (l.take (k + 1)) = useP (chargeP ps (l.take k)) r 1) := Lib.hid (by rw [List.take_add_one, HLK.out, Option.toList_some, chargeP_snoc])
      obtain ⟨r1, r2⟩ := r
      dsimp only at c0 c1
      have hB : Sat w0 (pc wr.heap.size 32 [vi r1, vu r2] * _) (wr.alloc (.cells #[vi r1, vu r2] 32)) := hS.alloc _
      have d0 := hB.cell 0 rfl
      have d1 := hB.cell 1 rfl
      have HUse := Lib.hid (dm_use (hB.dropL.cast (show _ = domB h p * (tblP p (chargeP ps (l.take k)) free * (sl 32 2 (.slice (some ⟨g', 0, none⟩) l.length vc) l.length (frefs l) * F)) by ac_rfl)) r1 r2 1 (fun _ => (HU.out.at_ r1 r2).2) ⟨by decide, by decide⟩)
      clear hS hB
      generalize chargeP ps (l.take k) = psk at *
      rw [show setP psk r1 r2 { getX psk r1 r2 with v9 := addS (getX psk r1 r2).v9 1 } = useP psk (r1, r2) 1 from rfl] at HUse
      generalize useP psk (r1, r2) 1 = psn at *
      generalize getE psk r1 r2 = er at *
      go_wp2_with (go_at_call 12; refine HUse.out.mono ?_; rintro e w3 ⟨rfl, hS3⟩; have H3 := Lib.hid hS3; clear hS3)
      go_roundw
      case rel => exact ⟨k + 1, by omega, by go_num, by rw [HN.out]; exact H3.out.cast (by ac_rfl)⟩
      case measure => (simp [intOf]; try omega)
    · obtain rfl : k = l.length := by omega
      rw [List.take_length] at hS
      have HS := Lib.hid hS
      clear hS
      go_wp2
      go_ret
      exact ⟨rfl, HS.out.dropL⟩
end
end Go.Proofs.Ytfioghpnehfjhaa.Dm
