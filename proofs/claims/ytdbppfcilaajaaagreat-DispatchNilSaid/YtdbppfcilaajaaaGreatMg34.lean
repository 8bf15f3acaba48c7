/-
  Package quota: least, Left, Can, Charge. No statement is proved here.
-/
import Derived.Test.YtdbppfcilaajaaaGreatMg33
import Derived.Deep.LoopGhost
set_option linter.unusedVariables false
set_option linter.unusedSimpArgs false
namespace Go.Proofs.YtdbppfcilaajaaaGreat.Dm
open Go.RowKit Ad
set_option linter.unusedVariables false

theorem frefs_at {l : List (Int × Int)} {k : Nat} {r : Int × Int} (h : l[k]? = some r) : (frefs l)[k * 2]? = some (vi r.1) ∧ (frefs l)[k * 2 + 1]? = some (vu r.2) :=
  ⟨flat_get (f := fun r : Int × Int => [vi r.1, vu r.2]) (N := 2) (fun _ => rfl) (j := 0) h rfl, flat_get (f := fun r : Int × Int => [vi r.1, vu r.2]) (N := 2) (fun _ => rfl) (j := 1) h rfl⟩
section
variable {w0 w : World} {F : Hp} {h p : Nat} {ps : List Pl} {free : List Nat}
set_option maxRecDepth 100000 in
set_option maxHeartbeats 4000000 in
theorem q_least {bd : Nat} (l : List (Int × Int)) (v : Value) (hS : Sat w0 (sl 30 2 v l.length (frefs l) * (domB h p * (tblP p ps free * (pc bd 81 [vp h] * F)))) w) (hu : Used0 ps) (hl : ∀ r ∈ l, getE ps r.1 r.2 = 0) (hlen : l.length ≤ 1000) :
    Calls Tryz.prog 223 #[v, .func (.func 224) #[] #[vp bd]] w fun e w' => e = .returned (.tuple #[vu (LeftP ps l), .bool (decide (0 < l.length))]) ∧ Sat w0 (sl 30 2 v l.length (frefs l) * (domB h p * (tblP p ps free * (pc bd 81 [vp h] * F)))) w' := by
  obtain ⟨vo, vc, rfl⟩ := hS.rd.len
  have H := Lib.hid hS
  have HUs := Lib.hid hu
  have HLl := Lib.hid hl
  clear hS hu hl
  go_enter Tryz.func223, Tryz.ntmps223
  go_wp2
  go_loopw [4, 5, 12] (fun n is i wr => ∃ k : Nat, k ≤ l.length ∧ i = vi k ∧ n = vu (minP ((l.take k).map (leftP ps))) ∧ is = .bool (decide (0 < k)) ∧ Sat w0 (sl 30 2 (.slice vo l.length vc) l.length (frefs l) * (domB h p * (tblP p ps free * (pc bd 81 [vp h] * F)))) wr) (fun _ _ i _ => l.length - (intOf i).toNat)
  case atStart => exact ⟨0, Nat.zero_le _, rfl, rfl, rfl, H.out⟩
  case round =>
    obtain ⟨k, hk, rfl, rfl, rfl, hS⟩ := hrel
    by_cases hlt : k < l.length
    · have hki : (k : Int) < (l.length : Int) := by omega
      obtain ⟨r, hr⟩ : ∃ r, l[k]? = some r := ⟨l[k], List.getElem?_eq_getElem hlt⟩
      have he : getE ps r.1 r.2 = 0 := HLl.out r (List.mem_of_getElem? hr)
      have HLK := Lib.hid hr
      obtain ⟨g, rfl⟩ : ∃ g, vo = some ⟨g, 0, none⟩ := by
        rcases hS.slE.2 with ⟨_, h0, _⟩ | ⟨g, c, cur, hv, _⟩
        · omega
        · injection hv with h1 h2 h3
          exact ⟨g, h1⟩
      have c0 := hS.slCell _ (frefs_at hr).1
      have c1 := hS.slCell _ (frefs_at hr).2
      clear hr
      obtain ⟨r1, r2⟩ := r
      dsimp only at c0 c1 he
      have hB : Sat w0 (pc wr.heap.size 30 [vi r1, vu r2] * (sl 30 2 (.slice (some ⟨g, 0, none⟩) l.length vc) l.length (frefs l) * (domB h p * (tblP p ps free * (pc bd 81 [vp h] * F))))) (wr.alloc (.cells #[vi r1, vu r2] 30)) := hS.alloc _
      have b0 := hB.cell 0 rfl
      have b1 := hB.cell 1 rfl
      have HL := Lib.hid (q_left1 (bd := bd) (hB.dropL.cast (show _ = domB h p * (tblP p ps free * (pc bd 81 [vp h] * (sl 30 2 (.slice (some ⟨g, 0, none⟩) l.length vc) l.length (frefs l) * F))) by ac_rfl)) r1 r2 HUs.out)
      rw [he] at HL
      clear hS hB he
      have HM := Lib.hid (show minP ((l.take (k + 1)).map (leftP ps)) = if (l.take k).map (leftP ps) = [] then leftP ps (r1, r2) else if leftP ps (r1, r2) < minP ((l.take k).map (leftP ps)) then leftP ps (r1, r2) else minP ((l.take k).map (leftP ps)) by rw [List.take_add_one, HLK.out, Option.toList_some, List.map_append, List.map_cons, List.map_nil, minP_snoc])
      by_cases hk0 : k = 0
      · subst hk0
        rw [List.take_zero, List.map_nil, if_pos rfl] at HM
        rw [show minP (List.map (leftP ps) (List.take 0 l)) = 0 from rfl, show decide (0 < 0) = false from rfl]
        generalize leftP ps (r1, r2) = m at *
        simp only [decide_true] at HL
        go_wp2_with (go_at_call 224; refine HL.out.mono ?_; rintro e w1 ⟨rfl, hS1⟩; have H1 := Lib.hid hS1; clear hS1)
        go_roundw
        case rel =>
          refine ⟨0 + 1, by omega, by go_num, ?_, ?_, H1.out.cast (by ac_rfl)⟩
          · rw [HM.out]
          · rfl
        case measure => (simp [intOf]; try omega)
      · have hd : decide (0 < k) = true := decide_eq_true (by omega)
        have hd2 : decide (0 < k + 1) = true := decide_eq_true (by omega)
        have HD2 := Lib.hid hd2
        rw [hd]
        clear hd hd2
        have hne : (l.take k).map (leftP ps) ≠ [] := by
          intro e
          have := congrArg List.length e
          rw [List.length_map, List.length_take, List.length_nil] at this
          omega
        rw [if_neg hne] at HM
        clear hne
        generalize minP ((l.take k).map (leftP ps)) = n at *
        generalize leftP ps (r1, r2) = m at *
        simp only [decide_true] at HL
        by_cases hmn : m < n
        · rw [if_pos hmn] at HM
          go_wp2_with (go_at_call 224; refine HL.out.mono ?_; rintro e w1 ⟨rfl, hS1⟩; have H1 := Lib.hid hS1; clear hS1)
          go_roundw
          case rel =>
            refine ⟨k + 1, by omega, by go_num, ?_, ?_, H1.out.cast (by ac_rfl)⟩
            · rw [HM.out]
            · rw [HD2.out]
          case measure => (simp [intOf]; try omega)
        · rw [if_neg hmn] at HM
          go_wp2_with (go_at_call 224; refine HL.out.mono ?_; rintro e w1 ⟨rfl, hS1⟩; have H1 := Lib.hid hS1; clear hS1)
          go_roundw
          case rel =>
            refine ⟨k + 1, by omega, by go_num, ?_, ?_, H1.out.cast (by ac_rfl)⟩
            · rw [HM.out]
            · rw [HD2.out]
          case measure => (simp [intOf]; try omega)
    · obtain rfl : k = l.length := by omega
      have HS := Lib.hid hS
      have hM : Hid (minP ((l.take l.length).map (leftP ps)) = LeftP ps l) := Lib.hid (by rw [List.take_length]; rfl)
      clear hS
      rw [hM.out]
      go_wp2
      go_ret2
      exact ⟨rfl, HS.out⟩
set_option maxRecDepth 100000 in
set_option maxHeartbeats 4000000 in
theorem q_Left (hS : Sat w0 (domB h p * (tblP p ps free * F)) w) (i g : Int) (l : List (Int × Int)) (hC : Ch ps (i, g) l) (hlen : l.length ≤ 1000) (hu : Used0 ps) :
    Calls Tryz.prog 189 #[vp h, vr i g] w fun e w' => e = .returned (vu (LeftP ps l)) ∧ Sat w0 (domB h p * (tblP p ps free * F)) w' := by
  have hB0 := (hS.alloc (.cells #[vp h] 81)).alloc (.cells #[vi i, vu g] 30)
  rw [size1] at hB0
  have hB : Sat w0 (pc (w.heap.size + 1) 30 [vi i, vu g] * (pc w.heap.size 81 [vp h] * (domB h p * (tblP p ps free * F)))) ((w.alloc (.cells #[vp h] 81)).alloc (.cells #[vi i, vu g] 30)) := hB0
  have b0 := hB.cell 0 rfl
  have b1 := hB.cell 1 rfl
  have d0 := hB.pull2.cell 0 rfl
  have hall : ∀ r ∈ l, getE ps r.1 r.2 = 0 := fun r hr => by
    obtain ⟨k, hk⟩ := List.getElem?_of_mem hr
    have h1 := (hC.at_.1 k (List.getElem?_eq_some_iff.1 hk).1)
    rw [hk] at h1
    injection h1.1 with h2
    rw [h2]
    exact h1.2
  have HC := Lib.hid (dm_chain (hB.cast (show _ = domB h p * (tblP p ps free * (pc (w.heap.size + 1) 30 [vi i, vu g] * (pc w.heap.size 81 [vp h] * F))) by ac_rfl)) i g l hC hlen)
  have HL : Hid (∀ (v : Value) (w1 : World), Sat w0 (sl 30 2 v l.length (frefs l) * (domB h p * (tblP p ps free * (pc w.heap.size 81 [vp h] * (pc (w.heap.size + 1) 30 [vi i, vu g] * F))))) w1 → Calls Tryz.prog 223 #[v, .func (.func 224) #[] #[vp w.heap.size]] w1 fun e w' => e = .returned (.tuple #[vu (LeftP ps l), .bool (decide (0 < l.length))]) ∧ Sat w0 (sl 30 2 v l.length (frefs l) * (domB h p * (tblP p ps free * (pc w.heap.size 81 [vp h] * (pc (w.heap.size + 1) 30 [vi i, vu g] * F))))) w') := Lib.hid fun v w1 h1 => q_least l v h1 hu hall hlen
  clear hS hB0 hB hC hu hall
  generalize LeftP ps l = n at *
  generalize decide (0 < l.length) = bb at *
  go_enter Tryz.func189, Tryz.ntmps189
  go_wp2_with (first
    | (go_at_call 145; refine HC.out.mono ?_; rintro e w1 ⟨v, rfl, hS1⟩; have H1 := Lib.hid (hS1.cast (show _ = sl 30 2 v l.length (frefs l) * (domB h p * (tblP p ps free * (pc w.heap.size 81 [vp h] * (pc (w.heap.size + 1) 30 [vi i, vu g] * F)))) by ac_rfl)); clear hS1 b0 b1 d0)
    | (go_at_call 223; refine (HL.out _ _ H1.out).mono ?_; rintro e w2 ⟨rfl, hS2⟩; have H2 := Lib.hid hS2; clear hS2))
  go_ret
  exact ⟨rfl, (H2.out.cast (show _ = sl 30 2 v l.length (frefs l) * (pc w.heap.size 81 [vp h] * (pc (w.heap.size + 1) 30 [vi i, vu g] * (domB h p * (tblP p ps free * F)))) by ac_rfl)).dropL.dropL.dropL⟩
set_option maxRecDepth 100000 in
set_option maxHeartbeats 4000000 in
theorem q_can (hS : Sat w0 (domB h p * (tblP p ps free * F)) w) (i g : Int) (l : List (Int × Int)) (hC : Ch ps (i, g) l) (hlen : l.length ≤ 1000) (hu : Used0 ps) :
    Calls Tryz.prog 141 #[vp h, vr i g] w fun e w' => e = .returned (.bool (decide (0 < LeftP ps l))) ∧ Sat w0 (domB h p * (tblP p ps free * F)) w' := by
  have hB : Sat w0 (pc w.heap.size 30 [vi i, vu g] * (domB h p * (tblP p ps free * F))) (w.alloc (.cells #[vi i, vu g] 30)) := hS.alloc _
  have b0 := hB.cell 0 rfl
  have b1 := hB.cell 1 rfl
  have HL := Lib.hid (q_Left (hB.cast (show _ = domB h p * (tblP p ps free * (pc w.heap.size 30 [vi i, vu g] * F)) by ac_rfl)) i g l hC hlen hu)
  clear hS hB hC hu
  generalize LeftP ps l = n at *
  by_cases hn : 0 < n
  · rw [decide_eq_true hn]
    have hn2 : decide (0 < n) = true := decide_eq_true hn
    go_enter Tryz.func141, Tryz.ntmps141
    go_wp2_with (go_at_call 189; refine HL.out.mono ?_; rintro e w1 ⟨rfl, hS1⟩; have H1 := Lib.hid hS1; clear hS1)
    go_ret
    exact ⟨by simp [hn], (H1.out.cast (show _ = pc w.heap.size 30 [vi i, vu g] * (domB h p * (tblP p ps free * F)) by ac_rfl)).dropL⟩
  · rw [decide_eq_false hn]
    have hn2 : decide (0 < n) = false := decide_eq_false hn
    go_enter Tryz.func141, Tryz.ntmps141
    go_wp2_with (go_at_call 189; refine HL.out.mono ?_; rintro e w1 ⟨rfl, hS1⟩; have H1 := Lib.hid hS1; clear hS1)
    go_ret
    exact ⟨by simp [hn], (H1.out.cast (show _ = pc w.heap.size 30 [vi i, vu g] * (domB h p * (tblP p ps free * F)) by ac_rfl)).dropL⟩
end
end Go.Proofs.YtdbppfcilaajaaaGreat.Dm

namespace Go.Proofs.YtdbppfcilaajaaaGreat.Dm
open Go.RowKit Ad
set_option linter.unusedVariables false

theorem addS_u64 {a b : Int} (ha : U64 a) (hb : U64 b) : U64 (addS a b) := by
  unfold U64 at *
  unfold addS addP
  split
  · simp
  · simp only [Option.getD_some]
    omega
/-- So much more is used of a domain. -/
def useP (ps : List Pl) (r : Int × Int) (n : Int) : List Pl := setP ps r.1 r.2 { getX ps r.1 r.2 with v9 := addS (getX ps r.1 r.2).v9 n }
def chargeP (ps : List Pl) (l : List (Int × Int)) : List Pl := l.foldl (fun ps r => useP ps r 1) ps
theorem Used0.set {ps : List Pl} (h : Used0 ps) (i g : Int) (x : El) (h3 : U64 x.v3) (h9 : U64 x.v9) : Used0 (setP ps i g x) := by
  unfold setP
  split
  · exact h
  · rename_i k a hA
    intro j b hb
    rcases get_set (isAt_some hA).1 _ j b hb with ⟨rfl, rfl⟩ | ⟨_, hb⟩
    · exact ⟨h3, h9⟩
    · exact h j b hb
theorem Used0.use {ps : List Pl} (h : Used0 ps) (r : Int × Int) {n : Int} (hn : U64 n) : Used0 (useP ps r n) :=
  h.set _ _ _ (h.at_ _ _).1 (addS_u64 (h.at_ _ _).2 hn)
theorem chargeP_snoc (ps : List Pl) (l : List (Int × Int)) (r : Int × Int) : chargeP ps (l ++ [r]) = useP (chargeP ps l) r 1 := by simp [chargeP]
theorem Used0.charge {ps : List Pl} (h : Used0 ps) : ∀ l, Used0 (chargeP ps l) := by
  intro l
  induction l generalizing ps with
  | nil => exact h
  | cons r l ih => exact ih (h.use r ⟨by decide, by decide⟩)
section
variable {w0 w : World} {F : Hp} {h p : Nat} {ps : List Pl} {free : List Nat}
set_option maxRecDepth 100000 in
set_option maxHeartbeats 4000000 in
theorem q_charge_yes (hS : Sat w0 (domB h p * (tblP p ps free * F)) w) (i g : Int) (l : List (Int × Int)) (hC : Ch ps (i, g) l) (hlen : l.length ≤ 1000) (hu : Used0 ps) (hn : 0 < LeftP ps l) :
    Calls Tryz.prog 80 #[vp h, vr i g] w fun e w' => e = .returned (.bool true) ∧ Sat w0 (domB h p * (tblP p (chargeP ps l) free * F)) w' := by
  have hB : Sat w0 (pc w.heap.size 30 [vi i, vu g] * (domB h p * (tblP p ps free * F))) (w.alloc (.cells #[vi i, vu g] 30)) := hS.alloc _
  have b0 := hB.cell 0 rfl
  have b1 := hB.cell 1 rfl
  have HL := Lib.hid (q_can (hB.cast (show _ = domB h p * (tblP p ps free * (pc w.heap.size 30 [vi i, vu g] * F)) by ac_rfl)) i g l hC hlen hu)
  rw [decide_eq_true hn] at HL
  have HC : Hid (∀ w1 : World, Sat w0 (domB h p * (tblP p ps free * (pc w.heap.size 30 [vi i, vu g] * F))) w1 → Calls Tryz.prog 145 #[vp h, vr i g] w1 fun e w' => ∃ v, e = .returned v ∧ Sat w0 (sl 30 2 v l.length (frefs l) * (domB h p * (tblP p ps free * (pc w.heap.size 30 [vi i, vu g] * F)))) w') := Lib.hid fun w1 h1 => dm_chain h1 i g l hC hlen
  have HUs := Lib.hid hu
  clear hS hB hC hu hn
  go_enter Tryz.func80, Tryz.ntmps80
  go_wp2_with (first
    | (go_at_call 141; refine HL.out.mono ?_; rintro e w1 ⟨rfl, hS1⟩; have hr : Sat w0 (pc w.heap.size 30 [vi i, vu g] * (domB h p * (tblP p ps free * F))) w1 := hS1.cast (by ac_rfl); clear b0 b1; have b0 := hr.cell 0 rfl; have b1 := hr.cell 1 rfl; have H1 := Lib.hid hS1; clear hS1 hr)
    | (go_at_call 145; refine (HC.out _ H1.out).mono ?_; rintro e w2 ⟨v, rfl, hS2⟩; obtain ⟨vo, vc, rfl⟩ := hS2.rd.len; have H2 := Lib.hid hS2; clear hS2 b0 b1))
  go_loopw [15] (fun ix wr => ∃ k : Nat, k ≤ l.length ∧ ix = vi k ∧ Sat w0 (sl 30 2 (.slice vo l.length vc) l.length (frefs l) * (domB h p * (tblP p (chargeP ps (l.take k)) free * F))) wr) (fun ix _ => l.length - (intOf ix).toNat)
  case atStart => exact ⟨0, Nat.zero_le _, rfl, (H2.out.cast (show _ = pc w.heap.size 30 [vi i, vu g] * (sl 30 2 (.slice vo l.length vc) l.length (frefs l) * (domB h p * (tblP p ps free * F))) by ac_rfl)).dropL⟩
  case round =>
    obtain ⟨k, hk, rfl, hS⟩ := hrel
    by_cases hlt : k < l.length
    · have hki : (k : Int) < (l.length : Int) := by omega
      obtain ⟨r, hr⟩ : ∃ r, l[k]? = some r := ⟨l[k], List.getElem?_eq_getElem hlt⟩
      have HLK := Lib.hid hr
      obtain ⟨g', rfl⟩ : ∃ g', vo = some ⟨g', 0, none⟩ := by
        rcases hS.slE.2 with ⟨_, h0, _⟩ | ⟨g', c, cur, hv, _⟩
        · omega
        · injection hv with h1 h2 h3
          exact ⟨g', h1⟩
      have c0 := hS.slCell _ (frefs_at hr).1
      have c1 := hS.slCell _ (frefs_at hr).2
      clear hr
      have HU := Lib.hid (HUs.out.charge (l.take k))
      have HN : Hid (chargeP ps (l.take (k + 1)) = useP (chargeP ps (l.take k)) r 1) := Lib.hid (by rw [List.take_add_one, HLK.out, Option.toList_some, chargeP_snoc])
      obtain ⟨r1, r2⟩ := r
      dsimp only at c0 c1
      have hB : Sat w0 (pc wr.heap.size 30 [vi r1, vu r2] * _) (wr.alloc (.cells #[vi r1, vu r2] 30)) := hS.alloc _
      have d0 := hB.cell 0 rfl
      have d1 := hB.cell 1 rfl
      have HUse := Lib.hid (dm_use (hB.dropL.cast (show _ = domB h p * (tblP p (chargeP ps (l.take k)) free * (sl 30 2 (.slice (some ⟨g', 0, none⟩) l.length vc) l.length (frefs l) * F)) by ac_rfl)) r1 r2 1 (fun _ => (HU.out.at_ r1 r2).2) ⟨by decide, by decide⟩)
      clear hS hB
      generalize chargeP ps (l.take k) = psk at *
      rw [show setP psk r1 r2 { getX psk r1 r2 with v9 := addS (getX psk r1 r2).v9 1 } = useP psk (r1, r2) 1 from rfl] at HUse
      generalize useP psk (r1, r2) 1 = psn at *
      generalize getE psk r1 r2 = er at *
      go_wp2_with (go_at_call 146; refine HUse.out.mono ?_; rintro e w3 ⟨rfl, hS3⟩; have H3 := Lib.hid hS3; clear hS3)
      go_roundw
      case rel => exact ⟨k + 1, by omega, by go_num, by rw [HN.out]; exact H3.out.cast (by ac_rfl)⟩
      case measure => (simp [intOf]; try omega)
    · obtain rfl : k = l.length := by omega
      rw [List.take_length] at hS
      have HS := Lib.hid hS
      clear hS
      go_wp2
      go_ret
      exact ⟨rfl, HS.out.dropL⟩
end
end Go.Proofs.YtdbppfcilaajaaaGreat.Dm

namespace Go.Proofs.YtdbppfcilaajaaaGreat.Dm
open Go.RowKit Ad
set_option linter.unusedVariables false

/-- A place of the reference's. -/
structure One where
  gen : Int
  is : Bool
  gs : Int
  cpu : Int
  per : Int
  pi : Int
  pg : Int
  own : Int
  used : Int
def One.cells (x : One) : List Value := [vu x.gen, .bool x.is, vi x.gs, vu x.cpu, vu x.per, vi x.pi, vu x.pg, vi x.own, vu x.used]
theorem One.len (x : One) : x.cells.length = 9 := rfl
theorem One.one (x : One) : ∀ u ∈ x.cells, u.oneCell' = true := by
  intro u hu
  simp [One.cells] at hu
  rcases hu with rfl | rfl | rfl | rfl | rfl | rfl | rfl | rfl | rfl <;> rfl
abbrev oflat (rs : List One) : List Value := rs.flatMap One.cells
abbrev oz : One := ⟨0, false, 0, 0, 0, 0, 0, 0, 0⟩
theorem Eone : SlT Tryz.prog 227 231 9 72 (.agg #[vu 0, .bool false, vi 0, vu 0, vu 0, vi 0, vu 0, vi 0, vu 0]) := SlT.mk' Tryz.underlying227 (by kernel_rfl) rfl (by decide)
theorem Eint : SlT Tryz.prog 140 3 1 8 (vi 0) := SlT.mk' Tryz.underlying140 (by kernel_rfl) rfl (by decide)

/-- What the reference has: its places (at b), and its free places. -/
abbrev rdB (q b n cap : Nat) (vF : Value) : Hp := pc q 229 [.slice (some ⟨b, 0, none⟩) n cap, vF]
abbrev rdL (b cap : Nat) (rs : List One) : Hp := sl 231 9 (.slice (some ⟨b, 0, none⟩) rs.length cap) rs.length (oflat rs)
def isR (rs : List One) (i g : Int) : Bool := if i < 0 then false else match rs[i.toNat]? with | none => false | some a => a.is && a.gen == g

section
variable {w0 w : World} {F : Hp} {q b cap : Nat} {vF : Value} {rs : List One}
set_option maxRecDepth 100000 in
set_option maxHeartbeats 4000000 in
theorem rd_is (hS : Sat w0 (rdB q b rs.length cap vF * (rdL b cap rs * F)) w) (i g : Int) :
    Calls Tryz.prog 124 #[vp q, vr i g] w fun e w' => e = .returned (.bool (isR rs i g)) ∧ Sat w0 (rdB q b rs.length cap vF * (rdL b cap rs * F)) w' := by
  have hB : Sat w0 (pc w.heap.size 30 [vi i, vu g] * (rdB q b rs.length cap vF * (rdL b cap rs * F))) (w.alloc (.cells #[vi i, vu g] 30)) := hS.alloc _
  have b0 := hB.cell 0 rfl
  have b1 := hB.cell 1 rfl
  have q0 := hB.pull2.cell 0 rfl
  have HB := Lib.hid hB
  clear hS
  by_cases hi : 0 ≤ i
  · obtain ⟨k, rfl⟩ := Int.eq_ofNat_of_zero_le hi
    by_cases hk : k < rs.length
    · obtain ⟨a, ha⟩ : ∃ a, rs[k]? = some a := ⟨rs[k], List.getElem?_eq_getElem hk⟩
      have hki : (k : Int) < (rs.length : Int) := by omega
      have e0 := hB.pull3.slCell _ (flat_get (j := 0) One.len ha rfl)
      rw [Nat.add_zero] at e0
      have e1 := hB.pull3.slCell _ (flat_get (j := 1) One.len ha rfl)
      have hv : isR rs k g = (a.is && a.gen == g) := by
        unfold isR
        rw [if_neg (by omega), Int.toNat_natCast, ha]
      rw [hv]
      clear hv hB ha
      obtain ⟨gen, is, _, _, _, _, _, _, _⟩ := a
      dsimp only at e0 e1 ⊢
      cases is with
      | false =>
        go_enter Tryz.func124, Tryz.ntmps124
        go_wp2
        go_quiet (fail)
        go_wp2
        go_ret
        exact ⟨rfl, (HB.out.dropL).drewN _⟩
      | true =>
        by_cases hg : gen = g
        · subst hg
          go_enter Tryz.func124, Tryz.ntmps124
          go_wp2
          go_quiet (fail)
          go_wp2
          go_ret
          exact ⟨by simp, (HB.out.dropL).drewN _⟩
        · have hg2 : (gen == g) = false := beq_eq_false_iff_ne.2 hg
          rw [hg2]
          go_enter Tryz.func124, Tryz.ntmps124
          go_wp2
          go_quiet (fail)
          go_wp2
          go_ret
          exact ⟨by simp, (HB.out.dropL).drewN _⟩
    · have hki : ¬ ((k : Int) < (rs.length : Int)) := by omega
      have hv : isR rs k g = false := by
        unfold isR
        rw [if_neg (by omega), Int.toNat_natCast, List.getElem?_eq_none (by omega)]
      rw [hv]
      clear hv hB
      go_enter Tryz.func124, Tryz.ntmps124
      go_wp2
      go_quiet (fail)
      go_wp2
      go_ret
      exact ⟨by simp, (HB.out.dropL).drewN _⟩
  · have hv : isR rs i g = false := by
      unfold isR
      rw [if_pos (by omega)]
    rw [hv]
    have hi2 : decide (0 ≤ i) = false := decide_eq_false hi
    have hi3 : i < 0 := by omega
    clear hv hB hi
    go_enter Tryz.func124, Tryz.ntmps124
    go_wp2
    go_quiet (fail)
    go_wp2
    go_ret
    exact ⟨by simp, (HB.out.dropL).drewN _⟩
end
end Go.Proofs.YtdbppfcilaajaaaGreat.Dm

namespace Go.Proofs.YtdbppfcilaajaaaGreat.Dm
open Go.RowKit Ad
set_option linter.unusedVariables false

def childB (rs : List One) (i g : Int) (j : Nat) : Bool := match rs[j]? with | none => false | some a => a.is && (a.pi == i && a.pg == g)
def childL (rs : List One) (i g : Int) (k : Nat) : List Nat := (List.range k).filter (childB rs i g)
theorem childL_succ (rs : List One) (i g : Int) (k : Nat) : childL rs i g (k + 1) = childL rs i g k ++ if childB rs i g k then [k] else [] := by
  unfold childL
  rw [List.range_succ, List.filter_append]
  cases h : childB rs i g k <;> simp [h]
theorem childL_len (rs : List One) (i g : Int) (k : Nat) : (childL rs i g k).length ≤ k := Nat.le_trans (List.length_filter_le _ _) (by simp)
abbrev nats (l : List Nat) : List Value := l.map fun k : Nat => vi k
def upO (rs : List One) (r : Int × Int) : Int × Int := match rs[r.1.toNat]? with | none => (0, 0) | some a => (a.pi, a.pg)
/-- A chain of the reference's. -/
def ChR (rs : List One) : Int × Int → List (Int × Int) → Prop
  | r, [] => isR rs r.1 r.2 = false
  | r, x :: l => x = r ∧ isR rs r.1 r.2 = true ∧ ChR rs (upO rs r) l
theorem isR_some {rs : List One} {i g : Int} (h : isR rs i g = true) : ∃ k a, i = (k : Nat) ∧ rs[k]? = some a ∧ a.is = true ∧ a.gen = g := by
  unfold isR at h
  split at h
  · cases h
  · rename_i h0
    split at h
    · cases h
    · rename_i a ha
      simp only [Bool.and_eq_true, beq_iff_eq] at h
      exact ⟨i.toNat, a, by omega, ha, h.1, h.2⟩

section
variable {w0 w : World} {F : Hp} {q b cap : Nat} {vF : Value} {rs : List One}
set_option maxRecDepth 100000 in
set_option maxHeartbeats 4000000 in
theorem rd_children (hS : Sat w0 (rdB q b rs.length cap vF * (rdL b cap rs * F)) w) (hl : rs.length ≤ 1000) (i g : Int) :
    Calls Tryz.prog 175 #[vp q, vr i g] w fun e w' => ∃ v, e = .returned v ∧ Sat w0 (sl 3 1 v (childL rs i g rs.length).length (nats (childL rs i g rs.length)) * (rdB q b rs.length cap vF * (rdL b cap rs * F))) w' := by
  have hB : Sat w0 (pc w.heap.size 30 [vi i, vu g] * (rdB q b rs.length cap vF * (rdL b cap rs * F))) (w.alloc (.cells #[vi i, vu g] 30)) := hS.alloc _
  have HB := Lib.hid (hB.addNil 3 1)
  clear hS hB
  generalize hbr : w.heap.size = br at *
  have HBR := Lib.hid hbr
  clear hbr
  go_enter Tryz.func175, Tryz.ntmps175
  go_wp2_with fail
  rw [HBR.out]
  go_loopw [5, 6] (fun v ix wr => ∃ k : Nat, k ≤ rs.length ∧ ix = vi k ∧ Sat w0 (sl 3 1 v (childL rs i g k).length (nats (childL rs i g k)) * (pc br 30 [vi i, vu g] * (rdB q b rs.length cap vF * (rdL b cap rs * F)))) wr) (fun _ ix _ => rs.length - (intOf ix).toNat)
  case atStart => exact ⟨0, Nat.zero_le _, rfl, HB.out⟩
  case round =>
    obtain ⟨k, hk, rfl, hS⟩ := hrel
    obtain ⟨vo, vc, rfl⟩ := hS.rd.len
    have b0 := hS.pull2.cell 0 rfl
    have b1 := hS.pull2.cell 1 rfl
    have q0 := hS.pull3.cell 0 rfl
    have hcl := childL_len rs i g k
    by_cases hlt : k < rs.length
    · have hki : (k : Int) < (rs.length : Int) := by omega
      obtain ⟨a, ha⟩ : ∃ a, rs[k]? = some a := ⟨rs[k], List.getElem?_eq_getElem hlt⟩
      have e1 := hS.pull4.slCell _ (flat_get (j := 1) One.len ha rfl)
      have e5 := hS.pull4.slCell _ (flat_get (j := 5) One.len ha rfl)
      have e6 := hS.pull4.slCell _ (flat_get (j := 6) One.len ha rfl)
      have hN := childL_succ rs i g k
      have hcb : childB rs i g k = (a.is && (a.pi == i && a.pg == g)) := by unfold childB; rw [ha]
      rw [hcb] at hN
      have HS := Lib.hid hS
      clear hS ha hcb
      obtain ⟨_, is, _, _, _, pi, pg, _, _⟩ := a
      dsimp only at e1 e5 e6 hN
      cases is with
      | false =>
        have HN := Lib.hid hN
        clear hN
        go_wp2
        go_quiet (fail)
        go_wp2
        go_roundw
        case rel =>
          refine ⟨k + 1, by omega, by go_num, ?_⟩
          rw [HN.out]
          simpa using HS.out.drewN _
        case measure => (simp [intOf]; try omega)
      | true =>
        by_cases h1 : pi = i
        · subst h1
          by_cases h2 : pg = g
          · subst h2
            have HN := Lib.hid hN
            clear hN
            go_wp2
            go_quiet (fail)
            go_wp2_with (at_builtin; refine wpList_append_sl Eint rfl (.tmp 36) (.tmp 38) rfl rfl (HS.out.drewN _ |>.alloc' _) (by rfl) (Rd.one _ _ (vi k)) (by simp [Value.oneCell']) (by unfold maxLen; omega) (by omega) ?_; intro ao6 cap6 w6 hS6; have H6 := Lib.hid hS6; clear hS6)
            go_roundw
            case rel =>
              refine ⟨k + 1, by omega, by go_num, ?_⟩
              rw [HN.out]
              simpa using H6.out
            case measure => (simp [intOf]; try omega)
          · have h3 : (pg == g) = false := beq_eq_false_iff_ne.2 h2
            rw [h3] at hN
            have HN := Lib.hid hN
            clear hN h2
            go_wp2
            go_quiet (fail)
            go_wp2
            go_roundw
            case rel =>
              refine ⟨k + 1, by omega, by go_num, ?_⟩
              rw [HN.out]
              simpa using HS.out.drewN _
            case measure => (simp [intOf]; try omega)
        · have h3 : (pi == i) = false := beq_eq_false_iff_ne.2 h1
          rw [h3] at hN
          have HN := Lib.hid hN
          clear hN h1
          go_wp2
          go_quiet (fail)
          go_wp2
          go_roundw
          case rel =>
            refine ⟨k + 1, by omega, by go_num, ?_⟩
            rw [HN.out]
            simpa using HS.out.drewN _
          case measure => (simp [intOf]; try omega)
    · obtain rfl : k = rs.length := by omega
      have HS := Lib.hid hS
      clear hS
      go_wp2
      go_ret
      exact ⟨_, rfl, (HS.out.cast (show _ = pc br 30 [vi i, vu g] * (sl 3 1 (.slice vo (childL rs i g rs.length).length vc) (childL rs i g rs.length).length (nats (childL rs i g rs.length)) * (rdB q b rs.length cap vF * (rdL b cap rs * F))) by ac_rfl)).dropL⟩
end
end Go.Proofs.YtdbppfcilaajaaaGreat.Dm

namespace Go.Proofs.YtdbppfcilaajaaaGreat.Dm
open Go.RowKit Ad
set_option linter.unusedVariables false

section
variable {w0 w : World} {F : Hp} {q b cap : Nat} {vF : Value} {rs : List One}
set_option maxRecDepth 100000 in
set_option maxHeartbeats 4000000 in
theorem rd_chain (hS : Sat w0 (rdB q b rs.length cap vF * (rdL b cap rs * F)) w) (i g : Int) (l : List (Int × Int)) (hC : ChR rs (i, g) l) (hl : l.length ≤ 1000) :
    Calls Tryz.prog 221 #[vp q, vr i g] w fun e w' => ∃ v, e = .returned v ∧ Sat w0 (sl 30 2 v l.length (frefs l) * (rdB q b rs.length cap vF * (rdL b cap rs * F))) w' := by
  have hB : Sat w0 (pc w.heap.size 30 [vi i, vu g] * (rdB q b rs.length cap vF * (rdL b cap rs * F))) (w.alloc (.cells #[vi i, vu g] 30)) := hS.alloc _
  have HB := Lib.hid (hB.addNil 30 2)
  have HC := Lib.hid hC
  clear hS hB hC
  generalize hbr : w.heap.size = br at *
  have HBR := Lib.hid hbr
  clear hbr
  go_enter Tryz.func221, Tryz.ntmps221
  go_wp2_with fail
  rw [HBR.out]
  go_loopg [5] l.length (fun gk v wr => ∃ (dn rest : List (Int × Int)) (c : Int × Int), l = dn ++ rest ∧ rest.length = gk ∧ ChR rs c rest ∧ Sat w0 (sl 30 2 v dn.length (frefs dn) * (pc br 30 [vi c.1, vu c.2] * (rdB q b rs.length cap vF * (rdL b cap rs * F)))) wr)
  case atStart => exact ⟨[], l, (i, g), rfl, rfl, HC.out, HB.out⟩
  case round =>
    obtain ⟨dn, rest, ⟨ci, cg⟩, hl2, hgk, hCr, hS⟩ := hrel
    dsimp only at hS
    obtain ⟨vo, vc, rfl⟩ := hS.rd.len
    have b0 := hS.pull2.cell 0 rfl
    have b1 := hS.pull2.cell 1 rfl
    have HI := Lib.hid (rd_is (hS.cast (show _ = rdB q b rs.length cap vF * (rdL b cap rs * (sl 30 2 (.slice vo dn.length vc) dn.length (frefs dn) * (pc br 30 [vi ci, vu cg] * F))) by ac_rfl)) ci cg)
    have hdl : dn.length + rest.length = l.length := by rw [hl2, List.length_append]
    have HL2 := Lib.hid hl2
    clear hl2
    cases rest with
    | nil =>
      have hn : isR rs ci cg = false := hCr
      rw [hn] at HI
      clear hS hCr hn
      go_wp2_with (go_at_call 124; refine HI.out.mono ?_; rintro e w1 ⟨rfl, hS1⟩; have H1 := Lib.hid hS1; clear hS1)
      go_ret
      have e : dn = l := by rw [HL2.out, List.append_nil]
      subst e
      exact ⟨_, rfl, (H1.out.cast (show _ = pc br 30 [vi ci, vu cg] * (sl 30 2 (.slice vo dn.length vc) dn.length (frefs dn) * (rdB q b rs.length cap vF * (rdL b cap rs * F))) by ac_rfl)).dropL⟩
    | cons x rest =>
      obtain ⟨hx, hy, hCn⟩ := hCr
      obtain ⟨k, a, rfl, ha, _, _⟩ := isR_some hy
      have hk : k < rs.length := (List.getElem?_eq_some_iff.1 ha).1
      have hki : (k : Int) < (rs.length : Int) := by omega
      rw [hy] at HI
      have hup : upO rs ((k : Int), cg) = (a.pi, a.pg) := by
        unfold upO
        rw [Int.toNat_natCast, ha]
      rw [hup] at hCn
      have HX := Lib.hid hx
      have HCn := Lib.hid hCn
      have HA := Lib.hid ha
      simp only [List.length_cons] at hdl hgk
      clear hS hx hy hCn hup ha
      go_wp2_with (first
        | (go_at_call 124; refine HI.out.mono ?_; rintro e w1 ⟨rfl, hS1⟩; have hT : Sat w0 (sl 30 2 (.slice vo dn.length vc) dn.length (frefs dn) * (pc br 30 [vi (k : Int), vu cg] * (rdB q b rs.length cap vF * (rdL b cap rs * F)))) w1 := hS1.cast (by ac_rfl); clear b0 b1; have b0 := hT.pull2.cell 0 rfl; have b1 := hT.pull2.cell 1 rfl; have HT := Lib.hid hT; clear hS1 hT)
        | (at_builtin; refine wpList_append_sl Eref rfl (.tmp 9) (.tmp 11) rfl rfl (HT.out.alloc' _) (by rfl) (rdTwo _ _ (vi (k : Int)) (vu cg) rfl) (by simp [Value.oneCell']) (by unfold maxLen; omega) (by omega) ?_; intro ao6 cap6 w6 hS6; clear b0 b1; have b0 := hS6.pull2.cell 0 rfl; have b1 := hS6.pull2.cell 1 rfl; have f0 := hS6.pull2.free 0; have f1 := hS6.pull2.free 1; have q0 := hS6.pull3.cell 0 rfl; have e5 := hS6.pull4.slCell _ (flat_get (j := 5) One.len HA.out rfl); have e6 := hS6.pull4.slCell _ (flat_get (j := 6) One.len HA.out rfl); have H6 := Lib.hid hS6; clear hS6))
      refine wp_quiet_tail 9 (by kernel_rfl) (by kernel_rfl) ?_
      simp only [List.take_succ_cons, List.take_zero, List.drop_succ_cons, List.drop_zero]
      repeat (go_big_quiet_step (fail))
      refine wpQuiet_nil ?_
      go_wp2
      go_roundg (gk - 1)
      case measure => omega
      case rel =>
        refine ⟨dn ++ [((k : Int), cg)], rest, (a.pi, a.pg), ?_, by omega, HCn.out, ?_⟩
        · rw [HL2.out, HX.out, List.append_assoc]
          rfl
        · rw [List.length_append, frefs_snoc]
          have h7 := ((H6.out.pull2.store 0 (vi a.pi)).store 1 (vu a.pg)).pull2
          first | exact h7 | exact h7.drew | exact h7.drewN _
set_option maxRecDepth 100000 in
set_option maxHeartbeats 4000000 in
theorem rd_in (hS : Sat w0 (rdB q b rs.length cap vF * (rdL b cap rs * F)) w) (k : Nat) (a : One) (ha : rs[k]? = some a) (l : List (Int × Int)) (hC : ChR rs (k, a.gen) l) (hl : l.length ≤ 1000) (i g : Int) :
    Calls Tryz.prog 176 #[vp q, vi k, vr i g] w fun e w' => e = .returned (.bool (decide ((i, g) ∈ l))) ∧ Sat w0 (rdB q b rs.length cap vF * (rdL b cap rs * F)) w' := by
  have hB : Sat w0 (pc w.heap.size 30 [vi i, vu g] * (rdB q b rs.length cap vF * (rdL b cap rs * F))) (w.alloc (.cells #[vi i, vu g] 30)) := hS.alloc _
  have hk : k < rs.length := (List.getElem?_eq_some_iff.1 ha).1
  have hki : (k : Int) < (rs.length : Int) := by omega
  have q0 := hB.pull2.cell 0 rfl
  have e0 := hB.pull3.slCell _ (flat_get (j := 0) One.len ha rfl)
  rw [Nat.add_zero] at e0
  have HC := Lib.hid (rd_chain (hB.cast (show _ = rdB q b rs.length cap vF * (rdL b cap rs * (pc w.heap.size 30 [vi i, vu g] * F)) by ac_rfl)) k a.gen l hC hl)
  clear hS hB hC ha
  generalize a.gen = ag at *
  generalize hbr : w.heap.size = br at *
  have HBR := Lib.hid hbr
  clear hbr
  go_enter Tryz.func176, Tryz.ntmps176
  go_wp2_with fail
  rw [HBR.out]
  refine HC.out.mono ?_
  rintro e w1 ⟨v, rfl, hS1⟩
  obtain ⟨vo, vc, rfl⟩ := hS1.rd.len
  have H1 := Lib.hid (hS1.cast (show _ = sl 30 2 (.slice vo l.length vc) l.length (frefs l) * (pc br 30 [vi i, vu g] * (rdB q b rs.length cap vF * (rdL b cap rs * F))) by ac_rfl))
  clear hS1 q0 e0
  go_wp2
  go_loopw [8] (fun ix wr => ∃ j : Nat, j ≤ l.length ∧ ix = vi j ∧ (∀ x ∈ l.take j, x ≠ (i, g)) ∧ Sat w0 (sl 30 2 (.slice vo l.length vc) l.length (frefs l) * (pc br 30 [vi i, vu g] * (rdB q b rs.length cap vF * (rdL b cap rs * F)))) wr) (fun ix _ => l.length - (intOf ix).toNat)
  case atStart => exact ⟨0, Nat.zero_le _, rfl, by simp, H1.out⟩
  case round =>
    obtain ⟨j, hj, rfl, hno, hS⟩ := hrel
    have HNo := Lib.hid hno
    clear hno
    by_cases hlt : j < l.length
    · have hji : (j : Int) < (l.length : Int) := by omega
      obtain ⟨r, hr⟩ : ∃ r, l[j]? = some r := ⟨l[j], List.getElem?_eq_getElem hlt⟩
      have HLK := Lib.hid hr
      obtain ⟨g', rfl⟩ : ∃ g', vo = some ⟨g', 0, none⟩ := by
        rcases hS.slE.2 with ⟨_, h0, _⟩ | ⟨g', c, cur, hv, _⟩
        · omega
        · injection hv with h1 h2 h3
          exact ⟨g', h1⟩
      have c0 := hS.slCell _ (frefs_at hr).1
      have c1 := hS.slCell _ (frefs_at hr).2
      have b0 := hS.pull2.cell 0 rfl
      have b1 := hS.pull2.cell 1 rfl
      have HS := Lib.hid hS
      clear hr hS
      obtain ⟨r1, r2⟩ := r
      dsimp only at c0 c1
      by_cases h1 : r1 = i
      · by_cases h2 : r2 = g
        · subst h1
          subst h2
          have hd : Hid (decide ((r1, r2) ∈ l) = true) := Lib.hid (decide_eq_true (List.mem_of_getElem? HLK.out))
          go_wp2
          go_quiet (fail)
          go_wp2
          go_ret
          exact ⟨by rw [hd.out]; rfl, HS.out.dropL.dropL.drewN _⟩
        · have h3 : (r2 == g) = false := beq_eq_false_iff_ne.2 h2
          subst h1
          have HN : Hid (∀ x ∈ l.take (j + 1), x ≠ (r1, g)) := Lib.hid (by
            rw [List.take_add_one, HLK.out]
            intro x hx
            rcases List.mem_append.1 hx with hx | hx
            · exact HNo.out x hx
            · simp at hx
              subst hx
              intro e
              injection e with _ e
              exact h2 e)
          clear h2
          go_wp2
          go_quiet (fail)
          go_wp2
          go_roundw
          case rel => exact ⟨j + 1, by omega, by go_num, HN.out, HS.out.drewN _⟩
          case measure => (simp [intOf]; try omega)
      · have h3 : (r1 == i) = false := beq_eq_false_iff_ne.2 h1
        have HN : Hid (∀ x ∈ l.take (j + 1), x ≠ (i, g)) := Lib.hid (by
          rw [List.take_add_one, HLK.out]
          intro x hx
          rcases List.mem_append.1 hx with hx | hx
          · exact HNo.out x hx
          · simp at hx
            subst hx
            intro e
            injection e with e _
            exact h1 e)
        clear h1
        go_wp2
        go_quiet (fail)
        go_wp2
        go_roundw
        case rel => exact ⟨j + 1, by omega, by go_num, HN.out, HS.out.drewN _⟩
        case measure => (simp [intOf]; try omega)
    · obtain rfl : j = l.length := by omega
      have hd : Hid (decide ((i, g) ∈ l) = false) := Lib.hid (decide_eq_false (fun h => by
        have := HNo.out (i, g) (by rw [List.take_length]; exact h)
        exact this rfl))
      have HS := Lib.hid hS
      clear hS
      go_wp2
      go_ret
      exact ⟨by rw [hd.out]; rfl, HS.out.dropL.dropL⟩
end
end Go.Proofs.YtdbppfcilaajaaaGreat.Dm
