/-
  Package quota: least, Left, Can, Charge. No statement is proved here.
-/
import Derived.Test.YtfioghpnehfjhaaQt1
namespace Go.Proofs.Ytfioghpnehfjhaa.Dm
open Go.RowKit Ad
set_option linter.unusedVariables false

theorem frefs_at {l : List (Int × Int)} {k : Nat} {r : Int × Int} (h : l[k]? = some r) : (frefs l)[k * 2]? = some (vi r.1) ∧ (frefs l)[k * 2 + 1]? = some (vu r.2) :=
  ⟨flat_get (f := fun r : Int × Int => [vi r.1, vu r.2]) (N := 2) (fun _ => rfl) (j := 0) h rfl, flat_get (f := fun r : Int × Int => [vi r.1, vu r.2]) (N := 2) (fun _ => rfl) (j := 1) h rfl⟩
theorem frefs_len (l : List (Int × Int)) : (frefs l).length = l.length * 2 := flat_len (f := fun r : Int × Int => [vi r.1, vu r.2]) (N := 2) (fun _ => rfl) l
section
variable {w0 w : World} {F : Hp} {h p : Nat} {ps : List Pl} {free : List Nat}
set_option maxRecDepth 100000 in
set_option maxHeartbeats 4000000 in
theorem q_least {bd : Nat} (l : List (Int × Int)) (v : Value) (hS : Sat w0 (sl 32 2 v l.length (frefs l) * (domB h p * (tblP p ps free * (pc bd 25 [vp h] * F)))) w) (hu : Used0 ps) (hl : ∀ r ∈ l, getE ps r.1 r.2 = 0) (hlen : l.length ≤ 1000) :
    Calls Try.prog 37 #[v, .func (.func 38) #[] #[vp bd]] w fun e w' => e = .returned (.tuple #[vu (LeftP ps l), .bool (decide (0 < l.length))]) ∧ Sat w0 (sl 32 2 v l.length (frefs l) * (domB h p * (tblP p ps free * (pc bd 25 [vp h] * F)))) w' := by
  obtain ⟨vo, vc, rfl⟩ := hS.rd.len
  have H := Lib.hid hS
  have HUs := Lib.hid hu
  have HLl := Lib.hid hl
  clear hS hu hl
  go_enter Try.func37, Try.ntmps37
  go_wp2
  go_loopw [4, 5, 12] (fun n is i wr => ∃ k : Nat, k ≤ l.length ∧ i = vi k ∧ n = vu (minP ((l.take k).map (leftP ps))) ∧ is = .bool (decide (0 < k)) ∧ Sat w0 (sl 32 2 (.slice vo l.length vc) l.length (frefs l) * (domB h p * (tblP p ps free * (pc bd 25 [vp h] * F)))) wr) (fun _ _ i _ => l.length - (intOf i).toNat)
  case atStart => exact ⟨0, Nat.zero_le _, rfl, rfl, rfl, H.out⟩
  case round =>
    obtain ⟨k, hk, rfl, rfl, rfl, hS⟩ := hrel
    by_cases hlt : k < l.length
    · have hki : (k : Int) < (l.length : Int) := by omega
      obtain ⟨r, hr⟩ : ∃ r, l[k]? = some r := ⟨l[k], List.getElem?_eq_getElem hlt⟩
      have he : getE ps r.1 r.2 = 0 := HLl.out r (List.mem_of_getElem? hr)
      have HLK := Lib.hid hr
      obtain ⟨g, rfl⟩ : ∃ g, vo = some ⟨g, 0, none⟩ := by
        rcases hS.slE.2 with ⟨_, h0, _⟩ | ⟨g, c, cur, hv, _⟩
        · omega
        · injection hv with h1 h2 h3
          exact ⟨g, h1⟩
      have c0 := hS.slCell _ (frefs_at hr).1
      have c1 := hS.slCell _ (frefs_at hr).2
      clear hr
      obtain ⟨r1, r2⟩ := r
      dsimp only at c0 c1 he
      have hB : Sat w0 (pc wr.heap.size 32 [vi r1, vu r2] * (sl 32 2 (.slice (some ⟨g, 0, none⟩) l.length vc) l.length (frefs l) * (domB h p * (tblP p ps free * (pc bd 25 [vp h] * F))))) (wr.alloc (.cells #[vi r1, vu r2] 32)) := hS.alloc _
      have b0 := hB.cell 0 rfl
      have b1 := hB.cell 1 rfl
      have HL := Lib.hid (q_left1 (bd := bd) (hB.dropL.cast (show _ = domB h p * (tblP p ps free * (pc bd 25 [vp h] * (sl 32 2 (.slice (some ⟨g, 0, none⟩) l.length vc) l.length (frefs l) * F))) by ac_rfl)) r1 r2 HUs.out)
      rw [he] at HL
      clear hS hB he
      have HM := Lib.hid (show minP ((l.take (k + 1)).map (leftP ps)) = if (l.take k).map (leftP ps) = [] then leftP ps (r1, r2) else if leftP ps (r1, r2) < minP ((l.take k).map (leftP ps)) then leftP ps (r1, r2) else minP ((l.take k).map (leftP ps)) by rw [List.take_add_one, HLK.out, Option.toList_some, List.map_append, List.map_cons, List.map_nil, minP_snoc])
      by_cases hk0 : k = 0
      · subst hk0
        rw [List.take_zero, List.map_nil, if_pos rfl] at HM
        rw [show minP (List.map (leftP ps) (List.take 0 l)) = 0 from rfl, show decide (0 < 0) = false from rfl]
        generalize leftP ps (r1, r2) = m at *
        simp only [decide_true] at HL
        go_wp2_with (go_at_call 38; refine HL.out.mono ?_; rintro e w1 ⟨rfl, hS1⟩; have H1 := Lib.hid hS1; clear hS1)
        go_roundw
        case rel =>
          refine ⟨0 + 1, by omega, by go_num, ?_, ?_, H1.out.cast (by ac_rfl)⟩
          · rw [HM.out]
          · rfl
        case measure => (simp [intOf]; try omega)
      · have hd : decide (0 < k) = true := decide_eq_true (by omega)
        have hd2 : decide (0 < k + 1) = true := decide_eq_true (by omega)
        have HD2 := Lib.hid hd2
        rw [hd]
        clear hd hd2
        have hne : (l.take k).map (leftP ps) ≠ [] := by
          intro e
          have := congrArg List.length e
          rw [List.length_map, List.length_take, List.length_nil] at this
          omega
        rw [if_neg hne] at HM
        clear hne
        generalize minP ((l.take k).map (leftP ps)) = n at *
        generalize leftP ps (r1, r2) = m at *
        simp only [decide_true] at HL
        by_cases hmn : m < n
        · rw [if_pos hmn] at HM
          go_wp2_with (go_at_call 38; refine HL.out.mono ?_; rintro e w1 ⟨rfl, hS1⟩; have H1 := Lib.hid hS1; clear hS1)
          go_roundw
          case rel =>
            refine ⟨k + 1, by omega, by go_num, ?_, ?_, H1.out.cast (by ac_rfl)⟩
            · rw [HM.out]
            · rw [HD2.out]
          case measure => (simp [intOf]; try omega)
        · rw [if_neg hmn] at HM
          go_wp2_with (go_at_call 38; refine HL.out.mono ?_; rintro e w1 ⟨rfl, hS1⟩; have H1 := Lib.hid hS1; clear hS1)
          go_roundw
          case rel =>
            refine ⟨k + 1, by omega, by go_num, ?_, ?_, H1.out.cast (by ac_rfl)⟩
            · rw [HM.out]
            · rw [HD2.out]
          case measure => (simp [intOf]; try omega)
    · obtain rfl : k = l.length := by omega
      have HS := Lib.hid hS
      have hM : Hid (minP ((l.take l.length).map (leftP ps)) = LeftP ps l) := Lib.hid (by rw [List.take_length]; rfl)
      clear hS
      rw [hM.out]
      go_wp2
      go_ret2
      exact ⟨rfl, HS.out⟩
set_option maxRecDepth 100000 in
set_option maxHeartbeats 4000000 in
theorem q_Left (hS : Sat w0 (domB h p * (tblP p ps free * F)) w) (i g : Int) (l : List (Int × Int)) (hC : Ch ps (i, g) l) (hlen : l.length ≤ 1000) (hu : Used0 ps) :
    Calls Try.prog 13 #[vp h, vr i g] w fun e w' => e = .returned (vu (LeftP ps l)) ∧ Sat w0 (domB h p * (tblP p ps free * F)) w' := by
  have hB0 := (hS.alloc (.cells #[vp h] 25)).alloc (.cells #[vi i, vu g] 32)
  rw [size1] at hB0
  have hB : Sat w0 (pc (w.heap.size + 1) 32 [vi i, vu g] * (pc w.heap.size 25 [vp h] * (domB h p * (tblP p ps free * F)))) ((w.alloc (.cells #[vp h] 25)).alloc (.cells #[vi i, vu g] 32)) := hB0
  have b0 := hB.cell 0 rfl
  have b1 := hB.cell 1 rfl
  have d0 := hB.pull2.cell 0 rfl
  have hall : ∀ r ∈ l, getE ps r.1 r.2 = 0 := fun r hr => by
    obtain ⟨k, hk⟩ := List.getElem?_of_mem hr
    have h1 := (hC.at_.1 k (List.getElem?_eq_some_iff.1 hk).1)
    rw [hk] at h1
    injection h1.1 with h2
    rw [h2]
    exact h1.2
  have HC := Lib.hid (dm_chain (hB.cast (show _ = domB h p * (tblP p ps free * (pc (w.heap.size + 1) 32 [vi i, vu g] * (pc w.heap.size 25 [vp h] * F))) by ac_rfl)) i g l hC hlen)
  have HL : Hid (∀ (v : Value) (w1 : World), Sat w0 (sl 32 2 v l.length (frefs l) * (domB h p * (tblP p ps free * (pc w.heap.size 25 [vp h] * (pc (w.heap.size + 1) 32 [vi i, vu g] * F))))) w1 → Calls Try.prog 37 #[v, .func (.func 38) #[] #[vp w.heap.size]] w1 fun e w' => e = .returned (.tuple #[vu (LeftP ps l), .bool (decide (0 < l.length))]) ∧ Sat w0 (sl 32 2 v l.length (frefs l) * (domB h p * (tblP p ps free * (pc w.heap.size 25 [vp h] * (pc (w.heap.size + 1) 32 [vi i, vu g] * F))))) w') := Lib.hid fun v w1 h1 => q_least l v h1 hu hall hlen
  clear hS hB0 hB hC hu hall
  generalize LeftP ps l = n at *
  generalize decide (0 < l.length) = bb at *
  go_enter Try.func13, Try.ntmps13
  go_wp2_with (first
    | (go_at_call 17; refine HC.out.mono ?_; rintro e w1 ⟨v, rfl, hS1⟩; have H1 := Lib.hid (hS1.cast (show _ = sl 32 2 v l.length (frefs l) * (domB h p * (tblP p ps free * (pc w.heap.size 25 [vp h] * (pc (w.heap.size + 1) 32 [vi i, vu g] * F)))) by ac_rfl)); clear hS1 b0 b1 d0)
    | (go_at_call 37; refine (HL.out _ _ H1.out).mono ?_; rintro e w2 ⟨rfl, hS2⟩; have H2 := Lib.hid hS2; clear hS2))
  go_ret
  exact ⟨rfl, (H2.out.cast (show _ = sl 32 2 v l.length (frefs l) * (pc w.heap.size 25 [vp h] * (pc (w.heap.size + 1) 32 [vi i, vu g] * (domB h p * (tblP p ps free * F)))) by ac_rfl)).dropL.dropL.dropL⟩
set_option maxRecDepth 100000 in
set_option maxHeartbeats 4000000 in
theorem q_can (hS : Sat w0 (domB h p * (tblP p ps free * F)) w) (i g : Int) (l : List (Int × Int)) (hC : Ch ps (i, g) l) (hlen : l.length ≤ 1000) (hu : Used0 ps) :
    Calls Try.prog 14 #[vp h, vr i g] w fun e w' => e = .returned (.bool (decide (0 < LeftP ps l))) ∧ Sat w0 (domB h p * (tblP p ps free * F)) w' := by
  have hB : Sat w0 (pc w.heap.size 32 [vi i, vu g] * (domB h p * (tblP p ps free * F))) (w.alloc (.cells #[vi i, vu g] 32)) := hS.alloc _
  have b0 := hB.cell 0 rfl
  have b1 := hB.cell 1 rfl
  have HL := Lib.hid (q_Left (hB.cast (show _ = domB h p * (tblP p ps free * (pc w.heap.size 32 [vi i, vu g] * F)) by ac_rfl)) i g l hC hlen hu)
  clear hS hB hC hu
  generalize LeftP ps l = n at *
  by_cases hn : 0 < n
  · rw [decide_eq_true hn]
    have hn2 : decide (0 < n) = true := decide_eq_true hn
    go_enter Try.func14, Try.ntmps14
    go_wp2_with (go_at_call 13; refine HL.out.mono ?_; rintro e w1 ⟨rfl, hS1⟩; have H1 := Lib.hid hS1; clear hS1)
    go_ret
    exact ⟨by simp [hn], (H1.out.cast (show _ = pc w.heap.size 32 [vi i, vu g] * (domB h p * (tblP p ps free * F)) by ac_rfl)).dropL⟩
  · rw [decide_eq_false hn]
    have hn2 : decide (0 < n) = false := decide_eq_false hn
    go_enter Try.func14, Try.ntmps14
    go_wp2_with (go_at_call 13; refine HL.out.mono ?_; rintro e w1 ⟨rfl, hS1⟩; have H1 := Lib.hid hS1; clear hS1)
    go_ret
    exact ⟨by simp [hn], (H1.out.cast (show _ = pc w.heap.size 32 [vi i, vu g] * (domB h p * (tblP p ps free * F)) by ac_rfl)).dropL⟩
end
end Go.Proofs.Ytfioghpnehfjhaa.Dm
