/-
  The reference of layer 9: Children, Chain, in. No statement is proved here.
-/
import Derived.Test.YtfioghpnehfjhaaRd1
namespace Go.Proofs.Ytfioghpnehfjhaa.Dm
open Go.RowKit Ad
set_option linter.unusedVariables false

def childB (rs : List One) (i g : Int) (j : Nat) : Bool := match rs[j]? with | none => false | some a => a.is && (a.pi == i && a.pg == g)
def childL (rs : List One) (i g : Int) (k : Nat) : List Nat := (List.range k).filter (childB rs i g)
theorem childL_succ (rs : List One) (i g : Int) (k : Nat) : childL rs i g (k + 1) = childL rs i g k ++ if childB rs i g k then [k] else [] := by
  unfold childL
  rw [List.range_succ, List.filter_append]
  cases h : childB rs i g k <;> simp [h]
theorem childL_len (rs : List One) (i g : Int) (k : Nat) : (childL rs i g k).length ≤ k := Nat.le_trans (List.length_filter_le _ _) (by simp)
abbrev nats (l : List Nat) : List Value := l.map fun k : Nat => vi k
def upO (rs : List One) (r : Int × Int) : Int × Int := match rs[r.1.toNat]? with | none => (0, 0) | some a => (a.pi, a.pg)
/-- A chain of the reference's. -/
def ChR (rs : List One) : Int × Int → List (Int × Int) → Prop
  | r, [] => isR rs r.1 r.2 = false
  | r, x :: l => x = r ∧ isR rs r.1 r.2 = true ∧ ChR rs (upO rs r) l
theorem isR_some {rs : List One} {i g : Int} (h : isR rs i g = true) : ∃ k a, i = (k : Nat) ∧ rs[k]? = some a ∧ a.is = true ∧ a.gen = g := by
  unfold isR at h
  split at h
  · cases h
  · rename_i h0
    split at h
    · cases h
    · rename_i a ha
      simp only [Bool.and_eq_true, beq_iff_eq] at h
      exact ⟨i.toNat, a, by omega, ha, h.1, h.2⟩

section
variable {w0 w : World} {F : Hp} {q b cap : Nat} {vF : Value} {rs : List One}
set_option maxRecDepth 100000 in
set_option maxHeartbeats 4000000 in
theorem rd_children (hS : Sat w0 (rdB q b rs.length cap vF * (rdL b cap rs * F)) w) (hl : rs.length ≤ 1000) (i g : Int) :
    Calls Try.prog 77 #[vp q, vr i g] w fun e w' => ∃ v, e = .returned v ∧ Sat w0 (sl 3 1 v (childL rs i g rs.length).length (nats (childL rs i g rs.length)) * (rdB q b rs.length cap vF * (rdL b cap rs * F))) w' := by
  have hB : Sat w0 (pc w.heap.size 32 [vi i, vu g] * (rdB q b rs.length cap vF * (rdL b cap rs * F))) (w.alloc (.cells #[vi i, vu g] 32)) := hS.alloc _
  have HB := Lib.hid (hB.addNil 3 1)
  clear hS hB
  generalize hbr : w.heap.size = br at *
  have HBR := Lib.hid hbr
  clear hbr
  go_enter Try.func77, Try.ntmps77
  go_wp2_with fail
  rw [HBR.out]
  go_loopw [5, 6] (fun v ix wr => ∃ k : Nat, k ≤ rs.length ∧ ix = vi k ∧ Sat w0 (sl 3 1 v (childL rs i g k).length (nats (childL rs i g k)) * (pc br 32 [vi i, vu g] * (rdB q b rs.length cap vF * (rdL b cap rs * F)))) wr) (fun _ ix _ => rs.length - (intOf ix).toNat)
  case atStart => exact ⟨0, Nat.zero_le _, rfl, HB.out⟩
  case round =>
    obtain ⟨k, hk, rfl, hS⟩ := hrel
    obtain ⟨vo, vc, rfl⟩ := hS.rd.len
    have b0 := hS.pull2.cell 0 rfl
    have b1 := hS.pull2.cell 1 rfl
    have q0 := hS.pull3.cell 0 rfl
    have hcl := childL_len rs i g k
    by_cases hlt : k < rs.length
    · have hki : (k : Int) < (rs.length : Int) := by omega
      obtain ⟨a, ha⟩ : ∃ a, rs[k]? = some a := ⟨rs[k], List.getElem?_eq_getElem hlt⟩
      have e1 := hS.pull4.slCell _ (flat_get (j := 1) One.len ha rfl)
      have e5 := hS.pull4.slCell _ (flat_get (j := 5) One.len ha rfl)
      have e6 := hS.pull4.slCell _ (flat_get (j := 6) One.len ha rfl)
      have hN := childL_succ rs i g k
      have hcb : childB rs i g k = (a.is && (a.pi == i && a.pg == g)) := by unfold childB; rw [ha]
      rw [hcb] at hN
      have HS := Lib.hid hS
      clear hS ha hcb
      obtain ⟨_, is, _, _, _, pi, pg, _, _⟩ := a
      dsimp only at e1 e5 e6 hN
      cases is with
      | false =>
        have HN := Lib.hid hN
        clear hN
        go_wp2
        go_quiet (fail)
        go_wp2
        go_roundw
        case rel =>
          refine ⟨k + 1, by omega, by go_num, ?_⟩
          rw [HN.out]
          simpa using HS.out.drewN _
        case measure => (simp [intOf]; try omega)
      | true =>
        by_cases h1 : pi = i
        · subst h1
          by_cases h2 : pg = g
          · subst h2
            have HN := Lib.hid hN
            clear hN
            go_wp2
            go_quiet (fail)
            go_wp2_with (at_builtin; refine wpList_append_sl Eint rfl (.tmp 36) (.tmp 38) rfl rfl (HS.out.drewN _ |>.alloc' _) (by rfl) (Rd.one _ _ (vi k)) (by simp [Value.oneCell']) (by unfold maxLen; omega) (by omega) ?_; intro ao6 cap6 w6 hS6; have H6 := Lib.hid hS6; clear hS6)
            go_roundw
            case rel =>
              refine ⟨k + 1, by omega, by go_num, ?_⟩
              rw [HN.out]
              simpa using H6.out
            case measure => (simp [intOf]; try omega)
          · have h3 : (pg == g) = false := beq_eq_false_iff_ne.2 h2
            rw [h3] at hN
            have HN := Lib.hid hN
            clear hN h2
            go_wp2
            go_quiet (fail)
            go_wp2
            go_roundw
            case rel =>
              refine ⟨k + 1, by omega, by go_num, ?_⟩
              rw [HN.out]
              simpa using HS.out.drewN _
            case measure => (simp [intOf]; try omega)
        · have h3 : (pi == i) = false := beq_eq_false_iff_ne.2 h1
          rw [h3] at hN
          have HN := Lib.hid hN
          clear hN h1
          go_wp2
          go_quiet (fail)
          go_wp2
          go_roundw
          case rel =>
            refine ⟨k + 1, by omega, by go_num, ?_⟩
            rw [HN.out]
            simpa using HS.out.drewN _
          case measure => (simp [intOf]; try omega)
    · obtain rfl : k = rs.length := by omega
      have HS := Lib.hid hS
      clear hS
      go_wp2
      go_ret
      exact ⟨_, rfl, (HS.out.cast (show _ = pc br 32 [vi i, vu g] * (sl 3 1 (.slice vo (childL rs i g rs.length).length vc) (childL rs i g rs.length).length (nats (childL rs i g rs.length)) * (rdB q b rs.length cap vF * (rdL b cap rs * F))) by ac_rfl)).dropL⟩
end
end Go.Proofs.Ytfioghpnehfjhaa.Dm
