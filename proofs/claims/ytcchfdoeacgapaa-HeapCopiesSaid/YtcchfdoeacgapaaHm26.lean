/-
  Chapter 04: the statements' helper same. No statement is proved here.
-/
import Derived.Test.YtcchfdoeacgapaaHm17
import Derived.Test.YtcchfdoeacgapaaHm24
import Derived.Test.YtcchfdoeacgapaaHm25
namespace Go.Proofs.Ytcchfdoeacgapaa.Hm
open Go.RowKit
set_option linter.unusedVariables false

section
variable {w0 w : World} {F : Hp} {h q k n : Nat} {A S : List Tm} {p : Int} {v : Value} {L : List Tr} {G : Hp}
/-- The last part of same: All beside the reference's list. -/
theorem all_same (hI : Inv A p S) (hS : Sat w0 (heapP h A p * (rfB q v * (rl v (S.map trOf) * F))) w) (hl : A.length ≤ 4096) :
    Calls Try.prog 40 #[vp h] w fun e w' => ∃ u, e = .returned u ∧ Sat w0 (sl 68 2 u (S.map trOf).length (trsV (S.map trOf)) * (heapP h A p * (rfB q v * (rl v (S.map trOf) * F)))) w' := by
  refine (all_ hS hl).mono ?_
  rintro e w' ⟨u, S', rfl, hp, hs, h'⟩
  obtain rfl := hI.sorted hp hs
  refine ⟨u, rfl, ?_⟩
  rw [List.length_map]
  exact h'
set_option maxRecDepth 100000 in
set_option maxHeartbeats 4000000 in
theorem same4_ (hI : Inv A p S) (hA : A.length ≤ 4096) (hS : Sat w0 (heapP h A p * (rfB q v * (rl v (S.map trOf) * F))) w) :
    Calls Try.prog 43 #[vp h, vp q] w fun e w' => e = .returned (.bool true) ∧ Sat w0 (heapP h A p * (rfB q v * (rl v (S.map trOf) * F))) w' := by
  have hL := hI.len
  have HHas : Hid (∀ (id : Int) (N : Nat), Calls Try.prog 42 #[vp h, vi id] (w.drewN N) fun e w' => e = .returned (.bool ((S.map trOf).any (fun t => t.2 == id))) ∧ w.drewN N = w') := Lib.hid fun id N => by
    have := h_has (hS.drewN N) id
    rwa [hI.has id] at this
  have HRas : Hid (∀ (id : Int) (N : Nat), Calls Try.prog 67 #[vp q, vi id] (w.drewN N) fun e w' => e = .returned (.bool ((S.map trOf).any (fun t => t.2 == id))) ∧ w.drewN N = w') := Lib.hid fun id N =>
    r_has (refP_shut (F := heapP h A p * F) ((hS.drewN N).cast (by ac_rfl))) id (by omega)
  have HAll : Hid (∀ (N : Nat), Calls Try.prog 40 #[vp h] (w.drewN N) fun e w' => ∃ u, e = .returned u ∧ Sat w0 (sl 68 2 u (S.map trOf).length (trsV (S.map trOf)) * (heapP h A p * (rfB q v * (rl v (S.map trOf) * F)))) w') := Lib.hid fun N => all_same hI (hS.drewN N) hA
  have HLen : Hid (∀ N, Calls Try.prog 18 #[vp h] (w.drewN N) fun e w' => e = .returned (vi (S.map trOf).length) ∧ w.drewN N = w') := Lib.hid fun N => by
    have := h_len (hS.drewN N)
    rwa [hL] at this
  have HN : Hid (Calls Try.prog 47 #[vp h] w fun e w' => e = .returned (.tuple #[vu (if (S.map trOf).length = 0 then 0 else (gr (S.map trOf) 0).1), .bool (decide (0 < (S.map trOf).length))]) ∧ w = w') := Lib.hid (by
    cases S with
    | nil =>
      obtain rfl : A = [] := List.eq_nil_of_length_eq_zero (by simpa using hL)
      exact h_next_nil hS
    | cons t S =>
      have := h_next hS (fun e => by rw [e] at hL; simp at hL) (by omega)
      rw [hI.head (heapP_least hS)] at this
      exact this)
  have c0 := hS.pull2.cell 0 rfl
  have hrd := hS.pull3.rd
  have H := Lib.hid hS
  clear hS hI
  have hl4 : (S.map trOf).length ≤ 4096 := by omega
  generalize S.map trOf = L at *
  have HAny : Hid (∀ id, ∃ b, L.any (fun t => t.2 == id) = b) := Lib.hid fun id => ⟨_, rfl⟩
  obtain ⟨n, hn⟩ : ∃ n, L.length = n := ⟨_, rfl⟩
  obtain ⟨ao, cap, rfl⟩ := hrd.len
  have HR : Hid (RdT w (.slice ao L.length cap) L) := Lib.hid hrd
  have HFin : Hid (∀ (u : Value) (w1 : World), Sat w0 (sl 68 2 u L.length (trsV L) * (heapP h A p * (rfB q (.slice ao L.length cap) * (rl (.slice ao L.length cap) L * F)))) w1 → w1.cell? ⟨q, 0, none⟩ = some (.slice ao L.length cap) ∧ Calls Try.prog 41 #[u, .slice ao L.length cap] w1 fun e w' => e = .returned (.bool true) ∧ w'.cell? ⟨q, 0, none⟩ = some (.slice ao L.length cap) ∧ Sat w0 (heapP h A p * (rfB q (.slice ao L.length cap) * (rl (.slice ao L.length cap) L * F))) w') := Lib.hid fun u w1 h1 => by
    refine ⟨h1.pull3.cell 0 rfl, ?_⟩
    have := r_same4 L L u (.slice ao L.length cap) w1 h1.rd h1.pull4.rd (by omega) (by omega)
    rw [show decide (L = L) = true by simp] at this
    refine this.mono ?_
    rintro e w' ⟨rfl, N, rfl⟩
    exact ⟨rfl, h1.pull3.cell 0 rfl, (h1.drewN N).dropL⟩
  have q0 : ∀ (hz : L.length ≠ 0), ∃ b off, ao = some ⟨b, off, none⟩ ∧ w.cell? ⟨b, off, none⟩ = some (vu (gr L 0).1) := fun hz => by
    obtain ⟨b, off, e, hc⟩ := RdT.at_ HR.out hz
    exact ⟨b, off, e, by simpa using (hc 0 (by omega)).1⟩
  have HQ0 := Lib.hid q0
  clear q0 hrd HR
  rw [hn] at HN HLen HQ0 hl4 c0
  generalize hX : heapP h A p * (rfB q (.slice ao L.length cap) * (rl (.slice ao L.length cap) L * F)) = X at *
  have HX := Lib.hid hX
  clear hX hL
  generalize hs : sl 68 2 = SL at *
  rw [hn] at HAll HFin
  clear hs hn
  go_enter Try.func43, Try.ntmps43
  by_cases hz : n = 0
  · subst hz
    have HLen : Hid (∀ N, Calls Try.prog 18 #[vp h] (w.drewN N) fun e w' => e = .returned (vi 0) ∧ w.drewN N = w') := HLen
    have hlt0 : decide (0 < 0) = false := by simp
    go_wp2_with (go_at_call 47; refine HN.out.mono ?_; rintro e w' ⟨rfl, rfl⟩)
    go_quiet (first | (go_at_call 18; exact Calls.quiet_of_same ((HLen.out _).mono fun _ _ h => ⟨h.1, h.2.symm⟩)))
    go_wp2
    go_loopw [7] (fun i wr => ∃ z : Int, -1 ≤ z ∧ z ≤ 12 ∧ i = vi z ∧ ∃ N, wr = w.drewN N) (fun i _ => (12 - intOf i).toNat)
    case atStart => exact ⟨-1, by omega, by omega, rfl, _, rfl⟩
    case round =>
      obtain ⟨z, hz1, hz2, rfl, N, rfl⟩ := hrel
      by_cases hlt : z < 12
      · have hw1 : IntKind.i64.wrap (z + 1) = z + 1 := IntWalk.i64_in _ (by omega)
        obtain ⟨b, hb⟩ := HAny.out z
        have h1 := HHas.out z N
        have h2 := HRas.out z N
        rw [hb] at h1 h2
        have HG1 := Lib.hid h1
        have HG2 := Lib.hid h2
        have hbb : (b != b) = false := by simp
        clear hb h1 h2
        go_wp2_with (first
          | (go_at_call 42; refine HG1.out.mono ?_; rintro e w' ⟨rfl, rfl⟩)
          | (go_at_call 67; refine HG2.out.mono ?_; rintro e w' ⟨rfl, rfl⟩))
        go_roundw
        case rel => exact ⟨z + 1, by omega, by omega, by go_num, _, rfl⟩
        case measure => simp [intOf]; omega
      · obtain rfl : z = 12 := by omega
        go_wp2_with fail
        go_region_held3 (fun w' => w'.cell? ⟨q, 0, none⟩ = some (.slice ao 0 cap))
          (first | exact c0 | exact d0 | exact e0 | go_keep)
          (first
            | (go_at_call 40; refine (HAll.out (N + 1)).mono ?_; rintro e w1 ⟨u, rfl, hS1⟩; obtain ⟨d0, hc1⟩ := HFin.out _ _ hS1; have HC := Lib.hid hc1; clear hS1 hc1)
            | (go_at_call 41; refine HC.out.mono ?_; rintro e w2 ⟨rfl, e0, hS2⟩; have H2 := Lib.hid hS2; clear hS2))
        go_wp2
        go_ret
        exact ⟨rfl, H2.out⟩
  · obtain ⟨b, off, rfl, q0⟩ := HQ0.out hz
    rw [if_neg hz] at HN
    clear HQ0
    have hp : 0 < n := by omega
    have hpi : (0 : Int) < (n : Int) := by omega
    have hpd : decide (0 < n) = true := decide_eq_true hp
    generalize (gr L 0).1 = a0 at *
    have ha0 : (a0 != a0) = false := by simp
    go_wp2_with (go_at_call 47; refine HN.out.mono ?_; rintro e w' ⟨rfl, rfl⟩)
    go_quiet (first | (go_at_call 18; exact Calls.quiet_of_same ((HLen.out _).mono fun _ _ h => ⟨h.1, h.2.symm⟩)))
    go_wp2
    go_loopw [7] (fun i wr => ∃ z : Int, -1 ≤ z ∧ z ≤ 12 ∧ i = vi z ∧ ∃ N, wr = w.drewN N) (fun i _ => (12 - intOf i).toNat)
    case atStart => exact ⟨-1, by omega, by omega, rfl, _, rfl⟩
    case round =>
      obtain ⟨z, hz1, hz2, rfl, N, rfl⟩ := hrel
      by_cases hlt : z < 12
      · have hw1 : IntKind.i64.wrap (z + 1) = z + 1 := IntWalk.i64_in _ (by omega)
        obtain ⟨bb, hb⟩ := HAny.out z
        have h1 := HHas.out z N
        have h2 := HRas.out z N
        rw [hb] at h1 h2
        have HG1 := Lib.hid h1
        have HG2 := Lib.hid h2
        have hbb : (bb != bb) = false := by simp
        clear hb h1 h2
        go_wp2_with (first
          | (go_at_call 42; refine HG1.out.mono ?_; rintro e w' ⟨rfl, rfl⟩)
          | (go_at_call 67; refine HG2.out.mono ?_; rintro e w' ⟨rfl, rfl⟩))
        go_roundw
        case rel => exact ⟨z + 1, by omega, by omega, by go_num, _, rfl⟩
        case measure => simp [intOf]; omega
      · obtain rfl : z = 12 := by omega
        go_wp2_with fail
        go_region_held3 (fun w' => w'.cell? ⟨q, 0, none⟩ = some (.slice (some ⟨b, off, none⟩) n cap))
          (first | exact c0 | exact d0 | exact e0 | go_keep)
          (first
            | (go_at_call 40; refine (HAll.out (N + 1)).mono ?_; rintro e w1 ⟨u, rfl, hS1⟩; obtain ⟨d0, hc1⟩ := HFin.out _ _ hS1; have HC := Lib.hid hc1; clear hS1 hc1)
            | (go_at_call 41; refine HC.out.mono ?_; rintro e w2 ⟨rfl, e0, hS2⟩; have H2 := Lib.hid hS2; clear hS2))
        go_wp2
        go_ret
        exact ⟨rfl, H2.out⟩
theorem same4 (hS : Bal w0 h q F k w) (hk : k ≤ 1000) :
    Calls Try.prog 43 #[vp h, vp q] w fun e w' => e = .returned (.bool true) ∧ Bal w0 h q F k w' := by
  obtain ⟨A, p, S, hI, hp0, hp1, hA, hS⟩ := hS
  obtain ⟨v, hv⟩ := refP_open hS.pull2
  refine (same4_ hI (by omega) (hv.cast (by ac_rfl))).mono ?_
  rintro e w' ⟨rfl, h'⟩
  exact ⟨rfl, A, p, S, hI, hp0, hp1, hA, (refP_shut (F := heapP h A p * F) (h'.cast (by ac_rfl))).cast (by ac_rfl)⟩
end
end Go.Proofs.Ytcchfdoeacgapaa.Hm
