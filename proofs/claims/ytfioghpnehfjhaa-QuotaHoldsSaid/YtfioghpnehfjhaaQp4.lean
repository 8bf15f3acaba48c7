/-
  The walk of QuotaLess. No statement is proved here.
-/
import Derived.Test.YtfioghpnehfjhaaQp2
import Derived.Test.YtfioghpnehfjhaaQp3
import Derived.Test.YtfioghpnehfjhaaQk
namespace Go.Proofs.Ytfioghpnehfjhaa.Dm
open Go.RowKit Ad
set_option linter.unusedVariables false
set_option linter.unusedSimpArgs false

def kA : Nat → IntKind := fun j => if j = 0 then .i64 else if j = 1 then .i64 else .u64
theorem a_act {w0 : World} {ao : Option Addr} {cap n : Nat} {A : Nat → Int} (h : ArgK w0 3 kA (.slice ao n cap) n A) {k : Nat} (hk : k < n) :
    ∃ b off, ao = some ⟨b, off, none⟩ ∧ ∃ x0 x1 x2, (0 ≤ x2 ∧ x2 ≤ 18446744073709551615) ∧ ∀ (w : World) (F : Hp), Sat w0 F w → w.cell? ⟨b, off + k * 3, none⟩ = some (vi x0) ∧ w.cell? ⟨b, off + k * 3 + 1, none⟩ = some (vi x1) ∧ w.cell? ⟨b, off + k * 3 + 2, none⟩ = some (vu x2) := by
  have hw := h.wf (k * 3 + 2) (by omega)
  rcases h.form with ⟨h0, _⟩ | ⟨b, off, c, hv, hb, hc⟩
  · omega
  · cases hv
    refine ⟨b, off, rfl, A (k * 3 + 0), A (k * 3 + 1), A (k * 3 + 2), ?_, fun w F hS => ?_⟩
    · rw [show (k * 3 + 2) % 3 = 2 by omega] at hw
      have hw : (Lit.int .u64 (A (k * 3 + 2))).wf = true := hw
      simp only [Lit.wf, Bool.and_eq_true, decide_eq_true_eq] at hw
      exact ⟨hw.1, hw.2⟩
    · have g : ∀ j, j < n * 3 → w.cell? ⟨b, off + j, none⟩ = some (.int (kA (j % 3)) (A j)) := fun j hj => (hS.old (by exact hb)).trans (hc j hj)
      refine ⟨?_, ?_, ?_⟩
      · rw [g (k * 3) (by omega), show k * 3 % 3 = 0 by omega]; rfl
      · rw [Nat.add_assoc, g (k * 3 + 1) (by omega), show (k * 3 + 1) % 3 = 1 by omega]; rfl
      · rw [Nat.add_assoc, g (k * 3 + 2) (by omega), show (k * 3 + 2) % 3 = 2 by omega]; rfl
theorem Eu64 : SlT Try.prog 39 22 1 8 (vu 0) := SlT.mk' Try.underlying39 (by kernel_rfl) rfl (by decide)
/-- What was left of each, so far as it was asked. -/
def wasL (f : Nat → Int) (m i : Nat) : List Value := (List.range m).map fun j => vu (if j < i then f j else 0)
theorem wasL_at {f : Nat → Int} {m i j : Nat} (h : j < m) : (wasL f m i)[j]? = some (vu (if j < i then f j else 0)) := by
  unfold wasL
  rw [List.getElem?_map, List.getElem?_range h]
  rfl
theorem wasL_set {f : Nat → Int} {m i : Nat} (h : i < m) : (wasL f m i).set i (vu (f i)) = wasL f m (i + 1) := by
  refine List.ext_getElem? fun j => ?_
  by_cases hj : j < m
  · rw [wasL_at hj]
    by_cases hji : j = i
    · subst hji
      rw [List.getElem?_set_self (by simp [wasL]; exact hj), if_pos (by omega)]
    · rw [List.getElem?_set_ne (by omega), wasL_at hj]
      by_cases h2 : j < i
      · rw [if_pos h2, if_pos (by omega)]
      · rw [if_neg h2, if_neg (by omega)]
  · rw [List.getElem?_eq_none (by simp [wasL]; omega), List.getElem?_eq_none (by simp [wasL]; omega)]
theorem wasL_0 (f : Nat → Int) (m : Nat) : wasL f m 0 = List.replicate m (vu 0) := by
  refine List.ext_getElem? fun j => ?_
  rw [List.getElem?_replicate]
  by_cases hj : j < m
  · rw [wasL_at hj, if_pos hj]
    simp
  · rw [if_neg hj, List.getElem?_eq_none (by simp [wasL]; omega)]
/-- What is used behind Charge. -/
def chD (ps : List Pl) (cn : Nat → List Nat) (r : Nat) (u : Nat → Int) : Nat → Int := if 0 < lf ps u (cn r) then chU (cn r) u else u
theorem chD_u64 {ps : List Pl} {cn : Nat → List Nat} {r : Nat} {u : Nat → Int} (hu : ∀ k, U64 (u k)) : ∀ k, U64 (chD ps cn r u k) := fun k => by
  unfold chD
  split
  · exact chU_u64 hu k
  · exact hu k
section
variable {w0 w : World} {F : Hp} {d p : Nat} {ps : List Pl} {fr : List Nat} {m : Nat} {cn : Nat → List Nat} {u : Nat → Int}
theorem w_left (hi : DInv ps m) (hc : CnOk ps m cn) (hu : ∀ k, U64 (u k)) {k : Nat} (hk : k < m) (hS : Sat w0 (domB d p * (tblP p (wu ps u) fr * F)) w) :
    Calls Try.prog 13 #[vp d, vr k 1] w fun e w' => e = .returned (vu (lf ps u (cn k))) ∧ Sat w0 (domB d p * (tblP p (wu ps u) fr * F)) w' := by
  have h := q_Left hS k 1 _ (Ch_wu ps u _ _ (hc.ch k hk)) (by have := hc.len hk; have := hi.le; omega) (hi.used hu)
  rw [hi.left_wu u (hc.lt hk)] at h
  exact h
theorem w_can (hi : DInv ps m) (hc : CnOk ps m cn) (hu : ∀ k, U64 (u k)) {k : Nat} (hk : k < m) (hS : Sat w0 (domB d p * (tblP p (wu ps u) fr * F)) w) :
    Calls Try.prog 14 #[vp d, vr k 1] w fun e w' => e = .returned (.bool (decide (0 < lf ps u (cn k)))) ∧ Sat w0 (domB d p * (tblP p (wu ps u) fr * F)) w' := by
  have h := q_can hS k 1 _ (Ch_wu ps u _ _ (hc.ch k hk)) (by have := hc.len hk; have := hi.le; omega) (hi.used hu)
  rw [hi.left_wu u (hc.lt hk)] at h
  exact h
theorem w_charge (hi : DInv ps m) (hc : CnOk ps m cn) (hu : ∀ k, U64 (u k)) {k : Nat} (hk : k < m) (hS : Sat w0 (domB d p * (tblP p (wu ps u) fr * F)) w) :
    Calls Try.prog 11 #[vp d, vr k 1] w fun e w' => e = .returned (.bool (decide (0 < lf ps u (cn k)))) ∧ Sat w0 (domB d p * (tblP p (wu ps (chD ps cn k u)) fr * F)) w' := by
  have hch := Ch_wu ps u _ _ (hc.ch k hk)
  have hlen : ((cn k).map rf).length ≤ 1000 := by have := hc.len hk; have := hi.le; omega
  unfold chD
  by_cases hp : 0 < lf ps u (cn k)
  · have h := q_charge_yes hS k 1 _ hch hlen (hi.used hu) (by rw [hi.left_wu u (hc.lt hk)]; exact hp)
    rw [hi.charge_wu _ _ (hc.lt hk) (hc.nd k hk)] at h
    rw [decide_eq_true hp, if_pos hp]
    exact h
  · have h := q_charge_no hS k 1 _ hch hlen (hi.used hu) (by rw [hi.left_wu u (hc.lt hk)]; exact hp)
    rw [decide_eq_false hp, if_neg hp]
    exact h
theorem w_use (hi : DInv ps m) (hu : ∀ k, U64 (u k)) {k : Nat} (hk : k < m) {n : Int} (hn : U64 n) (hS : Sat w0 (domB d p * (tblP p (wu ps u) fr * F)) w) :
    Calls Try.prog 12 #[vp d, vr k 1, vu n] w fun e w' => ∃ v u', e = .returned v ∧ (∀ k, U64 (u' k)) ∧ Sat w0 (domB d p * (tblP p (wu ps u') fr * F)) w' := by
  have h := dm_use hS k 1 n (fun _ => ((hi.used hu).at_ _ _).2) hn
  refine h.mono fun e w' ⟨h1, h2⟩ => ⟨_, fun j => if j = k then addS (u k) n else u j, h1, fun j => ?_, ?_⟩
  · simp only
    split
    · exact addS_u64 (hu k) hn
    · exact hu j
  · rw [← hi.use_wu u hk n]
    exact h2
end
theorem lf_u64 {ps : List Pl} {m : Nat} {cn : Nat → List Nat} {u : Nat → Int} (hi : DInv ps m) (hc : CnOk ps m cn) (hu : ∀ k, U64 (u k)) {i : Nat} (h : i < m) : U64 (lf ps u (cn i)) := by
  have hne : cn i ≠ [] := fun e => by
    have := hc.self i h
    rw [e] at this
    cases this
  have h1 := minP_spec ((cn i).map fun j : Nat => subS (getX ps j 1).v3 (u j)) (by simpa using hne)
  obtain ⟨j, hj, e⟩ := List.mem_map.1 h1.1
  have h2 := hi.v3_le (hc.lt h j hj)
  have h3 := hu j
  unfold lf
  rw [← e]
  unfold U64 at h3 ⊢
  unfold subS
  split <;> omega
def QTrue (w0 : World) (e : Ending) (w' : World) : Prop := e = .returned (.bool true) ∧ Below w0.heap.size w0 w'
set_option maxRecDepth 100000 in
set_option maxHeartbeats 8000000 in
theorem less_walk (w0 : World) (cpu per : Int) (hc : 0 ≤ cpu) (v : Value) (len : Nat) (A : Nat → Int) (hA : ArgK w0 4 kC v len A) (v2 : Value) (len2 : Nat) (A2 : Nat → Int) (hA2 : ArgK w0 3 kA v2 len2 A2) (at_ : Int) :
    Calls Try.prog 3 #[vu cpu, vu per, v, v2, vi at_] w0 (QTrue w0) := by
  have hv : ∃ ao cap, v2 = .slice ao len2 cap := by
    rcases hA2.form with ⟨rfl, ao, cap, rfl⟩ | ⟨b, off, cap, rfl, _⟩
    · exact ⟨_, _, rfl⟩
    · exact ⟨_, _, rfl⟩
  obtain ⟨ao, cap, rfl⟩ := hv
  have HMd := Lib.hid (made_ (Sat.start w0) cpu per hc v len A hA)
  have HA := Lib.hid hA2
  clear hA hA2
  go_enter Try.func3, Try.ntmps3
  go_wp2_with fail
  refine HMd.out.mono ?_
  rintro e w1 (⟨rfl, hS⟩ | ⟨d, p, q, vR, ps, m, hi, rfl, hS⟩)
  · have H1 := Lib.hid hS
    clear hS
    go_wp2_with (go_at_call 10; refine (known10 H1.out).mono ?_; rintro e w9 ⟨rfl, hS9⟩; have H9 := Lib.hid hS9; clear hS9)
    go_ret
    exact ⟨rfl, H9.out.below⟩
  · have hpos := hi.pos
    have hmle := hi.le
    obtain ⟨cn, hcn⟩ := hi.cn
    rw [← hi.wu0] at hS
    have H1 := Lib.hid hS
    have HI := Lib.hid hi
    have HCn := Lib.hid hcn
    obtain ⟨gro, rcap, rfl⟩ := hS.pull3.rd.len
    obtain ⟨gr, rfl⟩ : ∃ gr, gro = some ⟨gr, 0, none⟩ := by
      rcases hS.pull3.slE.2 with ⟨_, h0, _⟩ | ⟨g', c', cur, hv, _⟩
      · omega
      · injection hv with h1 h2 h3
        exact ⟨g', h1⟩
    clear hS hi hcn
    generalize newF 32 (32 - m) = fr at *
    by_cases hl : 60 < len2
    · have hli : (60 : Int) < (len2 : Int) := by omega
      go_wp2_with (go_at_call 10; refine (known10 H1.out).mono ?_; rintro e w9 ⟨rfl, hS9⟩; have H9 := Lib.hid hS9; clear hS9)
      go_ret
      exact ⟨rfl, H9.out.below⟩
    · have hli : ¬ (60 : Int) < (len2 : Int) := by omega
      go_wp2_with fail
      go_loopw [15] (fun ix wr => ∃ (k : Nat) (u : Nat → Int), k ≤ len2 ∧ ix = vi k ∧ (∀ j, U64 (u j)) ∧ Sat w0 (sl 32 2 (.slice (some ⟨gr, 0, none⟩) m rcap) m (frefs (refsL m)) * (domB d p * (tblP p (wu ps u) fr * emp))) wr) (fun ix _ => len2 - (intOf ix).toNat)
      case atStart => exact ⟨0, fun _ => 0, Nat.zero_le _, rfl, fun _ => (show U64 0 from ⟨by decide, by decide⟩), H1.out.pull3⟩
      case round =>
        obtain ⟨k, u, hk, rfl, hu, hS⟩ := hrel
        have HU := Lib.hid hu
        clear hu
        by_cases hlt : k < len2
        · have hki : (k : Int) < (len2 : Int) := by omega
          obtain ⟨b, off, rfl, x0, x1, x2, hx2, hca⟩ := a_act HA.out hlt
          obtain ⟨a0, a1, a2⟩ := hca _ _ hS
          have HC := Lib.hid hca
          obtain ⟨idx, hix, hw64⟩ := idx_fact x1 m (by omega) (by omega)
          have hixi : (idx : Int) < (m : Int) := by omega
          have g0 := hS.slCell _ (frefs_at (refsL_at hix)).1
          have g1 := hS.slCell _ (frefs_at (refsL_at hix)).2
          dsimp only at g0 g1
          have hB : Sat w0 (pc wr.heap.size 32 [vi idx, vu 1] * (sl 32 2 (.slice (some ⟨gr, 0, none⟩) m rcap) m (frefs (refsL m)) * (domB d p * (tblP p (wu ps u) fr * emp)))) (wr.alloc (.cells #[vi idx, vu 1] 32)) := hS.alloc _
          obtain ⟨c0', _, c2'⟩ := hca _ _ hB
          have i0 := hB.cell 0 rfl
          have i1 := hB.cell 1 rfl
          have hD : Sat w0 (domB d p * (tblP p (wu ps u) fr * (pc wr.heap.size 32 [vi idx, vu 1] * (sl 32 2 (.slice (some ⟨gr, 0, none⟩) m rcap) m (frefs (refsL m)) * emp)))) (wr.alloc (.cells #[vi idx, vu 1] 32)) := hB.cast (by ac_rfl)
          have HD := Lib.hid hD
          clear hS hB hca hD
          by_cases hk1 : x0 = 1
          · subst hk1
            have HChg := Lib.hid (w_charge HI.out HCn.out HU.out hix HD.out)
            go_wp2_with (go_at_call 11; refine HChg.out.mono ?_; rintro e w5 ⟨rfl, hS5⟩; have H5 := Lib.hid hS5; clear hS5)
            go_roundw
            case rel => exact ⟨k + 1, chD ps cn idx u, by omega, by go_num, chD_u64 HU.out, (H5.out.cast (show _ = pc wr.heap.size 32 [vi idx, vu 1] * (sl 32 2 (.slice (some ⟨gr, 0, none⟩) m rcap) m (frefs (refsL m)) * (domB d p * (tblP p (wu ps (chD ps cn idx u)) fr * emp))) by ac_rfl)).dropL⟩
            case measure => (simp [intOf]; try omega)
          · have hk2 : (x0 == 1) = false := beq_eq_false_iff_ne.2 hk1
            have ht8 : x2.tmod 8 = x2 % 8 := Int.tmod_eq_emod_of_nonneg hx2.1
            have HUse := Lib.hid (w_use HI.out HU.out hix (n := x2.tmod 8) (by rw [ht8]; exact ⟨by omega, by omega⟩) HD.out.drew)
            clear ht8
            clear hk1
            go_wp2_with fail
            go_region_held3 (fun w' => w'.cell? ⟨wr.heap.size, 0, none⟩ = some (vi idx) ∧ w'.cell? ⟨wr.heap.size, 1, none⟩ = some (vu 1) ∧ w'.cell? ⟨b, off + k * 3 + 2, none⟩ = some (vu x2))
              (first | exact ⟨f0, f1, f2⟩ | go_keep)
              (first | (go_at_call 12; refine HUse.out.mono ?_; rintro e w5 ⟨v5, u5, rfl, hu5, hS5⟩; have f0 := hS5.pull3.cell 0 rfl; have f1 := hS5.pull3.cell 1 rfl; obtain ⟨_, _, f2⟩ := HC.out _ _ hS5; have HU5 := Lib.hid hu5; have H5 := Lib.hid hS5; clear hS5 hu5))
            go_wp2
            go_roundw
            case rel => exact ⟨k + 1, u5, by omega, by go_num, HU5.out, (H5.out.cast (show _ = pc wr.heap.size 32 [vi idx, vu 1] * (sl 32 2 (.slice (some ⟨gr, 0, none⟩) m rcap) m (frefs (refsL m)) * (domB d p * (tblP p (wu ps u5) fr * emp))) by ac_rfl)).dropL⟩
            case measure => (simp [intOf]; try omega)
        · obtain rfl : k = len2 := by omega
          have HS := Lib.hid hS
          obtain ⟨ir, hir, hw64⟩ := idx_fact at_ m (by omega) (by omega)
          have hiri : (ir : Int) < (m : Int) := by omega
          have g0 := hS.slCell _ (frefs_at (refsL_at hir)).1
          have g1 := hS.slCell _ (frefs_at (refsL_at hir)).2
          dsimp only at g0 g1
          have hB : Sat w0 (pc wr.heap.size 32 [vi ir, vu 1] * (sl 32 2 (.slice (some ⟨gr, 0, none⟩) m rcap) m (frefs (refsL m)) * (domB d p * (tblP p (wu ps u) fr * emp)))) (wr.alloc (.cells #[vi ir, vu 1] 32)) := hS.alloc _
          have HB := Lib.hid hB
          clear hS hB
          go_wp2_with (at_make; refine wpList_make_sl Eu64 rfl _ _ rfl .i64 .i64 m m m m rfl rfl rfl rfl (by omega) (by omega) (by omega) HB.out ?_; intro gw w2 hM; have HM := Lib.hid hM; clear hM)
          clear g0 g1
          generalize wr.heap.size = b17 at *
          have h0 : Sat w0 (sl 22 1 (.slice (some ⟨gw, 0, none⟩) m m) m (wasL (fun i => lf ps u (cn i)) m 0) * (pc b17 32 [vi ir, vu 1] * (sl 32 2 (.slice (some ⟨gr, 0, none⟩) m rcap) m (frefs (refsL m)) * (domB d p * (tblP p (wu ps u) fr * emp))))) w2 := by
            have h5 := HM.out
            rw [flat_made (f := fun x : Int => [vu x]) (N := 1) (fun _ => rfl) (by omega) (vu 0) 0 rfl m] at h5
            have hl2 : (List.replicate m (0 : Int)).flatMap (fun x : Int => [vu x]) = List.replicate m (vu 0) := by
              rw [← List.map_eq_flatMap, List.map_replicate]
            rw [hl2] at h5
            have h6 := h5.slI (n := m) (cap := m) (size := 1) (xs := List.replicate m (vu 0)) (Nat.le_refl _) (by unfold maxLen; omega) (by simp) (List.take_of_length_le (by simp))
            rw [wasL_0]
            exact h6
          have H0 := Lib.hid h0
          clear h0 HM HB HS
          go_loopw [19] (fun ix wr => ∃ i : Nat, i ≤ m ∧ ix = vi i ∧ Sat w0 (sl 22 1 (.slice (some ⟨gw, 0, none⟩) m m) m (wasL (fun i => lf ps u (cn i)) m i) * (pc b17 32 [vi ir, vu 1] * (sl 32 2 (.slice (some ⟨gr, 0, none⟩) m rcap) m (frefs (refsL m)) * (domB d p * (tblP p (wu ps u) fr * emp))))) wr) (fun ix _ => m - (intOf ix).toNat)
          case atStart => exact ⟨0, Nat.zero_le _, rfl, H0.out⟩
          case round =>
            obtain ⟨i, hile, rfl, hS⟩ := hrel
            by_cases hi2 : i < m
            · have hii : (i : Int) < (m : Int) := by omega
              have g0 := hS.dropL.dropL.slCell _ (frefs_at (refsL_at hi2)).1
              have g1 := hS.dropL.dropL.slCell _ (frefs_at (refsL_at hi2)).2
              dsimp only at g0 g1
              have HLf := Lib.hid (w_left HI.out HCn.out HU.out hi2 (hS.cast (show _ = domB d p * (tblP p (wu ps u) fr * (sl 22 1 (.slice (some ⟨gw, 0, none⟩) m m) m (wasL (fun i => lf ps u (cn i)) m i) * (pc b17 32 [vi ir, vu 1] * (sl 32 2 (.slice (some ⟨gr, 0, none⟩) m rcap) m (frefs (refsL m)) * emp)))) by ac_rfl)))
              clear hS
              go_wp2_with (go_at_call 13; refine HLf.out.mono ?_; rintro e w7 ⟨rfl, hS7⟩; have hT : Sat w0 (sl 22 1 (.slice (some ⟨gw, 0, none⟩) m m) m (wasL (fun i => lf ps u (cn i)) m i) * (pc b17 32 [vi ir, vu 1] * (sl 32 2 (.slice (some ⟨gr, 0, none⟩) m rcap) m (frefs (refsL m)) * (domB d p * (tblP p (wu ps u) fr * emp))))) w7 := hS7.cast (by ac_rfl); have wc := hT.slCell i (wasL_at hi2); have wf := hT.slFree i; have HT := Lib.hid (hT.slStore i (by omega) (vu (lf ps u (cn i)))); clear hS7 hT)
              go_roundw
              case rel =>
                refine ⟨i + 1, by omega, by go_num, ?_⟩
                have h9 := HT.out
                rw [wasL_set (f := fun i => lf ps u (cn i)) hi2] at h9
                exact h9
              case measure => (simp [intOf]; try omega)
            · obtain rfl : m = i := by omega
              have hcan := w_can HI.out HCn.out HU.out hir (hS.cast (show _ = domB d p * (tblP p (wu ps u) fr * (sl 22 1 (.slice (some ⟨gw, 0, none⟩) m m) m (wasL (fun i => lf ps u (cn i)) m m) * (pc b17 32 [vi ir, vu 1] * (sl 32 2 (.slice (some ⟨gr, 0, none⟩) m rcap) m (frefs (refsL m)) * emp)))) by ac_rfl))
              have hchg : ∀ w1 : World, Sat w0 (domB d p * (tblP p (wu ps u) fr * (sl 22 1 (.slice (some ⟨gw, 0, none⟩) m m) m (wasL (fun i => lf ps u (cn i)) m m) * (pc b17 32 [vi ir, vu 1] * (sl 32 2 (.slice (some ⟨gr, 0, none⟩) m rcap) m (frefs (refsL m)) * emp))))) w1 → Calls Try.prog 11 #[vp d, vr ir 1] w1 fun e w' => e = .returned (.bool (decide (0 < lf ps u (cn ir)))) ∧ Sat w0 (domB d p * (tblP p (wu ps (chD ps cn ir u)) fr * (sl 22 1 (.slice (some ⟨gw, 0, none⟩) m m) m (wasL (fun i => lf ps u (cn i)) m m) * (pc b17 32 [vi ir, vu 1] * (sl 32 2 (.slice (some ⟨gr, 0, none⟩) m rcap) m (frefs (refsL m)) * emp))))) w' := fun w1 h1 => w_charge HI.out HCn.out HU.out hir h1
              have kk0 := hS.pull2.cell 0 rfl
              have kk1 := hS.pull2.cell 1 rfl
              have HBd : Hid (∀ i, i < m → U64 (lf ps u (cn i))) := Lib.hid fun i hi2 => lf_u64 HI.out HCn.out HU.out hi2
              by_cases hp : 0 < lf ps u (cn ir)
              · have HLess := Lib.hid (HI.out.less HCn.out HU.out hir hp)
                have HP := Lib.hid hp
                rw [decide_eq_true hp] at hcan
                rw [show chU (cn ir) u = chD ps cn ir u by unfold chD; rw [if_pos hp]] at HLess
                have HCan := Lib.hid hcan
                have HChg := Lib.hid (fun w1 h1 => by have := hchg w1 h1; rw [decide_eq_true hp] at this; exact this)
                have HU' := Lib.hid (chD_u64 (ps := ps) (cn := cn) (r := ir) HU.out)
                clear hS hcan hchg hp
                generalize chD ps cn ir u = u' at *
                go_wp2_with (first
                  | (go_at_call 14; refine HCan.out.mono ?_; rintro e w5 ⟨rfl, hS5⟩; have k0 := hS5.pull4.cell 0 rfl; have k1 := hS5.pull4.cell 1 rfl; have H5 := Lib.hid hS5; clear hS5)
                  | (go_at_call 11; refine (HChg.out _ H5.out).mono ?_; rintro e w6 ⟨rfl, hS6⟩; have H6 : Hid (Sat w0 (sl 22 1 (.slice (some ⟨gw, 0, none⟩) m m) m (wasL (fun i => lf ps u (cn i)) m m) * (pc b17 32 [vi ir, vu 1] * (sl 32 2 (.slice (some ⟨gr, 0, none⟩) m rcap) m (frefs (refsL m)) * (domB d p * (tblP p (wu ps u') fr * emp))))) w6) := Lib.hid (hS6.cast (by ac_rfl)); clear hS6 k0 k1))
                go_loopw [21] (fun ix wr => ∃ i : Nat, i ≤ m ∧ ix = vi i ∧ Sat w0 (sl 22 1 (.slice (some ⟨gw, 0, none⟩) m m) m (wasL (fun i => lf ps u (cn i)) m m) * (pc b17 32 [vi ir, vu 1] * (sl 32 2 (.slice (some ⟨gr, 0, none⟩) m rcap) m (frefs (refsL m)) * (domB d p * (tblP p (wu ps u') fr * emp))))) wr) (fun ix _ => m - (intOf ix).toNat)
                case atStart => exact ⟨0, Nat.zero_le _, rfl, H6.out⟩
                case round =>
                  obtain ⟨i, hile, rfl, hS⟩ := hrel
                  by_cases hi2 : i < m
                  · have hii : (i : Int) < (m : Int) := by omega
                    have g0 := hS.dropL.dropL.slCell _ (frefs_at (refsL_at hi2)).1
                    have g1 := hS.dropL.dropL.slCell _ (frefs_at (refsL_at hi2)).2
                    dsimp only at g0 g1
                    have HLf := Lib.hid (w_left HI.out HCn.out HU'.out hi2 (hS.cast (show _ = domB d p * (tblP p (wu ps u') fr * (sl 22 1 (.slice (some ⟨gw, 0, none⟩) m m) m (wasL (fun i => lf ps u (cn i)) m m) * (pc b17 32 [vi ir, vu 1] * (sl 32 2 (.slice (some ⟨gr, 0, none⟩) m rcap) m (frefs (refsL m)) * emp)))) by ac_rfl)))
                    clear hS
                    obtain ⟨wv, hwv⟩ : ∃ wv, lf ps u (cn i) = wv := ⟨_, rfl⟩
                    have HWv := Lib.hid hwv
                    have hle := HLess.out.1 i hi2
                    rw [hwv] at hle
                    by_cases hir2 : i = ir
                    · subst hir2
                      have hpr := HLess.out.2
                      rw [hwv] at hpr
                      have hpw : 0 < wv := by rw [← hwv]; exact HP.out
                      have hwb : 0 ≤ wv ∧ wv ≤ 18446744073709551615 := hwv ▸ HBd.out i hi2
                      rw [hpr] at HLf
                      clear hwv hle hpr
                      have hww : IntKind.u64.wrap (wv - 1) = wv - 1 := IntWalk.u64_in _ (by omega)
                      have hnlt : decide (wv < wv - 1) = false := decide_eq_false (by omega)
                      have hnlt2 : ¬ wv < wv - 1 := by omega
                      go_wp2_with (go_at_call 13; refine HLf.out.mono ?_; rintro e w7 ⟨rfl, hS7⟩; have hT : Sat w0 (sl 22 1 (.slice (some ⟨gw, 0, none⟩) m m) m (wasL (fun i => lf ps u (cn i)) m m) * (pc b17 32 [vi i, vu 1] * (sl 32 2 (.slice (some ⟨gr, 0, none⟩) m rcap) m (frefs (refsL m)) * (domB d p * (tblP p (wu ps u') fr * emp))))) w7 := hS7.cast (by ac_rfl); clear g0 g1; have g0 := hT.dropL.dropL.slCell _ (frefs_at (refsL_at hi2)).1; have g1 := hT.dropL.dropL.slCell _ (frefs_at (refsL_at hi2)).2; dsimp only at g0 g1; have wc := hT.slCell i (wasL_at hi2); rw [if_pos hi2, HWv.out] at wc; have k0 := hT.pull2.cell 0 rfl; have k1 := hT.pull2.cell 1 rfl; have HT := Lib.hid hT; clear hS7 hT)
                      go_quiet (fail)
                      go_wp2
                      go_roundw
                      case rel => exact ⟨i + 1, by omega, by go_num, HT.out.drewN _⟩
                      case measure => (simp [intOf]; try omega)
                    · have hne : ((i : Int) == (ir : Int)) = false := beq_eq_false_iff_ne.2 (by omega)
                      clear hwv hir2
                      generalize lf ps u' (cn i) = nv at *
                      have hnlt : decide (wv < nv) = false := decide_eq_false (by omega)
                      have hnlt2 : ¬ wv < nv := by omega
                      go_wp2_with (go_at_call 13; refine HLf.out.mono ?_; rintro e w7 ⟨rfl, hS7⟩; have hT : Sat w0 (sl 22 1 (.slice (some ⟨gw, 0, none⟩) m m) m (wasL (fun i => lf ps u (cn i)) m m) * (pc b17 32 [vi ir, vu 1] * (sl 32 2 (.slice (some ⟨gr, 0, none⟩) m rcap) m (frefs (refsL m)) * (domB d p * (tblP p (wu ps u') fr * emp))))) w7 := hS7.cast (by ac_rfl); clear g0 g1; have g0 := hT.dropL.dropL.slCell _ (frefs_at (refsL_at hi2)).1; have g1 := hT.dropL.dropL.slCell _ (frefs_at (refsL_at hi2)).2; dsimp only at g0 g1; have wc := hT.slCell i (wasL_at hi2); rw [if_pos hi2, HWv.out] at wc; have k0 := hT.pull2.cell 0 rfl; have k1 := hT.pull2.cell 1 rfl; have HT := Lib.hid hT; clear hS7 hT)
                      go_quiet (fail)
                      go_wp2
                      go_roundw
                      case rel => exact ⟨i + 1, by omega, by go_num, HT.out.drewN _⟩
                      case measure => (simp [intOf]; try omega)
                  · obtain rfl : m = i := by omega
                    have H8 := Lib.hid hS
                    clear hS
                    go_wp2_with (go_at_call 10; refine (known10 H8.out).mono ?_; rintro e w9 ⟨rfl, hS9⟩; have H9 := Lib.hid hS9; clear hS9)
                    go_ret
                    exact ⟨rfl, H9.out.below⟩
              · rw [decide_eq_false hp] at hcan
                have HUe : Hid (chD ps cn ir u = u) := Lib.hid (by unfold chD; rw [if_neg hp])
                have HCan := Lib.hid hcan
                have HChg := Lib.hid (fun w1 h1 => by have := hchg w1 h1; rw [decide_eq_false hp] at this; exact this)
                have HU' := Lib.hid (chD_u64 (ps := ps) (cn := cn) (r := ir) HU.out)
                clear hS hcan hchg hp
                generalize chD ps cn ir u = u' at *
                go_wp2_with (first
                  | (go_at_call 14; refine HCan.out.mono ?_; rintro e w5 ⟨rfl, hS5⟩; have k0 := hS5.pull4.cell 0 rfl; have k1 := hS5.pull4.cell 1 rfl; have H5 := Lib.hid hS5; clear hS5)
                  | (go_at_call 11; refine (HChg.out _ H5.out).mono ?_; rintro e w6 ⟨rfl, hS6⟩; have H6 : Hid (Sat w0 (sl 22 1 (.slice (some ⟨gw, 0, none⟩) m m) m (wasL (fun i => lf ps u (cn i)) m m) * (pc b17 32 [vi ir, vu 1] * (sl 32 2 (.slice (some ⟨gr, 0, none⟩) m rcap) m (frefs (refsL m)) * (domB d p * (tblP p (wu ps u') fr * emp))))) w6) := Lib.hid (hS6.cast (by ac_rfl)); clear hS6 k0 k1))
                go_loopw [21] (fun ix wr => ∃ i : Nat, i ≤ m ∧ ix = vi i ∧ Sat w0 (sl 22 1 (.slice (some ⟨gw, 0, none⟩) m m) m (wasL (fun i => lf ps u (cn i)) m m) * (pc b17 32 [vi ir, vu 1] * (sl 32 2 (.slice (some ⟨gr, 0, none⟩) m rcap) m (frefs (refsL m)) * (domB d p * (tblP p (wu ps u') fr * emp))))) wr) (fun ix _ => m - (intOf ix).toNat)
                case atStart => exact ⟨0, Nat.zero_le _, rfl, H6.out⟩
                case round =>
                  obtain ⟨i, hile, rfl, hS⟩ := hrel
                  by_cases hi2 : i < m
                  · have hii : (i : Int) < (m : Int) := by omega
                    have g0 := hS.dropL.dropL.slCell _ (frefs_at (refsL_at hi2)).1
                    have g1 := hS.dropL.dropL.slCell _ (frefs_at (refsL_at hi2)).2
                    dsimp only at g0 g1
                    have HLf := Lib.hid (w_left HI.out HCn.out HU'.out hi2 (hS.cast (show _ = domB d p * (tblP p (wu ps u') fr * (sl 22 1 (.slice (some ⟨gw, 0, none⟩) m m) m (wasL (fun i => lf ps u (cn i)) m m) * (pc b17 32 [vi ir, vu 1] * (sl 32 2 (.slice (some ⟨gr, 0, none⟩) m rcap) m (frefs (refsL m)) * emp)))) by ac_rfl)))
                    clear hS
                    obtain ⟨wv, hwv⟩ : ∃ wv, lf ps u (cn i) = wv := ⟨_, rfl⟩
                    have HWv := Lib.hid hwv
                    have hl2 : lf ps u' (cn i) = wv := by rw [HUe.out]; exact hwv
                    rw [hl2] at HLf
                    clear hwv
                    have hnlt : decide (wv < wv) = false := decide_eq_false (by omega)
                    go_wp2_with (go_at_call 13; refine HLf.out.mono ?_; rintro e w7 ⟨rfl, hS7⟩; have hT : Sat w0 (sl 22 1 (.slice (some ⟨gw, 0, none⟩) m m) m (wasL (fun i => lf ps u (cn i)) m m) * (pc b17 32 [vi ir, vu 1] * (sl 32 2 (.slice (some ⟨gr, 0, none⟩) m rcap) m (frefs (refsL m)) * (domB d p * (tblP p (wu ps u') fr * emp))))) w7 := hS7.cast (by ac_rfl); clear g0 g1; have g0 := hT.dropL.dropL.slCell _ (frefs_at (refsL_at hi2)).1; have g1 := hT.dropL.dropL.slCell _ (frefs_at (refsL_at hi2)).2; dsimp only at g0 g1; have wc := hT.slCell i (wasL_at hi2); rw [if_pos hi2, HWv.out] at wc; have k0 := hT.pull2.cell 0 rfl; have k1 := hT.pull2.cell 1 rfl; have HT := Lib.hid hT; clear hS7 hT)
                    go_quiet (fail)
                    go_wp2
                    go_roundw
                    case rel => exact ⟨i + 1, by omega, by go_num, HT.out.drewN _⟩
                    case measure => (simp [intOf]; try omega)
                  · obtain rfl : m = i := by omega
                    have H8 := Lib.hid hS
                    clear hS
                    go_wp2_with (go_at_call 10; refine (known10 H8.out).mono ?_; rintro e w9 ⟨rfl, hS9⟩; have H9 := Lib.hid hS9; clear hS9)
                    go_ret
                    exact ⟨rfl, H9.out.below⟩
theorem less_row (w0 : World) (cpu : Int) (wc : (Lit.int .u64 cpu).wf = true) (per : Int) (_ : (Lit.int .u64 per).wf = true) (v : Value) (len : Nat) (A : Nat → Int) (hA : ArgK w0 4 kC v len A) (v2 : Value) (len2 : Nat) (A2 : Nat → Int) (hA2 : ArgK w0 3 kA v2 len2 A2) (at_ : Int) (_ : (Lit.int .i64 at_).wf = true) :
    Calls Try.prog 3 #[vu cpu, vu per, v, v2, vi at_] w0 (QTrue w0) := by
  simp only [Lit.wf, Bool.and_eq_true, decide_eq_true_eq] at wc
  exact less_walk w0 cpu per wc.1 v len A hA v2 len2 A2 hA2 at_
end Go.Proofs.Ytfioghpnehfjhaa.Dm
