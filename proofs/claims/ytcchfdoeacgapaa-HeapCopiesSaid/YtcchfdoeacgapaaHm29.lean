/-
  slices.Equal at timers; Same, Copy of the heap; Copy of the reference. No statement is proved here.
-/
import Derived.Test.YtcchfdoeacgapaaHm27
import Derived.Shelf.SlMaps.Clone
namespace Go.Proofs.Ytcchfdoeacgapaa.Hm
open Go.RowKit
set_option linter.unusedVariables false

set_option maxRecDepth 100000 in
set_option maxHeartbeats 2000000 in
theorem equal4 (xs ys : List Tr) (v u : Value) (w : World) (h : RdT w v xs) (h' : RdT w u ys) (hl : xs.length ≤ 100000) (hl' : ys.length ≤ 100000) :
    Calls Try.prog 69 #[v, u] w fun e w' => e = .returned (.bool (decide (xs = ys))) ∧ ∃ k, w' = w.drewN k := by
  obtain ⟨ao, cap, rfl⟩ := h.len
  obtain ⟨ao', cap', rfl⟩ := h'.len
  by_cases hlen : xs.length = ys.length
  · have h0 : ((xs.length : Int) != (ys.length : Int)) = false := by simp; omega
    have HP : Hid (∀ k, gr xs k ≠ gr ys k → decide (xs = ys) = false) := Lib.hid fun k => sameT_part
    have HA : Hid ((∀ j, j < xs.length → gr xs j = gr ys j) → decide (xs = ys) = true) := Lib.hid (sameT_all hlen)
    generalize decide (xs = ys) = d at *
    obtain ⟨n, hn⟩ : ∃ n, xs.length = n := ⟨_, rfl⟩
    have hn' : ys.length = n := by omega
    rw [hn] at h h0 hl HA
    rw [hn'] at h' h0
    have HC : Hid (n ≠ 0 → ∃ b off, ao = some ⟨b, off, none⟩ ∧ ∀ k, k < n → w.cell? ⟨b, off + k * 2, none⟩ = some (vu (gr xs k).1) ∧ w.cell? ⟨b, off + k * 2 + 1, none⟩ = some (vi (gr xs k).2)) := Lib.hid fun hz => by
      have := RdT.at_ h (by omega)
      rwa [hn] at this
    have HC' : Hid (n ≠ 0 → ∃ b off, ao' = some ⟨b, off, none⟩ ∧ ∀ k, k < n → w.cell? ⟨b, off + k * 2, none⟩ = some (vu (gr ys k).1) ∧ w.cell? ⟨b, off + k * 2 + 1, none⟩ = some (vi (gr ys k).2)) := Lib.hid fun hz => by
      have := RdT.at_ h' (by omega)
      rwa [hn'] at this
    rw [hn, hn']
    clear h h' hn hn' hlen hl'
    go_enter Try.func69, Try.ntmps69
    go_wp2
    go_loopw [13] (fun i wr => ∃ k : Nat, k ≤ n ∧ i = vi k ∧ Hid (∀ j, j < k → gr xs j = gr ys j) ∧ ∃ N, wr = w.drewN N) (fun i _ => n - (intOf i).toNat)
    case atStart => exact ⟨0, Nat.zero_le _, rfl, Lib.hid (fun j hj => by omega), 0, rfl⟩
    case round =>
      obtain ⟨k, hk, rfl, hno, N, rfl⟩ := hrel
      by_cases hlt : k < n
      · obtain ⟨b, off, rfl, hc⟩ := HC.out (by omega)
        obtain ⟨b', off', rfl, hc'⟩ := HC'.out (by omega)
        obtain ⟨c1, c2⟩ := hc k hlt
        obtain ⟨d1, d2⟩ := hc' k hlt
        have HPk := Lib.hid (HP.out k)
        have HE : Hid (gr xs k = gr ys k → ∀ j, j < k + 1 → gr xs j = gr ys j) := Lib.hid fun e j hj => by
          rcases Nat.lt_succ_iff_lt_or_eq.1 hj with h1 | rfl
          · exact hno.out j h1
          · exact e
        clear hc hc'
        generalize gr xs k = x at *
        generalize gr ys k = y at *
        obtain ⟨x1, x2⟩ := x
        obtain ⟨y1, y2⟩ := y
        by_cases e1 : x1 = y1
        · subst e1
          by_cases e2 : x2 = y2
          · subst e2
            have HE2 := Lib.hid (HE.out rfl)
            go_wp2
            go_quiet (fail)
            go_wp2
            go_roundw
            case rel => exact ⟨k + 1, by omega, by go_num, HE2, _, rfl⟩
            case measure => simp [intOf]; omega
          · have hne : (x2 == y2) = false := by simpa using e2
            have HF := Lib.hid (HPk.out (fun e => e2 (congrArg Prod.snd e)))
            clear e2
            go_wp2
            go_quiet (fail)
            go_wp2
            go_ret
            exact ⟨by rw [HF.out]; rfl, _, World.drewN_drewN _ _ _⟩
        · have hne : (x1 == y1) = false := by simpa using e1
          have HF := Lib.hid (HPk.out (fun e => e1 (congrArg Prod.fst e)))
          clear e1
          go_wp2
          go_quiet (fail)
          go_wp2
          go_ret
          exact ⟨by rw [HF.out]; rfl, _, World.drewN_drewN _ _ _⟩
      · obtain rfl : k = n := by omega
        go_wp2
        go_ret
        exact ⟨by rw [HA.out hno.out]; rfl, N, rfl⟩
  · have h0 : ((xs.length : Int) != (ys.length : Int)) = true := by simp; omega
    have e := sameT_len hlen
    rw [e]
    clear hlen e
    go_enter Try.func69, Try.ntmps69
    go_wp2
    go_ret
    exact ⟨rfl, 0, rfl⟩
section
variable {w0 w : World} {F : Hp} {h q o : Nat} {A B S S2 : List Tm} {p p2 : Int} {L : List Tr}
set_option maxRecDepth 100000 in
theorem maps_clone (b : Nat) (es : Array MapEntry) (clock : Nat) (w : World) (hb : w.heap[b]? = some (.map es clock)) :
    Calls Try.prog 68 #[.map (some b)] w fun e w' => e = .returned (.map (some w.heap.size)) ∧ w' = w.alloc (.map es clock) := by
  have hq := fun w => run_eql_map_nil_sl (P := Try.prog) w 77 _ _ (some b) Try.underlying77
  go_enter Try.func68, Try.ntmps68
  go_wp2
  rw [run_callFunc_extern Try.func82 (by kernel_rfl) (by kernel_rfl) (by kernel_rfl) (e := Extern.MapsClone.clone) (by kernel_rfl), run_maps_clone_sl w 77 hb]
  simp only [Result.andThen]
  rw [Oper.upon_value]
  go_wp2
  rw [run_typeAssert_map_sl _ 77 _ _ _ _ Try.underlying77]
  simp only [Result.andThen]
  rw [Oper.upon_value]
  go_wp2
  go_ret
  exact ⟨rfl, rfl⟩
set_option maxRecDepth 100000 in
theorem maps_clone_nil (w : World) :
    Calls Try.prog 68 #[.map none] w fun e w' => e = .returned (.map none) ∧ w' = w := by
  have hq := fun w => run_eql_map_nil_sl (P := Try.prog) w 77 _ _ none Try.underlying77
  go_enter Try.func68, Try.ntmps68
  go_wp2
  go_ret
  exact ⟨rfl, rfl⟩
theorem mclone {vm : Value} {M : Int → Option Int} (h : Sat w0 (mapI vm M * F) w) : Calls Try.prog 68 #[vm] w fun e w' => ∃ um, e = .returned (.map um) ∧ Sat w0 (mapI (.map um) M * (mapI vm M * F)) w' := by
  rcases h.mapForm with ⟨rfl, hM⟩ | ⟨b, rfl⟩
  · refine (maps_clone_nil w).mono ?_
    rintro e w' ⟨rfl, rfl⟩
    have : M = fun _ => none := funext hM
    subst this
    exact ⟨_, rfl, h.mapNil⟩
  · obtain ⟨es, clock, hb, hE, hMe, hS⟩ := h.mapE
    refine (maps_clone b es clock w hb).mono ?_
    rintro e w' ⟨rfl, rfl⟩
    exact ⟨_, rfl, (h.alloc (.map es clock)).mapI_ hE hMe⟩
theorem slForm {e : TypeId} {s n : Nat} {v : Value} {xs : List Value} (h : Sat w0 (sl e s v n xs * F) w) : ∃ ao cap, v = .slice ao n cap := h.rd.len
set_option maxRecDepth 100000 in
set_option maxHeartbeats 4000000 in
theorem h_copy (hS : Sat w0 (heapP h A p * F) w) (hl : A.length ≤ 4096) : Calls Try.prog 44 #[vp h] w fun e w' => ∃ o, e = .returned (vp o) ∧ Sat w0 (heapP o A p * (heapP h A p * F)) w' := by
  obtain ⟨vl, vm, M, h1, h2, h3, hB⟩ := heapP_open hS
  have c0 := hB.drew.cell 0 rfl
  have c1 := hB.drew.cell 1 rfl
  have c2 := hB.drew.cell 2 rfl
  have HX : Hid (∀ (vl' vm' : Value) (w' : World), Sat w0 (mapI vm' M * (sl 82 3 vl' A.length (tmsV A) * (hpB h vl vm p * (sl 82 3 vl A.length (tmsV A) * (mapI vm M * F))))) w' → Sat w0 (heapP w'.heap.size A p * (heapP h A p * F)) (w'.alloc (.cells #[vl', vm', vi p] 79))) := Lib.hid fun vl' vm' w' h' => by
    have h4 : Sat w0 (hpB w'.heap.size vl' vm' p * (mapI vm' M * (sl 82 3 vl' A.length (tmsV A) * (hpB h vl vm p * (sl 82 3 vl A.length (tmsV A) * (mapI vm M * F)))))) (w'.alloc (.cells #[vl', vm', vi p] 79)) := h'.alloc (.cells #[vl', vm', vi p] 79)
    have h5 := heapP_shut (h := h) (p := p) (vl := vl) (vm := vm) (F := hpB w'.heap.size vl' vm' p * (mapI vm' M * (sl 82 3 vl' A.length (tmsV A) * F))) h1 h2 h3 (h4.cast (by ac_rfl))
    exact heapP_shut (vl := vl') (vm := vm') h1 h2 h3 (h5.cast (by ac_rfl))
  have HC := Lib.hid (clone_ hB.drew.pull2 hl)
  have HM : Hid (∀ (u : Value) (w1 : World), Sat w0 (sl 82 3 u A.length (tmsV A) * (sl 82 3 vl A.length (tmsV A) * (hpB h vl vm p * (mapI vm M * F)))) w1 → (w1.cell? ⟨h, 0, none⟩ = some vl ∧ w1.cell? ⟨h, 1, none⟩ = some vm ∧ w1.cell? ⟨h, 2, none⟩ = some (vi p)) ∧
      Calls Try.prog 68 #[vm] w1 fun e w' => ∃ um, e = .returned (.map um) ∧ (w'.cell? ⟨h, 0, none⟩ = some vl ∧ w'.cell? ⟨h, 1, none⟩ = some vm ∧ w'.cell? ⟨h, 2, none⟩ = some (vi p)) ∧ Sat w0 (mapI (.map um) M * (sl 82 3 u A.length (tmsV A) * (hpB h vl vm p * (sl 82 3 vl A.length (tmsV A) * (mapI vm M * F))))) w') := Lib.hid fun u w1 h' => by
    refine ⟨⟨h'.pull3.cell 0 rfl, h'.pull3.cell 1 rfl, h'.pull3.cell 2 rfl⟩, ?_⟩
    refine (mclone (h'.pull4)).mono ?_
    rintro e w' ⟨um, rfl, h''⟩
    have h9 := h''.cast (show _ = hpB h vl vm p * (mapI (.map um) M * (sl 82 3 u A.length (tmsV A) * (sl 82 3 vl A.length (tmsV A) * (mapI vm M * F)))) by ac_rfl)
    exact ⟨um, rfl, ⟨h9.cell 0 rfl, h9.cell 1 rfl, h9.cell 2 rfl⟩, h''.cast (by ac_rfl)⟩
  obtain ⟨av, cv, rfl⟩ := slForm hB.pull2
  have hmf : vm = .map none ∨ ∃ b, vm = .map (some b) := by
    rcases hB.pull3.mapForm with ⟨e, _⟩ | ⟨b, e⟩
    · exact .inl e
    · exact .inr ⟨b, e⟩
  obtain ⟨mo, rfl⟩ : ∃ mo, vm = .map mo := by
    rcases hmf with rfl | ⟨b, rfl⟩
    · exact ⟨_, rfl⟩
    · exact ⟨_, rfl⟩
  clear hS hB h1 h2 h3 hl hmf
  obtain ⟨n, hn⟩ : ∃ n, A.length = n := ⟨_, rfl⟩
  rw [hn] at c0
  have HN := Lib.hid hn
  have HE : Hid (∀ (ao : Option Addr) (c : Nat), Value.slice ao A.length c = .slice ao n c) := Lib.hid fun _ _ => by rw [hn]
  rw [hn] at HC HM HX
  clear hn
  go_enter Try.func44, Try.ntmps44
  go_wp2_with fail
  go_region_held3 (fun w' => w'.cell? ⟨h, 0, none⟩ = some (.slice av n cv) ∧ w'.cell? ⟨h, 1, none⟩ = some (.map mo) ∧ w'.cell? ⟨h, 2, none⟩ = some (vi p))
    (first | exact ⟨c0, c1, c2⟩ | exact d0 | exact e0 | go_keep)
    (first
      | (go_at_call 61; refine HC.out.mono ?_; rintro e w1 ⟨u, rfl, hS1⟩; obtain ⟨au, cu, rfl⟩ := slForm hS1; obtain ⟨d0, hm⟩ := HM.out _ _ hS1; have HM2 := Lib.hid hm; clear hm hS1)
      | (go_at_call 68; refine HM2.out.mono ?_; rintro e w2 ⟨um, rfl, e0, hS2⟩; have H3 := Lib.hid (HX.out _ _ _ hS2); have hne := World.new_ne w2 _ e0.1; clear hS2))
  go_wp2
  go_ret
  exact ⟨_, rfl, H3.out⟩
theorem h_same (hI : Inv A p S) (hJ : Inv B p2 S2) (hA : A.length ≤ 4096) (hB : B.length ≤ 4096) (hS : Sat w0 (heapP h A p * (heapP o B p2 * F)) w) :
    Calls Try.prog 46 #[vp h, vp o] w fun e w' => e = .returned (.bool (decide (S.map trOf = S2.map trOf))) ∧ Sat w0 (heapP h A p * (heapP o B p2 * F)) w' := by
  have HAl : Hid (Calls Try.prog 40 #[vp h] w fun e w' => ∃ u, e = .returned u ∧ Sat w0 (sl 68 2 u (S.map trOf).length (trsV (S.map trOf)) * (heapP h A p * (heapP o B p2 * F))) w') := Lib.hid (by
    refine (all_ hS hA).mono ?_
    rintro e w' ⟨u, S', rfl, hp, hs, h'⟩
    obtain rfl := hI.sorted hp hs
    rw [List.length_map]
    exact ⟨u, rfl, h'⟩)
  have HBl : Hid (∀ (w1 : World) (G : Hp), Sat w0 (heapP o B p2 * G) w1 → Calls Try.prog 40 #[vp o] w1 fun e w' => ∃ u, e = .returned u ∧ Sat w0 (sl 68 2 u (S2.map trOf).length (trsV (S2.map trOf)) * (heapP o B p2 * G)) w') := Lib.hid fun w1 G h1 => by
    refine (all_ h1 hB).mono ?_
    rintro e w' ⟨u, S', rfl, hp, hs, h'⟩
    obtain rfl := hJ.sorted hp hs
    rw [List.length_map]
    exact ⟨u, rfl, h'⟩
  have hx : (S.map trOf).length ≤ 4096 := by rw [← hI.len]; exact hA
  have hy : (S2.map trOf).length ≤ 4096 := by rw [← hJ.len]; exact hB
  clear hS hI hJ hA hB
  generalize S.map trOf = X at *
  generalize S2.map trOf = Y at *
  go_enter Try.func46, Try.ntmps46
  go_wp2_with (first
    | (go_at_call 40; (with_reducible refine HAl.out.mono ?_); rintro e w1 ⟨u1, rfl, hS1⟩; have H1 := Lib.hid hS1; clear hS1)
    | (go_at_call 40; refine (HBl.out _ _ H1.out.pull3).mono ?_; rintro e w2 ⟨u2, rfl, hS2⟩; have HE := Lib.hid (equal4 X Y _ _ w2 hS2.pull3.rd hS2.rd (by omega) (by omega)); have H2 := Lib.hid hS2; clear hS2)
    | (go_at_call 69; refine HE.out.mono ?_; rintro e w3 ⟨rfl, N, rfl⟩))
  go_ret
  exact ⟨rfl, (((H2.out.drewN N).dropL).drop2).pull2⟩
set_option maxRecDepth 100000 in
set_option maxHeartbeats 2000000 in
theorem r_copy4 (hS : Sat w0 (refP q L * F) w) (hl : L.length ≤ 4096) : Calls Try.prog 45 #[vp q] w fun e w' => ∃ o, e = .returned (vp o) ∧ Sat w0 (refP o L * (refP q L * F)) w' := by
  obtain ⟨v, hv⟩ := refP_open hS
  have c0 := hv.cell 0 rfl
  have H := Lib.hid hv
  have HX : Hid (∀ (u : Value) (w' : World), Sat w0 (sl 68 2 u L.length (trsV L) * (rfB q v * (rl v L * F))) w' → Sat w0 (refP w'.heap.size L * (refP q L * F)) (w'.alloc (.cells #[u] 61))) := Lib.hid fun u w' h' => by
    have h4 : Sat w0 (rfB w'.heap.size u * (sl 68 2 u L.length (trsV L) * (rfB q v * (rl v L * F)))) (w'.alloc (.cells #[u] 61)) := h'.alloc (.cells #[u] 61)
    have h5 := refP_shut (v := v) (F := rfB w'.heap.size u * (rl u L * F)) (h4.cast (by ac_rfl))
    exact refP_shut (v := u) (h5.cast (by ac_rfl))
  have hone := Lib.hid (trs_one L)
  have hrd := Lib.hid hv.pull2.rd
  obtain ⟨av, cv, rfl⟩ := hv.pull2.rd.len
  clear hS hv
  obtain ⟨n, hn⟩ : ∃ n, L.length = n := ⟨_, rfl⟩
  rw [hn] at c0 hrd hl
  have HN := Lib.hid hn
  clear hn
  go_enter Try.func45, Try.ntmps45
  go_wp2_with (at_builtin; refine wpList_append_sl Etr rfl (.const (.slice none 0 0)) (.tmp 6) rfl (by rfl) (H.out.addNil 68 2) (by rfl) (show Rd w 2 _ n (trsV L) by rw [← HN.out]; rw [HN.out]; exact hrd.out) hone.out (by unfold maxLen; omega) (by omega) ?_; intro ao1 cap1 w9 hS9; simp only [Nat.zero_add, List.nil_append] at hS9; have H9 := Lib.hid hS9; clear hS9)
  go_ret
  have := H9.out
  rw [← HN.out] at this
  refine ⟨_, rfl, ?_⟩
  have := HX.out _ _ this
  rw [HN.out] at this
  exact this
end
end Go.Proofs.Ytcchfdoeacgapaa.Hm
