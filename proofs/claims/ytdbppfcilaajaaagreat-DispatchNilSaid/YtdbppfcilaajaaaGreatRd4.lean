/-
  The reference of layer 9: Get. No statement is proved here.
-/
import Derived.Test.YtdbppfcilaajaaaGreatMg34
namespace Go.Proofs.YtdbppfcilaajaaaGreat.Dm
open Go.RowKit Ad
set_option linter.unusedVariables false

/-- What is summed over some places. -/
def sumO (rs : List One) (f : One → Int) (c : List Nat) : Int := c.foldl (fun s j => s + match rs[j]? with | none => 0 | some a => f a) 0
theorem sumO_snoc (rs : List One) (f : One → Int) (c : List Nat) (j : Nat) {a : One} (ha : rs[j]? = some a) : sumO rs f (c ++ [j]) = sumO rs f c + f a := by
  unfold sumO
  rw [List.foldl_append]
  simp [ha]
/-- Who lives below. -/
def liveR (rs : List One) (cl : Nat → List (Int × Int)) (r : Int × Int) : Nat → Int
  | 0 => 0
  | n + 1 => liveR rs cl r n + match rs[n]? with | none => 0 | some a => if a.is = true ∧ r ∈ cl n then a.own else 0
def OneOk (rs : List One) : Prop := rs.length ≤ 1000 ∧ ∀ (k : Nat) (a : One), rs[k]? = some a → 0 ≤ a.gs ∧ a.gs ≤ 64 ∧ 0 ≤ a.cpu ∧ a.cpu ≤ 4294967296 ∧ 0 ≤ a.own ∧ a.own ≤ 64
def Chains (rs : List One) (cl : Nat → List (Int × Int)) : Prop := ∀ (k : Nat) (a : One), rs[k]? = some a → a.is = true → ChR rs (k, a.gen) (cl k) ∧ (cl k).length ≤ 1000
theorem sumO_bd {rs : List One} (f : One → Int) (M : Int) (hM : 0 ≤ M) (h : ∀ (k : Nat) (a : One), rs[k]? = some a → 0 ≤ f a ∧ f a ≤ M) (c : List Nat) : 0 ≤ sumO rs f c ∧ sumO rs f c ≤ M * c.length := by
  obtain ⟨n, hn⟩ : ∃ n, n = c.length := ⟨_, rfl⟩
  induction n generalizing c with
  | zero =>
    obtain rfl := List.eq_nil_of_length_eq_zero hn.symm
    simp [sumO]
  | succ n ih0 =>
    obtain ⟨c, j, rfl⟩ : ∃ c' j, c = c' ++ [j] := by
      rcases List.eq_nil_or_concat c with h | ⟨L, b, h⟩
      · subst h; simp at hn
      · exact ⟨L, b, by rw [h, List.concat_eq_append]⟩
    have ih := ih0 c (by simpa using hn)
    have e : sumO rs f (c ++ [j]) = sumO rs f c + match rs[j]? with | none => 0 | some a => f a := by
      unfold sumO
      rw [List.foldl_append]
      rfl
    rw [e, List.length_append]
    have hj : 0 ≤ (match rs[j]? with | none => 0 | some a => f a) ∧ (match rs[j]? with | none => 0 | some a => f a) ≤ M := by
      split
      · omega
      · rename_i a ha
        exact h j a ha
    have e2 : M * ((c.length + [j].length : Nat) : Int) = M * c.length + M := by
      rw [List.length_singleton, Int.natCast_add, Int.mul_add]
      simp
    rw [e2]
    omega
theorem liveR_bd {rs : List One} (h : OneOk rs) (cl : Nat → List (Int × Int)) (r : Int × Int) : ∀ n : Nat, 0 ≤ liveR rs cl r n ∧ liveR rs cl r n ≤ 64 * n
  | 0 => by simp [liveR]
  | n + 1 => by
    have ih := liveR_bd h cl r n
    have hj : 0 ≤ (match rs[n]? with | none => 0 | some a => if a.is = true ∧ r ∈ cl n then a.own else 0) ∧ (match rs[n]? with | none => 0 | some a => if a.is = true ∧ r ∈ cl n then a.own else 0) ≤ 64 := by
      split
      · omega
      · rename_i a ha
        have := h.2 n a ha
        split <;> omega
    show 0 ≤ liveR rs cl r n + _ ∧ liveR rs cl r n + _ ≤ _
    omega
/-- A domain, as the reference tells of it. -/
def getRX (rs : List One) (cl : Nat → List (Int × Int)) (r : Int × Int) (a : One) (c : List Nat) (n : Nat) : El :=
  ⟨a.pi, a.pg, a.gs, a.cpu, a.per, sumO rs One.gs c, sumO rs One.cpu c, a.own, liveR rs cl r n, a.used, c.length⟩

theorem results_row1 {fn : Func} {p : Tmp} {ty : TypeId} (h : fn.results = #[.cell p ty]) (tmps : Array Value) (P : Program) (w : World) {b : Nat} {cs : List Value} {d : TypeDesc}
    (hp : tmps.getD p undef = .pointer (some ⟨b, 0, none⟩)) (hc : w.rangeAt b 0 cs) (hu : P.underlying ty = some d) (hd : d.isRow = true) (hi : (P.info? ty).map (·.size) = some cs.length) :
    (results fn tmps).run P w = .ok (.agg cs.toArray) w := by
  have e : (asAddr (.pointer (some ⟨b, 0, none⟩))).run P w = .ok ⟨b, 0, none⟩ w := rfl
  simp only [results, h]
  have hp' : tmps[p]?.getD undef = .pointer (some ⟨b, 0, none⟩) := by simpa using hp
  simp [Sem.run_bind, Result.andThen, hp', e, run_loadVar_mid w b 0 ty cs d hc hu hd hi]
section
variable {w0 w : World} {F : Hp} {q b cap : Nat} {vF : Value} {rs : List One}
set_option maxRecDepth 100000 in
set_option maxHeartbeats 4000000 in
theorem rd_get (hS : Sat w0 (rdB q b rs.length cap vF * (rdL b cap rs * F)) w) (k : Nat) (g : Int) (a : One) (ha : rs[k]? = some a) (cl : Nat → List (Int × Int)) (hcl : Chains rs cl) (hok : OneOk rs) :
    Calls Tryz.prog 125 #[vp q, vr k g] w fun e w' => e = .returned (ev (getRX rs cl (k, g) a (childL rs k g rs.length) rs.length)) ∧ Sat w0 (rdB q b rs.length cap vF * (rdL b cap rs * F)) w' := by
  have hB0 := (hS.alloc (.cells #[vi k, vu g] 30)).alloc (elO ez)
  rw [size1] at hB0
  have hB : Sat w0 (elB (w.heap.size + 1) ez * (pc w.heap.size 30 [vi k, vu g] * (rdB q b rs.length cap vF * (rdL b cap rs * F)))) ((w.alloc (.cells #[vi k, vu g] 30)).alloc (elO ez)) := hB0
  have hk : k < rs.length := (List.getElem?_eq_some_iff.1 ha).1
  have hki : (k : Int) < (rs.length : Int) := by omega
  have hl1 := hok.1
  have HOk := Lib.hid hok
  have HCl := Lib.hid hcl
  have HAa := Lib.hid ha
  have b0 := hB.pull2.cell 0 rfl
  have b1 := hB.pull2.cell 1 rfl
  have q0 := hB.pull3.cell 0 rfl
  have e0 := hB.pull4.slCell _ (flat_get (j := 0) One.len ha rfl)
  have e1 := hB.pull4.slCell _ (flat_get (j := 1) One.len ha rfl)
  have e2 := hB.pull4.slCell _ (flat_get (j := 2) One.len ha rfl)
  have e3 := hB.pull4.slCell _ (flat_get (j := 3) One.len ha rfl)
  have e4 := hB.pull4.slCell _ (flat_get (j := 4) One.len ha rfl)
  have e5 := hB.pull4.slCell _ (flat_get (j := 5) One.len ha rfl)
  have e6 := hB.pull4.slCell _ (flat_get (j := 6) One.len ha rfl)
  have e7 := hB.pull4.slCell _ (flat_get (j := 7) One.len ha rfl)
  have e8 := hB.pull4.slCell _ (flat_get (j := 8) One.len ha rfl)
  rw [Nat.add_zero] at e0
  have HB := Lib.hid hB
  clear hS hB0 hB hok hcl ha
  obtain ⟨gen, is, gs, cpu, per, pi, pg, own, used⟩ := a
  dsimp only at e0 e1 e2 e3 e4 e5 e6 e7 e8
  go_enter Tryz.func125, Tryz.ntmps125
  go_wp2
  go_region_held3 (fun w' => w'.cell? ⟨q, 0, none⟩ = some (.slice (some ⟨b, 0, none⟩) rs.length cap) ∧ w'.cell? ⟨w.heap.size, 0, none⟩ = some (vi k) ∧ w'.cell? ⟨b, k * 9, none⟩ = some (vu gen) ∧ w'.cell? ⟨b, k * 9 + 1, none⟩ = some (.bool is) ∧ w'.cell? ⟨b, k * 9 + 2, none⟩ = some (vi gs) ∧ w'.cell? ⟨b, k * 9 + 3, none⟩ = some (vu cpu) ∧ w'.cell? ⟨b, k * 9 + 4, none⟩ = some (vu per) ∧ w'.cell? ⟨b, k * 9 + 5, none⟩ = some (vi pi) ∧ w'.cell? ⟨b, k * 9 + 6, none⟩ = some (vu pg) ∧ w'.cell? ⟨b, k * 9 + 7, none⟩ = some (vi own) ∧ w'.cell? ⟨b, k * 9 + 8, none⟩ = some (vu used))
    (first | go_keep)
    (fail)
  have hB2 : Sat w0 (pc (w.heap.size + 2) 231 [vu gen, .bool is, vi gs, vu cpu, vu per, vi pi, vu pg, vi own, vu used] * (elB (w.heap.size + 1) ez * (pc w.heap.size 30 [vi k, vu g] * (rdB q b rs.length cap vF * (rdL b cap rs * F))))) ((((w.alloc (.cells #[vi k, vu g] 30)).alloc (elO ez)).alloc (.cells #[vu gen, .bool is, vi gs, vu cpu, vu per, vi pi, vu pg, vi own, vu used] 231)).drew) := by
    have h1 := (HB.out.alloc (.cells #[vu gen, .bool is, vi gs, vu cpu, vu per, vi pi, vu pg, vi own, vu used] 231)).drew
    simp only [size1] at h1
    exact h1
  generalize ((((w.alloc (.cells #[vi k, vu g] 30)).alloc (elO ez)).alloc (.cells #[vu gen, .bool is, vi gs, vu cpu, vu per, vi pi, vu pg, vi own, vu used] 231)).drew) = W1 at *
  generalize w.heap.size = bb at *
  clear b0 b1 q0 e0 e1 e2 e3 e4 e5 e6 e7 e8
  have o0 := hB2.cell 0 rfl
  have o1 := hB2.cell 1 rfl
  have o2 := hB2.cell 2 rfl
  have o3 := hB2.cell 3 rfl
  have o4 := hB2.cell 4 rfl
  have o5 := hB2.cell 5 rfl
  have o6 := hB2.cell 6 rfl
  have o7 := hB2.cell 7 rfl
  have o8 := hB2.cell 8 rfl
  have b0 := hB2.pull3.cell 0 rfl
  have b1 := hB2.pull3.cell 1 rfl
  have hX := hB2.alloc (elO ⟨pi, pg, gs, cpu, per, 0, 0, own, 0, used, 0⟩)
  have HX : Hid (Sat w0 (elB W1.heap.size ⟨pi, pg, gs, cpu, per, 0, 0, own, 0, used, 0⟩ * (pc (bb + 2) 231 [vu gen, .bool is, vi gs, vu cpu, vu per, vi pi, vu pg, vi own, vu used] * (elB (bb + 1) ez * (pc bb 30 [vi k, vu g] * (rdB q b rs.length cap vF * (rdL b cap rs * F)))))) (W1.alloc (elO ⟨pi, pg, gs, cpu, per, 0, 0, own, 0, used, 0⟩))) := Lib.hid hX
  have x0 := HX.out.pull4.cell 0 rfl
  have x1 := HX.out.pull4.cell 1 rfl
  have HC := Lib.hid (rd_children (HX.out.cast (show _ = rdB q b rs.length cap vF * (rdL b cap rs * (elB W1.heap.size ⟨pi, pg, gs, cpu, per, 0, 0, own, 0, used, 0⟩ * (pc (bb + 2) 231 [vu gen, .bool is, vi gs, vu cpu, vu per, vi pi, vu pg, vi own, vu used] * (elB (bb + 1) ez * (pc bb 30 [vi k, vu g] * F))))) by unfold elB; ac_rfl)) hl1 k g)
  clear hB2 hX
  go_wp2_with fail
  refine HC.out.mono ?_
  rintro e w2 ⟨v, rfl, hS2⟩
  obtain ⟨vo, vc, rfl⟩ := hS2.rd.len
  generalize W1.heap.size = bx at *
  obtain ⟨c, hcq⟩ : ∃ c, c = childL rs k g rs.length := ⟨_, rfl⟩
  have hcm : ∀ (j m : Nat), c[j]? = some m → ∃ a, rs[m]? = some a := fun j m hj => by
    have h1 := List.mem_of_getElem? hj
    rw [hcq] at h1
    have h2 := (List.mem_filter.1 h1).1
    exact ⟨_, List.getElem?_eq_getElem (List.mem_range.1 h2)⟩
  have hcl2 : c.length ≤ 1000 := by rw [hcq]; exact Nat.le_trans (childL_len rs k g _) hl1
  rw [← hcq] at hS2 ⊢
  have H2 : Hid (Sat w0 (sl 3 1 (.slice vo c.length vc) c.length (nats c) * (elB bx ⟨pi, pg, gs, cpu, per, 0, 0, own, 0, used, 0⟩ * (elB (bb + 1) ez * (pc bb 30 [vi k, vu g] * (rdB q b rs.length cap vF * (rdL b cap rs * F)))))) w2) := Lib.hid (hS2.cast (show _ = pc (bb + 2) 231 [vu gen, .bool is, vi gs, vu cpu, vu per, vi pi, vu pg, vi own, vu used] * (sl 3 1 (.slice vo c.length vc) c.length (nats c) * (elB bx ⟨pi, pg, gs, cpu, per, 0, 0, own, 0, used, 0⟩ * (elB (bb + 1) ez * (pc bb 30 [vi k, vu g] * (rdB q b rs.length cap vF * (rdL b cap rs * F)))))) by unfold elB; ac_rfl)).dropL
  have HCQ := Lib.hid hcq
  have HCM := Lib.hid hcm
  clear hS2 o0 o1 o2 o3 o4 o5 o6 o7 o8 b0 b1 x0 x1 HX HC hcq hcm
  go_wp2
  go_loopw [8] (fun ix wr => ∃ j : Nat, j ≤ c.length ∧ ix = vi j ∧ Sat w0 (sl 3 1 (.slice vo c.length vc) c.length (nats c) * (elB bx ⟨pi, pg, gs, cpu, per, (sumO rs One.gs (c.take j)), (sumO rs One.cpu (c.take j)), own, 0, used, j⟩ * (elB (bb + 1) ez * (pc bb 30 [vi k, vu g] * (rdB q b rs.length cap vF * (rdL b cap rs * F)))))) wr) (fun ix _ => c.length - (intOf ix).toNat)
  case atStart => exact ⟨0, Nat.zero_le _, rfl, H2.out⟩
  case round =>
    obtain ⟨j, hj, rfl, hS⟩ := hrel
    by_cases hlt : j < c.length
    · have hji : (j : Int) < (c.length : Int) := by omega
      obtain ⟨m, hm⟩ : ∃ m, c[j]? = some m := ⟨c[j], List.getElem?_eq_getElem hlt⟩
      obtain ⟨a, ha⟩ := HCM.out j m hm
      have hmlt : m < rs.length := (List.getElem?_eq_some_iff.1 ha).1
      have hmi : (m : Int) < (rs.length : Int) := by omega
      obtain ⟨g', rfl⟩ : ∃ g', vo = some ⟨g', 0, none⟩ := by
        rcases hS.slE.2 with ⟨_, h0, _⟩ | ⟨g', c', cur, hv, _⟩
        · omega
        · injection hv with h1 h2 h3
          exact ⟨g', h1⟩
      have hcj : (nats c)[j]? = some (vi m) := by rw [List.getElem?_map, hm]; rfl
      have hb5 := sumO_bd One.gs 64 (by omega) (fun k a h => ⟨(HOk.out.2 k a h).1, (HOk.out.2 k a h).2.1⟩) (c.take j)
      have hb6 := sumO_bd One.cpu 4294967296 (by omega) (fun k a h => ⟨(HOk.out.2 k a h).2.2.1, (HOk.out.2 k a h).2.2.2.1⟩) (c.take j)
      rw [List.length_take, Nat.min_eq_left (by omega)] at hb5 hb6
      obtain ⟨ga1, ga2, ca1, ca2, _, _⟩ := HOk.out.2 m a ha
      have HN5 : Hid (sumO rs One.gs (c.take (j + 1)) = sumO rs One.gs (c.take j) + a.gs) := Lib.hid (by rw [List.take_add_one, hm, Option.toList_some, sumO_snoc rs _ _ _ ha])
      have HN6 : Hid (sumO rs One.cpu (c.take (j + 1)) = sumO rs One.cpu (c.take j) + a.cpu) := Lib.hid (by rw [List.take_add_one, hm, Option.toList_some, sumO_snoc rs _ _ _ ha])
      generalize sumO rs One.gs (c.take j) = s5 at *
      generalize sumO rs One.cpu (c.take j) = s6 at *
      have hw5 : IntKind.i64.wrap (s5 + a.gs) = s5 + a.gs := IntWalk.i64_in _ (by omega)
      have hw6 : IntKind.u64.wrap (s6 + a.cpu) = s6 + a.cpu := IntWalk.u64_in _ (by omega)
      have x5 := hS.pull2.cell 5 rfl
      have f5 := hS.pull2.free 5
      have q0 := hS.dropL.dropL.dropL.dropL.cell 0 rfl
      have cj := hS.slCell j hcj
      have gj := hS.dropL.dropL.dropL.dropL.dropL.slCell _ (flat_get (j := 2) One.len ha rfl)
      have h1 := hS.pull2.store 5 (vi (s5 + a.gs))
      have x6 := h1.cell 6 rfl
      have f6 := h1.free 6
      have q1 := h1.dropL.dropL.dropL.dropL.cell 0 rfl
      have cj1 := h1.dropL.slCell j hcj
      have gj1 := h1.dropL.dropL.dropL.dropL.dropL.slCell _ (flat_get (j := 3) One.len ha rfl)
      have h2 := h1.store 6 (vu (s6 + a.cpu))
      have x10 := h2.cell 10 rfl
      have f10 := h2.free 10
      have h3 := h2.store 10 (vi ((j : Int) + 1))
      have H3 := Lib.hid h3
      clear hS h1 h2 h3 hm ha hcj
      generalize a.gs = ags at *
      generalize a.cpu = acpu at *
      go_wp2
      refine wp_quiet_tail 15 (by kernel_rfl) (by kernel_rfl) ?_
      simp only [List.take_succ_cons, List.take_zero, List.drop_succ_cons, List.drop_zero]
      repeat (go_big_quiet_step (fail))
      refine wpQuiet_nil ?_
      go_wp2
      refine wp_quiet_tail 15 (by kernel_rfl) (by kernel_rfl) ?_
      simp only [List.take_succ_cons, List.take_zero, List.drop_succ_cons, List.drop_zero]
      repeat (go_big_quiet_step (fail))
      refine wpQuiet_nil ?_
      go_wp2
      go_roundw
      case rel =>
        refine ⟨j + 1, by omega, by go_num, ?_⟩
        rw [HN5.out, HN6.out]
        have h9 : Sat w0 (sl 3 1 (.slice (some ⟨g', 0, none⟩) c.length vc) c.length (nats c) * (elB bx ⟨pi, pg, gs, cpu, per, (s5 + ags), (s6 + acpu), own, 0, used, ((j + 1 : Nat) : Int)⟩ * (elB (bb + 1) ez * (pc bb 30 [vi k, vu g] * (rdB q b rs.length cap vF * (rdL b cap rs * F)))))) _ := H3.out.pull2
        first | exact h9 | exact h9.drew | exact h9.drew.drew | exact h9.drewN _
      case measure => (simp [intOf]; try omega)
    · obtain rfl : j = c.length := by omega
      rw [List.take_length] at hS
      have H4 := Lib.hid hS.dropL
      clear hS
      go_wp2
      obtain ⟨s5, hs5⟩ : ∃ s5, s5 = sumO rs One.gs c := ⟨_, rfl⟩
      obtain ⟨s6, hs6⟩ : ∃ s6, s6 = sumO rs One.cpu c := ⟨_, rfl⟩
      rw [← hs5, ← hs6] at H4
      have HS5 := Lib.hid hs5
      have HS6 := Lib.hid hs6
      clear hs5 hs6
      go_loopw [9] (fun ix wr => ∃ n : Nat, n ≤ rs.length ∧ ix = vi n ∧ Sat w0 (elB bx ⟨pi, pg, gs, cpu, per, s5, s6, own, (liveR rs cl (k, g) n), used, c.length⟩ * (elB (bb + 1) ez * (pc bb 30 [vi k, vu g] * (rdB q b rs.length cap vF * (rdL b cap rs * F))))) wr) (fun ix _ => rs.length - (intOf ix).toNat)
      case atStart => exact ⟨0, Nat.zero_le _, rfl, H4.out⟩
      case round =>
        obtain ⟨n, hn, rfl, hS⟩ := hrel
        have q0 := hS.dropL.dropL.dropL.cell 0 rfl
        by_cases hlt2 : n < rs.length
        · have hni : (n : Int) < (rs.length : Int) := by omega
          obtain ⟨a, ha⟩ : ∃ a, rs[n]? = some a := ⟨rs[n], List.getElem?_eq_getElem hlt2⟩
          have e1 := hS.dropL.dropL.dropL.dropL.slCell _ (flat_get (j := 1) One.len ha rfl)
          have b0 := hS.pull3.cell 0 rfl
          have b1 := hS.pull3.cell 1 rfl
          have hlv := liveR_bd HOk.out cl (k, g) n
          obtain ⟨_, _, _, _, oa1, oa2⟩ := HOk.out.2 n a ha
          cases his : a.is with
          | false =>
            rw [his] at e1
            have HN : Hid (liveR rs cl (k, g) (n + 1) = liveR rs cl (k, g) n) := Lib.hid (by
              show liveR rs cl (k, g) n + _ = _
              rw [ha]
              simp [his])
            have HS := Lib.hid hS
            clear hS ha his
            go_wp2
            go_roundw
            case rel => exact ⟨n + 1, by omega, by go_num, by rw [HN.out]; exact HS.out⟩
            case measure => (simp [intOf]; try omega)
          | true =>
            rw [his] at e1
            obtain ⟨hch, hchl⟩ := HCl.out n a ha his
            have HI := Lib.hid (rd_in (hS.cast (show _ = rdB q b rs.length cap vF * (rdL b cap rs * (elB bx ⟨pi, pg, gs, cpu, per, s5, s6, own, (liveR rs cl (k, g) n), used, c.length⟩ * (elB (bb + 1) ez * (pc bb 30 [vi k, vu g] * F)))) by unfold elB; ac_rfl)) n a ha (cl n) hch hchl k g)
            by_cases hmem : ((k : Int), g) ∈ cl n
            · rw [decide_eq_true hmem] at HI
              have HN : Hid (liveR rs cl (k, g) (n + 1) = liveR rs cl (k, g) n + a.own) := Lib.hid (by
                show liveR rs cl (k, g) n + _ = _
                rw [ha]
                simp [his, hmem])
              have HA := Lib.hid ha
              clear hS ha his hmem hch
              generalize liveR rs cl (k, g) n = lv at *
              have hwl : IntKind.i64.wrap (lv + a.own) = lv + a.own := IntWalk.i64_in _ (by omega)
              go_wp2_with (go_at_call 176; refine HI.out.mono ?_; rintro e w5 ⟨rfl, hS5⟩; have hT : Sat w0 (elB bx ⟨pi, pg, gs, cpu, per, s5, s6, own, lv, used, c.length⟩ * (elB (bb + 1) ez * (pc bb 30 [vi k, vu g] * (rdB q b rs.length cap vF * (rdL b cap rs * F))))) w5 := hS5.cast (by unfold elB; ac_rfl); clear q0 e1 b0 b1; have q0 := hT.dropL.dropL.dropL.cell 0 rfl; have e7 := hT.dropL.dropL.dropL.dropL.slCell _ (flat_get (j := 7) One.len HA.out rfl); have x8 := hT.cell 8 rfl; have f8 := hT.free 8; have HT := Lib.hid hT; clear hS5 hT)
              have H6 := Lib.hid (HT.out.store 8 (vi (lv + a.own)))
              generalize a.own = ao at *
              refine wp_quiet_tail 12 (by kernel_rfl) (by kernel_rfl) ?_
              simp only [List.take_succ_cons, List.take_zero, List.drop_succ_cons, List.drop_zero]
              repeat (go_big_quiet_step (fail))
              refine wpQuiet_nil ?_
              go_wp2
              go_roundw
              case rel =>
                refine ⟨n + 1, by omega, by go_num, ?_⟩
                rw [HN.out]
                have h9 : Sat w0 (elB bx ⟨pi, pg, gs, cpu, per, s5, s6, own, (lv + ao), used, c.length⟩ * (elB (bb + 1) ez * (pc bb 30 [vi k, vu g] * (rdB q b rs.length cap vF * (rdL b cap rs * F))))) _ := H6.out
                first | exact h9 | exact h9.drew | exact h9.drewN _
              case measure => (simp [intOf]; try omega)
            · rw [decide_eq_false hmem] at HI
              have HN : Hid (liveR rs cl (k, g) (n + 1) = liveR rs cl (k, g) n) := Lib.hid (by
                show liveR rs cl (k, g) n + _ = _
                rw [ha]
                simp [hmem])
              clear hS ha his hmem hch
              generalize liveR rs cl (k, g) n = lv at *
              go_wp2_with (go_at_call 176; refine HI.out.mono ?_; rintro e w5 ⟨rfl, hS5⟩; have HT : Hid (Sat w0 (elB bx ⟨pi, pg, gs, cpu, per, s5, s6, own, lv, used, c.length⟩ * (elB (bb + 1) ez * (pc bb 30 [vi k, vu g] * (rdB q b rs.length cap vF * (rdL b cap rs * F))))) w5) := Lib.hid (hS5.cast (by unfold elB; ac_rfl)); clear hS5)
              go_roundw
              case rel => exact ⟨n + 1, by omega, by go_num, by rw [HN.out]; exact HT.out⟩
              case measure => (simp [intOf]; try omega)
        · obtain rfl : n = rs.length := by omega
          have HLV : Hid (∃ lv, lv = liveR rs cl (k, g) rs.length) := Lib.hid ⟨_, rfl⟩
          obtain ⟨lv, hlv⟩ := HLV.out
          rw [← hlv] at hS
          have HV : Hid (ev (getRX rs cl ((k : Int), g) ⟨gen, is, gs, cpu, per, pi, pg, own, used⟩ (childL rs k g rs.length) rs.length) = ev ⟨pi, pg, gs, cpu, per, s5, s6, own, lv, used, c.length⟩) := Lib.hid (by
            unfold getRX
            rw [← HCQ.out, ← HS5.out, ← HS6.out, ← hlv])
          clear hlv HLV
          have hp : Sat w0 (pc (bb + 1) 188 (elC ez) * (elB bx ⟨pi, pg, gs, cpu, per, s5, s6, own, lv, used, c.length⟩ * (pc bb 30 [vi k, vu g] * (rdB q b rs.length cap vF * (rdL b cap rs * F))))) wr := hS.cast (by unfold elB; ac_rfl)
          have HLd := Lib.hid (range_ hS)
          have HTh := Lib.hid (there_ (n := 11) hp rfl)
          have HP := Lib.hid hp
          clear hS hp
          go_wp2_with (first
            | (refine wpList_load_mid rfl 188 _ rfl bx 0 (by rfl) (elC ⟨pi, pg, gs, cpu, per, s5, s6, own, lv, used, c.length⟩) _ HLd.out Tryz.underlying188 rfl einfo ?_)
            | (refine wpList_store_mid rfl 188 _ _ rfl (bb + 1) 0 (elC ⟨pi, pg, gs, cpu, per, s5, s6, own, lv, used, c.length⟩).toArray (by rfl) (by rfl) HTh.out einfo (all_oneCell_toArray (elOne _)) ?_; have hs := HP.out.stores (elC ⟨pi, pg, gs, cpu, per, s5, s6, own, lv, used, c.length⟩) 0; rw [setL_full (elC ez) (elC ⟨pi, pg, gs, cpu, per, s5, s6, own, lv, used, c.length⟩) rfl] at hs; have HZ := Lib.hid hs; have HR := Lib.hid (World.rangeAt_setCells_same _ (bb + 1) 0 (elC ⟨pi, pg, gs, cpu, per, s5, s6, own, lv, used, c.length⟩) HTh.out); have HZ : Hid (Sat w0 _ (wr.setCells (bb + 1) 0 (elC ⟨pi, pg, gs, cpu, per, s5, s6, own, lv, used, c.length⟩).toArray.toList)) := HZ; have HR : Hid ((wr.setCells (bb + 1) 0 (elC ⟨pi, pg, gs, cpu, per, s5, s6, own, lv, used, c.length⟩).toArray.toList).rangeAt (bb + 1) 0 _) := HR; clear hs; generalize World.setCells _ _ _ _ = w9 at *))
          (try simp only [Exit.inBlock, Exit.then])
          refine bodyPost_ret (v := ev ⟨pi, pg, gs, cpu, per, s5, s6, own, lv, used, c.length⟩) (results_row1 rfl _ _ _ rfl HR.out Tryz.underlying188 rfl einfo) rfl ?_
          exact ⟨by rw [HV.out], HZ.out.dropL.dropL.dropL⟩
end
end Go.Proofs.YtdbppfcilaajaaaGreat.Dm
