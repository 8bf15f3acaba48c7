/-
  Contracts of package ring, fifth part: Remove. No statement is proved here.
-/
import Derived.Test.YtdbppfcilaajaaaGreatMg4
namespace Go.Proofs.YtdbppfcilaajaaaGreat
open Go.RowKit
set_option linter.unusedVariables false

set_option maxRecDepth 100000 in
set_option maxHeartbeats 2000000 in
theorem ring_remove {w0 w : World} {p most : Nat} {xs : List Int} {F : Hp} (h : Sat w0 (ringP p most xs * F) w) (x : Int) :
    Calls Tryz.prog 155 #[vp p, vi x] w fun e w' => e = .returned (.bool (decide (x ∈ xs))) ∧ Sat w0 (ringP p most (xs.erase x) * F) w' := by
  obtain ⟨s, R⟩ := h.ring
  have hpos := R.ok.pos
  have hsmall := R.ok.small
  have hn := R.ok.n
  have hf := R.ok.f
  have hB := R.sat.alloc (.cells #[vp p] 253)
  have hB' : Sat w0 (pc w.heap.size 253 [vp p] * (ringB p s most xs.length * (ringA s most * F))) (w.alloc (.cells #[vp p] 253)) := hB
  have HB := Lib.hid hB'
  have cb := hB'.cell 0 rfl
  have c0 := hB'.pull2.cell 0 rfl
  have c1 := hB'.pull2.cell 1 rfl
  have c2 := hB'.pull2.cell 2 rfl
  have ok := R.ok
  have hfin : ∀ (w' : World) (s' : RingS) (ys : List Int), RingOk s' most ys → Sat w0 (pc w.heap.size 253 [vp p] * (ringB p s' most ys.length * (ringA s' most * F))) w' → Sat w0 (ringP p most ys * F) w' :=
    fun w' s' ys ok' h' => Sat.ringI s' ok' h'.dropL
  have HF := Lib.hid hfin
  have OK := Lib.hid ok
  clear hfin ok hB hB' R h
  go_enter Tryz.func155, Tryz.ntmps155
  go_wp2_with fail
  go_step3
  go_wp2_with fail
  generalize hwb : w.alloc (.cells #[vp p] 253) = wb at *
  generalize w.heap.size = bx at *
  clear hwb
  refine (ring_none_at p s.a most s.cap _ hpos hsmall c0).mono ?_
  rintro e w' ⟨rfl, rfl⟩
  go_wp2
  go_step3
  go_wp2
  have hXS : ∀ i, i < xs.length → s.arr[(s.f + i) % most]?.getD 0 = xs[i]?.getD 0 := OK.out.eq
  have HXS := Lib.hid hXS
  clear hXS
  go_loopw [6, 16] (fun pl i wr => ∃ k : Nat, k ≤ xs.length ∧ i = vi k ∧ pl = vi (-1) ∧ Hid (∀ j, j < k → xs[j]?.getD 0 ≠ x) ∧ ∃ n, wr = wb.drewN n) (fun _ i _ => xs.length - (intOf i).toNat)
  case atStart => exact ⟨0, Nat.zero_le _, rfl, rfl, Lib.hid (fun j hj => by omega), 0, rfl⟩
  case round =>
    obtain ⟨k, hk, rfl, rfl, hno, n, rfl⟩ := hrel
    by_cases hlt : k < xs.length
    · obtain ⟨j, hj⟩ : ∃ j, j = (s.f + k) % most := ⟨_, rfl⟩
      have hjl : j < most := by rw [hj]; exact Nat.mod_lt _ hpos
      have hat := Lib.hid (ring_at bx p s.a most s.cap s.f k j _ rfl (wb.drewN n) hpos hsmall hf (by omega) hj cb c0 c1)
      have ca := (HB.out.pull3).slCell j (u := vi (xs[k]?.getD 0)) (by
        have h1 := HXS.out k hlt
        have h2 : j < s.arr.length := by rw [OK.out.len]; exact hjl
        rw [← hj] at h1
        rw [← h1]
        simp [h2])
      clear hj
      generalize hy : xs[k]?.getD 0 = y at *
      have hy' := Lib.hid hy
      clear hy
      by_cases hxy : y = x
      · subst hxy
        go_wp2_with (go_at_call 205; refine hat.out.mono ?_; rintro e w' ⟨rfl, m, rfl⟩)
        have herase : xs.eraseIdx k = xs.erase y := by
          have h1 := findI_hit hlt hno.out hy'.out
          have h2 := findI_erase (xs := xs) (x := y) (by omega)
          rw [h1] at h2
          exact h2.1
        have hmem : y ∈ xs := by
          have := List.getElem_mem (l := xs) hlt
          rw [show xs[k] = y by have := hy'.out; simpa [hlt] using this] at this
          exact this
        have HE := Lib.hid herase
        have HM := Lib.hid hmem
        have hstart : RingOk ⟨s.a, s.cap, s.arr, s.f⟩ most (shifted xs k k) := by rw [shifted_start xs k hlt]; exact ⟨OK.out.pos, OK.out.small, OK.out.len, OK.out.f, OK.out.n, OK.out.at_⟩
        have HSt := Lib.hid hstart
        clear herase hmem hstart hat ca HXS
        go_loopw [8] (fun i wr => ∃ (m : Nat) (arr : List Int), k ≤ m ∧ m + 1 ≤ xs.length ∧ i = vi m ∧ Hid (RingOk ⟨s.a, s.cap, arr, s.f⟩ most (shifted xs k m)) ∧
            Sat w0 (pc bx 253 [vp p] * (ringB p s most xs.length * (sl 3 1 (.slice (some ⟨s.a, 0, none⟩) most s.cap) most (arr.map vi) * F))) wr) (fun i _ => xs.length - (intOf i).toNat)
        case atStart => exact ⟨k, s.arr, Nat.le_refl _, by omega, rfl, HSt, HB.out.drewN _⟩
        case round =>
          obtain ⟨m2, arr, hkm, hml, rfl, OK2, hS⟩ := hrel
          have d0 := hS.cell 0 rfl
          have e0 := hS.pull2.cell 0 rfl
          have e1 := hS.pull2.cell 1 rfl
          have e2 := hS.pull2.cell 2 rfl
          have e3 := hS.pull2.free 2
          clear cb c0 c1 c2
          by_cases hlt2 : m2 + 1 < xs.length
          · obtain ⟨j1, hj1⟩ : ∃ j, j = (s.f + m2) % most := ⟨_, rfl⟩
            obtain ⟨j2, hj2⟩ : ∃ j, j = (s.f + (m2 + 1)) % most := ⟨_, rfl⟩
            have hj1l : j1 < most := by rw [hj1]; exact Nat.mod_lt _ hpos
            have hj2l : j2 < most := by rw [hj2]; exact Nat.mod_lt _ hpos
            have hlen := OK2.out.len
            have hsl := shifted_len xs k m2 hlt (by omega)
            have hA1 := Lib.hid (fun W => ring_at bx p s.a most s.cap s.f m2 j1 m2 rfl W hpos hsmall hf (by omega) hj1)
            have hA2 := Lib.hid (fun W => ring_at bx p s.a most s.cap s.f (m2 + 1) j2 ((m2 : Int) + 1) (by omega) W hpos hsmall hf (by omega) hj2)
            obtain ⟨z, hz⟩ : ∃ z, z = xs[m2 + 1]?.getD 0 := ⟨_, rfl⟩
            have ca2 := (hS.pull3).slCell j2 (u := vi z) (by
              have h1 := OK2.out.eq (m2 + 1) (by omega)
              have h2 : j2 < arr.length := by have : arr.length = most := hlen; omega
              rw [shifted_at xs k m2 hlt hlt2, ← hz] at h1
              rw [← hj2] at h1
              rw [← h1]
              simp [h2])
            have ca1 := (hS.pull3).slCell j1 (u := vi (arr[j1]?.getD 0)) (by
              have h2 : j1 < arr.length := by have : arr.length = most := hlen; omega
              simp [h2])
            have hfa := (hS.pull3).slFree j1
            have hnext := OK2.out.set (i := m2) (by omega) z
            have hstep := shifted_step xs k m2 hkm hlt2
            rw [← hz] at hstep
            rw [← hstep] at hnext
            have hSn : ∀ N, Sat w0 (pc bx 253 [vp p] * (ringB p s most xs.length * (sl 3 1 (.slice (some ⟨s.a, 0, none⟩) most s.cap) most ((arr.set j1 z).map vi) * F))) ((wr.drewN N).setCell ⟨s.a, j1, none⟩ (vi z)) := fun N => by
              have h2 := ((hS.drewN N).pull3.slStore j1 (by omega) (vi z))
              rw [List.map_set]
              exact h2.rot3
            rw [← hj1] at hnext
            have HN2 := Lib.hid hnext
            have HSn := Lib.hid hSn
            clear hnext hstep hSn hj1 hj2 hz hS hlen hsl
            go_wp2_with fail
            refine (hA1.out _ d0 e0 e1).mono ?_
            rintro e w' ⟨rfl, q1, rfl⟩
            go_wp2_with fail
            refine (hA2.out (wr.drewN q1) d0 e0 e1).mono ?_
            rintro e w' ⟨rfl, q2, rfl⟩
            go_wp2
            go_roundw
            case rel => exact ⟨m2 + 1, arr.set j1 z, by omega, by omega, by go_num, HN2, HSn.out _⟩
            case measure => simp [intOf]; omega
          · have hml2 : m2 + 1 = xs.length := by omega
            have hend := shifted_end xs k hlt
            have hok := OK2.out.take (xs.length - 1)
            rw [show m2 = xs.length - 1 by omega, hend, HE.out] at hok
            have hel : (xs.erase y).length = xs.length - 1 := by rw [List.length_erase, if_pos HM.out]
            have hSn : Sat w0 (pc bx 253 [vp p] * (ringB p ⟨s.a, s.cap, arr, s.f⟩ most (xs.erase y).length * (ringA ⟨s.a, s.cap, arr, s.f⟩ most * F))) (wr.setCell ⟨p, 2, none⟩ (vi ((xs.length : Int) - 1))) := by
              have h2 := (hS.pull2.store 2 (vi ((xs.length : Int) - 1))).pull2
              refine h2.cast ?_
              have e : ((xs.length : Int) - 1) = (((xs.erase y).length : Nat) : Int) := by omega
              rw [e]
              rfl
            have HK := Lib.hid hok
            have HSn := Lib.hid hSn
            clear hok hSn hend hel hml2 hS
            go_wp2
            rw [Exit.noGoto_ret]
            go_ret
            exact ⟨by rw [decide_eq_true HM.out]; rfl, HF.out _ _ _ HK.out HSn.out⟩
      · have hne : (y == x) = false := by simpa using hxy
        go_wp2_with (go_at_call 205; refine hat.out.mono ?_; rintro e w' ⟨rfl, m, rfl⟩)
        go_roundw
        case rel => exact ⟨k + 1, by omega, by go_num, rfl, Lib.hid (fun j hj => by
          rcases Nat.lt_or_ge j k with h1 | h1
          · exact hno.out j h1
          · obtain rfl : j = k := by omega
            rw [hy'.out]; exact hxy), _, rfl⟩
        case measure => simp [intOf]; omega
    · obtain rfl : xs.length = k := by omega
      have hnm : x ∉ xs := by
        intro hm
        obtain ⟨i, hi, rfl⟩ := List.getElem_of_mem hm
        exact hno.out i hi (by simp [hi])
      have HN := Lib.hid hnm
      clear hnm
      go_wp2
      rw [Exit.noGoto_ret]
      go_ret
      refine ⟨by rw [decide_eq_false HN.out]; rfl, ?_⟩
      rw [List.erase_of_not_mem HN.out]
      exact HF.out _ s xs OK.out (HB.out.drewN _)
end Go.Proofs.YtdbppfcilaajaaaGreat

namespace Go.Proofs.YtdbppfcilaajaaaGreat.Rq
open Go.RowKit
set_option linter.unusedVariables false

/-- A queue: its block, its ring. -/
abbrev quB (q r : Nat) (z : Int) (b : Bool) : Hp := pc q 255 [vp r, vi z, .bool b]

section
variable {w0 w : World} {F : Hp} {q r m : Nat} {z : Int} {b : Bool} {xs : List Int}
theorem q_none (h : Sat w0 (quB q r z b * F) w) :
    Calls Tryz.prog 132 #[vp q] w fun e w' => e = .returned (.bool false) ∧ w = w' := by
  have c0 := h.cell 0 rfl
  clear h
  go_enter Tryz.func132, Tryz.ntmps132
  go_wp2
  go_ret
  exact ⟨rfl, rfl⟩
theorem q_new (n : Nat) (h1 : 2 ≤ n) (h2 : n ≤ 4096) (h : Sat w0 F w) :
    Calls Tryz.prog 98 #[vi n] w fun e w' => ∃ q r, e = .returned (.tuple #[vp q, vi 0]) ∧ Sat w0 (quB q r 0 false * (ringP r n [] * F)) w' := by
  have h3 : ¬ (n : Int) < 2 := by omega
  have HN := Lib.hid (ring_new (n : Int) (by omega) (by omega) h)
  clear h
  go_enter Tryz.func98, Tryz.ntmps98
  go_wp2_with (go_at_call 163; refine HN.out.mono ?_; rintro e w1 ⟨r, rfl, hS⟩; have H1 := Lib.hid (hS.alloc (.cells #[vp r, vi 0, .bool false] 255)); clear hS)
  go_ret2
  exact ⟨_, r, rfl, H1.out⟩

def putL (m : Nat) (xs : List Int) (g : Int) : List Int := if xs.length < m then xs ++ [g] else xs.drop ((m + 1) / 2)
def spillL (m : Nat) (xs : List Int) (g : Int) : List Int := if xs.length < m then [] else xs.take ((m + 1) / 2) ++ [g]
set_option maxRecDepth 100000 in
set_option maxHeartbeats 1000000 in
theorem q_put (h : Sat w0 (quB q r z b * (ringP r m xs * F)) w) (g : Int) :
    Calls Tryz.prog 133 #[vp q, vi g] w fun e w' => ∃ v, e = .returned v ∧ Sat w0 (sl 3 1 v (spillL m xs g).length ((spillL m xs g).map vi) * (quB q r z b * (ringP r m (putL m xs g) * F))) w' := by
  have hrl := h.pull2.ringLen
  have c0 := h.cell 0 rfl
  have HN := Lib.hid (q_none h)
  have HP := Lib.hid (ring_push h.pull2 g)
  by_cases hlt : xs.length < m
  · rw [show pushE m xs = 0 from if_neg (by omega), show pushL m xs g = xs ++ [g] from if_neg (by omega)] at HP
    rw [putL, spillL, if_pos hlt, if_pos hlt]
    clear h
    go_enter Tryz.func133, Tryz.ntmps133
    go_wp2_with (first
      | (go_at_call 132; refine HN.out.mono ?_; rintro e w' ⟨rfl, rfl⟩)
      | (go_at_call 179; refine HP.out.mono ?_; rintro e w1 ⟨rfl, hS⟩; have H1 := Lib.hid hS; clear hS))
    go_ret
    exact ⟨_, rfl, H1.out.pull2.addNil 3 1⟩
  · have hful : xs.length = m := by omega
    rw [show pushE m xs = 3 from if_pos hful, show pushL m xs g = xs from if_pos hful] at HP
    rw [putL, spillL, if_neg hlt, if_neg hlt]
    obtain ⟨half, hh⟩ : ∃ half : Nat, (m + 1) / 2 = half := ⟨_, rfl⟩
    have hhi : ((m : Int) + 1) / 2 = (half : Int) := by omega
    have htk : takeK (half : Int) xs = half := by unfold takeK; omega
    have hle : half ≤ xs.length := by omega
    rw [hh]
    clear h hh
    go_enter Tryz.func133, Tryz.ntmps133
    go_wp2_with (first
      | (go_at_call 132; refine HN.out.mono ?_; rintro e w' ⟨rfl, rfl⟩)
      | (go_at_call 179; refine HP.out.mono ?_; rintro e w1 ⟨rfl, hS⟩; have H1 := Lib.hid hS; have c1 := hS.pull2.cell 0 rfl; clear hS)
      | (go_at_call 180; refine (ring_most H1.out).mono ?_; rintro e w' ⟨rfl, rfl⟩))
    rw [hhi]
    have HT := Lib.hid (ring_take H1.out (half : Int))
    rw [htk] at HT
    refine HT.out.mono ?_
    rintro e w2 ⟨v2, rfl, hS2⟩
    obtain ⟨ao2, cap2, rfl⟩ := hS2.rd.len
    have hcap := hS2.capOk
    have hcap1 : (half : Int) ≤ (cap2 : Int) := by have := hcap.1; omega
    have hcap2 : half ≤ cap2 := hcap.1
    have H2 := hS2.slPre' (k := half) (Nat.le_refl _)
    rw [List.take_of_length_le (by simp; omega)] at H2
    have H3 := Lib.hid H2
    clear hS2 H2 hcap
    have hlt2 : (xs.take half).length = half := by rw [List.length_take]; omega
    go_wp2_with (at_builtin; refine wpList_append_sl Einti rfl (.tmp 34) (.tmp 36) rfl rfl (H3.out.alloc' _) (by rfl) (Rd.one _ _ _) (by simp [Value.oneCell']) (by unfold maxLen; omega) (by omega) ?_; intro ao7 cap7 w7 hS7; have H7 := Lib.hid hS7; clear hS7)
    go_ret
    refine ⟨_, rfl, ?_⟩
    rw [show (xs.take half ++ [g]).length = half + 1 by simp; omega, List.map_append]
    exact H7.out.cast (by ac_rfl)
/-- A queue's PutNext: who is spilled, what the ring has. -/
def nextS (m : Nat) (xs : List Int) (z : Int) (b : Bool) : List Int := if b then spillL m xs z else []
def nextL (m : Nat) (xs : List Int) (z : Int) (b : Bool) : List Int := if b then putL m xs z else xs
theorem results_tmp4 {fn : Func} {t u v x : Tmp} (h : fn.results = #[.tmp t, .tmp u, .tmp v, .tmp x]) (tmps : Array Value) (P : Program) (w : World) :
    (results fn tmps).run P w = .ok (.tuple #[tmps.getD t undef, tmps.getD u undef, tmps.getD v undef, tmps.getD x undef]) w := by
  simp [results, h]
set_option maxRecDepth 100000 in
set_option maxHeartbeats 1000000 in
theorem q_take_in (h : Sat w0 (quB q r z true * (ringP r m xs * F)) w) :
    Calls Tryz.prog 67 #[vp q, .bool true] w fun e w' => e = .returned (.tuple #[vi z, .bool true, .slice none 0 0, .bool true]) ∧ Sat w0 (quB q r z false * (ringP r m xs * F)) w' := by
  have c1 := h.cell 1 rfl
  have c2 := h.cell 2 rfl
  have f2 := h.free 2
  have HN := Lib.hid (q_none h)
  have H1 := Lib.hid (h.store 2 (.bool false))
  clear h
  go_enter Tryz.func67, Tryz.ntmps67
  go_wp2_with (go_at_call 132; refine HN.out.mono ?_; rintro e w' ⟨rfl, rfl⟩)
  (try simp only [Exit.inBlock, Exit.then]); refine bodyPost_ret (results_tmp4 rfl _ _ _) rfl ?_
  exact ⟨rfl, H1.out⟩
set_option maxRecDepth 100000 in
set_option maxHeartbeats 1000000 in
theorem q_take (h : Sat w0 (quB q r z b * (ringP r m xs * F)) w) (c : Bool) (hc : (b && c) = false) :
    Calls Tryz.prog 67 #[vp q, .bool c] w fun e w' => ∃ v, e = .returned (.tuple #[vi ((nextL m xs z b).headD 0), .bool false, v, .bool !(nextL m xs z b).isEmpty]) ∧
      Sat w0 (sl 3 1 v (nextS m xs z b).length ((nextS m xs z b).map vi) * (quB q r z false * (ringP r m (nextL m xs z b).tail * F))) w' := by
  have c0 := h.cell 0 rfl
  have c1 := h.cell 1 rfl
  have c2 := h.cell 2 rfl
  have f2 := h.free 2
  have HN := Lib.hid (q_none h)
  obtain ⟨x, hx⟩ : ∃ x, (nextL m xs z b).headD 0 = x := ⟨_, rfl⟩
  obtain ⟨t, ht⟩ : ∃ t, (!(nextL m xs z b).isEmpty) = t := ⟨_, rfl⟩
  have HPP : Hid (∀ w (G : Hp), Sat w0 (ringP r m (nextL m xs z b) * G) w → Calls Tryz.prog 134 #[vp r] w fun e w' => e = .returned (.tuple #[vi x, .bool t]) ∧ Sat w0 (ringP r m (nextL m xs z b).tail * G) w') := Lib.hid fun w G h => by
    rw [← hx, ← ht]
    exact ring_pop h
  rw [hx, ht]
  clear hx ht
  cases b with
  | false =>
    have HP := Lib.hid (HPP.out _ _ h.pull2)
    clear h HPP
    generalize (nextL m xs z false).tail = L at *
    go_enter Tryz.func67, Tryz.ntmps67
    go_wp2_with (first
      | (go_at_call 132; refine HN.out.mono ?_; rintro e w' ⟨rfl, rfl⟩)
      | (go_at_call 134; refine HP.out.mono ?_; rintro e w1 ⟨rfl, hS⟩; have H1 := Lib.hid (hS.pull2.addNil 3 1); clear hS))
    (try simp only [Exit.inBlock, Exit.then]); refine bodyPost_ret (results_tmp4 rfl _ _ _) rfl ?_
    exact ⟨_, rfl, H1.out⟩
  | true =>
    cases c with
    | true => cases hc
    | false =>
      have HP := Lib.hid (q_put (h.store 2 (.bool false)) z)
      have HPQ : Hid (∀ w (G : Hp), Sat w0 (ringP r m (putL m xs z) * G) w → Calls Tryz.prog 134 #[vp r] w fun e w' => e = .returned (.tuple #[vi x, .bool t]) ∧ Sat w0 (ringP r m (nextL m xs z true).tail * G) w') := HPP
      clear h HPP
      generalize (nextL m xs z true).tail = L at *
      go_enter Tryz.func67, Tryz.ntmps67
      go_wp2_with (first
        | (go_at_call 132; refine HN.out.mono ?_; rintro e w' ⟨rfl, rfl⟩)
        | (go_at_call 133; refine HP.out.mono ?_; rintro e w1 ⟨v1, rfl, hS⟩; have d0 := hS.pull2.cell 0 rfl; have H1 := Lib.hid hS; clear hS)
        | (go_at_call 134; refine (HPQ.out _ _ H1.out.pull3).mono ?_; rintro e w2 ⟨rfl, hS⟩; have H2 := Lib.hid hS.rot3; clear hS))
      (try simp only [Exit.inBlock, Exit.then]); refine bodyPost_ret (results_tmp4 rfl _ _ _) rfl ?_
      exact ⟨_, rfl, H2.out⟩
set_option maxHeartbeats 1000000 in
theorem q_remove_next (h : Sat w0 (quB q r z true * (ringP r m xs * F)) w) :
    Calls Tryz.prog 86 #[vp q, vi z] w fun e w' => e = .returned (.bool true) ∧ Sat w0 (quB q r z false * (ringP r m xs * F)) w' := by
  have c0 := h.cell 0 rfl
  have c1 := h.cell 1 rfl
  have c2 := h.cell 2 rfl
  have f2 := h.free 2
  have HN := Lib.hid (q_none h)
  have H1 := Lib.hid (h.store 2 (.bool false))
  clear h
  go_enter Tryz.func86, Tryz.ntmps86
  go_wp2_with (go_at_call 132; refine HN.out.mono ?_; rintro e w' ⟨rfl, rfl⟩)
  go_ret
  exact ⟨rfl, H1.out⟩
set_option maxHeartbeats 1000000 in
theorem q_remove (h : Sat w0 (quB q r z b * (ringP r m xs * F)) w) (g : Int) (hc : ¬ (b = true ∧ z = g)) :
    Calls Tryz.prog 86 #[vp q, vi g] w fun e w' => e = .returned (.bool (decide (g ∈ xs))) ∧ Sat w0 (quB q r z b * (ringP r m (xs.erase g) * F)) w' := by
  have c0 := h.cell 0 rfl
  have c1 := h.cell 1 rfl
  have c2 := h.cell 2 rfl
  have HN := Lib.hid (q_none h)
  have HP := Lib.hid (ring_remove h.pull2 g)
  clear h
  cases b with
  | false =>
    clear hc
    go_enter Tryz.func86, Tryz.ntmps86
    go_wp2_with (first
      | (go_at_call 132; refine HN.out.mono ?_; rintro e w' ⟨rfl, rfl⟩)
      | (go_at_call 155; refine HP.out.mono ?_; rintro e w1 ⟨rfl, hS⟩; have H1 := Lib.hid hS.pull2; clear hS))
    go_ret
    exact ⟨rfl, H1.out⟩
  | true =>
    have hz : (z == g) = false := beq_eq_false_iff_ne.2 fun e => hc ⟨rfl, e⟩
    clear hc
    go_enter Tryz.func86, Tryz.ntmps86
    go_wp2_with (first
      | (go_at_call 132; refine HN.out.mono ?_; rintro e w' ⟨rfl, rfl⟩)
      | (go_at_call 155; refine HP.out.mono ?_; rintro e w1 ⟨rfl, hS⟩; have H1 := Lib.hid hS.pull2; clear hS))
    go_ret
    exact ⟨rfl, H1.out⟩
theorem q_next (h : Sat w0 (quB q r z b * F) w) :
    Calls Tryz.prog 68 #[vp q] w fun e w' => e = .returned (.tuple #[vi (if b then z else 0), .bool b]) ∧ w = w' := by
  have c1 := h.cell 1 rfl
  have c2 := h.cell 2 rfl
  have HN := Lib.hid (q_none h)
  clear h
  cases b
  all_goals
    go_enter Tryz.func68, Tryz.ntmps68
    go_wp2_with (go_at_call 132; refine HN.out.mono ?_; rintro e w' ⟨rfl, rfl⟩)
    go_ret2
    exact ⟨rfl, rfl⟩
def allQ (xs : List Int) (z : Int) (b : Bool) : List Int := if b then z :: xs else xs
end
end Go.Proofs.YtdbppfcilaajaaaGreat.Rq
