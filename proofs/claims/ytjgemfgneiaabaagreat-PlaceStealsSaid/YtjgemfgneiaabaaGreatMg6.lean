/-
  Chapter 05: who may run where: the closure in Steal. No statement is proved here.
-/
import Derived.Test.YtjgemfgneiaabaaGreatMg5
namespace Go.Proofs.YtjgemfgneiaabaaGreat.Rq
open Go.RowKit
set_option linter.unusedVariables false

section
variable {w : World} {v : Value} {af : List Nat} {p g : Int} {ba bp : Nat}
theorem clo_no (ha : w.cell? ⟨ba, 0, none⟩ = some v) (hp : w.cell? ⟨bp, 0, none⟩ = some (vi p)) (h : RdA w v af) (hg : g < 0 ∨ (af.length : Int) ≤ g) :
    Calls Tryz.prog 101 #[vi g, .pointer (some ⟨ba, 0, none⟩), .pointer (some ⟨bp, 0, none⟩)] w fun e w' => e = .returned (.bool (mayG af p g)) ∧ ∃ n, w' = w.drewN n := by
  rw [show mayG af p g = false by rw [mayG, decide_eq_false (by omega)]; rfl]
  obtain ⟨ao, cap, rfl⟩ := Rd.len h.1
  clear h
  by_cases h1 : g < 0
  · have h2 : decide (0 ≤ g) = false := decide_eq_false (by omega)
    clear hg h1
    go_enter Tryz.func101, Tryz.ntmps101
    go_wp2
    go_quiet (fail)
    go_wp2
    go_ret
    exact ⟨by simp, _, rfl⟩
  · have h2 : decide (0 ≤ g) = true := decide_eq_true (by omega)
    have h3 : decide (g < (af.length : Int)) = false := decide_eq_false (by omega)
    clear hg h1
    go_enter Tryz.func101, Tryz.ntmps101
    go_wp2
    go_quiet (fail)
    go_wp2
    go_ret
    exact ⟨by simp, _, rfl⟩
theorem clo_at (ha : w.cell? ⟨ba, 0, none⟩ = some v) (hp : w.cell? ⟨bp, 0, none⟩ = some (vi p)) (h : RdA w v af) (k : Nat) (hk : k < af.length) :
    Calls Tryz.prog 101 #[vi k, .pointer (some ⟨ba, 0, none⟩), .pointer (some ⟨bp, 0, none⟩)] w fun e w' => e = .returned (.bool (mayG af p k)) ∧ ∃ n, w' = w.drewN n := by
  obtain ⟨a, hka⟩ : ∃ a, af[k]? = some a := ⟨af[k], List.getElem?_eq_getElem hk⟩
  rw [show mayG af p k = hasB a p by rw [mayG, decide_eq_true (by omega), Int.toNat_natCast, hka]; rfl]
  have hab := h.2 a (List.mem_of_getElem? hka)
  obtain ⟨b, off, cap, rfl, hc⟩ : ∃ b off cap, v = .slice (some ⟨b, off, none⟩) af.length cap ∧ w.cell? ⟨b, off + k, none⟩ = some (.int .u8 a) := by
    rcases h.1.2 with ⟨h0, _⟩ | ⟨b, off, cap, hv, hc⟩
    · omega
    · exact ⟨b, off, cap, hv, hc k _ (by rw [List.getElem?_map, hka]; rfl)⟩
  have hki : (k : Int) < (af.length : Int) := by omega
  have hkd : decide (k < af.length) = true := decide_eq_true hk
  clear h hka
  go_enter Tryz.func101, Tryz.ntmps101
  go_wp2
  go_quiet ((go_at_call 46; exact Calls.quiet_of_same ((num_has a hab p _).mono fun _ _ h => ⟨h.1, h.2.symm⟩)))
  go_wp2
  go_ret
  exact ⟨rfl, _, rfl⟩
theorem clo_ (ha : w.cell? ⟨ba, 0, none⟩ = some v) (hp : w.cell? ⟨bp, 0, none⟩ = some (vi p)) (h : RdA w v af) :
    Calls Tryz.prog 101 #[vi g, .pointer (some ⟨ba, 0, none⟩), .pointer (some ⟨bp, 0, none⟩)] w fun e w' => e = .returned (.bool (mayG af p g)) ∧ ∃ n, w' = w.drewN n := by
  by_cases hg : g < 0 ∨ (af.length : Int) ≤ g
  · exact clo_no ha hp h hg
  · obtain ⟨k, rfl⟩ := Int.eq_ofNat_of_zero_le (show 0 ≤ g by omega)
    exact clo_at ha hp h k (by omega)
end
end Go.Proofs.YtjgemfgneiaabaaGreat.Rq

namespace Go.Proofs.YtjgemfgneiaabaaGreat.Rq
open Go.RowKit
set_option linter.unusedVariables false

section
variable {w0 w : World} {F : Hp} {q m : Nat} {vL vN : Value} {xs : List Int} {z : Int} {b : Bool}
end
end Go.Proofs.YtjgemfgneiaabaaGreat.Rq

namespace Go.Proofs.YtjgemfgneiaabaaGreat.Rq
open Go.RowKit
set_option linter.unusedVariables false

section
variable {w0 w : World} {F : Hp} {q r m : Nat} {z : Int} {b : Bool} {xs : List Int}
end
end Go.Proofs.YtjgemfgneiaabaaGreat.Rq

namespace Go.Proofs.YtjgemfgneiaabaaGreat.Rq
open Go.RowKit
set_option linter.unusedVariables false

section
variable {w0 w : World} {F : Hp}
theorem r_new (n : Nat) (h : Sat w0 F w) :
    Calls Tryz.prog 21 #[vi n] w fun e w' => ∃ q, e = .returned (vp q) ∧ Sat w0 (rqB q n (.slice none 0 0) (.slice none 0 0) * (rs 3 (.slice none 0 0) (([] : List Int).map vi) * (rs 3 (.slice none 0 0) ((nsOf 0 false).map vi) * F))) w' := by
  have h1 := h.alloc (.cells #[.slice none 0 0, vi n, .slice none 0 0] 111)
  have H1 := Lib.hid h1
  clear h h1
  go_enter Tryz.func21, Tryz.ntmps21
  go_wp2
  go_ret
  refine ⟨w.heap.size, rfl, ?_⟩
  have h2 : Sat w0 (rqB w.heap.size n (.slice none 0 0) (.slice none 0 0) * F) _ := H1.out
  exact ((h2.rsNil 3).rsNil 3).pull3
end
end Go.Proofs.YtjgemfgneiaabaaGreat.Rq

namespace Go.Proofs.YtjgemfgneiaabaaGreat.Rq
open Go.RowKit
set_option linter.unusedVariables false

section
variable {w0 w : World} {F : Hp} {q m : Nat} {vL vN : Value} {xs ns : List Int}
end
end Go.Proofs.YtjgemfgneiaabaaGreat.Rq

namespace Go.Proofs.YtjgemfgneiaabaaGreat
section
variable {w0 w : World}
theorem Sat.pull5 {A B C D E G : Hp} (h : Sat w0 (A * (B * (C * (D * (E * G))))) w) : Sat w0 (E * (A * (B * (C * (D * G))))) w := h.cast (by ac_rfl)
theorem Sat.pull6 {A B C D E G I : Hp} (h : Sat w0 (A * (B * (C * (D * (E * (G * I)))))) w) : Sat w0 (G * (A * (B * (C * (D * (E * I)))))) w := h.cast (by ac_rfl)
theorem Sat.pull7 {A B C D E G I J : Hp} (h : Sat w0 (A * (B * (C * (D * (E * (G * (I * J))))))) w) : Sat w0 (I * (A * (B * (C * (D * (E * (G * J))))))) w := h.cast (by ac_rfl)
theorem Rd.oneB (w : World) (T : TypeId) (x : Value) {b : Nat} (hb : b = w.heap.size) : Rd (w.alloc (.cells #[x] T)) 1 (.slice (some ⟨b, 0, none⟩) 1 1) 1 [x] := by
  subst hb
  exact Rd.one w T x
end
end Go.Proofs.YtjgemfgneiaabaaGreat
namespace Go.Proofs.YtjgemfgneiaabaaGreat.Rq
open Go.RowKit
set_option linter.unusedVariables false

/-- The first k of those that f takes. -/
def stealO (f : Int → Bool) : Nat → List Int → List Int
  | _, [] => []
  | 0, _ :: _ => []
  | k + 1, x :: t => if f x then x :: stealO f k t else stealO f (k + 1) t
/-- The others. -/
def stealL (f : Int → Bool) : Nat → List Int → List Int
  | _, [] => []
  | 0, x :: t => x :: t
  | k + 1, x :: t => if f x then stealL f k t else x :: stealL f (k + 1) t
theorem stealO_zero (f : Int → Bool) (xs : List Int) : stealO f 0 xs = [] := by cases xs <;> rfl
theorem stealL_zero (f : Int → Bool) (xs : List Int) : stealL f 0 xs = xs := by cases xs <;> rfl
theorem stealO_eq (f : Int → Bool) : ∀ (xs : List Int) (k : Nat), stealO f k xs = (xs.filter f).take k
  | [], k => by cases k <;> simp [stealO]
  | x :: t, 0 => by simp [stealO]
  | x :: t, k + 1 => by
    unfold stealO
    by_cases h : f x = true
    · rw [if_pos h, List.filter_cons_of_pos h, List.take_succ_cons, stealO_eq f t k]
    · rw [if_neg h, List.filter_cons_of_neg h, stealO_eq f t (k + 1)]
theorem foldl_erase_cons (x : Int) : ∀ (os t : List Int), (∀ o ∈ os, o ≠ x) → os.foldl List.erase (x :: t) = x :: os.foldl List.erase t
  | [], _, _ => rfl
  | o :: os, t, h => by
    rw [List.foldl_cons, List.foldl_cons, List.erase_cons_tail (by simpa using fun e => h o (by simp) e.symm), foldl_erase_cons x os _ fun o' ho => h o' (by simp [ho])]
theorem stealO_mem {f : Int → Bool} {k : Nat} {xs : List Int} {o : Int} (h : o ∈ stealO f k xs) : f o = true ∧ o ∈ xs := by
  rw [stealO_eq] at h
  have := List.mem_filter.1 (List.mem_of_mem_take h)
  exact ⟨this.2, this.1⟩
theorem stealL_eq (f : Int → Bool) : ∀ (xs : List Int) (k : Nat), (stealO f k xs).foldl List.erase xs = stealL f k xs
  | [], k => by cases k <;> simp [stealO, stealL]
  | x :: t, 0 => by simp [stealO, stealL]
  | x :: t, k + 1 => by
    unfold stealO stealL
    by_cases h : f x = true
    · rw [if_pos h, if_pos h, List.foldl_cons, List.erase_cons_head, stealL_eq f t k]
    · rw [if_neg h, if_neg h, foldl_erase_cons, stealL_eq f t (k + 1)]
      intro o ho e
      exact h (e ▸ (stealO_mem ho).1)
def halfK (f : Int → Bool) (xs : List Int) : Nat := ((xs.filter f).length + 1) / 2
/-- Who is stolen, whom the ring has then, is somebody next then? -/
def thiefO (f : Int → Bool) (xs : List Int) (z : Int) (b : Bool) : List Int := if (stealO f (halfK f xs) xs).isEmpty && b && f z then [z] else stealO f (halfK f xs) xs
def thiefL (f : Int → Bool) (xs : List Int) : List Int := stealL f (halfK f xs) xs
def thiefB (f : Int → Bool) (xs : List Int) (z : Int) (b : Bool) : Bool := if (stealO f (halfK f xs) xs).isEmpty && b && f z then false else b
theorem half_empty (f : Int → Bool) (xs : List Int) : (stealO f (halfK f xs) xs).isEmpty = (xs.filter f).isEmpty := by
  rw [stealO_eq]
  unfold halfK
  generalize xs.filter f = l
  cases l with
  | nil => rfl
  | cons a l =>
    obtain ⟨k, hk⟩ : ∃ k, ((a :: l).length + 1) / 2 = k + 1 := ⟨((a :: l).length + 1) / 2 - 1, by simp; omega⟩
    rw [hk]
    rfl
end Go.Proofs.YtjgemfgneiaabaaGreat.Rq

namespace Go.Proofs.YtjgemfgneiaabaaGreat.Rq
open Go.RowKit
set_option linter.unusedVariables false

section
variable {w0 w : World} {F : Hp} {q r m : Nat} {z : Int} {b : Bool} {xs : List Int}
set_option maxRecDepth 100000 in
set_option maxHeartbeats 4000000 in
theorem q_steal (h : Sat w0 (quB q r z b * (ringP r m xs * F)) w) (p : Int) {v : Value} {af : List Nat} (hA : ∀ w', Sat w0 F w' → RdA w' v af) :
    Calls Tryz.prog 71 #[vp q, vi p, v] w fun e w' => ∃ u, e = .returned u ∧ Sat w0 (sl 3 1 u (thiefO (mayG af p) xs z b).length ((thiefO (mayG af p) xs z b).map vi) * (quB q r z (thiefB (mayG af p) xs z b) * (ringP r m (thiefL (mayG af p) xs) * F))) w' := by
  have hrl := h.pull2.ringLen
  obtain ⟨ao, cap, rfl⟩ : ∃ ao cap, v = .slice ao af.length cap := (hA w h.dropL.dropL).1.len
  have hB : Sat w0 (pc (w.heap.size + 1) 32 [.slice ao af.length cap] * (pc w.heap.size 3 [vi p] * (quB q r z b * (ringP r m xs * F)))) ((w.alloc (.cells #[vi p] 3)).alloc (.cells #[.slice ao af.length cap] 32)) := by
    have := (h.alloc (.cells #[vi p] 3)).alloc (.cells #[.slice ao af.length cap] 32)
    rwa [show (w.alloc (.cells #[vi p] 3)).heap.size = w.heap.size + 1 by simp] at this
  have H0 := Lib.hid hB
  have HA := Lib.hid hA
  clear hB hA h
  go_enter Tryz.func71, Tryz.ntmps71
  go_wp2
  go_step3
  have c0 := H0.out.pull3.cell 0 rfl
  go_wp2_with fail
  refine (q_none H0.out.pull3).mono ?_
  rintro e w' ⟨rfl, rfl⟩
  go_wp2_with fail
  go_step3
  go_wp2_with fail
  refine (ring_all H0.out.pull4).mono ?_
  rintro e w1 ⟨v1, rfl, hS1⟩
  obtain ⟨ao1, cap1, rfl⟩ := hS1.rd.len
  have H1 := Lib.hid hS1
  clear hS1 c0
  generalize w.heap.size = bp at *
  go_wp2_with fail
  go_loopw [8, 22] (fun l i wr => ∃ (k : Nat), k ≤ xs.length ∧ i = vi k ∧ Sat w0 (sl 3 1 l ((xs.take k).filter (mayG af p)).length (((xs.take k).filter (mayG af p)).map vi) * (sl 3 1 (.slice ao1 xs.length cap1) xs.length (xs.map vi) * (pc (bp + 1) 32 [.slice ao af.length cap] * (pc bp 3 [vi p] * (quB q r z b * (ringP r m xs * F)))))) wr) (fun _ i _ => xs.length - (intOf i).toNat)
  case atStart => exact ⟨0, Nat.zero_le _, rfl, ((H1.out.cast (by ac_rfl)).addNil 3 1)⟩
  case round =>
    obtain ⟨k, hk, rfl, hS⟩ := hrel
    have hfl : ((xs.take k).filter (mayG af p)).length ≤ xs.length := Nat.le_trans (List.length_filter_le _ _) (List.length_take_le' _ _)
    by_cases hlt : k < xs.length
    · obtain ⟨g, hg⟩ : ∃ g, xs[k]? = some g := ⟨xs[k], List.getElem?_eq_getElem hlt⟩
      have htk : xs.take (k + 1) = xs.take k ++ [g] := by
        rw [List.take_add_one, hg]
        rfl
      obtain ⟨bx, ox, cx, hv, hc⟩ := hS.pull2.rd.pos (by omega)
      cases hv
      have cg := hc k (vi g) (by rw [List.getElem?_map, hg]; rfl)
      have ca := hS.pull3.cell 0 rfl
      have cp := hS.pull4.cell 0 rfl
      have hRd := HA.out wr hS.dropL.dropL.dropL.dropL.dropL.dropL
      have HC := Lib.hid (clo_ (g := g) ca cp hRd)
      have HS := Lib.hid hS
      clear hc hS ca cp hRd H1 H0
      by_cases hm : mayG af p g = true
      · rw [hm] at HC
        have hfi : (xs.take (k + 1)).filter (mayG af p) = (xs.take k).filter (mayG af p) ++ [g] := by
          rw [htk, List.filter_append, List.filter_cons_of_pos hm]
          rfl
        go_wp2_with fail
        refine HC.out.mono ?_
        rintro e w2 ⟨rfl, N, rfl⟩
        go_wp2_with (at_builtin; refine wpList_append_sl Einti rfl (.tmp 30) (.tmp 32) rfl rfl ((HS.out.drewN _).alloc' _) (by rfl) (Rd.one _ _ _) (by simp [Value.oneCell']) (by unfold maxLen; omega) (by omega) ?_; intro ao3 cap3 w3 hS3; have H3 := Lib.hid hS3; clear hS3)
        go_roundw
        case rel =>
          refine ⟨k + 1, by omega, by go_num, ?_⟩
          rw [hfi, List.length_append, List.map_append]
          exact H3.out
        case measure => simp [intOf]; omega
      · have hm' : mayG af p g = false := by simpa using hm
        rw [hm'] at HC
        have hfi : (xs.take (k + 1)).filter (mayG af p) = (xs.take k).filter (mayG af p) := by
          rw [htk, List.filter_append, List.filter_cons_of_neg hm]
          simp
        go_wp2_with fail
        refine HC.out.mono ?_
        rintro e w2 ⟨rfl, N, rfl⟩
        go_wp2
        go_roundw
        case rel =>
          refine ⟨k + 1, by omega, by go_num, ?_⟩
          rw [hfi]
          exact HS.out.drewN _
        case measure => simp [intOf]; omega
    · obtain rfl : k = xs.length := by omega
      rw [List.take_length] at hS hfl
      obtain ⟨ao2, cap2, rfl⟩ := hS.rd.len
      have hcap := hS.capOk
      obtain ⟨half, hh⟩ : ∃ half : Nat, halfK (mayG af p) xs = half := ⟨_, rfl⟩
      have hhd : half = ((xs.filter (mayG af p)).length + 1) / 2 := by rw [← hh]; rfl
      have HS := Lib.hid hS
      have HH := Lib.hid hh
      have c0 := hS.pull5.cell 0 rfl
      have c1 := hS.pull5.cell 1 rfl
      have c2 := hS.pull5.cell 2 rfl
      clear hS hh H1 H0
      generalize hL : (xs.filter (mayG af p)).length = L at *
      have hw1 : IntKind.i64.wrap ((L : Int) + 1) = (L : Int) + 1 := IntWalk.i64_in _ (by omega)
      have hq : ((L : Int) + 1) / 2 = (half : Int) := by omega
      have HQ := Lib.hid hq
      have HHD := Lib.hid hhd
      clear hq hhd
      go_wp2_with fail
      rw [HQ.out, ← HHD.out]
      have hhL : half ≤ L := by have := HHD.out; omega
      have hhL2 : L ≤ 2 * half := by have := HHD.out; omega
      obtain ⟨O, hO⟩ : ∃ O, stealO (mayG af p) half xs = O := ⟨_, rfl⟩
      have hOe : O = (xs.filter (mayG af p)).take half := by rw [← hO, stealO_eq]
      have hOl : O.length = half := by rw [hOe, List.length_take]; omega
      have HO := Lib.hid hO
      have HOl := Lib.hid hOl
      have HOe := Lib.hid hOe
      clear hO hOl hOe
      go_loopw [6, 42] (fun l i wx => ∃ (k : Nat), k ≤ half ∧ i = vi k ∧ Sat w0 (sl 3 1 l k ((O.take k).map vi) * (sl 3 1 (.slice ao2 L cap2) L ((xs.filter (mayG af p)).map vi) * (pc (bp + 1) 32 [.slice ao af.length cap] * (pc bp 3 [vi p] * (quB q r z b * (ringP r m ((O.take k).foldl List.erase xs) * F)))))) wx) (fun _ i _ => half - (intOf i).toNat)
      case atStart => exact ⟨0, Nat.zero_le _, rfl, HS.out.drop2.addNil 3 1⟩
      case round =>
        obtain ⟨k, hk, rfl, hS⟩ := hrel
        by_cases hlt2 : k < half
        · obtain ⟨g, hg⟩ : ∃ g, O[k]? = some g := ⟨O[k]'(by rw [HOl.out]; exact hlt2), List.getElem?_eq_getElem _⟩
          have htk : O.take (k + 1) = O.take k ++ [g] := by
            rw [List.take_add_one, hg]
            rfl
          obtain ⟨bx, ox, cx, hv, hc⟩ := hS.pull2.rd.pos (by omega)
          cases hv
          have cg := hc k (vi g) (by
            rw [HOe.out, List.getElem?_take, if_pos hlt2] at hg
            rw [List.getElem?_map, hg]
            rfl)
          have d0 := hS.pull5.cell 0 rfl
          have HR := Lib.hid (ring_remove hS.pull6 g)
          clear hc hS HS c0 c1 c2
          go_wp2_with (first
            | (go_at_call 102; refine HR.out.mono ?_; rintro e w2 ⟨rfl, hS2⟩; have H2 := Lib.hid hS2.pull2; clear hS2)
            | (at_builtin; refine wpList_append_sl Einti rfl (.tmp 52) (.tmp 54) rfl rfl (H2.out.alloc' _) (by rfl) (Rd.one _ _ _) (by simp [Value.oneCell']) (by unfold maxLen; omega) (by omega) ?_; intro ao3 cap3 w3 hS3; have H3 := Lib.hid hS3; clear hS3))
          go_roundw
          case rel =>
            refine ⟨k + 1, by omega, by go_num, ?_⟩
            rw [htk, List.foldl_append, List.map_append]
            exact H3.out.cast (by simp only [List.foldl_cons, List.foldl_nil, List.map_cons, List.map_nil]; ac_rfl)
          case measure => simp [intOf]; omega
        · obtain rfl : k = half := by omega
          rw [List.take_of_length_le (by rw [HOl.out]; exact Nat.le_refl _)] at hS
          have hfin : O.foldl List.erase xs = thiefL (mayG af p) xs := by
            rw [thiefL, HH.out, ← HO.out, stealL_eq]
          rw [hfin] at hS
          obtain ⟨ao6, cap6, rfl⟩ := hS.rd.len
          have hle : thiefO (mayG af p) xs z b = if O.isEmpty && b && mayG af p z then [z] else O := by rw [thiefO, HH.out, HO.out]
          have hlb : thiefB (mayG af p) xs z b = if O.isEmpty && b && mayG af p z then false else b := by rw [thiefB, HH.out, HO.out]
          have hS9 := hS.drop2.drop2.drop2
          have c1 := hS.pull5.cell 1 rfl
          have c2 := hS.pull5.cell 2 rfl
          have f2 := hS.pull5.free 2
          have ca := hS.pull3.cell 0 rfl
          have cp := hS.pull4.cell 0 rfl
          have HC := Lib.hid (clo_ (g := z) ca cp (HA.out wr hS.dropL.dropL.dropL.dropL.dropL.dropL))
          have hOl := HOl.out
          have HS9 := Lib.hid hS9
          have HLE := Lib.hid hle
          have HLB := Lib.hid hlb
          clear hle hlb hS9 hS HS hfin HOe HHD HQ HH ca cp hk
          by_cases hk0 : k = 0
          · subst hk0
            obtain rfl : O = [] := List.eq_nil_of_length_eq_zero hOl
            cases b with
            | false =>
              go_wp2_with fail
              try rw [Exit.noGoto_ret]
              go_ret
              refine ⟨_, rfl, ?_⟩
              rw [HLE.out, HLB.out]
              exact HS9.out
            | true =>
              generalize mayG af p z = t at *
              cases t with
              | false =>
                go_wp2_with fail
                refine HC.out.mono ?_
                rintro e w2 ⟨rfl, N, rfl⟩
                go_wp2_with fail
                try rw [Exit.noGoto_ret]
                go_ret
                refine ⟨_, rfl, ?_⟩
                rw [HLE.out, HLB.out]
                exact HS9.out.drewN _
              | true =>
                go_wp2_with fail
                refine HC.out.mono ?_
                rintro e w2 ⟨rfl, N, rfl⟩
                have d1 := (HS9.out.drewN N).pull2.cell 1 rfl
                have d2 := (HS9.out.drewN N).pull2.free 2
                have h3 := ((HS9.out.drewN N).pull2.store 2 (.bool false))
                have e1 := h3.cell 1 rfl
                have H3 := Lib.hid h3.pull2
                clear h3
                go_wp2_with (at_builtin; refine wpList_append_sl Einti rfl (.tmp 77) (.tmp 82) rfl rfl (H3.out.alloc' _) (by rfl) (Rd.oneB _ _ _ (by simp)) (by simp [Value.oneCell']) (by unfold maxLen; omega) (by omega) ?_; intro ao8 cap8 w8 hS8; have H8 := Lib.hid hS8; clear hS8)
                try rw [Exit.noGoto_ret]
                go_ret
                refine ⟨_, rfl, ?_⟩
                rw [HLE.out, HLB.out]
                exact H8.out
          · have hk1 : ¬ (k : Int) = 0 := by omega
            have hOe : O.isEmpty = false := by
              cases O with
              | nil => exact absurd hOl.symm hk0
              | cons _ _ => rfl
            go_wp2_with fail
            try rw [Exit.noGoto_ret]
            go_ret
            refine ⟨_, rfl, ?_⟩
            rw [HLE.out, HLB.out, hOe]
            simp only [Bool.false_and, Bool.false_eq_true, if_false]
            rw [hOl]
            exact HS9.out
end
end Go.Proofs.YtjgemfgneiaabaaGreat.Rq
