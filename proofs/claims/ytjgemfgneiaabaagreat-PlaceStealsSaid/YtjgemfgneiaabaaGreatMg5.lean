/-
  The reference's queue of chapter 05: Take where one is next, and is put. No statement is proved here.
-/
import Derived.Test.YtjgemfgneiaabaaGreatMg4
namespace Go.Proofs.YtjgemfgneiaabaaGreat.Rq
open Go.RowKit
set_option linter.unusedVariables false

section
variable {w0 w : World} {F : Hp} {q r m : Nat} {vL vN : Value} {xs : List Int} {z : Int} {b : Bool}
/-- The first one is taken: the list's slice goes on. -/
theorem headOff {A : Hp} {g off cap2 : Nat} {x : Int} {t : List Int} (h : Sat w0 (rqB q m (.slice (some ⟨g, off, none⟩) (t.length + 1) cap2) vN * (rs 3 (.slice (some ⟨g, off, none⟩) (t.length + 1) cap2) (vi x :: t.map vi) * A)) w) (o : Nat) (ho : o = off + 1 ∨ t = []) (v' : Value) (hv : v' = Value.slice (some ⟨g, o, none⟩) t.length (cap2 - 1)) :
    RdI (w.setCell ⟨q, 0, none⟩ v') (.slice (some ⟨g, off, none⟩) 1 cap2) [x] ∧ Sat w0 (rqB q m v' vN * (rs 3 v' (t.map vi) * A)) (w.setCell ⟨q, 0, none⟩ v') := by
  have h1 := h.store 0 v'
  have h2 : RdI (w.setCell ⟨q, 0, none⟩ v') (.slice (some ⟨g, off, none⟩) (t.length + 1) cap2) (x :: t) := rsRdI (ys := x :: t) h1.pull2
  have h3 := h2.pre (k := 1) (by simp) (by simp)
  refine ⟨h3, ?_⟩
  have h4 := rsTail h1.pull2 o (ho.imp id fun e => by rw [e]; rfl)
  rw [List.length_map] at h4
  rw [← hv] at h4
  exact h4.pull2
theorem putL_cons (hl : xs.length ≤ m) (hm1 : 2 ≤ m) (z : Int) : ∃ x t, putL m xs z = x :: t ∧ t.length ≤ m := by
  have hlen : 1 ≤ (putL m xs z).length ∧ (putL m xs z).length ≤ m + 1 := by
    unfold putL
    split
    · simp; omega
    · rw [List.length_drop]; omega
  cases hp : putL m xs z with
  | nil => rw [hp] at hlen; simp at hlen
  | cons x t => rw [hp] at hlen; exact ⟨x, t, rfl, by simp at hlen; omega⟩
set_option maxRecDepth 100000 in
set_option maxHeartbeats 4000000 in
theorem r_take_put (h : Sat w0 (rqB q m vL vN * (rs 3 vL (xs.map vi) * (rs 3 vN ((nsOf z true).map vi) * F))) w) (hl : xs.length ≤ m) (hm1 : 2 ≤ m) (hm : m ≤ 4096) {x : Int} {t : List Int} (hp : putL m xs z = x :: t) (ht : t.length ≤ m) :
    Calls Tryz.prog 86 #[vp q, .bool false] w fun e w' => ∃ v vL' u, e = .returned (.tuple #[v, .bool false, u]) ∧ RdI w' v [x] ∧
      Sat w0 (rqB q m vL' (.slice none 0 0) * (rs 3 vL' (t.map vi) * (sl 3 1 u (spillL m xs z).length ((spillL m xs z).map vi) * (rs 3 (.slice none 0 0) [] * F)))) w' := by
  have c2 := h.cell 2 rfl
  have f2 := h.free 2
  have h3 := h.store 2 (.slice none 0 0)
  obtain ⟨bN, off, cap, rfl, hne, cN⟩ : ∃ bN off cap, vN = .slice (some ⟨bN, off, none⟩) 1 cap ∧ bN ≠ q ∧ w.cell? ⟨bN, off, none⟩ = some (vi z) := by
    rcases h.pull3.rsE with ⟨_, h0, _⟩ | ⟨bN, off, cap, cur, hv, _, _, hS, hc⟩
    · cases h0
    · refine ⟨bN, off, cap, hv, hS.ne, ?_⟩
      have hx := hc 0 (vi z) rfl
      have := hS.cell _ hx
      simpa using this
  have h4 : Sat w0 (rqB q m vL (.slice none 0 0) * (rs 3 vL (xs.map vi) * F)) (w.setCell ⟨q, 2, none⟩ (.slice none 0 0)) := h3.drop3
  have HP := Lib.hid (r_put h4 hl hm1 hm z)
  rw [hp] at HP
  clear h h3 h4 hp
  go_enter Tryz.func86, Tryz.ntmps86
  go_wp2_with fail
  refine HP.out.mono ?_
  rintro e w2 ⟨v2, vL', rfl, hS⟩
  obtain ⟨g, o2, cap2, e, hcap⟩ := rsForm hS.pull3
  have e : vL' = .slice (some ⟨g, o2, none⟩) (t.length + 1) cap2 := by
    rw [e]
    simp
  have hcap : t.length + 1 ≤ cap2 := by simpa using hcap
  subst e
  have hS5 := hS.rot3
  have d0 := hS.pull2.cell 0 rfl
  have f0 := hS.pull2.free 0
  have hcap1 : (1 : Int) ≤ (cap2 : Int) := by omega
  have hcap3 : 1 ≤ cap2 := by omega
  have HH : Hid (∀ o, (o = o2 + 1 ∨ t = []) → ∀ v', v' = Value.slice (some ⟨g, o, none⟩) t.length (cap2 - 1) → RdI (w2.setCell ⟨q, 0, none⟩ v') (.slice (some ⟨g, o2, none⟩) 1 cap2) [x] ∧ Sat w0 (rqB q m v' (.slice none 0 0) * (rs 3 v' (t.map vi) * (sl 3 1 v2 (spillL m xs z).length ((spillL m xs z).map vi) * F))) (w2.setCell ⟨q, 0, none⟩ v')) := Lib.hid fun o ho v' hv => headOff hS5 o ho v' hv
  clear hS hS5
  by_cases hck : cap2 = 1
  · have ht0 : t = [] := List.eq_nil_of_length_eq_zero (by omega)
    have HF := Lib.hid (HH.out o2 (.inr ht0) _ rfl)
    subst ht0
    subst hck
    clear HH
    go_wp2
    go_ret3
    exact ⟨.slice (some ⟨g, o2, none⟩) 1 1, .slice (some ⟨g, o2, none⟩) 0 0, v2, rfl, HF.out.1, (HF.out.2.rsNil 3).pull4.cast (by ac_rfl)⟩
  · have HF := Lib.hid (HH.out (o2 + 1) (.inl rfl) _ rfl)
    clear HH
    go_wp2
    go_ret3
    exact ⟨.slice (some ⟨g, o2, none⟩) 1 cap2, .slice (some ⟨g, o2 + 1, none⟩) t.length (cap2 - 1), v2, rfl, HF.out.1, (HF.out.2.rsNil 3).pull4.cast (by ac_rfl)⟩
end
end Go.Proofs.YtjgemfgneiaabaaGreat.Rq

namespace Go.Proofs.YtjgemfgneiaabaaGreat.Rq
open Go.RowKit
set_option linter.unusedVariables false

end Go.Proofs.YtjgemfgneiaabaaGreat.Rq

namespace Go.Proofs.YtjgemfgneiaabaaGreat.Rq
open Go.RowKit
set_option linter.unusedVariables false

theorem bit_out (p : Int) (hp : p < 0 ∨ 7 < p) (w : World) :
    Calls Tryz.prog 89 #[vi p] w fun e w' => e = .returned (.int .u8 0) ∧ w = w' := by
  rcases hp with h | h
  · go_enter Tryz.func89, Tryz.ntmps89
    go_wp2
    go_ret
    exact ⟨rfl, rfl⟩
  · have h2 : ¬ p < 0 := by omega
    go_enter Tryz.func89, Tryz.ntmps89
    go_wp2
    go_ret
    exact ⟨rfl, rfl⟩
theorem bit_in (p : Nat) (hp : p ≤ 7) (w : World) :
    Calls Tryz.prog 89 #[vi p] w fun e w' => e = .returned (.int .u8 (2 ^ p : Nat)) ∧ w = w' := by
  rcases (show p = 0 ∨ p = 1 ∨ p = 2 ∨ p = 3 ∨ p = 4 ∨ p = 5 ∨ p = 6 ∨ p = 7 by omega) with rfl | rfl | rfl | rfl | rfl | rfl | rfl | rfl
  all_goals
    go_enter Tryz.func89, Tryz.ntmps89
    go_wp2
    go_ret
    exact ⟨by rfl, rfl⟩
end Go.Proofs.YtjgemfgneiaabaaGreat.Rq

namespace Go.Proofs.YtjgemfgneiaabaaGreat.Rq
open Go.RowKit
set_option linter.unusedVariables false

/-- Is p in the set s? -/
def hasB (s : Nat) (p : Int) : Bool := decide (0 ≤ p ∧ p ≤ 7) && s.testBit p.toNat
theorem bits_has : ∀ s : Fin 256, ∀ p : Fin 8, (bits BinOp.and IntKind.u8 (s.val : Int) ((2 : Int) ^ p.val) != 0) = s.val.testBit p.val := by decide +kernel
theorem bits_zero : ∀ s : Fin 256, bits BinOp.and IntKind.u8 (s.val : Int) 0 = 0 := by decide +kernel
theorem nhas_out (s : Nat) (hs : s < 256) (p : Int) (hp : p < 0 ∨ 7 < p) (w : World) :
    Calls Tryz.prog 46 #[.int .u8 s, vi p] w fun e w' => e = .returned (.bool (hasB s p)) ∧ w = w' := by
  rw [show hasB s p = false by rw [hasB, decide_eq_false (by omega)]; rfl]
  have H := Lib.hid (bit_out p hp w)
  have hb : bits BinOp.and IntKind.u8 (s : Int) 0 = 0 := bits_zero ⟨s, hs⟩
  go_enter Tryz.func46, Tryz.ntmps46
  go_wp2_with (go_at_call 89; refine H.out.mono ?_; rintro e w' ⟨rfl, rfl⟩)
  go_ret
  exact ⟨by simp, rfl⟩
theorem nhas_in (s : Nat) (hs : s < 256) (p : Nat) (hp : p ≤ 7) (w : World) :
    Calls Tryz.prog 46 #[.int .u8 s, vi p] w fun e w' => e = .returned (.bool (hasB s p)) ∧ w = w' := by
  have H := Lib.hid (bit_in p hp w)
  go_enter Tryz.func46, Tryz.ntmps46
  go_wp2_with (go_at_call 89; refine H.out.mono ?_; rintro e w' ⟨rfl, rfl⟩)
  go_ret
  refine ⟨?_, rfl⟩
  have e : hasB s p = (bits BinOp.and IntKind.u8 (s : Int) ((2 : Int) ^ p) != 0) := by
    rw [hasB, decide_eq_true (by omega)]
    exact (bits_has ⟨s, hs⟩ ⟨p, by omega⟩).symm
  rw [e]
  rfl
theorem num_has (s : Nat) (hs : s < 256) (p : Int) (w : World) :
    Calls Tryz.prog 46 #[.int .u8 s, vi p] w fun e w' => e = .returned (.bool (hasB s p)) ∧ w = w' := by
  by_cases h : p < 0 ∨ 7 < p
  · exact nhas_out s hs p h w
  · obtain ⟨k, rfl⟩ := Int.eq_ofNat_of_zero_le (show 0 ≤ p by omega)
    exact nhas_in s hs k (by omega) w
end Go.Proofs.YtjgemfgneiaabaaGreat.Rq

namespace Go.Proofs.YtjgemfgneiaabaaGreat.Rq
open Go.RowKit
set_option linter.unusedVariables false

theorem rhas_out (s : Nat) (p : Int) (hp : p < 0 ∨ 7 < p) (w : World) :
    Calls Tryz.prog 59 #[.int .u8 s, vi p] w fun e w' => e = .returned (.bool (hasB s p)) ∧ w = w' := by
  rw [show hasB s p = false by rw [hasB, decide_eq_false (by omega)]; rfl]
  rcases hp with h | h
  · go_enter Tryz.func59, Tryz.ntmps59
    go_wp2
    go_ret
    exact ⟨rfl, rfl⟩
  · have h2 : ¬ p < 0 := by omega
    go_enter Tryz.func59, Tryz.ntmps59
    go_wp2
    go_ret
    exact ⟨rfl, rfl⟩
theorem rhas_in (s : Nat) (hs : s < 256) (p : Nat) (hp : p ≤ 7) (w : World) :
    Calls Tryz.prog 59 #[.int .u8 s, vi p] w fun e w' => e = .returned (.bool (hasB s p)) ∧ w = w' := by
  have h1 : ¬ (p : Int) < 0 := by omega
  have h2 : ¬ 7 < (p : Int) := by omega
  have h3 : ¬ 7 < p := by omega
  go_enter Tryz.func59, Tryz.ntmps59
  go_wp2
  go_loopw [0, 5] (fun x i wr => ∃ k u : Nat, k ≤ p ∧ i = vi k ∧ x = .int .u8 u ∧ Hid (u = s / 2 ^ k) ∧ u < 256 ∧ w = wr) (fun _ i _ => p - (intOf i).toNat)
  case atStart => exact ⟨0, s, Nat.zero_le _, rfl, rfl, Lib.hid (by simp), hs, rfl⟩
  case round =>
    obtain ⟨k, u, hk, rfl, rfl, hu, hub, rfl⟩ := hrel
    by_cases hlt : k < p
    · have hki : (k : Int) < (p : Int) := by omega
      go_wp2
      go_roundw
      case rel => exact ⟨k + 1, u / 2, by omega, by go_num, by simp, Lib.hid (by rw [hu.out, Nat.pow_succ, Nat.div_div_eq_div_mul]), by omega, trivial⟩
      case measure => (simp [intOf]; try omega)
    · obtain rfl : k = p := by omega
      have hki : ¬ (k : Int) < (k : Int) := by omega
      have e : hasB s k = decide (u % 2 = 1) := by
        rw [hasB, decide_eq_true (by omega), Bool.true_and, Int.toNat_natCast, Nat.testBit_eq_decide_div_mod_eq, hu.out]
      have E := Lib.hid e
      clear e
      go_wp2
      go_ret
      refine ⟨?_, rfl⟩
      have e2 : ((u : Int) % 2 == 1) = hasB s k := by
        rw [E.out]
        by_cases h0 : u % 2 = 1
        · rw [decide_eq_true h0]
          exact beq_iff_eq.2 (by omega)
        · rw [decide_eq_false h0]
          exact beq_eq_false_iff_ne.2 (by omega)
      rw [← e2]
      rfl
theorem ref_has1 (s : Nat) (hs : s < 256) (p : Int) (w : World) :
    Calls Tryz.prog 59 #[.int .u8 s, vi p] w fun e w' => e = .returned (.bool (hasB s p)) ∧ w = w' := by
  by_cases h : p < 0 ∨ 7 < p
  · exact rhas_out s p h w
  · obtain ⟨k, rfl⟩ := Int.eq_ofNat_of_zero_le (show 0 ≤ p by omega)
    exact rhas_in s hs k (by omega) w
end Go.Proofs.YtjgemfgneiaabaaGreat.Rq

namespace Go.Proofs.YtjgemfgneiaabaaGreat.Rq
open Go.RowKit
set_option linter.unusedVariables false

/-- Affinities, as they are read. -/
def RdA (w : World) (v : Value) (af : List Nat) : Prop := Rd w 1 v af.length (af.map fun a : Nat => Value.int .u8 a) ∧ ∀ a ∈ af, a < 256
/-- May g run on p? -/
def mayG (af : List Nat) (p : Int) (g : Int) : Bool := decide (0 ≤ g ∧ g < af.length) && hasB (af[g.toNat]?.getD 0) p
section
variable {w : World} {v : Value} {af : List Nat} {p g : Int}
theorem r_may_no (h : RdA w v af) (hg : g < 0 ∨ (af.length : Int) ≤ g) :
    Calls Tryz.prog 103 #[vi g, vi p, v] w fun e w' => e = .returned (.bool (mayG af p g)) ∧ w = w' := by
  rw [show mayG af p g = false by rw [mayG, decide_eq_false (by omega)]; rfl]
  obtain ⟨ao, cap, rfl⟩ := Rd.len h.1
  clear h
  by_cases h1 : g < 0
  · have h2 : ¬ 0 ≤ g := by omega
    clear hg h1
    go_enter Tryz.func103, Tryz.ntmps103
    go_wp2
    go_ret
    exact ⟨by simp, rfl⟩
  · have h2 : 0 ≤ g := by omega
    have h3 : ¬ g < (af.length : Int) := by omega
    clear hg h1
    go_enter Tryz.func103, Tryz.ntmps103
    go_wp2
    go_ret
    exact ⟨by simp, rfl⟩
theorem r_may_at (h : RdA w v af) (k : Nat) (hk : k < af.length) :
    Calls Tryz.prog 103 #[vi k, vi p, v] w fun e w' => e = .returned (.bool (mayG af p k)) ∧ w = w' := by
  obtain ⟨a, ha⟩ : ∃ a, af[k]? = some a := ⟨af[k], List.getElem?_eq_getElem hk⟩
  rw [show mayG af p k = hasB a p by rw [mayG, decide_eq_true (by omega), Int.toNat_natCast, ha]; rfl]
  have hab := h.2 a (List.mem_of_getElem? ha)
  obtain ⟨b, off, cap, rfl, hc⟩ : ∃ b off cap, v = .slice (some ⟨b, off, none⟩) af.length cap ∧ w.cell? ⟨b, off + k, none⟩ = some (.int .u8 a) := by
    rcases h.1.2 with ⟨h0, _⟩ | ⟨b, off, cap, hv, hc⟩
    · omega
    · exact ⟨b, off, cap, hv, hc k _ (by rw [List.getElem?_map, ha]; rfl)⟩
  have H := Lib.hid (ref_has1 a hab p w)
  have hki : (k : Int) < (af.length : Int) := by omega
  clear h ha
  go_enter Tryz.func103, Tryz.ntmps103
  go_wp2_with (go_at_call 59; refine H.out.mono ?_; rintro e w' ⟨rfl, rfl⟩)
  go_ret
  exact ⟨rfl, rfl⟩
theorem r_may (h : RdA w v af) :
    Calls Tryz.prog 103 #[vi g, vi p, v] w fun e w' => e = .returned (.bool (mayG af p g)) ∧ w = w' := by
  by_cases hg : g < 0 ∨ (af.length : Int) ≤ g
  · exact r_may_no h hg
  · obtain ⟨k, rfl⟩ := Int.eq_ofNat_of_zero_le (show 0 ≤ g by omega)
    exact r_may_at h k (by omega)
end
end Go.Proofs.YtjgemfgneiaabaaGreat.Rq
