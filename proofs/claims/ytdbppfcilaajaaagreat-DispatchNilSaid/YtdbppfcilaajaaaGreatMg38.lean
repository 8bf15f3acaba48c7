/-
  Package global: Take, Remove. No statement is proved here.
-/
import Derived.Test.YtdbppfcilaajaaaGreatGq6
import Derived.Test.YtdbppfcilaajaaaGreatMg37
import Derived.Test.YtdbppfcilaajaaaGreatMg6
import Derived.Test.YtdbppfcilaajaaaGreatMg29
import Derived.Deep.RegionLaw
import Derived.Test.YtdbppfcilaajaaaGreatMg11
import Derived.Test.YtdbppfcilaajaaaGreatMg31
import Derived.Test.YtdbppfcilaajaaaGreatMg33
import Derived.Test.YtdbppfcilaajaaaGreatMg35
import Derived.Test.YtdbppfcilaajaaaGreatMg36
import Derived.Deep.RegionHeld3
namespace Go.Proofs.YtdbppfcilaajaaaGreat.Gq
open Go.RowKit Rq Gq
set_option linter.unusedVariables false

section
variable {w0 w : World} {F : Hp} {q : Nat} {xs : List Int}
theorem rm_clo {ba : Nat} {x g : Int} {w : World} (ha : w.cell? ⟨ba, 0, none⟩ = some (vi x)) :
    Calls Tryz.prog 157 #[vi g, vp ba] w fun e w' => e = .returned (.bool (g == x)) ∧ ∃ n, w' = w.drewN n := by
  go_enter Tryz.func157, Tryz.ntmps157
  go_wp2
  go_ret
  exact ⟨rfl, 0, rfl⟩
set_option maxRecDepth 100000 in
set_option maxHeartbeats 2000000 in
theorem g_take (h : Sat w0 (gQ q xs * F) w) (hl : xs.length ≤ 1000000) (p : Int) {v : Value} {af : List Nat} (hA : ∀ w', Sat w0 F w' → RdA w' v af) :
    Calls Tryz.prog 135 #[vp q, vi p, v] w fun e w' => e = .returned (.tuple #[vi ((xs.find? (mayG af p)).getD 0), .bool (xs.find? (mayG af p)).isSome]) ∧ Sat w0 (gQ q (xs.eraseP (mayG af p)) * F) w' := by
  obtain ⟨ao, cap, rfl⟩ := (hA w h.dropL).1.len
  have HM := Lib.hid (g_may h p (v := .slice ao af.length cap) rfl)
  have HA := Lib.hid hA
  clear h hA
  have HT : Hid (∀ (ba bp : Nat) (w1 : World), Sat w0 (pc ba 46 [.slice ao af.length cap] * (pc bp 3 [vi p] * (gQ q xs * F))) w1 → Calls Tryz.prog 156 #[vp q, .func (.func 222) #[] #[vp ba, vp bp]] w1 fun e w' => e = .returned (.tuple #[vi ((xs.find? (mayG af p)).getD 0), .bool (xs.find? (mayG af p)).isSome]) ∧ Sat w0 (gQ q (xs.eraseP (mayG af p)) * F) w') := Lib.hid fun ba bp w1 hS => by
    refine (g_cut_may (f := mayG af p) (B := (pc ba 46 [.slice ao af.length cap] * pc bp 3 [vi p]) * F) (F := emp) (hS.cast (by rw [sep_emp]; ac_rfl)) hl (fun g W G hG => ?_)).mono fun e w' hh => ⟨hh.1, (hh.2.cast (show _ = (pc ba 46 [.slice ao af.length cap] * (pc bp 3 [vi p] * (gQ q (xs.eraseP (mayG af p)) * F))) by rw [sep_emp]; ac_rfl)).dropL.dropL⟩
    have hG2 : Sat w0 (pc ba 46 [.slice ao af.length cap] * (pc bp 3 [vi p] * (F * G))) W := hG.cast (by ac_rfl)
    exact gclo_ (hG2.cell 0 rfl) (hG2.pull2.cell 0 rfl) (HA.out W (hG2.dropL.dropL.dropR))
  go_enter Tryz.func135, Tryz.ntmps135
  go_wp2_with (first
    | (go_at_call 183; refine HM.out.mono ?_; rintro e w1 ⟨ba, bp, rfl, hS⟩; have H1 := Lib.hid hS; clear hS)
    | (go_at_call 156; refine (HT.out _ _ _ H1.out).mono ?_; rintro e w2 ⟨rfl, hS2⟩; have H2 := Lib.hid hS2; clear hS2))
  go_ret2
  exact ⟨rfl, H2.out⟩
set_option maxRecDepth 100000 in
set_option maxHeartbeats 2000000 in
theorem g_remove (h : Sat w0 (gQ q xs * F) w) (hl : xs.length ≤ 1000000) (x : Int) :
    Calls Tryz.prog 87 #[vp q, vi x] w fun e w' => e = .returned (.bool (decide (x ∈ xs))) ∧ Sat w0 (gQ q (xs.erase x) * F) w' := by
  have hB : Sat w0 (pc w.heap.size 3 [vi x] * (gQ q xs * F)) (w.alloc (.cells #[vi x] 3)) := h.alloc _
  have HT := Lib.hid ((g_cut_rm (f := fun g => g == x) (B := pc w.heap.size 3 [vi x]) (F := F) (hB.cast (by ac_rfl)) hl (fun g W G hG => rm_clo (hG.cell 0 rfl))).mono fun e w' hh => (⟨hh.1, (hh.2.cast (show _ = pc w.heap.size 3 [vi x] * (gQ q (xs.eraseP (fun g => g == x)) * F) by ac_rfl)).dropL⟩ : e = .returned (.tuple #[vi ((xs.find? (fun g => g == x)).getD 0), .bool (xs.find? (fun g => g == x)).isSome]) ∧ Sat w0 (gQ q (xs.eraseP (fun g => g == x)) * F) w'))
  have he : xs.eraseP (fun g => g == x) = xs.erase x := by
    rw [List.erase_eq_eraseP']
  have hs : (xs.find? (fun g => g == x)).isSome = decide (x ∈ xs) := by
    rw [Bool.eq_iff_iff]
    simp [List.find?_isSome]
  rw [he] at HT
  rw [← hs]
  clear h hB he hs
  go_enter Tryz.func87, Tryz.ntmps87
  go_wp2_with (go_at_call 156; refine HT.out.mono ?_; rintro e w2 ⟨rfl, hS2⟩; have H2 := Lib.hid hS2; clear hS2)
  go_ret
  exact ⟨rfl, H2.out⟩
end
end Go.Proofs.YtdbppfcilaajaaaGreat.Gq

namespace Go.Proofs.YtdbppfcilaajaaaGreat.Pc
open Go.RowKit Rq Gq
set_option linter.unusedVariables false
set_option linter.unusedSimpArgs false

section
variable {w0 w : World} {F : Hp} {D : Ad} {p : Nat → Pl} {gx : List Int}
end
end Go.Proofs.YtdbppfcilaajaaaGreat.Pc

namespace Go.Proofs.YtdbppfcilaajaaaGreat.Pc
open Go.RowKit Rq Gq
set_option linter.unusedVariables false
set_option linter.unusedSimpArgs false

section
variable {w0 w : World} {F : Hp} {D : Ar} {p : Nat → Pl} {gx : List Int} {vG : Value} {vR : Nat → Value}
end
end Go.Proofs.YtdbppfcilaajaaaGreat.Pc

namespace Go.Proofs.YtdbppfcilaajaaaGreat.Pc
open Go.RowKit Rq Gq
set_option linter.unusedVariables false
set_option linter.unusedSimpArgs false

section
variable {w0 w : World} {F : Hp} {D : Ar} {p : Nat → Pl} {gx : List Int} {vG : Value} {vR : Nat → Value}
end
end Go.Proofs.YtdbppfcilaajaaaGreat.Pc

namespace Go.Proofs.YtdbppfcilaajaaaGreat.Rq
open Go.RowKit
set_option linter.unusedVariables false
set_option linter.unusedSimpArgs false

section
variable {w0 w : World} {F : Hp} {q r p m : Nat} {vL vN : Value} {xs : List Int} {z : Int} {b : Bool}
end
end Go.Proofs.YtdbppfcilaajaaaGreat.Rq

namespace Go.Proofs.YtdbppfcilaajaaaGreat.Pc
open Go.RowKit Rq Gq
set_option linter.unusedVariables false
set_option linter.unusedSimpArgs false

section
variable {w0 w : World} {F : Hp} {D : Ad} {p : Nat → Pl} {gx : List Int}
theorem pl_shared_at (h : Sat w0 (plB D p gx * F) w) (k : Nat) (hk : k < D.n) (hl : gx.length ≤ 1000000) {v : Value} {af : List Nat} (hA : ∀ w', Sat w0 F w' → RdA w' v af) :
    Calls Tryz.prog 71 #[vp D.s, vi k, v] w fun e w' => e = .returned (.tuple #[vi ((gx.find? (mayG af k)).getD 0), .bool (gx.find? (mayG af k)).isSome]) ∧ Sat w0 (plB D p (gx.eraseP (mayG af k)) * F) w' := by
  have c2 := (pl_cells h).2.2
  have HI := Lib.hid (pl_is h (k : Int))
  rw [inP_nat hk] at HI
  have HG := Lib.hid (g_take (pl_glob h) hl (k : Int) (fun w' h' => hA w' h'.dropL.dropL.dropL))
  obtain ⟨ao, cap, rfl⟩ := (hA w h.dropL).1.len
  clear h hk hA
  generalize (gx.find? (mayG af k)).getD 0 = r at *
  generalize (gx.find? (mayG af k)).isSome = rs at *
  generalize gx.eraseP (mayG af k) = gy at *
  go_enter Tryz.func71, Tryz.ntmps71
  go_wp2_with (first
    | (go_at_call 66; refine HI.out.mono ?_; rintro e w' ⟨rfl, rfl⟩)
    | (go_at_call 135; refine HG.out.mono ?_; rintro e w1 ⟨rfl, hS⟩; have H1 := Lib.hid (pl_globI hS); clear hS))
  go_ret2
  exact ⟨rfl, H1.out⟩
set_option maxRecDepth 100000 in
set_option maxHeartbeats 4000000 in
theorem pl_own_at (h : Sat w0 (plB D p gx * F) w) (ho : D.Ok) (k : Nat) (hk : k < D.n) (hl : gx.length ≤ 999000) :
    Calls Tryz.prog 15 #[vp D.s, vi k] w fun e w' => e = .returned (.tuple #[vi ((takeG D.m (p k)).headD 0), .bool ((p k).b && decide (0 < (p k).left)), .bool !(takeG D.m (p k)).isEmpty]) ∧ Sat w0 (plB D (up p k (takeY D.m (p k))) (gx ++ takeS D.m (p k)) * F) w' := by
  obtain ⟨c1, r0, r1, r2, r3, r4⟩ : w.cell? ⟨D.s, 0, none⟩ = some D.v ∧ _ := ⟨(pl_cells h).1, pl_row h hk⟩
  have hki : (k : Int) < (D.n : Int) := by omega
  have HI := Lib.hid (pl_is h (k : Int))
  rw [inP_nat hk] at HI
  obtain ⟨t, ht⟩ : ∃ t, decide (0 < (p k).left) = t := ⟨_, rfl⟩
  have hsl : (takeS D.m (p k)).length ≤ 100 := by
    unfold takeS
    have := tkS_len (m := D.m) (xs := (p k).xs) (z := (p k).z) (b := (p k).b) (decide (0 < (p k).left))
    have h1 := (pl_ring h hk).1
    have h2 := ho.m32
    omega
  have HT := Lib.hid (q_take' (pl_out h hk).drew (decide (0 < (p k).left)))
  have HB : Hid (∀ (w1 : World) (v : Value), Sat w0 (sl 3 1 v (takeS D.m (p k)).length ((takeS D.m (p k)).map vi) * (quB (D.q k) (D.r k) (p k).z false * (ringP (D.r k) D.m (takeY D.m (p k)).xs * (plX D p gx k * F)))) w1 → Calls Tryz.prog 29 #[vp D.s, v] w1 fun e w' => e = .returned (.tuple #[]) ∧ Sat w0 (plB D (up p k (takeY D.m (p k))) (gx ++ takeS D.m (p k)) * F) w') := Lib.hid fun w1 v hS => by
    have h1 := pl_in (y := takeY D.m (p k)) (F := sl 3 1 v (takeS D.m (p k)).length ((takeS D.m (p k)).map vi) * F) (hS.cast (show _ = quB (D.q k) (D.r k) (takeY D.m (p k)).z (takeY D.m (p k)).b * (ringP (D.r k) D.m (takeY D.m (p k)).xs * (plX D p gx k * (sl 3 1 v (takeS D.m (p k)).length ((takeS D.m (p k)).map vi) * F))) by show _ = quB (D.q k) (D.r k) (p k).z false * _; ac_rfl)) hk rfl rfl rfl rfl
    exact (pl_back h1 ho (ys := takeS D.m (p k)) (fun w' h' => h'.rd) (by omega)).mono fun e w' hh => ⟨hh.1, hh.2.drop2⟩
  have HT : Hid (Calls Tryz.prog 67 #[vp (D.q k), .bool (decide (0 < (p k).left))] w.drew fun e w' => ∃ v, e = .returned (.tuple #[vi ((takeG D.m (p k)).headD 0), .bool ((p k).b && decide (0 < (p k).left)), v, .bool !(takeG D.m (p k)).isEmpty]) ∧
      Sat w0 (sl 3 1 v (takeS D.m (p k)).length ((takeS D.m (p k)).map vi) * (quB (D.q k) (D.r k) (p k).z false * (ringP (D.r k) D.m (takeY D.m (p k)).xs * (plX D p gx k * F)))) w') := HT
  rw [ht] at HT ⊢
  generalize (takeG D.m (p k)).headD 0 = r at *
  generalize (takeG D.m (p k)).isEmpty = rs at *
  generalize ((p k).b && t) = rb at *
  unfold Ad.v at c1
  have HK := Lib.hid hk
  obtain ⟨lf, hlf⟩ : ∃ lf, (p k).left = lf := ⟨_, rfl⟩
  rw [hlf] at r3 ht
  have HLF := Lib.hid hlf
  clear h hk hsl hl r1 r2 r4 hlf
  go_enter Tryz.func15, Tryz.ntmps15
  go_wp2_with (go_at_call 66; refine HI.out.mono ?_; rintro e w' ⟨rfl, rfl⟩)
  go_region_held3 (fun w' => w'.cell? ⟨D.s, 0, none⟩ = some (.slice (some ⟨D.sb, 0, none⟩) D.n D.cap) ∧ w'.cell? ⟨D.sb, k * 5, none⟩ = some (vp (D.q k)) ∧ w'.cell? ⟨D.sb, k * 5 + 3, none⟩ = some (vi lf)) (first | exact ⟨c1, r0, r3⟩ | exact ⟨g0, g1, g2⟩)
    ((go_at_call 67; refine HT.out.mono ?_; rintro e w1 ⟨v, rfl, hS⟩; have hx := plX_cells hS.dropL.dropL.dropL HK.out; have g0 := hx.1; have g1 := hx.2.2.1; have g2 := HLF.out ▸ hx.2.2.2; have H1 := Lib.hid hS; clear hS hx))
  all_goals go_wp2_with (go_at_call 29; refine (HB.out _ _ H1.out).mono ?_; rintro e w2 ⟨rfl, hS2⟩; have H2 := Lib.hid hS2; clear hS2)
  all_goals go_ret3
  all_goals exact ⟨rfl, H2.out⟩
end
end Go.Proofs.YtdbppfcilaajaaaGreat.Pc

namespace Go.Proofs.YtdbppfcilaajaaaGreat.Pc
open Go.RowKit Rq Gq
set_option linter.unusedVariables false
set_option linter.unusedSimpArgs false

structure Ar.Ok (D : Ar) : Prop where
  n1 : 1 ≤ D.n
  n8 : D.n ≤ 8
  m2 : 2 ≤ D.m
  m32 : D.m ≤ 32
section
variable {w0 w : World} {F : Hp} {D : Ar} {p : Nat → Pl} {gx : List Int} {vG : Value} {vR : Nat → Value}
end
end Go.Proofs.YtdbppfcilaajaaaGreat.Pc

namespace Go.Proofs.YtdbppfcilaajaaaGreat.Rq
open Go.RowKit
set_option linter.unusedVariables false

section
variable {w0 w : World} {F : Hp} {q r p m : Nat} {z : Int} {b : Bool} {xs : List Int} {ao : Option Addr} {n cap : Nat}
end
end Go.Proofs.YtdbppfcilaajaaaGreat.Rq

namespace Go.Proofs.YtdbppfcilaajaaaGreat.Rq
open Go.RowKit
set_option linter.unusedVariables false

section
variable {w0 w : World} {F : Hp} {q r p m : Nat} {z : Int} {b : Bool} {xs : List Int}
end
end Go.Proofs.YtdbppfcilaajaaaGreat.Rq

namespace Go.Proofs.YtdbppfcilaajaaaGreat.Rq
open Go.RowKit
set_option linter.unusedVariables false

section
variable {w0 : World} {v : Value} {n : Nat} {K G : Nat → Int} {Y : Nat → Bool} {V : Nat → Value} {af : Nat → List Nat}
end
end Go.Proofs.YtdbppfcilaajaaaGreat.Rq

namespace Go.Proofs.YtdbppfcilaajaaaGreat.Pc
open Go.RowKit Rq Gq
set_option linter.unusedVariables false
set_option linter.unusedSimpArgs false

theorem EP4 : SlT Tryz.prog 135 241 4 48 (.agg #[.pointer none, .slice none 0 0, vi 0, vu 0]) := SlT.mk' Tryz.underlying135 (by kernel_rfl) rfl (by decide)
theorem rdFour (w : World) (T : TypeId) (cs : List Value) (hc : cs.length = 4) {b : Nat} (hb : b = w.heap.size) : Rd (w.alloc (.cells cs.toArray T)) 4 (.slice (some ⟨b, 0, none⟩) 1 1) 1 cs := by
  subst hb
  have h : Sat w (pc w.heap.size T cs * emp) (w.alloc (.cells cs.toArray T)) := (Sat.start w).alloc _
  exact (h.slI (n := 1) (cap := 1) (size := 4) (xs := cs) (Nat.le_refl _) (by unfold maxLen; omega) (by omega) (List.take_of_length_le (by omega))).rd
theorem rs_emp (e : TypeId) : rs e (.slice none 0 0) [] = emp := Hp.ext' fun L => by
  constructor
  · intro h
    rcases h with ⟨_, _, h⟩ | ⟨g, off, cap, cur, hv, _⟩
    · exact h
    · cases hv
  · intro h
    exact .inl ⟨rfl, rfl, h⟩
abbrev hdR (s a : Nat) (v : Value) : Hp := pc s 138 [v, vp a]
def rowN (q : Nat → Nat) (i : Nat) : List Value := [vp (q i), .slice none 0 0, vi 0, vu 0]
def oneN (q : Nat → Nat) (m i : Nat) : Hp := refQ (q i) m [] 0 false
def newR (s a m j : Nat) (v : Value) (q : Nat → Nat) : Hp := hdR s a v * (sl 241 4 v j (rowsN (rowN q) j) * (rgB a (.slice none 0 0) * star (oneN q m) j))
section
variable {w0 w : World} {F : Hp}
theorem newR_step {s a m j nq : Nat} {v : Value} {q : Nat → Nat} : newR s a m (j + 1) v (fun i => if i = j then nq else q i) * F = hdR s a v * (sl 241 4 v (j + 1) (rowsN (rowN q) j ++ [vp nq, .slice none 0 0, vi 0, vu 0]) * (rgB a (.slice none 0 0) * (star (oneN q m) j * (refQ nq m [] 0 false * F)))) := by
  have e1 : rowsN (rowN fun i => if i = j then nq else q i) (j + 1) = rowsN (rowN q) j ++ [vp nq, .slice none 0 0, vi 0, vu 0] := by
    rw [rowsN_succ, rowsN_congr (row' := rowN q) (fun i hi => by unfold rowN; dsimp only; rw [if_neg (by omega)])]
    unfold rowN
    dsimp only
    rw [if_pos rfl]
  have e2 : star (oneN (fun i => if i = j then nq else q i) m) (j + 1) = star (oneN q m) j * refQ nq m [] 0 false := by
    rw [star_succ, star_congr (g := oneN q m) (fun i hi => by unfold oneN; dsimp only; rw [if_neg (by omega)])]
    unfold oneN
    dsimp only
    rw [if_pos rfl]
  unfold newR
  rw [e1, e2]
  ac_rfl
set_option maxRecDepth 100000 in
set_option maxHeartbeats 4000000 in
theorem pr_new (n m : Nat) (h1 : 1 ≤ n) (h8 : n ≤ 8) (h2 : 2 ≤ m) (h32 : m ≤ 32) (h : Sat w0 F w) : Calls Tryz.prog 57 #[vi n, vi m] w fun e w' => ∃ D : Ar, D.n = n ∧ D.m = m ∧ e = .returned (vp D.s) ∧ Sat w0 (prB D (fun _ => pl0) [] * F) w' := by
  have hZ : Sat w0 (hdR (w.heap.size + 1) w.heap.size (.slice none 0 0) * (rgB w.heap.size (.slice none 0 0) * F)) ((w.alloc (.cells #[.slice none 0 0] 237)).alloc (.cells #[.slice none 0 0, vp w.heap.size] 138)) := by
    have h4 := (h.alloc (.cells #[.slice none 0 0] 237)).alloc (.cells #[.slice none 0 0, vp w.heap.size] 138)
    simp only [World.size_alloc] at h4
    exact h4
  have HZ := Lib.hid hZ
  clear h hZ
  go_enter Tryz.func57, Tryz.ntmps57
  go_wp2
  generalize w.heap.size + 1 = s at *
  generalize w.heap.size = a at *
  go_loopw [6] (fun i wr => ∃ (j : Nat) (v : Value) (q : Nat → Nat), j ≤ n ∧ i = vi j ∧ Sat w0 (newR s a m j v q * F) wr) (fun i _ => n - (intOf i).toNat)
  case atStart =>
    refine ⟨0, .slice none 0 0, fun _ => 0, Nat.zero_le _, rfl, (HZ.out.addNil 241 4).cast ?_⟩
    unfold newR
    show sl 241 4 (.slice none 0 0) 0 [] * (hdR s a (.slice none 0 0) * (rgB a (.slice none 0 0) * F)) = (hdR s a (.slice none 0 0) * (sl 241 4 (.slice none 0 0) 0 [] * (rgB a (.slice none 0 0) * emp))) * F
    rw [sep_emp]
    ac_rfl
  case round =>
    clear HZ
    obtain ⟨j, v, q, hj, rfl, hS⟩ := hrel
    by_cases hlt : j < n
    · have hji : (j : Int) < (n : Int) := by omega
      have HQ := Lib.hid (r_new m hS.drew)
      have hj8 : j < 8 := by omega
      have h3 : Sat w0 (hdR s a v * (sl 241 4 v j (rowsN (rowN q) j) * (rgB a (.slice none 0 0) * (star (oneN q m) j * F)))) wr := hS.cast (by unfold newR; ac_rfl)
      obtain ⟨vo, vc, rfl⟩ := h3.pull2.rd.len
      have g0 := h3.cell 0 rfl
      have g1 := h3.free 0
      clear hS h3
      go_wp2
      go_region_law
        (first
          | (go_simp; go_at_call 122; refine HQ.out.mono ?_; rintro e w2 ⟨nq, rfl, hS2⟩; have h5 : Sat w0 (sl 241 4 (.slice vo j vc) j (rowsN (rowN q) j) * (hdR s a (.slice vo j vc) * (rgB a (.slice none 0 0) * (star (oneN q m) j * (refQ nq m [] 0 false * F))))) w2 := (refQ_shut (z := 0) (b := false) hS2).cast (by unfold newR; ac_rfl); have d0 := h5.pull2.cell 0 rfl; have d1 := h5.pull2.free 0; have d2 := (h5.alloc' (.cells #[vp nq, .slice none 0 0, vi 0, vu 0] 241)).pull2.cell 0 rfl; have d3 := (h5.alloc' (.cells #[vp nq, .slice none 0 0, vi 0, vu 0] 241)).pull2.free 0; have H5 := Lib.hid h5; clear hS2 h5; go_wp2_with fail)
          | (refine step_append_sl EP4 (by rfl) (.tmp 20) (.tmp 24) (by rfl) (by rfl) (H5.out.alloc' _) (by rfl) (rdFour _ _ [vp nq, .slice none 0 0, vi 0, vu 0] rfl rfl) (by intro u hu; simp at hu; rcases hu with rfl | rfl | rfl | rfl <;> rfl) (by unfold maxLen; omega) (by omega) ?_; intro ao6 cap6 w6 hS6; have o6 := hS6.pull2.cell 0 rfl; have f6 := hS6.pull2.free 0; have h7 : Sat w0 (hdR s a (.slice ao6 (j + 1) cap6) * _) _ := hS6.pull2.store 0 (.slice ao6 (j + 1) cap6); have H7 := Lib.hid h7; clear hS6 h7))
      all_goals go_wp2
      all_goals go_roundw
      all_goals first
        | exact ⟨j + 1, .slice ao6 (j + 1) cap6, fun i => if i = j then nq else q i, by omega, by go_num, H7.out.cast newR_step.symm⟩
        | (simp [intOf]; omega)
    · obtain rfl : j = n := by omega
      have h3 := hS.cast (show _ = sl 241 4 v j (rowsN (rowN q) j) * (hdR s a v * (rgB a (.slice none 0 0) * (star (oneN q m) j * F))) by unfold newR; ac_rfl)
      obtain ⟨sb, cap, rfl, _⟩ := slPos h3 (by omega)
      have H9 := Lib.hid hS
      clear hS h3
      go_wp2
      go_ret
      refine ⟨⟨s, a, sb, cap, q, j, m⟩, rfl, rfl, rfl, pr_shut (vG := .slice none 0 0) (vR := fun _ => .slice none 0 0) (H9.out.cast ?_)⟩
      have e1 : star (oneR ⟨s, a, sb, cap, q, j, m⟩ (fun _ => .slice none 0 0) fun _ => pl0) j = star (oneN q m) j := star_congr fun i _ => by
        show refQ (q i) m [] 0 false * rs 3 (.slice none 0 0) [] = refQ (q i) m [] 0 false
        rw [rs_emp, sep_emp]
      unfold prO newR
      rw [e1, List.map_nil, rs_emp, emp_sep]
      rfl
end
end Go.Proofs.YtdbppfcilaajaaaGreat.Pc

namespace Go.Proofs.YtdbppfcilaajaaaGreat.Kn
open Go.RowKit Pc
set_option linter.unusedVariables false
set_option linter.unusedSimpArgs false

abbrev rkL (ps gs : Nat) (pr g c d s p t : Value) : List Value := cfgL ps gs pr ++ [.int .u64 0, g, c, d, s, p, t]
abbrev rkC (bc q ps gs : Nat) (pr g c d s p t : Value) (F : Hp) : Hp := pc bc 27 (cfgL ps gs pr) * (pc q 117 (rkL ps gs pr g c d s p t) * F)
abbrev rkE (bc br q ps gs : Nat) (pr : Value) (g c d s p t : Nat) (G C D S P F : Hp) : Hp := pc br 30 [.int .i64 0, .int .u64 1] * (rkC bc q ps gs pr (vp g) (vp c) (vp d) (vp s) (vp p) (vp t) (G * (C * (D * (S * (P * F))))))
section
variable {w0 w : World} {F G C D S P : Hp} {bc br q ps gs g c d s p t : Nat} {pr x : Value}
abbrev rkS (bc br q ps o : Nat) (v : Nat) (w' : World) : Prop := w'.cell? ⟨q, o, none⟩ = some (vp v) ∧ w'.cell? ⟨br, 0, none⟩ = some (.int .i64 0) ∧ w'.cell? ⟨br, 1, none⟩ = some (.int .u64 1) ∧ w'.cell? ⟨bc, 0, none⟩ = some (vi ps) ∧ w'.cell? ⟨bc, 12, none⟩ = some (vu 100) ∧ w'.cell? ⟨bc, 13, none⟩ = some (vu 20)
theorem rk_S (o v : Nat) (hv : (rkL ps gs pr (vp g) (vp c) (vp d) (vp s) (vp p) (vp t))[o]? = some (vp v)) (h : Sat w0 (rkE bc br q ps gs pr g c d s p t G C D S P F) w) : rkS bc br q ps o v w := ⟨h.pull3.cell o hv, h.cell 0 rfl, h.cell 1 rfl, h.pull2.cell 0 rfl, h.pull2.cell 12 rfl, h.pull2.cell 13 rfl⟩
abbrev rkR (bc br q ps gs : Nat) (pr : Value) (g c d s p t : Nat) (X : Hp) : Hp := pc br 30 [.int .i64 0, .int .u64 1] * (rkC bc q ps gs pr (vp g) (vp c) (vp d) (vp s) (vp p) (vp t) X)
theorem rk_pG : rkE bc br q ps gs pr g c d s p t G C D S P F = G * rkR bc br q ps gs pr g c d s p t (C * (D * (S * (P * F)))) := by simp only [rkE, rkR, rkC]; ac_rfl
theorem rk_pC : rkE bc br q ps gs pr g c d s p t G C D S P F = C * rkR bc br q ps gs pr g c d s p t (G * (D * (S * (P * F)))) := by simp only [rkE, rkR, rkC]; ac_rfl
theorem rk_pD : rkE bc br q ps gs pr g c d s p t G C D S P F = D * rkR bc br q ps gs pr g c d s p t (G * (C * (S * (P * F)))) := by simp only [rkE, rkR, rkC]; ac_rfl
theorem rk_pS : rkE bc br q ps gs pr g c d s p t G C D S P F = S * rkR bc br q ps gs pr g c d s p t (G * (C * (D * (P * F)))) := by simp only [rkE, rkR, rkC]; ac_rfl
theorem rk_pP : rkE bc br q ps gs pr g c d s p t G C D S P F = P * rkR bc br q ps gs pr g c d s p t (G * (C * (D * (S * F)))) := by simp only [rkE, rkR, rkC]; ac_rfl
set_option maxRecDepth 100000 in
set_option maxHeartbeats 8000000 in
theorem r20_walk (hps : 1 ≤ ps ∧ ps ≤ 8) (hgs : 1 ≤ gs ∧ gs ≤ 64) (h : Sat w0 (prB pr * F) w)
    (G C C2 D P : Nat → Hp)
    (hG : ∀ (H : Hp) (w : World), Sat w0 H w → Calls Tryz.prog 53 #[vi gs] w fun e w' => ∃ g, e = .returned (vp g) ∧ Sat w0 (G g * H) w')
    (hC : ∀ (H : Hp) (w : World), Sat w0 H w → Calls Tryz.prog 54 #[vi 4, vi 4] w fun e w' => ∃ g, e = .returned (vp g) ∧ Sat w0 (C g * H) w')
    (hD : ∀ (H : Hp) (w : World), Sat w0 H w → Calls Tryz.prog 55 #[vi 4, vi gs, vu 1000, vu 50] w fun e w' => ∃ g, e = .returned (vp g) ∧ Sat w0 (D g * H) w')
    (hP : ∀ (H : Hp) (w : World), Sat w0 H w → Calls Tryz.prog 57 #[vi ps, vi 2] w fun e w' => ∃ g, e = .returned (vp g) ∧ Sat w0 (P g * H) w')
    (hmk : ∀ (c : Nat) (H : Hp) (w : World), Sat w0 (C c * H) w → Calls Tryz.prog 58 #[vp c, vu 100, vu 20, vu 0] w fun e w' => (∃ v, e = .returned v) ∧ Sat w0 (C2 c * H) w')
    (hjo : ∀ (d : Nat) (H : Hp) (w : World), Sat w0 (D d * H) w → Calls Tryz.prog 59 #[vp d, .agg #[.int .i64 0, .int .u64 1]] w fun e w' => (∃ v, e = .returned v) ∧ Sat w0 (emp * H) w')
    (hbi : ∀ (c : Nat) (H : Hp) (w : World), Sat w0 (C2 c * H) w → Calls Tryz.prog 60 #[vp c, .agg #[.int .i64 0, .int .u64 1], vi 1] w fun e w' => (∃ v, e = .returned v) ∧ Sat w0 (emp * H) w')
    (hma : ∀ (g : Nat) (x : Int) (H : Hp) (w : World), Sat w0 (G g * H) w → Calls Tryz.prog 61 #[vp g, Ag.ev (newG 0 1 0 1 x 0)] w fun e w' => (∃ v, e = .returned v) ∧ Sat w0 (emp * H) w')
    (hpa : ∀ (p : Nat) (H : Hp) (w : World), Sat w0 (P p * H) w → ∃ a, w.cell? ⟨p, 1, none⟩ = some (vp a) ∧ Calls Tryz.prog 63 #[vp a, .slice (some ⟨w.heap.size, 0, none⟩) 1 1] (w.alloc (.cells #[.int .i64 0] 3)) fun e w' => (∃ v, e = .returned v) ∧ Sat w0 (emp * H) w') :
    Calls Tryz.prog 10 #[.agg (cfgL ps gs pr).toArray] w fun e w' => ∃ q, e = .returned (.tuple #[vp q, vi 0]) ∧ Sat w0 (prB pr * F) w' := by
  have hA : Sat w0 (pc w.heap.size 27 (cfgL ps gs pr) * (prB pr * F)) (w.alloc (.cells (cfgL ps gs pr).toArray 27)) := h.alloc _
  have HR := Lib.hid hA.rangeN
  have hi15 : (Tryz.prog.info? 27).map (·.size) = some 15 := by kernel_rfl
  have HM := Lib.hid (r18_may (ps := ps) (gs := gs) hA.pull2 hps.1 hps.2 hgs.1 hgs.2)
  have HG := Lib.hid hG
  have HC := Lib.hid hC
  have HD := Lib.hid hD
  have HP := Lib.hid hP
  have Hmk := Lib.hid hmk
  have Hjo := Lib.hid hjo
  have Hbi := Lib.hid hbi
  have Hma := Lib.hid hma
  have Hpa := Lib.hid hpa
  clear h hA hG hC hD hP hmk hjo hbi hma hpa
  go_enter Tryz.func10, Tryz.ntmps10
  go_wp2_with (first
    | (refine wpList_load_mid rfl 27 _ rfl _ 0 (by rfl) (cfgL ps gs pr) _ HR.out Tryz.underlying27 rfl hi15 ?_)
    | (refine wpList_load_mid rfl 27 _ rfl _ 0 (by rfl) (cfgL ps gs pr) _ HR1.out Tryz.underlying27 rfl hi15 ?_)
    | (go_at_call 52; refine HM.out.mono ?_; rintro e w1 ⟨rfl, hS1⟩; have HR1 := Lib.hid hS1.pull2.rangeN; have H1 := Lib.hid (hS1.alloc (.cells (rkL ps gs pr nilP nilP nilP nilP nilP nilP).toArray 117)); have c2 := H1.out.pull3.cell 2 rfl; clear hS1 HM HR)
    | (refine wpList_build (v := .agg (rkL ps gs pr nilP nilP nilP nilP nilP nilP).toArray) rfl rfl (by intro w; kernel_rfl) ?_))
  have h1 : Sat w0 (rkC w.heap.size w1.heap.size ps gs pr nilP nilP nilP nilP nilP nilP (prB pr * F)) (w1.alloc (.cells (rkL ps gs pr nilP nilP nilP nilP nilP nilP).toArray 117)) := H1.out.cast (by simp only [rkC, pc]; ac_rfl)
  generalize w1.alloc (.cells (rkL ps gs pr nilP nilP nilP nilP nilP nilP).toArray 117) = W at *
  generalize w.heap.size = bc at *
  generalize w1.heap.size = q at *
  have HS := Lib.hid h1
  clear h1 H1 HR1 c2
  refine (HG.out _ _ HS.out).mono ?_
  rintro e w1 ⟨g, rfl, hS1⟩
  have hE : Sat w0 (rkC bc q ps gs pr nilP nilP nilP nilP nilP nilP (G g * (prB pr * F))) w1 := hS1.cast (by simp only [rkC]; ac_rfl)
  have x1 := hE.pull2.cell 16 rfl
  have f1 := hE.pull2.free 16
  have hT : Sat w0 (rkC bc q ps gs pr (vp g) nilP nilP nilP nilP nilP (G g * (prB pr * F))) (w1.setCell ⟨q, 16, none⟩ (vp g)) := (hE.pull2.store 16 (vp g)).pull2
  have l3 := hT.cell 3 rfl
  have l7 := hT.cell 7 rfl
  have HT := Lib.hid hT
  clear hS1 hE hT HS
  go_wp2_with fail
  generalize w1.setCell ⟨q, 16, none⟩ (vp g) = W at *
  have HS := Lib.hid HT.out
  clear HT x1 f1 l3 l7
  refine (HC.out _ _ HS.out).mono ?_
  rintro e w1 ⟨c, rfl, hS1⟩
  have hE : Sat w0 (rkC bc q ps gs pr (vp g) nilP nilP nilP nilP nilP (C c * (G g * (prB pr * F)))) w1 := hS1.cast (by simp only [rkC]; ac_rfl)
  have x1 := hE.pull2.cell 17 rfl
  have f1 := hE.pull2.free 17
  have hT : Sat w0 (rkC bc q ps gs pr (vp g) (vp c) nilP nilP nilP nilP (C c * (G g * (prB pr * F)))) (w1.setCell ⟨q, 17, none⟩ (vp c)) := (hE.pull2.store 17 (vp c)).pull2
  have l4 := hT.cell 4 rfl
  have l2 := hT.cell 2 rfl
  have l10 := hT.cell 10 rfl
  have l11 := hT.cell 11 rfl
  have HT := Lib.hid hT
  clear hS1 hE hT HS
  go_wp2_with fail
  generalize w1.setCell ⟨q, 17, none⟩ (vp c) = W at *
  have HS := Lib.hid HT.out
  clear HT x1 f1 l4 l2 l10 l11
  refine (HD.out _ _ HS.out).mono ?_
  rintro e w1 ⟨d, rfl, hS1⟩
  have hE : Sat w0 (rkC bc q ps gs pr (vp g) (vp c) nilP nilP nilP nilP (D d * (C c * (G g * (prB pr * F))))) w1 := hS1.cast (by simp only [rkC]; ac_rfl)
  have x1 := hE.pull2.cell 18 rfl
  have f1 := hE.pull2.free 18
  have hT : Sat w0 (rkC bc q ps gs pr (vp g) (vp c) (vp d) nilP nilP nilP (D d * (C c * (G g * (prB pr * F))))) (w1.setCell ⟨q, 18, none⟩ (vp d)) := (hE.pull2.store 18 (vp d)).pull2
  have l2 := hT.cell 2 rfl
  have l6 := hT.cell 6 rfl
  have l5 := hT.cell 5 rfl
  have HT := Lib.hid hT
  clear hS1 hE hT HS
  go_wp2_with fail
  generalize w1.setCell ⟨q, 18, none⟩ (vp d) = W at *
  have HS := Lib.hid HT.out
  clear HT x1 f1 l2 l6 l5
  refine (on_new gs HS.out).mono ?_
  rintro e w1 ⟨s, rfl, hS1⟩
  have hE : Sat w0 (rkC bc q ps gs pr (vp g) (vp c) (vp d) nilP nilP nilP (onQ s gs 0 * (D d * (C c * (G g * (prB pr * F)))))) w1 := hS1.cast (by simp only [rkC]; ac_rfl)
  have x1 := hE.pull2.cell 19 rfl
  have f1 := hE.pull2.free 19
  have hT : Sat w0 (rkC bc q ps gs pr (vp g) (vp c) (vp d) (vp s) nilP nilP (onQ s gs 0 * (D d * (C c * (G g * (prB pr * F)))))) (w1.setCell ⟨q, 19, none⟩ (vp s)) := (hE.pull2.store 19 (vp s)).pull2
  have l0 := hT.cell 0 rfl
  have l1 := hT.cell 1 rfl
  have HT := Lib.hid hT
  clear hS1 hE hT HS
  go_wp2_with fail
  generalize w1.setCell ⟨q, 19, none⟩ (vp s) = W at *
  have HS := Lib.hid HT.out
  clear HT x1 f1 l0 l1
  refine (HP.out _ _ HS.out).mono ?_
  rintro e w1 ⟨p, rfl, hS1⟩
  have hE : Sat w0 (rkC bc q ps gs pr (vp g) (vp c) (vp d) (vp s) nilP nilP (P p * (onQ s gs 0 * (D d * (C c * (G g * (prB pr * F))))))) w1 := hS1.cast (by simp only [rkC]; ac_rfl)
  have x1 := hE.pull2.cell 20 rfl
  have f1 := hE.pull2.free 20
  have hT : Sat w0 (rkC bc q ps gs pr (vp g) (vp c) (vp d) (vp s) (vp p) nilP (P p * (onQ s gs 0 * (D d * (C c * (G g * (prB pr * F))))))) (w1.setCell ⟨q, 20, none⟩ (vp p)) := (hE.pull2.store 20 (vp p)).pull2
  have x2 := hT.pull2.cell 21 rfl
  have f2 := hT.pull2.free 21
  have x3 := (hT.alloc' (.cells #[.slice none 0 0] 125)).pull2.cell 21 rfl
  have f3 := (hT.alloc' (.cells #[.slice none 0 0] 125)).pull2.free 21
  have HT := Lib.hid hT
  clear hS1 hE hT HS
  go_wp2_with fail
  have a1 := HT.out.alloc' (.cells #[.slice none 0 0] 125)
  have a2 := (a1.pull2.store 21 (.pointer (some ⟨w1.heap.size, 0, none⟩))).pull2
  have a3 := a2.alloc (.cells #[.int .i64 0, .int .u64 1] 30)
  have hsz : ((((w1.setCell ⟨q, 20, none⟩ (vp p)).alloc (.cells #[.slice none 0 0] 125)).setCell ⟨q, 21, none⟩ (.pointer (some ⟨w1.heap.size, 0, none⟩)))).heap.size = w1.heap.size + 1 := by simp
  rw [hsz] at a3
  generalize w1.heap.size + 1 = br at *
  generalize ((((w1.setCell ⟨q, 20, none⟩ (vp p)).alloc (.cells #[.slice none 0 0] 125)).setCell ⟨q, 21, none⟩ (.pointer (some ⟨w1.heap.size, 0, none⟩))).alloc (.cells #[.int .i64 0, .int .u64 1] 30)) = W at *
  generalize w1.heap.size = tt at *
  have hX : Sat w0 (rkE bc br q ps gs pr g c d s p tt (G g) (C c) (D d) (onQ s gs 0) (P p) (prB pr * F)) W := a3.cast (by simp only [rkE, rkC, pc, rkL]; simp only [List.set_append, List.length_cons, List.length_nil, List.set_cons_succ, List.set_cons_zero]; ac_rfl)
  have HX0 := Lib.hid hX
  clear a1 a2 a3 hX hsz x1 f1 x2 f2 x3 f3 HT
  have hE0 := HX0.out.drew
  have T0 := Lib.hid (rk_S 17 c rfl hE0)
  have HCl := Lib.hid (Hmk.out c _ _ (hE0.cast rk_pC))
  clear hE0
  go_region_held3 (rkS bc br q ps 17 c)
    (first | (with_reducible exact U0.out) | (with_reducible exact T0.out))
    (first
      | (go_at_call 58; refine HCl.out.mono ?_; rintro e v0 ⟨⟨y0, rfl⟩, hS1⟩; have hE1 : Sat w0 (rkE bc br q ps gs pr g c d s p tt (G g) (C2 c) (D d) (onQ s gs 0) (P p) (prB pr * F)) v0 := hS1.cast rk_pC.symm; have U0 := Lib.hid (rk_S 17 c rfl hE1); have HX1 := Lib.hid hE1; clear hS1 hE1))
  go_wp2_with fail
  clear HX0 T0 U0 HCl
  have hE1 := HX1.out.drew
  have T1 := Lib.hid (rk_S 18 d rfl hE1)
  have HCl := Lib.hid (Hjo.out d _ _ (hE1.cast rk_pD))
  clear hE1
  go_region_held3 (rkS bc br q ps 18 d)
    (first | (with_reducible exact U1.out) | (with_reducible exact T1.out))
    (first
      | (go_at_call 59; refine HCl.out.mono ?_; rintro e v1 ⟨⟨y1, rfl⟩, hS1⟩; have hE1 : Sat w0 (rkE bc br q ps gs pr g c d s p tt (G g) (C2 c) emp (onQ s gs 0) (P p) (prB pr * F)) v1 := hS1.cast rk_pD.symm; have U1 := Lib.hid (rk_S 18 d rfl hE1); have HX2 := Lib.hid hE1; clear hS1 hE1))
  go_wp2_with fail
  clear HX1 T1 U1 HCl
  have hE2 := HX2.out.drew
  have T2 := Lib.hid (rk_S 17 c rfl hE2)
  have HCl := Lib.hid (Hbi.out c _ _ (hE2.cast rk_pC))
  clear hE2
  go_region_held3 (rkS bc br q ps 17 c)
    (first | (with_reducible exact U2.out) | (with_reducible exact T2.out))
    (first
      | (go_at_call 60; refine HCl.out.mono ?_; rintro e v2 ⟨⟨y2, rfl⟩, hS1⟩; have hE1 : Sat w0 (rkE bc br q ps gs pr g c d s p tt (G g) emp emp (onQ s gs 0) (P p) (prB pr * F)) v2 := hS1.cast rk_pC.symm; have U2 := Lib.hid (rk_S 17 c rfl hE1); have HX3 := Lib.hid hE1; clear hS1 hE1))
  go_wp2_with fail
  clear HX2 T2 U2 HCl
  have hE3 := HX3.out.drew
  have T3 := Lib.hid (rk_S 16 g rfl hE3)
  have HAl := Lib.hid (all_ ps hps.2 hE3)
  clear hE3
  go_region_held3 (rkS bc br q ps 16 g)
    (first | (with_reducible exact V3.out) | (with_reducible exact U3.out) | (with_reducible exact T3.out))
    (first
      | (go_at_call 62; refine HAl.out.mono ?_; rintro e u3 ⟨⟨x, rfl⟩, hS1⟩; have U3 := Lib.hid (rk_S 16 g rfl hS1); have HMa := Lib.hid (Hma.out g x _ _ (hS1.cast rk_pG)); clear hS1)
      | (go_at_call 61; refine HMa.out.mono ?_; rintro e v3 ⟨⟨y3, rfl⟩, hS1⟩; have hE1 : Sat w0 (rkE bc br q ps gs pr g c d s p tt emp emp emp (onQ s gs 0) (P p) (prB pr * F)) v3 := hS1.cast rk_pG.symm; have V3 := Lib.hid (rk_S 16 g rfl hE1); have HX4 := Lib.hid hE1; clear hS1 hE1))
  clear HX3 T3 U3 V3
  have q20 : v3.cell? ⟨q, 20, none⟩ = some (vp p) := HX4.out.pull3.cell 20 rfl
  obtain ⟨a, pa, hput⟩ := Hpa.out p _ _ (HX4.out.cast rk_pP)
  have HPut := Lib.hid hput
  clear hput
  go_wp2_with (go_at_call 63; refine HPut.out.mono ?_; rintro e v4 ⟨⟨y4, rfl⟩, hS1⟩; have HX5 : Hid (Sat w0 (rkE bc br q ps gs pr g c d s p tt emp emp emp (onQ s gs 0) emp (prB pr * F)) v4) := Lib.hid (hS1.cast rk_pP.symm); clear hS1)
  clear q20 pa HPut HX4
  have hE5 := HX5.out.drew
  have T5 := Lib.hid (rk_S 19 s rfl hE5)
  have HCl := Lib.hid (on_put (n := 0) (hE5.cast rk_pS) (by omega) hgs.1)
  clear hE5
  go_region_held3 (rkS bc br q ps 19 s)
    (first | (with_reducible exact U5.out) | (with_reducible exact T5.out))
    (first
      | (go_at_call 64; refine HCl.out.mono ?_; rintro e v5 ⟨rfl, hS1⟩; have hE1 : Sat w0 (rkE bc br q ps gs pr g c d s p tt emp emp emp (onQ s gs 1) emp (prB pr * F)) v5 := hS1.cast rk_pS.symm; have U5 := Lib.hid (rk_S 19 s rfl hE1); have HX6 := Lib.hid hE1; clear hS1 hE1))
  go_wp2_with fail
  clear HX5 T5 U5 HCl
  have hE6 := HX6.out.drew
  have T6 := Lib.hid (rk_S 19 s rfl hE6)
  have HCl := Lib.hid (on_put (n := 1) (hE6.cast rk_pS) (by omega) hgs.1)
  clear hE6
  go_region_held3 (rkS bc br q ps 19 s)
    (first | (with_reducible exact U6.out) | (with_reducible exact T6.out))
    (first
      | (go_at_call 64; refine HCl.out.mono ?_; rintro e v6 ⟨rfl, hS1⟩; have hE1 : Sat w0 (rkE bc br q ps gs pr g c d s p tt emp emp emp (onQ s gs 2) emp (prB pr * F)) v6 := hS1.cast rk_pS.symm; have U6 := Lib.hid (rk_S 19 s rfl hE1); have HX7 := Lib.hid hE1; clear hS1 hE1))
  go_wp2_with fail
  clear HX6 T6 U6 HCl
  have hE7 := HX7.out.drew
  have T7 := Lib.hid (rk_S 19 s rfl hE7)
  have HCl := Lib.hid (on_put (n := 2) (hE7.cast rk_pS) (by omega) hgs.1)
  clear hE7
  go_region_held3 (rkS bc br q ps 19 s)
    (first | (with_reducible exact U7.out) | (with_reducible exact T7.out))
    (first
      | (go_at_call 64; refine HCl.out.mono ?_; rintro e v7 ⟨rfl, hS1⟩; have hE1 : Sat w0 (rkE bc br q ps gs pr g c d s p tt emp emp emp (onQ s gs 3) emp (prB pr * F)) v7 := hS1.cast rk_pS.symm; have U7 := Lib.hid (rk_S 19 s rfl hE1); have HX8 := Lib.hid hE1; clear hS1 hE1))
  go_wp2_with fail
  clear HX7 T7 U7 HCl
  go_ret2
  exact ⟨_, rfl, HX8.out.dropL.dropL.dropL.dropL.dropL.dropL.dropL.dropL⟩
end
end Go.Proofs.YtdbppfcilaajaaaGreat.Kn
