/-
  Package place: Steal. No statement is proved here.
-/
import Derived.Test.YtjgemfgneiaabaaGreatMg16
namespace Go.Proofs.YtjgemfgneiaabaaGreat.Pc
open Go.RowKit Rq Gq
set_option linter.unusedVariables false
set_option linter.unusedSimpArgs false

section
variable {w0 w : World} {F : Hp} {D : Ad} {p : Nat → Pl} {gx : List Int}
/-- One behind the other is put into a P's ring: what it has, what goes to all. -/
def puts (m : Nat) : Pl → List Int → List Int → Pl × List Int
  | y, gx, [] => (y, gx)
  | y, gx, g :: r => puts m (putY m y g) (gx ++ spillL m y.xs g) r
theorem puts_keeps (m : Nat) : ∀ (gs : List Int) (y : Pl) (gx : List Int), (puts m y gx gs).1.g = y.g ∧ (puts m y gx gs).1.runs = y.runs ∧ (puts m y gx gs).1.left = y.left ∧ (puts m y gx gs).1.turns = y.turns ∧ (puts m y gx gs).1.z = y.z ∧ (puts m y gx gs).1.b = y.b
  | [], y, gx => ⟨rfl, rfl, rfl, rfl, rfl, rfl⟩
  | g :: r, y, gx => puts_keeps m r (putY m y g) (gx ++ spillL m y.xs g)
def stealP (D : Ad) (p : Nat → Pl) (gx : List Int) (k v : Nat) (f : Int → Bool) : Nat → Pl := up (up p v (thiefY f (p v))) k (puts D.m (p k) gx (thiefG f (p v)).tail).1
def stealG (D : Ad) (p : Nat → Pl) (gx : List Int) (k v : Nat) (f : Int → Bool) : List Int := (puts D.m (p k) gx (thiefG f (p v)).tail).2
theorem pl_put_at (h : Sat w0 (plB D p gx * F) w) (ho : D.Ok) (k : Nat) (hk : k < D.n) (g : Int) (hl : gx.length ≤ 999000) :
    Calls Tryz.prog 51 #[vp (D.q k), vi g] w fun e w' => ∃ v, e = .returned v ∧ (∃ ao n cap, v = .slice ao n cap) ∧ w'.cell? ⟨D.s, 0, none⟩ = some D.v ∧ Calls Tryz.prog 24 #[vp D.s, v] w' fun e w' => e = .returned (.tuple #[]) ∧ Sat w0 (plB D (up p k (putY D.m (p k) g)) (gx ++ spillL D.m (p k).xs g) * F) w' :=
  (q_put (pl_out h hk) g).mono fun e w1 ⟨v, he, hS⟩ => by
    refine ⟨v, he, ?_, (plX_cells hS.dropL.dropL.dropL hk).1, ?_⟩
    · obtain ⟨ao, cap, hv⟩ := hS.rd.len
      exact ⟨_, _, _, hv⟩
    · have h1 := pl_in (y := putY D.m (p k) g) (F := sl 3 1 v (spillL D.m (p k).xs g).length ((spillL D.m (p k).xs g).map vi) * F) (hS.cast (show _ = quB (D.q k) (D.r k) (p k).z (p k).b * (ringP (D.r k) D.m (putL D.m (p k).xs g) * (plX D p gx k * (sl 3 1 v (spillL D.m (p k).xs g).length ((spillL D.m (p k).xs g).map vi) * F))) by ac_rfl)) hk rfl rfl rfl rfl
      have hsl := spill_len (m := D.m) (xs := (p k).xs) g
      have h2 := ho.m32
      exact (pl_back h1 ho (ys := spillL D.m (p k).xs g) (fun w' h' => h'.rd) (by omega)).mono fun e w' hh => ⟨hh.1, hh.2.drop2⟩
theorem pl_steal_no (h : Sat w0 (plB D p gx * F) w) (k v : Int) (hk : (inP D.n k && inP D.n v && !(k == v)) = false) (ao : Option Addr) (n cap : Nat) : Calls Tryz.prog 15 #[vp D.s, vi k, vi v, .slice ao n cap] w fun e w' => e = .returned (.tuple #[vi 0, .bool false]) ∧ w = w' := by
  have HI := Lib.hid (pl_is h k)
  have HJ := Lib.hid (pl_is h v)
  clear h
  cases h1 : inP D.n k with
  | false =>
    rw [h1] at HI
    clear h1 hk HJ
    go_enter Tryz.func15, Tryz.ntmps15
    go_wp2_with (go_at_call 45; refine HI.out.mono ?_; rintro e w' ⟨rfl, rfl⟩)
    go_ret2
    exact ⟨rfl, rfl⟩
  | true =>
    rw [h1] at HI hk
    cases h2 : inP D.n v with
    | false =>
      rw [h2] at HJ
      clear h1 h2 hk
      go_enter Tryz.func15, Tryz.ntmps15
      go_wp2_with (first | (go_at_call 45; refine HI.out.mono ?_; rintro e w' ⟨rfl, rfl⟩; clear HI) | (go_at_call 45; refine HJ.out.mono ?_; rintro e w' ⟨rfl, rfl⟩))
      go_ret2
      exact ⟨rfl, rfl⟩
    | true =>
      rw [h2] at HJ hk
      obtain rfl : k = v := by simpa using hk
      clear h1 h2 hk HJ
      go_enter Tryz.func15, Tryz.ntmps15
      go_wp2_with (go_at_call 45; refine HI.out.mono ?_; rintro e w' ⟨rfl, rfl⟩)
      go_ret2
      exact ⟨rfl, rfl⟩
set_option maxRecDepth 100000 in
set_option maxHeartbeats 4000000 in
theorem pl_steal_at (h : Sat w0 (plB D p gx * F) w) (ho : D.Ok) (k v : Nat) (hk : k < D.n) (hv : v < D.n) (hkv : k ≠ v) (hl : gx.length ≤ 990000) {u : Value} {af : List Nat} (hA : ∀ w', Sat w0 F w' → RdA w' u af) :
    Calls Tryz.prog 15 #[vp D.s, vi k, vi v, u] w fun e w' => e = .returned (.tuple #[vi ((thiefG (mayG af k) (p v)).headD 0), .bool !(thiefG (mayG af k) (p v)).isEmpty]) ∧ Sat w0 (plB D (stealP D p gx k v (mayG af k)) (stealG D p gx k v (mayG af k)) * F) w' := by
  have HI := Lib.hid (pl_is h (k : Int))
  have HJ := Lib.hid (pl_is h (v : Int))
  rw [inP_nat hk] at HI
  rw [inP_nat hv] at HJ
  have hki : ((k : Int) == (v : Int)) = false := by
    rw [beq_eq_false_iff_ne]
    omega
  have c1 := (pl_cells h).1
  have r0 := (pl_row h hv).1
  have hvi : (v : Int) < (D.n : Int) := by omega
  have hki2 : (k : Int) < (D.n : Int) := by omega
  unfold Ad.v at c1
  have hlen : (thiefG (mayG af k) (p v)).length ≤ 33 := by
    have := thiefO_len (xs := (p v).xs) (z := (p v).z) (b := (p v).b) (mayG af k)
    have h1 := (pl_ring h hv).1
    have h2 := ho.m32
    unfold thiefG
    omega
  have hq := q_steal (pl_out h hv) (k : Int) (fun w' h' => hA w' h'.dropL)
  obtain ⟨ao, cap, rfl⟩ := (hA w h.dropL).1.len
  have HQ := Lib.hid (hq.mono fun (e : Ending) w' ⟨u, he, hS⟩ => (⟨u, he, pl_in (y := thiefY (mayG af k) (p v)) (F := sl 3 1 u (thiefG (mayG af k) (p v)).length ((thiefG (mayG af k) (p v)).map vi) * F) (hS.cast (show _ = quB (D.q v) (D.r v) (p v).z (thiefB (mayG af k) (p v).xs (p v).z (p v).b) * (ringP (D.r v) D.m (thiefL (mayG af k) (p v).xs) * (plX D p gx v * (sl 3 1 u (thiefG (mayG af k) (p v)).length ((thiefG (mayG af k) (p v)).map vi) * F))) by show sl 3 1 u (thiefG (mayG af k) (p v)).length ((thiefG (mayG af k) (p v)).map vi) * _ = _; ac_rfl)) hv rfl rfl rfl rfl⟩   : ∃ u, e = Ending.returned u ∧ Sat w0 (plB D (up p v (thiefY (mayG af k) (p v))) gx * (sl 3 1 u (thiefG (mayG af k) (p v)).length ((thiefG (mayG af k) (p v)).map vi) * F)) w'))
  have HPK : Hid ((up p v (thiefY (mayG af k) (p v))) k = p k) := Lib.hid (up_ne _ _ hkv)
  unfold stealP stealG
  generalize up p v (thiefY (mayG af k) (p v)) = p1 at *
  generalize hO : thiefG (mayG af k) (p v) = O at *
  have HK := Lib.hid hk
  rw [← HPK.out]
  clear h hq hA hO hk hv hkv
  cases O with
  | nil =>
    go_enter Tryz.func15, Tryz.ntmps15
    go_wp2_with (first
      | (go_at_call 45; refine HI.out.mono ?_; rintro e w' ⟨rfl, rfl⟩; clear HI)
      | (go_at_call 45; refine HJ.out.mono ?_; rintro e w' ⟨rfl, rfl⟩)
      | (go_at_call 71; refine HQ.out.mono ?_; rintro e w1 ⟨u, rfl, hS⟩; obtain ⟨a1, c2, rfl⟩ := hS.dropL.rd.len; have H1 := Lib.hid hS; clear hS))
    go_ret2
    refine ⟨rfl, ?_⟩
    have h9 := H1.out.drop2
    rw [show (puts D.m (p1 k) gx ([] : List Int).tail).1 = p1 k from rfl, up_self]
    exact h9
  | cons o O =>
    have hl1 : O.length ≤ 32 := by simp at hlen; omega
    by_cases hO : O.length = 0
    · obtain rfl : O = [] := List.length_eq_zero_iff.1 hO
      go_enter Tryz.func15, Tryz.ntmps15
      go_wp2_with (first
        | (go_at_call 45; refine HI.out.mono ?_; rintro e w' ⟨rfl, rfl⟩; clear HI)
        | (go_at_call 45; refine HJ.out.mono ?_; rintro e w' ⟨rfl, rfl⟩)
        | (go_at_call 71; refine HQ.out.mono ?_; rintro e w1 ⟨u, rfl, hS⟩; obtain ⟨g1, ca, rfl, hca⟩ := slPos hS.dropL (by simp); have hca' : 1 ≤ ca := hca; have s0 := hS.dropL.slCell 0 rfl; have H1 := Lib.hid hS; clear hS))
      all_goals
        go_loopw [45] (fun i wr => i = vi 0 ∧ wr = w1) (fun i _ => 0)
        case atStart => exact ⟨rfl, rfl⟩
        case round =>
          obtain ⟨rfl, rfl⟩ := hrel
          go_wp2
          go_ret2
          refine ⟨rfl, ?_⟩
          have h9 := H1.out.drop2
          rw [show (puts D.m (p1 k) gx [o].tail).1 = p1 k from rfl, up_self]
          exact h9
    · go_enter Tryz.func15, Tryz.ntmps15
      go_wp2_with (first
        | (go_at_call 45; refine HI.out.mono ?_; rintro e w' ⟨rfl, rfl⟩; clear HI)
        | (go_at_call 45; refine HJ.out.mono ?_; rintro e w' ⟨rfl, rfl⟩)
        | (go_at_call 71; refine HQ.out.mono ?_; rintro e w1 ⟨u, rfl, hS⟩; obtain ⟨g1, ca, rfl, hca⟩ := slPos hS.dropL (by simp); obtain ⟨cb, rfl⟩ : ∃ cb, ca = cb + 2 := ⟨ca - 2, by simp at hca; omega⟩; have H1 := Lib.hid hS; clear hS))
      go_loopw [45] (fun i wr => ∃ (j : Nat) (y : Pl) (gy : List Int), j ≤ O.length ∧ i = vi j ∧ Hid (puts D.m y gy (O.drop j) = puts D.m (p1 k) gx O) ∧ gy.length ≤ gx.length + j * 100 ∧ Sat w0 (plB D (up p1 k y) gy * (sl 3 1 (.slice (some ⟨g1, 0, none⟩) (o :: O).length (cb + 2)) (o :: O).length ((o :: O).map vi) * F)) wr) (fun i _ => O.length - (intOf i).toNat)
      case atStart => exact ⟨0, p1 k, gx, Nat.zero_le _, rfl, Lib.hid rfl, by omega, H1.out.cast (by rw [up_self])⟩
      case round =>
        clear H1 c1 r0
        obtain ⟨j, y, gy, hj, rfl, hp, hgl, hS⟩ := hrel
        have s0 := hS.dropL.slCell 0 rfl
        by_cases hlt : j < O.length
        · have c1 := (pl_cells hS).1
          have r0 := (pl_row hS HK.out).1
          have hji : (j : Int) < (O.length : Int) := by omega
          have sj := hS.dropL.slCell (j + 1) (u := vi (O[j]?.getD 0)) (by simp [hlt])
          have hd : O.drop j = (O[j]?.getD 0) :: O.drop (j + 1) := by
            rw [List.drop_eq_getElem_cons hlt]
            simp [hlt]
          rw [hd] at hp
          generalize O[j]?.getD 0 = g at *
          rw [Nat.add_comm] at sj
          unfold Ad.v at c1
          have HQ2 := Lib.hid (pl_put_at hS ho k HK.out g (by omega))
          have hsl := spill_len (m := D.m) (xs := y.xs) g
          have hm32 := ho.m32
          clear hS hd hlt
          rw [up_at, up_up] at HQ2
          go_wp2_with (first
            | (go_at_call 51; refine HQ2.out.mono ?_; rintro e w2 ⟨v2, rfl, ⟨a2, n2, cp2, rfl⟩, c1', hB⟩; have HB2 := Lib.hid hB; clear hB)
            | (go_at_call 24; refine HB2.out.mono ?_; rintro e w3 ⟨rfl, hS3⟩; have H3 := Lib.hid hS3; clear hS3))
          go_roundw
          case rel => exact ⟨_, _, _, _, _, _, _, _, _, _, _, _, _, _, _, _, _, _, ⟨j + 1, putY D.m y g, gy ++ spillL D.m y.xs g, by omega, by go_num, hp, by rw [List.length_append]; omega, H3.out⟩, rfl⟩
          case measure => simp [intOf]; omega
        · obtain rfl : j = O.length := by omega
          have hp2 := hp.out
          rw [List.drop_length] at hp2
          have HP2 := Lib.hid (show (y, gy) = puts D.m (p1 k) gx O from hp2)
          have H9 := Lib.hid hS
          clear hS hp hp2
          go_wp2
          go_ret2
          refine ⟨rfl, ?_⟩
          rw [show (o :: O).tail = O from rfl, ← HP2.out]
          exact H9.out.drop2
end
end Go.Proofs.YtjgemfgneiaabaaGreat.Pc
