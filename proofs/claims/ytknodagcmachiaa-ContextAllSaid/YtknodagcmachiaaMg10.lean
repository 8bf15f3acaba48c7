/-
  Package context: Donate's closures. No statement is proved here.
-/
import Derived.Test.YtknodagcmachiaaCn8
namespace Go.Proofs.Ytknodagcmachiaa.Cn
open Go.RowKit Ac Fi
set_option linter.unusedVariables false
set_option linter.unusedSimpArgs false

section
variable {w0 w : World} {F : Hp} {h p : Nat} {most : Int} {ps : List Pl} {free : List Nat} {L : Blks} {l : List Rf}
set_option maxRecDepth 100000 in
set_option maxHeartbeats 2000000 in
theorem donate1_ {b : Nat} {n : Int} (hS : Sat w0 (pc b 26 [vi n] * F) w) :
    Calls Try.prog 65 #[vp b] w fun e w' => e = .returned (vi n) ∧ Sat w0 (pc b 26 [vi n] * F) w' := by
  have c0 := hS.cell 0 rfl
  have HS := Lib.hid hS
  clear hS
  go_enter Try.func65, Try.ntmps65
  go_wp2
  go_ret
  exact ⟨rfl, HS.out⟩
set_option maxRecDepth 100000 in
set_option maxHeartbeats 2000000 in
theorem donate2_ {b : Nat} {n : Int} (hS : Sat w0 (pc b 26 [vi n] * F) w) :
    Calls Try.prog 66 #[vp b] w fun e w' => e = .returned (vi n) ∧ Sat w0 (pc b 26 [vi n] * F) w' := by
  have c0 := hS.cell 0 rfl
  have HS := Lib.hid hS
  clear hS
  go_enter Try.func66, Try.ntmps66
  go_wp2
  go_ret
  exact ⟨rfl, HS.out⟩
set_option maxRecDepth 100000 in
set_option maxHeartbeats 2000000 in
theorem donate3_ {b1 b2 : Nat} {i g j t : Int} (hS : Sat w0 (pc b1 30 [vi i, vu g] * (pc b2 30 [vi j, vu t] * F)) w) :
    Calls Try.prog 67 #[vp b1, vp b2] w fun e w' => e = .returned (vi (if i = j ∧ g = t then 2 else 0)) ∧ Sat w0 (pc b1 30 [vi i, vu g] * (pc b2 30 [vi j, vu t] * F)) w' := by
  have c0 := hS.cell 0 rfl
  have c1 := hS.cell 1 rfl
  have d0 := hS.pull2.cell 0 rfl
  have d1 := hS.pull2.cell 1 rfl
  have HS := Lib.hid hS
  have HW1 := Lib.hid (fun n w => cx_when_t n w)
  have HW0 := Lib.hid (fun n w => cx_when_f n w)
  by_cases h1 : i = j
  · by_cases h2 : g = t
    · have hb1 : (i == j) = true := by simpa using h1
      have hb2 : (g == t) = true := by simpa using h2
      rw [if_pos ⟨h1, h2⟩]
      clear hS h1 h2
      go_enter Try.func67, Try.ntmps67
      go_wp2_with (go_at_call 68; refine (HW1.out _ _).mono ?_; rintro e w' ⟨rfl, rfl⟩)
      go_ret
      exact ⟨rfl, HS.out⟩
    · have hb2 : (g == t) = false := beq_eq_false_iff_ne.2 h2
      have hb1 : (i == j) = true := by simpa using h1
      rw [if_neg (fun h => h2 h.2)]
      clear hS h1 h2
      go_enter Try.func67, Try.ntmps67
      go_wp2_with (go_at_call 68; refine (HW0.out _ _).mono ?_; rintro e w' ⟨rfl, rfl⟩)
      go_ret
      exact ⟨rfl, HS.out⟩
  · have hb1 : (i == j) = false := beq_eq_false_iff_ne.2 h1
    rw [if_neg (fun h => h1 h.1)]
    clear hS h1
    go_enter Try.func67, Try.ntmps67
    go_wp2_with (go_at_call 68; refine (HW0.out _ _).mono ?_; rintro e w' ⟨rfl, rfl⟩)
    go_ret
    exact ⟨rfl, HS.out⟩
set_option maxRecDepth 100000 in
set_option maxHeartbeats 2000000 in
theorem donate4_ {bx b8 b9 : Nat} {amount now v0 v1 v3 : Int} {a2 : Option Addr} {n2 c2 : Nat} (hS : Sat w0 (pc bx 49 (elC ⟨v0, v1, a2, n2, c2, v3⟩) * (pc b8 22 [vu amount] * (pc b9 22 [vu now] * (F)))) w) (hR : ∀ w', Sat w0 (pc bx 49 (elC ⟨v0, v1, a2, n2, c2, v3⟩) * (pc b8 22 [vu amount] * (pc b9 22 [vu now] * (F)))) w' → RdF w' (.slice a2 n2 c2) l) (hl : l.length ≤ 1000) :
    Calls Try.prog 69 #[vp bx, vp b8, vp b9] w fun e w' => e = .returned (vi (partC v0 l amount now)) ∧ Sat w0 (pc bx 49 (elC ⟨v0, v1, a2, n2, c2, v3⟩) * (pc b8 22 [vu amount] * (pc b9 22 [vu now] * (F)))) w' := by
  have k0 := (hS).cell 0 rfl; have k1 := (hS).cell 1 rfl; have k2 := (hS).cell 2 rfl; have k3 := (hS).cell 3 rfl; have k4 := (hS).dropL.cell 0 rfl; have k5 := (hS).dropL.dropL.cell 0 rfl
  have HP := Lib.hid (cx_part (v0 := v0) (v1 := v1) (v3 := v3) (amount := amount) (now := now) hS hR hl)
  clear hS hR
  generalize partC v0 l amount now = rr at *
  go_enter Try.func69, Try.ntmps69
  go_wp2_with (go_at_call 42; refine HP.out.mono ?_; rintro e w' ⟨rfl, hS'⟩; have H2 := Lib.hid hS'; clear hS')
  go_ret
  exact ⟨rfl, H2.out⟩
set_option maxRecDepth 100000 in
set_option maxHeartbeats 2000000 in
theorem donate5_ {bx b8 : Nat} {amount v0 v1 v3 : Int} {a2 : Option Addr} {n2 c2 : Nat} (hS : Sat w0 (pc bx 49 (elC ⟨v0, v1, a2, n2, c2, v3⟩) * (pc b8 22 [vu amount] * (F))) w) (hw : 0 ≤ v0 + amount ∧ v0 + amount ≤ 18446744073709551615) :
    Calls Try.prog 70 #[vp bx, vp b8] w fun e w' => e = .returned (vi (if 4294967296 < v0 + amount then 6 else 0)) ∧ Sat w0 (pc bx 49 (elC ⟨v0, v1, a2, n2, c2, v3⟩) * (pc b8 22 [vu amount] * (F))) w' := by
  have k0 := (hS).cell 0 rfl; have k1 := (hS).cell 1 rfl; have k2 := (hS).cell 2 rfl; have k3 := (hS).cell 3 rfl; have k4 := (hS).dropL.cell 0 rfl
  have hwr : IntKind.u64.wrap (v0 + amount) = v0 + amount := IntWalk.u64_in _ (by omega)
  have HS := Lib.hid hS
  have HW1 := Lib.hid (fun n w => cx_when_t n w)
  have HW0 := Lib.hid (fun n w => cx_when_f n w)
  clear hS hw
  by_cases h1 : 4294967296 < v0 + amount
  · rw [if_pos h1]
    go_enter Try.func70, Try.ntmps70
    go_wp2_with (go_at_call 68; refine (HW1.out _ _).mono ?_; rintro e w' ⟨rfl, rfl⟩)
    go_ret
    exact ⟨rfl, HS.out⟩
  · rw [if_neg h1]
    go_enter Try.func70, Try.ntmps70
    go_wp2_with (go_at_call 68; refine (HW0.out _ _).mono ?_; rintro e w' ⟨rfl, rfl⟩)
    go_ret
    exact ⟨rfl, HS.out⟩
theorem isAt_setP {i g j t : Int} (y : El) : (isAt (setP ps j t y) i g).map (·.1) = (isAt ps i g).map (·.1) := by
  unfold setP
  cases hJ : isAt ps j t with
  | none => rfl
  | some kb =>
    obtain ⟨k, b⟩ := kb
    obtain ⟨h1, h2, h3, h4⟩ := isAt_some hJ
    dsimp only
    by_cases hi : i < 0
    · unfold isAt
      rw [if_pos hi, if_pos hi]
    · unfold isAt
      rw [if_neg hi, if_neg hi]
      by_cases hk : k = i.toNat
      · subst hk
        rw [get_set_self h1, h1]
        dsimp only
        by_cases hc : (b.there && b.gen == g) = true
        · rw [if_pos hc, if_pos hc]
          rfl
        · rw [if_neg hc, if_neg hc]
      · rw [List.getElem?_set_ne hk]
theorem getE_setP {i g j t : Int} (y : El) : getE (setP ps j t y) i g = getE ps i g := by
  have h := isAt_setP (ps := ps) (i := i) (g := g) (j := j) (t := t) y
  unfold getE
  cases h1 : isAt (setP ps j t y) i g with
  | none =>
    rw [h1] at h
    cases h2 : isAt ps i g with
    | none => rfl
    | some x => rw [h2] at h; cases h
  | some x =>
    rw [h1] at h
    cases h2 : isAt ps i g with
    | none => rw [h2] at h; cases h
    | some x => rfl
/-- What Donate says ahead of giving. -/
def donC (e1 e2 : Int) (same : Prop) [Decidable same] (b : Int) (l : List Rf) (b2 amount now : Int) : Int :=
  firstE [e1, e2, if same then 2 else 0, partC b l amount now, if 4294967296 < b2 + amount then 6 else 0]
end
end Go.Proofs.Ytknodagcmachiaa.Cn

namespace Go.Proofs.Ytknodagcmachiaa.Cn
open Go.RowKit Ac Fi
set_option linter.unusedVariables false

/-- One that a ref names, or none. -/
def gC (cs : List CP) (i g : Int) : Cx := match isC cs i g with | none => cz | some (_, c) => c.cx
def eC (cs : List CP) (i g : Int) : Int := match isC cs i g with | none => 11 | some _ => 0
def sC (cs : List CP) (i g : Int) (x : Cx) : List CP := match isC cs i g with | none => cs | some (k, c) => cs.set k { c with cx := x }
section
variable {L : Blks} {ps : List Pl} {cs : List CP} {i g : Int} {n T : Nat} {most times : Int} {free : List Nat}
theorem isC_gC {k : Nat} {c : CP} (h : isC cs i g = some (k, c)) : gC cs i g = c.cx ∧ eC cs i g = 0 := by
  unfold gC eC
  rw [h]
  exact ⟨rfl, rfl⟩
theorem isC_no (h : isC cs i g = none) : gC cs i g = cz ∧ eC cs i g = 11 := by
  unfold gC eC
  rw [h]
  exact ⟨rfl, rfl⟩
theorem eC_yes (h : eC cs i g = 0) : ∃ k c, isC cs i g = some (k, c) := by
  unfold eC at h
  cases hc : isC cs i g with
  | none => rw [hc] at h; cases h
  | some x => exact ⟨x.1, x.2, rfl⟩
theorem eC_no (h : eC cs i g ≠ 0) : isC cs i g = none := by
  unfold eC at h
  cases hc : isC cs i g with
  | none => rfl
  | some x => rw [hc] at h; exact absurd rfl h
theorem PM.eE (h : PM L ps cs) (i g : Int) : getE ps i g = eC cs i g := by
  unfold getE eC
  cases hc : isC cs i g with
  | none => rw [h.no hc]
  | some x =>
    obtain ⟨k, c⟩ := x
    obtain ⟨a, h1, _⟩ := h.yes hc
    rw [h1]
theorem PM.eX (h : PM L ps cs) (i g : Int) : EM L (getX ps i g) (gC cs i g) := by
  unfold getX gC
  cases hc : isC cs i g with
  | none => rw [h.no hc]; exact EM.zero L
  | some x =>
    obtain ⟨k, c⟩ := x
    obtain ⟨a, h1, _, _, _, h5⟩ := h.yes hc
    rw [h1]
    exact h5
theorem PM.setp (h : PM L ps cs) {x : El} {c : Cx} (hx : EM L x c) : PM L (setP ps i g x) (sC cs i g c) := by
  unfold setP sC
  cases hc : isC cs i g with
  | none => rw [h.no hc]; exact h
  | some y =>
    obtain ⟨k, d⟩ := y
    obtain ⟨a, h1, h2, h3, h4, h5⟩ := h.yes hc
    obtain ⟨c1, c2, c3, c4⟩ := isC_some hc
    rw [h1]
    exact h.set k h3 (h4.trans c3.symm) hx
theorem PM.come (h : PM L ps cs) {k : Nat} {a : Pl} {c : CP} (ha : ps[k]? = some a) (hc : cs[k]? = some c) {x : El} {y : Cx} (hx : EM L x y) : PM L (ps.set k { a with there := true, x := x }) (cs.set k { c with there := true, cx := y }) :=
  h.set k (h.at_ k a c ha hc).1 rfl hx
theorem PM.go (h : PM L ps cs) {k : Nat} {a : Pl} {c : CP} (ha : ps[k]? = some a) (hc : cs[k]? = some c) (f : Int) : PM L (ps.set k { a with gen := a.gen + 1, there := false, x := ez }) (cs.set k ⟨c.gen + 1, false, cz, f⟩) :=
  h.set k (by have := (h.at_ k a c ha hc).1; dsimp only; omega) rfl (EM.zero L)
theorem Inv.setc (h : Inv n most T cs free times) {x : Cx} (hx : eC cs i g = 0 → Live most (T + 1) x) : Inv n most (T + 1) (sC cs i g x) free times := by
  unfold sC
  cases hc : isC cs i g with
  | none => exact h.mono (Nat.le_succ T)
  | some y =>
    obtain ⟨k, d⟩ := y
    obtain ⟨c1, c2, c3, c4⟩ := isC_some hc
    exact h.setx c1 c3 (hx (isC_gC hc).2)
theorem Inv.liveC (h : Inv n most T cs free times) (he : eC cs i g = 0) : Live most T (gC cs i g) := by
  obtain ⟨k, c, hc⟩ := eC_yes he
  obtain ⟨c1, c2, c3, c4⟩ := isC_some hc
  rw [(isC_gC hc).1]
  exact h.live k c c1 c3
theorem eC_01 (cs : List CP) (i g : Int) : eC cs i g = 0 ∨ eC cs i g = 11 := by
  unfold eC
  cases isC cs i g with
  | none => exact .inr rfl
  | some x => exact .inl rfl
theorem gC_no (h : eC cs i g = 11) : gC cs i g = cz := by
  have : isC cs i g = none := eC_no (by omega)
  exact (isC_no this).1
/-- What is told of any ref. -/
theorem Inv.anyC (h : Inv n most T cs free times) (i g : Int) : OkL (gC cs i g).l ∧ (gC cs i g).l.length ≤ 16 ∧ 0 ≤ (gC cs i g).b ∧ (gC cs i g).b ≤ 4294967296 ∧ 0 ≤ (gC cs i g).p ∧ (gC cs i g).p ≤ 4294967296 ∧ MayL (gC cs i g).l ∧ tot (gC cs i g).l = (gC cs i g).b ∧ 0 ≤ (gC cs i g).n ∧ (gC cs i g).n ≤ (T : Int) := by
  rcases eC_01 cs i g with he | he
  · have := h.liveC he
    have h1 := h.mst
    have h2 := this.len
    exact ⟨this.ok, by omega, by have := this.b; omega, this.b.2, by have := this.p; omega, this.p.2, this.may, this.tot, this.n⟩
  · rw [gC_no he]
    exact ⟨fun r hr => by simp at hr, by simp, by simp, by simp, by simp, by simp, MayL.nil, rfl, by simp, by simp⟩
end

/-! What each act answers, and what is there then. -/
section
variable (most : Int) (cs : List CP) (free : List Nat) (i g j t : Int)
/-- Bind (by 1), Unbind (by -1). -/
def bindE (d : Int) : Int := if eC cs i g = 11 then 11 else if (gC cs i g).n + d < 0 then 5 else 0
def bindL (d : Int) : List CP := if bindE cs i g d = 0 then sC cs i g { gC cs i g with n := (gC cs i g).n + d } else cs
def canB (now : Int) : Bool := decide (eC cs i g = 0 ∧ 0 < thereV (gC cs i g).l now)
open Classical in
noncomputable def chgB (now : Int) : Bool := if eC cs i g = 0 ∧ ChOk (gC cs i g).l now (gC cs i g).p most then true else false
noncomputable def chgL (now : Int) : List CP := if chgB most cs i g now = true then sC cs i g { gC cs i g with l := chargeL (gC cs i g).l now (gC cs i g).p most } else cs
def nxtO (now : Int) : Option Int := if eC cs i g = 0 then nextP (gC cs i g).l now else none
/-- Make: which error, the ref's two numbers, what is there. -/
def mkE (b p now : Int) : Int := if MkOk b p now then (if free = [] then 3 else 0) else 2
def mkK : Nat := free.getLast?.getD 0
def genK (k : Nat) : Int := match cs[k]? with | none => 0 | some c => c.gen
def mkI (b p now : Int) : Int := if mkE free b p now = 0 then (mkK free : Int) else 0
def mkG (b p now : Int) : Int := if mkE free b p now = 0 then genK cs (mkK free) else 0
def mkL (b p now : Int) : List CP := if mkE free b p now = 0 then (match cs[mkK free]? with | none => cs | some c => cs.set (mkK free) { c with there := true, cx := ⟨b, p, [⟨b, now⟩], 0⟩ }) else cs
def mkF (b p now : Int) : List Nat := if mkE free b p now = 0 then free.dropLast else free
/-- Split. -/
def spE (amount now : Int) : Int := if eC cs i g = 11 then 11 else if partC (gC cs i g).b (gC cs i g).l amount now ≠ 0 then partC (gC cs i g).b (gC cs i g).l amount now else mkE free amount (gC cs i g).p now
def pullC (c : Cx) (amount now : Int) : Cx := { c with b := c.b - amount, l := lessL (dueL c.l now) amount }
def spI (amount now : Int) : Int := if spE cs free i g amount now = 0 then (mkK free : Int) else 0
def spG (amount now : Int) : Int := if spE cs free i g amount now = 0 then genK cs (mkK free) else 0
def spL (amount now : Int) : List CP := if spE cs free i g amount now = 0 then sC (mkL cs free amount (gC cs i g).p now) i g (pullC (gC cs i g) amount now) else cs
def spF (amount now : Int) : List Nat := if spE cs free i g amount now = 0 then free.dropLast else free
/-- Donate. -/
def doE1 (amount now : Int) : Int := donC (eC cs i g) (eC cs j t) (i = j ∧ g = t) (gC cs i g).b (gC cs i g).l (gC cs j t).b amount now
def doE (amount now : Int) : Int := if doE1 cs i g j t amount now ≠ 0 then doE1 cs i g j t amount now else if thN (gC cs j t).l now = 0 ∧ ((gC cs j t).l.length : Int) = most then 3 else 0
def giveC (c : Cx) (amount now : Int) : Cx := { c with b := c.b + amount, l := giveL c.l now amount }
def doL (amount now : Int) : List CP := if doE most cs i g j t amount now = 0 then sC (sC cs j t (giveC (gC cs j t) amount now)) i g (pullC (gC cs i g) amount now) else cs
/-- Drop. -/
def drE : Int := if eC cs i g = 11 then 11 else if 0 < (gC cs i g).n then 14 else 0
def drL (times : Int) : List CP := if drE cs i g = 0 then (match isC cs i g with | none => cs | some (k, c) => cs.set k ⟨c.gen + 1, false, cz, times + 1⟩) else cs
def drF : List Nat := if drE cs i g = 0 then (match isC cs i g with | none => free | some (k, c) => free ++ [k]) else free
def drT (times : Int) : Int := if drE cs i g = 0 then times + 1 else times
end
/-- Contexts, as they lie in memory; the pool holds all of L0. -/
def cxQ (L0 : Blks) (h : Nat) (most : Int) (cs : List CP) (free : List Nat) : Hp := ex fun x : Nat × List Pl × Blks => given ((∀ y ∈ L0, y ∈ x.2.2) ∧ PM x.2.2 x.2.1 cs) (cxB h x.1 most * (tblP x.1 x.2.1 free * plB x.2.2))
abbrev cxP (h : Nat) (most : Int) (cs : List CP) (free : List Nat) : Hp := cxQ [] h most cs free
section
variable {w0 w : World} {F : Hp} {h p : Nat} {most : Int} {cs : List CP} {free : List Nat} {ps : List Pl} {L L0 : Blks}
theorem cx_open (hS : Sat w0 (cxQ L0 h most cs free * F) w) : ∃ p ps L, (∀ y ∈ L0, y ∈ L) ∧ PM L ps cs ∧ Sat w0 (cxB h p most * (tblP p ps free * (plB L * F))) w := by
  obtain ⟨⟨p, ps, L⟩, hS⟩ := hS.exE
  obtain ⟨hp, hS⟩ := hS.givenE
  exact ⟨p, ps, L, hp.1, hp.2, hS.cast (by ac_rfl)⟩
theorem cx_shut (hl : ∀ y ∈ L0, y ∈ L) (hp : PM L ps cs) (hS : Sat w0 (cxB h p most * (tblP p ps free * (plB L * F))) w) : Sat w0 (cxQ L0 h most cs free * F) w :=
  Sat.exI (p, ps, L) (Sat.givenI ⟨hl, hp⟩ (hS.cast (by ac_rfl)))
end
end Go.Proofs.Ytknodagcmachiaa.Cn
