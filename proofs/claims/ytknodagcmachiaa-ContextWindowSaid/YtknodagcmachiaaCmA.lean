/-
  Chapter 08: what each act does to contexts, plainly. No statement is proved here.
-/
import Derived.Test.YtknodagcmachiaaCnB
import Derived.Test.YtknodagcmachiaaCnA
import Derived.Test.YtknodagcmachiaaCnC
import Derived.Test.YtknodagcmachiaaCn13
namespace Go.Proofs.Ytknodagcmachiaa.Cn
open Go.RowKit Ac Fi
set_option linter.unusedVariables false

/-- One that a ref names, or none. -/
def gC (cs : List CP) (i g : Int) : Cx := match isC cs i g with | none => cz | some (_, c) => c.cx
def eC (cs : List CP) (i g : Int) : Int := match isC cs i g with | none => 11 | some _ => 0
def sC (cs : List CP) (i g : Int) (x : Cx) : List CP := match isC cs i g with | none => cs | some (k, c) => cs.set k { c with cx := x }
section
variable {L : Blks} {ps : List Pl} {cs : List CP} {i g : Int} {n T : Nat} {most times : Int} {free : List Nat}
theorem isC_gC {k : Nat} {c : CP} (h : isC cs i g = some (k, c)) : gC cs i g = c.cx ∧ eC cs i g = 0 := by
  unfold gC eC
  rw [h]
  exact ⟨rfl, rfl⟩
theorem isC_no (h : isC cs i g = none) : gC cs i g = cz ∧ eC cs i g = 11 := by
  unfold gC eC
  rw [h]
  exact ⟨rfl, rfl⟩
theorem eC_yes (h : eC cs i g = 0) : ∃ k c, isC cs i g = some (k, c) := by
  unfold eC at h
  cases hc : isC cs i g with
  | none => rw [hc] at h; cases h
  | some x => exact ⟨x.1, x.2, rfl⟩
theorem eC_no (h : eC cs i g ≠ 0) : isC cs i g = none := by
  unfold eC at h
  cases hc : isC cs i g with
  | none => rfl
  | some x => rw [hc] at h; exact absurd rfl h
theorem PM.eE (h : PM L ps cs) (i g : Int) : getE ps i g = eC cs i g := by
  unfold getE eC
  cases hc : isC cs i g with
  | none => rw [h.no hc]
  | some x =>
    obtain ⟨k, c⟩ := x
    obtain ⟨a, h1, _⟩ := h.yes hc
    rw [h1]
theorem PM.eX (h : PM L ps cs) (i g : Int) : EM L (getX ps i g) (gC cs i g) := by
  unfold getX gC
  cases hc : isC cs i g with
  | none => rw [h.no hc]; exact EM.zero L
  | some x =>
    obtain ⟨k, c⟩ := x
    obtain ⟨a, h1, _, _, _, h5⟩ := h.yes hc
    rw [h1]
    exact h5
theorem PM.setp (h : PM L ps cs) {x : El} {c : Cx} (hx : EM L x c) : PM L (setP ps i g x) (sC cs i g c) := by
  unfold setP sC
  cases hc : isC cs i g with
  | none => rw [h.no hc]; exact h
  | some y =>
    obtain ⟨k, d⟩ := y
    obtain ⟨a, h1, h2, h3, h4, h5⟩ := h.yes hc
    obtain ⟨c1, c2, c3, c4⟩ := isC_some hc
    rw [h1]
    exact h.set k h3 (h4.trans c3.symm) hx
theorem PM.come (h : PM L ps cs) {k : Nat} {a : Pl} {c : CP} (ha : ps[k]? = some a) (hc : cs[k]? = some c) {x : El} {y : Cx} (hx : EM L x y) : PM L (ps.set k { a with there := true, x := x }) (cs.set k { c with there := true, cx := y }) :=
  h.set k (h.at_ k a c ha hc).1 rfl hx
theorem PM.go (h : PM L ps cs) {k : Nat} {a : Pl} {c : CP} (ha : ps[k]? = some a) (hc : cs[k]? = some c) (f : Int) : PM L (ps.set k { a with gen := a.gen + 1, there := false, x := ez }) (cs.set k ⟨c.gen + 1, false, cz, f⟩) :=
  h.set k (by have := (h.at_ k a c ha hc).1; dsimp only; omega) rfl (EM.zero L)
theorem Inv.setc (h : Inv n most T cs free times) {x : Cx} (hx : eC cs i g = 0 → Live most (T + 1) x) : Inv n most (T + 1) (sC cs i g x) free times := by
  unfold sC
  cases hc : isC cs i g with
  | none => exact h.mono (Nat.le_succ T)
  | some y =>
    obtain ⟨k, d⟩ := y
    obtain ⟨c1, c2, c3, c4⟩ := isC_some hc
    exact h.setx c1 c3 (hx (isC_gC hc).2)
theorem Inv.liveC (h : Inv n most T cs free times) (he : eC cs i g = 0) : Live most T (gC cs i g) := by
  obtain ⟨k, c, hc⟩ := eC_yes he
  obtain ⟨c1, c2, c3, c4⟩ := isC_some hc
  rw [(isC_gC hc).1]
  exact h.live k c c1 c3
theorem eC_01 (cs : List CP) (i g : Int) : eC cs i g = 0 ∨ eC cs i g = 11 := by
  unfold eC
  cases isC cs i g with
  | none => exact .inr rfl
  | some x => exact .inl rfl
theorem gC_no (h : eC cs i g = 11) : gC cs i g = cz := by
  have : isC cs i g = none := eC_no (by omega)
  exact (isC_no this).1
/-- What is told of any ref. -/
theorem Inv.anyC (h : Inv n most T cs free times) (i g : Int) : OkL (gC cs i g).l ∧ (gC cs i g).l.length ≤ 16 ∧ 0 ≤ (gC cs i g).b ∧ (gC cs i g).b ≤ 4294967296 ∧ 0 ≤ (gC cs i g).p ∧ (gC cs i g).p ≤ 4294967296 ∧ MayL (gC cs i g).l ∧ tot (gC cs i g).l = (gC cs i g).b ∧ 0 ≤ (gC cs i g).n ∧ (gC cs i g).n ≤ (T : Int) := by
  rcases eC_01 cs i g with he | he
  · have := h.liveC he
    have h1 := h.mst
    have h2 := this.len
    exact ⟨this.ok, by omega, by have := this.b; omega, this.b.2, by have := this.p; omega, this.p.2, this.may, this.tot, this.n⟩
  · rw [gC_no he]
    exact ⟨fun r hr => by simp at hr, by simp, by simp, by simp, by simp, by simp, MayL.nil, rfl, by simp, by simp⟩
end

/-! What each act answers, and what is there then. -/
section
variable (most : Int) (cs : List CP) (free : List Nat) (i g j t : Int)
/-- Bind (by 1), Unbind (by -1). -/
def bindE (d : Int) : Int := if eC cs i g = 11 then 11 else if (gC cs i g).n + d < 0 then 5 else 0
def bindL (d : Int) : List CP := if bindE cs i g d = 0 then sC cs i g { gC cs i g with n := (gC cs i g).n + d } else cs
def canB (now : Int) : Bool := decide (eC cs i g = 0 ∧ 0 < thereV (gC cs i g).l now)
open Classical in
noncomputable def chgB (now : Int) : Bool := if eC cs i g = 0 ∧ ChOk (gC cs i g).l now (gC cs i g).p most then true else false
noncomputable def chgL (now : Int) : List CP := if chgB most cs i g now = true then sC cs i g { gC cs i g with l := chargeL (gC cs i g).l now (gC cs i g).p most } else cs
def nxtO (now : Int) : Option Int := if eC cs i g = 0 then nextP (gC cs i g).l now else none
/-- Make: which error, the ref's two numbers, what is there. -/
def mkE (b p now : Int) : Int := if MkOk b p now then (if free = [] then 3 else 0) else 2
def mkK : Nat := free.getLast?.getD 0
def genK (k : Nat) : Int := match cs[k]? with | none => 0 | some c => c.gen
def mkI (b p now : Int) : Int := if mkE free b p now = 0 then (mkK free : Int) else 0
def mkG (b p now : Int) : Int := if mkE free b p now = 0 then genK cs (mkK free) else 0
def mkL (b p now : Int) : List CP := if mkE free b p now = 0 then (match cs[mkK free]? with | none => cs | some c => cs.set (mkK free) { c with there := true, cx := ⟨b, p, [⟨b, now⟩], 0⟩ }) else cs
def mkF (b p now : Int) : List Nat := if mkE free b p now = 0 then free.dropLast else free
/-- Split. -/
def spE (amount now : Int) : Int := if eC cs i g = 11 then 11 else if partC (gC cs i g).b (gC cs i g).l amount now ≠ 0 then partC (gC cs i g).b (gC cs i g).l amount now else mkE free amount (gC cs i g).p now
def pullC (c : Cx) (amount now : Int) : Cx := { c with b := c.b - amount, l := lessL (dueL c.l now) amount }
def spI (amount now : Int) : Int := if spE cs free i g amount now = 0 then (mkK free : Int) else 0
def spG (amount now : Int) : Int := if spE cs free i g amount now = 0 then genK cs (mkK free) else 0
def spL (amount now : Int) : List CP := if spE cs free i g amount now = 0 then sC (mkL cs free amount (gC cs i g).p now) i g (pullC (gC cs i g) amount now) else cs
def spF (amount now : Int) : List Nat := if spE cs free i g amount now = 0 then free.dropLast else free
/-- Donate. -/
def doE1 (amount now : Int) : Int := donC (eC cs i g) (eC cs j t) (i = j ∧ g = t) (gC cs i g).b (gC cs i g).l (gC cs j t).b amount now
def doE (amount now : Int) : Int := if doE1 cs i g j t amount now ≠ 0 then doE1 cs i g j t amount now else if thN (gC cs j t).l now = 0 ∧ ((gC cs j t).l.length : Int) = most then 3 else 0
def giveC (c : Cx) (amount now : Int) : Cx := { c with b := c.b + amount, l := giveL c.l now amount }
def doL (amount now : Int) : List CP := if doE most cs i g j t amount now = 0 then sC (sC cs j t (giveC (gC cs j t) amount now)) i g (pullC (gC cs i g) amount now) else cs
/-- Drop. -/
def drE : Int := if eC cs i g = 11 then 11 else if 0 < (gC cs i g).n then 14 else 0
def drL (times : Int) : List CP := if drE cs i g = 0 then (match isC cs i g with | none => cs | some (k, c) => cs.set k ⟨c.gen + 1, false, cz, times + 1⟩) else cs
def drF : List Nat := if drE cs i g = 0 then (match isC cs i g with | none => free | some (k, c) => free ++ [k]) else free
def drT (times : Int) : Int := if drE cs i g = 0 then times + 1 else times
end
/-- Contexts, as they lie in memory. -/
def cxP (h : Nat) (most : Int) (cs : List CP) (free : List Nat) : Hp := ex fun x : Nat × List Pl × Blks => given (PM x.2.2 x.2.1 cs) (cxB h x.1 most * (tblP x.1 x.2.1 free * plB x.2.2))
section
variable {w0 w : World} {F : Hp} {h p : Nat} {most : Int} {cs : List CP} {free : List Nat} {ps : List Pl} {L : Blks}
theorem cx_open (hS : Sat w0 (cxP h most cs free * F) w) : ∃ p ps L, PM L ps cs ∧ Sat w0 (cxB h p most * (tblP p ps free * (plB L * F))) w := by
  obtain ⟨⟨p, ps, L⟩, hS⟩ := hS.exE
  obtain ⟨hp, hS⟩ := hS.givenE
  exact ⟨p, ps, L, hp, hS.cast (by ac_rfl)⟩
theorem cx_shut (hp : PM L ps cs) (hS : Sat w0 (cxB h p most * (tblP p ps free * (plB L * F))) w) : Sat w0 (cxP h most cs free * F) w :=
  Sat.exI (p, ps, L) (Sat.givenI hp (hS.cast (by ac_rfl)))
end
end Go.Proofs.Ytknodagcmachiaa.Cn

namespace Go.Proofs.Ytknodagcmachiaa.Cn
open Go.RowKit Ac Fi
set_option linter.unusedVariables false

section
variable {cs : List CP} {i g j t : Int} {n T : Nat} {most times : Int} {free : List Nat}
theorem Inv.bind (h : Inv n most T cs free times) (d : Int) (hd : -1 ≤ d ∧ d ≤ 1) : Inv n most (T + 1) (bindL cs i g d) free times := by
  unfold bindL
  split
  · rename_i he
    refine h.setc fun h0 => ?_
    have hl := h.liveC h0
    unfold bindE at he
    rw [if_neg (by omega)] at he
    have hn := hl.n
    split at he
    · cases he
    · exact { hl with n := ⟨by dsimp only; omega, by dsimp only; omega⟩ }
  · exact h.mono (Nat.le_succ T)
theorem chgB_iff {now : Int} : chgB most cs i g now = true ↔ eC cs i g = 0 ∧ ChOk (gC cs i g).l now (gC cs i g).p most := by
  unfold chgB
  split
  · exact ⟨fun _ => by assumption, fun _ => rfl⟩
  · exact ⟨fun h => (by cases h), fun h => absurd h (by assumption)⟩
theorem Inv.chg (h : Inv n most T cs free times) (now : Int) (hn : 0 ≤ now) : Inv n most (T + 1) (chgL most cs i g now) free times := by
  unfold chgL
  split
  · rename_i hb
    obtain ⟨_, hc⟩ := chgB_iff.1 hb
    refine h.setc fun h0 => ?_
    have hl := h.liveC h0
    obtain ⟨b1, b2, b3, b4⟩ := charge_law hc hl.ok hn (by have := hl.p; omega)
    have hm := hl.mono (Nat.le_succ T)
    exact { hm with may := b1, ok := b2, tot := b3.trans hl.tot, len := b4 }
  · exact h.mono (Nat.le_succ T)
theorem mk_last {b p now : Int} (h : mkE free b p now = 0) : MkOk b p now ∧ free = free.dropLast ++ [mkK free] := by
  unfold mkE at h
  split at h
  · rename_i hm
    split at h
    · cases h
    · rename_i hf
      refine ⟨hm, ?_⟩
      unfold mkK
      rw [List.getLast?_eq_some_getLast hf, Option.getD_some]
      exact (List.dropLast_concat_getLast hf).symm
  · cases h
theorem Inv.mkAt (h : Inv n most T cs free times) {b p now : Int} (he : mkE free b p now = 0) : ∃ c, cs[mkK free]? = some c ∧ c.there = false ∧ genK cs (mkK free) = c.gen := by
  obtain ⟨_, hf⟩ := mk_last he
  have : mkK free ∈ free := by
    rw [hf]
    simp [mkK]
  obtain ⟨c, hc, ht⟩ := (h.mem _).1 this
  exact ⟨c, hc, ht, by unfold genK; rw [hc]⟩
theorem Live.one {b p now : Int} (hm : MkOk b p now) (hn : 0 ≤ now) (h2 : 2 ≤ most) (T : Nat) : Live most T ⟨b, p, [⟨b, now⟩], 0⟩ := by
  unfold MkOk at hm
  refine ⟨⟨hm.1, hm.2.1⟩, ⟨hm.2.2.1, hm.2.2.2.1⟩, may1 b now hm.1 (by omega), ok1 b now ⟨by omega, by omega⟩ ⟨by omega, by omega⟩, by simp [Fi.tot], by simp; omega, ⟨by simp, by simp⟩⟩
theorem Inv.mk_ (h : Inv n most T cs free times) (b p now : Int) (hn : 0 ≤ now) : Inv n most (T + 1) (mkL cs free b p now) (mkF free b p now) times := by
  unfold mkL mkF
  split
  · rename_i he
    obtain ⟨c, hc, ht, _⟩ := h.mkAt he
    obtain ⟨hm, hf⟩ := mk_last he
    rw [hc]
    dsimp only
    have h' : Inv n most T cs (free.dropLast ++ [mkK free]) times := by rw [← hf]; exact h
    exact h'.come hc (Live.one hm hn h.mst.1 _)
  · exact h.mono (Nat.le_succ T)
/-- What part lets through. -/
theorem part_zero {b amount now : Int} {l : List Rf} (h : partC b l amount now = 0) : amount ≠ 0 ∧ now ≤ 1152921504606846976 ∧ amount < b ∧ amount ≤ thereV l now := by
  unfold partC at h
  split at h
  · cases h
  · split at h
    · cases h
    · omega
theorem pull_live {c : Cx} {amount now : Int} (hl : Live most T c) (ha : 0 ≤ amount) (hp : partC c.b c.l amount now = 0) : Live most T (pullC c amount now) ∧ PuOk c.l amount := by
  obtain ⟨p1, p2, p3, p4⟩ := part_zero hp
  obtain ⟨r, s, hd, hle⟩ := pull_due hl.may hl.ok p1 ha p4
  have hm := may_due (now := now) hl.may hl.ok
  have hk := ok_due (now := now) hl.may hl.ok
  have hlen := due_len c.l now
  have ht := tot_due c.l now
  rw [hd] at hm hk hlen ht
  obtain ⟨a1, a2, a3, a4⟩ := less_may hm hk (k := amount) (by omega) hle
  have hb := hl.b
  have h5 := hl.len
  have h6 := hl.tot
  refine ⟨⟨?_, hl.p, ?_, ?_, ?_, ?_, hl.n⟩, ⟨hl.may, p1⟩⟩
  · unfold pullC
    dsimp only
    omega
  · unfold pullC
    rw [hd]
    exact a1
  · unfold pullC
    rw [hd]
    exact a2
  · unfold pullC
    rw [hd]
    dsimp only
    omega
  · unfold pullC
    rw [hd]
    dsimp only
    omega
theorem give_live {c : Cx} {amount now : Int} (hl : Live most T c) (hm2 : 2 ≤ most) (ha : 1 ≤ amount) (hn : U64 now) (hb : c.b + amount ≤ 4294967296) (hf : ¬ (thN c.l now = 0 ∧ (c.l.length : Int) = most)) : Live most T (giveC c amount now) ∧ GvOk c.l amount most := by
  have hg : GvOk c.l amount most := ⟨hl.may, by omega, by omega, hl.len⟩
  have hcb := hl.b
  have ha' : U64 amount := ⟨by omega, by omega⟩
  have h6 := hl.tot
  obtain ⟨a1, a2, a3, a4, a5, a6, r, s, a7, a8⟩ := give_law (now := now) hg hl.ok hn ha' (by omega) (fun h1 h2 => hf ⟨h1, h2⟩)
  have hm := a1
  have hk := a2
  rw [a7] at hm hk
  obtain ⟨_, _, b3, _⟩ := less_may hm hk (k := amount) ha a8
  rw [← a7, a6, tot_due] at b3
  refine ⟨⟨?_, hl.p, a1, a2, ?_, a3, hl.n⟩, hg⟩
  · unfold giveC
    dsimp only
    omega
  · unfold giveC
    dsimp only
    omega
theorem Inv.sp (h : Inv n most T cs free times) (amount now : Int) (ha : 0 ≤ amount) (hn : 0 ≤ now) : Inv n most (T + 2) (spL cs free i g amount now) (spF cs free i g amount now) times := by
  unfold spL spF
  split
  · rename_i he
    unfold spE at he
    split at he
    · cases he
    · rename_i h0
      have h0 : eC cs i g = 0 := by rcases eC_01 cs i g with h | h <;> omega
      split at he
      · rename_i hne
        exact absurd he hne
      · rename_i hp
        have hp : partC (gC cs i g).b (gC cs i g).l amount now = 0 := by omega
        have h1 := h.mk_ amount (gC cs i g).p now hn
        have hF : mkF free amount (gC cs i g).p now = free.dropLast := by unfold mkF; rw [if_pos he]
        rw [hF] at h1
        exact h1.setc fun _ => (pull_live (h.liveC h0) ha hp).1.mono (by omega)
  · exact h.mono (by omega)
theorem donC_zero {e1 e2 : Int} {same : Prop} [Decidable same] {b b2 amount now : Int} {l : List Rf} (h : donC e1 e2 same b l b2 amount now = 0) : e1 = 0 ∧ e2 = 0 ∧ ¬ same ∧ partC b l amount now = 0 ∧ b2 + amount ≤ 4294967296 := by
  unfold donC at h
  simp only [firstE] at h
  repeat' split at h
  all_goals first | omega | (refine ⟨by assumption, by assumption, ?_, by assumption, by omega⟩; assumption) | skip
theorem Inv.do_ (h : Inv n most T cs free times) (amount now : Int) (ha : 0 ≤ amount) (hn : U64 now) : Inv n most (T + 2) (doL most cs i g j t amount now) free times := by
  unfold doL
  split
  · rename_i he
    unfold doE at he
    split at he
    · rename_i hne
      exact absurd he hne
    · rename_i hz
      have hz : doE1 cs i g j t amount now = 0 := by omega
      obtain ⟨z1, z2, z3, z4, z5⟩ := donC_zero hz
      split at he
      · cases he
      · rename_i hf
        obtain ⟨p1, p2, p3, p4⟩ := part_zero z4
        have h1 := h.setc (i := j) (g := t) (x := giveC (gC cs j t) amount now) fun _ => (give_live (h.liveC z2) h.mst.1 (by omega) hn z5 hf).1.mono (by omega)
        exact h1.setc fun _ => (pull_live (h.liveC z1) ha z4).1.mono (by omega)
  · exact h.mono (by omega)
theorem Inv.dr (h : Inv n most T cs free times) : Inv n most (T + 1) (drL cs i g times) (drF cs free i g) (drT cs i g times) := by
  unfold drL drF drT
  split
  · rename_i he
    unfold drE at he
    split at he
    · cases he
    · rename_i h0
      have h0 : eC cs i g = 0 := by rcases eC_01 cs i g with h | h <;> omega
      obtain ⟨k, c, hc⟩ := eC_yes h0
      rw [hc]
      obtain ⟨c1, c2, c3, c4⟩ := isC_some hc
      exact h.go c1 c3
  · exact h.mono (Nat.le_succ T)
end
end Go.Proofs.Ytknodagcmachiaa.Cn

namespace Go.Proofs.Ytknodagcmachiaa.Cn
open Go.RowKit Ac Fi
set_option linter.unusedVariables false

section
variable {w0 w : World} {F : Hp} {h : Nat} {most times : Int} {cs : List CP} {free : List Nat} {n T : Nat}
theorem sC_same (cs : List CP) (i g : Int) (h : eC cs i g = 11) (x : Cx) : sC cs i g x = cs := by
  unfold sC
  rw [eC_no (by omega)]
theorem p_bind (hI : Inv n most T cs free times) (hT : T ≤ 100000) (hS : Sat w0 (cxP h most cs free * F) w) (i g : Int) :
    Calls Try.prog 15 #[vp h, vr i g] w fun e w' => e = .returned (vi (bindE cs i g 1)) ∧ Sat w0 (cxP h most (bindL cs i g 1) free * F) w' := by
  obtain ⟨p, ps, L, hp, hs⟩ := cx_open hS
  have hE := hp.eE i g
  have hX := hp.eX i g
  have hA := hI.anyC i g
  rcases eC_01 cs i g with he | he
  · have hz : bindE cs i g 1 = 0 := by unfold bindE; rw [if_neg (by omega), if_neg (by omega)]
    unfold bindL
    rw [hz, if_pos rfl]
    refine (bind_yes hs i g (by rw [hE, he]) (by rw [hX.2.2.2]; omega)).mono fun e w' ⟨h1, h2⟩ => ⟨h1, cx_shut (hp.setp ?_) h2⟩
    exact ⟨hX.1, hX.2.1, hX.2.2.1, congrArg (· + 1) hX.2.2.2⟩
  · have hz : bindE cs i g 1 = 11 := by unfold bindE; rw [if_pos he]
    unfold bindL
    rw [hz, if_neg (by omega)]
    exact (bind_no hs i g (by rw [hE, he])).mono fun e w' ⟨h1, h2⟩ => ⟨h1, cx_shut hp h2⟩
theorem p_unbind (hI : Inv n most T cs free times) (hT : T ≤ 100000) (hS : Sat w0 (cxP h most cs free * F) w) (i g : Int) :
    Calls Try.prog 31 #[vp h, vr i g] w fun e w' => e = .returned (vi (bindE cs i g (-1))) ∧ Sat w0 (cxP h most (bindL cs i g (-1)) free * F) w' := by
  obtain ⟨p, ps, L, hp, hs⟩ := cx_open hS
  have hE := hp.eE i g
  have hX := hp.eX i g
  have hA := hI.anyC i g
  rcases eC_01 cs i g with he | he
  · by_cases h0 : (gC cs i g).n = 0
    · have hz : bindE cs i g (-1) = 5 := by unfold bindE; rw [if_neg (by omega), if_pos (by omega)]
      unfold bindL
      rw [hz, if_neg (by omega)]
      exact (unbind_zero hs i g (by rw [hE, he]) (by rw [hX.2.2.2]; exact h0)).mono fun e w' ⟨h1, h2⟩ => ⟨h1, cx_shut hp h2⟩
    · have hz : bindE cs i g (-1) = 0 := by unfold bindE; rw [if_neg (by omega), if_neg (by omega)]
      unfold bindL
      rw [hz, if_pos rfl]
      refine (unbind_yes hs i g (by rw [hE, he]) (by rw [hX.2.2.2]; omega)).mono fun e w' ⟨h1, h2⟩ => ⟨h1, cx_shut (hp.setp ?_) h2⟩
      exact ⟨hX.1, hX.2.1, hX.2.2.1, congrArg (· + -1) hX.2.2.2⟩
  · have hz : bindE cs i g (-1) = 11 := by unfold bindE; rw [if_pos he]
    unfold bindL
    rw [hz, if_neg (by omega)]
    exact (unbind_no hs i g (by rw [hE, he])).mono fun e w' ⟨h1, h2⟩ => ⟨h1, cx_shut hp h2⟩
theorem p_can (hI : Inv n most T cs free times) (hS : Sat w0 (cxP h most cs free * F) w) (i g now : Int) :
    Calls Try.prog 12 #[vp h, vr i g, vu now] w fun e w' => e = .returned (.bool (canB cs i g now)) ∧ Sat w0 (cxP h most cs free * F) w' := by
  obtain ⟨p, ps, L, hp, hs⟩ := cx_open hS
  have hE := hp.eE i g
  have hX := hp.eX i g
  have hA := hI.anyC i g
  rcases eC_01 cs i g with he | he
  · refine (can_yes hs i g now (by rw [hE, he]) hX.2.2.1 (by omega)).mono fun e w' ⟨h1, h2⟩ => ⟨?_, cx_shut hp h2⟩
    rw [h1]
    unfold canB
    simp [he]
  · refine (can_no hs i g now (by rw [hE, he])).mono fun e w' ⟨h1, h2⟩ => ⟨?_, cx_shut hp h2⟩
    rw [h1]
    unfold canB
    simp [he]
theorem p_next (hI : Inv n most T cs free times) (hS : Sat w0 (cxP h most cs free * F) w) (i g now : Int) :
    Calls Try.prog 30 #[vp h, vr i g, vu now] w fun e w' => e = .returned (addV (nxtO cs i g now)) ∧ Sat w0 (cxP h most cs free * F) w' := by
  obtain ⟨p, ps, L, hp, hs⟩ := cx_open hS
  have hE := hp.eE i g
  have hX := hp.eX i g
  have hA := hI.anyC i g
  rcases eC_01 cs i g with he | he
  · refine (next_yes hs i g now (by rw [hE, he]) hX.2.2.1 (by omega)).mono fun e w' ⟨h1, h2⟩ => ⟨?_, cx_shut hp h2⟩
    rw [h1]
    unfold nxtO
    rw [if_pos he]
  · refine (next_no hs i g now (by rw [hE, he])).mono fun e w' ⟨h1, h2⟩ => ⟨?_, cx_shut hp h2⟩
    rw [h1]
    unfold nxtO
    rw [if_neg (by omega)]
theorem p_charge (hI : Inv n most T cs free times) (hS : Sat w0 (cxP h most cs free * F) w) (i g now : Int) (hn : U64 now) :
    Calls Try.prog 13 #[vp h, vr i g, vu now] w fun e w' => e = .returned (.bool (chgB most cs i g now)) ∧ Sat w0 (cxP h most (chgL most cs i g now) free * F) w' := by
  obtain ⟨p, ps, L, hp, hs⟩ := cx_open hS
  have hE := hp.eE i g
  have hX := hp.eX i g
  have hA := hI.anyC i g
  have hpu : U64 (getX ps i g).v1 := by rw [hX.2.1]; exact ⟨by omega, by omega⟩
  by_cases hb : chgB most cs i g now = true
  · obtain ⟨he, hc⟩ := chgB_iff.1 hb
    obtain ⟨b1, b2, b3, b4⟩ := charge_law hc hA.1 hn.1 (by omega)
    unfold chgL
    rw [if_pos hb, hb]
    have hc' : ChOk (gC cs i g).l now (getX ps i g).v1 most := by rw [hX.2.1]; exact hc
    refine (charge_ok hs i g now (by rw [hE, he]) hX.2.2.1 (by omega) hn hpu hc' (by rw [hX.2.1]; exact b2)).mono fun e w' hh => ?_
    obtain ⟨ao, lc, L2, h1, h2, h3, h4⟩ := hh
    rw [hX.2.1] at h3 h4
    refine ⟨h1, cx_shut ((hp.mono h2).setp ?_) h4⟩
    exact ⟨hX.1, hX.2.1, h3, hX.2.2.2⟩
  · have hf : chgB most cs i g now = false := by simpa using hb
    unfold chgL
    rw [if_neg hb, hf]
    rcases eC_01 cs i g with he | he
    · have hc : ¬ ChOk (gC cs i g).l now (getX ps i g).v1 most := fun hc => hb (chgB_iff.2 ⟨he, by rw [hX.2.1] at hc; exact hc⟩)
      exact (charge_not hs i g now (by rw [hE, he]) hX.2.2.1 (by omega) hn hpu hc).mono fun e w' ⟨h1, h2⟩ => ⟨h1, cx_shut hp h2⟩
    · exact (charge_stale hs i g now (by rw [hE, he])).mono fun e w' ⟨h1, h2⟩ => ⟨h1, cx_shut hp h2⟩
theorem p_get (hI : Inv n most T cs free times) (hS : Sat w0 (cxP h most cs free * F) w) (i g : Int) :
    Calls Try.prog 29 #[vp h, vr i g] w fun e w' => ∃ ao lc, e = .returned (.tuple #[ev ⟨(gC cs i g).b, (gC cs i g).p, ao, (gC cs i g).l.length, lc, (gC cs i g).n⟩, vi (eC cs i g)]) ∧ Sat w0 (fiS (.slice ao (gC cs i g).l.length lc) (gC cs i g).l * (cxP h most cs free * F)) w' := by
  obtain ⟨p, ps, L, hp, hs⟩ := cx_open hS
  have hE := hp.eE i g
  have hX := hp.eX i g
  have hA := hI.anyC i g
  refine (cx_get hs i g hX.2.2.1 (by omega)).mono fun e w' hh => ?_
  obtain ⟨ao, lc, h1, h2⟩ := hh
  refine ⟨ao, lc, ?_, ?_⟩
  · rw [h1, hE, hX.1, hX.2.1, hX.2.2.2]
  · have h3 : Sat w0 (cxP h most cs free * (fiS (.slice ao (gC cs i g).l.length lc) (gC cs i g).l * F)) w' := cx_shut hp (h2.cast (by ac_rfl))
    exact h3.pull2
theorem p_make (hI : Inv n most T cs free times) (hS : Sat w0 (cxP h most cs free * F) w) (b per now : Int) (hn : 0 ≤ now) :
    Calls Try.prog 11 #[vp h, vu b, vu per, vu now] w fun e w' => e = .returned (.tuple #[vr (mkI free b per now) (mkG cs free b per now), vi (mkE free b per now)]) ∧ Sat w0 (cxP h most (mkL cs free b per now) (mkF free b per now) * F) w' := by
  obtain ⟨p, ps, L, hp, hs⟩ := cx_open hS
  unfold mkI mkG mkL mkF
  by_cases hm : MkOk b per now
  · by_cases hf : free = []
    · have he : mkE free b per now = 3 := by unfold mkE; rw [if_pos hm, if_pos hf]
      rw [he, if_neg (by omega), if_neg (by omega), if_neg (by omega), if_neg (by omega)]
      subst hf
      refine (make_full hs b per now hm hn).mono fun e w' hh => ?_
      obtain ⟨L2, h1, h2, h3⟩ := hh
      exact ⟨h1, cx_shut (hp.mono h2) h3⟩
    · have he : mkE free b per now = 0 := by unfold mkE; rw [if_pos hm, if_neg hf]
      rw [he, if_pos rfl, if_pos rfl, if_pos rfl, if_pos rfl]
      obtain ⟨c, hc, ht, hg⟩ := hI.mkAt he
      obtain ⟨_, hfe⟩ := mk_last he
      have hk : mkK free < ps.length := by rw [hp.len]; exact (List.getElem?_eq_some_iff.1 hc).1
      obtain ⟨a, ha⟩ : ∃ a, ps[mkK free]? = some a := ⟨ps[mkK free], List.getElem?_eq_getElem hk⟩
      have hgen := (hp.at_ _ a c ha hc).1
      rw [hc, hg]
      dsimp only
      rw [hfe] at hs
      have hcut := hfe
      generalize hkk : mkK free = k at *
      generalize free.dropLast = fr at *
      refine (make_ok hs b per now hm hn ha).mono fun e w' hh => ?_
      obtain ⟨ao, lc, L2, h1, h2, h3, h4⟩ := hh
      refine ⟨by rw [h1, hgen], cx_shut ((hp.mono h2).come ha hc ?_) h4⟩
      exact ⟨rfl, rfl, h3, rfl⟩
  · have he : mkE free b per now = 2 := by unfold mkE; rw [if_neg hm]
    rw [he, if_neg (by omega), if_neg (by omega), if_neg (by omega), if_neg (by omega)]
    exact (make_arg hs b per now hm).mono fun e w' ⟨h1, h2⟩ => ⟨h1, cx_shut hp h2⟩
end
end Go.Proofs.Ytknodagcmachiaa.Cn

namespace Go.Proofs.Ytknodagcmachiaa.Cn
open Go.RowKit Ac Fi
set_option linter.unusedVariables false

section
variable {w0 w : World} {F : Hp} {h : Nat} {most times : Int} {cs : List CP} {free : List Nat} {n T : Nat}
theorem p_split (hI : Inv n most T cs free times) (hS : Sat w0 (cxP h most cs free * F) w) (i g amount now : Int) (ha : U64 amount) (hn : U64 now) :
    Calls Try.prog 14 #[vp h, vr i g, vu amount, vu now] w fun e w' => e = .returned (.tuple #[vr (spI cs free i g amount now) (spG cs free i g amount now), vi (spE cs free i g amount now)]) ∧ Sat w0 (cxP h most (spL cs free i g amount now) (spF cs free i g amount now) * F) w' := by
  obtain ⟨p, ps, L, hp, hs⟩ := cx_open hS
  have hE := hp.eE i g
  have hX := hp.eX i g
  have hA := hI.anyC i g
  unfold spI spG spL spF
  rcases eC_01 cs i g with he | he
  · by_cases hpt : partC (gC cs i g).b (gC cs i g).l amount now = 0
    · obtain ⟨p1, p2, p3, p4⟩ := part_zero hpt
      have hl := hI.liveC he
      have ha1 := ha.1
      have hm : MkOk amount (gC cs i g).p now := ⟨by omega, by omega, by have := hl.p; omega, by have := hl.p; omega, p2⟩
      have hm' : MkOk amount (getX ps i g).v1 now := by rw [hX.2.1]; exact hm
      have hpt' : partC (getX ps i g).v0 (gC cs i g).l amount now = 0 := by rw [hX.1]; exact hpt
      have hse : spE cs free i g amount now = mkE free amount (gC cs i g).p now := by unfold spE; rw [if_neg (by omega), if_neg (by omega)]
      by_cases hf : free = []
      · have hz : mkE free amount (gC cs i g).p now = 3 := by unfold mkE; rw [if_pos hm, if_pos hf]
        rw [hse, hz, if_neg (by omega), if_neg (by omega), if_neg (by omega), if_neg (by omega)]
        subst hf
        refine (split_full hs i g amount now (by rw [hE, he]) hX.2.2.1 (by omega) hpt' hm' hn.1).mono fun e w' hh => ?_
        obtain ⟨L2, h1, h2, h3⟩ := hh
        exact ⟨h1, cx_shut (hp.mono h2) h3⟩
      · have hz : mkE free amount (gC cs i g).p now = 0 := by unfold mkE; rw [if_pos hm, if_neg hf]
        rw [hse, hz, if_pos rfl, if_pos rfl, if_pos rfl, if_pos rfl]
        obtain ⟨c, hc, ht, hg⟩ := hI.mkAt hz
        obtain ⟨_, hfe⟩ := mk_last hz
        have hk : mkK free < ps.length := by rw [hp.len]; exact (List.getElem?_eq_some_iff.1 hc).1
        obtain ⟨a, hak⟩ : ∃ a, ps[mkK free]? = some a := ⟨ps[mkK free], List.getElem?_eq_getElem hk⟩
        obtain ⟨hgen, hth, _⟩ := hp.at_ _ a c hak hc
        obtain ⟨q1, q2⟩ := pull_live hl ha.1 hpt
        have hML : mkL cs free amount (gC cs i g).p now = cs.set (mkK free) { c with there := true, cx := ⟨amount, (gC cs i g).p, [⟨amount, now⟩], 0⟩ } := by
          unfold mkL
          rw [if_pos hz, hc]
        rw [hML, hg]
        rw [hfe] at hs
        generalize hkk : mkK free = k at *
        generalize free.dropLast = fr at *
        have hb : amount ≤ (getX ps i g).v0 ∧ (getX ps i g).v0 ≤ 18446744073709551615 := by rw [hX.1]; omega
        refine (split_ok hs i g amount now (by rw [hE, he]) hX.2.2.1 (by omega) hpt' hm' hn.1 hak (hth.trans ht) q2 p4 hb q1.ok).mono fun e w' hh => ?_
        obtain ⟨ao, lc, ao2, lc2, L2, h1, h2, h3, h4, h5⟩ := hh
        refine ⟨by rw [h1, hgen], cx_shut (((hp.mono h2).come hak hc ?_).setp ?_) h5⟩
        · exact ⟨rfl, hX.2.1, h3, rfl⟩
        · exact ⟨by dsimp only; rw [hX.1]; rfl, hX.2.1, h4, hX.2.2.2⟩
    · have hse : spE cs free i g amount now = partC (gC cs i g).b (gC cs i g).l amount now := by unfold spE; rw [if_neg (by omega), if_pos hpt]
      rw [hse, if_neg hpt, if_neg hpt, if_neg hpt, if_neg hpt]
      exact (split_part hs i g amount now _ (by rw [hE, he]) hX.2.2.1 (by omega) (by rw [hX.1]) hpt).mono fun e w' ⟨h1, h2⟩ => ⟨h1, cx_shut hp h2⟩
  · have hse : spE cs free i g amount now = 11 := by unfold spE; rw [if_pos he]
    rw [hse, if_neg (by omega), if_neg (by omega), if_neg (by omega), if_neg (by omega)]
    exact (split_stale hs i g amount now (by rw [hE, he])).mono fun e w' ⟨h1, h2⟩ => ⟨h1, cx_shut hp h2⟩
theorem p_donate (hI : Inv n most T cs free times) (hS : Sat w0 (cxP h most cs free * F) w) (i g j t amount now : Int) (ha : U64 amount) (hn : U64 now) :
    Calls Try.prog 32 #[vp h, vr i g, vr j t, vu amount, vu now] w fun e w' => e = .returned (vi (doE most cs i g j t amount now)) ∧ Sat w0 (cxP h most (doL most cs i g j t amount now) free * F) w' := by
  obtain ⟨p, ps, L, hp, hs⟩ := cx_open hS
  have hE := hp.eE i g
  have hX := hp.eX i g
  have hA := hI.anyC i g
  have hE2 := hp.eE j t
  have hX2 := hp.eX j t
  have hA2 := hI.anyC j t
  unfold doL
  by_cases h1 : doE1 cs i g j t amount now = 0
  · obtain ⟨z1, z2, z3, z4, z5⟩ := donC_zero h1
    obtain ⟨p1, p2, p3, p4⟩ := part_zero z4
    have hl := hI.liveC z1
    have hl2 := hI.liveC z2
    have ha1 := ha.1
    have hEE : donC (getE ps i g) (getE ps j t) (i = j ∧ g = t) (getX ps i g).v0 (gC cs i g).l (getX ps j t).v0 amount now = 0 := by
      rw [hE, hE2, hX.1, hX2.1]
      exact h1
    have hgv : GvOk (gC cs j t).l amount most := ⟨hl2.may, p1, by have := hI.mst; omega, hl2.len⟩
    by_cases hf : thN (gC cs j t).l now = 0 ∧ ((gC cs j t).l.length : Int) = most
    · have hd : doE most cs i g j t amount now = 3 := by unfold doE; rw [if_neg (by omega), if_pos hf]
      rw [hd, if_neg (by omega)]
      exact (donate_full hs i g j t amount now hX.2.2.1 (by omega) (by rw [hX.1]; omega) (by rw [hX2.1]; omega) ha.1 hEE hX2.2.2.1 (by omega) ha hn hgv (by omega) hf).mono fun e w' ⟨h1, h2⟩ => ⟨h1, cx_shut hp h2⟩
    · have hd : doE most cs i g j t amount now = 0 := by unfold doE; rw [if_neg (by omega), if_neg hf]
      rw [hd, if_pos rfl]
      obtain ⟨q1, q2⟩ := pull_live hl ha.1 z4
      obtain ⟨g1, g2⟩ := give_live hl2 hI.mst.1 (by omega) hn z5 hf
      refine (donate_ok hs i g j t amount now hX.2.2.1 (by omega) (by rw [hX.1]; omega) (by rw [hX2.1]; omega) ha.1 hEE hX2.2.2.1 (by omega) ha hn hgv (by omega) (by rw [hE, z1]) (by rw [hE2, z2]) hf q2 p4 (by rw [hX.1]; omega) g1.ok q1.ok).mono fun e w' hh => ?_
      obtain ⟨ao, lc, ao2, lc2, L3, h1, h2, h3, h4, h5⟩ := hh
      refine ⟨h1, cx_shut (((hp.mono h2).setp ?_).setp ?_) h5⟩
      · exact ⟨by dsimp only; rw [hX2.1]; rfl, hX2.2.1, h3, hX2.2.2.2⟩
      · exact ⟨by dsimp only; rw [hX.1]; rfl, hX.2.1, h4, hX.2.2.2⟩
  · have hd : doE most cs i g j t amount now = doE1 cs i g j t amount now := by unfold doE; rw [if_pos h1]
    rw [hd, if_neg h1]
    exact (donate_err hs i g j t amount now _ hX.2.2.1 (by omega) (by rw [hX.1]; omega) (by rw [hX2.1]; omega) ha.1 (by rw [hE, hE2, hX.1, hX2.1]; rfl) h1).mono fun e w' ⟨h1, h2⟩ => ⟨h1, cx_shut hp h2⟩
theorem p_drop (hI : Inv n most T cs free times) (hT : T ≤ 100000) (hS : Sat w0 (cxP h most cs free * F) w) (i g : Int) :
    Calls Try.prog 22 #[vp h, vr i g] w fun e w' => e = .returned (vi (drE cs i g)) ∧ Sat w0 (cxP h most (drL cs i g times) (drF cs free i g) * F) w' := by
  obtain ⟨p, ps, L, hp, hs⟩ := cx_open hS
  have hE := hp.eE i g
  have hX := hp.eX i g
  have hA := hI.anyC i g
  unfold drL drF
  rcases eC_01 cs i g with he | he
  · by_cases hb : 0 < (gC cs i g).n
    · have hd : drE cs i g = 14 := by unfold drE; rw [if_neg (by omega), if_pos hb]
      rw [hd, if_neg (by omega), if_neg (by omega)]
      exact (drop_busy hs i g (by rw [hE, he]) (by rw [hX.2.2.2]; exact hb)).mono fun e w' ⟨h1, h2⟩ => ⟨h1, cx_shut hp h2⟩
    · have hd : drE cs i g = 0 := by unfold drE; rw [if_neg (by omega), if_neg hb]
      rw [hd, if_pos rfl, if_pos rfl]
      obtain ⟨k, c, hc⟩ := eC_yes he
      obtain ⟨a, h1, h2, h3, h4, h5⟩ := hp.yes hc
      obtain ⟨c1, c2, c3, c4⟩ := isC_some hc
      have hg := hI.gens k c c1
      rw [hc]
      exact (cx_drop_yes hs i g h1 (by rw [hX.2.2.2]; omega) (by omega)).mono fun e w' ⟨k1, k2⟩ => ⟨k1, cx_shut (hp.go h2 c1 _) k2⟩
  · have hd : drE cs i g = 11 := by unfold drE; rw [if_pos he]
    rw [hd, if_neg (by omega), if_neg (by omega)]
    exact (drop_no hs i g (by rw [hE, he])).mono fun e w' ⟨h1, h2⟩ => ⟨h1, cx_shut hp h2⟩
theorem p_new (n : Nat) (hn : 1 ≤ n ∧ n ≤ 32) (hm : 2 ≤ most ∧ most ≤ 16) (hS : Sat w0 F w) : Calls Try.prog 10 #[vi n, vi most] w fun e w' => ∃ h, e = .returned (.tuple #[vp h, vi 0]) ∧ Sat w0 (cxP h most (newC n) (newF n n) * F) w' :=
  (cx_new n hn.1 hn.2 hm.1 hm.2 hS.plStart.dropL).mono fun e w' ⟨h, p, h1, h2⟩ => ⟨h, h1, cx_shut (PM.new [] n) ((Sat.plStart h2).cast (by ac_rfl))⟩
end
end Go.Proofs.Ytknodagcmachiaa.Cn
