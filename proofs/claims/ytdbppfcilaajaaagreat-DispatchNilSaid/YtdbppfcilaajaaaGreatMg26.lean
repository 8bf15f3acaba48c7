/-
  Package context: Split. No statement is proved here.
-/
import Derived.Test.YtdbppfcilaajaaaGreatMg25
import Derived.Test.YtdbppfcilaajaaaGreatMg24
import Derived.Deep.RegionLaw
namespace Go.Proofs.YtdbppfcilaajaaaGreat.Cn
open Go.RowKit Ac Fi
set_option linter.unusedVariables false
set_option linter.unusedSimpArgs false

section
variable {w0 w : World} {F : Hp} {h p : Nat} {most : Int} {ps : List Pl} {free : List Nat} {L : Blks} {l : List Rf}
end
end Go.Proofs.YtdbppfcilaajaaaGreat.Cn

namespace Go.Proofs.YtdbppfcilaajaaaGreat.Cn
open Go.RowKit Ac Fi
set_option linter.unusedVariables false
set_option linter.unusedSimpArgs false

section
variable {w0 w : World} {F : Hp} {h p : Nat} {most : Int} {ps : List Pl} {free : List Nat} {L : Blks} {l : List Rf}
end
end Go.Proofs.YtdbppfcilaajaaaGreat.Cn

namespace Go.Proofs.YtdbppfcilaajaaaGreat.Cn
open Go.RowKit Ac Fi
set_option linter.unusedVariables false

/-- One that a ref names, or none. -/
def gC (cs : List CP) (i g : Int) : Cx := match isC cs i g with | none => cz | some (_, c) => c.cx
def eC (cs : List CP) (i g : Int) : Int := match isC cs i g with | none => 11 | some _ => 0
def sC (cs : List CP) (i g : Int) (x : Cx) : List CP := match isC cs i g with | none => cs | some (k, c) => cs.set k { c with cx := x }
section
variable {L : Blks} {ps : List Pl} {cs : List CP} {i g : Int} {n T : Nat} {most times : Int} {free : List Nat}
theorem isC_gC {k : Nat} {c : CP} (h : isC cs i g = some (k, c)) : gC cs i g = c.cx ∧ eC cs i g = 0 := by
  unfold gC eC
  rw [h]
  exact ⟨rfl, rfl⟩
theorem isC_no (h : isC cs i g = none) : gC cs i g = cz ∧ eC cs i g = 11 := by
  unfold gC eC
  rw [h]
  exact ⟨rfl, rfl⟩
theorem eC_yes (h : eC cs i g = 0) : ∃ k c, isC cs i g = some (k, c) := by
  unfold eC at h
  cases hc : isC cs i g with
  | none => rw [hc] at h; cases h
  | some x => exact ⟨x.1, x.2, rfl⟩
theorem eC_no (h : eC cs i g ≠ 0) : isC cs i g = none := by
  unfold eC at h
  cases hc : isC cs i g with
  | none => rfl
  | some x => rw [hc] at h; exact absurd rfl h
theorem PM.eE (h : PM L ps cs) (i g : Int) : getE ps i g = eC cs i g := by
  unfold getE eC
  cases hc : isC cs i g with
  | none => rw [h.no hc]
  | some x =>
    obtain ⟨k, c⟩ := x
    obtain ⟨a, h1, _⟩ := h.yes hc
    rw [h1]
theorem PM.eX (h : PM L ps cs) (i g : Int) : EM L (getX ps i g) (gC cs i g) := by
  unfold getX gC
  cases hc : isC cs i g with
  | none => rw [h.no hc]; exact EM.zero L
  | some x =>
    obtain ⟨k, c⟩ := x
    obtain ⟨a, h1, _, _, _, h5⟩ := h.yes hc
    rw [h1]
    exact h5
theorem PM.setp (h : PM L ps cs) {x : El} {c : Cx} (hx : EM L x c) : PM L (setP ps i g x) (sC cs i g c) := by
  unfold setP sC
  cases hc : isC cs i g with
  | none => rw [h.no hc]; exact h
  | some y =>
    obtain ⟨k, d⟩ := y
    obtain ⟨a, h1, h2, h3, h4, h5⟩ := h.yes hc
    obtain ⟨c1, c2, c3, c4⟩ := isC_some hc
    rw [h1]
    exact h.set k h3 (h4.trans c3.symm) hx
theorem PM.come (h : PM L ps cs) {k : Nat} {a : Pl} {c : CP} (ha : ps[k]? = some a) (hc : cs[k]? = some c) {x : El} {y : Cx} (hx : EM L x y) : PM L (ps.set k { a with there := true, x := x }) (cs.set k { c with there := true, cx := y }) :=
  h.set k (h.at_ k a c ha hc).1 rfl hx
theorem PM.go (h : PM L ps cs) {k : Nat} {a : Pl} {c : CP} (ha : ps[k]? = some a) (hc : cs[k]? = some c) (f : Int) : PM L (ps.set k { a with gen := a.gen + 1, there := false, x := ez }) (cs.set k ⟨c.gen + 1, false, cz, f⟩) :=
  h.set k (by have := (h.at_ k a c ha hc).1; dsimp only; omega) rfl (EM.zero L)
theorem Inv.setc (h : Inv n most T cs free times) {x : Cx} (hx : eC cs i g = 0 → Live most (T + 1) x) : Inv n most (T + 1) (sC cs i g x) free times := by
  unfold sC
  cases hc : isC cs i g with
  | none => exact h.mono (Nat.le_succ T)
  | some y =>
    obtain ⟨k, d⟩ := y
    obtain ⟨c1, c2, c3, c4⟩ := isC_some hc
    exact h.setx c1 c3 (hx (isC_gC hc).2)
theorem Inv.liveC (h : Inv n most T cs free times) (he : eC cs i g = 0) : Live most T (gC cs i g) := by
  obtain ⟨k, c, hc⟩ := eC_yes he
  obtain ⟨c1, c2, c3, c4⟩ := isC_some hc
  rw [(isC_gC hc).1]
  exact h.live k c c1 c3
theorem eC_01 (cs : List CP) (i g : Int) : eC cs i g = 0 ∨ eC cs i g = 11 := by
  unfold eC
  cases isC cs i g with
  | none => exact .inr rfl
  | some x => exact .inl rfl
theorem gC_no (h : eC cs i g = 11) : gC cs i g = cz := by
  have : isC cs i g = none := eC_no (by omega)
  exact (isC_no this).1
/-- What is told of any ref. -/
theorem Inv.anyC (h : Inv n most T cs free times) (i g : Int) : OkL (gC cs i g).l ∧ (gC cs i g).l.length ≤ 16 ∧ 0 ≤ (gC cs i g).b ∧ (gC cs i g).b ≤ 4294967296 ∧ 0 ≤ (gC cs i g).p ∧ (gC cs i g).p ≤ 4294967296 ∧ MayL (gC cs i g).l ∧ tot (gC cs i g).l = (gC cs i g).b ∧ 0 ≤ (gC cs i g).n ∧ (gC cs i g).n ≤ (T : Int) := by
  rcases eC_01 cs i g with he | he
  · have := h.liveC he
    have h1 := h.mst
    have h2 := this.len
    exact ⟨this.ok, by omega, by have := this.b; omega, this.b.2, by have := this.p; omega, this.p.2, this.may, this.tot, this.n⟩
  · rw [gC_no he]
    exact ⟨fun r hr => by simp at hr, by simp, by simp, by simp, by simp, by simp, MayL.nil, rfl, by simp, by simp⟩
end

/-! What each act answers, and what is there then. -/
section
variable (most : Int) (cs : List CP) (free : List Nat) (i g j t : Int)
/-- Bind (by 1), Unbind (by -1). -/
def bindE (d : Int) : Int := if eC cs i g = 11 then 11 else if (gC cs i g).n + d < 0 then 5 else 0
def bindL (d : Int) : List CP := if bindE cs i g d = 0 then sC cs i g { gC cs i g with n := (gC cs i g).n + d } else cs
def canB (now : Int) : Bool := decide (eC cs i g = 0 ∧ 0 < thereV (gC cs i g).l now)
open Classical in
noncomputable def chgB (now : Int) : Bool := if eC cs i g = 0 ∧ ChOk (gC cs i g).l now (gC cs i g).p most then true else false
noncomputable def chgL (now : Int) : List CP := if chgB most cs i g now = true then sC cs i g { gC cs i g with l := chargeL (gC cs i g).l now (gC cs i g).p most } else cs
/-- Make: which error, the ref's two numbers, what is there. -/
def mkE (b p now : Int) : Int := if MkOk b p now then (if free = [] then 3 else 0) else 2
def mkK : Nat := free.getLast?.getD 0
def genK (k : Nat) : Int := match cs[k]? with | none => 0 | some c => c.gen
def mkI (b p now : Int) : Int := if mkE free b p now = 0 then (mkK free : Int) else 0
def mkG (b p now : Int) : Int := if mkE free b p now = 0 then genK cs (mkK free) else 0
def mkL (b p now : Int) : List CP := if mkE free b p now = 0 then (match cs[mkK free]? with | none => cs | some c => cs.set (mkK free) { c with there := true, cx := ⟨b, p, [⟨b, now⟩], 0⟩ }) else cs
def mkF (b p now : Int) : List Nat := if mkE free b p now = 0 then free.dropLast else free
/-- Split. -/
def spE (amount now : Int) : Int := if eC cs i g = 11 then 11 else if partC (gC cs i g).b (gC cs i g).l amount now ≠ 0 then partC (gC cs i g).b (gC cs i g).l amount now else mkE free amount (gC cs i g).p now
def pullC (c : Cx) (amount now : Int) : Cx := { c with b := c.b - amount, l := lessL (dueL c.l now) amount }
def spL (amount now : Int) : List CP := if spE cs free i g amount now = 0 then sC (mkL cs free amount (gC cs i g).p now) i g (pullC (gC cs i g) amount now) else cs
end
/-- Contexts, as they lie in memory; the pool holds all of L0. -/
def cxQ (L0 : Blks) (h : Nat) (most : Int) (cs : List CP) (free : List Nat) : Hp := ex fun x : Nat × List Pl × Blks => given ((∀ y ∈ L0, y ∈ x.2.2) ∧ PM x.2.2 x.2.1 cs) (cxB h x.1 most * (tblP x.1 x.2.1 free * plB x.2.2))
section
variable {w0 w : World} {F : Hp} {h p : Nat} {most : Int} {cs : List CP} {free : List Nat} {ps : List Pl} {L L0 : Blks}
theorem cx_open (hS : Sat w0 (cxQ L0 h most cs free * F) w) : ∃ p ps L, (∀ y ∈ L0, y ∈ L) ∧ PM L ps cs ∧ Sat w0 (cxB h p most * (tblP p ps free * (plB L * F))) w := by
  obtain ⟨⟨p, ps, L⟩, hS⟩ := hS.exE
  obtain ⟨hp, hS⟩ := hS.givenE
  exact ⟨p, ps, L, hp.1, hp.2, hS.cast (by ac_rfl)⟩
theorem cx_shut (hl : ∀ y ∈ L0, y ∈ L) (hp : PM L ps cs) (hS : Sat w0 (cxB h p most * (tblP p ps free * (plB L * F))) w) : Sat w0 (cxQ L0 h most cs free * F) w :=
  Sat.exI (p, ps, L) (Sat.givenI ⟨hl, hp⟩ (hS.cast (by ac_rfl)))
end
end Go.Proofs.YtdbppfcilaajaaaGreat.Cn

namespace Go.Proofs.YtdbppfcilaajaaaGreat.Cn
open Go.RowKit Ac Fi
set_option linter.unusedVariables false

section
variable {cs : List CP} {i g j t : Int} {n T : Nat} {most times : Int} {free : List Nat}
theorem Inv.bind (h : Inv n most T cs free times) (d : Int) (hd : -1 ≤ d ∧ d ≤ 1) : Inv n most (T + 1) (bindL cs i g d) free times := by
  unfold bindL
  split
  · rename_i he
    refine h.setc fun h0 => ?_
    have hl := h.liveC h0
    unfold bindE at he
    rw [if_neg (by omega)] at he
    have hn := hl.n
    split at he
    · cases he
    · exact { hl with n := ⟨by dsimp only; omega, by dsimp only; omega⟩ }
  · exact h.mono (Nat.le_succ T)
theorem chgB_iff {now : Int} : chgB most cs i g now = true ↔ eC cs i g = 0 ∧ ChOk (gC cs i g).l now (gC cs i g).p most := by
  unfold chgB
  split
  · exact ⟨fun _ => by assumption, fun _ => rfl⟩
  · exact ⟨fun h => (by cases h), fun h => absurd h (by assumption)⟩
theorem Inv.chg (h : Inv n most T cs free times) (now : Int) (hn : 0 ≤ now) : Inv n most (T + 1) (chgL most cs i g now) free times := by
  unfold chgL
  split
  · rename_i hb
    obtain ⟨_, hc⟩ := chgB_iff.1 hb
    refine h.setc fun h0 => ?_
    have hl := h.liveC h0
    obtain ⟨b1, b2, b3, b4⟩ := charge_law hc hl.ok hn (by have := hl.p; omega)
    have hm := hl.mono (Nat.le_succ T)
    exact { hm with may := b1, ok := b2, tot := b3.trans hl.tot, len := b4 }
  · exact h.mono (Nat.le_succ T)
theorem mk_last {b p now : Int} (h : mkE free b p now = 0) : MkOk b p now ∧ free = free.dropLast ++ [mkK free] := by
  unfold mkE at h
  split at h
  · rename_i hm
    split at h
    · cases h
    · rename_i hf
      refine ⟨hm, ?_⟩
      unfold mkK
      rw [List.getLast?_eq_some_getLast hf, Option.getD_some]
      exact (List.dropLast_concat_getLast hf).symm
  · cases h
theorem Inv.mkAt (h : Inv n most T cs free times) {b p now : Int} (he : mkE free b p now = 0) : ∃ c, cs[mkK free]? = some c ∧ c.there = false ∧ genK cs (mkK free) = c.gen := by
  obtain ⟨_, hf⟩ := mk_last he
  have : mkK free ∈ free := by
    rw [hf]
    simp [mkK]
  obtain ⟨c, hc, ht⟩ := (h.mem _).1 this
  exact ⟨c, hc, ht, by unfold genK; rw [hc]⟩
theorem Live.one {b p now : Int} (hm : MkOk b p now) (hn : 0 ≤ now) (h2 : 2 ≤ most) (T : Nat) : Live most T ⟨b, p, [⟨b, now⟩], 0⟩ := by
  unfold MkOk at hm
  refine ⟨⟨hm.1, hm.2.1⟩, ⟨hm.2.2.1, hm.2.2.2.1⟩, may1 b now hm.1 (by omega), ok1 b now ⟨by omega, by omega⟩ ⟨by omega, by omega⟩, by simp [Fi.tot], by simp; omega, ⟨by simp, by simp⟩⟩
theorem Inv.mk_ (h : Inv n most T cs free times) (b p now : Int) (hn : 0 ≤ now) : Inv n most (T + 1) (mkL cs free b p now) (mkF free b p now) times := by
  unfold mkL mkF
  split
  · rename_i he
    obtain ⟨c, hc, ht, _⟩ := h.mkAt he
    obtain ⟨hm, hf⟩ := mk_last he
    rw [hc]
    dsimp only
    have h' : Inv n most T cs (free.dropLast ++ [mkK free]) times := by rw [← hf]; exact h
    exact h'.come hc (Live.one hm hn h.mst.1 _)
  · exact h.mono (Nat.le_succ T)
end
end Go.Proofs.YtdbppfcilaajaaaGreat.Cn

namespace Go.Proofs.YtdbppfcilaajaaaGreat.Ac
open Go.RowKit
open Fi (vi vu)
set_option linter.unusedVariables false
set_option linter.unusedSimpArgs false

section
variable {w0 w : World} {p : Nat} {s : TblS} {ps : List Pl} {free : List Nat} {F : Hp}
end
end Go.Proofs.YtdbppfcilaajaaaGreat.Ac

namespace Go.Proofs.YtdbppfcilaajaaaGreat.Cn
open Go.RowKit Ac Fi
set_option linter.unusedVariables false
set_option linter.unusedSimpArgs false

section
variable {w0 w : World} {F : Hp} {h p : Nat} {most : Int} {ps : List Pl} {free : List Nat}
set_option maxRecDepth 100000 in
set_option maxHeartbeats 2000000 in
theorem bind_no (hS : Sat w0 (cxB h p most * (tblP p ps free * (F))) w) (i g : Int) (he : getE ps i g = 11) :
    Calls Tryz.prog 111 #[vp h, vr i g] w fun e w' => e = .returned (vi 11) ∧ Sat w0 (cxB h p most * (tblP p ps free * (F))) w' := by
  have hB0 : Sat w0 (pc w.heap.size 30 [vi i, vu g] * (cxB h p most * (tblP p ps free * (F)))) (w.alloc (.cells #[vi i, vu g] 30)) := hS.alloc (.cells #[vi i, vu g] 30)
  have b0 := hB0.cell 0 rfl
  have b1 := hB0.cell 1 rfl
  have hB : Sat w0 (cxB h p most * (tblP p ps free * (pc w.heap.size 30 [vi i, vu g] * (F)))) (w.alloc (.cells #[vi i, vu g] 30)) := hB0.cast (by ac_rfl)
  have HG := Lib.hid (cx_find hB i g)
  rw [he] at HG
  clear hB hB0
  clear hS he
  generalize getX ps i g = x at *
  obtain ⟨v0, v1, a2, n2, c2, v3⟩ := x
  go_enter Tryz.func111, Tryz.ntmps111
  go_wp2_with (go_at_call 142; refine HG.out.mono ?_; rintro e w1 ⟨rfl, hS1⟩; have HS1 := Lib.hid hS1; have hA : Sat w0 (pc w1.heap.size 180 (elC ⟨v0, v1, a2, n2, c2, v3⟩) * _) (w1.alloc (elO ⟨v0, v1, a2, n2, c2, v3⟩)) := hS1.alloc (elO ⟨v0, v1, a2, n2, c2, v3⟩); have H1 := Lib.hid hA; have hx0 := hA.cell 0 rfl; have hx1 := hA.cell 1 rfl; have hx2 := hA.cell 2 rfl; have hx3 := hA.cell 3 rfl; clear hA hS1)
  go_ret
  exact ⟨rfl, ((H1.out).cast (show _ = pc w1.heap.size 180 (elC ⟨v0, v1, a2, n2, c2, v3⟩) * (pc w.heap.size 30 [vi i, vu g] * (cxB h p most * (tblP p ps free * (F)))) by ac_rfl)).dropL.dropL⟩
set_option maxRecDepth 100000 in
set_option maxHeartbeats 2000000 in
theorem bind_yes (hS : Sat w0 (cxB h p most * (tblP p ps free * (F))) w) (i g : Int) (he : getE ps i g = 0) (hw : 0 ≤ (getX ps i g).v3 ∧ (getX ps i g).v3 ≤ 1000000) :
    Calls Tryz.prog 111 #[vp h, vr i g] w fun e w' => e = .returned (vi 0) ∧ Sat w0 (cxB h p most * (tblP p (setP ps i g { getX ps i g with v3 := (getX ps i g).v3 + 1 }) free * (F))) w' := by
  have hB0 : Sat w0 (pc w.heap.size 30 [vi i, vu g] * (cxB h p most * (tblP p ps free * (F)))) (w.alloc (.cells #[vi i, vu g] 30)) := hS.alloc (.cells #[vi i, vu g] 30)
  have b0 := hB0.cell 0 rfl
  have b1 := hB0.cell 1 rfl
  have hB : Sat w0 (cxB h p most * (tblP p ps free * (pc w.heap.size 30 [vi i, vu g] * (F)))) (w.alloc (.cells #[vi i, vu g] 30)) := hB0.cast (by ac_rfl)
  have HG := Lib.hid (cx_find hB i g)
  rw [he] at HG
  clear hB hB0
  have HSET := Lib.hid (fun (w' : World) (G : Hp) (h' : Sat w0 (tblP p ps free * G) w') (x : El) => set_ h' i g x)
  rw [he] at HSET
  clear hS he
  generalize getX ps i g = x at *
  obtain ⟨v0, v1, a2, n2, c2, v3⟩ := x
  have hwr : IntKind.i64.wrap (v3 + 1) = v3 + 1 := IntWalk.i64_in _ (by simp only at hw; omega)
  clear hw
  go_enter Tryz.func111, Tryz.ntmps111
  go_wp2_with (go_at_call 142; refine HG.out.mono ?_; rintro e w1 ⟨rfl, hS1⟩; have HS1 := Lib.hid hS1; have hA : Sat w0 (pc w1.heap.size 180 (elC ⟨v0, v1, a2, n2, c2, v3⟩) * _) (w1.alloc (elO ⟨v0, v1, a2, n2, c2, v3⟩)) := hS1.alloc (elO ⟨v0, v1, a2, n2, c2, v3⟩); have H1 := Lib.hid hA; have hx0 := hA.cell 0 rfl; have hx1 := hA.cell 1 rfl; have hx2 := hA.cell 2 rfl; have hx3 := hA.cell 3 rfl; clear hA hS1)
  have hA2 : Sat w0 (pc w1.heap.size 180 (elC ⟨v0, v1, a2, n2, c2, v3 + 1⟩) * (cxB h p most * (tblP p ps free * (pc w.heap.size 30 [vi i, vu g] * (F))))) (w1.alloc (elO ⟨v0, v1, a2, n2, c2, v3 + 1⟩)) := HS1.out.alloc _
  have HA2 := Lib.hid hA2
  clear hA2
  have d0 := (HA2.out).pull2.cell 0 rfl; have d1 := (HA2.out).pull4.cell 0 rfl; have d2 := (HA2.out).pull4.cell 1 rfl; have d3 := (HA2.out).cell 0 rfl; have d4 := (HA2.out).cell 1 rfl; have d5 := (HA2.out).cell 2 rfl; have d6 := (HA2.out).cell 3 rfl
  go_region_held3 (fun w' => w'.cell? ⟨h, 0, none⟩ = some (vp p) ∧ w'.cell? ⟨w.heap.size, 0, none⟩ = some (vi i) ∧ w'.cell? ⟨w.heap.size, 1, none⟩ = some (vu g) ∧ w'.cell? ⟨w1.heap.size, 0, none⟩ = some (vu v0) ∧ w'.cell? ⟨w1.heap.size, 1, none⟩ = some (vu v1) ∧ w'.cell? ⟨w1.heap.size, 2, none⟩ = some (.slice a2 n2 c2) ∧ w'.cell? ⟨w1.heap.size, 3, none⟩ = some (vi (v3 + 1)))
    (first | exact ⟨d0, d1, d2, d3, d4, d5, d6⟩ | exact ⟨e0, e1, e2, e3, e4, e5, e6⟩ | go_keep)
    ((go_at_call 144; refine (HSET.out _ _ ((HA2.out.drew).cast (show _ = tblP p ps free * (cxB h p most * (pc w1.heap.size 180 (elC ⟨v0, v1, a2, n2, c2, v3 + 1⟩) * (pc w.heap.size 30 [vi i, vu g] * (F)))) by ac_rfl)) ⟨v0, v1, a2, n2, c2, v3 + 1⟩).mono ?_; rintro e w3 ⟨rfl, hS3⟩; have H3 := Lib.hid ((hS3).cast (show _ = pc w1.heap.size 180 (elC ⟨v0, v1, a2, n2, c2, v3 + 1⟩) * (cxB h p most * (tblP p (setP ps i g ⟨v0, v1, a2, n2, c2, v3 + 1⟩) free * (pc w.heap.size 30 [vi i, vu g] * (F)))) by ac_rfl)); clear hS3; have e0 := (H3.out).pull2.cell 0 rfl; have e1 := (H3.out).pull4.cell 0 rfl; have e2 := (H3.out).pull4.cell 1 rfl; have e3 := (H3.out).cell 0 rfl; have e4 := (H3.out).cell 1 rfl; have e5 := (H3.out).cell 2 rfl; have e6 := (H3.out).cell 3 rfl))
  go_wp2
  go_ret
  exact ⟨rfl, ((H3.out).cast (show _ = pc w1.heap.size 180 (elC ⟨v0, v1, a2, n2, c2, v3 + 1⟩) * (pc w.heap.size 30 [vi i, vu g] * (cxB h p most * (tblP p (setP ps i g ⟨v0, v1, a2, n2, c2, v3 + 1⟩) free * (F)))) by ac_rfl)).dropL.dropL⟩
end
end Go.Proofs.YtdbppfcilaajaaaGreat.Cn

namespace Go.Proofs.YtdbppfcilaajaaaGreat.Cn
open Go.RowKit Ac Fi
set_option linter.unusedVariables false
set_option linter.unusedSimpArgs false

section
variable {w0 w : World} {F : Hp} {h p : Nat} {most : Int} {ps : List Pl} {free : List Nat} {L : Blks} {l : List Rf}
set_option maxRecDepth 100000 in
set_option maxHeartbeats 2000000 in
theorem can_no (hS : Sat w0 (cxB h p most * (tblP p ps free * (plB L * (F)))) w) (i g : Int) (now : Int) (he : getE ps i g = 11) :
    Calls Tryz.prog 140 #[vp h, vr i g, vu now] w fun e w' => e = .returned (.bool false) ∧ Sat w0 (cxB h p most * (tblP p ps free * (plB L * (F)))) w' := by
  have hB0 : Sat w0 (pc w.heap.size 30 [vi i, vu g] * (cxB h p most * (tblP p ps free * (plB L * (F))))) (w.alloc (.cells #[vi i, vu g] 30)) := hS.alloc (.cells #[vi i, vu g] 30)
  have b0 := hB0.cell 0 rfl
  have b1 := hB0.cell 1 rfl
  have hB : Sat w0 (cxB h p most * (tblP p ps free * (pc w.heap.size 30 [vi i, vu g] * (plB L * (F))))) (w.alloc (.cells #[vi i, vu g] 30)) := hB0.cast (by ac_rfl)
  have HG := Lib.hid (cx_find hB i g)
  rw [he] at HG
  clear hB hB0
  clear hS he
  generalize getX ps i g = x at *
  obtain ⟨v0, v1, a2, n2, c2, v3⟩ := x
  go_enter Tryz.func140, Tryz.ntmps140
  go_wp2_with (go_at_call 142; refine HG.out.mono ?_; rintro e w1 ⟨rfl, hS1⟩; have HS1 := Lib.hid hS1; have hA : Sat w0 (pc w1.heap.size 180 (elC ⟨v0, v1, a2, n2, c2, v3⟩) * _) (w1.alloc (elO ⟨v0, v1, a2, n2, c2, v3⟩)) := hS1.alloc (elO ⟨v0, v1, a2, n2, c2, v3⟩); have H1 := Lib.hid hA; have hx0 := hA.cell 0 rfl; have hx1 := hA.cell 1 rfl; have hx2 := hA.cell 2 rfl; have hx3 := hA.cell 3 rfl; clear hA hS1)
  go_ret
  exact ⟨rfl, ((H1.out).cast (show _ = pc w1.heap.size 180 (elC ⟨v0, v1, a2, n2, c2, v3⟩) * (pc w.heap.size 30 [vi i, vu g] * (cxB h p most * (tblP p ps free * (plB L * (F))))) by ac_rfl)).dropL.dropL⟩
set_option maxRecDepth 100000 in
set_option maxHeartbeats 2000000 in
theorem can_yes (hS : Sat w0 (cxB h p most * (tblP p ps free * (plB L * (F)))) w) (i g : Int) (now : Int) (he : getE ps i g = 0) (hi : InP L (.slice (getX ps i g).a2 (getX ps i g).n2 (getX ps i g).c2) l) (hl : l.length ≤ 1000) :
    Calls Tryz.prog 140 #[vp h, vr i g, vu now] w fun e w' => e = .returned (.bool (decide (0 < thereV l now))) ∧ Sat w0 (cxB h p most * (tblP p ps free * (plB L * (F)))) w' := by
  have hB0 : Sat w0 (pc w.heap.size 30 [vi i, vu g] * (cxB h p most * (tblP p ps free * (plB L * (F))))) (w.alloc (.cells #[vi i, vu g] 30)) := hS.alloc (.cells #[vi i, vu g] 30)
  have b0 := hB0.cell 0 rfl
  have b1 := hB0.cell 1 rfl
  have hB : Sat w0 (cxB h p most * (tblP p ps free * (pc w.heap.size 30 [vi i, vu g] * (plB L * (F))))) (w.alloc (.cells #[vi i, vu g] 30)) := hB0.cast (by ac_rfl)
  have HG := Lib.hid (cx_find hB i g)
  rw [he] at HG
  clear hB hB0
  have HI := Lib.hid hi
  clear hS he hi
  generalize getX ps i g = x at *
  obtain ⟨v0, v1, a2, n2, c2, v3⟩ := x
  go_enter Tryz.func140, Tryz.ntmps140
  go_wp2_with (first
    | (go_at_call 142; refine HG.out.mono ?_; rintro e w1 ⟨rfl, hS1⟩; have HS1 := Lib.hid hS1; have hA : Sat w0 (pc w1.heap.size 180 (elC ⟨v0, v1, a2, n2, c2, v3⟩) * _) (w1.alloc (elO ⟨v0, v1, a2, n2, c2, v3⟩)) := hS1.alloc (elO ⟨v0, v1, a2, n2, c2, v3⟩); have H1 := Lib.hid hA; have hx0 := hA.cell 0 rfl; have hx1 := hA.cell 1 rfl; have hx2 := hA.cell 2 rfl; have hx3 := hA.cell 3 rfl; clear hA hS1)
    | (go_at_call 188; refine (there_ l now _ _ (Sat.plRd ((H1.out).cast (show _ = plB L * (pc w1.heap.size 180 (elC ⟨v0, v1, a2, n2, c2, v3⟩) * (pc w.heap.size 30 [vi i, vu g] * (cxB h p most * (tblP p ps free * (F))))) by ac_rfl)) HI.out) (by omega)).mono ?_; rintro e w2 ⟨rfl, hb⟩; have H2 := Lib.hid (Sat.after H1.out hb); clear hb))
  go_ret
  exact ⟨by simp, ((H2.out).cast (show _ = pc w1.heap.size 180 (elC ⟨v0, v1, a2, n2, c2, v3⟩) * (pc w.heap.size 30 [vi i, vu g] * (cxB h p most * (tblP p ps free * (plB L * (F))))) by ac_rfl)).dropL.dropL⟩
set_option maxRecDepth 100000 in
set_option maxHeartbeats 2000000 in
theorem charge_stale (hS : Sat w0 (cxB h p most * (tblP p ps free * (plB L * (F)))) w) (i g : Int) (now : Int) (he : getE ps i g = 11) :
    Calls Tryz.prog 79 #[vp h, vr i g, vu now] w fun e w' => e = .returned (.bool false) ∧ Sat w0 (cxB h p most * (tblP p ps free * (plB L * (F)))) w' := by
  have hB0 : Sat w0 (pc w.heap.size 30 [vi i, vu g] * (cxB h p most * (tblP p ps free * (plB L * (F))))) (w.alloc (.cells #[vi i, vu g] 30)) := hS.alloc (.cells #[vi i, vu g] 30)
  have b0 := hB0.cell 0 rfl
  have b1 := hB0.cell 1 rfl
  have hB : Sat w0 (cxB h p most * (tblP p ps free * (pc w.heap.size 30 [vi i, vu g] * (plB L * (F))))) (w.alloc (.cells #[vi i, vu g] 30)) := hB0.cast (by ac_rfl)
  have HG := Lib.hid (cx_find hB i g)
  rw [he] at HG
  clear hB hB0
  clear hS he
  generalize getX ps i g = x at *
  obtain ⟨v0, v1, a2, n2, c2, v3⟩ := x
  go_enter Tryz.func79, Tryz.ntmps79
  go_wp2_with (go_at_call 142; refine HG.out.mono ?_; rintro e w1 ⟨rfl, hS1⟩; have HS1 := Lib.hid hS1; have hA : Sat w0 (pc w1.heap.size 180 (elC ⟨v0, v1, a2, n2, c2, v3⟩) * _) (w1.alloc (elO ⟨v0, v1, a2, n2, c2, v3⟩)) := hS1.alloc (elO ⟨v0, v1, a2, n2, c2, v3⟩); have H1 := Lib.hid hA; have hx0 := hA.cell 0 rfl; have hx1 := hA.cell 1 rfl; have hx2 := hA.cell 2 rfl; have hx3 := hA.cell 3 rfl; clear hA hS1)
  go_ret
  exact ⟨rfl, ((H1.out).cast (show _ = pc w1.heap.size 180 (elC ⟨v0, v1, a2, n2, c2, v3⟩) * (pc w.heap.size 30 [vi i, vu g] * (cxB h p most * (tblP p ps free * (plB L * (F))))) by ac_rfl)).dropL.dropL⟩
set_option maxRecDepth 100000 in
set_option maxHeartbeats 2000000 in
theorem charge_not (hS : Sat w0 (cxB h p most * (tblP p ps free * (plB L * (F)))) w) (i g : Int) (now : Int) (he : getE ps i g = 0) (hi : InP L (.slice (getX ps i g).a2 (getX ps i g).n2 (getX ps i g).c2) l) (hl : l.length ≤ 1000) (hn : U64 now) (hp : U64 (getX ps i g).v1) (hc : ¬ ChOk l now (getX ps i g).v1 most) :
    Calls Tryz.prog 79 #[vp h, vr i g, vu now] w fun e w' => e = .returned (.bool false) ∧ Sat w0 (cxB h p most * (tblP p ps free * (plB L * (F)))) w' := by
  have hB0 : Sat w0 (pc w.heap.size 30 [vi i, vu g] * (cxB h p most * (tblP p ps free * (plB L * (F))))) (w.alloc (.cells #[vi i, vu g] 30)) := hS.alloc (.cells #[vi i, vu g] 30)
  have b0 := hB0.cell 0 rfl
  have b1 := hB0.cell 1 rfl
  have hB : Sat w0 (cxB h p most * (tblP p ps free * (pc w.heap.size 30 [vi i, vu g] * (plB L * (F))))) (w.alloc (.cells #[vi i, vu g] 30)) := hB0.cast (by ac_rfl)
  have HG := Lib.hid (cx_find hB i g)
  rw [he] at HG
  clear hB hB0
  have HI := Lib.hid hi
  have HN := Lib.hid (fun v w (h : RdF w v l) => charge_no (w := w) (v := v) h (by omega) hn hp hc)
  clear hS he hi hn hp hc
  generalize getX ps i g = x at *
  obtain ⟨v0, v1, a2, n2, c2, v3⟩ := x
  go_enter Tryz.func79, Tryz.ntmps79
  go_wp2_with (go_at_call 142; refine HG.out.mono ?_; rintro e w1 ⟨rfl, hS1⟩; have HS1 := Lib.hid hS1; have hA : Sat w0 (pc w1.heap.size 180 (elC ⟨v0, v1, a2, n2, c2, v3⟩) * _) (w1.alloc (elO ⟨v0, v1, a2, n2, c2, v3⟩)) := hS1.alloc (elO ⟨v0, v1, a2, n2, c2, v3⟩); have H1 := Lib.hid hA; have hx0 := hA.cell 0 rfl; have hx1 := hA.cell 1 rfl; have hx2 := hA.cell 2 rfl; have hx3 := hA.cell 3 rfl; clear hA hS1)
  have d0 := (H1.out).pull2.cell 0 rfl; have d1 := (H1.out).pull2.cell 1 rfl; have d2 := (H1.out).pull4.cell 0 rfl; have d3 := (H1.out).pull4.cell 1 rfl; have d4 := (H1.out).cell 0 rfl; have d5 := (H1.out).cell 1 rfl; have d6 := (H1.out).cell 2 rfl; have d7 := (H1.out).cell 3 rfl
  go_region_held3 (fun w' => w'.cell? ⟨h, 0, none⟩ = some (vp p) ∧ w'.cell? ⟨h, 1, none⟩ = some (vi most) ∧ w'.cell? ⟨w.heap.size, 0, none⟩ = some (vi i) ∧ w'.cell? ⟨w.heap.size, 1, none⟩ = some (vu g) ∧ w'.cell? ⟨w1.heap.size, 0, none⟩ = some (vu v0) ∧ w'.cell? ⟨w1.heap.size, 1, none⟩ = some (vu v1) ∧ w'.cell? ⟨w1.heap.size, 2, none⟩ = some (.slice a2 n2 c2) ∧ w'.cell? ⟨w1.heap.size, 3, none⟩ = some (vi v3))
    (first | exact ⟨d0, d1, d2, d3, d4, d5, d6, d7⟩ | exact ⟨q0, q1, q2, q3, q4, q5, q6, q7⟩ | go_keep)
    ((go_at_call 143; refine (HN.out _ _ (Sat.plRd ((H1.out.drew).cast (show _ = plB L * (pc w1.heap.size 180 (elC ⟨v0, v1, a2, n2, c2, v3⟩) * (pc w.heap.size 30 [vi i, vu g] * (cxB h p most * (tblP p ps free * (F))))) by ac_rfl)) HI.out)).mono ?_; rintro e w2 ⟨rfl, hb⟩; have H2 := Lib.hid (Sat.after H1.out.drew hb); clear hb; have q0 := (H2.out).pull2.cell 0 rfl; have q1 := (H2.out).pull2.cell 1 rfl; have q2 := (H2.out).pull4.cell 0 rfl; have q3 := (H2.out).pull4.cell 1 rfl; have q4 := (H2.out).cell 0 rfl; have q5 := (H2.out).cell 1 rfl; have q6 := (H2.out).cell 2 rfl; have q7 := (H2.out).cell 3 rfl))
  go_wp2
  go_ret
  exact ⟨rfl, ((H2.out).cast (show _ = pc w1.heap.size 180 (elC ⟨v0, v1, a2, n2, c2, v3⟩) * (pc w.heap.size 30 [vi i, vu g] * (cxB h p most * (tblP p ps free * (plB L * (F))))) by ac_rfl)).dropL.dropL⟩
set_option maxRecDepth 100000 in
set_option maxHeartbeats 2000000 in
theorem charge_ok (hS : Sat w0 (cxB h p most * (tblP p ps free * (plB L * (F)))) w) (i g : Int) (now : Int) (he : getE ps i g = 0) (hi : InP L (.slice (getX ps i g).a2 (getX ps i g).n2 (getX ps i g).c2) l) (hl : l.length ≤ 1000) (hn : U64 now) (hp : U64 (getX ps i g).v1) (hc : ChOk l now (getX ps i g).v1 most) (hok : OkL (chargeL l now (getX ps i g).v1 most)) :
    Calls Tryz.prog 79 #[vp h, vr i g, vu now] w fun e w' => ∃ ao lc L2, e = .returned (.bool true) ∧ (∀ x ∈ L, x ∈ L2) ∧ InP L2 (.slice ao (chargeL l now (getX ps i g).v1 most).length lc) (chargeL l now (getX ps i g).v1 most) ∧ Sat w0 (cxB h p most * (tblP p (setP ps i g { getX ps i g with a2 := ao, n2 := (chargeL l now (getX ps i g).v1 most).length, c2 := lc }) free * (plB L2 * (F)))) w' := by
  have hB0 : Sat w0 (pc w.heap.size 30 [vi i, vu g] * (cxB h p most * (tblP p ps free * (plB L * (F))))) (w.alloc (.cells #[vi i, vu g] 30)) := hS.alloc (.cells #[vi i, vu g] 30)
  have b0 := hB0.cell 0 rfl
  have b1 := hB0.cell 1 rfl
  have hB : Sat w0 (cxB h p most * (tblP p ps free * (pc w.heap.size 30 [vi i, vu g] * (plB L * (F))))) (w.alloc (.cells #[vi i, vu g] 30)) := hB0.cast (by ac_rfl)
  have HG := Lib.hid (cx_find hB i g)
  rw [he] at HG
  clear hB hB0
  have HI := Lib.hid hi
  have HN := Lib.hid (fun v w (h : RdF w v l) (hr : Room v l.length) => charge_yes (w := w) (v := v) h hr (by omega) hn hp hc)
  have HSET := Lib.hid (fun (w' : World) (G : Hp) (h' : Sat w0 (tblP p ps free * G) w') (x : El) => set_ h' i g x)
  rw [he] at HSET
  clear hS he hi hn hp hc
  generalize chargeL l now (getX ps i g).v1 most = ln at *
  have HOK := Lib.hid hok
  clear hok
  generalize getX ps i g = x at *
  obtain ⟨v0, v1, a2, n2, c2, v3⟩ := x
  go_enter Tryz.func79, Tryz.ntmps79
  go_wp2_with (go_at_call 142; refine HG.out.mono ?_; rintro e w1 ⟨rfl, hS1⟩; have HS1 := Lib.hid hS1; have hA : Sat w0 (pc w1.heap.size 180 (elC ⟨v0, v1, a2, n2, c2, v3⟩) * _) (w1.alloc (elO ⟨v0, v1, a2, n2, c2, v3⟩)) := hS1.alloc (elO ⟨v0, v1, a2, n2, c2, v3⟩); have H1 := Lib.hid hA; have hx0 := hA.cell 0 rfl; have hx1 := hA.cell 1 rfl; have hx2 := hA.cell 2 rfl; have hx3 := hA.cell 3 rfl; clear hA hS1)
  have d0 := (H1.out).pull2.cell 0 rfl; have d1 := (H1.out).pull2.cell 1 rfl; have d2 := (H1.out).pull4.cell 0 rfl; have d3 := (H1.out).pull4.cell 1 rfl; have d4 := (H1.out).cell 0 rfl; have d5 := (H1.out).cell 1 rfl; have d6 := (H1.out).cell 2 rfl; have d7 := (H1.out).cell 3 rfl
  go_region_held3 (fun w' => w'.cell? ⟨h, 0, none⟩ = some (vp p) ∧ w'.cell? ⟨h, 1, none⟩ = some (vi most) ∧ w'.cell? ⟨w.heap.size, 0, none⟩ = some (vi i) ∧ w'.cell? ⟨w.heap.size, 1, none⟩ = some (vu g) ∧ w'.cell? ⟨w1.heap.size, 0, none⟩ = some (vu v0) ∧ w'.cell? ⟨w1.heap.size, 1, none⟩ = some (vu v1) ∧ w'.cell? ⟨w1.heap.size, 2, none⟩ = some (.slice a2 n2 c2) ∧ w'.cell? ⟨w1.heap.size, 3, none⟩ = some (vi v3))
    (first | exact ⟨d0, d1, d2, d3, d4, d5, d6, d7⟩ | exact ⟨q0, q1, q2, q3, q4, q5, q6, q7⟩ | go_keep)
    ((go_at_call 143; refine (HN.out _ _ (Sat.plRd ((H1.out.drew).cast (show _ = plB L * (pc w1.heap.size 180 (elC ⟨v0, v1, a2, n2, c2, v3⟩) * (pc w.heap.size 30 [vi i, vu g] * (cxB h p most * (tblP p ps free * (F))))) by ac_rfl)) HI.out) (InP.room HI.out)).mono ?_; rintro e w2 ⟨vn, rfl, hS2⟩; have h2 := (Sat.link H1.out.drew hS2).cast (show _ = fiS vn ln * (plB L * (pc w1.heap.size 180 (elC ⟨v0, v1, a2, n2, c2, v3⟩) * (cxB h p most * (tblP p ps free * (pc w.heap.size 30 [vi i, vu g] * (F)))))) by ac_rfl); obtain ⟨L2, hsub, hin, h3⟩ := h2.plIn HOK.out; obtain ⟨ao, lc, rfl⟩ := hin.form; have HSUB := Lib.hid hsub; have HIN := Lib.hid hin; have H2 := Lib.hid ((h3).cast (show _ = pc w1.heap.size 180 (elC ⟨v0, v1, a2, n2, c2, v3⟩) * (cxB h p most * (tblP p ps free * (pc w.heap.size 30 [vi i, vu g] * (plB L2 * (F))))) by ac_rfl)); have fz2 := H2.out.free 2; clear hS2 h2 h3 hsub hin; have q0 := (H2.out).pull2.cell 0 rfl; have q1 := (H2.out).pull2.cell 1 rfl; have q2 := (H2.out).pull4.cell 0 rfl; have q3 := (H2.out).pull4.cell 1 rfl; have q4 := (H2.out).cell 0 rfl; have q5 := (H2.out).cell 1 rfl; have q6 := (H2.out).cell 2 rfl; have q7 := (H2.out).cell 3 rfl))
  go_wp2
  have hA3 : Sat w0 (pc w1.heap.size 180 (elC ⟨v0, v1, ao, ln.length, lc, v3⟩) * (cxB h p most * (tblP p ps free * (pc w.heap.size 30 [vi i, vu g] * (plB L2 * (F)))))) (w2.setCell ⟨w1.heap.size, 2, none⟩ (.slice ao ln.length lc)) := H2.out.store 2 _
  have HA3 := Lib.hid hA3
  clear hA3
  have r0 := (HA3.out).pull2.cell 0 rfl; have r1 := (HA3.out).pull2.cell 1 rfl; have r2 := (HA3.out).pull4.cell 0 rfl; have r3 := (HA3.out).pull4.cell 1 rfl; have r4 := (HA3.out).cell 0 rfl; have r5 := (HA3.out).cell 1 rfl; have r6 := (HA3.out).cell 2 rfl; have r7 := (HA3.out).cell 3 rfl
  go_region_held3 (fun w' => w'.cell? ⟨h, 0, none⟩ = some (vp p) ∧ w'.cell? ⟨h, 1, none⟩ = some (vi most) ∧ w'.cell? ⟨w.heap.size, 0, none⟩ = some (vi i) ∧ w'.cell? ⟨w.heap.size, 1, none⟩ = some (vu g) ∧ w'.cell? ⟨w1.heap.size, 0, none⟩ = some (vu v0) ∧ w'.cell? ⟨w1.heap.size, 1, none⟩ = some (vu v1) ∧ w'.cell? ⟨w1.heap.size, 2, none⟩ = some (.slice ao ln.length lc) ∧ w'.cell? ⟨w1.heap.size, 3, none⟩ = some (vi v3))
    (first | exact ⟨r0, r1, r2, r3, r4, r5, r6, r7⟩ | exact ⟨s0, s1, s2, s3, s4, s5, s6, s7⟩ | go_keep)
    ((go_at_call 144; refine (HSET.out _ _ ((HA3.out.drew).cast (show _ = tblP p ps free * (cxB h p most * (pc w1.heap.size 180 (elC ⟨v0, v1, ao, ln.length, lc, v3⟩) * (pc w.heap.size 30 [vi i, vu g] * (plB L2 * (F))))) by ac_rfl)) ⟨v0, v1, ao, ln.length, lc, v3⟩).mono ?_; rintro e w3 ⟨rfl, hS3⟩; have H4 := Lib.hid ((hS3).cast (show _ = pc w1.heap.size 180 (elC ⟨v0, v1, ao, ln.length, lc, v3⟩) * (cxB h p most * (tblP p (setP ps i g ⟨v0, v1, ao, ln.length, lc, v3⟩) free * (pc w.heap.size 30 [vi i, vu g] * (plB L2 * (F))))) by ac_rfl)); clear hS3; have s0 := (H4.out).pull2.cell 0 rfl; have s1 := (H4.out).pull2.cell 1 rfl; have s2 := (H4.out).pull4.cell 0 rfl; have s3 := (H4.out).pull4.cell 1 rfl; have s4 := (H4.out).cell 0 rfl; have s5 := (H4.out).cell 1 rfl; have s6 := (H4.out).cell 2 rfl; have s7 := (H4.out).cell 3 rfl))
  go_wp2
  go_ret
  exact ⟨ao, lc, L2, rfl, HSUB.out, HIN.out, ((H4.out).cast (show _ = pc w1.heap.size 180 (elC ⟨v0, v1, ao, ln.length, lc, v3⟩) * (pc w.heap.size 30 [vi i, vu g] * (cxB h p most * (tblP p (setP ps i g ⟨v0, v1, ao, ln.length, lc, v3⟩) free * (plB L2 * (F))))) by ac_rfl)).dropL.dropL⟩
end
end Go.Proofs.YtdbppfcilaajaaaGreat.Cn
