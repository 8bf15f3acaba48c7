/-
  Contracts of package arena at T = int: none, Size, Free, find. No statement is proved here.
-/
import Derived.Test.YtjealmaddjepnaaProg
import Derived.Test.YtjealmaddjepnaaFlat
namespace Go.Proofs.Ytjealmaddjepnaa.Ar
open Go.RowKit
set_option linter.unusedVariables false

abbrev vi (x : Int) : Value := .int .i64 x
abbrev vu (x : Int) : Value := .int .u64 x
abbrev vp (p : Nat) : Value := .pointer (some ⟨p, 0, none⟩)
abbrev vr (i g : Int) : Value := .agg #[vi i, vu g]
abbrev El := Int
abbrev ev (x : El) : Value := .int .i64 x
abbrev ez : El := 0

structure Pl where
  gen : Int
  there : Bool
  retired : Bool
  x : El
def Pl.cells (p : Pl) : List Value := [vu p.gen, .bool p.there, .bool p.retired, ev p.x]
theorem Pl.len (p : Pl) : p.cells.length = 4 := rfl
theorem Pl.one (p : Pl) : ∀ u ∈ p.cells, u.oneCell' = true := by
  intro u hu
  simp [Pl.cells] at hu
  rcases hu with rfl | rfl | rfl | rfl <;> rfl
abbrev flat (ps : List Pl) : List Value := ps.flatMap Pl.cells

theorem Einti : SlT Try.prog 63 3 1 8 (.int .i64 0) := SlT.mk' Try.underlying63 (by kernel_rfl) rfl (by decide)
theorem Epl : SlT Try.prog 62 67 4 24 (.agg #[vu 0, .bool false, .bool false, ev ez]) := SlT.mk' Try.underlying62 (by kernel_rfl) rfl (by decide)

structure TblS where
  a : Nat
  cap : Nat
  fo : Option Addr
  fcap : Nat

abbrev TblS.lv (s : TblS) (n : Nat) : Value := .slice (some ⟨s.a, 0, none⟩) n s.cap
abbrev TblS.fv (s : TblS) (m : Nat) : Value := .slice s.fo m s.fcap
def Pl.busy (a : Pl) : Bool := a.there || a.retired
structure TblOk (ps : List Pl) (free : List Nat) : Prop where
  pos : 0 < ps.length
  small : ps.length ≤ 4096
  gens : ∀ (k : Nat) (a : Pl), ps[k]? = some a → 1 ≤ a.gen ∧ a.gen ≤ 18446744073709551614
  excl : ∀ (k : Nat) (a : Pl), ps[k]? = some a → a.there = true → a.retired = false
  mem : ∀ k : Nat, k ∈ free ↔ ∃ a : Pl, ps[k]? = some a ∧ a.there = false ∧ a.retired = false
  nodup : free.Nodup
  cnt : free.length + ps.countP Pl.busy = ps.length
theorem TblOk.fsmall {ps : List Pl} {free : List Nat} (h : TblOk ps free) : free.length ≤ 4096 := by
  have := h.cnt
  have := h.small
  omega
abbrev tblB (p : Nat) (s : TblS) (n m : Nat) : Hp := pc p 65 [s.lv n, s.fv m]
abbrev tblL (s : TblS) (ps : List Pl) : Hp := sl 67 4 (s.lv ps.length) ps.length (flat ps)
abbrev tblF (s : TblS) (free : List Nat) : Hp := sl 3 1 (s.fv free.length) free.length (free.map fun k : Nat => vi k)
def tblP (p : Nat) (ps : List Pl) (free : List Nat) : Hp := ex fun s : TblS => given (TblOk ps free) (tblB p s ps.length free.length * (tblL s ps * tblF s free))

structure TblIs (w0 : World) (p : Nat) (s : TblS) (ps : List Pl) (free : List Nat) (F : Hp) (w : World) : Prop where
  ok : TblOk ps free
  sat : Sat w0 (tblB p s ps.length free.length * (tblL s ps * (tblF s free * F))) w

section
variable {w0 w : World} {p : Nat} {s : TblS} {ps : List Pl} {free : List Nat} {F : Hp}
theorem open_ (h : Sat w0 (tblP p ps free * F) w) : ∃ s, TblIs w0 p s ps free F w := by
  obtain ⟨s, h⟩ := h.exE
  obtain ⟨ok, h⟩ := h.givenE
  exact ⟨s, ok, h.cast (by rw [sep_assoc, sep_assoc])⟩
theorem TblIs.shut (h : TblIs w0 p s ps free F w) : Sat w0 (tblP p ps free * F) w :=
  Sat.exI s (Sat.givenI h.ok (h.sat.cast (by rw [sep_assoc, sep_assoc])))
theorem TblIs.c0 (h : TblIs w0 p s ps free F w) : w.cell? ⟨p, 0, none⟩ = some (.slice (some ⟨s.a, 0, none⟩) ps.length s.cap) := h.sat.cell 0 rfl
theorem TblIs.c1 (h : TblIs w0 p s ps free F w) : w.cell? ⟨p, 1, none⟩ = some (.slice s.fo free.length s.fcap) := h.sat.cell 1 rfl
theorem TblIs.free_ (h : TblIs w0 p s ps free F w) (i : Nat) : w.frozen? ⟨p, i, none⟩ = false := h.sat.free i
theorem TblIs.lfree (h : TblIs w0 p s ps free F w) (i : Nat) : w.frozen? ⟨s.a, i, none⟩ = false := h.sat.pull2.slFree i
theorem TblIs.at_ (h : TblIs w0 p s ps free F w) {i j : Nat} {a : Pl} {v : Value} (hi : ps[i]? = some a) (hv : a.cells[j]? = some v) : w.cell? ⟨s.a, i * 4 + j, none⟩ = some v :=
  h.sat.pull2.slCell _ (flat_get Pl.len hi hv)
theorem TblIs.drewN (h : TblIs w0 p s ps free F w) (k : Nat) : TblIs w0 p s ps free F (w.drewN k) := ⟨h.ok, h.sat.drewN k⟩

theorem none_ (h : TblIs w0 p s ps free F w) : Calls Try.prog 29 #[vp p] w fun e w' => e = .returned (.bool false) ∧ w = w' := by
  have hpos := h.ok.pos
  have hsm := h.ok.small
  have h0 : ((ps.length : Int) == 0) = false := beq_eq_false_iff_ne.2 (by omega)
  have c0 := h.c0
  clear h
  go_enter Try.func29, Try.ntmps29
  go_wp2
  go_ret
  exact ⟨rfl, rfl⟩
theorem size_ (h : TblIs w0 p s ps free F w) : Calls Try.prog 34 #[vp p] w fun e w' => e = .returned (vi ps.length) ∧ w = w' := by
  have H := Lib.hid (none_ h)
  have c0 := h.c0
  clear h
  go_enter Try.func34, Try.ntmps34
  go_wp2_with (go_at_call 29; refine H.out.mono ?_; rintro e w' ⟨rfl, rfl⟩)
  go_ret
  exact ⟨rfl, rfl⟩
theorem frees (h : TblIs w0 p s ps free F w) : Calls Try.prog 35 #[vp p] w fun e w' => e = .returned (vi free.length) ∧ w = w' := by
  have H := Lib.hid (none_ h)
  have c1 := h.c1
  clear h
  go_enter Try.func35, Try.ntmps35
  go_wp2_with (go_at_call 29; refine H.out.mono ?_; rintro e w' ⟨rfl, rfl⟩)
  go_ret
  exact ⟨rfl, rfl⟩

/-- The place that a ref names. -/
def isAt (ps : List Pl) (i g : Int) : Option (Nat × Pl) :=
  if i < 0 then none else match ps[i.toNat]? with
    | none => none
    | some a => if a.there && a.gen == g then some (i.toNat, a) else none
def FindPost (w0 : World) (p : Nat) (s : TblS) (ps : List Pl) (free : List Nat) (F : Hp) (i g : Int) (e : Ending) (w' : World) : Prop :=
  TblIs w0 p s ps free F w' ∧ match isAt ps i g with
    | none => e = .returned (.tuple #[.pointer none, vi 11])
    | some (k, _) => e = .returned (.tuple #[.pointer (some ⟨s.a, k * 4, none⟩), vi 0])

set_option maxRecDepth 100000 in
set_option maxHeartbeats 1000000 in
theorem find_ (h : TblIs w0 p s ps free F w) (i g : Int) :
    Calls Try.prog 32 #[vp p, vr i g] w (FindPost w0 p s ps free F i g) := by
  have hB : Sat w0 (pc w.heap.size 35 [vi i, vu g] * (tblB p s ps.length free.length * (tblL s ps * (tblF s free * F)))) (w.alloc (.cells #[vi i, vu g] 35)) := h.sat.alloc (.cells #[vi i, vu g] 35)
  have b0 := hB.cell 0 rfl
  have b1 := hB.cell 1 rfl
  have hI : TblIs w0 p s ps free F (w.alloc (.cells #[vi i, vu g] 35)) := ⟨h.ok, hB.dropL⟩
  have c0 := hI.c0
  have H := Lib.hid hI
  have hsm := h.ok.small
  have HN := Lib.hid (none_ hI)
  clear h hB hI
  generalize hwb : w.alloc (.cells #[vi i, vu g] 35) = wb at *
  have HW := Lib.hid hwb
  clear hwb
  generalize hbx : w.heap.size = bx at *
  have HBX := Lib.hid hbx
  clear hbx
  by_cases h1 : i < 0
  · have hfin : ∀ e w', e = .returned (.tuple #[.pointer none, vi 11]) → TblIs w0 p s ps free F w' → FindPost w0 p s ps free F i g e w' := fun e w' he ht => ⟨ht, by rw [isAt, if_pos h1]; exact he⟩
    have HF := Lib.hid hfin
    clear hfin
    go_enter Try.func32, Try.ntmps32
    go_wp2_with fail
    rw [HW.out, HBX.out]
    refine HN.out.mono ?_
    rintro e w' ⟨rfl, rfl⟩
    go_wp2
    go_quiet (fail)
    go_wp2
    go_ret2
    exact HF.out _ _ rfl (H.out.drewN _)
  · obtain ⟨k, rfl⟩ := Int.eq_ofNat_of_zero_le (show 0 ≤ i by omega)
    by_cases h2 : ps.length ≤ k
    · have h2' : (ps.length : Int) ≤ (k : Int) := by omega
      have hfin : ∀ e w', e = .returned (.tuple #[.pointer none, vi 11]) → TblIs w0 p s ps free F w' → FindPost w0 p s ps free F k g e w' := fun e w' he ht => ⟨ht, by rw [isAt, if_neg (by omega), Int.toNat_natCast, List.getElem?_eq_none h2]; exact he⟩
      have HF := Lib.hid hfin
      clear hfin
      go_enter Try.func32, Try.ntmps32
      go_wp2_with fail
      rw [HW.out, HBX.out]
      refine HN.out.mono ?_
      rintro e w' ⟨rfl, rfl⟩
      go_wp2
      go_quiet (fail)
      go_wp2
      go_ret2
      exact HF.out _ _ rfl (H.out.drewN _)
    · have h2' : ¬ (ps.length : Int) ≤ (k : Int) := by omega
      have h2i : (k : Int) < (ps.length : Int) := by omega
      obtain ⟨a, ha⟩ : ∃ a, ps[k]? = some a := ⟨ps[k], List.getElem?_eq_getElem (by omega)⟩
      obtain ⟨gen, there, retired, x⟩ := a
      have e0 := H.out.at_ (j := 0) ha rfl
      have e1 := H.out.at_ (j := 1) ha rfl
      rw [Nat.add_zero] at e0
      have hfin : ∀ e w', (if there && gen == g then e = .returned (.tuple #[.pointer (some ⟨s.a, k * 4, none⟩), vi 0]) else e = .returned (.tuple #[.pointer none, vi 11])) → TblIs w0 p s ps free F w' → FindPost w0 p s ps free F k g e w' := fun e w' he ht => ⟨ht, by
        rw [isAt, if_neg (by omega), Int.toNat_natCast, ha]
        by_cases hc : (there && gen == g) = true
        · simp only [hc, if_true] at he ⊢
          exact he
        · simp only [hc] at he ⊢
          exact he⟩
      have HF := Lib.hid hfin
      clear hfin ha
      cases there with
      | false =>
        go_enter Try.func32, Try.ntmps32
        go_wp2_with fail
        rw [HW.out, HBX.out]
        refine HN.out.mono ?_
        rintro e w' ⟨rfl, rfl⟩
        go_wp2
        go_quiet (fail)
        go_wp2
        go_quiet (fail)
        go_wp2
        go_quiet (fail)
        go_wp2
        go_ret2
        exact HF.out _ _ rfl (((H.out.drewN _).drewN _).drewN _)
      | true =>
        by_cases hg : gen = g
        · subst hg
          go_enter Try.func32, Try.ntmps32
          go_wp2_with fail
          rw [HW.out, HBX.out]
          refine HN.out.mono ?_
          rintro e w' ⟨rfl, rfl⟩
          go_wp2
          go_quiet (fail)
          go_wp2
          go_quiet (fail)
          go_wp2
          go_quiet (fail)
          go_wp2
          go_ret2
          exact HF.out _ _ (by simp) (((H.out.drewN _).drewN _).drewN _)
        · have hne : (gen != g) = true := by simpa using hg
          go_enter Try.func32, Try.ntmps32
          go_wp2_with fail
          rw [HW.out, HBX.out]
          refine HN.out.mono ?_
          rintro e w' ⟨rfl, rfl⟩
          go_wp2
          go_quiet (fail)
          go_wp2
          go_quiet (fail)
          go_wp2
          go_quiet (fail)
          go_wp2
          go_ret2
          exact HF.out _ _ (by simp [hg]) (((H.out.drewN _).drewN _).drewN _)
end
end Go.Proofs.Ytjealmaddjepnaa.Ar
