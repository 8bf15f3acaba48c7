/-
  The reference's contracts beside a table that it is alike. No statement is proved here.
-/
import Derived.Test.YtjealmaddjepnaaArenaLaw
namespace Go.Proofs.Ytjealmaddjepnaa.Ar
open Go.RowKit
set_option linter.unusedVariables false

section
variable {w0 w : World} {q : Nat} {ps : List Pl} {free : List Nat} {rs : List RP} {times : Int} {F : Hp}
theorem Rel.len (h : Rel ps free rs times) : ps.length = rs.length := by rw [h.eq, List.length_map]
theorem Rel.isAt (h : Rel ps free rs times) (i g : Int) : Ar.isAt ps i g = (isR rs i g).map fun kr => (kr.1, kr.2.pl) := by rw [h.eq]; exact isAt_map rs i g
theorem rget_rel (h : Sat w0 (refP q rs times * F) w) (hR : Rel ps free rs times) (hs : ps.length ≤ 4096) (i g : Int) :
    Calls Try.prog 25 #[vp q, vr i g] w fun e w' => e = .returned (.tuple #[vi (getX ps i g), vi (getE ps i g)]) ∧ Sat w0 (refP q rs times * F) w' := by
  have hs' : rs.length ≤ 4096 := hR.len ▸ hs
  unfold getX getE
  rw [hR.isAt]
  cases hA : isR rs i g with
  | none => exact rget_no h hs' i g hA
  | some kr => exact rget_yes h hs' i g hA
theorem rset_rel (h : Sat w0 (refP q rs times * F) w) (hR : Rel ps free rs times) (hs : ps.length ≤ 4096) (i g x : Int) :
    Calls Try.prog 27 #[vp q, vr i g, vi x] w fun e w' => e = .returned (vi (getE ps i g)) ∧ ∃ rs', Rel (setP ps i g x) free rs' times ∧ Sat w0 (refP q rs' times * F) w' := by
  have hs' : rs.length ≤ 4096 := hR.len ▸ hs
  unfold setP getE
  rw [hR.isAt]
  cases hA : isR rs i g with
  | none => exact (rset_no h hs' i g x hA).mono fun e w' ⟨h1, h2⟩ => ⟨h1, rs, hR, h2⟩
  | some kr => exact (rset_yes h hs' i g x hA).mono fun e w' ⟨h1, h2⟩ => ⟨h1, _, hR.upd (a' := { kr.2 with x := x }) (isR_some hA).1 rfl (List.Sublist.refl _), h2⟩
theorem rdrop_rel (h : Sat w0 (refP q rs times * F) w) (hR : Rel ps free rs times) (hok : TblOk ps free) (ht : times ≤ 1000000) (i g : Int) :
    Calls Try.prog 28 #[vp q, vr i g] w fun e w' => e = .returned (vi (getE ps i g)) ∧ ∃ rs' times', Rel (dropped ps free i g).1 (dropped ps free i g).2 rs' times' ∧ times' ≤ times + 1 ∧ Sat w0 (refP q rs' times' * F) w' := by
  have hs' : rs.length ≤ 4096 := hR.len ▸ hok.small
  unfold dropped getE
  rw [hR.isAt]
  cases hA : isR rs i g with
  | none => exact (rdrop_no h hs' i g hA).mono fun e w' ⟨h1, h2⟩ => ⟨h1, rs, times, hR, by omega, h2⟩
  | some kr =>
    obtain ⟨k, a⟩ := kr
    have hk := isR_some hA
    have hpk : ps[k]? = some a.pl := by rw [hR.eq, List.getElem?_map, hk.1]; rfl
    have hg := hok.gens k _ hpk
    refine (rdrop_yes h hs' ⟨hR.t0, ht⟩ i g hA hg).mono fun e w' ⟨h1, h2⟩ => ⟨h1, ?_⟩
    unfold rdropped at h2
    simp only [Option.map_some]
    by_cases hl : a.gen = 18446744073709551614
    · have hl' : a.pl.gen = 18446744073709551614 := hl
      rw [if_pos hl] at h2
      rw [if_pos hl']
      exact ⟨_, _, hR.upd (a' := { a with there := false, retired := true, x := 0 }) hk.1 rfl (List.Sublist.refl _), by omega, h2⟩
    · have hl' : ¬ a.pl.gen = 18446744073709551614 := hl
      rw [if_neg hl] at h2
      rw [if_neg hl']
      refine ⟨_, _, hR.go (a' := { a with gen := a.gen + 1, there := false, x := 0, freed := times + 1 }) hk.1 ?_ rfl, by omega, h2⟩
      intro hm
      obtain ⟨b, hb, hth, _⟩ := (hok.mem k).1 hm
      rw [hpk] at hb
      cases hb
      rw [show a.pl.there = a.there from rfl, hk.2.2.1] at hth
      cases hth
theorem rput_full (h : Sat w0 (refP q rs times * F) w) (hR : Rel ps [] rs times) (hok : TblOk ps []) (x : Int) :
    Calls Try.prog 23 #[vp q, vi x] w fun e w' => e = .returned (.tuple #[vr 0 0, vi 3]) ∧ Sat w0 (refP q rs times * F) w' :=
  rput_no h (hR.len ▸ hok.small) x (rfree_nil hok hR)
theorem rput_come {init : List Nat} {k : Nat} {a : Pl} (h : Sat w0 (refP q rs times * F) w) (hR : Rel ps (init ++ [k]) rs times) (hok : TblOk ps (init ++ [k])) (hk : ps[k]? = some a) (x : Int) :
    Calls Try.prog 23 #[vp q, vi x] w fun e w' => e = .returned (.tuple #[vr k a.gen, vi 0]) ∧ ∃ rs', Rel (ps.set k { a with there := true, x := x }) init rs' times ∧ Sat w0 (refP q rs' times * F) w' := by
  obtain ⟨h1, h2⟩ := rlast_eq hok hR
  have hk' := hk
  rw [hR.eq, List.getElem?_map, Option.map_eq_some_iff] at hk'
  obtain ⟨r, hr, rfl⟩ := hk'
  exact (rput_yes h (hR.len ▸ hok.small) x h1 h2 hr).mono fun e w' ⟨h3, h4⟩ => ⟨h3, _, hR.upd (a' := { r with there := true, x := x }) hr rfl (List.sublist_append_left _ _), h4⟩
/-- How many are free, by both. -/
theorem rfree_len (hok : TblOk ps free) (h : Rel ps free rs times) : (rfreeL rs rs.length).length = free.length := by
  have hnd : (rfreeL rs rs.length).Nodup := List.nodup_range.filter _
  exact ((List.perm_ext_iff_of_nodup hnd hok.nodup).2 fun k => rfree_mem hok h k).length_eq
end
end Go.Proofs.Ytjealmaddjepnaa.Ar
