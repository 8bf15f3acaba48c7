/-
  Contracts of package arena at T = helmsman/api.Context: Set. No statement is proved here.
-/
import Derived.Test.YtknodagcmachiaaCa2
namespace Go.Proofs.Ytknodagcmachiaa.Ac
open Go.RowKit
open Fi (vi vu)
set_option linter.unusedVariables false

section
variable {w0 w : World} {p : Nat} {s : TblS} {ps : List Pl} {free : List Nat} {F : Hp}
def setP (ps : List Pl) (i g : Int) (x : El) : List Pl := match isAt ps i g with | none => ps | some (k, a) => ps.set k { a with x := x }

set_option maxRecDepth 100000 in
set_option maxHeartbeats 8000000 in
theorem set_ (h : Sat w0 (tblP p ps free * F) w) (i g : Int) (x : El) :
    Calls Try.prog 41 #[vp p, vr i g, ev x] w fun e w' => e = .returned (vi (getE ps i g)) ∧ Sat w0 (tblP p (setP ps i g x) free * F) w' := by
  obtain ⟨s, hs⟩ := open_ h
  have hI : TblIs w0 p s ps free (elB (w.heap.size + 1) x * F) ((w.alloc (.cells #[vi i, vu g] 30)).alloc (elO x)) := ⟨hs.ok, by
    have hh := (hs.sat.alloc' (.cells #[vi i, vu g] 30)).alloc (elO x)
    rw [size1] at hh
    exact (show Sat w0 (elB (w.heap.size + 1) x * (tblB p s ps.length free.length * (tblL s ps * (tblF s free * F)))) _ from hh).cast (by ac_rfl)⟩
  unfold getE setP
  cases hA : isAt ps i g with
  | none =>
    have H := Lib.hid (find_no hI hA)
    have hA' := Lib.hid hA
    clear h hI hA hs
    go_enter Try.func41, Try.ntmps41
    go_wp2_with (go_at_call 81; refine H.out.mono ?_; rintro e w' ⟨rfl, hT⟩)
    go_ret
    exact ⟨rfl, hT.shut.drop2⟩
  | some ka =>
    obtain ⟨k, a⟩ := ka
    have H := Lib.hid (find_yes hI hA)
    have ha := isAt_some hA
    have hlt : k < ps.length := (List.getElem?_eq_some_iff.1 ha.1).1
    have HA := Lib.hid ha
    have hA' := Lib.hid hA
    have hok : TblOk (ps.set k { a with x := x }) free := hs.ok.setX ha.1 x
    have HOK := Lib.hid hok
    clear h hI hA ha hs hok
    go_enter Try.func41, Try.ntmps41
    go_wp2_with (first
      | (go_at_call 81; refine H.out.mono ?_; rintro e w1 ⟨rfl, hT⟩; have HLd := Lib.hid (range_ hT.sat.pull4); have HTh := Lib.hid (hT.thr HA.out.1); have HT := Lib.hid hT; clear hT)
      | (refine wpList_load_mid rfl 49 _ rfl (w.heap.size + 1) 0 (by rfl) (elC x) _ HLd.out Try.underlying49 rfl einfo ?_)
      | (refine wpList_store_mid rfl 49 _ _ rfl s.a (k * 7 + 3) (elC x).toArray (by rfl) (by rfl) HTh.out einfo (all_oneCell_toArray (elOne x)) ?_; have HS := Lib.hid (storeX HT.out.sat.pull2 HA.out.1 rfl x); have HS : Hid (Sat w0 _ (w1.setCells s.a (k * 7 + 3) (elC x).toArray.toList)) := HS; generalize World.setCells _ _ _ _ = w2 at *))
    go_ret
    have hl : (ps.set k { a with x := x }).length = ps.length := List.length_set
    refine ⟨rfl, (TblIs.shut (s := s) (F := elB (w.heap.size + 1) x * F) ⟨HOK.out, ?_⟩).drop2⟩
    exact HS.out.pull2.cast (by simp only [tblB, tblL, hl])
end
end Go.Proofs.Ytknodagcmachiaa.Ac
