/-
  Chapter 08: what is kept, behind each act. No statement is proved here.
-/
import Derived.Test.YtknodagcmachiaaMg10
import Derived.Test.YtknodagcmachiaaMg4
import Derived.Deep.RegionLaw
namespace Go.Proofs.Ytknodagcmachiaa.Cn
open Go.RowKit Ac Fi
set_option linter.unusedVariables false

section
variable {cs : List CP} {i g j t : Int} {n T : Nat} {most times : Int} {free : List Nat}
theorem Inv.bind (h : Inv n most T cs free times) (d : Int) (hd : -1 ≤ d ∧ d ≤ 1) : Inv n most (T + 1) (bindL cs i g d) free times := by
  unfold bindL
  split
  · rename_i he
    refine h.setc fun h0 => ?_
    have hl := h.liveC h0
    unfold bindE at he
    rw [if_neg (by omega)] at he
    have hn := hl.n
    split at he
    · cases he
    · exact { hl with n := ⟨by dsimp only; omega, by dsimp only; omega⟩ }
  · exact h.mono (Nat.le_succ T)
theorem chgB_iff {now : Int} : chgB most cs i g now = true ↔ eC cs i g = 0 ∧ ChOk (gC cs i g).l now (gC cs i g).p most := by
  unfold chgB
  split
  · exact ⟨fun _ => by assumption, fun _ => rfl⟩
  · exact ⟨fun h => (by cases h), fun h => absurd h (by assumption)⟩
theorem Inv.chg (h : Inv n most T cs free times) (now : Int) (hn : 0 ≤ now) : Inv n most (T + 1) (chgL most cs i g now) free times := by
  unfold chgL
  split
  · rename_i hb
    obtain ⟨_, hc⟩ := chgB_iff.1 hb
    refine h.setc fun h0 => ?_
    have hl := h.liveC h0
    obtain ⟨b1, b2, b3, b4⟩ := charge_law hc hl.ok hn (by have := hl.p; omega)
    have hm := hl.mono (Nat.le_succ T)
    exact { hm with may := b1, ok := b2, tot := b3.trans hl.tot, len := b4 }
  · exact h.mono (Nat.le_succ T)
theorem mk_last {b p now : Int} (h : mkE free b p now = 0) : MkOk b p now ∧ free = free.dropLast ++ [mkK free] := by
  unfold mkE at h
  split at h
  · rename_i hm
    split at h
    · cases h
    · rename_i hf
      refine ⟨hm, ?_⟩
      unfold mkK
      rw [List.getLast?_eq_some_getLast hf, Option.getD_some]
      exact (List.dropLast_concat_getLast hf).symm
  · cases h
theorem Inv.mkAt (h : Inv n most T cs free times) {b p now : Int} (he : mkE free b p now = 0) : ∃ c, cs[mkK free]? = some c ∧ c.there = false ∧ genK cs (mkK free) = c.gen := by
  obtain ⟨_, hf⟩ := mk_last he
  have : mkK free ∈ free := by
    rw [hf]
    simp [mkK]
  obtain ⟨c, hc, ht⟩ := (h.mem _).1 this
  exact ⟨c, hc, ht, by unfold genK; rw [hc]⟩
theorem Live.one {b p now : Int} (hm : MkOk b p now) (hn : 0 ≤ now) (h2 : 2 ≤ most) (T : Nat) : Live most T ⟨b, p, [⟨b, now⟩], 0⟩ := by
  unfold MkOk at hm
  refine ⟨⟨hm.1, hm.2.1⟩, ⟨hm.2.2.1, hm.2.2.2.1⟩, may1 b now hm.1 (by omega), ok1 b now ⟨by omega, by omega⟩ ⟨by omega, by omega⟩, by simp [Fi.tot], by simp; omega, ⟨by simp, by simp⟩⟩
theorem Inv.mk_ (h : Inv n most T cs free times) (b p now : Int) (hn : 0 ≤ now) : Inv n most (T + 1) (mkL cs free b p now) (mkF free b p now) times := by
  unfold mkL mkF
  split
  · rename_i he
    obtain ⟨c, hc, ht, _⟩ := h.mkAt he
    obtain ⟨hm, hf⟩ := mk_last he
    rw [hc]
    dsimp only
    have h' : Inv n most T cs (free.dropLast ++ [mkK free]) times := by rw [← hf]; exact h
    exact h'.come hc (Live.one hm hn h.mst.1 _)
  · exact h.mono (Nat.le_succ T)
/-- What part lets through. -/
theorem part_zero {b amount now : Int} {l : List Rf} (h : partC b l amount now = 0) : amount ≠ 0 ∧ now ≤ 1152921504606846976 ∧ amount < b ∧ amount ≤ thereV l now := by
  unfold partC at h
  split at h
  · cases h
  · split at h
    · cases h
    · omega
theorem pull_live {c : Cx} {amount now : Int} (hl : Live most T c) (ha : 0 ≤ amount) (hp : partC c.b c.l amount now = 0) : Live most T (pullC c amount now) ∧ PuOk c.l amount := by
  obtain ⟨p1, p2, p3, p4⟩ := part_zero hp
  obtain ⟨r, s, hd, hle⟩ := pull_due hl.may hl.ok p1 ha p4
  have hm := may_due (now := now) hl.may hl.ok
  have hk := ok_due (now := now) hl.may hl.ok
  have hlen := due_len c.l now
  have ht := tot_due c.l now
  rw [hd] at hm hk hlen ht
  obtain ⟨a1, a2, a3, a4⟩ := less_may hm hk (k := amount) (by omega) hle
  have hb := hl.b
  have h5 := hl.len
  have h6 := hl.tot
  refine ⟨⟨?_, hl.p, ?_, ?_, ?_, ?_, hl.n⟩, ⟨hl.may, p1⟩⟩
  · unfold pullC
    dsimp only
    omega
  · unfold pullC
    rw [hd]
    exact a1
  · unfold pullC
    rw [hd]
    exact a2
  · unfold pullC
    rw [hd]
    dsimp only
    omega
  · unfold pullC
    rw [hd]
    dsimp only
    omega
theorem give_live {c : Cx} {amount now : Int} (hl : Live most T c) (hm2 : 2 ≤ most) (ha : 1 ≤ amount) (hn : U64 now) (hb : c.b + amount ≤ 4294967296) (hf : ¬ (thN c.l now = 0 ∧ (c.l.length : Int) = most)) : Live most T (giveC c amount now) ∧ GvOk c.l amount most := by
  have hg : GvOk c.l amount most := ⟨hl.may, by omega, by omega, hl.len⟩
  have hcb := hl.b
  have ha' : U64 amount := ⟨by omega, by omega⟩
  have h6 := hl.tot
  obtain ⟨a1, a2, a3, a4, a5, a6, r, s, a7, a8⟩ := give_law (now := now) hg hl.ok hn ha' (by omega) (fun h1 h2 => hf ⟨h1, h2⟩)
  have hm := a1
  have hk := a2
  rw [a7] at hm hk
  obtain ⟨_, _, b3, _⟩ := less_may hm hk (k := amount) ha a8
  rw [← a7, a6, tot_due] at b3
  refine ⟨⟨?_, hl.p, a1, a2, ?_, a3, hl.n⟩, hg⟩
  · unfold giveC
    dsimp only
    omega
  · unfold giveC
    dsimp only
    omega
theorem Inv.sp (h : Inv n most T cs free times) (amount now : Int) (ha : 0 ≤ amount) (hn : 0 ≤ now) : Inv n most (T + 2) (spL cs free i g amount now) (spF cs free i g amount now) times := by
  unfold spL spF
  split
  · rename_i he
    unfold spE at he
    split at he
    · cases he
    · rename_i h0
      have h0 : eC cs i g = 0 := by rcases eC_01 cs i g with h | h <;> omega
      split at he
      · rename_i hne
        exact absurd he hne
      · rename_i hp
        have hp : partC (gC cs i g).b (gC cs i g).l amount now = 0 := by omega
        have h1 := h.mk_ amount (gC cs i g).p now hn
        have hF : mkF free amount (gC cs i g).p now = free.dropLast := by unfold mkF; rw [if_pos he]
        rw [hF] at h1
        exact h1.setc fun _ => (pull_live (h.liveC h0) ha hp).1.mono (by omega)
  · exact h.mono (by omega)
theorem donC_zero {e1 e2 : Int} {same : Prop} [Decidable same] {b b2 amount now : Int} {l : List Rf} (h : donC e1 e2 same b l b2 amount now = 0) : e1 = 0 ∧ e2 = 0 ∧ ¬ same ∧ partC b l amount now = 0 ∧ b2 + amount ≤ 4294967296 := by
  unfold donC at h
  simp only [firstE] at h
  repeat' split at h
  all_goals first | omega | (refine ⟨by assumption, by assumption, ?_, by assumption, by omega⟩; assumption) | skip
theorem Inv.do_ (h : Inv n most T cs free times) (amount now : Int) (ha : 0 ≤ amount) (hn : U64 now) : Inv n most (T + 2) (doL most cs i g j t amount now) free times := by
  unfold doL
  split
  · rename_i he
    unfold doE at he
    split at he
    · rename_i hne
      exact absurd he hne
    · rename_i hz
      have hz : doE1 cs i g j t amount now = 0 := by omega
      obtain ⟨z1, z2, z3, z4, z5⟩ := donC_zero hz
      split at he
      · cases he
      · rename_i hf
        obtain ⟨p1, p2, p3, p4⟩ := part_zero z4
        have h1 := h.setc (i := j) (g := t) (x := giveC (gC cs j t) amount now) fun _ => (give_live (h.liveC z2) h.mst.1 (by omega) hn z5 hf).1.mono (by omega)
        exact h1.setc fun _ => (pull_live (h.liveC z1) ha z4).1.mono (by omega)
  · exact h.mono (by omega)
theorem Inv.dr (h : Inv n most T cs free times) : Inv n most (T + 1) (drL cs i g times) (drF cs free i g) (drT cs i g times) := by
  unfold drL drF drT
  split
  · rename_i he
    unfold drE at he
    split at he
    · cases he
    · rename_i h0
      have h0 : eC cs i g = 0 := by rcases eC_01 cs i g with h | h <;> omega
      obtain ⟨k, c, hc⟩ := eC_yes h0
      rw [hc]
      obtain ⟨c1, c2, c3, c4⟩ := isC_some hc
      exact h.go c1 c3
  · exact h.mono (Nat.le_succ T)
end
end Go.Proofs.Ytknodagcmachiaa.Cn

namespace Go.Proofs.Ytknodagcmachiaa.Ac
open Go.RowKit
open Fi (vi vu)
set_option linter.unusedVariables false
set_option linter.unusedSimpArgs false

section
variable {w0 w : World} {p : Nat} {s : TblS} {ps : List Pl} {free : List Nat} {F : Hp}
theorem drop_boxed (h : Sat w0 (tblP p ps free * F) w) (i g : Int) : ∃ s, TblIs w0 p s ps free (pc w.heap.size 30 [vi i, vu g] * F) (w.alloc (.cells #[vi i, vu g] 30)) := by
  obtain ⟨s, hs⟩ := open_ h
  refine ⟨s, hs.ok, ?_⟩
  have : Sat w0 (pc w.heap.size 30 [vi i, vu g] * (tblB p s ps.length free.length * (tblL s ps * (tblF s free * F)))) (w.alloc (.cells #[vi i, vu g] 30)) := hs.sat.alloc (.cells #[vi i, vu g] 30)
  refine this.cast ?_
  generalize tblB p s ps.length free.length = A
  generalize tblL s ps = B
  generalize tblF s free = C
  ac_rfl
set_option maxRecDepth 100000 in
set_option maxHeartbeats 8000000 in
theorem drop_no (h : Sat w0 (tblP p ps free * F) w) (i g : Int) (hA : isAt ps i g = none) :
    Calls Try.prog 56 #[vp p, vr i g] w fun e w' => e = .returned (vi 11) ∧ Sat w0 (tblP p ps free * F) w' := by
  obtain ⟨s, hI⟩ := drop_boxed h i g
  have H := Lib.hid (find_no hI hA)
  have hA' := Lib.hid hA
  clear h hI hA
  go_enter Try.func56, Try.ntmps56
  go_wp2_with (go_at_call 81; refine H.out.mono ?_; rintro e w' ⟨rfl, hT⟩)
  go_ret
  exact ⟨rfl, hT.shut.drop2⟩
set_option maxRecDepth 100000 in
set_option maxHeartbeats 8000000 in
theorem drop_yes (h : Sat w0 (tblP p ps free * F) w) (i g : Int) {k : Nat} {a : Pl} (hA : isAt ps i g = some (k, a)) (hg : a.gen < 18446744073709551614) :
    Calls Try.prog 56 #[vp p, vr i g] w fun e w' => e = .returned (vi 0) ∧ Sat w0 (tblP p (ps.set k { a with gen := a.gen + 1, there := false, x := ez }) (free ++ [k]) * F) w' := by
  obtain ⟨s, hI⟩ := drop_boxed h i g
  have H := Lib.hid (find_yes hI hA)
  have ha := isAt_some hA
  have hlt : k < ps.length := (List.getElem?_eq_some_iff.1 ha.1).1
  have HA := Lib.hid ha.1
  have hik := ha.2.1
  have hth := ha.2.2.1
  have hgs := hI.ok.gens _ _ ha.1
  have hfs := hI.ok.fsmall
  have hGo := Lib.hid (hI.ok.go ha.1 hth (show a.gen ≠ 18446744073709551614 by omega))
  subst hik
  generalize hbx : w.heap.size = bx at *
  have HBX := Lib.hid hbx
  clear h hA ha hbx hI
  obtain ⟨gen, there, retired, y⟩ := a
  simp only at hth hgs hg hGo
  subst hth
  have hgb : (gen == 18446744073709551614) = false := beq_eq_false_iff_ne.2 (by omega)
  have hw : IntKind.u64.wrap (gen + 1) = gen + 1 := IntWalk.u64_in _ (by omega)
  clear hgs hg
  go_enter Try.func56, Try.ntmps56
  go_wp2_with (go_at_call 81; refine H.out.mono ?_; rintro e w1 ⟨rfl, hT⟩; have HT := Lib.hid hT; clear hT)
  have hB0 : Sat w0 (pc w1.heap.size 49 (elC ez) * (tblB p s ps.length free.length * (tblL s ps * (tblF s free * (pc bx 30 [vi k, vu g] * F))))) (w1.alloc (elO ez)) := HT.out.sat.alloc (elO ez)
  have hB : Sat w0 (sl 110 7 (s.lv ps.length) ps.length (flat ps) * (pc w1.heap.size 49 (elC ez) * (tblB p s ps.length free.length * (tblF s free * (pc bx 30 [vi k, vu g] * F))))) (w1.alloc (elO ez)) := hB0.cast (by
    unfold tblL
    generalize tblB p s ps.length free.length = A
    generalize tblF s free = C
    ac_rfl)
  clear hB0
  try (go_wp2)
  generalize w1.heap.size = bz at *
  generalize (w1.alloc (elO ez)) = W1 at *
  have HW1 := Lib.hid hB.drew
  clear hB
  have hS0 : (fun w' : World => w'.rangeAt bz 0 (elC ez)) W1.drew := range_ HW1.out.pull2
  have hcell : (W1.drew).cell? ⟨s.a, k * 7 + 1, none⟩ = some _ := HW1.out.slCell (k * 7 + 1) (flat_get Pl.len HA.out rfl)
  have hfree1 : (W1.drew).frozen? ⟨s.a, k * 7 + 1, none⟩ = false := HW1.out.slFree (k * 7 + 1)
  have hT2 := HW1.out.slStore (k * 7 + 1) (by omega) (.bool false)
  rw [flat_set Pl.len ps k 1 _ (⟨gen, false, retired, y⟩ : Pl) (.bool false) HA.out (by omega) rfl] at hT2
  refine wp_region_held (S := fun w' => w'.rangeAt bz 0 (elC ez)) (by kernel_rfl) ?_
  change wpAnyH _ _ _ _ _ _ _ _ (World.drew _)
  refine wpAnyH_take (i := 0) (v := (.pointer (some ⟨s.a, k * 7, none⟩))) rfl (by kernel_rfl) (by kernel_rfl) (by kernel_rfl) (fun _ _ _ h => h) (Or.inl ⟨by rfl, fun w' hw' => by go_simp⟩) hS0 ?_
  simp only [Act.put, List.setIfInBounds_toArray, List.set_cons_zero, List.set_cons_succ]
  refine wpAnyH_take (i := 1) (v := (.pointer (some ⟨s.a, k * 7, none⟩))) rfl (by kernel_rfl) (by kernel_rfl) (by kernel_rfl) (fun _ _ _ h => h) (Or.inl ⟨by rfl, fun w' hw' => by go_simp⟩) hS0 ?_
  simp only [Act.put, List.setIfInBounds_toArray, List.set_cons_zero, List.set_cons_succ]
  refine wpAnyH_take (i := 2) rfl (by kernel_rfl) (by kernel_rfl) (by kernel_rfl) (fun _ _ _ h => h) (yieldsIf_load_mid (by rfl) 49 _ rfl bz 0 (by rfl) (elC ez) _ (fun w' h => h) Try.underlying49 rfl einfo) hS0 ?_
  simp only [Act.put, List.setIfInBounds_toArray, List.set_cons_zero, List.set_cons_succ]
  refine wpAnyH_take (i := 3) (v := (.pointer (some ⟨s.a, k * 7, none⟩))) rfl (by kernel_rfl) (by kernel_rfl) (by kernel_rfl) (fun _ _ _ h => h) (Or.inl ⟨by rfl, fun w' hw' => by go_simp⟩) hS0 ?_
  simp only [Act.put, List.setIfInBounds_toArray, List.set_cons_zero, List.set_cons_succ]
  refine wpAnyH_take (i := 4) (v := (.pointer (some ⟨s.a, k * 7 + 1, none⟩))) rfl (by kernel_rfl) (by kernel_rfl) (by kernel_rfl) (fun _ _ _ h => h) (Or.inl ⟨by rfl, fun w' hw' => by go_simp⟩) hS0 ?_
  simp only [Act.put, List.setIfInBounds_toArray, List.set_cons_zero, List.set_cons_succ]
  refine wpAnyH_ready (rs := [5]) (by kernel_rfl) (by simp) ?_
  refine AllReadyH.cons rfl (fun K hK => ?_) AllReadyH.nil
  go_simp
  have hT2 : Sat w0 _ (W1.setCell ⟨s.a, k * 7 + 1, none⟩ (.bool false)).drew := hT2
  generalize (W1.setCell ⟨s.a, k * 7 + 1, none⟩ (.bool false)).drew = W2 at *
  have HW2 := Lib.hid hT2
  have hS2 : (fun w' : World => w'.rangeAt bz 0 (elC ez)) W2 := range_ HW2.out.pull2
  refine hK.out _ _ hS2 (fun hS3 => ?_)
  refine wpAnyH_take (i := 6) (v := (.pointer (some ⟨s.a, k * 7, none⟩))) rfl (by kernel_rfl) (by kernel_rfl) (by kernel_rfl) (fun _ _ _ h => h) (Or.inl ⟨by rfl, fun w' hw' => by go_simp⟩) hS2 ?_
  simp only [Act.put, List.setIfInBounds_toArray, List.set_cons_zero, List.set_cons_succ]
  refine wpAnyH_take (i := 7) (v := (.pointer (some ⟨s.a, k * 7 + 3, none⟩))) rfl (by kernel_rfl) (by kernel_rfl) (by kernel_rfl) (fun _ _ _ h => h) (Or.inl ⟨by rfl, fun w' hw' => by go_simp⟩) hS2 ?_
  simp only [Act.put, List.setIfInBounds_toArray, List.set_cons_zero, List.set_cons_succ]
  have hth := slThere HW2.out (get_set_self HA.out _) (by simp)
  have hT3 := storeX HW2.out (get_set_self HA.out _) (by simp) ez
  rw [List.set_set] at hT3
  have hT3 : Sat w0 _ (W2.setCells s.a (k * 7 + 3) (elC ez).toArray.toList) := hT3
  refine wpAnyH_ready (rs := [8]) (by kernel_rfl) (by simp) ?_
  refine AllReadyH.cons rfl (fun K' hK' => ?_) AllReadyH.nil
  rw [if_pos (by rfl)]
  refine wp_store_mid 49 _ _ rfl s.a (k * 7 + 3) (elC ez).toArray (by rfl) (by rfl) hth einfo (all_oneCell_toArray (elOne ez)) ?_
  generalize W2.setCells s.a (k * 7 + 3) (elC ez).toArray.toList = W3 at *
  have HW3 := Lib.hid hT3
  have hS4 : (fun w' : World => w'.rangeAt bz 0 (elC ez)) W3 := range_ HW3.out.pull2
  refine hK'.out _ _ hS4 (fun hS5 => ?_)
  refine wpAnyH_done (by kernel_rfl) ?_ _
  clear hS0 hS2 hS3 hS4 hS5 hth hT2 hT3 hcell hfree1 hK hK'
  have hg0 := HW3.out.slCell (k * 7 + 0) (flat_get Pl.len (get_set_self HA.out _) rfl)
  have hf0 := HW3.out.slFree (k * 7 + 0)
  rw [Nat.add_zero] at hg0 hf0
  have a3 := HW3.out.slStore (k * 7 + 0) (by omega) (vu (gen + 1))
  rw [flat_set Pl.len _ k 0 (⟨gen, false, retired, ez⟩ : Pl) ⟨gen + 1, false, retired, ez⟩ (vu (gen + 1)) (get_set_self HA.out _) (by omega) rfl, List.set_set] at a3
  have A3 := Lib.hid a3
  clear a3
  go_wp2
  rw [HBX.out]
  have a3 : Sat w0 _ (W3.setCell ⟨s.a, k * 7, none⟩ (vu (gen + 1))) := A3.out
  generalize W3.setCell ⟨s.a, k * 7, none⟩ (vu (gen + 1)) = wc at *
  have a4 : Sat w0 (tblB p s ps.length free.length * (sl 110 7 (s.lv ps.length) ps.length (flat (ps.set k ⟨gen + 1, false, retired, ez⟩)) * (tblF s free * (pc bx 30 [vi k, vu g] * F)))) wc := a3.pull2.dropL.pull2
  have d1 : wc.cell? ⟨p, 1, none⟩ = some (.slice s.fo free.length s.fcap) := a4.cell 1 rfl
  have d2 := a4.free 1
  have d3 := a4.pull4.cell 0 rfl
  have n1 := World.new_ne wc _ d1
  have n2 := World.new_ne wc _ d3
  have l1 := a4.lt
  have l2 := a4.pull4.lt
  have A4 := Lib.hid a4
  clear a4 a3 A3 hg0 hf0 hgb hw H HT HW1 HW2 HW3
  go_region_law
    ((refine step_append_sl Einti (by rfl) _ _ (by rfl) (by rfl) ((A4.out.pull3.alloc' _).drew) (by rfl) (Rd.one _ _ _) (by simp [Value.oneCell']) (by unfold maxLen; omega) (by omega) ?_; intro ao' cap' w2 hS2; have hP1 := hS2.pull2; have hF1 := hP1.free 1; have hC1 := hP1.cell 1 rfl))
  all_goals go_wp2
  all_goals go_ret
  all_goals refine ⟨rfl, ?_⟩
  all_goals have b1 := hP1.store 1 (.slice ao' (free.length + 1) cap')
  all_goals refine Sat.drop2 (A := tblP p (ps.set k ⟨gen + 1, false, retired, ez⟩) (free ++ [k])) (B := pc bx 30 [vi k, vu g]) (TblIs.shut (s := ⟨s.a, s.cap, ao', cap'⟩) ⟨hGo.out, b1.cast ?_⟩)
  all_goals (
    have hl : (ps.set k (⟨gen + 1, false, retired, ez⟩ : Pl)).length = ps.length := List.length_set
    simp only [tblB, tblL, tblF, TblS.lv, TblS.fv, hl, List.set_cons_succ, List.set_cons_zero, List.length_append, List.length_cons, List.length_nil, Nat.zero_add, List.map_append, List.map_cons, List.map_nil]
    ac_rfl)
end
end Go.Proofs.Ytknodagcmachiaa.Ac
