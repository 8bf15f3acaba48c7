/-
  Contracts of the arena's All and of the iterator that it hands back. No statement is proved here.
-/
import Derived.Test.YtjealmaddjepnaaLoop
import Derived.Test.YtjealmaddjepnaaArena6
import Derived.Shelf.Abstract
import Derived.Shelf.RegionOpen
import Derived.OwnWalkIn
import Derived.TacticsInMore
import Derived.LoopNIn
import Derived.LoopIn
namespace Go.Proofs.Ytjealmaddjepnaa.Ar
open Go.RowKit Go.Shelf
attribute [local go_sem] Oper.semAt_some
set_option linter.unusedVariables false

/-- What the iterator has of its own: its list. -/
def itP (bx : Nat) (v : Value) (ps : List Pl) : Hp := pc bx 62 [v] * sl 67 4 v ps.length (flat ps)

section
variable {w0 w : World} {p : Nat} {ps : List Pl} {free : List Nat} {F : Hp}
set_option maxRecDepth 100000 in
set_option maxHeartbeats 1000000 in
theorem all_ (h : Sat w0 (tblP p ps free * F) w) :
    Calls Try.prog 12 #[vp p] w fun e w' => ∃ bx ao cap, e = .returned (.func (.func 31) #[] #[.pointer (some ⟨bx, 0, none⟩)]) ∧ Sat w0 (itP bx (.slice ao ps.length cap) ps * (tblP p ps free * F)) w' := by
  obtain ⟨s, hs⟩ := open_ h
  have hok := hs.ok
  have hpos := hok.pos
  have hsm := hok.small
  have hB : Sat w0 (pc w.heap.size 62 [.slice none 0 0] * (tblB p s ps.length free.length * (tblL s ps * (tblF s free * F)))) (w.alloc (.cells #[.slice none 0 0] 62)) := hs.sat.alloc _
  have hI : TblIs w0 p s ps free (pc w.heap.size 62 [.slice none 0 0] * F) (w.alloc (.cells #[.slice none 0 0] 62)) := ⟨hok, hB.cast (by ac_rfl)⟩
  have c0 := hI.c0
  have b0 := hB.cell 0 rfl
  have f0 := hB.free 0
  have HN := Lib.hid (none_ hI)
  have HOK := Lib.hid hok
  have HB := Lib.hid hB
  have HC := Lib.hid (clone_places hB (fun w2 h2 => h2.pull3.rd) hsm hpos)
  clear h hs hok hI hB
  generalize hwb : w.alloc (.cells #[.slice none 0 0] 62) = wb at *
  have HW := Lib.hid hwb
  generalize hbx : w.heap.size = bx at *
  have HBX := Lib.hid hbx
  clear hwb hbx
  go_enter Try.func12, Try.ntmps12
  go_wp2_with fail
  rw [HW.out, HBX.out]
  refine HN.out.mono ?_
  rintro e w' ⟨rfl, rfl⟩
  go_wp2_with (go_at_call 30; refine HC.out.mono ?_; rintro e w1 ⟨g, cap, rfl, hS⟩; have b1 := hS.pull2.cell 0 rfl; have f1 := hS.pull2.free 0; have HS := Lib.hid hS; clear hS)
  go_ret
  refine ⟨bx, some ⟨g, 0, none⟩, cap, rfl, ?_⟩
  have h1 := HS.out.pull2.store 0 (.slice (some ⟨g, 0, none⟩) ps.length cap)
  have h2 : Sat w0 (tblB p s ps.length free.length * (tblL s ps * (tblF s free * (itP bx (.slice (some ⟨g, 0, none⟩) ps.length cap) ps * F)))) _ := h1.cast (by
    unfold itP
    simp only [List.set_cons_zero]
    ac_rfl)
  exact (TblIs.shut (s := s) ⟨HOK.out, h2⟩).pull2

/-- What has come when k places are over. -/
def seenO (ps : List Pl) (i : Nat) : Option (Nat × Int × El) := match ps[i]? with
  | none => none
  | some a => if a.there then some (i, a.gen, a.x) else none
def seen (ps : List Pl) (k : Nat) : List (Nat × Int × El) := (List.range k).filterMap (seenO ps)
theorem seen_succ (ps : List Pl) (k : Nat) : seen ps (k + 1) = seen ps k ++ (seenO ps k).toList := by
  unfold seen
  rw [List.range_succ, List.filterMap_append]
  cases h : seenO ps k <;> simp [h]
theorem seen_yes {k : Nat} {a : Pl} (h : ps[k]? = some a) (ht : a.there = true) : seen ps (k + 1) = seen ps k ++ [(k, a.gen, a.x)] := by
  rw [seen_succ, seenO, h]
  simp [ht]
theorem seen_no {k : Nat} {a : Pl} (h : ps[k]? = some a) (ht : a.there = false) : seen ps (k + 1) = seen ps k := by
  rw [seen_succ, seenO, h]
  simp [ht]
theorem seen_len (ps : List Pl) (k : Nat) : (seen ps k).length ≤ k := by
  unfold seen
  exact Nat.le_trans (List.length_filterMap_le _ _) (by simp)
def encA (x : Nat × Int × El) : Array Value := #[vr x.1 x.2.1, ev x.2.2]
/-- What a round that goes on must keep: the iterator's own blocks. -/
def KB (ks : List Nat) (A B : World) : Prop := ∀ k ∈ ks, B.heap[k]? = A.heap[k]?
theorem KB.trans {ks : List Nat} {A B C : World} (h : KB ks A B) (k : KB ks B C) : KB ks A C := fun j hj => (k j hj).trans (h j hj)
theorem KB.putObj {ks : List Nat} {n : Nat} (hk : ∀ k ∈ ks, k < n) (W : World) (l : Nat) (o o' : Obj) (hl : n ≤ l) (_ : W.heap[l]? = some o) (_ : o.isCells = false) (_ : o.isWalk = false) : KB ks W (W.putObj l o') := by
  intro j hj
  have := hk j hj
  exact World.putObj_heap_other (by omega)
theorem KB.cell {ks : List Nat} {A B : World} (h : KB ks A B) {a : Addr} (ha : a.block ∈ ks) {v : Value} (hc : A.cell? a = some v) : B.cell? a = some v :=
  (World.cell?_of_block (h _ ha)).trans hc
theorem KB.lt {ks : List Nat} {A B : World} (h : KB ks A B) (ha : ∀ k ∈ ks, k < A.heap.size) : ∀ k ∈ ks, k < B.heap.size := fun k hk => by
  have h1 := h k hk
  rw [Array.getElem?_eq_getElem (ha k hk)] at h1
  exact (Array.getElem?_eq_some_iff.1 h1).1
theorem grown_of_below {A B : World} (h : Below A.heap.size A B) : A.grownBy B none := ⟨h.os, h.tape, h.output, h.size, fun k hk _ => h.block k hk⟩

/-- The iterator's list as it reads it. -/
def ItR (ks : List Nat) (bx : Nat) (v : Value) (ps : List Pl) (W : World) : Prop :=
  bx ∈ ks ∧ W.cell? ⟨bx, 0, none⟩ = some v ∧ ((v = .slice none 0 0 ∧ ps = []) ∨ ∃ g cap, v = .slice (some ⟨g, 0, none⟩) ps.length cap ∧ g ∈ ks ∧ ∀ j u, (flat ps)[j]? = some u → W.cell? ⟨g, j, none⟩ = some u)
theorem ItR.keep {ks : List Nat} {bx : Nat} {v : Value} {A B : World} (h : ItR ks bx v ps A) (k : KB ks A B) : ItR ks bx v ps B := by
  obtain ⟨h1, h2, h3⟩ := h
  refine ⟨h1, k.cell h1 h2, ?_⟩
  rcases h3 with h3 | ⟨g, cap, rfl, hg, hc⟩
  · exact .inl h3
  · exact .inr ⟨g, cap, rfl, hg, fun j u hj => k.cell hg (hc j u hj)⟩

set_option maxRecDepth 100000 in
set_option maxHeartbeats 2000000 in
theorem all1_ (G : Fence) (n : Nat) (hf : G.fn 31) (hro : G.round = none) (hn : 1 ≤ n) (ks : List Nat) (l bx g cap : Nat) (hsm : ps.length ≤ 4096) (J Jx : List (Nat × Int × El) → World → Prop)
    (W : World) (hJ : AbidesFrom W.heap.size J)
    (hY : ∀ pre x W1, J pre W1 → pre.length < ps.length → YieldAt G (n - 1) Try.prog l (encA x) W1 fun e W' =>
      (e = .returned (.bool true) ∧ J (pre ++ [x]) W' ∧ KB ks W1 W') ∨ (e = .returned (.bool false) ∧ Jx (pre ++ [x]) W'))
    (hI : ItR ks bx (.slice (some ⟨g, 0, none⟩) ps.length cap) ps W) (hks : ∀ k ∈ ks, k < W.heap.size) (h0 : J [] W) :
    CallsIn G n Try.prog 31 #[.func (.yield l) #[] #[], .pointer (some ⟨bx, 0, none⟩)] W fun e W' => (∃ v, e = .returned v) ∧
      ((∃ ys, ys = seen ps ps.length ∧ J ys W') ∨ (∃ pre, (∃ k a, ps[k]? = some a ∧ a.there = true ∧ pre = seen ps (k + 1)) ∧ Jx pre W')) := by
  have c0 := hI.2.1
  refine callsIn_of_wp Try.func31 rfl hf ?_ hro
  simp only [Try.ntmps31, List.size_toArray, List.length_cons, List.length_nil, Nat.reduceAdd, Nat.reduceSub, Array.replicate_succ, Array.replicate_zero, List.push_toArray, List.append_toArray, List.nil_append, List.cons_append]
  gi_wp2
  clear c0
  gi_loopw [7] (fun i wr => ∃ k : Nat, k ≤ ps.length ∧ i = .int .i64 k ∧ J (seen ps k) wr ∧ ItR ks bx (.slice (some ⟨g, 0, none⟩) ps.length cap) ps wr ∧ ∀ k ∈ ks, k < wr.heap.size)
    (fun i _ => ps.length - (intOf i).toNat)
  case atStart => exact ⟨0, Nat.zero_le _, rfl, h0, hI, hks⟩
  case round =>
    obtain ⟨k, hk, rfl, hJs, hIr, hsz⟩ := hrel
    by_cases hlt : k < ps.length
    · obtain ⟨a, ha⟩ : ∃ a, ps[k]? = some a := ⟨ps[k], List.getElem?_eq_getElem hlt⟩
      obtain ⟨gen, there, retired, x⟩ := a
      have hkl : (k : Int) < (ps.length : Int) := by omega
      have hcs := hIr.2.2
      rcases hcs with ⟨hv, _⟩ | ⟨g', cap', hv, hg, hcs⟩
      · cases hv
      cases hv
      have e0 := hcs _ _ (flat_get (j := 0) Pl.len ha rfl)
      have e1 := hcs _ _ (flat_get (j := 1) Pl.len ha rfl)
      have e2 := hcs _ _ (flat_get (j := 2) Pl.len ha rfl)
      have e3 := hcs _ _ (flat_get (j := 3) Pl.len ha rfl)
      rw [Nat.add_zero] at e0
      clear hcs
      have hB1 : Below wr.heap.size wr (wr.alloc (.cells #[vu gen, .bool there, .bool retired, ev x] 67)) := (Below.refl _ _).alloc (Nat.le_refl _) _
      have hJ1 : J (seen ps k) (wr.alloc (.cells #[vu gen, .bool there, .bool retired, ev x] 67)) := hJ _ _ _ none hJs (grown_of_below hB1) (fun r e => by cases e)
      have hK1 : KB ks wr (wr.alloc (.cells #[vu gen, .bool there, .bool retired, ev x] 67)) := fun j hj => hB1.block j (hsz j hj)
      have HK1 := Lib.hid hK1
      have HZ := Lib.hid hsz
      clear hB1 hK1 hsz
      cases there with
      | false =>
        have hse := Lib.hid (seen_no ha rfl)
        clear hJs ha
        gi_wp2
        refine ⟨fun _ h => (by cases h), ?_⟩
        gi_wp2
        go_roundw
        case rel => exact ⟨k + 1, by omega, by go_num, by rw [hse.out]; exact hJ1, hIr.keep HK1.out, HK1.out.lt HZ.out⟩
        case measure => simp [intOf]; omega
      | true =>
        have hse := Lib.hid (seen_yes ha rfl)
        have hsl := seen_len ps k
        obtain ⟨fn, tmps, assign, body, hy, hR⟩ := hY _ (k, gen, x) _ hJ1 (by omega)
        have HA := Lib.hid ha
        clear hJs ha
        dsimp only [encA] at hy
        gi_wp2
        refine hR.mono ?_
        rintro e W3 (⟨rfl, hJ3, hk3⟩ | ⟨rfl, hJx3⟩)
        · gi_wp2
          go_roundw
          case rel => exact ⟨k + 1, by omega, by go_num, by rw [hse.out]; exact hJ3, (hIr.keep HK1.out).keep hk3, hk3.lt (HK1.out.lt HZ.out)⟩
          case measure => simp [intOf]; omega
        · gi_wp2
          refine bodyPost_ret (results_none rfl _ _ _) rfl ?_
          exact ⟨⟨_, rfl⟩, .inr ⟨_, ⟨k, _, HA.out, rfl, hse.out.symm⟩, hJx3⟩⟩
    · obtain rfl : k = ps.length := by omega
      gi_wp2
      go_end0
      exact ⟨⟨_, rfl⟩, .inl ⟨_, rfl, hJs⟩⟩

set_option maxRecDepth 100000 in
set_option maxHeartbeats 1000000 in
theorem all1_nil (G : Fence) (n : Nat) (hf : G.fn 31) (hro : G.round = none) (l bx : Nat) (J : List (Nat × Int × El) → World → Prop)
    (W : World) (c0 : W.cell? ⟨bx, 0, none⟩ = some (.slice none 0 0)) (h0 : J [] W) :
    CallsIn G n Try.prog 31 #[.func (.yield l) #[] #[], .pointer (some ⟨bx, 0, none⟩)] W fun e W' => (∃ v, e = .returned v) ∧ J [] W' := by
  refine callsIn_of_wp Try.func31 rfl hf ?_ hro
  simp only [Try.ntmps31, List.size_toArray, List.length_cons, List.length_nil, Nat.reduceAdd, Nat.reduceSub, Array.replicate_succ, Array.replicate_zero, List.push_toArray, List.append_toArray, List.nil_append, List.cons_append]
  gi_wp2
  clear c0
  gi_loopw [7] (fun i wr => i = .int .i64 0 ∧ J [] wr) (fun _ _ => 0)
  case atStart => exact ⟨rfl, h0⟩
  case round =>
    obtain ⟨rfl, hJs⟩ := hrel
    gi_wp2
    go_end0
    exact ⟨⟨_, rfl⟩, hJs⟩

def AllS (ps : List Pl) (ys : List (Nat × Int × El)) : Prop := ys = seen ps ps.length
def AllSp (ps : List Pl) (pre : List (Nat × Int × El)) : Prop := ∃ k a, ps[k]? = some a ∧ a.there = true ∧ pre = seen ps (k + 1)

/-- What All hands back is an iterator: all that is there, by places; or a part. -/
theorem all_stops {bx : Nat} {v : Value} {ks : List Nat} (G : Fence) (n : Nat) (hf : G.fn 31) (hro : G.round = none) (hn : 1 ≤ n) (hsm : ps.length ≤ 4096) (hI : ItR ks bx v ps w) (hks : ∀ k ∈ ks, k < w.heap.size) :
    SeqStopsK G n Try.prog 31 #[.pointer (some ⟨bx, 0, none⟩)] encA (KB ks) (AllS ps) (AllSp ps) ps.length w := fun l J Jx W hW hJ _ hY h0 => by
  have hK : KB ks w W := fun k hk => hW.block k (hks k hk)
  have hI2 := hI.keep hK
  have hks2 := hK.lt hks
  obtain ⟨h1, h2, h3⟩ := hI2
  rcases h3 with ⟨rfl, rfl⟩ | ⟨g, cap, rfl, hg, hc⟩
  · exact (all1_nil G n hf hro l bx J W h2 h0).mono fun e W' ⟨he, hj⟩ => ⟨he, .inl ⟨_, rfl, hj⟩⟩
  · exact all1_ G n hf hro hn ks l bx g cap hsm J Jx W hJ hY ⟨h1, h2, .inr ⟨g, cap, rfl, hg, hc⟩⟩ hks2 h0
/-- The iterator's own blocks. -/
def itKs (bx : Nat) (v : Value) : List Nat := match v with
  | .slice (some a) _ _ => [bx, a.block]
  | _ => [bx]
theorem itP_R {bx : Nat} {v : Value} (h : Sat w0 (itP bx v ps * F) w) : ItR (itKs bx v) bx v ps w ∧ ∀ k ∈ itKs bx v, k < w.heap.size := by
  have h : Sat w0 (pc bx 62 [v] * (sl 67 4 v ps.length (flat ps) * F)) w := h.cast (by unfold itP; ac_rfl)
  have c := h.cell 0 rfl
  have hb := h.lt
  rcases h.pull2.slE.2 with ⟨rfl, h0, _⟩ | ⟨g, cap, cur, rfl, _, _, _, h4, hS⟩
  · have hp : ps = [] := List.eq_nil_of_length_eq_zero h0
    exact ⟨⟨by simp [itKs], c, .inl ⟨rfl, hp⟩⟩, by simp [itKs]; exact hb⟩
  · refine ⟨⟨by simp [itKs], c, .inr ⟨g, cap, rfl, by simp [itKs], fun j u hj => h.pull2.slCell j hj⟩⟩, ?_⟩
    have := hS.lt
    simp [itKs]
    omega
theorem itP_ne {bx nb : Nat} {T : TypeId} {cs : List Value} {v : Value} (h : Sat w0 (pc nb T cs * (itP bx v ps * F)) w) : ∀ k ∈ itKs bx v, k ≠ nb := by
  have h : Sat w0 (pc nb T cs * (pc bx 62 [v] * (sl 67 4 v ps.length (flat ps) * F))) w := h.cast (by unfold itP; ac_rfl)
  have h1 := h.ne
  have h2 := h.drop2
  rcases h2.pull2.slE.2 with ⟨rfl, _, _⟩ | ⟨g, cap, cur, rfl, _⟩
  · simp [itKs]
    omega
  · have h3 := h2.slNe
    simp [itKs]
    omega
end
end Go.Proofs.Ytjealmaddjepnaa.Ar
