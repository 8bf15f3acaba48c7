/-
  The global queue's row of nodes (for place, law19): a row of blocks, each with a number and where the next one is. No statement is proved here.
-/
import Derived.Test.YtjgemfgneiaabaaGreatMg1
import Derived.Test.YtjgemfgneiaabaaGreatOwn
import Derived.Test.YtjgemfgneiaabaaGreatMg2
namespace Go.Proofs.YtjgemfgneiaabaaGreat
set_option linter.unusedVariables false

namespace Gq
abbrev vi (x : Int) : Value := .int .i64 x
abbrev vp (p : Nat) : Value := .pointer (some ⟨p, 0, none⟩)
/-- Where a row begins, if what is behind it begins at e. -/
def fst (e : Value) : List (Nat × Int) → Value
  | [] => e
  | (b, _) :: _ => vp b
/-- The nodes of a row, in front of what begins at e. -/
def sg (T : TypeId) (e : Value) : List (Nat × Int) → Hp
  | [] => emp
  | (b, g) :: r => pc b T [vi g, fst e r] * sg T e r
/-- Where the row's last one is. -/
def lst (n : Value) (ns : List (Nat × Int)) : Value := match ns.getLast? with
  | none => n
  | some (b, _) => vp b
variable {w0 w : World} {F : Hp} {T U : TypeId}
theorem fst_append (e : Value) (a b : List (Nat × Int)) : fst e (a ++ b) = fst (fst e b) a := by
  cases a <;> rfl
theorem sg_append (e : Value) : ∀ a b : List (Nat × Int), sg T e (a ++ b) = sg T (fst e b) a * sg T e b
  | [], b => (emp_sep _).symm
  | (x, g) :: a, b => by
    show pc x T [vi g, fst e (a ++ b)] * sg T e (a ++ b) = _
    rw [sg_append e a b, fst_append]
    show _ = (pc x T [vi g, fst (fst e b) a] * sg T (fst e b) a) * sg T e b
    rw [sep_assoc]
theorem lst_snoc (n : Value) (a : List (Nat × Int)) (x : Nat × Int) : lst n (a ++ [x]) = vp x.1 := by
  unfold lst
  rw [List.getLast?_concat]
/-- The queue itself, and its row. -/
def gq (U T : TypeId) (n : Value) (q : Nat) (xs : List Int) : Hp := ex fun ns : List (Nat × Int) => given (ns.map Prod.snd = xs) (pc q U [fst n ns, lst n ns, vi ns.length] * sg T n ns)
theorem gq_open {n : Value} {q : Nat} {xs : List Int} (h : Sat w0 (gq U T n q xs * F) w) : ∃ ns : List (Nat × Int), ns.map Prod.snd = xs ∧ Sat w0 (pc q U [fst n ns, lst n ns, vi ns.length] * (sg T n ns * F)) w := by
  obtain ⟨ns, h1⟩ := Sat.exE h
  obtain ⟨h2, h3⟩ := h1.givenE
  exact ⟨ns, h2, h3.cast (sep_assoc _ _ _)⟩
theorem gq_shut {n : Value} {q : Nat} {xs : List Int} (ns : List (Nat × Int)) (hx : ns.map Prod.snd = xs) (h : Sat w0 (pc q U [fst n ns, lst n ns, vi ns.length] * (sg T n ns * F)) w) : Sat w0 (gq U T n q xs * F) w :=
  Sat.exI ns (Sat.givenI hx (h.cast (sep_assoc _ _ _).symm))
/-- A row's node at a place: what is ahead of it, itself, what is behind it. -/
theorem sg_cut (e : Value) (a : List (Nat × Int)) (x : Nat) (g : Int) (r : List (Nat × Int)) : sg T e (a ++ (x, g) :: r) = sg T (vp x) a * (pc x T [vi g, fst e r] * sg T e r) := sg_append e a ((x, g) :: r)
/-- One at the end of a row that is not empty: the last one's cell is stored. -/
theorem sg_snoc {n : Value} {a : List (Nat × Int)} {c : Nat} {h : Int} {x : Nat} {g : Int} (h1 : Sat w0 (sg T n (a ++ [(c, h)]) * (pc x T [vi g, n] * F)) w) :
    w.cell? ⟨c, 1, none⟩ = some n ∧ w.frozen? ⟨c, 1, none⟩ = false ∧ Sat w0 (sg T n ((a ++ [(c, h)]) ++ [(x, g)]) * F) (w.setCell ⟨c, 1, none⟩ (vp x)) := by
  rw [sg_cut] at h1
  have h2 : Sat w0 (pc c T [vi h, n] * (sg T (vp c) a * (pc x T [vi g, n] * F))) w := h1.cast (by show (sg T (vp c) a * (pc c T [vi h, n] * emp)) * _ = _; rw [sep_emp]; ac_rfl)
  refine ⟨h2.cell 1 rfl, h2.free 1, ?_⟩
  have h3 := h2.store 1 (vp x)
  rw [sg_append, sg_cut]
  exact h3.cast (by show pc c T [vi h, vp x] * (sg T (vp c) a * (pc x T [vi g, n] * F)) = ((sg T (vp c) a * (pc c T [vi h, vp x] * emp)) * (pc x T [vi g, n] * emp)) * F; rw [sep_emp, sep_emp]; ac_rfl)
/-- One that is not the first is cut out: the one ahead of it points at what is behind. -/
theorem sg_del {n : Value} {a : List (Nat × Int)} {c : Nat} {h : Int} {x : Nat} {g : Int} {r : List (Nat × Int)} (h1 : Sat w0 (sg T n (a ++ (c, h) :: (x, g) :: r) * F) w) :
    w.cell? ⟨x, 0, none⟩ = some (vi g) ∧ w.cell? ⟨x, 1, none⟩ = some (fst n r) ∧ w.cell? ⟨c, 1, none⟩ = some (vp x) ∧ w.frozen? ⟨c, 1, none⟩ = false ∧ Sat w0 (sg T n (a ++ (c, h) :: r) * F) (w.setCell ⟨c, 1, none⟩ (fst n r)) := by
  rw [sg_cut] at h1
  have h2 : Sat w0 (pc c T [vi h, vp x] * (sg T (vp c) a * (pc x T [vi g, fst n r] * (sg T n r * F)))) w := h1.cast (by show (sg T (vp c) a * (pc c T [vi h, vp x] * (pc x T [vi g, fst n r] * sg T n r))) * F = _; ac_rfl)
  have h4 := h2.dropL.dropL
  refine ⟨h4.cell 0 rfl, h4.cell 1 rfl, h2.cell 1 rfl, h2.free 1, ?_⟩
  have h3 := h2.store 1 (fst n r)
  rw [sg_cut]
  exact (h3.cast (show _ = pc x T [vi g, fst n r] * ((sg T (vp c) a * (pc c T [vi h, fst n r] * sg T n r)) * F) by show pc c T [vi h, fst n r] * (sg T (vp c) a * (pc x T [vi g, fst n r] * (sg T n r * F))) = _; ac_rfl)).dropL
/-- A node's cells can be read. -/
theorem sg_at {n : Value} {a : List (Nat × Int)} {x : Nat} {g : Int} {r : List (Nat × Int)} (h1 : Sat w0 (sg T n (a ++ (x, g) :: r) * F) w) : w.cell? ⟨x, 0, none⟩ = some (vi g) ∧ w.cell? ⟨x, 1, none⟩ = some (fst n r) := by
  rw [sg_cut] at h1
  have h2 : Sat w0 (pc x T [vi g, fst n r] * (sg T (vp x) a * (sg T n r * F))) w := h1.cast (by ac_rfl)
  exact ⟨h2.cell 0 rfl, h2.cell 1 rfl⟩
end Gq
end Go.Proofs.YtjgemfgneiaabaaGreat

namespace Go.Proofs.YtjgemfgneiaabaaGreat.Gq
open Go.RowKit
set_option linter.unusedVariables false

abbrev gQ (q : Nat) (xs : List Int) : Hp := gq 114 136 (.pointer none) q xs
section
variable {w0 w : World} {F : Hp} {q : Nat} {xs : List Int}
theorem g_new (h : Sat w0 F w) : Calls Tryz.prog 19 #[] w fun e w' => ∃ q, e = .returned (vp q) ∧ Sat w0 (gQ q [] * F) w' := by
  have H := Lib.hid (h.alloc (.cells #[.pointer none, .pointer none, vi 0] 114))
  clear h
  go_enter Tryz.func19, Tryz.ntmps19
  go_wp2
  go_ret
  exact ⟨_, rfl, gq_shut [] rfl (H.out.cast (by show _ = pc _ _ _ * (emp * F); rw [emp_sep]; rfl))⟩
set_option maxRecDepth 100000 in
set_option maxHeartbeats 4000000 in
theorem g_put (h : Sat w0 (gQ q xs * F) w) {ao : Option Addr} {cap : Nat} {ys : List Int} (hA : ∀ w', Sat w0 F w' → RdI w' (.slice ao ys.length cap) ys) (hl : xs.length + ys.length ≤ 1000000) :
    Calls Tryz.prog 80 #[vp q, .slice ao ys.length cap] w fun e w' => e = .returned (.tuple #[]) ∧ Sat w0 (gQ q (xs ++ ys) * F) w' := by
  have H := Lib.hid h
  have HA := Lib.hid hA
  clear h hA
  go_enter Tryz.func80, Tryz.ntmps80
  go_wp2_with fail
  go_loopw [11] (fun ix wr => ∃ k : Nat, k ≤ ys.length ∧ ix = vi k ∧ Sat w0 (gQ q (xs ++ ys.take k) * F) wr) (fun ix _ => ys.length - (intOf ix).toNat)
  case atStart => exact ⟨0, Nat.zero_le _, rfl, H.out.cast (by simp)⟩
  case round =>
    clear H
    obtain ⟨k, hk, rfl, hS⟩ := hrel
    obtain ⟨ns, hns, hS1⟩ := gq_open hS
    have hnl : ns.length = xs.length + k := by
      have := congrArg List.length hns
      simp at this
      omega
    by_cases hlt : k < ys.length
    · have hki : (k : Int) < (ys.length : Int) := by omega
      obtain ⟨b0, o0, rfl, hrd⟩ := RdI.at_ (HA.out wr hS.dropL) (by omega)
      have cg := hrd k hlt
      have hgl : ys.take (k + 1) = ys.take k ++ [ys[k]?.getD 0] := by rw [List.take_add_one]; simp [hlt]
      obtain ⟨g, hg⟩ : ∃ g, ys[k]?.getD 0 = g := ⟨_, rfl⟩
      rw [hg] at cg hgl
      have hbig : IntKind.i64.wrap ((ns.length : Int) + 1) = ((ns.length + 1 : Nat) : Int) := by
        rw [IntWalk.i64_in _ (by omega)]; omega
      have HGL := Lib.hid hgl
      have HNS := Lib.hid hns
      clear hg hgl hns hnl hS hrd
      obtain ⟨ln, hln⟩ : ∃ ln, ns.length = ln := ⟨_, rfl⟩
      rw [hln] at hS1 hbig
      have HLN := Lib.hid hln
      have hx := hS1.alloc (.cells #[vi g, .pointer none] 136)
      have hx : Sat w0 (pc wr.heap.size 136 [vi g, .pointer none] * (pc q 114 [fst (.pointer none) ns, lst (.pointer none) ns, vi ln] * (sg 136 (.pointer none) ns * F))) (wr.alloc (.cells #[vi g, .pointer none] 136)) := hx
      have H1 := Lib.hid hx
      have d0 := hx.pull2.cell 0 rfl
      have d1 := hx.pull2.cell 1 rfl
      have d2 := hx.pull2.cell 2 rfl
      have f0 := hx.pull2.free 0
      have f1 := hx.pull2.free 1
      have f2 := hx.pull2.free 2
      clear hln hS1 hx
      rcases List.eq_nil_or_concat ns with hns | ⟨a, ⟨c, h⟩, hns⟩
      · have hl0 : lst (.pointer none) ns = .pointer none := by rw [hns]; rfl
        have HN := Lib.hid hns
        have g1 := (H1.out.pull2.store 0 (vp wr.heap.size)).free 1
        have g2 := ((H1.out.pull2.store 0 (vp wr.heap.size)).store 1 (vp wr.heap.size)).free 2
        have k2 := ((H1.out.pull2.store 0 (vp wr.heap.size)).store 1 (vp wr.heap.size)).cell 2 rfl
        rw [hl0] at d1
        clear hl0 hns
        go_wp2
        go_roundw
        case rel =>
          refine ⟨k + 1, by omega, by go_num, ?_⟩
          rw [HGL.out, ← List.append_assoc]
          have h2 := ((H1.out.pull2.store 0 (vp wr.heap.size)).store 1 (vp wr.heap.size)).store 2 (vi ((ln + 1 : Nat) : Int))
          refine gq_shut (ns ++ [(wr.heap.size, g)]) (by rw [List.map_append, HNS.out]; rfl) ?_
          have hn := HN.out
          have hlen := HLN.out
          subst hn
          subst hlen
          exact h2.cast (by show pc q _ [vp wr.heap.size, vp wr.heap.size, _] * (pc wr.heap.size _ _ * (emp * F)) = pc q _ [vp wr.heap.size, vp wr.heap.size, _] * ((pc wr.heap.size _ _ * emp) * F); rw [emp_sep, sep_emp]; rfl)
        case measure => simp [intOf]; omega
      · rw [List.concat_eq_append] at hns
        have hl0 : lst (.pointer none) ns = vp c := by rw [hns]; exact lst_snoc _ _ _
        have hf0 : fst (.pointer none) (ns ++ [(wr.heap.size, g)]) = fst (.pointer none) ns := by rw [hns, fst_append, fst_append, fst_append]; rfl
        have hsg : Sat w0 (sg 136 (.pointer none) (a ++ [(c, h)]) * (pc wr.heap.size 136 [vi g, .pointer none] * (pc q 114 [fst (.pointer none) ns, lst (.pointer none) ns, vi ln] * F))) (wr.alloc (.cells #[vi g, .pointer none] 136)) := H1.out.cast (by rw [hns]; ac_rfl)
        have hsn := sg_snoc hsg
        have cc := hsn.1
        have fc := hsn.2.1
        have hsn := hsn.2
        have HS2 := Lib.hid hsn.2
        have HN := Lib.hid hns
        have HF0 := Lib.hid hf0
        have hd := hsn.2.dropL
        have e0 := hd.cell 1 rfl
        have e1 := hd.cell 2 rfl
        have e2 := hd.free 1
        have e3 := hd.free 2
        have g2 := (hd.store 1 (vp wr.heap.size)).free 2
        have k2 := (hd.store 1 (vp wr.heap.size)).cell 2 rfl
        rw [hl0] at d1
        clear hl0 hns hsg hsn hf0 hd
        go_wp2
        go_roundw
        case rel =>
          refine ⟨k + 1, by omega, by go_num, ?_⟩
          rw [HGL.out, ← List.append_assoc]
          have h2 := (HS2.out.pull2.store 1 (vp wr.heap.size)).store 2 (vi ((ln + 1 : Nat) : Int))
          refine gq_shut (ns ++ [(wr.heap.size, g)]) (by rw [List.map_append, HNS.out]; rfl) ?_
          rw [HF0.out, List.length_append, HLN.out, lst_snoc]
          rw [← HN.out] at h2
          exact h2
        case measure => simp [intOf]; omega
    · obtain rfl : k = ys.length := by omega
      have hki : ¬ (ys.length : Int) < (ys.length : Int) := by omega
      have HS := Lib.hid hS
      clear hS hS1
      go_wp2
      go_end0
      exact ⟨rfl, HS.out.cast (by rw [List.take_length])⟩
end
end Go.Proofs.YtjgemfgneiaabaaGreat.Gq
