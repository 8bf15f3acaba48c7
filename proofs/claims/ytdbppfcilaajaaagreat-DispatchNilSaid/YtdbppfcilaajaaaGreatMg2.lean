/-
  What append and make do to an owned heap (laws for the walk). No statement is proved here.
-/
import Derived.Test.YtdbppfcilaajaaaGreatMg1
import Derived.Deep.AppendLies
import Derived.Test.YtdbppfcilaajaaaGreatProg
namespace Go.Proofs.YtdbppfcilaajaaaGreat
open Go.RowKit
set_option linter.unusedVariables false

/-- A slice type: its elements' type, cells, bytes, zero value. -/
structure SlT (P : Program) (t e : TypeId) (size bytes : Nat) (z : Value) : Prop where
  und : P.underlying t = some (.slice e)
  info : ∃ i, P.info? e = some i ∧ i.zero = some z ∧ i.size = size ∧ i.bytes = bytes
  zs : z.cells.size = size
  pos : 0 < size

theorem SlT.mk' {P : Program} {t e : TypeId} {size bytes : Nat} {z : Value} (h : P.underlying t = some (.slice e)) (hi : (P.info? e).map (fun i => (i.zero, i.size, i.bytes)) = some (some z, size, bytes)) (hz : z.cells.size = size) (hp : 0 < size) : SlT P t e size bytes z := by
  obtain ⟨i, h1, h2, h3, h4⟩ := info_parts hi
  exact ⟨h, ⟨i, h1, h2, h3, h4⟩, hz, hp⟩

section
variable {P : Program} {w0 w : World} {F : Hp} {t e : TypeId} {size bytes : Nat} {z v y : Value} {n m : Nat} {xs news : List Value}

theorem run_append_sl0 (E : SlT P t e size bytes z) (ty : TypeId) (hS : Sat w0 (sl e size v n xs * F) w) (hR : Rd w size y m news) (h1 : ∀ u ∈ news, u.oneCell' = true)
    (h63 : n + m ≤ maxLen) (hby : (n + m) * bytes ≤ 140737488355328) :
    ∃ v' w', (Builtin.append_ #[t, t] ty #[v, y]).run P w = .ok v' w' ∧ Sat w0 (sl e size v' (n + m) (xs ++ news) * F) w' := by
  obtain ⟨i, hi, hz, rfl, rfl⟩ := E.info
  have ht := E.und
  have hzs := E.zs
  have hsmall : n + m ≤ 9223372036854775807 := by simp only [maxLen] at h63; omega
  have hS' := hS
  obtain ⟨hxl, hv⟩ := hS.slE
  obtain ⟨hnl, hy⟩ := hR
  by_cases hm : m = 0
  · subst hm
    have hn0 : news = [] := List.eq_nil_of_length_eq_zero (by simpa using hnl)
    subst hn0
    have hy' : ∃ ao cap, y = .slice ao 0 cap := by
      rcases hy with ⟨_, h⟩ | ⟨b, off, cap, rfl, _⟩
      · exact h
      · exact ⟨_, _, rfl⟩
    obtain ⟨ao, cap, rfl⟩ := hy'
    refine ⟨v, w, ?_, by simpa using hS'⟩
    have hf : ∀ w : World, (Builtin.firstCells i.size 0 (.slice ao 0 cap)).run P w = .ok #[] w := by
      intro w
      cases ao with
      | none => simp [Builtin.firstCells]
      | some a => exact run_firstCells_some w i.size 0 a 0 cap [] (by simp) (by simp)
    rcases hv with ⟨rfl, rfl, _⟩ | ⟨g, c2, cur, rfl, hc, _, _, _, _⟩
    · simp [Builtin.append_, run_underlying ht, sizeOf, typeInfo, hi, Builtin.lenOf, hf]
    · simp [Builtin.append_, run_underlying ht, sizeOf, typeInfo, hi, Builtin.lenOf, hf, hc, storeCells]
  · obtain ⟨b, off, cy, rfl, hcells⟩ : ∃ b off cap, y = .slice (some ⟨b, off, none⟩) m cap ∧ ∀ j u, news[j]? = some u → w.cell? ⟨b, off + j, none⟩ = some u := by
      rcases hy with ⟨h, _⟩ | h
      · exact absurd h hm
      · exact h
    have hnews : ∀ j u, news[j]? = some u → w.cell? ((⟨b, off, none⟩ : Addr).add j) = some u := fun j u hj => by rw [Rd.add]; exact hcells j u hj
    rcases hv with ⟨rfl, rfl, hF⟩ | ⟨g, cap, cur, rfl, hc, hcm, hcl, htake, hP⟩
    · have hx : xs = [] := List.eq_nil_of_length_eq_zero (by simpa using hxl)
      subst hx
      have hr := run_append_nil (P := P) w t ty e i z ht hi hz ⟨b, off, none⟩ m cy news hnl hnews (by omega) (by omega) (by have hb := hby; simp only [Nat.zero_add] at hb; omega)
      refine ⟨_, _, hr, ?_⟩
      have hge := grownCap_ge w m 0 e
      have hS2 := hF.drew.alloc (.cells (news.toArray ++ Builtin.zeroCells z.cells (grownCap w m 0 e - m)) e)
      have hS3 : Sat w0 (pc w.heap.size e (news ++ (Builtin.zeroCells z.cells (grownCap w m 0 e - m)).toList) * F) (w.drew.alloc (.cells (news.toArray ++ Builtin.zeroCells z.cells (grownCap w m 0 e - m)) e)) := by
        refine hS2.cast ?_
        unfold pc
        congr 3
        apply Array.ext'
        simp
      rw [Nat.zero_add, List.nil_append]
      refine hS3.slI hge (grownCap_le_maxLen w m 0 e (by omega)) ?_ (by rw [← hnl]; exact List.take_left)
      simp only [List.length_append, hnl, Array.length_toList, size_zeroCells, hzs]
      rw [← Nat.add_mul]
      exact Nat.mul_le_mul_right _ (by omega)
    · by_cases hroom : n + m ≤ cap
      · have hblk := hP.blk.1
        have hfit : n * i.size + news.length ≤ cur.toArray.size := by rw [hnl, List.size_toArray, ← Nat.add_mul]; exact Nat.le_trans (Nat.mul_le_mul_right _ hroom) hcl
        have hr := run_append_room (P := P) w t ty e i ht hi g n cap cur.toArray hblk ⟨b, off, none⟩ m cy news hnl hnews h1 hroom hfit
        refine ⟨_, _, hr, ?_⟩
        have hU : Sat w0 (pc g e (cur.take (n * i.size) ++ news ++ cur.drop (n * i.size + news.length)) * F) (w.setRow g (cur.toArray.toList.take (n * i.size) ++ news ++ cur.toArray.toList.drop (n * i.size + news.length)).toArray) :=
          hP.upd rfl rfl rfl (by simp) (setRow_heap w g cur.toArray _ e _ hblk) (fun k _ hk => setRow_other w g k _ hk)
        refine hU.slI hroom hcm ?_ ?_
        · have hfit' : n * i.size + news.length ≤ cur.length := by simpa using hfit
          simp only [List.length_append, List.length_take, List.length_drop]
          omega
        · rw [htake]
          rw [show (n + m) * i.size = (xs ++ news).length by rw [List.length_append, hxl, hnl, Nat.add_mul]]
          exact List.take_left
      · have hR0 := hS'.rd
        have holds : ∀ j u, xs[j]? = some u → w.cell? ((⟨g, 0, none⟩ : Addr).add j) = some u := by
          intro j u hj
          rw [Rd.add, Nat.zero_add]
          refine hP.cell j ?_
          rw [← htake, List.getElem?_take] at hj
          split at hj
          · exact hj
          · cases hj
        have hr := run_append_grow (P := P) w t ty e i z ht hi hz ⟨g, 0, none⟩ n cap xs hxl holds ⟨b, off, none⟩ m cy news hnl hnews (by omega) (by omega) (growslice_fits (by omega) hby)
        refine ⟨_, _, hr, ?_⟩
        have hge := grownCap_ge w (n + m) cap e
        have hS2 := hP.dropL.drew.alloc (.cells (xs.toArray ++ news.toArray ++ Builtin.zeroCells z.cells (grownCap w (n + m) cap e - (n + m))) e)
        have hS3 : Sat w0 (pc w.heap.size e (xs ++ news ++ (Builtin.zeroCells z.cells (grownCap w (n + m) cap e - (n + m))).toList) * F) (w.drew.alloc (.cells (xs.toArray ++ news.toArray ++ Builtin.zeroCells z.cells (grownCap w (n + m) cap e - (n + m))) e)) := by
          refine hS2.cast ?_
          unfold pc
          congr 3
          apply Array.ext'
          simp
        refine hS3.slI hge (grownCap_le_maxLen w (n + m) cap e h63) ?_ ?_
        · simp only [List.length_append, hnl, hxl, Array.length_toList, size_zeroCells, hzs]
          rw [← Nat.add_mul, ← Nat.add_mul]
          exact Nat.mul_le_mul_right _ (by omega)
        · rw [show (n + m) * i.size = (xs ++ news).length by rw [List.length_append, hxl, hnl, Nat.add_mul]]
          exact List.take_left

theorem run_append_sl (E : SlT P t e size bytes z) (ty : TypeId) (hS : Sat w0 (sl e size v n xs * F) w) (hR : Rd w size y m news) (h1 : ∀ u ∈ news, u.oneCell' = true)
    (h63 : n + m ≤ maxLen) (hby : (n + m) * bytes ≤ 140737488355328) :
    ∃ ao cap w', (Builtin.append_ #[t, t] ty #[v, y]).run P w = .ok (.slice ao (n + m) cap) w' ∧ Sat w0 (sl e size (.slice ao (n + m) cap) (n + m) (xs ++ news) * F) w' := by
  obtain ⟨v', w', hr, h⟩ := run_append_sl0 E ty hS hR h1 h63 hby
  obtain ⟨ao, cap, rfl⟩ := h.rd.len
  exact ⟨ao, cap, w', hr, h⟩

theorem wpList_append_sl {ops : Array Oper} {rest : List Oper} {o : Oper} {a : Act} {Q : Exit → Act → World → Prop} (E : SlT P t e size bytes z) (hgd : o.guard = none) (s x : Operand)
    (ho : o.op = .call { callee := .builtin .append, args := #[s, x], argTypes := #[t, t] })
    (hs : a.eval s = v) (hS : Sat w0 (sl e size v n xs * F) w) (hx : a.eval x = y) (hR : Rd w size y m news) (h1 : ∀ u ∈ news, u.oneCell' = true)
    (h63 : n + m ≤ maxLen) (hby : (n + m) * bytes ≤ 140737488355328)
    (h : ∀ ao cap w', Sat w0 (sl e size (.slice ao (n + m) cap) (n + m) (xs ++ news) * F) w' → wpList P ops Q rest (a.put o.dst (.slice ao (n + m) cap)) w') : wpList P ops Q (o :: rest) a w := by
  refine wpList_plain hgd fun K hK => ?_
  obtain ⟨ao', cap', w', hr, h2⟩ := run_append_sl (P := P) E o.type hS hR h1 h63 hby
  unfold Oper.wp execOp
  simp only [ho, resolve, invoke, builtin, Sem.run_bind, Sem.run_pure, Result.andThen_ok, List.map_toArray, List.map_cons, List.map_nil, hs, hx, hr]
  exact hK _ _ (h ao' cap' w' h2)

/-- At a step of a region that draws its order (for go_region_held3). -/
theorem step_append_sl {ops : Array Oper} {o : Oper} {a : Act} {K : Act → World → Prop} {Q : Exit → Act → World → Prop} {Z : Prop} (E : SlT P t e size bytes z) (hgd : o.guard = none) (s x : Operand)
    (ho : o.op = .call { callee := .builtin .append, args := #[s, x], argTypes := #[t, t] })
    (hs : a.eval s = v) (hS : Sat w0 (sl e size v n xs * F) w) (hx : a.eval x = y) (hR : Rd w size y m news) (h1 : ∀ u ∈ news, u.oneCell' = true)
    (h63 : n + m ≤ maxLen) (hby : (n + m) * bytes ≤ 140737488355328)
    (h : ∀ ao cap w', Sat w0 (sl e size (.slice ao (n + m) cap) (n + m) (xs ++ news) * F) w' → K (a.put o.dst (.slice ao (n + m) cap)) w') :
    if Region.wanted o (yielded ops a.tmps) = true then Oper.wp P o a w K Q else Z := by
  have hw : Region.wanted o (yielded ops a.tmps) = true := by simp [Region.wanted, hgd]
  rw [if_pos hw]
  obtain ⟨ao', cap', w', hr, h2⟩ := run_append_sl (P := P) E o.type hS hR h1 h63 hby
  unfold Oper.wp execOp
  simp only [ho, resolve, invoke, builtin, Sem.run_bind, Sem.run_pure, Result.andThen_ok, List.map_toArray, List.map_cons, List.map_nil, hs, hx, hr]
  exact h ao' cap' w' h2

/-- make([]T, l, c) -/
theorem wpList_make_sl {ops : Array Oper} {rest : List Oper} {o : Oper} {a : Act} {Q : Exit → Act → World → Prop} (E : SlT P t e size bytes z) (hgd : o.guard = none) (l c : Operand)
    (ho : o.op = Op.makeSlice t l c) (kl kc : IntKind) (L C : Int) (n m : Nat) (hl : a.eval l = .int kl L) (hc : a.eval c = .int kc C) (eL : L = n) (eC : C = m) (c1 : n ≤ m) (hC : bytes * m ≤ 281474976710656) (h63 : m ≤ 9223372036854775807)
    (hS : Sat w0 F w)
    (h : ∀ g w', Sat w0 (pc g e (madeCells z.cells (m * size)).toList * F) w' → wpList P ops Q rest (a.put o.dst (.slice (some ⟨g, 0, none⟩) n m)) w') : wpList P ops Q (o :: rest) a w := by
  refine wpList_plain hgd fun K hK => ?_
  obtain ⟨i, hi, hz, rfl, rfl⟩ := E.info
  subst eL
  subst eC
  have hb : (i.bytes : Int) * (m : Int) ≤ 281474976710656 := by
    have h : ((i.bytes * m : Nat) : Int) ≤ 281474976710656 := by omega
    rwa [Int.natCast_mul] at h
  have hr := run_make (P := P) w t e i z E.und hi hz kl kc n m (by omega) (by omega) hb (by omega)
  unfold Oper.wp
  simp [execOp, ho, hl, hc, hr, Result.andThen]
  exact hK _ _ (h _ _ ((hS.alloc _).cast (by simp [pc])))
theorem madeCells_int (n : Nat) : (madeCells (Value.int .i64 0).cells n).toList = (List.replicate n (0 : Int)).map (.int .i64) := by
  apply List.ext_getElem?
  intro i
  simp only [madeCells, Value.cells, Array.toList_map, Array.toList_range, List.getElem?_map, List.map_replicate, List.getElem?_replicate]
  by_cases h : i < n
  · simp [h, Nat.mod_one]
  · simp [h]
end
end Go.Proofs.YtdbppfcilaajaaaGreat

namespace Go.Proofs.YtdbppfcilaajaaaGreat
open Go.RowKit
set_option linter.unusedVariables false

theorem Einti : SlT Tryz.prog 140 3 1 8 (.int .i64 0) := SlT.mk' Tryz.underlying140 (by kernel_rfl) rfl (by decide)

abbrev vi (x : Int) : Value := .int .i64 x
abbrev vp (p : Nat) : Value := .pointer (some ⟨p, 0, none⟩)

structure RingS where
  a : Nat
  cap : Nat
  arr : List Int
  f : Nat

structure RingOk (s : RingS) (most : Nat) (xs : List Int) : Prop where
  pos : 0 < most
  small : most ≤ 4096
  len : s.arr.length = most
  f : s.f < most
  n : xs.length ≤ most
  at_ : ∀ i, i < xs.length → s.arr[(s.f + i) % most]? = xs[i]?

/-- The ring's own array. -/
abbrev RingS.v (s : RingS) (most : Nat) : Value := .slice (some ⟨s.a, 0, none⟩) most s.cap
abbrev ringA (s : RingS) (most : Nat) : Hp := sl 3 1 (s.v most) most (s.arr.map vi)
abbrev ringB (p : Nat) (s : RingS) (most n : Nat) : Hp := pc p 327 [s.v most, vi s.f, vi n]
def ringP (p : Nat) (most : Nat) (xs : List Int) : Hp := ex fun s : RingS => given (RingOk s most xs) (ringB p s most xs.length * ringA s most)

structure RingIs (w0 : World) (p : Nat) (s : RingS) (most : Nat) (xs : List Int) (F : Hp) (w : World) : Prop where
  ok : RingOk s most xs
  sat : Sat w0 (ringB p s most xs.length * (ringA s most * F)) w
  c0 : w.cell? ⟨p, 0, none⟩ = some (.slice (some ⟨s.a, 0, none⟩) most s.cap)
  c1 : w.cell? ⟨p, 1, none⟩ = some (vi s.f)
  c2 : w.cell? ⟨p, 2, none⟩ = some (vi xs.length)
  fz : ∀ i, w.frozen? ⟨p, i, none⟩ = false
  fa : ∀ i, w.frozen? ⟨s.a, i, none⟩ = false
  ne : p ≠ s.a
  ca : ∀ i, i < most → w.cell? ⟨s.a, i, none⟩ = some (vi (s.arr[i]?.getD 0))

theorem Sat.ring {w0 w : World} {p most : Nat} {xs : List Int} {F : Hp} (h : Sat w0 (ringP p most xs * F) w) : ∃ s, RingIs w0 p s most xs F w := by
  obtain ⟨s, h⟩ := h.exE
  obtain ⟨ok, h⟩ := h.givenE
  have h' := h.cast (sep_assoc _ _ _)
  have h2 := h'.pull2
  refine ⟨s, ok, h', h'.cell 0 rfl, h'.cell 1 rfl, h'.cell 2 rfl, h'.free, h2.slFree, h'.slNe, fun i hi => h2.slCell i ?_⟩
  have : i < s.arr.length := by rw [ok.len]; exact hi
  simp [this]

theorem Sat.ringI {w0 w : World} {p most : Nat} {xs : List Int} {F : Hp} (s : RingS) (ok : RingOk s most xs)
    (h : Sat w0 (ringB p s most xs.length * (ringA s most * F)) w) : Sat w0 (ringP p most xs * F) w :=
  Sat.exI s (Sat.givenI ok (h.cast (sep_assoc _ _ _).symm))

/-! ### none -/
theorem ring_none_at (p a : Nat) (len cap : Nat) (w : World) (hlen : 0 < len) (hm : len ≤ 4096)
    (c0 : w.cell? ⟨p, 0, none⟩ = some (.slice (some ⟨a, 0, none⟩) len cap)) :
    Calls Tryz.prog 182 #[vp p] w fun e w' => e = .returned (.bool false) ∧ w = w' := by
  have h0 : ((len : Int) == 0) = false := by simp; omega
  go_enter Tryz.func182, Tryz.ntmps182
  go_wp2
  go_ret
  exact ⟨rfl, rfl⟩

theorem ring_none {w0 w : World} {p : Nat} {s : RingS} {most : Nat} {xs : List Int} {F : Hp} (h : RingIs w0 p s most xs F w) :
    Calls Tryz.prog 182 #[vp p] w fun e w' => e = .returned (.bool false) ∧ w = w' :=
  ring_none_at p s.a most s.cap w h.ok.pos h.ok.small h.c0

/-! ### Push -/
theorem ring_push_at (p a : Nat) (x : Int) (len cap f n i : Nat) (w : World) (hpa : p ≠ a) (y : Int) (hlen : 0 < len) (hm : len ≤ 4096) (hf : f < len) (hn : n < len)
    (hi : i = (f + n) % len)
    (c0 : w.cell? ⟨p, 0, none⟩ = some (.slice (some ⟨a, 0, none⟩) len cap))
    (c1 : w.cell? ⟨p, 1, none⟩ = some (.int .i64 f))
    (c2 : w.cell? ⟨p, 2, none⟩ = some (.int .i64 n))
    (ca : w.cell? ⟨a, i, none⟩ = some (.int .i64 y))
    (fp : w.frozen? ⟨p, 2, none⟩ = false) (fa : w.frozen? ⟨a, i, none⟩ = false) :
    Calls Tryz.prog 179 #[vp p, vi x] w fun e w' => e = .returned (.int .i64 0) ∧ ∃ k, w' = (((w.drewN k).setCell ⟨a, i, none⟩ (vi x)).setCell ⟨p, 2, none⟩ (vi (n + 1))) := by
  have h0 : ((n : Int) == (len : Int)) = false := by simp; omega
  have hlt : i < len := by rw [hi]; exact Nat.mod_lt _ hlen
  have ht : ((f : Int) + n) % len = (i : Int) := by rw [hi]; simp
  clear hi
  go_enter Tryz.func179, Tryz.ntmps179
  go_wp2_with (go_at_call 182; refine (ring_none_at p a len cap _ hlen hm c0).mono ?_; rintro e w' ⟨rfl, rfl⟩)
  go_quiet (fail)
  go_wp2
  refine wp_quiet_tail 21 (by kernel_rfl) (by kernel_rfl) ?_
  simp only [List.take_succ_cons, List.take_zero, List.drop_succ_cons, List.drop_zero]
  repeat (go_big_quiet_step (fail))
  refine wpQuiet_nil ?_
  go_wp2
  go_ret
  exact ⟨rfl, _, rfl⟩

theorem ring_push_full_at (p a : Nat) (x : Int) (len cap f : Nat) (w : World) (hlen : 0 < len) (hm : len ≤ 4096)
    (c0 : w.cell? ⟨p, 0, none⟩ = some (.slice (some ⟨a, 0, none⟩) len cap))
    (c1 : w.cell? ⟨p, 1, none⟩ = some (.int .i64 f))
    (c2 : w.cell? ⟨p, 2, none⟩ = some (.int .i64 len)) :
    Calls Tryz.prog 179 #[vp p, vi x] w fun e w' => e = .returned (.int .i64 3) ∧ ∃ k, w' = w.drewN k := by
  go_enter Tryz.func179, Tryz.ntmps179
  go_wp2_with (go_at_call 182; refine (ring_none_at p a len cap _ hlen hm c0).mono ?_; rintro e w' ⟨rfl, rfl⟩)
  go_quiet (fail)
  go_wp2
  go_ret
  exact ⟨rfl, _, rfl⟩

def pushL (most : Nat) (xs : List Int) (x : Int) : List Int := if xs.length = most then xs else xs ++ [x]
def pushE (most : Nat) (xs : List Int) : Int := if xs.length = most then 3 else 0

theorem RingOk.push {s : RingS} {most : Nat} {xs : List Int} (h : RingOk s most xs) (hn : xs.length < most) (x : Int) :
    RingOk ⟨s.a, s.cap, s.arr.set ((s.f + xs.length) % most) x, s.f⟩ most (xs ++ [x]) := by
  have hpos := h.pos
  refine ⟨h.pos, h.small, by simp [h.len], h.f, by simp; omega, fun i hi => ?_⟩
  have hj : (s.f + xs.length) % most < most := Nat.mod_lt _ h.pos
  simp only [List.length_append, List.length_singleton] at hi
  show (s.arr.set _ x)[(s.f + i) % most]? = _
  by_cases hi2 : i < xs.length
  · rw [List.getElem?_set_ne ?_, List.getElem?_append_left hi2]
    · exact h.at_ i hi2
    · intro e
      have h1 := h.f
      have := Nat.mod_eq_sub_mod (a := s.f + xs.length) (b := most)
      have := Nat.mod_eq_sub_mod (a := s.f + i) (b := most)
      have a1 : (s.f + xs.length) % most = if s.f + xs.length < most then s.f + xs.length else s.f + xs.length - most := by
        split
        · exact Nat.mod_eq_of_lt (by omega)
        · rw [Nat.mod_eq_sub_mod (by omega)]; exact Nat.mod_eq_of_lt (by omega)
      have a2 : (s.f + i) % most = if s.f + i < most then s.f + i else s.f + i - most := by
        split
        · exact Nat.mod_eq_of_lt (by omega)
        · rw [Nat.mod_eq_sub_mod (by omega)]; exact Nat.mod_eq_of_lt (by omega)
      rw [a1, a2] at e
      split at e <;> split at e <;> omega
  · obtain rfl : i = xs.length := by omega
    rw [List.getElem?_set_self (by rw [h.len]; exact hj), List.getElem?_append_right (Nat.le_refl _)]
    simp

theorem ring_push {w0 w : World} {p most : Nat} {xs : List Int} {F : Hp} (h : Sat w0 (ringP p most xs * F) w) (x : Int) :
    Calls Tryz.prog 179 #[vp p, vi x] w fun e w' => e = .returned (vi (pushE most xs)) ∧ Sat w0 (ringP p most (pushL most xs x) * F) w' := by
  obtain ⟨s, R⟩ := h.ring
  have hn := R.ok.n
  by_cases hf : xs.length = most
  · unfold pushL pushE
    rw [if_pos hf, if_pos hf]
    refine (ring_push_full_at p s.a x most s.cap s.f w R.ok.pos R.ok.small R.c0 R.c1 (by rw [R.c2, hf])).mono ?_
    rintro e w' ⟨rfl, k, rfl⟩
    exact ⟨rfl, h.drewN k⟩
  · unfold pushL pushE
    rw [if_neg hf, if_neg hf]
    have hj : (s.f + xs.length) % most < most := Nat.mod_lt _ R.ok.pos
    refine (ring_push_at p s.a x most s.cap s.f xs.length _ w R.ne _ R.ok.pos R.ok.small R.ok.f (by omega) rfl R.c0 R.c1 R.c2 (R.ca _ hj) (R.fz _) (R.fa _)).mono ?_
    rintro e w' ⟨rfl, k, rfl⟩
    refine ⟨rfl, Sat.ringI ⟨s.a, s.cap, s.arr.set ((s.f + xs.length) % most) x, s.f⟩ (R.ok.push (by omega) x) ?_⟩
    have h2 := ((R.sat.drewN k).pull2.slStore ((s.f + xs.length) % most) (by omega) (vi x)).pull2
    have h3 := h2.store 2 (vi (xs.length + 1))
    refine h3.cast ?_
    simp [ringB, ringA, RingS.v, List.map_set]

/-! ### Pop -/
theorem ring_pop_at (p a : Nat) (len cap f n i : Nat) (w : World) (y : Int) (hlen : 0 < len) (hm : len ≤ 4096) (hf : f < len) (hn0 : 0 < n) (hn : n ≤ len)
    (hi : i = (f + 1) % len)
    (c0 : w.cell? ⟨p, 0, none⟩ = some (.slice (some ⟨a, 0, none⟩) len cap))
    (c1 : w.cell? ⟨p, 1, none⟩ = some (.int .i64 f))
    (c2 : w.cell? ⟨p, 2, none⟩ = some (.int .i64 n))
    (ca : w.cell? ⟨a, f, none⟩ = some (.int .i64 y))
    (fp1 : w.frozen? ⟨p, 1, none⟩ = false) (fp : w.frozen? ⟨p, 2, none⟩ = false) :
    Calls Tryz.prog 134 #[vp p] w fun e w' => e = .returned (.tuple #[vi y, .bool true]) ∧ ∃ k, w' = (((w.drewN k).setCell ⟨p, 1, none⟩ (vi i)).setCell ⟨p, 2, none⟩ (vi (n - 1))) := by
  have h0 : ((n : Int) == 0) = false := by simp; omega
  have hlt : i < len := by rw [hi]; exact Nat.mod_lt _ hlen
  have ht : ((f : Int) + 1) % len = (i : Int) := by rw [hi]; simp
  clear hi
  go_enter Tryz.func134, Tryz.ntmps134
  go_wp2_with (go_at_call 182; refine (ring_none_at p a len cap _ hlen hm c0).mono ?_; rintro e w' ⟨rfl, rfl⟩)
  go_quiet (fail)
  go_wp2
  refine wp_quiet_tail 14 (by kernel_rfl) (by kernel_rfl) ?_
  simp only [List.take_succ_cons, List.take_zero, List.drop_succ_cons, List.drop_zero]
  repeat (go_big_quiet_step (fail))
  refine wpQuiet_nil ?_
  go_wp2
  go_ret2
  exact ⟨rfl, _, rfl⟩

theorem ring_pop_none_at (p a : Nat) (len cap : Nat) (w : World) (hlen : 0 < len) (hm : len ≤ 4096)
    (c0 : w.cell? ⟨p, 0, none⟩ = some (.slice (some ⟨a, 0, none⟩) len cap))
    (c2 : w.cell? ⟨p, 2, none⟩ = some (.int .i64 0)) :
    Calls Tryz.prog 134 #[vp p] w fun e w' => e = .returned (.tuple #[vi 0, .bool false]) ∧ w = w' := by
  go_enter Tryz.func134, Tryz.ntmps134
  go_wp2_with (go_at_call 182; refine (ring_none_at p a len cap _ hlen hm c0).mono ?_; rintro e w' ⟨rfl, rfl⟩)
  go_ret2
  exact ⟨rfl, rfl⟩

theorem mod_next {f i most : Nat} (h : f < most) : ((f + 1) % most + i) % most = (f + (i + 1)) % most := by
  rw [Nat.mod_add_mod]
  congr 1
  omega

theorem RingOk.pop {s : RingS} {most : Nat} {x : Int} {xs : List Int} (h : RingOk s most (x :: xs)) : RingOk ⟨s.a, s.cap, s.arr, (s.f + 1) % most⟩ most xs := by
  have hn := h.n
  simp only [List.length_cons] at hn
  refine ⟨h.pos, h.small, h.len, Nat.mod_lt _ h.pos, by omega, fun i hi => ?_⟩
  have := h.at_ (i + 1) (by simp only [List.length_cons]; omega)
  show s.arr[((s.f + 1) % most + i) % most]? = _
  rw [mod_next h.f, this]
  simp

theorem ring_pop {w0 w : World} {p most : Nat} {xs : List Int} {F : Hp} (h : Sat w0 (ringP p most xs * F) w) :
    Calls Tryz.prog 134 #[vp p] w fun e w' => e = .returned (.tuple #[vi (xs.headD 0), .bool !xs.isEmpty]) ∧ Sat w0 (ringP p most xs.tail * F) w' := by
  obtain ⟨s, R⟩ := h.ring
  match xs, h, R with
  | [], h, R =>
    refine (ring_pop_none_at p s.a most s.cap w R.ok.pos R.ok.small R.c0 R.c2).mono ?_
    rintro e w' ⟨rfl, rfl⟩
    exact ⟨rfl, h⟩
  | x :: xs, h, R =>
    have hn := R.ok.n
    have hx := R.ok.at_ 0 (by simp)
    rw [Nat.add_zero, Nat.mod_eq_of_lt R.ok.f] at hx
    have ca := R.ca s.f R.ok.f
    rw [hx] at ca
    refine (ring_pop_at p s.a most s.cap s.f (x :: xs).length _ w x R.ok.pos R.ok.small R.ok.f (by simp) hn rfl R.c0 R.c1 R.c2 ca (R.fz _) (R.fz _)).mono ?_
    rintro e w' ⟨rfl, k, rfl⟩
    refine ⟨rfl, Sat.ringI ⟨s.a, s.cap, s.arr, (s.f + 1) % most⟩ R.ok.pop ?_⟩
    have h2 := ((R.sat.drewN k).store 1 (vi ((s.f + 1) % most : Nat))).store 2 (vi ((x :: xs).length - 1))
    refine h2.cast ?_
    simp [ringB, ringA, RingS.v]

/-! ### Len, Most -/
theorem ring_most {w0 w : World} {p most : Nat} {xs : List Int} {F : Hp} (h : Sat w0 (ringP p most xs * F) w) :
    Calls Tryz.prog 180 #[vp p] w fun e w' => e = .returned (vi most) ∧ w = w' := by
  obtain ⟨s, R⟩ := h.ring
  have c0 := R.c0
  go_enter Tryz.func180, Tryz.ntmps180
  go_wp2
  go_ret
  exact ⟨rfl, rfl⟩
end Go.Proofs.YtdbppfcilaajaaaGreat
