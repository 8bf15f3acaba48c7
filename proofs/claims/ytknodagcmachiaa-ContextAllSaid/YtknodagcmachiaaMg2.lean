/-
  What append and make do to an owned heap (laws for the walk). No statement is proved here.
-/
import Derived.Test.YtknodagcmachiaaMg1
import Derived.Deep.AppendLies
namespace Go.Proofs.Ytknodagcmachiaa
open Go.RowKit
set_option linter.unusedVariables false

/-- A slice type: its elements' type, cells, bytes, zero value. -/
structure SlT (P : Program) (t e : TypeId) (size bytes : Nat) (z : Value) : Prop where
  und : P.underlying t = some (.slice e)
  info : ∃ i, P.info? e = some i ∧ i.zero = some z ∧ i.size = size ∧ i.bytes = bytes
  zs : z.cells.size = size
  pos : 0 < size

theorem SlT.mk' {P : Program} {t e : TypeId} {size bytes : Nat} {z : Value} (h : P.underlying t = some (.slice e)) (hi : (P.info? e).map (fun i => (i.zero, i.size, i.bytes)) = some (some z, size, bytes)) (hz : z.cells.size = size) (hp : 0 < size) : SlT P t e size bytes z := by
  obtain ⟨i, h1, h2, h3, h4⟩ := info_parts hi
  exact ⟨h, ⟨i, h1, h2, h3, h4⟩, hz, hp⟩

section
variable {P : Program} {w0 w : World} {F : Hp} {t e : TypeId} {size bytes : Nat} {z v y : Value} {n m : Nat} {xs news : List Value}

theorem run_append_sl0 (E : SlT P t e size bytes z) (ty : TypeId) (hS : Sat w0 (sl e size v n xs * F) w) (hR : Rd w size y m news) (h1 : ∀ u ∈ news, u.oneCell' = true)
    (h63 : n + m ≤ maxLen) (hby : (n + m) * bytes ≤ 140737488355328) :
    ∃ v' w', (Builtin.append_ #[t, t] ty #[v, y]).run P w = .ok v' w' ∧ Sat w0 (sl e size v' (n + m) (xs ++ news) * F) w' := by
  obtain ⟨i, hi, hz, rfl, rfl⟩ := E.info
  have ht := E.und
  have hzs := E.zs
  have hsmall : n + m ≤ 9223372036854775807 := by simp only [maxLen] at h63; omega
  have hS' := hS
  obtain ⟨hxl, hv⟩ := hS.slE
  obtain ⟨hnl, hy⟩ := hR
  by_cases hm : m = 0
  · subst hm
    have hn0 : news = [] := List.eq_nil_of_length_eq_zero (by simpa using hnl)
    subst hn0
    have hy' : ∃ ao cap, y = .slice ao 0 cap := by
      rcases hy with ⟨_, h⟩ | ⟨b, off, cap, rfl, _⟩
      · exact h
      · exact ⟨_, _, rfl⟩
    obtain ⟨ao, cap, rfl⟩ := hy'
    refine ⟨v, w, ?_, by simpa using hS'⟩
    have hf : ∀ w : World, (Builtin.firstCells i.size 0 (.slice ao 0 cap)).run P w = .ok #[] w := by
      intro w
      cases ao with
      | none => simp [Builtin.firstCells]
      | some a => exact run_firstCells_some w i.size 0 a 0 cap [] (by simp) (by simp)
    rcases hv with ⟨rfl, rfl, _⟩ | ⟨g, c2, cur, rfl, hc, _, _, _, _⟩
    · simp [Builtin.append_, run_underlying ht, sizeOf, typeInfo, hi, Builtin.lenOf, hf]
    · simp [Builtin.append_, run_underlying ht, sizeOf, typeInfo, hi, Builtin.lenOf, hf, hc, storeCells]
  · obtain ⟨b, off, cy, rfl, hcells⟩ : ∃ b off cap, y = .slice (some ⟨b, off, none⟩) m cap ∧ ∀ j u, news[j]? = some u → w.cell? ⟨b, off + j, none⟩ = some u := by
      rcases hy with ⟨h, _⟩ | h
      · exact absurd h hm
      · exact h
    have hnews : ∀ j u, news[j]? = some u → w.cell? ((⟨b, off, none⟩ : Addr).add j) = some u := fun j u hj => by rw [Rd.add]; exact hcells j u hj
    rcases hv with ⟨rfl, rfl, hF⟩ | ⟨g, cap, cur, rfl, hc, hcm, hcl, htake, hP⟩
    · have hx : xs = [] := List.eq_nil_of_length_eq_zero (by simpa using hxl)
      subst hx
      have hr := run_append_nil (P := P) w t ty e i z ht hi hz ⟨b, off, none⟩ m cy news hnl hnews (by omega) (by omega) (by have hb := hby; simp only [Nat.zero_add] at hb; omega)
      refine ⟨_, _, hr, ?_⟩
      have hge := grownCap_ge w m 0 e
      have hS2 := hF.drew.alloc (.cells (news.toArray ++ Builtin.zeroCells z.cells (grownCap w m 0 e - m)) e)
      have hS3 : Sat w0 (pc w.heap.size e (news ++ (Builtin.zeroCells z.cells (grownCap w m 0 e - m)).toList) * F) (w.drew.alloc (.cells (news.toArray ++ Builtin.zeroCells z.cells (grownCap w m 0 e - m)) e)) := by
        refine hS2.cast ?_
        unfold pc
        congr 3
        apply Array.ext'
        simp
      rw [Nat.zero_add, List.nil_append]
      refine hS3.slI hge (grownCap_le_maxLen w m 0 e (by omega)) ?_ (by rw [← hnl]; exact List.take_left)
      simp only [List.length_append, hnl, Array.length_toList, size_zeroCells, hzs]
      rw [← Nat.add_mul]
      exact Nat.mul_le_mul_right _ (by omega)
    · by_cases hroom : n + m ≤ cap
      · have hblk := hP.blk.1
        have hfit : n * i.size + news.length ≤ cur.toArray.size := by rw [hnl, List.size_toArray, ← Nat.add_mul]; exact Nat.le_trans (Nat.mul_le_mul_right _ hroom) hcl
        have hr := run_append_room (P := P) w t ty e i ht hi g n cap cur.toArray hblk ⟨b, off, none⟩ m cy news hnl hnews h1 hroom hfit
        refine ⟨_, _, hr, ?_⟩
        have hU : Sat w0 (pc g e (cur.take (n * i.size) ++ news ++ cur.drop (n * i.size + news.length)) * F) (w.setRow g (cur.toArray.toList.take (n * i.size) ++ news ++ cur.toArray.toList.drop (n * i.size + news.length)).toArray) :=
          hP.upd rfl rfl rfl (by simp) (setRow_heap w g cur.toArray _ e _ hblk) (fun k _ hk => setRow_other w g k _ hk)
        refine hU.slI hroom hcm ?_ ?_
        · have hfit' : n * i.size + news.length ≤ cur.length := by simpa using hfit
          simp only [List.length_append, List.length_take, List.length_drop]
          omega
        · rw [htake]
          rw [show (n + m) * i.size = (xs ++ news).length by rw [List.length_append, hxl, hnl, Nat.add_mul]]
          exact List.take_left
      · have hR0 := hS'.rd
        have holds : ∀ j u, xs[j]? = some u → w.cell? ((⟨g, 0, none⟩ : Addr).add j) = some u := by
          intro j u hj
          rw [Rd.add, Nat.zero_add]
          refine hP.cell j ?_
          rw [← htake, List.getElem?_take] at hj
          split at hj
          · exact hj
          · cases hj
        have hr := run_append_grow (P := P) w t ty e i z ht hi hz ⟨g, 0, none⟩ n cap xs hxl holds ⟨b, off, none⟩ m cy news hnl hnews (by omega) (by omega) (growslice_fits (by omega) hby)
        refine ⟨_, _, hr, ?_⟩
        have hge := grownCap_ge w (n + m) cap e
        have hS2 := hP.dropL.drew.alloc (.cells (xs.toArray ++ news.toArray ++ Builtin.zeroCells z.cells (grownCap w (n + m) cap e - (n + m))) e)
        have hS3 : Sat w0 (pc w.heap.size e (xs ++ news ++ (Builtin.zeroCells z.cells (grownCap w (n + m) cap e - (n + m))).toList) * F) (w.drew.alloc (.cells (xs.toArray ++ news.toArray ++ Builtin.zeroCells z.cells (grownCap w (n + m) cap e - (n + m))) e)) := by
          refine hS2.cast ?_
          unfold pc
          congr 3
          apply Array.ext'
          simp
        refine hS3.slI hge (grownCap_le_maxLen w (n + m) cap e h63) ?_ ?_
        · simp only [List.length_append, hnl, hxl, Array.length_toList, size_zeroCells, hzs]
          rw [← Nat.add_mul, ← Nat.add_mul]
          exact Nat.mul_le_mul_right _ (by omega)
        · rw [show (n + m) * i.size = (xs ++ news).length by rw [List.length_append, hxl, hnl, Nat.add_mul]]
          exact List.take_left

theorem run_append_sl (E : SlT P t e size bytes z) (ty : TypeId) (hS : Sat w0 (sl e size v n xs * F) w) (hR : Rd w size y m news) (h1 : ∀ u ∈ news, u.oneCell' = true)
    (h63 : n + m ≤ maxLen) (hby : (n + m) * bytes ≤ 140737488355328) :
    ∃ ao cap w', (Builtin.append_ #[t, t] ty #[v, y]).run P w = .ok (.slice ao (n + m) cap) w' ∧ Sat w0 (sl e size (.slice ao (n + m) cap) (n + m) (xs ++ news) * F) w' := by
  obtain ⟨v', w', hr, h⟩ := run_append_sl0 E ty hS hR h1 h63 hby
  obtain ⟨ao, cap, rfl⟩ := h.rd.len
  exact ⟨ao, cap, w', hr, h⟩

theorem wpList_append_sl {ops : Array Oper} {rest : List Oper} {o : Oper} {a : Act} {Q : Exit → Act → World → Prop} (E : SlT P t e size bytes z) (hgd : o.guard = none) (s x : Operand)
    (ho : o.op = .call { callee := .builtin .append, args := #[s, x], argTypes := #[t, t] })
    (hs : a.eval s = v) (hS : Sat w0 (sl e size v n xs * F) w) (hx : a.eval x = y) (hR : Rd w size y m news) (h1 : ∀ u ∈ news, u.oneCell' = true)
    (h63 : n + m ≤ maxLen) (hby : (n + m) * bytes ≤ 140737488355328)
    (h : ∀ ao cap w', Sat w0 (sl e size (.slice ao (n + m) cap) (n + m) (xs ++ news) * F) w' → wpList P ops Q rest (a.put o.dst (.slice ao (n + m) cap)) w') : wpList P ops Q (o :: rest) a w := by
  refine wpList_plain hgd fun K hK => ?_
  obtain ⟨ao', cap', w', hr, h2⟩ := run_append_sl (P := P) E o.type hS hR h1 h63 hby
  unfold Oper.wp execOp
  simp only [ho, resolve, invoke, builtin, Sem.run_bind, Sem.run_pure, Result.andThen_ok, List.map_toArray, List.map_cons, List.map_nil, hs, hx, hr]
  exact hK _ _ (h ao' cap' w' h2)

/-- At a step of a region that draws its order (for go_region_held3). -/
theorem step_append_sl {ops : Array Oper} {o : Oper} {a : Act} {K : Act → World → Prop} {Q : Exit → Act → World → Prop} {Z : Prop} (E : SlT P t e size bytes z) (hgd : o.guard = none) (s x : Operand)
    (ho : o.op = .call { callee := .builtin .append, args := #[s, x], argTypes := #[t, t] })
    (hs : a.eval s = v) (hS : Sat w0 (sl e size v n xs * F) w) (hx : a.eval x = y) (hR : Rd w size y m news) (h1 : ∀ u ∈ news, u.oneCell' = true)
    (h63 : n + m ≤ maxLen) (hby : (n + m) * bytes ≤ 140737488355328)
    (h : ∀ ao cap w', Sat w0 (sl e size (.slice ao (n + m) cap) (n + m) (xs ++ news) * F) w' → K (a.put o.dst (.slice ao (n + m) cap)) w') :
    if Region.wanted o (yielded ops a.tmps) = true then Oper.wp P o a w K Q else Z := by
  have hw : Region.wanted o (yielded ops a.tmps) = true := by simp [Region.wanted, hgd]
  rw [if_pos hw]
  obtain ⟨ao', cap', w', hr, h2⟩ := run_append_sl (P := P) E o.type hS hR h1 h63 hby
  unfold Oper.wp execOp
  simp only [ho, resolve, invoke, builtin, Sem.run_bind, Sem.run_pure, Result.andThen_ok, List.map_toArray, List.map_cons, List.map_nil, hs, hx, hr]
  exact h ao' cap' w' h2

/-- make([]T, l, c) -/
theorem wpList_make_sl {ops : Array Oper} {rest : List Oper} {o : Oper} {a : Act} {Q : Exit → Act → World → Prop} (E : SlT P t e size bytes z) (hgd : o.guard = none) (l c : Operand)
    (ho : o.op = Op.makeSlice t l c) (kl kc : IntKind) (L C : Int) (n m : Nat) (hl : a.eval l = .int kl L) (hc : a.eval c = .int kc C) (eL : L = n) (eC : C = m) (c1 : n ≤ m) (hC : bytes * m ≤ 281474976710656) (h63 : m ≤ 9223372036854775807)
    (hS : Sat w0 F w)
    (h : ∀ g w', Sat w0 (pc g e (madeCells z.cells (m * size)).toList * F) w' → wpList P ops Q rest (a.put o.dst (.slice (some ⟨g, 0, none⟩) n m)) w') : wpList P ops Q (o :: rest) a w := by
  refine wpList_plain hgd fun K hK => ?_
  obtain ⟨i, hi, hz, rfl, rfl⟩ := E.info
  subst eL
  subst eC
  have hb : (i.bytes : Int) * (m : Int) ≤ 281474976710656 := by
    have h : ((i.bytes * m : Nat) : Int) ≤ 281474976710656 := by omega
    rwa [Int.natCast_mul] at h
  have hr := run_make (P := P) w t e i z E.und hi hz kl kc n m (by omega) (by omega) hb (by omega)
  unfold Oper.wp
  simp [execOp, ho, hl, hc, hr, Result.andThen]
  exact hK _ _ (h _ _ ((hS.alloc _).cast (by simp [pc])))
theorem madeCells_int (n : Nat) : (madeCells (Value.int .i64 0).cells n).toList = (List.replicate n (0 : Int)).map (.int .i64) := by
  apply List.ext_getElem?
  intro i
  simp only [madeCells, Value.cells, Array.toList_map, Array.toList_range, List.getElem?_map, List.map_replicate, List.getElem?_replicate]
  by_cases h : i < n
  · simp [h, Nat.mod_one]
  · simp [h]
end
end Go.Proofs.Ytknodagcmachiaa

namespace Go.Proofs.Ytknodagcmachiaa
open Go.RowKit
set_option linter.unusedVariables false

section
variable {α : Type} {f : α → List Value} {N : Nat}
theorem flat_len (hN : ∀ a, (f a).length = N) (xs : List α) : (xs.flatMap f).length = xs.length * N := by
  induction xs with
  | nil => simp
  | cons x xs ih => rw [List.flatMap_cons, List.length_append, hN, ih, List.length_cons, Nat.add_mul, Nat.one_mul, Nat.add_comm]
theorem flat_at (hN : ∀ a, (f a).length = N) : ∀ (xs : List α) (i j : Nat), j < N → (xs.flatMap f)[i * N + j]? = (xs[i]?).bind fun a => (f a)[j]?
  | [], i, j, hj => by simp
  | x :: xs, 0, j, hj => by
    rw [List.flatMap_cons, Nat.zero_mul, Nat.zero_add, List.getElem?_append_left (by rw [hN]; exact hj)]
    rfl
  | x :: xs, i + 1, j, hj => by
    rw [List.flatMap_cons, Nat.add_mul, Nat.one_mul, Nat.add_right_comm, List.getElem?_append_right (by rw [hN]; omega), hN, Nat.add_sub_cancel, flat_at hN xs i j hj]
    rfl
theorem flat_get (hN : ∀ a, (f a).length = N) {xs : List α} {i j : Nat} {a : α} {v : Value} (hi : xs[i]? = some a) (hv : (f a)[j]? = some v) : (xs.flatMap f)[i * N + j]? = some v := by
  have hj : j < N := by rw [← hN a]; exact (List.getElem?_eq_some_iff.1 hv).1
  rw [flat_at hN xs i j hj, hi]
  exact hv
theorem flat_set (hN : ∀ a, (f a).length = N) : ∀ (xs : List α) (i j : Nat) (a a' : α) (v : Value), xs[i]? = some a → j < N → f a' = (f a).set j v → (xs.flatMap f).set (i * N + j) v = (xs.set i a').flatMap f
  | [], i, j, a, a', v, hi, hj, h => by simp at hi
  | x :: xs, 0, j, a, a', v, hi, hj, h => by
    simp only [List.getElem?_cons_zero, Option.some.injEq] at hi
    subst hi
    rw [List.flatMap_cons, Nat.zero_mul, Nat.zero_add, List.set_append, if_pos (by rw [hN]; exact hj), List.set_cons_zero, List.flatMap_cons, h]
  | x :: xs, i + 1, j, a, a', v, hi, hj, h => by
    simp only [List.getElem?_cons_succ] at hi
    rw [List.flatMap_cons, Nat.add_mul, Nat.one_mul, Nat.add_right_comm, List.set_append, if_neg (by rw [hN]; omega), hN, Nat.add_sub_cancel, flat_set hN xs i j a a' v hi hj h, List.set_cons_succ, List.flatMap_cons]
theorem flat_one (h1 : ∀ a, ∀ u ∈ f a, u.oneCell' = true) (xs : List α) : ∀ u ∈ xs.flatMap f, u.oneCell' = true := by
  intro u hu
  obtain ⟨a, _, ha⟩ := List.mem_flatMap.1 hu
  exact h1 a u ha
theorem flat_take (hN : ∀ a, (f a).length = N) : ∀ (xs : List α) (k : Nat), (xs.flatMap f).take (k * N) = (xs.take k).flatMap f
  | [], k => by simp
  | x :: xs, 0 => by simp
  | x :: xs, k + 1 => by
    rw [List.flatMap_cons, Nat.add_mul, Nat.one_mul, Nat.add_comm, List.take_append, hN, List.take_of_length_le (by rw [hN]; omega), Nat.add_sub_cancel_left, flat_take hN xs k, List.take_succ_cons, List.flatMap_cons]
theorem flat_made (hN : ∀ a, (f a).length = N) (hp : 0 < N) (z : Value) (a : α) (hz : z.cells.toList = f a) (n : Nat) : (madeCells z.cells (n * N)).toList = (List.replicate n a).flatMap f := by
  have hs : z.cells.size = N := by rw [← hN a, ← hz, Array.length_toList]
  apply List.ext_getElem?
  intro i
  by_cases hi : i < n * N
  · have hd : i / N < n := (Nat.div_lt_iff_lt_mul hp).2 hi
    have hm : i % N < N := Nat.mod_lt _ hp
    have e : i = i / N * N + i % N := by rw [Nat.mul_comm]; exact (Nat.div_add_mod i N).symm
    have h1 : ((List.replicate n a).flatMap f)[i]? = (f a)[i % N]? := by
      conv => lhs; rw [e]
      rw [flat_at hN _ _ _ hm, List.getElem?_replicate, if_pos hd]
      rfl
    rw [h1, ← hz]
    simp [madeCells, hi, hs, hm]
  · rw [List.getElem?_eq_none (by simp [madeCells]; omega), List.getElem?_eq_none (by rw [flat_len hN]; simp; omega)]
end
end Go.Proofs.Ytknodagcmachiaa
