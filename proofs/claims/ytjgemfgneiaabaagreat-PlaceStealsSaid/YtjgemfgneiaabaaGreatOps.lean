/-
  What append and make do to an owned heap (laws for the walk). No statement is proved here.
-/
import Derived.Test.YtjgemfgneiaabaaGreatMg1
import Derived.Deep.AppendLies
namespace Go.Proofs.YtjgemfgneiaabaaGreat
open Go.RowKit
set_option linter.unusedVariables false

/-- A slice type: its elements' type, cells, bytes, zero value. -/
structure SlT (P : Program) (t e : TypeId) (size bytes : Nat) (z : Value) : Prop where
  und : P.underlying t = some (.slice e)
  info : ∃ i, P.info? e = some i ∧ i.zero = some z ∧ i.size = size ∧ i.bytes = bytes
  zs : z.cells.size = size
  pos : 0 < size

theorem SlT.mk' {P : Program} {t e : TypeId} {size bytes : Nat} {z : Value} (h : P.underlying t = some (.slice e)) (hi : (P.info? e).map (fun i => (i.zero, i.size, i.bytes)) = some (some z, size, bytes)) (hz : z.cells.size = size) (hp : 0 < size) : SlT P t e size bytes z := by
  obtain ⟨i, h1, h2, h3, h4⟩ := info_parts hi
  exact ⟨h, ⟨i, h1, h2, h3, h4⟩, hz, hp⟩

section
variable {P : Program} {w0 w : World} {F : Hp} {t e : TypeId} {size bytes : Nat} {z v y : Value} {n m : Nat} {xs news : List Value}

theorem run_append_sl0 (E : SlT P t e size bytes z) (ty : TypeId) (hS : Sat w0 (sl e size v n xs * F) w) (hR : Rd w size y m news) (h1 : ∀ u ∈ news, u.oneCell' = true)
    (h63 : n + m ≤ maxLen) (hby : (n + m) * bytes ≤ 140737488355328) :
    ∃ v' w', (Builtin.append_ #[t, t] ty #[v, y]).run P w = .ok v' w' ∧ Sat w0 (sl e size v' (n + m) (xs ++ news) * F) w' := by
  obtain ⟨i, hi, hz, rfl, rfl⟩ := E.info
  have ht := E.und
  have hzs := E.zs
  have hsmall : n + m ≤ 9223372036854775807 := by simp only [maxLen] at h63; omega
  have hS' := hS
  obtain ⟨hxl, hv⟩ := hS.slE
  obtain ⟨hnl, hy⟩ := hR
  by_cases hm : m = 0
  · subst hm
    have hn0 : news = [] := List.eq_nil_of_length_eq_zero (by simpa using hnl)
    subst hn0
    have hy' : ∃ ao cap, y = .slice ao 0 cap := by
      rcases hy with ⟨_, h⟩ | ⟨b, off, cap, rfl, _⟩
      · exact h
      · exact ⟨_, _, rfl⟩
    obtain ⟨ao, cap, rfl⟩ := hy'
    refine ⟨v, w, ?_, by simpa using hS'⟩
    have hf : ∀ w : World, (Builtin.firstCells i.size 0 (.slice ao 0 cap)).run P w = .ok #[] w := by
      intro w
      cases ao with
      | none => simp [Builtin.firstCells]
      | some a => exact run_firstCells_some w i.size 0 a 0 cap [] (by simp) (by simp)
    rcases hv with ⟨rfl, rfl, _⟩ | ⟨g, c2, cur, rfl, hc, _, _, _, _⟩
    · simp [Builtin.append_, run_underlying ht, sizeOf, typeInfo, hi, Builtin.lenOf, hf]
    · simp [Builtin.append_, run_underlying ht, sizeOf, typeInfo, hi, Builtin.lenOf, hf, hc, storeCells]
  · obtain ⟨b, off, cy, rfl, hcells⟩ : ∃ b off cap, y = .slice (some ⟨b, off, none⟩) m cap ∧ ∀ j u, news[j]? = some u → w.cell? ⟨b, off + j, none⟩ = some u := by
      rcases hy with ⟨h, _⟩ | h
      · exact absurd h hm
      · exact h
    have hnews : ∀ j u, news[j]? = some u → w.cell? ((⟨b, off, none⟩ : Addr).add j) = some u := fun j u hj => by rw [Rd.add]; exact hcells j u hj
    rcases hv with ⟨rfl, rfl, hF⟩ | ⟨g, cap, cur, rfl, hc, hcm, hcl, htake, hP⟩
    · have hx : xs = [] := List.eq_nil_of_length_eq_zero (by simpa using hxl)
      subst hx
      have hr := run_append_nil (P := P) w t ty e i z ht hi hz ⟨b, off, none⟩ m cy news hnl hnews (by omega) (by omega) (by have hb := hby; simp only [Nat.zero_add] at hb; omega)
      refine ⟨_, _, hr, ?_⟩
      have hge := grownCap_ge w m 0 e
      have hS2 := hF.drew.alloc (.cells (news.toArray ++ Builtin.zeroCells z.cells (grownCap w m 0 e - m)) e)
      have hS3 : Sat w0 (pc w.heap.size e (news ++ (Builtin.zeroCells z.cells (grownCap w m 0 e - m)).toList) * F) (w.drew.alloc (.cells (news.toArray ++ Builtin.zeroCells z.cells (grownCap w m 0 e - m)) e)) := by
        refine hS2.cast ?_
        unfold pc
        congr 3
        apply Array.ext'
        simp
      rw [Nat.zero_add, List.nil_append]
      refine hS3.slI hge (grownCap_le_maxLen w m 0 e (by omega)) ?_ (by rw [← hnl]; exact List.take_left)
      simp only [List.length_append, hnl, Array.length_toList, size_zeroCells, hzs]
      rw [← Nat.add_mul]
      exact Nat.mul_le_mul_right _ (by omega)
    · by_cases hroom : n + m ≤ cap
      · have hblk := hP.blk.1
        have hfit : n * i.size + news.length ≤ cur.toArray.size := by rw [hnl, List.size_toArray, ← Nat.add_mul]; exact Nat.le_trans (Nat.mul_le_mul_right _ hroom) hcl
        have hr := run_append_room (P := P) w t ty e i ht hi g n cap cur.toArray hblk ⟨b, off, none⟩ m cy news hnl hnews h1 hroom hfit
        refine ⟨_, _, hr, ?_⟩
        have hU : Sat w0 (pc g e (cur.take (n * i.size) ++ news ++ cur.drop (n * i.size + news.length)) * F) (w.setRow g (cur.toArray.toList.take (n * i.size) ++ news ++ cur.toArray.toList.drop (n * i.size + news.length)).toArray) :=
          hP.upd rfl rfl rfl (by simp) (setRow_heap w g cur.toArray _ e _ hblk) (fun k _ hk => setRow_other w g k _ hk)
        refine hU.slI hroom hcm ?_ ?_
        · have hfit' : n * i.size + news.length ≤ cur.length := by simpa using hfit
          simp only [List.length_append, List.length_take, List.length_drop]
          omega
        · rw [htake]
          rw [show (n + m) * i.size = (xs ++ news).length by rw [List.length_append, hxl, hnl, Nat.add_mul]]
          exact List.take_left
      · have hR0 := hS'.rd
        have holds : ∀ j u, xs[j]? = some u → w.cell? ((⟨g, 0, none⟩ : Addr).add j) = some u := by
          intro j u hj
          rw [Rd.add, Nat.zero_add]
          refine hP.cell j ?_
          rw [← htake, List.getElem?_take] at hj
          split at hj
          · exact hj
          · cases hj
        have hr := run_append_grow (P := P) w t ty e i z ht hi hz ⟨g, 0, none⟩ n cap xs hxl holds ⟨b, off, none⟩ m cy news hnl hnews (by omega) (by omega) (growslice_fits (by omega) hby)
        refine ⟨_, _, hr, ?_⟩
        have hge := grownCap_ge w (n + m) cap e
        have hS2 := hP.dropL.drew.alloc (.cells (xs.toArray ++ news.toArray ++ Builtin.zeroCells z.cells (grownCap w (n + m) cap e - (n + m))) e)
        have hS3 : Sat w0 (pc w.heap.size e (xs ++ news ++ (Builtin.zeroCells z.cells (grownCap w (n + m) cap e - (n + m))).toList) * F) (w.drew.alloc (.cells (xs.toArray ++ news.toArray ++ Builtin.zeroCells z.cells (grownCap w (n + m) cap e - (n + m))) e)) := by
          refine hS2.cast ?_
          unfold pc
          congr 3
          apply Array.ext'
          simp
        refine hS3.slI hge (grownCap_le_maxLen w (n + m) cap e h63) ?_ ?_
        · simp only [List.length_append, hnl, hxl, Array.length_toList, size_zeroCells, hzs]
          rw [← Nat.add_mul, ← Nat.add_mul]
          exact Nat.mul_le_mul_right _ (by omega)
        · rw [show (n + m) * i.size = (xs ++ news).length by rw [List.length_append, hxl, hnl, Nat.add_mul]]
          exact List.take_left

theorem run_append_sl (E : SlT P t e size bytes z) (ty : TypeId) (hS : Sat w0 (sl e size v n xs * F) w) (hR : Rd w size y m news) (h1 : ∀ u ∈ news, u.oneCell' = true)
    (h63 : n + m ≤ maxLen) (hby : (n + m) * bytes ≤ 140737488355328) :
    ∃ ao cap w', (Builtin.append_ #[t, t] ty #[v, y]).run P w = .ok (.slice ao (n + m) cap) w' ∧ Sat w0 (sl e size (.slice ao (n + m) cap) (n + m) (xs ++ news) * F) w' := by
  obtain ⟨v', w', hr, h⟩ := run_append_sl0 E ty hS hR h1 h63 hby
  obtain ⟨ao, cap, rfl⟩ := h.rd.len
  exact ⟨ao, cap, w', hr, h⟩

theorem wpList_append_sl {ops : Array Oper} {rest : List Oper} {o : Oper} {a : Act} {Q : Exit → Act → World → Prop} (E : SlT P t e size bytes z) (hgd : o.guard = none) (s x : Operand)
    (ho : o.op = .call { callee := .builtin .append, args := #[s, x], argTypes := #[t, t] })
    (hs : a.eval s = v) (hS : Sat w0 (sl e size v n xs * F) w) (hx : a.eval x = y) (hR : Rd w size y m news) (h1 : ∀ u ∈ news, u.oneCell' = true)
    (h63 : n + m ≤ maxLen) (hby : (n + m) * bytes ≤ 140737488355328)
    (h : ∀ ao cap w', Sat w0 (sl e size (.slice ao (n + m) cap) (n + m) (xs ++ news) * F) w' → wpList P ops Q rest (a.put o.dst (.slice ao (n + m) cap)) w') : wpList P ops Q (o :: rest) a w := by
  refine wpList_plain hgd fun K hK => ?_
  obtain ⟨ao', cap', w', hr, h2⟩ := run_append_sl (P := P) E o.type hS hR h1 h63 hby
  unfold Oper.wp execOp
  simp only [ho, resolve, invoke, builtin, Sem.run_bind, Sem.run_pure, Result.andThen_ok, List.map_toArray, List.map_cons, List.map_nil, hs, hx, hr]
  exact hK _ _ (h ao' cap' w' h2)

/-- At a step of a region that draws its order (for go_region_held3). -/
theorem step_append_sl {ops : Array Oper} {o : Oper} {a : Act} {K : Act → World → Prop} {Q : Exit → Act → World → Prop} {Z : Prop} (E : SlT P t e size bytes z) (hgd : o.guard = none) (s x : Operand)
    (ho : o.op = .call { callee := .builtin .append, args := #[s, x], argTypes := #[t, t] })
    (hs : a.eval s = v) (hS : Sat w0 (sl e size v n xs * F) w) (hx : a.eval x = y) (hR : Rd w size y m news) (h1 : ∀ u ∈ news, u.oneCell' = true)
    (h63 : n + m ≤ maxLen) (hby : (n + m) * bytes ≤ 140737488355328)
    (h : ∀ ao cap w', Sat w0 (sl e size (.slice ao (n + m) cap) (n + m) (xs ++ news) * F) w' → K (a.put o.dst (.slice ao (n + m) cap)) w') :
    if Region.wanted o (yielded ops a.tmps) = true then Oper.wp P o a w K Q else Z := by
  have hw : Region.wanted o (yielded ops a.tmps) = true := by simp [Region.wanted, hgd]
  rw [if_pos hw]
  obtain ⟨ao', cap', w', hr, h2⟩ := run_append_sl (P := P) E o.type hS hR h1 h63 hby
  unfold Oper.wp execOp
  simp only [ho, resolve, invoke, builtin, Sem.run_bind, Sem.run_pure, Result.andThen_ok, List.map_toArray, List.map_cons, List.map_nil, hs, hx, hr]
  exact h ao' cap' w' h2

/-- make([]T, l, c) -/
theorem wpList_make_sl {ops : Array Oper} {rest : List Oper} {o : Oper} {a : Act} {Q : Exit → Act → World → Prop} (E : SlT P t e size bytes z) (hgd : o.guard = none) (l c : Operand)
    (ho : o.op = Op.makeSlice t l c) (kl kc : IntKind) (L C : Int) (n m : Nat) (hl : a.eval l = .int kl L) (hc : a.eval c = .int kc C) (eL : L = n) (eC : C = m) (c1 : n ≤ m) (hC : bytes * m ≤ 281474976710656) (h63 : m ≤ 9223372036854775807)
    (hS : Sat w0 F w)
    (h : ∀ g w', Sat w0 (pc g e (madeCells z.cells (m * size)).toList * F) w' → wpList P ops Q rest (a.put o.dst (.slice (some ⟨g, 0, none⟩) n m)) w') : wpList P ops Q (o :: rest) a w := by
  refine wpList_plain hgd fun K hK => ?_
  obtain ⟨i, hi, hz, rfl, rfl⟩ := E.info
  subst eL
  subst eC
  have hb : (i.bytes : Int) * (m : Int) ≤ 281474976710656 := by
    have h : ((i.bytes * m : Nat) : Int) ≤ 281474976710656 := by omega
    rwa [Int.natCast_mul] at h
  have hr := run_make (P := P) w t e i z E.und hi hz kl kc n m (by omega) (by omega) hb (by omega)
  unfold Oper.wp
  simp [execOp, ho, hl, hc, hr, Result.andThen]
  exact hK _ _ (h _ _ ((hS.alloc _).cast (by simp [pc])))
theorem madeCells_int (n : Nat) : (madeCells (Value.int .i64 0).cells n).toList = (List.replicate n (0 : Int)).map (.int .i64) := by
  apply List.ext_getElem?
  intro i
  simp only [madeCells, Value.cells, Array.toList_map, Array.toList_range, List.getElem?_map, List.map_replicate, List.getElem?_replicate]
  by_cases h : i < n
  · simp [h, Nat.mod_one]
  · simp [h]
end
end Go.Proofs.YtjgemfgneiaabaaGreat
