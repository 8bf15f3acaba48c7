/-
  Whole structs: a result in a cell of many cells, a store of a whole struct. No statement is proved here.
-/
import Derived.Test.YtdbppfcilaajaaaGreatMg3
import Derived.Laws.ResultCell
import Derived.Deep.MidRow
import Derived.Shelf.Abstract
import Derived.Deep.RegionHeld3
namespace Go.Proofs.YtdbppfcilaajaaaGreat
open Go.RowKit
theorem results_row1 {fn : Func} {p : Tmp} {ty : TypeId} (h : fn.results = #[.cell p ty]) (tmps : Array Value) (P : Program) (w : World) {b : Nat} {cs : List Value} {d : TypeDesc}
    (hp : tmps.getD p undef = .pointer (some ⟨b, 0, none⟩)) (hc : w.rangeAt b 0 cs) (hu : P.underlying ty = some d) (hd : d.isRow = true) (hi : (P.info? ty).map (·.size) = some cs.length) :
    (results fn tmps).run P w = .ok (.agg cs.toArray) w := by
  have e : (asAddr (.pointer (some ⟨b, 0, none⟩))).run P w = .ok ⟨b, 0, none⟩ w := rfl
  simp only [results, h]
  have hp' : tmps[p]?.getD undef = .pointer (some ⟨b, 0, none⟩) := by simpa using hp
  simp [Sem.run_bind, Result.andThen, hp', e, run_loadVar_mid w b 0 ty cs d hc hu hd hi]
theorem setL_full (cs vs : List Value) (h : vs.length = cs.length) : setL cs 0 vs = vs := List.ext_getElem? fun i => by
  by_cases hi : i < vs.length
  · have := setL_in vs cs 0 i hi (by omega)
    rw [Nat.zero_add] at this
    exact this
  · rw [List.getElem?_eq_none (by rw [setL_len]; omega), List.getElem?_eq_none (by omega)]
theorem Sat.rowAll {w0 w : World} {F : Hp} {b : Nat} {T : TypeId} {cs : List Value} (h : Sat w0 (pc b T cs * F) w) (vs : List Value) (hl : vs.length = cs.length) : Sat w0 (pc b T vs * F) (w.setCells b 0 vs.toArray.toList) := by
  have hs := h.stores vs 0
  rw [setL_full cs vs hl] at hs
  exact hs
theorem Sat.thereN {b : Nat} {T : TypeId} {cs : List Value} {F : Hp} {w0 w : World} (h : Sat w0 (pc b T cs * F) w) {n : Nat} (hn : cs.length = n) : w.there b 0 n := fun j hj => by
  rw [Nat.zero_add, h.cell j (List.getElem?_eq_getElem (by omega))]
  exact ⟨rfl, h.free j⟩
theorem Sat.rangeN {b : Nat} {T : TypeId} {cs : List Value} {F : Hp} {w0 w : World} (h : Sat w0 (pc b T cs * F) w) : w.rangeAt b 0 cs := fun j v hv => by
  rw [Nat.zero_add]
  exact h.cell j hv
end Go.Proofs.YtdbppfcilaajaaaGreat

namespace Go.Proofs.YtdbppfcilaajaaaGreat.Kn
open Go.RowKit
set_option linter.unusedVariables false
set_option linter.unusedSimpArgs false

abbrev vu (x : Int) : Value := .int .u64 x
/-- The small configuration of so many Ps and goroutines. -/
def cfgL (ps gs : Nat) (pr : Value) : List Value := [vi ps, vi 2, vi gs, vi 4, vi 4, vi 40, vi 6, vi 4, vi 8, vi 2, vu 1000, vu 50, vu 100, vu 20, pr]
section
variable {w0 w : World} {F : Hp} {b : Nat} {T : TypeId} {cs : List Value} {o : Nat}
theorem set_at {cs : List Value} {o : Nat} {v : Value} (h : cs[o]? = some v) : cs.set o v = cs := by
  apply List.ext_getElem?
  intro i
  rw [List.getElem?_set]
  by_cases hi : o = i
  · subst hi
    rw [if_pos rfl, h, if_pos (List.getElem?_eq_some_iff.1 h).1]
  · rw [if_neg hi]
set_option maxRecDepth 100000 in
theorem bring_i {x lo hi : Int} (h : Sat w0 (pc b T cs * F) w) (hc : cs[o]? = some (vi x)) (h1 : lo ≤ x) (h2 : x ≤ hi) : Calls Tryz.prog 207 #[.pointer (some ⟨b, o, none⟩), vi lo, vi hi] w fun e w' => e = .returned (.bool true) ∧ Sat w0 (pc b T cs * F) w' := by
  have c0 := h.cell o hc
  have f0 := h.free o
  have hs := h.store o (vi x)
  rw [set_at hc] at hs
  have c1 := hs.cell o hc
  have hmax : max x lo = x := by omega
  have hmin : min x hi = x := by omega
  have hxx : (x == x) = true := by simp
  have HS := Lib.hid hs
  clear h hs h1 h2 hc
  go_enter Tryz.func207, Tryz.ntmps207
  go_wp2
  go_ret
  exact ⟨rfl, HS.out⟩
set_option maxRecDepth 100000 in
theorem bring_u {x lo hi : Int} (h : Sat w0 (pc b T cs * F) w) (hc : cs[o]? = some (vu x)) (h1 : lo ≤ x) (h2 : x ≤ hi) : Calls Tryz.prog 208 #[.pointer (some ⟨b, o, none⟩), vu lo, vu hi] w fun e w' => e = .returned (.bool true) ∧ Sat w0 (pc b T cs * F) w' := by
  have c0 := h.cell o hc
  have f0 := h.free o
  have hs := h.store o (vu x)
  rw [set_at hc] at hs
  have c1 := hs.cell o hc
  have hmax : max x lo = x := by omega
  have hmin : min x hi = x := by omega
  have hxx : (x == x) = true := by simp
  have HS := Lib.hid hs
  clear h hs h1 h2 hc
  go_enter Tryz.func208, Tryz.ntmps208
  go_wp2
  go_ret
  exact ⟨rfl, HS.out⟩
set_option maxRecDepth 100000 in
theorem within_i {x lo hi : Int} {s : Value} (h : Sat w0 (pc b T cs * F) w) (hc : cs[o]? = some (vi x)) (h1 : lo ≤ x) (h2 : x ≤ hi) (hlo : IntKind.i64.wrap lo = lo) (hhi : IntKind.i64.wrap hi = hi) : Calls Tryz.prog 159 #[.agg #[s, .iface 353 (.pointer (some ⟨b, o, none⟩)), vi lo, vi hi]] w fun e w' => e = .returned (.bool true) ∧ Sat w0 (pc b T cs * F) w' := by
  have hA := (h.alloc (.cells #[s, .iface 353 (.pointer (some ⟨b, o, none⟩)), vi lo, vi hi] 288)).pull2
  have HB := Lib.hid (bring_i hA hc h1 h2)
  have ht : ∀ w : World, (Instr.typeAssert (.iface 353 (.pointer (some ⟨b, o, none⟩))) 20 353 true).run Tryz.prog w = .ok (.tuple #[.pointer (some ⟨b, o, none⟩), .bool true]) w := fun w => rfl
  clear h hA hc h1 h2
  go_enter Tryz.func159, Tryz.ntmps159
  go_wp2_with (go_at_call 207; refine HB.out.mono ?_; rintro e w1 ⟨rfl, hS⟩; have H1 := Lib.hid hS.drop2; clear hS)
  go_ret
  exact ⟨rfl, H1.out⟩
set_option maxRecDepth 100000 in
theorem within_u {x lo hi : Int} {s : Value} (h : Sat w0 (pc b T cs * F) w) (hc : cs[o]? = some (vu x)) (h1 : lo ≤ x) (h2 : x ≤ hi) (hlo : IntKind.u64.wrap lo = lo) (hhi : IntKind.u64.wrap hi = hi) : Calls Tryz.prog 159 #[.agg #[s, .iface 358 (.pointer (some ⟨b, o, none⟩)), vi lo, vi hi]] w fun e w' => e = .returned (.bool true) ∧ Sat w0 (pc b T cs * F) w' := by
  have hA := (h.alloc (.cells #[s, .iface 358 (.pointer (some ⟨b, o, none⟩)), vi lo, vi hi] 288)).pull2
  have HB := Lib.hid (bring_u hA hc h1 h2)
  have ht : ∀ w : World, (Instr.typeAssert (.iface 358 (.pointer (some ⟨b, o, none⟩))) 20 358 true).run Tryz.prog w = .ok (.tuple #[.pointer (some ⟨b, o, none⟩), .bool true]) w := fun w => rfl
  have ht2 : ∀ w : World, (Instr.typeAssert (.iface 358 (.pointer (some ⟨b, o, none⟩))) 20 353 true).run Tryz.prog w = .ok (.tuple #[.pointer none, .bool false]) w := fun w => rfl
  clear h hA hc h1 h2
  go_enter Tryz.func159, Tryz.ntmps159
  go_wp2_with (go_at_call 208; refine HB.out.mono ?_; rintro e w1 ⟨rfl, hS⟩; have H1 := Lib.hid hS.drop2; clear hS)
  go_ret
  exact ⟨rfl, H1.out⟩
end
end Go.Proofs.YtdbppfcilaajaaaGreat.Kn

namespace Go.Proofs.YtdbppfcilaajaaaGreat.Kn
open Go.RowKit
set_option linter.unusedVariables false
set_option linter.unusedSimpArgs false

section
variable {w0 w : World} {F : Hp} {b : Nat} {T : TypeId} {cs : List Value} {o : Nat}
abbrev bndL (b : Nat) : List Value := [.string ⟨#[80, 115]⟩, .iface 353 (.pointer (some ⟨b, 0, none⟩)), vi 1, vi 8, .string ⟨#[82, 105, 110, 103]⟩, .iface 353 (.pointer (some ⟨b, 1, none⟩)), vi 2, vi 32, .string ⟨#[71, 115]⟩, .iface 353 (.pointer (some ⟨b, 2, none⟩)), vi 1, vi 64, .string ⟨#[67, 111, 110, 116, 101, 120, 116, 115]⟩, .iface 353 (.pointer (some ⟨b, 3, none⟩)), vi 1, vi 32, .string ⟨#[68, 111, 109, 97, 105, 110, 115]⟩, .iface 353 (.pointer (some ⟨b, 4, none⟩)), vi 1, vi 32, .string ⟨#[78, 111, 100, 101, 115]⟩, .iface 353 (.pointer (some ⟨b, 5, none⟩)), vi 3, vi 512, .string ⟨#[83, 108, 111, 116, 115]⟩, .iface 353 (.pointer (some ⟨b, 6, none⟩)), vi 3, vi 32, .string ⟨#[82, 101, 102, 105, 108, 108, 115]⟩, .iface 353 (.pointer (some ⟨b, 7, none⟩)), vi 2, vi 16, .string ⟨#[65, 117, 100, 105, 116]⟩, .iface 353 (.pointer (some ⟨b, 8, none⟩)), vi 1, vi 256, .string ⟨#[83, 108, 105, 99, 101]⟩, .iface 353 (.pointer (some ⟨b, 9, none⟩)), vi 1, vi 64, .string ⟨#[67, 80, 85]⟩, .iface 358 (.pointer (some ⟨b, 10, none⟩)), vi 1, vi 4294967296, .string ⟨#[80, 101, 114, 105, 111, 100]⟩, .iface 358 (.pointer (some ⟨b, 11, none⟩)), vi 1, vi 4294967296, .string ⟨#[66, 117, 100, 103, 101, 116]⟩, .iface 358 (.pointer (some ⟨b, 12, none⟩)), vi 1, vi 4294967296, .string ⟨#[69, 97, 99, 104]⟩, .iface 358 (.pointer (some ⟨b, 13, none⟩)), vi 1, vi 4294967296]
set_option maxRecDepth 100000 in
set_option maxHeartbeats 40000000 in
theorem bounds_ (h : Sat w0 F w) (b : Nat) : Calls Tryz.prog 158 #[vp b] w fun e w' => e = .returned (.agg (bndL b).toArray) ∧ Sat w0 F w' := by
  have hA := h.alloc (.cells #[.string ⟨#[]⟩, .nilIface, vi 0, vi 0, .string ⟨#[]⟩, .nilIface, vi 0, vi 0, .string ⟨#[]⟩, .nilIface, vi 0, vi 0, .string ⟨#[]⟩, .nilIface, vi 0, vi 0, .string ⟨#[]⟩, .nilIface, vi 0, vi 0, .string ⟨#[]⟩, .nilIface, vi 0, vi 0, .string ⟨#[]⟩, .nilIface, vi 0, vi 0, .string ⟨#[]⟩, .nilIface, vi 0, vi 0, .string ⟨#[]⟩, .nilIface, vi 0, vi 0, .string ⟨#[]⟩, .nilIface, vi 0, vi 0, .string ⟨#[]⟩, .nilIface, vi 0, vi 0, .string ⟨#[]⟩, .nilIface, vi 0, vi 0, .string ⟨#[]⟩, .nilIface, vi 0, vi 0, .string ⟨#[]⟩, .nilIface, vi 0, vi 0] 289)
  have hA := hA.drew
  have t0 := hA.thereN (n := 56) rfl
  have hs := hA.rowAll (bndL b) rfl
  have t1 := hs.thereN (n := 56) rfl
  have hi : (Tryz.prog.info? 289).map (·.size) = some 56 := by kernel_rfl
  have h1 : ∀ v ∈ bndL b, v.oneCell' = true := by
    intro v hv
    have : ∀ v ∈ bndL b, v.oneCell' = true := by simp [bndL, Value.oneCell']
    exact this v hv
  have T0 := Lib.hid t0
  have T1 := Lib.hid t1
  have HA := Lib.hid hs
  clear h hA hs t0 t1
  go_enter Tryz.func158, Tryz.ntmps158
  go_wp2
  generalize w.alloc (.cells #[.string ⟨#[]⟩, .nilIface, vi 0, vi 0, .string ⟨#[]⟩, .nilIface, vi 0, vi 0, .string ⟨#[]⟩, .nilIface, vi 0, vi 0, .string ⟨#[]⟩, .nilIface, vi 0, vi 0, .string ⟨#[]⟩, .nilIface, vi 0, vi 0, .string ⟨#[]⟩, .nilIface, vi 0, vi 0, .string ⟨#[]⟩, .nilIface, vi 0, vi 0, .string ⟨#[]⟩, .nilIface, vi 0, vi 0, .string ⟨#[]⟩, .nilIface, vi 0, vi 0, .string ⟨#[]⟩, .nilIface, vi 0, vi 0, .string ⟨#[]⟩, .nilIface, vi 0, vi 0, .string ⟨#[]⟩, .nilIface, vi 0, vi 0, .string ⟨#[]⟩, .nilIface, vi 0, vi 0, .string ⟨#[]⟩, .nilIface, vi 0, vi 0] 289) = wa at *
  generalize w.heap.size = q at *
  go_region_held3 (fun w' => w'.there q 0 56) (first | (with_reducible exact T0.out) | (with_reducible exact T1.out)) (fail)
  all_goals go_wp2
  refine bodyPost_ret (results_row1 rfl _ _ _ rfl (cs := bndL b) HA.out.rangeN Tryz.underlying289 rfl (by kernel_rfl)) rfl ?_
  exact ⟨rfl, HA.out.dropL⟩
end
end Go.Proofs.YtdbppfcilaajaaaGreat.Kn

namespace Go.Proofs.YtdbppfcilaajaaaGreat
open Go.RowKit
set_option linter.unusedVariables false

/-- A slice somewhere in a block of the call's own, n elements of one cell. -/
def rs (e : TypeId) (v : Value) (xs : List Value) : Hp :=
  ⟨fun L => (v = .slice none 0 0 ∧ xs = [] ∧ L = []) ∨ ∃ g off cap cur, v = .slice (some ⟨g, off, none⟩) xs.length cap ∧ xs.length ≤ cap ∧ cap ≤ maxLen ∧ L = [(g, .cells cur e (0, 0))] ∧ ∀ j u, xs[j]? = some u → cur[off + j]? = some u,
   fun {L L'} h hx => by
    rcases hx with ⟨a, b, rfl⟩ | ⟨g, off, cap, cur, a, b, c, rfl, r⟩
    · exact .inl ⟨a, b, List.nil_perm.1 h⟩
    · exact .inr ⟨g, off, cap, cur, a, b, c, List.perm_singleton.1 h.symm, r⟩⟩

section
variable {w0 w : World} {F : Hp} {e : TypeId} {v : Value} {xs : List Value}
theorem Sat.rsE (h : Sat w0 (rs e v xs * F) w) : (v = .slice none 0 0 ∧ xs = [] ∧ Sat w0 F w) ∨
    ∃ g off cap cur, v = .slice (some ⟨g, off, none⟩) xs.length cap ∧ xs.length ≤ cap ∧ cap ≤ maxLen ∧ Sat w0 (pc g e cur * F) w ∧ ∀ j u, xs[j]? = some u → cur[off + j]? = some u := by
  have hd := h.dropL
  obtain ⟨hb, L, ⟨L1, L2, p, a, b⟩, r⟩ := h
  rcases a with ⟨rfl, rfl, rfl⟩ | ⟨g, off, cap, cur, rfl, h1, h2, rfl, h3⟩
  · exact .inl ⟨rfl, rfl, hd⟩
  · exact .inr ⟨g, off, cap, cur.toList, rfl, h1, h2, ⟨hb, L, ⟨_, L2, p, by simp [pc, pt], b⟩, r⟩, by simpa using h3⟩
theorem Sat.rsI {g off cap : Nat} {cur : List Value} (h : Sat w0 (pc g e cur * F) w) (hn : xs.length ≤ cap) (hc : cap ≤ maxLen) (h3 : ∀ j u, xs[j]? = some u → cur[off + j]? = some u) : Sat w0 (rs e (.slice (some ⟨g, off, none⟩) xs.length cap) xs * F) w := by
  obtain ⟨hb, L, ⟨L1, L2, p, a, b⟩, r⟩ := h
  have a : L1 = [(g, .cells cur.toArray e (0, 0))] := a
  subst a
  exact ⟨hb, L, ⟨_, L2, p, .inr ⟨g, off, cap, cur.toArray, rfl, hn, hc, rfl, by simpa using h3⟩, b⟩, r⟩
theorem Sat.rsNil (h : Sat w0 F w) (e : TypeId) : Sat w0 (rs e (.slice none 0 0) [] * F) w := by
  obtain ⟨hb, L, hL, r⟩ := h
  exact ⟨hb, L, ⟨[], L, List.Perm.refl _, .inl ⟨rfl, rfl, rfl⟩, hL⟩, r⟩
theorem Sat.rsRd (h : Sat w0 (rs e v xs * F) w) : Rd w 1 v xs.length xs := by
  refine ⟨by simp, ?_⟩
  rcases h.rsE with ⟨rfl, rfl, _⟩ | ⟨g, off, cap, cur, rfl, h1, _, hS, h3⟩
  · exact .inl ⟨rfl, _, _, rfl⟩
  · exact .inr ⟨g, off, cap, rfl, fun j u hj => hS.cell _ (h3 j u hj)⟩
theorem Sat.rsOfSl {n : Nat} (h : Sat w0 (sl e 1 v n xs * F) w) : Sat w0 (rs e v xs * F) w := by
  obtain ⟨hl, h⟩ := h.slE
  rw [Nat.mul_one] at hl
  subst hl
  rcases h with ⟨rfl, h0, hS⟩ | ⟨g, cap, cur, rfl, h1, h2, h3, h4, hS⟩
  · have : xs = [] := List.eq_nil_of_length_eq_zero h0
    subst this
    exact hS.rsNil e
  · refine hS.rsI h1 h2 ?_
    intro j u hj
    rw [Nat.zero_add]
    rw [← h4, List.getElem?_take] at hj
    split at hj
    · exact hj
    · cases hj
end

/-! ### Take -/
def takeK (n : Int) (xs : List Int) : Nat := min n.toNat xs.length

theorem RdI.post {w : World} {b off n cap c2 k : Nat} {a' : Addr} {xs : List Int} (h : RdI w (.slice (some ⟨b, off, none⟩) n cap) xs) (hn : xs.length ≠ 0) (hk : k ≤ xs.length) (ha : k < xs.length → a' = ⟨b, off + k, none⟩) : RdI w (.slice (some a') (xs.length - k) c2) (xs.drop k) := by
  obtain ⟨b', off', e, hc⟩ := h.at_ hn
  cases e
  refine ⟨by simp, ?_⟩
  by_cases hkk : k = xs.length
  · exact .inl ⟨by simp [hkk], _, _, by rw [hkk, Nat.sub_self]⟩
  · rw [ha (by omega)]
    refine .inr ⟨b, off + k, c2, by rw [List.length_drop], fun j u hj => ?_⟩
    have hjl := (List.getElem?_eq_some_iff.1 hj).1
    simp only [List.length_map, List.length_drop] at hjl
    rw [Nat.add_assoc, hc (k + j) (by omega)]
    rw [List.map_drop, List.getElem?_drop] at hj
    have hjx : k + j < xs.length := by omega
    simpa [hjx] using hj

theorem findI_erase {xs : List Int} {x : Int} (h : 0 ≤ findI xs x) : xs.eraseIdx (findI xs x).toNat = xs.erase x ∧ (findI xs x).toNat < xs.length := by
  unfold findI at *
  split at h
  · rename_i hm
    rw [if_pos hm]
    refine ⟨?_, by simpa using List.idxOf_lt_length_of_mem hm⟩
    rw [List.erase_eq_eraseIdx_of_idxOf (i := xs.idxOf x)]
    · simp
    · rfl
  · omega
end Go.Proofs.YtdbppfcilaajaaaGreat

namespace Go.Proofs.YtdbppfcilaajaaaGreat
open Go.RowKit
set_option linter.unusedVariables false

theorem Sat.ringLen {w0 w : World} {p most : Nat} {xs : List Int} {F : Hp} (h : Sat w0 (ringP p most xs * F) w) : xs.length ≤ most ∧ most ≤ 4096 ∧ 0 < most := by
  obtain ⟨s, R⟩ := h.ring
  exact ⟨R.ok.n, R.ok.small, R.ok.pos⟩

/-! ### Has -/
/-! ### Take -/
theorem Sat.slPre {w0 w : World} {F : Hp} {e : TypeId} {g cap n k : Nat} {xs : List Value} (h : Sat w0 (sl e 1 (.slice (some ⟨g, 0, none⟩) n cap) n xs * F) w) (hk : k ≤ n) : Sat w0 (sl e 1 (.slice (some ⟨g, 0, none⟩) k k) k (xs.take k) * F) w := by
  obtain ⟨cur, h1, h2, h3, h4, hS⟩ := h.slP
  refine hS.slI (Nat.le_refl _) (by omega) (by omega) ?_
  rw [← h4, List.take_take]
  congr 1
  omega

theorem Sat.capOk {w0 w : World} {F : Hp} {e : TypeId} {size : Nat} {ao : Option Addr} {n cap : Nat} {xs : List Value} (h : Sat w0 (sl e size (.slice ao n cap) n xs * F) w) : n ≤ cap ∧ cap ≤ maxLen := by
  rcases h.slE.2 with ⟨hv, h0, _⟩ | ⟨g, c, cur, hv, h1, h2, _⟩
  · cases hv
    exact ⟨Nat.le_refl _, Nat.zero_le _⟩
  · cases hv
    exact ⟨h1, h2⟩
theorem Sat.slPre' {w0 w : World} {F : Hp} {e : TypeId} {ao : Option Addr} {cap n k : Nat} {xs : List Value} (h : Sat w0 (sl e 1 (.slice ao n cap) n xs * F) w) (hk : k ≤ n) : Sat w0 (sl e 1 (.slice ao k k) k (xs.take k) * F) w := by
  rcases h.slE.2 with ⟨hv, h0, hS⟩ | ⟨g, c, cur, hv, h1, h2, _⟩
  · cases hv
    obtain rfl : k = 0 := by omega
    simpa using hS.addNil e 1
  · cases hv
    exact h.slPre hk

set_option maxHeartbeats 800000 in
theorem ring_take_0 {w0 w : World} {p most : Nat} {xs : List Int} {F : Hp} (h : Sat w0 (ringP p most xs * F) w) (n : Int) (hn : n < 0) :
    Calls Tryz.prog 181 #[vp p, vi n] w fun e w' => ∃ v, e = .returned v ∧ Sat w0 (sl 3 1 v 0 ((xs.take 0).map vi) * (ringP p most (xs.drop 0) * F)) w' := by
  have hl := h.ringLen
  have hall := Lib.hid (ring_all h)
  go_enter Tryz.func181, Tryz.ntmps181
  go_wp2_with (first | (go_at_call 187; refine hall.out.mono ?_; rintro e w1 ⟨v, rfl, hS1⟩; obtain ⟨ao, cap, rfl⟩ := hS1.rdI.len))
  go_loopw [14] (fun i wr => ∃ j : Nat, j ≤ 0 ∧ i = vi j ∧ Sat w0 (sl 3 1 (.slice ao xs.length cap) xs.length (xs.map vi) * (ringP p most (xs.drop j) * F)) wr) (fun i _ => 0 - (intOf i).toNat)
  case atStart => exact ⟨0, Nat.zero_le _, rfl, hS1⟩
  case round =>
    obtain ⟨j, hj, rfl, hS⟩ := hrel
    clear hS1
    by_cases hlt : j < 0
    · exact absurd hlt (by omega)
    · obtain rfl : 0 = j := by omega
      have hfin := hS.slPre' (k := 0) (by omega)
      have HF := Lib.hid hfin
      have hcap := hS.capOk
      clear hfin hS
      go_wp2
      go_ret
      exact ⟨_, rfl, by rw [List.map_take]; exact HF.out⟩

set_option maxHeartbeats 800000 in
theorem ring_take_n {w0 w : World} {p most : Nat} {xs : List Int} {F : Hp} (h : Sat w0 (ringP p most xs * F) w) (n : Nat) (hn : n < xs.length) :
    Calls Tryz.prog 181 #[vp p, vi n] w fun e w' => ∃ v, e = .returned v ∧ Sat w0 (sl 3 1 v n ((xs.take n).map vi) * (ringP p most (xs.drop n) * F)) w' := by
  have hl := h.ringLen
  have hall := Lib.hid (ring_all h)
  have h0 : ¬ ((n : Int) < 0) := by omega
  have h1 : (n : Int) ≤ (xs.length : Int) := by omega
  go_enter Tryz.func181, Tryz.ntmps181
  go_wp2_with (first | (go_at_call 187; refine hall.out.mono ?_; rintro e w1 ⟨v, rfl, hS1⟩; obtain ⟨ao, cap, rfl⟩ := hS1.rdI.len))
  go_loopw [14] (fun i wr => ∃ j : Nat, j ≤ n ∧ i = vi j ∧ Sat w0 (sl 3 1 (.slice ao xs.length cap) xs.length (xs.map vi) * (ringP p most (xs.drop j) * F)) wr) (fun i _ => n - (intOf i).toNat)
  case atStart => exact ⟨0, Nat.zero_le _, rfl, hS1⟩
  case round =>
    obtain ⟨j, hj, rfl, hS⟩ := hrel
    clear hS1
    by_cases hlt : j < n
    · go_wp2_with (go_at_call 134; refine (ring_pop hS.pull2).mono ?_; rintro e w2 ⟨rfl, hS2⟩)
      go_roundw
      case rel => exact ⟨j + 1, by omega, by go_num, by rw [List.tail_drop] at hS2; exact hS2.pull2⟩
      case measure => simp [intOf]; omega
    · obtain rfl : n = j := by omega
      have hfin := hS.slPre' (k := n) (by omega)
      have HF := Lib.hid hfin
      have hcap := hS.capOk
      clear hfin hS
      go_wp2
      go_ret
      exact ⟨_, rfl, by rw [List.map_take]; exact HF.out⟩

set_option maxHeartbeats 800000 in
theorem ring_take_l {w0 w : World} {p most : Nat} {xs : List Int} {F : Hp} (h : Sat w0 (ringP p most xs * F) w) (n : Nat) (hn : xs.length ≤ n) :
    Calls Tryz.prog 181 #[vp p, vi n] w fun e w' => ∃ v, e = .returned v ∧ Sat w0 (sl 3 1 v xs.length ((xs.take xs.length).map vi) * (ringP p most (xs.drop xs.length) * F)) w' := by
  have hl := h.ringLen
  have hall := Lib.hid (ring_all h)
  have h0 : ¬ ((n : Int) < 0) := by omega
  by_cases he : n = xs.length
  · subst he
    go_enter Tryz.func181, Tryz.ntmps181
    go_wp2_with (first | (go_at_call 187; refine hall.out.mono ?_; rintro e w1 ⟨v, rfl, hS1⟩; obtain ⟨ao, cap, rfl⟩ := hS1.rdI.len))
    go_loopw [14] (fun i wr => ∃ j : Nat, j ≤ xs.length ∧ i = vi j ∧ Sat w0 (sl 3 1 (.slice ao xs.length cap) xs.length (xs.map vi) * (ringP p most (xs.drop j) * F)) wr) (fun i _ => xs.length - (intOf i).toNat)
    case atStart => exact ⟨0, Nat.zero_le _, rfl, hS1⟩
    case round =>
      obtain ⟨j, hj, rfl, hS⟩ := hrel
      clear hS1
      by_cases hlt : j < xs.length
      · go_wp2_with (go_at_call 134; refine (ring_pop hS.pull2).mono ?_; rintro e w2 ⟨rfl, hS2⟩)
        go_roundw
        case rel => exact ⟨j + 1, by omega, by go_num, by rw [List.tail_drop] at hS2; exact hS2.pull2⟩
        case measure => simp [intOf]; omega
      · obtain rfl : xs.length = j := by omega
        have hfin := hS.slPre' (k := xs.length) (by omega)
        have HF := Lib.hid hfin
        have hcap := hS.capOk
        clear hfin hS
        go_wp2
        go_ret
        exact ⟨_, rfl, by rw [List.map_take]; exact HF.out⟩
  · have h1 : ¬ ((n : Int) ≤ (xs.length : Int)) := by omega
    go_enter Tryz.func181, Tryz.ntmps181
    go_wp2_with (first | (go_at_call 187; refine hall.out.mono ?_; rintro e w1 ⟨v, rfl, hS1⟩; obtain ⟨ao, cap, rfl⟩ := hS1.rdI.len))
    go_loopw [14] (fun i wr => ∃ j : Nat, j ≤ xs.length ∧ i = vi j ∧ Sat w0 (sl 3 1 (.slice ao xs.length cap) xs.length (xs.map vi) * (ringP p most (xs.drop j) * F)) wr) (fun i _ => xs.length - (intOf i).toNat)
    case atStart => exact ⟨0, Nat.zero_le _, rfl, hS1⟩
    case round =>
      obtain ⟨j, hj, rfl, hS⟩ := hrel
      clear hS1
      by_cases hlt : j < xs.length
      · go_wp2_with (go_at_call 134; refine (ring_pop hS.pull2).mono ?_; rintro e w2 ⟨rfl, hS2⟩)
        go_roundw
        case rel => exact ⟨j + 1, by omega, by go_num, by rw [List.tail_drop] at hS2; exact hS2.pull2⟩
        case measure => simp [intOf]; omega
      · obtain rfl : xs.length = j := by omega
        have hfin := hS.slPre' (k := xs.length) (by omega)
        have HF := Lib.hid hfin
        have hcap := hS.capOk
        clear hfin hS
        go_wp2
        go_ret
        exact ⟨_, rfl, by rw [List.map_take]; exact HF.out⟩

theorem ring_take {w0 w : World} {p most : Nat} {xs : List Int} {F : Hp} (h : Sat w0 (ringP p most xs * F) w) (n : Int) :
    Calls Tryz.prog 181 #[vp p, vi n] w fun e w' => ∃ v, e = .returned v ∧ Sat w0 (sl 3 1 v (takeK n xs) ((xs.take (takeK n xs)).map vi) * (ringP p most (xs.drop (takeK n xs)) * F)) w' := by
  unfold takeK
  by_cases h0 : n < 0
  · rw [show min n.toNat xs.length = 0 by omega]
    exact ring_take_0 h n h0
  · obtain ⟨m, rfl⟩ := Int.eq_ofNat_of_zero_le (show 0 ≤ n by omega)
    by_cases h1 : m < xs.length
    · rw [show min ((m : Int)).toNat xs.length = m by omega]
      exact ring_take_n h m h1
    · rw [show min ((m : Int)).toNat xs.length = xs.length by omega]
      exact ring_take_l h m (by omega)

/-! ### slices.Clone -/
/-! ### Copy -/
end Go.Proofs.YtdbppfcilaajaaaGreat

namespace Go.Proofs.YtdbppfcilaajaaaGreat
open Go.RowKit
set_option linter.unusedVariables false

/-! ### Same -/
/-! ### Remove -/
theorem ring_at (bx p a : Nat) (len cap f i j : Nat) (ii : Int) (hii : ii = i) (w : World) (hlen : 0 < len) (hm : len ≤ 4096) (hf : f < len) (hi : i ≤ 4096) (hj : j = (f + i) % len)
    (cb : w.cell? ⟨bx, 0, none⟩ = some (vp p))
    (c0 : w.cell? ⟨p, 0, none⟩ = some (.slice (some ⟨a, 0, none⟩) len cap))
    (c1 : w.cell? ⟨p, 1, none⟩ = some (.int .i64 f)) :
    Calls Tryz.prog 205 #[vi ii, vp bx] w fun e w' => e = .returned (.pointer (some ⟨a, j, none⟩)) ∧ ∃ k, w' = w.drewN k := by
  subst hii
  have hlt : j < len := by rw [hj]; exact Nat.mod_lt _ hlen
  have ht : ((f : Int) + i) % len = (j : Int) := by rw [hj]; simp
  clear hj
  go_enter Tryz.func205, Tryz.ntmps205
  go_wp2
  go_quiet (fail)
  go_wp2
  go_ret
  exact ⟨rfl, _, rfl⟩

theorem RingOk.set {s : RingS} {most : Nat} {xs : List Int} (h : RingOk s most xs) {i : Nat} (hi : i < xs.length) (y : Int) :
    RingOk ⟨s.a, s.cap, s.arr.set ((s.f + i) % most) y, s.f⟩ most (xs.set i y) := by
  have hpos := h.pos
  have hn := h.n
  refine ⟨h.pos, h.small, by simp [h.len], h.f, by simpa using h.n, fun j hj => ?_⟩
  simp only [List.length_set] at hj
  show (s.arr.set _ y)[(s.f + j) % most]? = _
  by_cases hij : i = j
  · subst hij
    rw [List.getElem?_set_self (by rw [h.len]; exact Nat.mod_lt _ h.pos), List.getElem?_set_self hj]
  · rw [List.getElem?_set_ne ?_, List.getElem?_set_ne hij]
    · exact h.at_ j hj
    · intro e
      have h1 := h.f
      have a1 : (s.f + i) % most = if s.f + i < most then s.f + i else s.f + i - most := by
        split
        · exact Nat.mod_eq_of_lt (by omega)
        · rw [Nat.mod_eq_sub_mod (by omega)]; exact Nat.mod_eq_of_lt (by omega)
      have a2 : (s.f + j) % most = if s.f + j < most then s.f + j else s.f + j - most := by
        split
        · exact Nat.mod_eq_of_lt (by omega)
        · rw [Nat.mod_eq_sub_mod (by omega)]; exact Nat.mod_eq_of_lt (by omega)
      rw [a1, a2] at e
      split at e <;> split at e <;> omega

theorem RingOk.take {s : RingS} {most : Nat} {xs : List Int} (h : RingOk s most xs) (k : Nat) : RingOk s most (xs.take k) := by
  have := h.n
  refine ⟨h.pos, h.small, h.len, h.f, by simp; omega, fun i hi => ?_⟩
  simp only [List.length_take] at hi
  rw [h.at_ i (by omega), List.getElem?_take, if_pos (by omega)]

/-- The list while what lies behind a place moves up. -/
def shifted (xs : List Int) (p i : Nat) : List Int := (xs.eraseIdx p).take i ++ xs.drop i
theorem shifted_start (xs : List Int) (p : Nat) (hp : p < xs.length) : shifted xs p p = xs := by
  unfold shifted
  rw [List.eraseIdx_eq_take_drop_succ, List.take_append_of_le_length (by simp; omega), List.take_take]
  simp
theorem shifted_len (xs : List Int) (p i : Nat) (hp : p < xs.length) (hi : i + 1 ≤ xs.length) : (shifted xs p i).length = xs.length := by
  unfold shifted
  rw [List.length_append, List.length_take, List.length_eraseIdx, if_pos hp, List.length_drop]
  omega
theorem shifted_step (xs : List Int) (p i : Nat) (hp : p ≤ i) (hi : i + 1 < xs.length) : shifted xs p (i + 1) = (shifted xs p i).set i (xs[i + 1]?.getD 0) := by
  unfold shifted
  have hl : (xs.eraseIdx p).length = xs.length - 1 := by rw [List.length_eraseIdx, if_pos (by omega)]
  have hlt : ((xs.eraseIdx p).take i).length = i := by rw [List.length_take, hl]; omega
  rw [List.set_append, if_neg (by omega), hlt, Nat.sub_self]
  rw [List.take_succ_eq_append_getElem (by omega), List.append_assoc]
  congr 1
  rw [List.drop_eq_getElem_cons (i := i) (by omega), List.set_cons_zero]
  simp only [List.singleton_append]
  congr 1
  rw [List.getElem_eraseIdx_of_ge (by omega) hp]
  simp [hi]
theorem shifted_at (xs : List Int) (p i : Nat) (hp : p < xs.length) (hi : i + 1 < xs.length) : (shifted xs p i)[i + 1]?.getD 0 = xs[i + 1]?.getD 0 := by
  unfold shifted
  have hl : (xs.eraseIdx p).length = xs.length - 1 := by rw [List.length_eraseIdx, if_pos (by omega)]
  have hlt : ((xs.eraseIdx p).take i).length = i := by rw [List.length_take, hl]; omega
  rw [List.getElem?_append_right (by omega), hlt, List.getElem?_drop]
  congr 2
  omega
theorem shifted_end (xs : List Int) (p : Nat) (hp : p < xs.length) : (shifted xs p (xs.length - 1)).take (xs.length - 1) = xs.eraseIdx p := by
  unfold shifted
  have hl : (xs.eraseIdx p).length = xs.length - 1 := by rw [List.length_eraseIdx, if_pos (by omega)]
  rw [List.take_of_length_le (l := xs.eraseIdx p) (by omega), List.take_append_of_le_length (by omega), List.take_of_length_le (by omega)]

theorem RingOk.eq {s : RingS} {most : Nat} {xs : List Int} (h : RingOk s most xs) (i : Nat) (hi : i < xs.length) : s.arr[(s.f + i) % most]?.getD 0 = xs[i]?.getD 0 := by rw [h.at_ i hi]
end Go.Proofs.YtdbppfcilaajaaaGreat
