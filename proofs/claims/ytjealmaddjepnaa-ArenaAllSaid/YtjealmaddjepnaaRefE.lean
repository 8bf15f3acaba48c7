/-
  Contracts of the reference's table: Put. No statement is proved here.
-/
import Derived.Test.YtjealmaddjepnaaRefD
namespace Go.Proofs.Ytjealmaddjepnaa.Ar
open Go.RowKit
set_option linter.unusedVariables false

theorem rfreeL_lt (rs : List RP) (k : Nat) : ∀ i ∈ rfreeL rs k, i < rs.length := by
  intro i hi
  unfold rfreeL at hi
  rw [List.mem_filter] at hi
  rcases Nat.lt_or_ge i rs.length with h | h
  · exact h
  · rw [List.getElem?_eq_none h] at hi
    exact absurd hi.2 (by simp)
def frd (rs : List RP) (i : Nat) : Int := match rs[i]? with | some a => a.freed | none => 0
def rpick (rs : List RP) (m i : Nat) : Nat := if frd rs m < frd rs i then i else m
/-- The free place that was freed last, of so many. -/
def rlast (rs : List RP) (L : List Nat) (k : Nat) : Nat := (L.take k).foldl (rpick rs) (L.headD 0)
theorem rlast_succ (rs : List RP) (L : List Nat) (k i : Nat) (h : L[k]? = some i) : rlast rs L (k + 1) = rpick rs (rlast rs L k) i := by
  rw [rlast, List.take_add_one, h, List.foldl_append]
  rfl
theorem rlast_mem (rs : List RP) (L : List Nat) (hL : L ≠ []) (k : Nat) : rlast rs L k ∈ L := by
  induction k with
  | zero =>
    cases L with
    | nil => exact absurd rfl hL
    | cons a l => simp [rlast]
  | succ k ih =>
    cases h : L[k]? with
    | none =>
      have : rlast rs L (k + 1) = rlast rs L k := by rw [rlast, rlast, List.take_add_one, h]; simp
      rw [this]
      exact ih
    | some i =>
      rw [rlast_succ rs L k i h, rpick]
      split
      · exact List.mem_of_getElem? h
      · exact ih
theorem frd_some {rs : List RP} {i : Nat} {a : RP} (h : rs[i]? = some a) : frd rs i = a.freed := by simp [frd, h]

theorem slPos {w0 w : World} {F : Hp} {e : TypeId} {size n : Nat} {v : Value} {xs : List Value} (h : Sat w0 (sl e size v n xs * F) w) (hn : n ≠ 0) : ∃ g c, v = .slice (some ⟨g, 0, none⟩) n c := by
  rcases h.slE.2 with ⟨_, h0, _⟩ | ⟨g, c, cur, hv, _⟩
  · exact absurd h0 hn
  · exact ⟨g, c, hv⟩

section
variable {w0 w : World} {q : Nat} {rs : List RP} {times : Int} {F : Hp}
set_option maxRecDepth 100000 in
set_option maxHeartbeats 4000000 in
theorem rput_no (h : Sat w0 (refP q rs times * F) w) (hs : rs.length ≤ 4096) (x : Int) (hL : rfreeL rs rs.length = []) :
    Calls Try.prog 23 #[vp q, vi x] w fun e w' => e = .returned (.tuple #[vr 0 0, vi 3]) ∧ Sat w0 (refP q rs times * F) w' := by
  have hB : Sat w0 (pc w.heap.size 35 [vi 0, vu 0] * (refP q rs times * F)) (w.alloc (.cells #[vi 0, vu 0] 35)) := h.alloc _
  have HF := Lib.hid (rfree hB.pull2 hs)
  rw [hL] at HF
  clear h hB hL
  go_enter Try.func23, Try.ntmps23
  go_wp2_with (go_at_call 36; refine HF.out.mono ?_; rintro e w1 ⟨v, rfl, hS⟩; obtain ⟨fo, fcap, rfl⟩ := hS.rd.len; have b0 := hS.pull3.cell 0 rfl; have b1 := hS.pull3.cell 1 rfl; have f0 := hS.pull3.free 0; have f1 := hS.pull3.free 1; have HS := Lib.hid hS; clear hS)
  (try simp only [Exit.inBlock, Exit.then])
  refine bodyPost_ret (v := .tuple #[vr 0 0, vi 3]) (by rw [results_cell_tmp rfl]; go_simp) rfl ?_
  refine ⟨rfl, ?_⟩
  first
    | exact HS.out.dropL.drop2
    | exact ((HS.out.pull3.store 0 (vi 0)).store 1 (vu 0)).dropL.dropL

set_option maxRecDepth 100000 in
set_option maxHeartbeats 4000000 in
theorem rput_yes (h : Sat w0 (refP q rs times * F) w) (hs : rs.length ≤ 4096) (x : Int) (hL : rfreeL rs rs.length ≠ []) {k : Nat} {a : RP} (hk : rlast rs (rfreeL rs rs.length) (rfreeL rs rs.length).length = k) (ha : rs[k]? = some a) :
    Calls Try.prog 23 #[vp q, vi x] w fun e w' => e = .returned (.tuple #[vr k a.gen, vi 0]) ∧ Sat w0 (refP q (rs.set k { a with there := true, x := x }) times * F) w' := by
  have hB : Sat w0 (pc w.heap.size 35 [vi 0, vu 0] * (refP q rs times * F)) (w.alloc (.cells #[vi 0, vu 0] 35)) := h.alloc _
  have HF := Lib.hid (rfree hB.pull2 hs)
  have hlt := rfreeL_lt rs rs.length
  have hle := rfreeL_le rs rs.length
  generalize rfreeL rs rs.length = L at *
  have hLp : 0 < L.length := List.length_pos_iff.2 hL
  have hL0 : ((L.length : Int) == 0) = false := beq_eq_false_iff_ne.2 (by omega)
  have hmem := rlast_mem rs L hL
  obtain ⟨l0, hl0⟩ : ∃ l0, L[0]? = some l0 := ⟨L[0], List.getElem?_eq_getElem hLp⟩
  have hr0 : rlast rs L 0 = l0 := by
    cases L with
    | nil => exact absurd rfl hL
    | cons z zs => simpa [rlast] using hl0
  have Hlt := Lib.hid hlt
  have Hmem := Lib.hid hmem
  have Hl0 := Lib.hid hl0
  have Hr0 := Lib.hid hr0
  have Hk := Lib.hid hk
  have Ha := Lib.hid ha
  have hLi : (0 : Int) < (L.length : Int) := by omega
  clear h hB hlt hmem hL hl0 hr0 hk ha
  go_enter Try.func23, Try.ntmps23
  go_wp2_with (go_at_call 36; refine HF.out.mono ?_; rintro e w1 ⟨v, rfl, hS⟩; obtain ⟨fb, fcap, rfl⟩ := slPos hS (by omega); have z0 := hS.slCell 0 (by rw [List.getElem?_map, Hl0.out]; rfl); have HS := Lib.hid hS; clear hS)
  go_loopw [7, 8] (fun m i wr => ∃ j : Nat, j ≤ L.length ∧ i = vi j ∧ m = vi (rlast rs L j) ∧ Sat w0 (sl 3 1 (.slice (some ⟨fb, 0, none⟩) L.length fcap) L.length (L.map fun k : Nat => vi k) * (refP q rs times * (pc w.heap.size 35 [vi 0, vu 0] * F))) wr) (fun _ i _ => L.length - (intOf i).toNat)
  case atStart => exact ⟨0, Nat.zero_le _, rfl, by rw [Hr0.out], HS.out⟩
  case round =>
    obtain ⟨j, hj, rfl, rfl, hS⟩ := hrel
    obtain ⟨v, hv⟩ := ropen hS.pull2
    obtain ⟨ao, cap, rfl⟩ := hv.pull2.rd.len
    have hml : rlast rs L j < rs.length := Hlt.out _ (Hmem.out j)
    obtain ⟨b, c, hsv, hqb, hc, hfr⟩ := rat hv (by omega)
    cases hsv
    have c0 := hv.cell 0 rfl
    by_cases hjl : j < L.length
    · obtain ⟨i, hi⟩ : ∃ i, L[j]? = some i := ⟨L[j], List.getElem?_eq_getElem hjl⟩
      have hil : i < rs.length := Hlt.out _ (List.mem_of_getElem? hi)
      have z1 : wr.cell? ⟨fb, j, none⟩ = some (vi i) := hS.slCell j (by rw [List.getElem?_map, hi]; rfl)
      obtain ⟨ai, hai⟩ : ∃ a, rs[i]? = some a := ⟨rs[i], List.getElem?_eq_getElem hil⟩
      obtain ⟨am, ham⟩ : ∃ a, rs[rlast rs L j]? = some a := ⟨rs[rlast rs L j], List.getElem?_eq_getElem hml⟩
      have y1 := hc i 4 _ _ hai rfl
      have y2 := hc (rlast rs L j) 4 _ _ ham rfl
      have hsu := rlast_succ rs L j i hi
      rw [rpick, frd_some hai, frd_some ham] at hsu
      have HX := Lib.hid hsu
      have HS2 := Lib.hid hS
      have hji : (j : Int) < (L.length : Int) := by omega
      have hii : (i : Int) < (rs.length : Int) := by omega
      have hmi : ((rlast rs L j : Nat) : Int) < (rs.length : Int) := by omega
      clear hc hfr hv hS hi hai ham hsu
      generalize rlast rs L j = m at *
      by_cases hgt : am.freed < ai.freed
      · rw [if_pos hgt] at HX
        go_wp2
        go_quiet (fail)
        go_wp2
        go_roundw
        case rel => exact ⟨j + 1, by omega, by go_num, by rw [HX.out], HS2.out.drewN _⟩
        case measure => (simp [intOf]; try omega)
      · rw [if_neg hgt] at HX
        go_wp2
        go_quiet (fail)
        go_wp2
        go_roundw
        case rel => exact ⟨j + 1, by omega, by go_num, by rw [HX.out], HS2.out.drewN _⟩
        case measure => (simp [intOf]; try omega)
    · obtain rfl : j = L.length := by omega
      rw [Hk.out] at hml ⊢
      have hmi : (k : Int) < (rs.length : Int) := by omega
      have e0 := hc k 0 _ _ Ha.out rfl
      have e1 := hc k 1 _ _ Ha.out rfl
      have e3 := hc k 3 _ _ Ha.out rfl
      rw [Nat.add_zero] at e0
      have f1 := hfr (k * 5 + 1)
      have f3 := hfr (k * 5 + 3)
      have b0 := hS.pull3.cell 0 rfl
      have b1 := hS.pull3.cell 1 rfl
      have g0 := hS.pull3.free 0
      have g1 := hS.pull3.free 1
      have hbq : w.heap.size ≠ q := hv.pull4.ne
      have hbb : w.heap.size ≠ b := hv.pull4.drop2.slNe
      have HV := Lib.hid hv
      clear hc hfr hv hS
      go_wp2
      (try simp only [Exit.inBlock, Exit.then])
      refine bodyPost_ret (v := .tuple #[vr k a.gen, vi 0]) (by rw [results_cell_tmp rfl]; go_simp) rfl ?_
      refine ⟨rfl, ?_⟩
      have a1 := HV.out.pull2.slStore (k * 5 + 1) (by omega) (.bool true)
      rw [flat_set RP.len rs k 1 _ { a with there := true } (.bool true) Ha.out (by omega) rfl] at a1
      have a2 := a1.slStore (k * 5 + 3) (by omega) (vi x)
      rw [flat_set RP.len _ k 3 { a with there := true } { a with there := true, x := x } (vi x) (by simp [hml]) (by omega) rfl, List.set_set] at a2
      have a3 := ((a2.pull4.store 0 (vi k)).store 1 (vu a.gen)).dropL
      have hl : (rs.set k { a with there := true, x := x }).length = rs.length := List.length_set
      have a4 : Sat w0 (refB q (.slice (some ⟨b, 0, none⟩) rs.length cap) times * (refL (.slice (some ⟨b, 0, none⟩) rs.length cap) (rs.set k { a with there := true, x := x }) * (sl 3 1 (.slice (some ⟨fb, 0, none⟩) L.length fcap) L.length (L.map fun k : Nat => vi k) * F))) _ := a3.pull2.cast (by rw [refL, hl])
      exact (rshut a4).drop2
end
end Go.Proofs.Ytjealmaddjepnaa.Ar
