/-
  The walk of ArenaFills. No statement is proved here.
-/
import Derived.Test.YtaaplmihmginpaaPlaysA
namespace Go.Proofs.Ytaaplmihmginpaa.Ar
open Go.RowKit
set_option linter.unusedVariables false

structure PutsPh (n : Nat) (first : Int) (t i : Nat) (ps : List Pl) (free : List Nat) : Prop where
  len : ps.length = n
  all : ∀ (k : Nat) (a : Pl), ps[k]? = some a → a.gen = first + t ∧ a.retired = false
  cnt : ps.countP Pl.there = i
  fl : free.length + i = n
  f0 : t = 0 → free = (newF n n).take (n - i)
structure DropPh (n : Nat) (first L : Int) (t i : Nat) (ps : List Pl) (free : List Nat) : Prop where
  len : ps.length = n
  gone : ∀ (k : Nat) (a : Pl), ps[k]? = some a → k < i → a.there = false ∧ ((t : Int) = L → a.retired = true) ∧ ((t : Int) ≠ L → a.retired = false ∧ a.gen = first + (t + 1 : Nat))
  here : ∀ (k : Nat) (a : Pl), ps[k]? = some a → i ≤ k → a.there = true ∧ a.gen = first + t ∧ a.retired = false
  fl : ((t : Int) = L → free = []) ∧ ((t : Int) ≠ L → free.length = i)
structure RetPh (n : Nat) (ps : List Pl) (free : List Nat) : Prop where
  len : ps.length = n
  all : ∀ (k : Nat) (a : Pl), ps[k]? = some a → a.there = false ∧ a.retired = true
  fl : free = []

section
variable {n t i : Nat} {first L : Int} {ps : List Pl} {free init : List Nat} {k0 : Nat} {a : Pl}
theorem countP_all {q : Pl → Bool} (h : ∀ (k : Nat) (a : Pl), ps[k]? = some a → q a = true) : ps.countP q = ps.length :=
  List.countP_eq_length.2 fun a ha => by
    obtain ⟨k, hk⟩ := List.getElem?_of_mem ha
    exact h k a hk
theorem countP_none {q : Pl → Bool} (h : ∀ (k : Nat) (a : Pl), ps[k]? = some a → q a = false) : ps.countP q = 0 :=
  List.countP_eq_zero.2 fun a ha => by
    obtain ⟨k, hk⟩ := List.getElem?_of_mem ha
    simp [h k a hk]
theorem PutsPh.start (h1 : 1 ≤ n) : PutsPh n first 0 0 (List.replicate n ⟨first, false, false, ez⟩) (newF n n) := by
  refine ⟨by simp, ?_, ?_, by simp [newF], fun _ => by rw [Nat.sub_zero, List.take_of_length_le (by simp [newF])]⟩
  · intro k a hk
    rw [List.getElem?_replicate] at hk
    split at hk
    · cases hk; simp
    · cases hk
  · rw [List.countP_replicate]; simp
theorem PutsPh.step (h : PutsPh n first t i ps (init ++ [k0])) (hok : TblOk ps (init ++ [k0])) (ha : ps[k0]? = some a) (x : El) :
    PutsPh n first t (i + 1) (ps.set k0 { a with there := true, x := x }) init ∧ a.gen = first + t ∧ (t = 0 → k0 = i) := by
  obtain ⟨b, hb, hth, hre⟩ := (hok.mem k0).1 (by simp)
  rw [ha] at hb
  cases hb
  have hfl := h.fl
  simp only [List.length_append, List.length_cons, List.length_nil] at hfl
  refine ⟨⟨by rw [List.length_set]; exact h.len, ?_, ?_, by omega, ?_⟩, (h.all _ _ ha).1, ?_⟩
  · intro k b hb
    rcases get_set ha _ k b hb with ⟨rfl, rfl⟩ | ⟨_, hb⟩
    · have h5 := h.all _ _ ha
      exact h5
    · exact h.all _ _ hb
  · have := cnt_set Pl.there ha { a with there := true, x := x }
    rw [hth] at this
    have hc := h.cnt
    simp at this
    omega
  · intro ht
    have h0 := h.f0 ht
    have e : n - i = (n - (i + 1)) + 1 := by omega
    rw [e] at h0
    have hl : (init ++ [k0]).take (n - (i + 1)) = ((newF n n).take (n - (i + 1) + 1)).take (n - (i + 1)) := by rw [h0]
    rw [List.take_take, Nat.min_eq_left (by omega), List.take_left' (by omega)] at hl
    exact hl
  · intro ht
    have h0 := h.f0 ht
    have h1 : (init ++ [k0])[init.length]? = some k0 := by simp
    rw [h0, List.getElem?_take, if_pos (by omega), newF, List.getElem?_map, List.getElem?_range (by omega)] at h1
    simp at h1
    omega
theorem PutsPh.full (h : PutsPh n first t n ps free) (hok : TblOk ps free) : free = [] ∧ DropPh n first L t 0 ps free := by
  have hf : free = [] := List.eq_nil_of_length_eq_zero (by have := h.fl; omega)
  refine ⟨hf, h.len, fun k a _ hk => by omega, ?_, ⟨fun _ => hf, fun _ => by rw [hf]; rfl⟩⟩
  intro k a ha _
  have h1 := h.all k a ha
  refine ⟨?_, h1⟩
  cases hth : a.there
  · have := (hok.mem k).2 ⟨a, ha, hth, h1.2⟩
    rw [hf] at this
    cases this
  · rfl
theorem DropPh.step (h : DropPh n first L t i ps free) (ha : ps[i]? = some a) (hgl : a.gen = 18446744073709551614 ↔ (t : Int) = L) :
    DropPh n first L t (i + 1) (dropped ps free i (first + t)).1 (dropped ps free i (first + t)).2 := by
  obtain ⟨h1, h2, h3⟩ := h.here i a ha (Nat.le_refl _)
  have hat : isAt ps i (first + t) = some (i, a) := by rw [← h2]; exact isAt_yes ha h1
  unfold dropped
  rw [hat]
  dsimp only
  by_cases hg : a.gen = 18446744073709551614
  · have htL := hgl.1 hg
    rw [if_pos hg]
    refine ⟨by rw [List.length_set]; exact h.len, ?_, ?_, h.fl.1 |> fun f => ⟨f, fun e => absurd htL e⟩⟩
    · intro k b hb hk
      rcases get_set ha _ k b hb with ⟨rfl, rfl⟩ | ⟨hne, hb⟩
      · exact ⟨rfl, fun _ => rfl, fun e => absurd htL e⟩
      · exact h.gone k b hb (by omega)
    · intro k b hb hk
      rcases get_set ha _ k b hb with ⟨rfl, rfl⟩ | ⟨hne, hb⟩
      · omega
      · exact h.here k b hb (by omega)
  · have htL : (t : Int) ≠ L := fun e => hg (hgl.2 e)
    rw [if_neg hg]
    refine ⟨by rw [List.length_set]; exact h.len, ?_, ?_, ⟨fun e => absurd e htL, fun e => by simp [h.fl.2 e]⟩⟩
    · intro k b hb hk
      rcases get_set ha _ k b hb with ⟨rfl, rfl⟩ | ⟨hne, hb⟩
      · exact ⟨rfl, fun e => absurd e htL, fun _ => ⟨h3, by simp only [h2]; omega⟩⟩
      · exact h.gone k b hb (by omega)
    · intro k b hb hk
      rcases get_set ha _ k b hb with ⟨rfl, rfl⟩ | ⟨hne, hb⟩
      · omega
      · exact h.here k b hb (by omega)
theorem DropPh.end0 (h : DropPh n first L t n ps free) : ps.countP Pl.there = 0 :=
  countP_none fun k a ha => (h.gone k a ha (by have := (List.getElem?_eq_some_iff.1 ha).1; have := h.len; omega)).1
theorem DropPh.end1 (h : DropPh n first L t n ps free) : free.length + ps.countP Pl.retired = n := by
  have hg : ∀ (k : Nat) (a : Pl), ps[k]? = some a → k < n := fun k a ha => by have := (List.getElem?_eq_some_iff.1 ha).1; have := h.len; omega
  by_cases ht : (t : Int) = L
  · rw [h.fl.1 ht, countP_all fun k a ha => (h.gone k a ha (hg k a ha)).2.1 ht, h.len]
    simp
  · rw [h.fl.2 ht, countP_none fun k a ha => ((h.gone k a ha (hg k a ha)).2.2 ht).1]
    rfl
def OutPh (n : Nat) (first L : Int) (t : Nat) (ps : List Pl) (free : List Nat) : Prop := ((t : Int) ≤ L → PutsPh n first t 0 ps free) ∧ (L < (t : Int) → RetPh n ps free)
theorem DropPh.next (h : DropPh n first L t n ps free) (hle : (t : Int) ≤ L) : OutPh n first L (t + 1) ps free := by
  have hg : ∀ (k : Nat) (a : Pl), ps[k]? = some a → k < n := fun k a ha => by have := (List.getElem?_eq_some_iff.1 ha).1; have := h.len; omega
  constructor
  · intro hl
    have ht : (t : Int) ≠ L := by omega
    refine ⟨h.len, fun k a ha => ?_, h.end0, by rw [h.fl.2 ht]; rfl, fun e => by omega⟩
    have := (h.gone k a ha (hg k a ha)).2.2 ht
    exact ⟨this.2, this.1⟩
  · intro hl
    have ht : (t : Int) = L := by omega
    exact ⟨h.len, fun k a ha => ⟨(h.gone k a ha (hg k a ha)).1, (h.gone k a ha (hg k a ha)).2.1 ht⟩, h.fl.1 ht⟩
theorem RetPh.th (h : RetPh n ps free) : ps.countP Pl.there = 0 := countP_none fun k a ha => (h.all k a ha).1
theorem RetPh.re (h : RetPh n ps free) : ps.countP Pl.retired = n := by rw [countP_all fun k a ha => (h.all k a ha).2, h.len]
end

section
variable {w0 w : World} {p : Nat} {ps : List Pl} {free : List Nat} {F : Hp}
theorem len_c (h : Sat w0 (tblP p ps free * F) w) :
    Calls Try.prog 36 #[vp p] w fun e w' => e = .returned (vi (ps.countP Pl.there)) ∧ Sat w0 (tblP p ps free * F) w' := by
  have := len_ h
  rw [seen_length ps _ (Nat.le_refl _), cTh_all ps (Nat.le_refl _)] at this
  exact this
theorem frees_ (h : Sat w0 (tblP p ps free * F) w) : Calls Try.prog 37 #[vp p] w fun e w' => e = .returned (vi free.length) ∧ w = w' := by
  obtain ⟨s, hs⟩ := open_ h
  exact frees hs
theorem drop_yes (h : Sat w0 (tblP p ps free * F) w) {i g : Int} {ka : Nat × Pl} (hA : isAt ps i g = some ka) :
    Calls Try.prog 30 #[vp p, vr i g] w fun e w' => e = .returned (vi 0) ∧ Sat w0 (tblP p (dropped ps free i g).1 (dropped ps free i g).2 * F) w' := by
  have := drop_ h i g
  rw [getE, hA] at this
  exact this
end

theorem fills_early (w0 : World) (size first : Int) (hbad : 200 < size ∨ ¬ MayP size first) :
    Calls Try.prog 7 #[vi size, vu first] w0 (TrueBelow w0) := by
  by_cases hm : 200 < size
  · clear hbad
    go_enter Try.func7, Try.ntmps7
    go_wp2_with (go_at_call 23; refine (As.knownA (Sat.start w0)).mono ?_; rintro e w2 ⟨rfl, hS⟩)
    go_ret
    exact ⟨rfl, hS.below⟩
  · have hy : ¬ MayP size first := hbad.resolve_left hm
    have HY := Lib.hid (may_no size first hy w0)
    clear hy hbad
    go_enter Try.func7, Try.ntmps7
    go_wp2_with (first | (go_at_call 22; refine HY.out.mono ?_; rintro e w1 ⟨rfl, rfl⟩) | (go_at_call 23; refine (As.knownA (Sat.start w0)).mono ?_; rintro e w2 ⟨rfl, hS⟩))
    go_ret
    exact ⟨rfl, hS.below⟩

set_option maxRecDepth 100000 in
set_option maxHeartbeats 8000000 in
theorem fills_walk (w0 : World) (size first : Int) :
    Calls Try.prog 7 #[vi size, vu first] w0 (TrueBelow w0) := by
  by_cases hbad : 200 < size ∨ ¬ MayP size first
  · exact fills_early w0 size first hbad
  have hm : ¬ 200 < size := fun e => hbad (.inl e)
  have hmay : MayP size first := Classical.byContradiction fun e => hbad (.inr e)
  have HY := Lib.hid (may_yes size first hmay w0)
  obtain ⟨hs1, hs2, hf1, hf2⟩ := hmay
  obtain ⟨n, rfl⟩ := Int.eq_ofNat_of_zero_le (show 0 ≤ size by omega)
  have HN := Lib.hid (new_ (F := emp) n first (by omega) (by omega) hf1 hf2 (Sat.start w0))
  obtain ⟨L, hL⟩ : ∃ L : Int, L = 18446744073709551614 - first := ⟨_, rfl⟩
  have hw : IntKind.u64.wrap (18446744073709551614 - first) = L := by rw [hL]; exact IntWalk.u64_in _ (by omega)
  have HLL := Lib.hid hL
  have HF := Lib.hid (And.intro hf1 hf2)
  have hn1 : 1 ≤ n := by omega
  have hn2 : n ≤ 200 := by omega
  have hn3 : ¬ 200 < (n : Int) := hm
  clear hbad hL hf1 hf2 hs1 hs2 hm
  go_enter Try.func7, Try.ntmps7
  go_wp2_with (first
    | (go_at_call 22; refine HY.out.mono ?_; rintro e w1 ⟨rfl, rfl⟩)
    | (go_at_call 24; refine HN.out.mono ?_; rintro e w2 ⟨p, rfl, hS⟩; have H := Lib.hid hS; clear hS))
  clear hw
  go_loopw [8] (fun i wr => ∃ (t : Nat) (ps : List Pl) (free : List Nat), t ≤ 3 ∧ i = vu t ∧ OutPh n first L t ps free ∧ Sat w0 (tblP p ps free * emp) wr) (fun i _ => 3 - (intOf i).toNat)
  case atStart => exact ⟨0, _, _, by omega, rfl, ⟨fun _ => PutsPh.start hn1, fun e => by have := HLL.out; have := HF.out; omega⟩, H.out⟩
  case round =>
    obtain ⟨t, ps, free, ht, rfl, hO, hS⟩ := hrel
    by_cases ht3 : t < 3
    · have ht3' : (t : Int) < 3 := by omega
      by_cases hle : (t : Int) ≤ L
      · have hP := Lib.hid (hO.1 hle)
        have HS := Lib.hid hS
        have hd1 : decide (L < (t : Int)) = false := decide_eq_false (by omega)
        have hsum : IntKind.u64.wrap (first + (t : Int)) = first + (t : Int) := IntWalk.u64_in _ (by have := HLL.out; have := HF.out; omega)
        have hgl : Hid (first + (t : Int) = 18446744073709551614 ↔ (t : Int) = L) := Lib.hid (by have := HLL.out; omega)
        clear hO hS
        go_wp2
        go_loopw [9] (fun j wr2 => ∃ (i : Nat) (ps : List Pl) (free : List Nat), i ≤ n ∧ j = vi i ∧ PutsPh n first t i ps free ∧ Sat w0 (tblP p ps free * emp) wr2) (fun j _ => n - (intOf j).toNat)
        case atStart => exact ⟨0, ps, free, Nat.zero_le _, rfl, hP.out, HS.out⟩
        case round =>
          clear hP HS
          obtain ⟨i, ps2, free2, hi, rfl, hPh, hS⟩ := hrel
          by_cases hlt : i < n
          · have hok := tblOk_of hS
            have hne : free2 ≠ [] := by
              intro e
              have := hPh.fl
              rw [e] at this
              simp at this
              omega
            obtain ⟨init, k0, rfl⟩ : ∃ init k0, free2 = init ++ [k0] := by
              rcases List.eq_nil_or_concat free2 with h | ⟨L, b, h⟩
              · exact absurd h hne
              · exact ⟨L, b, by rw [h, List.concat_eq_append]⟩
            obtain ⟨a, hka, hth, hre⟩ := (hok.mem k0).1 (by simp)
            obtain ⟨hP2, hgen, h0⟩ := hPh.step hok hka i
            have hc2 := hP2.cnt
            have HP := Lib.hid (put_yes hS hka i)
            have HP2 := Lib.hid hP2
            have hin : (i : Int) < (n : Int) := by omega
            generalize ps2.set k0 { a with there := true, x := (i : Int) } = ps3 at *
            rw [hgen] at HP
            have HC2 := Lib.hid hc2
            have H0 := Lib.hid h0
            clear hok hne hka hth hre hPh hS hgen hP2 hc2 h0
            by_cases htz : t = 0
            · have hk0 := H0.out htz
              have ht0 : ((t : Int) == 0) = true := by simp [htz]
              have hkk : ((k0 : Int) == (i : Int)) = true := by simp [hk0]
              clear htz hk0
              go_wp2_with (first
                | (go_at_call 25; refine HP.out.mono ?_; rintro e w3 ⟨rfl, hT⟩; have hB : Sat w0 (pc w3.heap.size 45 [vi k0, vu (first + t)] * (tblP p ps3 init * emp)) (w3.alloc (.cells #[vi k0, vu (first + t)] 45)) := hT.alloc _; have b0 := hB.cell 0 rfl; have b1 := hB.cell 1 rfl; have H3 := Lib.hid hB; clear hT hB)
                | (go_at_call 36; refine (len_c H3.out.pull2).mono ?_; rintro e w4 ⟨rfl, hT⟩; rw [HC2.out]; have b2 := hT.pull2.cell 0 rfl; have H4 := Lib.hid hT.drop2; clear hT))
              go_roundw
              case rel => exact ⟨i + 1, ps3, init, by omega, by go_num, HP2.out, H4.out⟩
              case measure => (simp [intOf]; try omega)
            · have ht0 : ((t : Int) == 0) = false := beq_eq_false_iff_ne.2 (by omega)
              clear htz
              go_wp2_with (first
                | (go_at_call 25; refine HP.out.mono ?_; rintro e w3 ⟨rfl, hT⟩; have hB : Sat w0 (pc w3.heap.size 45 [vi k0, vu (first + t)] * (tblP p ps3 init * emp)) (w3.alloc (.cells #[vi k0, vu (first + t)] 45)) := hT.alloc _; have b0 := hB.cell 0 rfl; have b1 := hB.cell 1 rfl; have H3 := Lib.hid hB; clear hT hB)
                | (go_at_call 36; refine (len_c H3.out.pull2).mono ?_; rintro e w4 ⟨rfl, hT⟩; rw [HC2.out]; have H4 := Lib.hid hT.drop2; clear hT))
              go_roundw
              case rel => exact ⟨i + 1, ps3, init, by omega, by go_num, HP2.out, H4.out⟩
              case measure => (simp [intOf]; try omega)
          · obtain rfl : i = n := by omega
            obtain ⟨hf, hD⟩ := PutsPh.full (L := L) hPh (tblOk_of hS)
            subst hf
            have HS := Lib.hid hS
            have HD := Lib.hid hD
            clear hS hD hPh
            go_wp2_with (go_at_call 25; refine (put_no HS.out 1).mono ?_; rintro e w3 ⟨rfl, hT⟩; have H3 := Lib.hid (hT.alloc' (.cells #[vi 0, vu 0] 45)); clear hT)
            go_loopw [14] (fun j wr2 => ∃ (m : Nat) (ps : List Pl) (free : List Nat), m ≤ i ∧ j = vi m ∧ DropPh i first L t m ps free ∧ Sat w0 (tblP p ps free * emp) wr2) (fun j _ => i - (intOf j).toNat)
            case atStart => exact ⟨0, ps2, [], Nat.zero_le _, rfl, HD.out, H3.out⟩
            case round =>
              clear HD HS
              obtain ⟨m, ps4, free4, hm, rfl, hPh, hS⟩ := hrel
              have htl : decide ((t : Int) ≤ L) = true := decide_eq_true hle
              by_cases hlt2 : m < i
              · obtain ⟨a, ha⟩ : ∃ a, ps4[m]? = some a := ⟨ps4[m]'(by rw [hPh.len]; exact hlt2), List.getElem?_eq_getElem _⟩
                obtain ⟨g1, g2, g3⟩ := hPh.here m a ha (Nat.le_refl _)
                have hstep := hPh.step ha (by rw [g2]; exact hgl.out)
                have HA := at_ hS m
                rw [atV_yes ha g1, g2] at HA
                have HA2 := Lib.hid HA
                have hia : isAt ps4 m (first + t) = some (m, a) := by rw [← g2]; exact isAt_yes ha g1
                have HIA := Lib.hid hia
                have HST := Lib.hid hstep
                have hmi : (m : Int) < (i : Int) := by omega
                clear HA hia ha g1 g2 g3 hS hPh hstep
                go_wp2_with (first
                  | (go_at_call 34; refine HA2.out.mono ?_; rintro e w5 ⟨rfl, hT⟩; have hB : Sat w0 (pc w5.heap.size 45 [vi m, vu (first + t)] * (tblP p ps4 free4 * emp)) (w5.alloc (.cells #[vi m, vu (first + t)] 45)) := hT.alloc _; have b0 := hB.cell 0 rfl; have b1 := hB.cell 1 rfl; have H5 := Lib.hid hB.dropL; clear hT hB)
                  | (go_at_call 30; refine (drop_yes H5.out HIA.out).mono ?_; rintro e w6 ⟨rfl, hT⟩; have H6 := Lib.hid hT; clear hT))
                go_roundw
                case rel => exact ⟨m + 1, _, _, by omega, by go_num, HST.out, H6.out⟩
                case measure => (simp [intOf]; try omega)
              · obtain rfl : m = i := by omega
                have HNx := Lib.hid (hPh.next hle)
                have HE0 := Lib.hid hPh.end0
                have he1 := hPh.end1
                have HE1 := Lib.hid he1
                have hc1 : free4.length ≤ 200 := by omega
                have hc2 : ps4.countP Pl.retired ≤ 200 := by omega
                have HS := Lib.hid hS
                clear hS hPh he1
                go_wp2_with (first
                  | (go_at_call 36; refine (len_c HS.out).mono ?_; rintro e w7 ⟨rfl, hT⟩; rw [HE0.out]; have H7 := Lib.hid hT; clear hT)
                  | (go_at_call 37; refine (frees_ H7.out).mono ?_; rintro e w' ⟨rfl, rfl⟩)
                  | (go_at_call 35; refine (retired_ H7.out).mono ?_; rintro e w8 ⟨rfl, hT⟩; have hsm : ((free4.length : Int) + (List.countP Pl.retired ps4 : Int) == (m : Int)) = true := (by have := HE1.out; rw [beq_iff_eq]; omega); have hsm2 : ((free4.length : Int) + (List.countP Pl.retired ps4 : Int) != (m : Int)) = false := (by rw [bne, hsm]; rfl); have H8 := Lib.hid hT; clear hT))
                go_roundw
                case rel => exact ⟨t + 1, ps4, free4, by omega, by go_num, HNx.out, H8.out⟩
                case measure => (simp [intOf]; try omega)
      · have hP := hO.2 (by omega)
        have hfl := hP.fl
        subst hfl
        have HP := Lib.hid hP
        have HS := Lib.hid hS
        have hd1 : decide (L < (t : Int)) = true := decide_eq_true (by omega)
        have hd2 : decide ((t : Int) ≤ L) = false := decide_eq_false (by omega)
        have HNx : Hid (OutPh n first L (t + 1) ps []) := Lib.hid ⟨fun e => by omega, fun _ => HP.out⟩
        clear hO hS hP
        go_wp2
        go_loopw [9] (fun j wr2 => ∃ (i : Nat), i ≤ n ∧ j = vi i ∧ Sat w0 (tblP p ps [] * emp) wr2) (fun j _ => n - (intOf j).toNat)
        case atStart => exact ⟨0, Nat.zero_le _, rfl, HS.out⟩
        case round =>
          clear HS
          obtain ⟨i, hi, rfl, hS⟩ := hrel
          have HS := Lib.hid hS
          have HRe := Lib.hid HP.out.re
          clear hS
          by_cases hlt : i < n
          · go_wp2_with (first
              | (go_at_call 25; refine (put_no HS.out i).mono ?_; rintro e w3 ⟨rfl, hT⟩; have H3 := Lib.hid (hT.alloc' (.cells #[vi 0, vu 0] 45)); clear hT)
              | (go_at_call 35; refine (retired_ H3.out).mono ?_; rintro e w8 ⟨rfl, hT⟩; rw [HRe.out]; have H8 := Lib.hid hT; clear hT))
            go_roundw
            case rel => exact ⟨i + 1, by omega, by go_num, H8.out⟩
            case measure => (simp [intOf]; try omega)
          · obtain rfl : i = n := by omega
            go_wp2_with (go_at_call 25; refine (put_no HS.out 1).mono ?_; rintro e w3 ⟨rfl, hT⟩; have H3 := Lib.hid (hT.alloc' (.cells #[vi 0, vu 0] 45)); clear hT)
            go_loopw [14] (fun j wr2 => ∃ (m : Nat), m ≤ i ∧ j = vi m ∧ Sat w0 (tblP p ps [] * emp) wr2) (fun j _ => i - (intOf j).toNat)
            case atStart => exact ⟨0, Nat.zero_le _, rfl, H3.out⟩
            case round =>
              clear HS
              obtain ⟨m, hm, rfl, hS⟩ := hrel
              by_cases hlt2 : m < i
              · have HA := at_ hS m
                rw [atV_no (ps := ps) (m := m) (fun k hk a ha => (HP.out.all k a ha).1)] at HA
                have HA2 := Lib.hid HA
                have hmi : (m : Int) < (i : Int) := by omega
                clear HA hS
                go_wp2_with (go_at_call 34; refine HA2.out.mono ?_; rintro e w5 ⟨rfl, hT⟩; have H5 := Lib.hid (hT.alloc' (.cells #[vi 0, vu 0] 45)); clear hT)
                go_roundw
                case rel => exact ⟨m + 1, by omega, by go_num, H5.out⟩
                case measure => (simp [intOf]; try omega)
              · obtain rfl : m = i := by omega
                have HE0 := Lib.hid HP.out.th
                have HS := Lib.hid hS
                clear hS
                go_wp2_with (first
                  | (go_at_call 36; refine (len_c HS.out).mono ?_; rintro e w7 ⟨rfl, hT⟩; rw [HE0.out]; have H7 := Lib.hid hT; clear hT)
                  | (go_at_call 37; refine (frees_ H7.out).mono ?_; rintro e w' ⟨rfl, rfl⟩)
                  | (go_at_call 35; refine (retired_ H7.out).mono ?_; rintro e w8 ⟨rfl, hT⟩; rw [HRe.out]; have H8 := Lib.hid hT; clear hT))
                go_roundw
                case rel => exact ⟨t + 1, ps, [], by omega, by go_num, HNx.out, H8.out⟩
                case measure => (simp [intOf]; try omega)
    · obtain rfl : t = 3 := by omega
      have HS := Lib.hid hS
      clear hS hO
      go_wp2_with (go_at_call 23; refine (As.knownA HS.out).mono ?_; rintro e w2 ⟨rfl, hS⟩)
      go_ret
      exact ⟨rfl, hS.below⟩
theorem fills_row (w0 : World) (size : Int) (ws : (Lit.int .i64 size).wf = true) (first : Int) (wf : (Lit.int .u64 first).wf = true) :
    Calls Try.prog 7 #[vi size, vu first] w0 (TrueBelow w0) := fills_walk w0 size first
end Go.Proofs.Ytaaplmihmginpaa.Ar
