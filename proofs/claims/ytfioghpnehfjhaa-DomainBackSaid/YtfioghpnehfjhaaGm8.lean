/-
  Law 09: may, begin, known; do as one. No statement is proved here.
-/
import Derived.Test.YtfioghpnehfjhaaGm7
import Derived.Test.YtfioghpnehfjhaaDl2
import Derived.Test.YtfioghpnehfjhaaArgs2
namespace Go.Proofs.Ytfioghpnehfjhaa.Dm
open Go.RowKit Ad
set_option linter.unusedVariables false
set_option linter.unusedSimpArgs false

theorem newF_mem (n k j : Nat) (hk : k ≤ n) : j ∈ newF n k ↔ n - k ≤ j ∧ j < n := by
  unfold newF
  rw [List.mem_map]
  constructor
  · rintro ⟨i, hi, rfl⟩
    rw [List.mem_range] at hi
    omega
  · intro h
    exact ⟨n - 1 - j, List.mem_range.2 (by omega), by omega⟩
theorem newF_nodup (n k : Nat) (hk : k ≤ n) : (newF n k).Nodup := by
  unfold newF
  rw [List.Nodup, List.pairwise_map]
  refine (List.pairwise_lt_range (n := k)).imp_of_mem ?_
  intro a b ha hb hab
  rw [List.mem_range] at ha hb
  omega
theorem root_at (n : Nat) (hn : 1 ≤ n) (gs cpu per : Int) {k : Nat} {a : Pl} (h : (rootL n gs cpu per)[k]? = some a) : (k = 0 ∧ a = ⟨1, true, false, domX 0 0 gs cpu per⟩) ∨ (k ≠ 0 ∧ k < n ∧ a = ⟨1, false, false, ez⟩) := by
  unfold rootL at h
  by_cases hk : k = 0
  · subst hk
    rw [List.getElem?_set_self (by simp; omega)] at h
    exact .inl ⟨rfl, (Option.some.inj h).symm⟩
  · rw [List.getElem?_set_ne (by omega), List.getElem?_replicate] at h
    split at h
    · exact .inr ⟨hk, by assumption, (Option.some.inj h).symm⟩
    · cases h
theorem Rel.rootL (n : Nat) (hn : 1 ≤ n) (hn2 : n ≤ 32) {gs cpu per : Int} (hm : MayD gs cpu per) (hc : 0 ≤ cpu) : Rel n 1 (rootL n gs cpu per) (newF n (n - 1)) := by
  obtain ⟨m1, m2, m3, m4, m5⟩ := hm
  have h0 : (Dm.rootL n gs cpu per)[0]? = some ⟨1, true, false, domX 0 0 gs cpu per⟩ := List.getElem?_set_self (by simp; omega)
  have hO : ∀ k, k ≠ 0 → k < n → (Dm.rootL n gs cpu per)[k]? = some ⟨1, false, false, ez⟩ := fun k h1 h2 => by
    unfold Dm.rootL
    rw [List.getElem?_set_ne (by omega), List.getElem?_replicate, if_pos h2]
  refine ⟨by simp [Dm.rootL], hn, hn2, ?_, newF_nodup n _ (Nat.sub_le n 1), ?_, ?_, ?_, ⟨_, h0, rfl, rfl, rfl, rfl⟩, ⟨fun _ => 0, fun _ => Nat.zero_le _, ?_⟩, ?_⟩
  · intro k
    rw [newF_mem n _ k (by omega)]
    constructor
    · intro h
      exact ⟨_, hO k (by omega) h.2, rfl⟩
    · rintro ⟨a, ha, hat⟩
      rcases root_at n hn gs cpu per ha with ⟨_, rfl⟩ | ⟨h1, h2, _⟩
      · cases hat
      · omega
  · intro k a ha
    rcases root_at n hn gs cpu per ha with ⟨_, rfl⟩ | ⟨_, _, rfl⟩ <;> exact ⟨Int.le_refl _, Int.le_refl _⟩
  · intro k a ha
    rcases root_at n hn gs cpu per ha with ⟨_, rfl⟩ | ⟨_, _, rfl⟩
    · exact ⟨rfl, fun h => by cases h⟩
    · exact ⟨rfl, fun _ => rfl⟩
  · intro k a ha hat
    rcases root_at n hn gs cpu per ha with ⟨_, rfl⟩ | ⟨_, _, rfl⟩
    · exact ⟨⟨m1, m2⟩, ⟨hc, m3⟩, ⟨Int.le_refl _, by show (0 : Int) ≤ _; omega⟩, ⟨Int.le_refl _, by show (0 : Int) + 0 ≤ gs; omega⟩, hc⟩
    · cases hat
  · intro k a ha hat hk
    rcases root_at n hn gs cpu per ha with ⟨h, _⟩ | ⟨_, _, rfl⟩
    · exact absurd h hk
    · cases hat
  · intro t k a ha hat
    rcases root_at n hn gs cpu per ha with ⟨h, rfl⟩ | ⟨_, _, rfl⟩
    · rw [kidS_none (fun j b hb => ?_)]
      · cases t <;> rfl
      · cases hx : kidB b k 1 with
        | false => rfl
        | true =>
          obtain ⟨e1, e2, e3⟩ := kidB_iff.1 hx
          rcases root_at n hn gs cpu per hb with ⟨_, rfl⟩ | ⟨_, _, rfl⟩
          · have e3 : (0 : Int) = 1 := e3
            omega
          · cases e1
    · cases hat
theorem rootO_eq (n : Nat) (hn : 1 ≤ n) (gs cpu per : Int) : (rootL n gs cpu per).map oneOf = rootO n gs cpu per := by
  refine List.ext_getElem? fun k => ?_
  unfold rootL rootO
  rw [map_set, List.map_replicate]
  by_cases hk : k = 0
  · subst hk
    rw [List.getElem?_set_self (by simp; omega), List.getElem?_set_self (by simp; omega)]
    rfl
  · rw [List.getElem?_set_ne (by omega), List.getElem?_set_ne (by omega)]
    rfl

/-- What is summed over who was carved out of one, in a list of all. -/
def kidL (f : El → Int) (l : List (Nat × Int × El)) (i g : Int) : Int := (l.map fun y => if y.2.2.v0 = i ∧ y.2.2.v1 = g then f y.2.2 else 0).sum
theorem kidL_snoc (f : El → Int) (l : List (Nat × Int × El)) (y : Nat × Int × El) (i g : Int) : kidL f (l ++ [y]) i g = kidL f l i g + if y.2.2.v0 = i ∧ y.2.2.v1 = g then f y.2.2 else 0 := by
  unfold kidL
  rw [List.map_append, List.sum_append]
  simp
theorem kidL_seen {ps : List Pl} (f : El → Int) (k : Nat) (g : Int) : ∀ m, m ≤ ps.length → kidL f (seen ps m) k g = ((ps.take m).map fun b => if kidB b k g then f b.x else 0).sum
  | 0, _ => by simp [kidL, seen]
  | m + 1, hm => by
    obtain ⟨b, hb⟩ : ∃ b, ps[m]? = some b := ⟨ps[m], List.getElem?_eq_getElem hm⟩
    have ih := kidL_seen (ps := ps) f k g m (by omega)
    rw [sum_take_snoc _ hb]
    cases ht : b.there with
    | true =>
      rw [seen_yes hb ht, kidL_snoc, ih]
      have : (kidB b k g = true) ↔ (b.x.v0 = (k : Int) ∧ b.x.v1 = g) := by rw [kidB_iff]; simp [ht]
      by_cases hc : b.x.v0 = (k : Int) ∧ b.x.v1 = g
      · rw [if_pos hc, if_pos (this.2 hc)]
      · rw [if_neg hc, if_neg (fun h => hc (this.1 h))]
    | false =>
      rw [seen_no hb ht, ih]
      have : kidB b k g = false := by unfold kidB; rw [ht]; rfl
      rw [this]
      simp
theorem seen_mem2 {ps : List Pl} : ∀ (k : Nat) (x : Nat × Int × El), x ∈ seen ps k → ∃ a, x.1 < k ∧ ps[x.1]? = some a ∧ a.there = true ∧ x = (x.1, a.gen, a.x) := by
  intro k x hx
  unfold seen at hx
  rw [List.mem_filterMap] at hx
  obtain ⟨i, hi, h⟩ := hx
  rw [List.mem_range] at hi
  unfold seenO at h
  cases ha : ps[i]? with
  | none => rw [ha] at h; cases h
  | some a =>
    rw [ha] at h
    dsimp only at h
    by_cases ht : a.there = true
    · rw [if_pos ht] at h
      cases h
      exact ⟨a, hi, ha, ht, rfl⟩
    · rw [if_neg ht] at h
      cases h
/-- What is shown of one of All. -/
structure BookX (l : List (Nat × Int × El)) (i g : Int) (x : El) : Prop where
  v2 : 0 ≤ x.v2 ∧ x.v2 ≤ 64
  v3 : 0 ≤ x.v3 ∧ x.v3 ≤ 4294967296
  v7 : 0 ≤ x.v7 ∧ x.v7 ≤ x.v2 - x.v5
  v8 : 0 ≤ x.v8 ∧ x.v8 ≤ x.v2
  v5 : 0 ≤ x.v5
  v6 : 0 ≤ x.v6 ∧ x.v6 ≤ x.v3
  s5 : kidL El.v2 l i g = x.v5
  s6 : kidL El.v3 l i g = x.v6
  s8 : x.v7 + kidL El.v8 l i g = x.v8
  s10 : kidL (fun _ => 1) l i g = x.v10
theorem Rel.bookX {n T : Nat} {ps : List Pl} {free : List Nat} (h : Rel n T ps free) : (seen ps ps.length).length ≤ 32 ∧ ∀ x ∈ seen ps ps.length, BookX (seen ps ps.length) x.1 x.2.1 x.2.2 := by
  refine ⟨Nat.le_trans (seen_len _ _) (by rw [h.len]; exact h.n32), fun x hx => ?_⟩
  obtain ⟨a, hk, ha, ht, hx⟩ := seen_mem2 _ x hx
  obtain ⟨i, g, y⟩ := x
  dsimp only at hk ha hx ⊢
  injection hx with _ hx
  injection hx with e1 e2
  subst e1 e2
  have hl := h.lim i a ha ht
  have h8 := h.live i a ha ht
  have h5 := h.v5 ha ht
  have ks : ∀ f, kidL f (seen ps ps.length) i a.gen = kidS f ps i a.gen := fun f => by
    rw [kidL_seen f i a.gen ps.length (Nat.le_refl _), List.take_length]
    rfl
  have b1 := h.books .gs i a ha ht
  have b2 := h.books .cpu i a ha ht
  have b3 := h.books .kid i a ha ht
  have b4 := h.books .live i a ha ht
  have := hl.own
  simp only [Bk.of] at b1 b2 b3 b4
  refine ⟨hl.gs, hl.cpu, ⟨hl.own.1, by omega⟩, h8, h5.1, ⟨h5.2.1, hl.car⟩, ?_, ?_, ?_, ?_⟩
  · rw [ks]; exact b1.symm
  · rw [ks]; exact b2.symm
  · rw [ks]
    have : kidS (Bk.each .live) ps i a.gen = kidS El.v8 ps i a.gen := rfl
    omega
  · rw [ks]; exact b3.symm
theorem kidL_bd {l : List (Nat × Int × El)} (f : El → Int) (M : Int) (hM : 0 ≤ M) (h : ∀ x ∈ l, 0 ≤ f x.2.2 ∧ f x.2.2 ≤ M) (i g : Int) : ∀ m, 0 ≤ kidL f (l.take m) i g ∧ kidL f (l.take m) i g ≤ M * m
  | 0 => by simp [kidL]
  | m + 1 => by
    have ih := kidL_bd f M hM h i g m
    have e : M * ((m + 1 : Nat) : Int) = M * m + M := by rw [Int.natCast_add, Int.mul_add]; simp
    rw [e]
    cases hm : l[m]? with
    | none =>
      have : l.take (m + 1) = l.take m := by rw [List.take_add_one, hm]; simp
      rw [this]
      omega
    | some y =>
      have h1 := h y (List.mem_of_getElem? hm)
      have : l.take (m + 1) = l.take m ++ [y] := by rw [List.take_add_one, hm]; rfl
      rw [this, kidL_snoc]
      split <;> omega

section
variable {w0 w : World} {F : Hp} {n T g d p q b cap : Nat} {vF vR : Value} {ps : List Pl} {free : List Nat} {rl : List (Int × Int)}
set_option maxRecDepth 100000 in
set_option maxHeartbeats 4000000 in
theorem may09 (sz gs cpu per : Int) (w : World) : Calls Try.prog 21 #[vi sz, vi gs, vu cpu, vu per] w fun e w' => e = .returned (.bool (decide (1 ≤ sz ∧ sz ≤ 32 ∧ MayD gs cpu per))) ∧ w = w' := by
  have HM := Lib.hid (fun w => rd_may gs cpu per w)
  by_cases h1 : 1 ≤ sz
  · by_cases h2 : sz ≤ 32
    · rw [show decide (1 ≤ sz ∧ sz ≤ 32 ∧ MayD gs cpu per) = decide (MayD gs cpu per) by simp [h1, h2]]
      generalize decide (MayD gs cpu per) = bb at *
      go_enter Try.func21, Try.ntmps21
      go_wp2_with (go_at_call 29; refine (HM.out _).mono ?_; rintro e w' ⟨rfl, rfl⟩)
      go_ret
      exact ⟨rfl, rfl⟩
    · rw [show decide (1 ≤ sz ∧ sz ≤ 32 ∧ MayD gs cpu per) = false by simp [h2]]
      go_enter Try.func21, Try.ntmps21
      go_wp2
      go_ret
      exact ⟨rfl, rfl⟩
  · rw [show decide (1 ≤ sz ∧ sz ≤ 32 ∧ MayD gs cpu per) = false by simp [h1]]
    go_enter Try.func21, Try.ntmps21
    go_wp2
    go_ret
    exact ⟨rfl, rfl⟩
set_option maxRecDepth 100000 in
set_option maxHeartbeats 4000000 in
theorem begin09 (hS : Sat w0 F w) (n : Nat) (hn : 1 ≤ n) (hn2 : n ≤ 32) (gs cpu per : Int) (hm : MayD gs cpu per) (hc : 0 ≤ cpu) : Calls Try.prog 23 #[vi n, vi gs, vu cpu, vu per] w fun e w' =>
    ∃ g d p q b cap vF vR, e = .returned (vp g) ∧ Sat w0 (gameC g d p q b cap vF vR (rootL n gs cpu per) (newF n (n - 1)) [(0, 1)] F) w' := by
  have HN := Lib.hid (dm_new n hn hn2 gs cpu per hm hS)
  have HR := Lib.hid (fun (G : Hp) (w1 : World) (h1 : Sat w0 G w1) => rd_new n hn (by omega) gs cpu per h1)
  have HEq := Lib.hid (rootO_eq n hn gs cpu per)
  clear hS hm hc
  go_enter Try.func23, Try.ntmps23
  go_wp2_with (first
    | (go_at_call 18; (with_reducible refine HN.out.mono ?_); rintro e w1 ⟨d, p, rfl, hS1⟩; have H1 := Lib.hid hS1; clear hS1)
    | (go_at_call 30; (with_reducible refine (HR.out _ _ H1.out).mono ?_); rintro e w2 ⟨q, b, fa, fcap, rfl, hS2⟩; have H2 := Lib.hid (hS2.cast (show _ = domB d p * (rdB q b n n (.slice (some ⟨fa, 0, none⟩) (n - 1) fcap) * (sl 112 9 (.slice (some ⟨b, 0, none⟩) n n) n (oflat (rootO n gs cpu per)) * (sl 3 1 (.slice (some ⟨fa, 0, none⟩) (n - 1) fcap) (n - 1) (nats (newF n (n - 1))) * (tblP p (rootL n gs cpu per) (newF n (n - 1)) * F)))) by ac_rfl)); clear hS2)
    | (go_at_call 31; (with_reducible refine (dm_root H2.out).mono ?_); rintro e w3 ⟨rfl, hS3⟩; have hB := (hS3.alloc (.cells #[vi 0, vu 1] 32)).alloc (.cells #[vp d, vp q, .slice (some ⟨w3.heap.size, 0, none⟩) 1 1] 66); rw [size1] at hB; have HB := Lib.hid hB; clear hS3 hB))
  go_ret
  have hB' : Sat w0 (pc (w3.heap.size + 1) 66 [vp d, vp q, .slice (some ⟨w3.heap.size, 0, none⟩) 1 1] * (pc w3.heap.size 32 [vi 0, vu 1] * (domB d p * (rdB q b n n (.slice (some ⟨fa, 0, none⟩) (n - 1) fcap) * (sl 112 9 (.slice (some ⟨b, 0, none⟩) n n) n (oflat (rootO n gs cpu per)) * (sl 3 1 (.slice (some ⟨fa, 0, none⟩) (n - 1) fcap) (n - 1) (nats (newF n (n - 1))) * (tblP p (rootL n gs cpu per) (newF n (n - 1)) * F))))))) _ := HB.out
  have hsl := hB'.pull2.slI (n := 1) (cap := 1) (size := 2) (xs := frefs [(0, 1)]) (Nat.le_refl _) (by unfold maxLen; omega) (by simp) rfl
  refine ⟨_, d, p, q, b, n, .slice (some ⟨fa, 0, none⟩) (n - 1) fcap, .slice (some ⟨w3.heap.size, 0, none⟩) 1 1, rfl, hsl.cast ?_⟩
  have e1 : ((rootL n gs cpu per).map oneOf).length = n := by rw [HEq.out, rootO_len]
  have e2 : (newF n (n - 1)).length = n - 1 := newF_len n _
  unfold gameC refD rdL
  rw [e1, HEq.out, e2, show [((0 : Int), (1 : Int))].length = 1 from rfl]
  ac_rfl
abbrev n0 : List Pl := [⟨1, true, false, ⟨0, 0, 4, 10, 5, 0, 0, 0, 0, 0, 0⟩⟩, ⟨1, false, false, ez⟩, ⟨1, false, false, ez⟩, ⟨1, false, false, ez⟩]
abbrev n1 : List Pl := [⟨1, true, false, ⟨0, 0, 4, 10, 5, 3, 6, 0, 0, 0, 1⟩⟩, ⟨1, true, false, ⟨0, 1, 3, 6, 5, 0, 0, 0, 0, 0, 0⟩⟩, ⟨1, false, false, ez⟩, ⟨1, false, false, ez⟩]
abbrev n2 : List Pl := [⟨1, true, false, ⟨0, 0, 4, 10, 5, 3, 6, 1, 1, 0, 1⟩⟩, ⟨1, true, false, ⟨0, 1, 3, 6, 5, 0, 0, 0, 0, 0, 0⟩⟩, ⟨1, false, false, ez⟩, ⟨1, false, false, ez⟩]
theorem n1_bd : ∀ (k : Nat) (a : Pl), n1[k]? = some a → -1000 ≤ a.x.v7 ∧ a.x.v7 ≤ 1000000 ∧ -1000 ≤ a.x.v8 ∧ a.x.v8 ≤ 1000000 := by
  intro k a h
  have := List.mem_of_getElem? h
  simp only [List.mem_cons, List.not_mem_nil, or_false] at this
  rcases this with rfl | rfl | rfl | rfl <;> exact ⟨by decide, by decide, by decide, by decide⟩
theorem n_new (hS : Sat w0 F w) : Calls Try.prog 18 #[vi 4, vi 4, vu 10, vu 5] w fun e w' => ∃ d p, e = .returned (.tuple #[vp d, vi 0]) ∧ Sat w0 (domB d p * (tblP p n0 [3, 2, 1] * F)) w' := dm_new 4 (by omega) (by omega) 4 10 5 (by unfold MayD; omega) hS
theorem n_carve (hS : Sat w0 (domB d p * (tblP p n0 [3, 2, 1] * F)) w) : Calls Try.prog 32 #[vp d, vr 0 1, vi 3, vu 6, vu 5] w fun e w' => e = .returned (.tuple #[vr 1 1, vi 0]) ∧ Sat w0 (domB d p * (tblP p n1 [3, 2] * F)) w' :=
  carve_ok (free := [3, 2]) (k := 1) (a := ⟨1, false, false, ez⟩) hS rfl 0 1 3 6 5 (by unfold MayD; omega) rfl (by show DomOk ⟨0, 0, 4, 10, 5, 0, 0, 0, 0, 0, 0⟩; simp [DomOk]) (by show FitsD ⟨0, 0, 4, 10, 5, 0, 0, 0, 0, 0, 0⟩ 3 6; simp [FitsD]) (by omega)
theorem n_join (hS : Sat w0 (domB d p * (tblP p n1 [3, 2] * F)) w) : Calls Try.prog 50 #[vp d, vr 0 1] w fun e w' => e = .returned (vi 0) ∧ Sat w0 (domB d p * (tblP p n2 [3, 2] * F)) w' :=
  join_ok hS 0 1 rfl [0] ⟨rfl, rfl, rfl⟩ (by simp) n1_bd (by show DomOk ⟨0, 0, 4, 10, 5, 3, 6, 0, 0, 0, 1⟩; simp [DomOk]) (by show (0 : Int) < 4 - 3; omega)
theorem n_join2 (hS : Sat w0 (domB d p * (tblP p n2 [3, 2] * F)) w) : Calls Try.prog 50 #[vp d, vr 0 1] w fun e w' => e = .returned (vi 15) ∧ Sat w0 (domB d p * (tblP p n2 [3, 2] * F)) w' :=
  join_quota hS 0 1 rfl (by show DomOk ⟨0, 0, 4, 10, 5, 3, 6, 1, 1, 0, 1⟩; simp [DomOk]) (by show (4 : Int) - 3 ≤ 1; omega)
theorem n_carve2 (hS : Sat w0 (domB d p * (tblP p n2 [3, 2] * F)) w) : Calls Try.prog 32 #[vp d, vr 0 1, vi 1, vu 5, vu 5] w fun e w' => e = .returned (.tuple #[vr 0 0, vi 15]) ∧ Sat w0 (domB d p * (tblP p n2 [3, 2] * F)) w' :=
  carve_quota hS 0 1 1 5 5 (by unfold MayD; omega) rfl (by show DomOk ⟨0, 0, 4, 10, 5, 3, 6, 1, 1, 0, 1⟩; simp [DomOk]) (by show ¬ FitsD ⟨0, 0, 4, 10, 5, 3, 6, 1, 1, 0, 1⟩ 1 5; simp [FitsD])
theorem n_root {ps : List Pl} {fr : List Nat} (hS : Sat w0 (domB d p * (tblP p ps fr * F)) w) : Calls Try.prog 31 #[vp d] w fun e w' => e = .returned (vr 0 1) ∧ Sat w0 (domB d p * (tblP p ps fr * F)) w' := dm_root hS
set_option maxRecDepth 100000 in
set_option maxHeartbeats 4000000 in
theorem known09 (hS : Sat w0 F w) : Calls Try.prog 22 #[] w fun e w' => e = .returned (.bool true) ∧ Sat w0 F w' := by
  have H := Lib.hid hS
  clear hS
  go_enter Try.func22, Try.ntmps22
  go_wp2_with (first
    | (go_at_call 18; (with_reducible refine (n_new H.out).mono ?_); rintro e w1 ⟨d, p, rfl, hS⟩; have H1 := Lib.hid hS; clear hS)
    | (go_at_call 31; (with_reducible refine (n_root H1.out).mono ?_); rintro e h2 ⟨rfl, hS⟩; have H2 := Lib.hid hS; clear hS)
    | (go_at_call 32; (with_reducible refine (n_carve H2.out).mono ?_); rintro e h3 ⟨rfl, hS⟩; have hB := hS.alloc (.cells #[vi 1, vu 1] 32); have H3 := Lib.hid hB.dropL; clear hS hB)
    | (go_at_call 31; (with_reducible refine (n_root H3.out).mono ?_); rintro e h4 ⟨rfl, hS⟩; have H4 := Lib.hid hS; clear hS)
    | (go_at_call 50; (with_reducible refine (n_join H4.out).mono ?_); rintro e h5 ⟨rfl, hS⟩; have H5 := Lib.hid hS; clear hS)
    | (go_at_call 31; (with_reducible refine (n_root H5.out).mono ?_); rintro e h6 ⟨rfl, hS⟩; have H6 := Lib.hid hS; clear hS)
    | (go_at_call 50; (with_reducible refine (n_join2 H6.out).mono ?_); rintro e h7 ⟨rfl, hS⟩; have H7 := Lib.hid hS; clear hS)
    | (go_at_call 31; (with_reducible refine (n_root H7.out).mono ?_); rintro e h8 ⟨rfl, hS⟩; have H8 := Lib.hid hS; clear hS)
    | (go_at_call 32; (with_reducible refine (n_carve2 H8.out).mono ?_); rintro e h9 ⟨rfl, hS⟩; have hB := hS.alloc (.cells #[vi 0, vu 0] 32); have H9 := Lib.hid hB.dropL; clear hS hB)
    )
  go_ret
  exact ⟨by simp, H9.out.dropL.dropL⟩
theorem DoPost1.post {e : Ending} {w' : World} (hrl : 0 < rl.length) (h : DoPost1 w0 n T g d p q b cap ps free rl F e w') : DoPost w0 n T g d p q b cap rl F e w' := by
  obtain ⟨ps', free', rl', vG, vS, he, hR, hS, hc⟩ := h
  have hl : 0 < rl'.length ∧ rl'.length ≤ rl.length + 1 := by
    rcases hc with ⟨rfl, _, _⟩ | ⟨k, m, a, am, gs, cpu, per, _, _, _, _, rfl, _, _⟩
    · omega
    · rw [List.length_append, List.length_singleton]
      omega
  exact ⟨ps', free', rl', vG, vS, he, hR, hl.1, hl.2, hS⟩
theorem do_any (h : Rel n T ps free) (hT : T ≤ 1000) (hS : Sat w0 (gameC g d p q b cap vF vR ps free rl F) w) (hrl : 0 < rl.length) (hrl2 : rl.length ≤ 1000) (ri rg at_ gs m per : Int) (kind : Int) (hat : at_ ≤ 9223372036854775807) (hm : U64 m) : Calls Try.prog 24 #[vp g, .agg #[vi kind, vi ri, vu rg, vi at_, vi gs, vu m, vu per]] w (DoPost w0 n T g d p q b cap rl F) := by
  by_cases ha : at_ < 1
  · by_cases k1 : kind = 1
    · subst k1; exact (do_carveA h hT hS hrl hrl2 ri rg at_ gs m per ha hm.1).mono fun e w' h => h.post hrl
    by_cases k2 : kind = 2
    · subst k2; exact do_mergeA h hT hS hrl hrl2 ri rg at_ gs m per ha
    by_cases k3 : kind = 3
    · subst k3; exact do_joinA h hT hS hrl hrl2 ri rg at_ gs m per ha
    by_cases k4 : kind = 4
    · subst k4; exact do_leaveA h hT hS hrl hrl2 ri rg at_ gs m per ha
    by_cases k5 : kind = 5
    · subst k5; exact do_useA h hT hS hrl hrl2 ri rg at_ gs m per ha hm
    by_cases k6 : kind = 6
    · subst k6; exact do_clearA h hT hS hrl hrl2 ri rg at_ gs m per ha
    exact do_otherA h hT hS hrl hrl2 ri rg at_ gs m per ha kind ⟨k1, k2, k3, k4, k5, k6⟩
  · have ha' : 1 ≤ at_ ∧ at_ ≤ 9223372036854775807 := ⟨by omega, hat⟩
    by_cases k1 : kind = 1
    · subst k1; exact (do_carveB h hT hS hrl hrl2 ri rg at_ gs m per ha' hm.1).mono fun e w' h => h.post hrl
    by_cases k2 : kind = 2
    · subst k2; exact do_mergeB h hT hS hrl hrl2 ri rg at_ gs m per ha'
    by_cases k3 : kind = 3
    · subst k3; exact do_joinB h hT hS hrl hrl2 ri rg at_ gs m per ha'
    by_cases k4 : kind = 4
    · subst k4; exact do_leaveB h hT hS hrl hrl2 ri rg at_ gs m per ha'
    by_cases k5 : kind = 5
    · subst k5; exact do_useB h hT hS hrl hrl2 ri rg at_ gs m per ha' hm
    by_cases k6 : kind = 6
    · subst k6; exact do_clearB h hT hS hrl hrl2 ri rg at_ gs m per ha'
    exact do_otherB h hT hS hrl hrl2 ri rg at_ gs m per ha' kind ⟨k1, k2, k3, k4, k5, k6⟩
theorem do_one (h : Rel n T ps free) (hT : T ≤ 1000) (hS : Sat w0 (gameC g d p q b cap vF vR ps free rl F) w) (hrl : 0 < rl.length) (hrl2 : rl.length ≤ 1000) (ri rg at_ gs m per : Int) (hat : at_ ≤ 9223372036854775807) (hm : U64 m) : Calls Try.prog 24 #[vp g, .agg #[vi 1, vi ri, vu rg, vi at_, vi gs, vu m, vu per]] w (DoPost1 w0 n T g d p q b cap ps free rl F) := by
  by_cases ha : at_ < 1
  · exact do_carveA h hT hS hrl hrl2 ri rg at_ gs m per ha hm.1
  · exact do_carveB h hT hS hrl hrl2 ri rg at_ gs m per ⟨by omega, hat⟩ hm.1
end
def kA9 : Nat → IntKind := fun j => if j = 0 then .i64 else if j = 1 then .i64 else if j = 2 then .u64 else if j = 3 then .i64 else if j = 4 then .i64 else if j = 5 then .u64 else .u64
def QT9 (w0 : World) (e : Ending) (w' : World) : Prop := e = .returned (.bool true) ∧ Below w0.heap.size w0 w'
theorem a_act9 {w0 : World} {ao : Option Addr} {cap n : Nat} {A : Nat → Int} (h : ArgK w0 7 kA9 (.slice ao n cap) n A) {k : Nat} (hk : k < n) :
    ∃ b off, ao = some ⟨b, off, none⟩ ∧ ∃ x0 x1 x2 x3 x4 x5 x6, x3 ≤ 9223372036854775807 ∧ U64 x5 ∧ ∀ (w : World) (F : Hp), Sat w0 F w → w.cell? ⟨b, off + k * 7, none⟩ = some (vi x0) ∧ w.cell? ⟨b, off + k * 7 + 1, none⟩ = some (vi x1) ∧ w.cell? ⟨b, off + k * 7 + 2, none⟩ = some (vu x2) ∧ w.cell? ⟨b, off + k * 7 + 3, none⟩ = some (vi x3) ∧ w.cell? ⟨b, off + k * 7 + 4, none⟩ = some (vi x4) ∧ w.cell? ⟨b, off + k * 7 + 5, none⟩ = some (vu x5) ∧ w.cell? ⟨b, off + k * 7 + 6, none⟩ = some (vu x6) := by
  have hw := h.wf (k * 7 + 5) (by omega)
  have hw3 := h.wf (k * 7 + 3) (by omega)
  rcases h.form with ⟨h0, _⟩ | ⟨b, off, c, hv, hb, hc⟩
  · omega
  · cases hv
    refine ⟨b, off, rfl, A (k * 7 + 0), A (k * 7 + 1), A (k * 7 + 2), A (k * 7 + 3), A (k * 7 + 4), A (k * 7 + 5), A (k * 7 + 6), ?_, ?_, fun w F hS => ?_⟩
    · rw [show (k * 7 + 3) % 7 = 3 by omega] at hw3
      have hw3 : (Lit.int .i64 (A (k * 7 + 3))).wf = true := hw3
      simp only [Lit.wf, Bool.and_eq_true, decide_eq_true_eq] at hw3
      exact hw3.2
    · rw [show (k * 7 + 5) % 7 = 5 by omega] at hw
      have hw : (Lit.int .u64 (A (k * 7 + 5))).wf = true := hw
      simp only [Lit.wf, Bool.and_eq_true, decide_eq_true_eq] at hw
      exact ⟨hw.1, hw.2⟩
    · have g : ∀ j, j < n * 7 → w.cell? ⟨b, off + j, none⟩ = some (.int (kA9 (j % 7)) (A j)) := fun j hj => (hS.old (by exact hb)).trans (hc j hj)
      refine ⟨?_, ?_, ?_, ?_, ?_, ?_, ?_⟩
      · rw [g (k * 7) (by omega), show k * 7 % 7 = 0 by omega]; rfl
      · rw [Nat.add_assoc, g (k * 7 + 1) (by omega), show (k * 7 + 1) % 7 = 1 by omega]; rfl
      · rw [Nat.add_assoc, g (k * 7 + 2) (by omega), show (k * 7 + 2) % 7 = 2 by omega]; rfl
      · rw [Nat.add_assoc, g (k * 7 + 3) (by omega), show (k * 7 + 3) % 7 = 3 by omega]; rfl
      · rw [Nat.add_assoc, g (k * 7 + 4) (by omega), show (k * 7 + 4) % 7 = 4 by omega]; rfl
      · rw [Nat.add_assoc, g (k * 7 + 5) (by omega), show (k * 7 + 5) % 7 = 5 by omega]; rfl
      · rw [Nat.add_assoc, g (k * 7 + 6) (by omega), show (k * 7 + 6) % 7 = 6 by omega]; rfl
theorem fpd_at9 {l : List (Nat × Int × El)} {k j : Nat} {x : Nat × Int × El} {v : Value} (h : l[k]? = some x) (hv : (pdC x)[j]? = some v) : (fpd l)[k * 13 + j]? = some v :=
  flat_get (f := pdC) (N := 13) (fun _ => rfl) h hv
theorem kidL_next (f : El → Int) {l : List (Nat × Int × El)} {m : Nat} {y : Nat × Int × El} (h : l[m]? = some y) (i g : Int) : kidL f (l.take (m + 1)) i g = kidL f (l.take m) i g + if y.2.2.v0 = i ∧ y.2.2.v1 = g then f y.2.2 else 0 := by
  rw [show l.take (m + 1) = l.take m ++ [y] by rw [List.take_add_one, h]; rfl, kidL_snoc]
end Go.Proofs.Ytfioghpnehfjhaa.Dm
