/-
  Contracts of package ring: what each of its functions answers of a ring that holds a list, and what it leaves. No statement is proved here.
-/
import Derived.Test.YtjgemfgneiaabaaGreatProg
import Derived.Test.YtjgemfgneiaabaaGreatOps
namespace Go.Proofs.YtjgemfgneiaabaaGreat
open Go.RowKit
set_option linter.unusedVariables false

theorem Einti : SlT Tryz.prog 41 3 1 8 (.int .i64 0) := SlT.mk' Tryz.underlying41 (by kernel_rfl) rfl (by decide)

abbrev vi (x : Int) : Value := .int .i64 x
abbrev vp (p : Nat) : Value := .pointer (some ⟨p, 0, none⟩)

structure RingS where
  a : Nat
  cap : Nat
  arr : List Int
  f : Nat

structure RingOk (s : RingS) (most : Nat) (xs : List Int) : Prop where
  pos : 0 < most
  small : most ≤ 4096
  len : s.arr.length = most
  f : s.f < most
  n : xs.length ≤ most
  at_ : ∀ i, i < xs.length → s.arr[(s.f + i) % most]? = xs[i]?

/-- The ring's own array. -/
abbrev RingS.v (s : RingS) (most : Nat) : Value := .slice (some ⟨s.a, 0, none⟩) most s.cap
abbrev ringA (s : RingS) (most : Nat) : Hp := sl 3 1 (s.v most) most (s.arr.map vi)
abbrev ringB (p : Nat) (s : RingS) (most n : Nat) : Hp := pc p 139 [s.v most, vi s.f, vi n]
def ringP (p : Nat) (most : Nat) (xs : List Int) : Hp := ex fun s : RingS => given (RingOk s most xs) (ringB p s most xs.length * ringA s most)

structure RingIs (w0 : World) (p : Nat) (s : RingS) (most : Nat) (xs : List Int) (F : Hp) (w : World) : Prop where
  ok : RingOk s most xs
  sat : Sat w0 (ringB p s most xs.length * (ringA s most * F)) w
  c0 : w.cell? ⟨p, 0, none⟩ = some (.slice (some ⟨s.a, 0, none⟩) most s.cap)
  c1 : w.cell? ⟨p, 1, none⟩ = some (vi s.f)
  c2 : w.cell? ⟨p, 2, none⟩ = some (vi xs.length)
  fz : ∀ i, w.frozen? ⟨p, i, none⟩ = false
  fa : ∀ i, w.frozen? ⟨s.a, i, none⟩ = false
  ne : p ≠ s.a
  ca : ∀ i, i < most → w.cell? ⟨s.a, i, none⟩ = some (vi (s.arr[i]?.getD 0))

theorem Sat.ring {w0 w : World} {p most : Nat} {xs : List Int} {F : Hp} (h : Sat w0 (ringP p most xs * F) w) : ∃ s, RingIs w0 p s most xs F w := by
  obtain ⟨s, h⟩ := h.exE
  obtain ⟨ok, h⟩ := h.givenE
  have h' := h.cast (sep_assoc _ _ _)
  have h2 := h'.pull2
  refine ⟨s, ok, h', h'.cell 0 rfl, h'.cell 1 rfl, h'.cell 2 rfl, h'.free, h2.slFree, h'.slNe, fun i hi => h2.slCell i ?_⟩
  have : i < s.arr.length := by rw [ok.len]; exact hi
  simp [this]

theorem Sat.ringI {w0 w : World} {p most : Nat} {xs : List Int} {F : Hp} (s : RingS) (ok : RingOk s most xs)
    (h : Sat w0 (ringB p s most xs.length * (ringA s most * F)) w) : Sat w0 (ringP p most xs * F) w :=
  Sat.exI s (Sat.givenI ok (h.cast (sep_assoc _ _ _).symm))

/-! ### none -/
theorem ring_none_at (p a : Nat) (len cap : Nat) (w : World) (hlen : 0 < len) (hm : len ≤ 4096)
    (c0 : w.cell? ⟨p, 0, none⟩ = some (.slice (some ⟨a, 0, none⟩) len cap)) :
    Calls Tryz.prog 111 #[vp p] w fun e w' => e = .returned (.bool false) ∧ w = w' := by
  have h0 : ((len : Int) == 0) = false := by simp; omega
  go_enter Tryz.func111, Tryz.ntmps111
  go_wp2
  go_ret
  exact ⟨rfl, rfl⟩

theorem ring_none {w0 w : World} {p : Nat} {s : RingS} {most : Nat} {xs : List Int} {F : Hp} (h : RingIs w0 p s most xs F w) :
    Calls Tryz.prog 111 #[vp p] w fun e w' => e = .returned (.bool false) ∧ w = w' :=
  ring_none_at p s.a most s.cap w h.ok.pos h.ok.small h.c0

/-! ### Push -/
theorem ring_push_at (p a : Nat) (x : Int) (len cap f n i : Nat) (w : World) (hpa : p ≠ a) (y : Int) (hlen : 0 < len) (hm : len ≤ 4096) (hf : f < len) (hn : n < len)
    (hi : i = (f + n) % len)
    (c0 : w.cell? ⟨p, 0, none⟩ = some (.slice (some ⟨a, 0, none⟩) len cap))
    (c1 : w.cell? ⟨p, 1, none⟩ = some (.int .i64 f))
    (c2 : w.cell? ⟨p, 2, none⟩ = some (.int .i64 n))
    (ca : w.cell? ⟨a, i, none⟩ = some (.int .i64 y))
    (fp : w.frozen? ⟨p, 2, none⟩ = false) (fa : w.frozen? ⟨a, i, none⟩ = false) :
    Calls Tryz.prog 94 #[vp p, vi x] w fun e w' => e = .returned (.int .i64 0) ∧ ∃ k, w' = (((w.drewN k).setCell ⟨a, i, none⟩ (vi x)).setCell ⟨p, 2, none⟩ (vi (n + 1))) := by
  have h0 : ((n : Int) == (len : Int)) = false := by simp; omega
  have hlt : i < len := by rw [hi]; exact Nat.mod_lt _ hlen
  have ht : ((f : Int) + n) % len = (i : Int) := by rw [hi]; simp
  clear hi
  go_enter Tryz.func94, Tryz.ntmps94
  go_wp2_with (go_at_call 111; refine (ring_none_at p a len cap _ hlen hm c0).mono ?_; rintro e w' ⟨rfl, rfl⟩)
  go_quiet (fail)
  go_wp2
  refine wp_quiet_tail 21 (by kernel_rfl) (by kernel_rfl) ?_
  simp only [List.take_succ_cons, List.take_zero, List.drop_succ_cons, List.drop_zero]
  repeat (go_big_quiet_step (fail))
  refine wpQuiet_nil ?_
  go_wp2
  go_ret
  exact ⟨rfl, _, rfl⟩

theorem ring_push_full_at (p a : Nat) (x : Int) (len cap f : Nat) (w : World) (hlen : 0 < len) (hm : len ≤ 4096)
    (c0 : w.cell? ⟨p, 0, none⟩ = some (.slice (some ⟨a, 0, none⟩) len cap))
    (c1 : w.cell? ⟨p, 1, none⟩ = some (.int .i64 f))
    (c2 : w.cell? ⟨p, 2, none⟩ = some (.int .i64 len)) :
    Calls Tryz.prog 94 #[vp p, vi x] w fun e w' => e = .returned (.int .i64 3) ∧ ∃ k, w' = w.drewN k := by
  go_enter Tryz.func94, Tryz.ntmps94
  go_wp2_with (go_at_call 111; refine (ring_none_at p a len cap _ hlen hm c0).mono ?_; rintro e w' ⟨rfl, rfl⟩)
  go_quiet (fail)
  go_wp2
  go_ret
  exact ⟨rfl, _, rfl⟩

def pushL (most : Nat) (xs : List Int) (x : Int) : List Int := if xs.length = most then xs else xs ++ [x]
def pushE (most : Nat) (xs : List Int) : Int := if xs.length = most then 3 else 0

theorem RingOk.push {s : RingS} {most : Nat} {xs : List Int} (h : RingOk s most xs) (hn : xs.length < most) (x : Int) :
    RingOk ⟨s.a, s.cap, s.arr.set ((s.f + xs.length) % most) x, s.f⟩ most (xs ++ [x]) := by
  have hpos := h.pos
  refine ⟨h.pos, h.small, by simp [h.len], h.f, by simp; omega, fun i hi => ?_⟩
  have hj : (s.f + xs.length) % most < most := Nat.mod_lt _ h.pos
  simp only [List.length_append, List.length_singleton] at hi
  show (s.arr.set _ x)[(s.f + i) % most]? = _
  by_cases hi2 : i < xs.length
  · rw [List.getElem?_set_ne ?_, List.getElem?_append_left hi2]
    · exact h.at_ i hi2
    · intro e
      have h1 := h.f
      have := Nat.mod_eq_sub_mod (a := s.f + xs.length) (b := most)
      have := Nat.mod_eq_sub_mod (a := s.f + i) (b := most)
      have a1 : (s.f + xs.length) % most = if s.f + xs.length < most then s.f + xs.length else s.f + xs.length - most := by
        split
        · exact Nat.mod_eq_of_lt (by omega)
        · rw [Nat.mod_eq_sub_mod (by omega)]; exact Nat.mod_eq_of_lt (by omega)
      have a2 : (s.f + i) % most = if s.f + i < most then s.f + i else s.f + i - most := by
        split
        · exact Nat.mod_eq_of_lt (by omega)
        · rw [Nat.mod_eq_sub_mod (by omega)]; exact Nat.mod_eq_of_lt (by omega)
      rw [a1, a2] at e
      split at e <;> split at e <;> omega
  · obtain rfl : i = xs.length := by omega
    rw [List.getElem?_set_self (by rw [h.len]; exact hj), List.getElem?_append_right (Nat.le_refl _)]
    simp

theorem ring_push {w0 w : World} {p most : Nat} {xs : List Int} {F : Hp} (h : Sat w0 (ringP p most xs * F) w) (x : Int) :
    Calls Tryz.prog 94 #[vp p, vi x] w fun e w' => e = .returned (vi (pushE most xs)) ∧ Sat w0 (ringP p most (pushL most xs x) * F) w' := by
  obtain ⟨s, R⟩ := h.ring
  have hn := R.ok.n
  by_cases hf : xs.length = most
  · unfold pushL pushE
    rw [if_pos hf, if_pos hf]
    refine (ring_push_full_at p s.a x most s.cap s.f w R.ok.pos R.ok.small R.c0 R.c1 (by rw [R.c2, hf])).mono ?_
    rintro e w' ⟨rfl, k, rfl⟩
    exact ⟨rfl, h.drewN k⟩
  · unfold pushL pushE
    rw [if_neg hf, if_neg hf]
    have hj : (s.f + xs.length) % most < most := Nat.mod_lt _ R.ok.pos
    refine (ring_push_at p s.a x most s.cap s.f xs.length _ w R.ne _ R.ok.pos R.ok.small R.ok.f (by omega) rfl R.c0 R.c1 R.c2 (R.ca _ hj) (R.fz _) (R.fa _)).mono ?_
    rintro e w' ⟨rfl, k, rfl⟩
    refine ⟨rfl, Sat.ringI ⟨s.a, s.cap, s.arr.set ((s.f + xs.length) % most) x, s.f⟩ (R.ok.push (by omega) x) ?_⟩
    have h2 := ((R.sat.drewN k).pull2.slStore ((s.f + xs.length) % most) (by omega) (vi x)).pull2
    have h3 := h2.store 2 (vi (xs.length + 1))
    refine h3.cast ?_
    simp [ringB, ringA, RingS.v, List.map_set]

/-! ### Pop -/
theorem ring_pop_at (p a : Nat) (len cap f n i : Nat) (w : World) (y : Int) (hlen : 0 < len) (hm : len ≤ 4096) (hf : f < len) (hn0 : 0 < n) (hn : n ≤ len)
    (hi : i = (f + 1) % len)
    (c0 : w.cell? ⟨p, 0, none⟩ = some (.slice (some ⟨a, 0, none⟩) len cap))
    (c1 : w.cell? ⟨p, 1, none⟩ = some (.int .i64 f))
    (c2 : w.cell? ⟨p, 2, none⟩ = some (.int .i64 n))
    (ca : w.cell? ⟨a, f, none⟩ = some (.int .i64 y))
    (fp1 : w.frozen? ⟨p, 1, none⟩ = false) (fp : w.frozen? ⟨p, 2, none⟩ = false) :
    Calls Tryz.prog 107 #[vp p] w fun e w' => e = .returned (.tuple #[vi y, .bool true]) ∧ ∃ k, w' = (((w.drewN k).setCell ⟨p, 1, none⟩ (vi i)).setCell ⟨p, 2, none⟩ (vi (n - 1))) := by
  have h0 : ((n : Int) == 0) = false := by simp; omega
  have hlt : i < len := by rw [hi]; exact Nat.mod_lt _ hlen
  have ht : ((f : Int) + 1) % len = (i : Int) := by rw [hi]; simp
  clear hi
  go_enter Tryz.func107, Tryz.ntmps107
  go_wp2_with (go_at_call 111; refine (ring_none_at p a len cap _ hlen hm c0).mono ?_; rintro e w' ⟨rfl, rfl⟩)
  go_quiet (fail)
  go_wp2
  refine wp_quiet_tail 14 (by kernel_rfl) (by kernel_rfl) ?_
  simp only [List.take_succ_cons, List.take_zero, List.drop_succ_cons, List.drop_zero]
  repeat (go_big_quiet_step (fail))
  refine wpQuiet_nil ?_
  go_wp2
  go_ret2
  exact ⟨rfl, _, rfl⟩

theorem ring_pop_none_at (p a : Nat) (len cap : Nat) (w : World) (hlen : 0 < len) (hm : len ≤ 4096)
    (c0 : w.cell? ⟨p, 0, none⟩ = some (.slice (some ⟨a, 0, none⟩) len cap))
    (c2 : w.cell? ⟨p, 2, none⟩ = some (.int .i64 0)) :
    Calls Tryz.prog 107 #[vp p] w fun e w' => e = .returned (.tuple #[vi 0, .bool false]) ∧ w = w' := by
  go_enter Tryz.func107, Tryz.ntmps107
  go_wp2_with (go_at_call 111; refine (ring_none_at p a len cap _ hlen hm c0).mono ?_; rintro e w' ⟨rfl, rfl⟩)
  go_ret2
  exact ⟨rfl, rfl⟩

theorem mod_next {f i most : Nat} (h : f < most) : ((f + 1) % most + i) % most = (f + (i + 1)) % most := by
  rw [Nat.mod_add_mod]
  congr 1
  omega

theorem RingOk.pop {s : RingS} {most : Nat} {x : Int} {xs : List Int} (h : RingOk s most (x :: xs)) : RingOk ⟨s.a, s.cap, s.arr, (s.f + 1) % most⟩ most xs := by
  have hn := h.n
  simp only [List.length_cons] at hn
  refine ⟨h.pos, h.small, h.len, Nat.mod_lt _ h.pos, by omega, fun i hi => ?_⟩
  have := h.at_ (i + 1) (by simp only [List.length_cons]; omega)
  show s.arr[((s.f + 1) % most + i) % most]? = _
  rw [mod_next h.f, this]
  simp

theorem ring_pop {w0 w : World} {p most : Nat} {xs : List Int} {F : Hp} (h : Sat w0 (ringP p most xs * F) w) :
    Calls Tryz.prog 107 #[vp p] w fun e w' => e = .returned (.tuple #[vi (xs.headD 0), .bool !xs.isEmpty]) ∧ Sat w0 (ringP p most xs.tail * F) w' := by
  obtain ⟨s, R⟩ := h.ring
  match xs, h, R with
  | [], h, R =>
    refine (ring_pop_none_at p s.a most s.cap w R.ok.pos R.ok.small R.c0 R.c2).mono ?_
    rintro e w' ⟨rfl, rfl⟩
    exact ⟨rfl, h⟩
  | x :: xs, h, R =>
    have hn := R.ok.n
    have hx := R.ok.at_ 0 (by simp)
    rw [Nat.add_zero, Nat.mod_eq_of_lt R.ok.f] at hx
    have ca := R.ca s.f R.ok.f
    rw [hx] at ca
    refine (ring_pop_at p s.a most s.cap s.f (x :: xs).length _ w x R.ok.pos R.ok.small R.ok.f (by simp) hn rfl R.c0 R.c1 R.c2 ca (R.fz _) (R.fz _)).mono ?_
    rintro e w' ⟨rfl, k, rfl⟩
    refine ⟨rfl, Sat.ringI ⟨s.a, s.cap, s.arr, (s.f + 1) % most⟩ R.ok.pop ?_⟩
    have h2 := ((R.sat.drewN k).store 1 (vi ((s.f + 1) % most : Nat))).store 2 (vi ((x :: xs).length - 1))
    refine h2.cast ?_
    simp [ringB, ringA, RingS.v]

/-! ### Len, Most -/
theorem ring_most {w0 w : World} {p most : Nat} {xs : List Int} {F : Hp} (h : Sat w0 (ringP p most xs * F) w) :
    Calls Tryz.prog 95 #[vp p] w fun e w' => e = .returned (vi most) ∧ w = w' := by
  obtain ⟨s, R⟩ := h.ring
  have c0 := R.c0
  go_enter Tryz.func95, Tryz.ntmps95
  go_wp2
  go_ret
  exact ⟨rfl, rfl⟩
end Go.Proofs.YtjgemfgneiaabaaGreat
