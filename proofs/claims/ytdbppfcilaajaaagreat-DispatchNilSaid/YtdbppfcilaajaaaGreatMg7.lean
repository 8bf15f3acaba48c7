/-
  Chapter 19: many owned chunks, one for each number below n; rows of cells of functions. No statement is proved here.
-/
import Derived.Test.YtdbppfcilaajaaaGreatMg6
import Derived.Test.YtdbppfcilaajaaaGreatMg3
import Derived.Test.YtdbppfcilaajaaaGreatMg4
import Derived.Deep.RegionLaw
namespace Go.Proofs.YtdbppfcilaajaaaGreat.Pc
open Go.RowKit Rq
set_option linter.unusedVariables false

def starL (f : Nat → Hp) : List Nat → Hp
  | [] => emp
  | i :: r => f i * starL f r
theorem starL_perm (f : Nat → Hp) {a b : List Nat} (h : a.Perm b) : starL f a = starL f b := by
  induction h with
  | nil => rfl
  | cons x _ ih => show f x * _ = f x * _; rw [ih]
  | swap x y l => show f y * (f x * starL f l) = f x * (f y * starL f l); ac_rfl
  | trans _ _ h1 h2 => exact h1.trans h2
theorem starL_congr {f g : Nat → Hp} : ∀ {l : List Nat}, (∀ i ∈ l, f i = g i) → starL f l = starL g l
  | [], _ => rfl
  | x :: r, h => by
    show f x * starL f r = g x * starL g r
    rw [h x (by simp), starL_congr fun i hi => h i (by simp [hi])]
def star (f : Nat → Hp) (n : Nat) : Hp := starL f (List.range n)
/-- All but the k-th. -/
def starx (f : Nat → Hp) (n k : Nat) : Hp := starL f ((List.range n).erase k)
theorem star_at (f : Nat → Hp) {n k : Nat} (hk : k < n) : star f n = f k * starx f n k := by
  show starL f _ = starL f (k :: (List.range n).erase k)
  exact starL_perm f (List.perm_cons_erase (List.mem_range.2 hk))
theorem starx_congr {f g : Nat → Hp} {n k : Nat} (h : ∀ i, i ≠ k → f i = g i) : starx f n k = starx g n k :=
  starL_congr fun i hi => h i (by rintro rfl; exact not_mem_erase_range n i hi)
theorem star_succ (f : Nat → Hp) (n : Nat) : star f (n + 1) = star f n * f n := by
  have h := starL_perm f (show (List.range (n + 1)).Perm (n :: List.range n) by rw [List.range_succ]; exact List.perm_append_comm)
  show starL f _ = starL f (List.range n) * f n
  rw [h]
  exact sep_comm _ _
theorem star_congr {f g : Nat → Hp} {n : Nat} (h : ∀ i, i < n → f i = g i) : star f n = star g n := starL_congr fun i hi => h i (List.mem_range.1 hi)

section
variable {w0 w : World} {A F : Hp} {f g : Nat → Hp} {n k : Nat}
theorem Sat.star_out (h : Sat w0 (star f n * F) w) (hk : k < n) : Sat w0 (f k * (starx f n k * F)) w := h.cast (by rw [star_at f hk]; ac_rfl)
end

/-- Rows of cells, one for each number below n. -/
def rowsN (row : Nat → List Value) (n : Nat) : List Value := (List.range n).flatMap row
theorem rowsN_succ (row : Nat → List Value) (n : Nat) : rowsN row (n + 1) = rowsN row n ++ row n := by unfold rowsN; rw [List.range_succ, List.flatMap_append]; simp
theorem rowsN_len {row : Nat → List Value} {N : Nat} (hN : ∀ i, (row i).length = N) (n : Nat) : (rowsN row n).length = n * N := by
  unfold rowsN
  rw [flat_len hN, List.length_range]
theorem rowsN_at {row : Nat → List Value} {N n k j : Nat} {v : Value} (hN : ∀ i, (row i).length = N) (hk : k < n) (hv : (row k)[j]? = some v) : (rowsN row n)[k * N + j]? = some v :=
  flat_get hN (a := k) (by simp [hk]) hv
theorem rowsN_congr {row row' : Nat → List Value} {n : Nat} (h : ∀ i, i < n → row i = row' i) : rowsN row n = rowsN row' n := flatMap_congr' fun i hi => h i (List.mem_range.1 hi)
theorem rowsN_set {row row' : Nat → List Value} {N k j : Nat} {v : Value} (hN : ∀ i, (row i).length = N) (hj : j < N) (hr : row' k = (row k).set j v) (ho : ∀ i, i ≠ k → row' i = row i) : ∀ n, k < n → (rowsN row n).set (k * N + j) v = rowsN row' n
  | 0, h => by omega
  | n + 1, h => by
    rw [rowsN_succ, rowsN_succ]
    by_cases he : k = n
    · subst he
      rw [List.set_append, if_neg (by rw [rowsN_len hN]; omega), rowsN_len hN, Nat.add_sub_cancel_left, ← hr, rowsN_congr fun i hi => (ho i (by omega)).symm]
    · have hk : k < n := by omega
      rw [List.set_append, if_pos (by rw [rowsN_len hN]; have := Nat.mul_le_mul_right N (show k + 1 ≤ n by omega); rw [Nat.add_mul, Nat.one_mul] at this; omega), rowsN_set hN hj hr ho n hk, ho n (by omega)]
end Go.Proofs.YtdbppfcilaajaaaGreat.Pc

namespace Go.Proofs.YtdbppfcilaajaaaGreat.Kn
open Go.RowKit Pc
set_option linter.unusedVariables false
set_option linter.unusedSimpArgs false

theorem Eu8 : SlT Tryz.prog 46 5 1 1 (.int .u8 0) := SlT.mk' Tryz.underlying46 (by kernel_rfl) rfl (by decide)
theorem Ebb : SlT Tryz.prog 25 46 1 24 (.slice none 0 0) := SlT.mk' Tryz.underlying25 (by kernel_rfl) rfl (by decide)
/-- The small configuration's two programs. -/
def lnB (k : Nat) : Nat := if k = 0 then 0 else 4
def ctB (k : Nat) : List Value := List.replicate (lnB k) (.int .u8 0)
def bytesB (rv : Nat → Value) (n : Nat) : Hp := star (fun k => sl 5 1 (rv k) (lnB k) (ctB k)) n
def prB (pr : Value) : Hp := ex fun rv : Nat → Value => sl 46 1 pr 2 (rowsN (fun k => [rv k]) 2) * bytesB rv 2
section
variable {w0 w : World} {F : Hp} {pr : Value} {rv : Nat → Value} {n k : Nat}
theorem prB_open (h : Sat w0 (prB pr * F) w) : ∃ rv, Sat w0 (sl 46 1 pr 2 (rowsN (fun k => [rv k]) 2) * (bytesB rv 2 * F)) w := by
  obtain ⟨rv, h1⟩ := h.exE
  exact ⟨rv, h1.cast (sep_assoc _ _ _)⟩
theorem prB_shut (h : Sat w0 (sl 46 1 pr 2 (rowsN (fun k => [rv k]) 2) * (bytesB rv 2 * F)) w) : Sat w0 (prB pr * F) w :=
  Sat.exI (f := fun rv : Nat → Value => sl 46 1 pr 2 (rowsN (fun k => [rv k]) 2) * bytesB rv 2) rv (h.cast (sep_assoc _ _ _).symm)
theorem bytes_rd (h : Sat w0 (bytesB rv n * F) w) (hk : k < n) : Rd w 1 (rv k) (lnB k) (ctB k) := (Sat.star_out h hk).rd
theorem ct_one (k : Nat) : ∀ u ∈ ctB k, u.oneCell' = true := fun u hu => by
  rw [(List.mem_replicate.1 hu).2]
  rfl
theorem ln_le (k : Nat) : lnB k ≤ 4 := by unfold lnB; split <;> omega
set_option maxRecDepth 100000 in
theorem clone_u8 {v : Value} {n : Nat} {xs : List Value} (hR : Rd w 1 v n xs) (h1 : ∀ u ∈ xs, u.oneCell' = true) (hl : n ≤ 1000) : Calls Tryz.prog 90 #[v] w fun e w' => ∃ v', e = .returned v' ∧ Sat w (sl 5 1 v' n xs * emp) w' := by
  obtain ⟨ao, cap, rfl⟩ := hR.len
  have HR := Lib.hid hR
  have hone := Lib.hid h1
  have hnl := @Lib.run_eql_slice_nil Tryz.prog
  cases ao with
  | none =>
    have hn0 : n = 0 := by
      rcases hR.2 with ⟨h0, _⟩ | ⟨b, off, c, hv, _⟩
      · exact h0
      · cases hv
    subst hn0
    have hx : xs = [] := List.eq_nil_of_length_eq_zero (by have := hR.1; omega)
    subst hx
    clear hR h1
    go_enter Tryz.func90, Tryz.ntmps90
    go_wp2
    go_ret
    exact ⟨_, rfl, (Sat.start w).addNil 5 1⟩
  | some a =>
    clear hR h1
    go_enter Tryz.func90, Tryz.ntmps90
    go_wp2_with (at_builtin; refine wpList_append_sl Eu8 rfl (.tmp 5) (.tmp 6) rfl (by rfl) ((Sat.start w).sl0 5 1) (by rfl) (HR.out.below ((Below.refl _ _).alloc (Nat.le_refl _) _)) hone.out (by unfold maxLen; omega) (by omega) ?_; intro ao1 cap1 w1 hS1; simp only [Nat.zero_add, List.nil_append] at hS1)
    go_ret
    exact ⟨_, by simp, hS1⟩
set_option maxRecDepth 100000 in
theorem idx_bytes (h : Sat w0 F w) {a : Option Addr} {c : Nat} {vs : Nat → Value} (hR : ∀ w', Sat w0 F w' → Rd w' 1 (.slice a 2 c) 2 (rowsN (fun k => [vs k]) 2)) (hv : ∀ k, k < 2 → ∃ a n c, vs k = .slice a n c ∧ n ≤ 4) : Calls Tryz.prog 160 #[.slice a 2 c, .func (.func 161) #[] #[]] w fun e w' => e = .returned (vi (-1)) ∧ Sat w0 F w' := by
  have HR := Lib.hid hR
  have HV := Lib.hid hv
  have H := Lib.hid h
  clear h hR hv
  go_enter Tryz.func160, Tryz.ntmps160
  go_wp2
  go_loopw [8] (fun i wr => ∃ k : Nat, k ≤ 2 ∧ i = vi k ∧ Sat w0 F wr) (fun i _ => 2 - (intOf i).toNat)
  case atStart => exact ⟨0, by omega, rfl, H.out⟩
  case round =>
    clear H
    obtain ⟨k, hk, rfl, hS⟩ := hrel
    by_cases hlt : k < 2
    · have hki : (k : Int) < 2 := by omega
      obtain ⟨b, off, c', he, hc⟩ := (HR.out _ hS).pos (by omega)
      cases he
      have ck := hc k (vs k) (by
        have := rowsN_at (row := fun k => [vs k]) (N := 1) (n := 2) (k := k) (j := 0) (v := vs k) (fun _ => rfl) hlt rfl
        simpa using this)
      obtain ⟨ak, nk, ck', hvk, hn4⟩ := HV.out k hlt
      rw [hvk] at ck
      have hn : ¬ (1024 : Int) < (nk : Int) := by omega
      have HW : Hid (∀ w', Calls Tryz.prog 161 #[.slice ak nk ck'] w' fun e w'' => e = .returned (.bool false) ∧ w' = w'') := Lib.hid fun w' => by
        go_enter Tryz.func161, Tryz.ntmps161
        go_wp2
        go_ret
        exact ⟨rfl, rfl⟩
      have HS := Lib.hid hS
      have HL := Lib.hid hlt
      clear hS hc hlt hvk
      go_wp2_with (go_at_call 161; refine (HW.out _).mono ?_; rintro e w' ⟨rfl, rfl⟩)
      go_roundw
      case rel => exact ⟨k + 1, by have := HL.out; omega, by go_num, HS.out⟩
      case measure => (have := HL.out; simp [intOf]; omega)
    · obtain rfl : k = 2 := by omega
      have HS := Lib.hid hS
      clear hS
      go_wp2
      go_ret
      exact ⟨rfl, HS.out⟩
end
end Go.Proofs.YtdbppfcilaajaaaGreat.Kn

namespace Go.Proofs.YtdbppfcilaajaaaGreat.Kn
open Go.RowKit Pc
set_option linter.unusedVariables false
set_option linter.unusedSimpArgs false

section
variable {w0 w : World} {F : Hp} {pr : Value} {b ps gs : Nat} {T : TypeId}
def nmB : Nat → ByteArray
  | 0 => ⟨#[80, 115]⟩
  | 1 => ⟨#[82, 105, 110, 103]⟩
  | 2 => ⟨#[71, 115]⟩
  | 3 => ⟨#[67, 111, 110, 116, 101, 120, 116, 115]⟩
  | 4 => ⟨#[68, 111, 109, 97, 105, 110, 115]⟩
  | 5 => ⟨#[78, 111, 100, 101, 115]⟩
  | 6 => ⟨#[83, 108, 111, 116, 115]⟩
  | 7 => ⟨#[82, 101, 102, 105, 108, 108, 115]⟩
  | 8 => ⟨#[65, 117, 100, 105, 116]⟩
  | 9 => ⟨#[83, 108, 105, 99, 101]⟩
  | 10 => ⟨#[67, 80, 85]⟩
  | 11 => ⟨#[80, 101, 114, 105, 111, 100]⟩
  | 12 => ⟨#[66, 117, 100, 103, 101, 116]⟩
  | 13 => ⟨#[69, 97, 99, 104]⟩
  | _ => ⟨#[]⟩
def loB : Nat → Int
  | 0 => 1
  | 1 => 2
  | 2 => 1
  | 3 => 1
  | 4 => 1
  | 5 => 3
  | 6 => 3
  | 7 => 2
  | 8 => 1
  | 9 => 1
  | 10 => 1
  | 11 => 1
  | 12 => 1
  | 13 => 1
  | _ => 0
def hiB : Nat → Int
  | 0 => 8
  | 1 => 32
  | 2 => 64
  | 3 => 32
  | 4 => 32
  | 5 => 512
  | 6 => 32
  | 7 => 16
  | 8 => 256
  | 9 => 64
  | 10 => 4294967296
  | 11 => 4294967296
  | 12 => 4294967296
  | 13 => 4294967296
  | _ => 0
def tyB (k : Nat) : TypeId := if k < 10 then 353 else 358
set_option maxRecDepth 100000 in
theorem bnd_at (b : Nat) (k : Nat) (hk : k < 14) (w : World) : (Instr.index 289 (.agg (bndL b).toArray) (.int .i64 (k : Int))).run Tryz.prog w = .ok (.agg #[.string (nmB k), .iface (tyB k) (.pointer (some ⟨b, k, none⟩)), .int .i64 (loB k), .int .i64 (hiB k)]) w := by
  have h : k = 0 ∨ k = 1 ∨ k = 2 ∨ k = 3 ∨ k = 4 ∨ k = 5 ∨ k = 6 ∨ k = 7 ∨ k = 8 ∨ k = 9 ∨ k = 10 ∨ k = 11 ∨ k = 12 ∨ k = 13 := by omega
  rcases h with rfl | rfl | rfl | rfl | rfl | rfl | rfl | rfl | rfl | rfl | rfl | rfl | rfl | rfl
  all_goals rfl
set_option maxRecDepth 100000 in
theorem wit (h : Sat w0 (pc b T (cfgL ps gs pr) * F) w) (h1 : 1 ≤ ps) (h2 : ps ≤ 8) (h3 : 1 ≤ gs) (h4 : gs ≤ 64) (k : Nat) (hk : k < 14) : Calls Tryz.prog 159 #[.agg #[.string (nmB k), .iface (tyB k) (.pointer (some ⟨b, k, none⟩)), .int .i64 (loB k), .int .i64 (hiB k)]] w fun e w' => e = .returned (.bool true) ∧ Sat w0 (pc b T (cfgL ps gs pr) * F) w' := by
  have hs : k = 0 ∨ k = 1 ∨ k = 2 ∨ k = 3 ∨ k = 4 ∨ k = 5 ∨ k = 6 ∨ k = 7 ∨ k = 8 ∨ k = 9 ∨ k = 10 ∨ k = 11 ∨ k = 12 ∨ k = 13 := by omega
  rcases hs with rfl | rfl | rfl | rfl | rfl | rfl | rfl | rfl | rfl | rfl | rfl | rfl | rfl | rfl
  · exact within_i (x := (ps : Int)) (lo := 1) (hi := 8) h rfl (by omega) (by omega) rfl rfl
  · exact within_i (x := 2) (lo := 2) (hi := 32) h rfl (by omega) (by omega) rfl rfl
  · exact within_i (x := (gs : Int)) (lo := 1) (hi := 64) h rfl (by omega) (by omega) rfl rfl
  · exact within_i (x := 4) (lo := 1) (hi := 32) h rfl (by omega) (by omega) rfl rfl
  · exact within_i (x := 4) (lo := 1) (hi := 32) h rfl (by omega) (by omega) rfl rfl
  · exact within_i (x := 40) (lo := 3) (hi := 512) h rfl (by omega) (by omega) rfl rfl
  · exact within_i (x := 6) (lo := 3) (hi := 32) h rfl (by omega) (by omega) rfl rfl
  · exact within_i (x := 4) (lo := 2) (hi := 16) h rfl (by omega) (by omega) rfl rfl
  · exact within_i (x := 8) (lo := 1) (hi := 256) h rfl (by omega) (by omega) rfl rfl
  · exact within_i (x := 2) (lo := 1) (hi := 64) h rfl (by omega) (by omega) rfl rfl
  · exact within_u (x := 1000) (lo := 1) (hi := 4294967296) h rfl (by omega) (by omega) rfl rfl
  · exact within_u (x := 50) (lo := 1) (hi := 4294967296) h rfl (by omega) (by omega) rfl rfl
  · exact within_u (x := 100) (lo := 1) (hi := 4294967296) h rfl (by omega) (by omega) rfl rfl
  · exact within_u (x := 20) (lo := 1) (hi := 4294967296) h rfl (by omega) (by omega) rfl rfl
set_option maxRecDepth 100000 in
set_option maxHeartbeats 4000000 in
theorem Wrong_ (h : Sat w0 (prB pr * F) w) (h1 : 1 ≤ ps) (h2 : ps ≤ 8) (h3 : 1 ≤ gs) (h4 : gs ≤ 64) : Calls Tryz.prog 89 #[.agg (cfgL ps gs pr).toArray] w fun e w' => e = .returned (.tuple #[.string ⟨#[]⟩, .int .i64 (-1)]) ∧ Sat w0 (prB pr * F) w' := by
  have hA : Sat w0 (pc w.heap.size 27 (cfgL ps gs pr) * (prB pr * F)) (w.alloc (.cells (cfgL ps gs pr).toArray 27)) := h.alloc _
  have HB := Lib.hid (bounds_ hA w.heap.size)
  have HI := Lib.hid (bnd_at w.heap.size)
  obtain ⟨B, hB⟩ : ∃ B, B = (bndL w.heap.size).toArray := ⟨_, rfl⟩
  rw [← hB] at HB HI
  have H1 := Lib.hid h1
  have H2 := Lib.hid h2
  have H3 := Lib.hid h3
  have H4 := Lib.hid h4
  clear h hA hB h1 h2 h3 h4
  go_enter Tryz.func89, Tryz.ntmps89
  go_wp2_with (go_at_call 158; refine HB.out.mono ?_; rintro e w1 ⟨rfl, hS1⟩; have HS := Lib.hid hS1; clear hS1)
  generalize w.heap.size = b at *
  go_loopw [9, 5] (fun i x wr => ∃ k : Nat, k ≤ 14 ∧ i = vi k ∧ Sat w0 (pc b 27 (cfgL ps gs pr) * (prB pr * F)) wr) (fun i _ _ => 14 - (intOf i).toNat)
  case atStart => exact ⟨0, by omega, rfl, HS.out⟩
  case round =>
    clear HS
    obtain ⟨k, hk, rfl, hS⟩ := hrel
    by_cases hlt : k < 14
    · have hki : (k : Int) < 14 := by omega
      have hI := HI.out k hlt
      have HW : Hid (∀ (nw : World), Sat w0 (pc b 27 (cfgL ps gs pr) * (prB pr * F)) nw → Calls Tryz.prog 159 #[.agg #[.string (nmB k), .iface (tyB k) (.pointer (some ⟨b, k, none⟩)), .int .i64 (loB k), .int .i64 (hiB k)]] nw fun e w' => e = .returned (.bool true) ∧ Sat w0 (pc b 27 (cfgL ps gs pr) * (prB pr * F)) w') := Lib.hid fun nw hn => wit hn H1.out H2.out H3.out H4.out k hlt
      generalize nmB k = nm at *
      generalize tyB k = ty at *
      generalize loB k = lo at *
      generalize hiB k = hi at *
      have hA := hS.alloc (.cells #[.string nm, .iface ty (.pointer (some ⟨b, k, none⟩)), .int .i64 lo, .int .i64 hi] 288)
      have a0 := hA.cell 0 rfl
      have a1 := hA.cell 1 rfl
      have a2 := hA.cell 2 rfl
      have a3 := hA.cell 3 rfl
      have HA := Lib.hid hA.dropL
      have HL := Lib.hid hlt
      clear hS hA hlt
      go_wp2_with (go_at_call 159; refine (HW.out _ HA.out).mono ?_; rintro e w1 ⟨rfl, hS1⟩; have HN := Lib.hid hS1; clear hS1)
      go_roundw
      case rel => exact ⟨k + 1, by have := HL.out; omega, by go_num, HN.out⟩
      case measure => (have := HL.out; simp [intOf]; omega)
    · obtain rfl : k = 14 := by omega
      have c14 := hS.cell 14 rfl
      obtain ⟨rv, hO⟩ := prB_open hS.pull2
      obtain ⟨ao, cap, rfl⟩ := hO.rd.len
      have HX := Lib.hid (idx_bytes (vs := rv) hO (fun w' h' => h'.rd) (fun k hk => by
        have hR := bytes_rd hO.dropL hk
        obtain ⟨a, c, e⟩ := hR.len
        exact ⟨a, lnB k, c, e, ln_le k⟩))
      clear hS hO
      go_wp2_with (go_at_call 160; refine HX.out.mono ?_; rintro e w1 ⟨rfl, hS1⟩; have HN := Lib.hid hS1; clear hS1)
      go_ret2
      exact ⟨rfl, (prB_shut HN.out).drop2⟩
set_option maxRecDepth 100000 in
theorem May_ (h : Sat w0 (prB pr * F) w) (h1 : 1 ≤ ps) (h2 : ps ≤ 8) (h3 : 1 ≤ gs) (h4 : gs ≤ 64) : Calls Tryz.prog 30 #[.agg (cfgL ps gs pr).toArray] w fun e w' => e = .returned (vi 0) ∧ Sat w0 (prB pr * F) w' := by
  have hA : Sat w0 (pc w.heap.size 27 (cfgL ps gs pr) * (prB pr * F)) (w.alloc (.cells (cfgL ps gs pr).toArray 27)) := h.alloc _
  have hR := hA.rangeN
  have hi : (Tryz.prog.info? 27).map (·.size) = some 15 := by kernel_rfl
  have HR := Lib.hid hR
  have HW := Lib.hid (Wrong_ (ps := ps) (gs := gs) (F := pc w.heap.size 27 (cfgL ps gs pr) * F) hA.pull2 h1 h2 h3 h4)
  clear h hA hR h1 h2 h3 h4
  go_enter Tryz.func30, Tryz.ntmps30
  go_wp2_with (first
    | (refine wpList_load_mid rfl 27 _ rfl w.heap.size 0 (by rfl) (cfgL ps gs pr) _ HR.out Tryz.underlying27 rfl hi ?_)
    | (go_at_call 89; refine HW.out.mono ?_; rintro e w1 ⟨rfl, hS1⟩; have HN := Lib.hid hS1; clear hS1))
  go_ret
  exact ⟨rfl, HN.out.drop2⟩
end
end Go.Proofs.YtdbppfcilaajaaaGreat.Kn

namespace Go.Proofs.YtdbppfcilaajaaaGreat.Kn
open Go.RowKit Pc
set_option linter.unusedVariables false
set_option linter.unusedSimpArgs false

abbrev leL : List Value := [vu 1, vu 2, vu 1, vu 1, vu 1, vu 3, vu 3, vu 2, vu 1, vu 1, vu 1, vu 1, vu 1, vu 1]
abbrev moL : List Value := [vu 8, vu 32, vu 64, vu 32, vu 32, vu 512, vu 32, vu 16, vu 256, vu 64, vu 4294967296, vu 4294967296, vu 4294967296, vu 4294967296]
abbrev smL (ps gs : Nat) : List Value := [vi ps, vi 2, vi gs, vi 4, vi 4, vi 40, vi 6, vi 4, vi 8, vi 2]
abbrev grL : List Value := [vu 1000, vu 50, vu 100, vu 20]
section
variable {w0 w : World} {F : Hp} {pr : Value} {b ps gs : Nat} {T : TypeId}
set_option maxRecDepth 100000 in
theorem r18_least (w : World) : Calls Tryz.prog 217 #[] w fun e w' => e = .returned (.slice (some ⟨w.heap.size, 0, none⟩) 14 14) ∧ w' = w.alloc (.cells leL.toArray 24) := by
  go_enter Tryz.func217, Tryz.ntmps217
  go_wp2
  go_ret
  exact ⟨rfl, rfl⟩
set_option maxRecDepth 100000 in
theorem r18_most (w : World) : Calls Tryz.prog 218 #[] w fun e w' => e = .returned (.slice (some ⟨w.heap.size, 0, none⟩) 14 14) ∧ w' = w.alloc (.cells moL.toArray 24) := by
  go_enter Tryz.func218, Tryz.ntmps218
  go_wp2
  go_ret
  exact ⟨rfl, rfl⟩
set_option maxRecDepth 100000 in
theorem r18_small (h : Sat w0 F w) : Calls Tryz.prog 219 #[.agg (cfgL ps gs pr).toArray] w fun e w' => ∃ b, e = .returned (.slice (some ⟨b, 0, none⟩) 10 10) ∧ Sat w0 (pc b 3 (smL ps gs) * F) w' := by
  have hA : Sat w0 (pc w.heap.size 27 (cfgL ps gs pr) * F) (w.alloc (.cells (cfgL ps gs pr).toArray 27)) := h.alloc _
  have c0 := hA.cell 0 rfl
  have c1 := hA.cell 1 rfl
  have c2 := hA.cell 2 rfl
  have c3 := hA.cell 3 rfl
  have c4 := hA.cell 4 rfl
  have c5 := hA.cell 5 rfl
  have c6 := hA.cell 6 rfl
  have c7 := hA.cell 7 rfl
  have c8 := hA.cell 8 rfl
  have c9 := hA.cell 9 rfl
  have HA := Lib.hid hA
  clear h hA
  go_enter Tryz.func219, Tryz.ntmps219
  go_wp2
  go_ret
  exact ⟨_, rfl, (HA.out.dropL.alloc (.cells (smL ps gs).toArray 3)).cast (by rw [show (w.alloc (.cells (cfgL ps gs pr).toArray 27)).heap.size = w.heap.size + 1 by simp]; rfl)⟩
set_option maxRecDepth 100000 in
theorem r18_great (h : Sat w0 F w) : Calls Tryz.prog 220 #[.agg (cfgL ps gs pr).toArray] w fun e w' => ∃ b, e = .returned (.slice (some ⟨b, 0, none⟩) 4 4) ∧ Sat w0 (pc b 24 grL * F) w' := by
  have hA : Sat w0 (pc w.heap.size 27 (cfgL ps gs pr) * F) (w.alloc (.cells (cfgL ps gs pr).toArray 27)) := h.alloc _
  have c0 := hA.cell 10 rfl
  have c1 := hA.cell 11 rfl
  have c2 := hA.cell 12 rfl
  have c3 := hA.cell 13 rfl
  have HA := Lib.hid hA
  clear h hA
  go_enter Tryz.func220, Tryz.ntmps220
  go_wp2
  go_ret
  exact ⟨_, rfl, (HA.out.dropL.alloc (.cells grL.toArray 24)).cast (by rw [show (w.alloc (.cells (cfgL ps gs pr).toArray 27)).heap.size = w.heap.size + 1 by simp]; rfl)⟩
set_option maxRecDepth 100000 in
set_option maxHeartbeats 4000000 in
theorem r18_out {k : Nat} {lo hi x : Int} (h : Sat w0 F w) (hk : k < 10) (hl : leL[k]? = some (vu lo)) (hm : moL[k]? = some (vu hi)) (hx : (smL ps gs)[k]? = some (vi x)) (h1 : lo ≤ x) (h2 : x ≤ hi) (hlo : IntKind.i64.wrap lo = lo) (hhi : IntKind.i64.wrap hi = hi) :
    Calls Tryz.prog 173 #[.agg (cfgL ps gs pr).toArray, vi k] w fun e w' => e = .returned (vi 0) ∧ Sat w0 F w' := by
  have hA : Sat w0 (pc w.heap.size 27 (cfgL ps gs pr) * F) (w.alloc (.cells (cfgL ps gs pr).toArray 27)) := h.alloc _
  have HA := Lib.hid hA
  have HX := Lib.hid hx
  have HL := Lib.hid hl
  have HM := Lib.hid hm
  have hi15 : (Tryz.prog.info? 27).map (·.size) = some 15 := by kernel_rfl
  clear h hA hx hl hm
  go_enter Tryz.func173, Tryz.ntmps173
  go_wp2
  generalize w.alloc (.cells (cfgL ps gs pr).toArray 27) = wa at *
  generalize w.heap.size = b at *
  have hL := HA.out.drew.alloc (.cells leL.toArray 24)
  have hM := hL.alloc (.cells moL.toArray 24)
  rw [show (wa.drew.alloc (.cells leL.toArray 24)).heap.size = wa.heap.size + 1 by simp] at hM
  have ha : leL.toArray[k]? = some (vu lo) := by simpa using HL.out
  have hb : moL.toArray[k]? = some (vu hi) := by simpa using HM.out
  have HR := Lib.hid (hM.pull3).rangeN
  have HC := Lib.hid (r18_small (ps := ps) (gs := gs) (pr := pr) hM.dropL.dropL)
  clear hL hM
  have HW1 := Lib.hid r18_least
  have HW2 := Lib.hid r18_most
  generalize leL.toArray = aL at *
  generalize moL.toArray = aM at *
  have hki : (k : Int) < 10 := by omega
  have hk14 : (k : Int) < 14 := by omega
  go_region_law (first
    | (go_simp; go_at_call 217; refine (HW1.out _).mono ?_; rintro e w1 ⟨rfl, rfl⟩; go_wp2_with fail)
    | (go_simp; go_at_call 218; refine (HW2.out _).mono ?_; rintro e w1 ⟨rfl, rfl⟩; go_wp2_with fail))
  all_goals go_wp2_with (first
    | (refine wpList_load_mid rfl 27 _ rfl b 0 (by rfl) (cfgL ps gs pr) _ HR.out Tryz.underlying27 rfl hi15 ?_)
    | (go_at_call 219; refine HC.out.mono ?_; rintro e w1 ⟨bs, rfl, hS1⟩; have s1 := hS1.cell k HX.out; have HS1 := Lib.hid hS1; clear hS1))
  all_goals go_ret
  all_goals exact ⟨rfl, HS1.out.dropL.dropL⟩
set_option maxRecDepth 100000 in
set_option maxHeartbeats 4000000 in
theorem r18_out2 {j k : Nat} {lo hi x : Int} (h : Sat w0 F w) (hj : j = k + 10) (hk : k < 4) (hl : leL[j]? = some (vu lo)) (hm : moL[j]? = some (vu hi)) (hx : grL[k]? = some (vu x)) (h1 : lo ≤ x) (h2 : x ≤ hi) :
    Calls Tryz.prog 173 #[.agg (cfgL ps gs pr).toArray, vi j] w fun e w' => e = .returned (vi 0) ∧ Sat w0 F w' := by
  have hA : Sat w0 (pc w.heap.size 27 (cfgL ps gs pr) * F) (w.alloc (.cells (cfgL ps gs pr).toArray 27)) := h.alloc _
  have HA := Lib.hid hA
  have HX := Lib.hid hx
  have HL := Lib.hid hl
  have HM := Lib.hid hm
  have hi15 : (Tryz.prog.info? 27).map (·.size) = some 15 := by kernel_rfl
  clear h hA hx hl hm
  go_enter Tryz.func173, Tryz.ntmps173
  go_wp2
  generalize w.alloc (.cells (cfgL ps gs pr).toArray 27) = wa at *
  generalize w.heap.size = b at *
  have hL := HA.out.drew.alloc (.cells leL.toArray 24)
  have hM := hL.alloc (.cells moL.toArray 24)
  rw [show (wa.drew.alloc (.cells leL.toArray 24)).heap.size = wa.heap.size + 1 by simp] at hM
  have ha : leL.toArray[j]? = some (vu lo) := by simpa using HL.out
  have hb : moL.toArray[j]? = some (vu hi) := by simpa using HM.out
  have HR := Lib.hid (hM.pull3).rangeN
  have HC := Lib.hid (r18_great (ps := ps) (gs := gs) (pr := pr) hM.dropL.dropL)
  clear hL hM
  have HW1 := Lib.hid r18_least
  have HW2 := Lib.hid r18_most
  generalize leL.toArray = aL at *
  generalize moL.toArray = aM at *
  have hw : IntKind.i64.wrap ((j : Int) - 10) = (k : Int) := by rw [IntWalk.i64_in _ (by omega)]; omega
  have hki : ¬ ((j : Int) < 10) := by omega
  have hkd : decide ((j : Int) < 10) = false := decide_eq_false hki
  have hk14 : (j : Int) < 14 := by omega
  have hk4 : (k : Int) < 4 := by omega
  have HJ := Lib.hid hj
  clear hj
  go_region_law (first
    | (go_simp; go_at_call 217; refine (HW1.out _).mono ?_; rintro e w1 ⟨rfl, rfl⟩; go_wp2_with fail)
    | (go_simp; go_at_call 218; refine (HW2.out _).mono ?_; rintro e w1 ⟨rfl, rfl⟩; go_wp2_with fail))
  all_goals go_wp2_with (first
    | (refine wpList_load_mid rfl 27 _ rfl b 0 (by rfl) (cfgL ps gs pr) _ HR.out Tryz.underlying27 rfl hi15 ?_)
    | (go_at_call 220; refine HC.out.mono ?_; rintro e w1 ⟨bs, rfl, hS1⟩; have s1 := hS1.cell k HX.out; have HS1 := Lib.hid hS1; clear hS1))
  all_goals go_ret
  all_goals exact ⟨rfl, HS1.out.dropL.dropL⟩
set_option maxRecDepth 100000 in
theorem r18_any {k : Nat} (h : Sat w0 F w) (hk : k < 14) (h1 : 1 ≤ ps) (h2 : ps ≤ 8) (h3 : 1 ≤ gs) (h4 : gs ≤ 64) :
    Calls Tryz.prog 173 #[.agg (cfgL ps gs pr).toArray, vi k] w fun e w' => e = .returned (vi 0) ∧ Sat w0 F w' := by
  have hs : k = 0 ∨ k = 1 ∨ k = 2 ∨ k = 3 ∨ k = 4 ∨ k = 5 ∨ k = 6 ∨ k = 7 ∨ k = 8 ∨ k = 9 ∨ k = 10 ∨ k = 11 ∨ k = 12 ∨ k = 13 := by omega
  rcases hs with rfl | rfl | rfl | rfl | rfl | rfl | rfl | rfl | rfl | rfl | rfl | rfl | rfl | rfl
  · exact r18_out (lo := 1) (hi := 8) (x := (ps : Int)) h (by omega) rfl rfl rfl (by omega) (by omega) rfl rfl
  · exact r18_out (lo := 2) (hi := 32) (x := 2) h (by omega) rfl rfl rfl (by omega) (by omega) rfl rfl
  · exact r18_out (lo := 1) (hi := 64) (x := (gs : Int)) h (by omega) rfl rfl rfl (by omega) (by omega) rfl rfl
  · exact r18_out (lo := 1) (hi := 32) (x := 4) h (by omega) rfl rfl rfl (by omega) (by omega) rfl rfl
  · exact r18_out (lo := 1) (hi := 32) (x := 4) h (by omega) rfl rfl rfl (by omega) (by omega) rfl rfl
  · exact r18_out (lo := 3) (hi := 512) (x := 40) h (by omega) rfl rfl rfl (by omega) (by omega) rfl rfl
  · exact r18_out (lo := 3) (hi := 32) (x := 6) h (by omega) rfl rfl rfl (by omega) (by omega) rfl rfl
  · exact r18_out (lo := 2) (hi := 16) (x := 4) h (by omega) rfl rfl rfl (by omega) (by omega) rfl rfl
  · exact r18_out (lo := 1) (hi := 256) (x := 8) h (by omega) rfl rfl rfl (by omega) (by omega) rfl rfl
  · exact r18_out (lo := 1) (hi := 64) (x := 2) h (by omega) rfl rfl rfl (by omega) (by omega) rfl rfl
  · exact r18_out2 (j := 10) (k := 0) (lo := 1) (hi := 4294967296) (x := 1000) h rfl (by omega) rfl rfl rfl (by omega) (by omega)
  · exact r18_out2 (j := 11) (k := 1) (lo := 1) (hi := 4294967296) (x := 50) h rfl (by omega) rfl rfl rfl (by omega) (by omega)
  · exact r18_out2 (j := 12) (k := 2) (lo := 1) (hi := 4294967296) (x := 100) h rfl (by omega) rfl rfl rfl (by omega) (by omega)
  · exact r18_out2 (j := 13) (k := 3) (lo := 1) (hi := 4294967296) (x := 20) h rfl (by omega) rfl rfl rfl (by omega) (by omega)
end
end Go.Proofs.YtdbppfcilaajaaaGreat.Kn

namespace Go.Proofs.YtdbppfcilaajaaaGreat.Kn
open Go.RowKit Pc
set_option linter.unusedVariables false
set_option linter.unusedSimpArgs false

section
variable {w0 w : World} {F : Hp} {pr : Value} {b ps gs : Nat} {T : TypeId}
set_option maxRecDepth 100000 in
set_option maxHeartbeats 4000000 in
theorem r18_wrong (h : Sat w0 (prB pr * F) w) (h1 : 1 ≤ ps) (h2 : ps ≤ 8) (h3 : 1 ≤ gs) (h4 : gs ≤ 64) : Calls Tryz.prog 120 #[.agg (cfgL ps gs pr).toArray] w fun e w' => e = .returned (.tuple #[.string ⟨#[]⟩, .int .i64 (-1)]) ∧ Sat w0 (prB pr * F) w' := by
  obtain ⟨rv, hO0⟩ := prB_open h
  obtain ⟨b2, off2, c2, rfl, _⟩ := hO0.rd.pos (by omega)
  have hO : Sat w0 (pc w.heap.size 27 (cfgL ps gs (.slice (some ⟨b2, off2, none⟩) 2 c2)) * (sl 46 1 (.slice (some ⟨b2, off2, none⟩) 2 c2) 2 (rowsN (fun k => [rv k]) 2) * (bytesB rv 2 * F))) (w.alloc (.cells (cfgL ps gs (.slice (some ⟨b2, off2, none⟩) 2 c2)).toArray 27)) := hO0.alloc _
  have HO := Lib.hid hO
  have HOUT : Hid (∀ (k : Nat), k < 14 → ∀ (w : World) (F : Hp), Sat w0 F w → Calls Tryz.prog 173 #[.agg (cfgL ps gs (.slice (some ⟨b2, off2, none⟩) 2 c2)).toArray, vi k] w fun e w' => e = .returned (vi 0) ∧ Sat w0 F w') := Lib.hid fun k hk w F h => r18_any h hk h1 h2 h3 h4
  have hi15 : (Tryz.prog.info? 27).map (·.size) = some 15 := by kernel_rfl
  clear h hO0 hO h1 h2 h3 h4
  go_enter Tryz.func120, Tryz.ntmps120
  go_wp2
  generalize w.heap.size = b at *
  go_loopw [4] (fun i wr => ∃ k : Nat, k ≤ 14 ∧ i = vi k ∧ Sat w0 (pc b 27 (cfgL ps gs (.slice (some ⟨b2, off2, none⟩) 2 c2)) * (sl 46 1 (.slice (some ⟨b2, off2, none⟩) 2 c2) 2 (rowsN (fun k => [rv k]) 2) * (bytesB rv 2 * F))) wr) (fun i _ => 14 - (intOf i).toNat)
  case atStart => exact ⟨0, by omega, rfl, HO.out⟩
  case round =>
    clear HO
    obtain ⟨k, hk, rfl, hS⟩ := hrel
    by_cases hlt : k < 14
    · have hki : (k : Int) < 14 := by omega
      have HR := Lib.hid hS.rangeN
      have HC := Lib.hid (HOUT.out k hlt _ _ hS)
      have HL := Lib.hid hlt
      clear hS hlt
      go_wp2_with (first
        | (refine wpList_load_mid rfl 27 _ rfl b 0 (by rfl) (cfgL ps gs (.slice (some ⟨b2, off2, none⟩) 2 c2)) _ HR.out Tryz.underlying27 rfl hi15 ?_)
        | (go_at_call 173; refine HC.out.mono ?_; rintro e w1 ⟨rfl, hS1⟩; have HN := Lib.hid hS1; clear hS1))
      go_roundw
      case rel => exact ⟨k + 1, by have := HL.out; omega, by go_num, HN.out⟩
      case measure => (have := HL.out; simp [intOf]; omega)
    · obtain rfl : k = 14 := by omega
      have c14 := hS.cell 14 rfl
      have HS := Lib.hid hS
      clear hS
      go_wp2
      go_loopw [5] (fun i wr => ∃ k : Nat, k ≤ 2 ∧ i = vi k ∧ Sat w0 (pc b 27 (cfgL ps gs (.slice (some ⟨b2, off2, none⟩) 2 c2)) * (sl 46 1 (.slice (some ⟨b2, off2, none⟩) 2 c2) 2 (rowsN (fun k => [rv k]) 2) * (bytesB rv 2 * F))) wr) (fun i _ => 2 - (intOf i).toNat)
      case atStart => exact ⟨0, by omega, rfl, HS.out⟩
      case round =>
        clear HS c14
        obtain ⟨k, hk, rfl, hS⟩ := hrel
        have c14 := hS.cell 14 rfl
        by_cases hlt : k < 2
        · have hki : (k : Int) < 2 := by omega
          obtain ⟨b3, off3, c3, he, hc⟩ := hS.dropL.rd.pos (by omega)
          cases he
          have ck := hc k (rv k) (by
            have := rowsN_at (row := fun k => [rv k]) (N := 1) (n := 2) (k := k) (j := 0) (v := rv k) (fun _ => rfl) hlt rfl
            simpa using this)
          obtain ⟨ak, ck', hvk⟩ := (bytes_rd hS.dropL.dropL hlt).len
          rw [hvk] at ck
          have hn4 := ln_le k
          have hn : ¬ (1024 : Int) < (lnB k : Int) := by omega
          have HS := Lib.hid hS
          have HL := Lib.hid hlt
          clear hS hlt hvk
          generalize lnB k = nk at *
          go_wp2
          go_roundw
          case rel => exact ⟨k + 1, by have := HL.out; omega, by go_num, HS.out⟩
          case measure => (have := HL.out; simp [intOf]; omega)
        · obtain rfl : k = 2 := by omega
          have HS := Lib.hid hS
          clear hS
          go_wp2
          go_ret2
          exact ⟨rfl, (prB_shut HS.out.dropL)⟩
set_option maxRecDepth 100000 in
theorem r18_may (h : Sat w0 (prB pr * F) w) (h1 : 1 ≤ ps) (h2 : ps ≤ 8) (h3 : 1 ≤ gs) (h4 : gs ≤ 64) : Calls Tryz.prog 52 #[.agg (cfgL ps gs pr).toArray] w fun e w' => e = .returned (vi 0) ∧ Sat w0 (prB pr * F) w' := by
  have hA : Sat w0 (pc w.heap.size 27 (cfgL ps gs pr) * (prB pr * F)) (w.alloc (.cells (cfgL ps gs pr).toArray 27)) := h.alloc _
  have hR := hA.rangeN
  have hi : (Tryz.prog.info? 27).map (·.size) = some 15 := by kernel_rfl
  have HR := Lib.hid hR
  have HW := Lib.hid (r18_wrong (ps := ps) (gs := gs) (F := pc w.heap.size 27 (cfgL ps gs pr) * F) hA.pull2 h1 h2 h3 h4)
  clear h hA hR h1 h2 h3 h4
  go_enter Tryz.func52, Tryz.ntmps52
  go_wp2_with (first
    | (refine wpList_load_mid rfl 27 _ rfl w.heap.size 0 (by rfl) (cfgL ps gs pr) _ HR.out Tryz.underlying27 rfl hi ?_)
    | (go_at_call 120; refine HW.out.mono ?_; rintro e w1 ⟨rfl, hS1⟩; have HN := Lib.hid hS1; clear hS1))
  go_ret
  exact ⟨rfl, HN.out.drop2⟩
end
end Go.Proofs.YtdbppfcilaajaaaGreat.Kn
