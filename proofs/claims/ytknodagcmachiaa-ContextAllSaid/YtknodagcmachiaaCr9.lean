/-
  The reference of layer 8: New, Copy. No statement is proved here.
-/
import Derived.Test.YtknodagcmachiaaCr8
namespace Go.Proofs.Ytknodagcmachiaa.Cn
open Go.RowKit Ac Fi
set_option linter.unusedVariables false
set_option linter.unusedSimpArgs false

section
variable {w0 w : World} {F : Hp} {q b cap : Nat} {times most : Int} {rs : List RPl} {L : Blks} {l m : List Rf}
theorem Epl8 : SlT Try.prog 54 58 7 72 (.agg #[vu 0, .bool false, .int .u64 0, .int .u64 0, .slice none 0 0, .int .i64 0, vi 0]) := SlT.mk' Try.underlying54 (by kernel_rfl) rfl (by decide)
theorem rdP8 (w : World) (T : TypeId) (r : RPl) {g : Nat} (hg : g = w.heap.size) : Rd (w.alloc (.cells r.cells.toArray T)) 7 (.slice (some ⟨g, 0, none⟩) 1 1) 1 r.cells := by
  subst hg
  have h : Sat w (pc w.heap.size T r.cells * emp) (w.alloc (.cells r.cells.toArray T)) := (Sat.start w).alloc _
  exact (h.slI (n := 1) (cap := 1) (size := 7) (xs := r.cells) (Nat.le_refl _) (by unfold maxLen; omega) (by rw [RPl.len]; omega) rfl).rd
def newR (k : Nat) : List RPl := (List.range k).map fun i : Nat => ⟨1, false, ez, -1 - (i : Int)⟩
theorem newR_succ (k : Nat) : newR (k + 1) = newR k ++ [⟨1, false, ez, -1 - (k : Int)⟩] := by simp [newR, List.range_succ]
theorem newR_len (k : Nat) : (newR k).length = k := by simp [newR]
theorem newR_flat (k : Nat) : rflatP (newR (k + 1)) = rflatP (newR k) ++ (⟨1, false, ez, -1 - (k : Int)⟩ : RPl).cells := by rw [newR_succ]; simp [rflatP]
theorem RM.new (L : Blks) (n : Nat) : RM L (newR n) (newC n) := by
  refine ⟨by simp [newC, newR], fun k a c ha hc => ?_⟩
  obtain ⟨h1, rfl⟩ := newC_at hc
  unfold newR at ha
  rw [List.getElem?_map, List.getElem?_range h1] at ha
  cases ha
  exact ⟨rfl, rfl, EM.zero L, rfl⟩
set_option maxRecDepth 100000 in
set_option maxHeartbeats 4000000 in
theorem rx_new (hS : Sat w0 F w) (n : Nat) (hn : 1 ≤ n ∧ n ≤ 32) (most : Int) :
    Calls Try.prog 17 #[vi n, vi most] w fun e w' => ∃ q b cap, e = .returned (vp q) ∧ Sat w0 (rxB q b n cap 0 most * (rxL b cap (newR n) * F)) w' := by
  have hq : Sat w0 (pc w.heap.size 56 [.slice none 0 0, vi 0, vi most] * (F)) (w.alloc (.cells #[.slice none 0 0, vi 0, vi most] 56)) := hS.alloc _
  have hq2 := hq.addNil 58 7
  have HQ := Lib.hid (hq2.pull2)
  clear hS hq hq2
  go_enter Try.func17, Try.ntmps17
  go_wp2
  go_loopw [6] (fun i wr => ∃ (k : Nat) (v : Value), k ≤ n ∧ i = vi k ∧ Sat w0 (pc w.heap.size 56 [v, vi 0, vi most] * (sl 58 7 v k (rflatP (newR k)) * (F))) wr) (fun i _ => n - (intOf i).toNat)
  case atStart => exact ⟨0, .slice none 0 0, Nat.zero_le _, rfl, HQ.out⟩
  case round =>
    clear HQ
    obtain ⟨k, v, hk, rfl, hS⟩ := hrel
    have q0 := hS.cell 0 rfl
    have qf := hS.free 0
    by_cases hlt : k < n
    · have hki : (k : Int) < (n : Int) := by omega
      have hwk : IntKind.i64.wrap (-1 - (k : Int)) = -1 - (k : Int) := IntWalk.i64_in _ (by omega)
      obtain ⟨vo, vc, rfl⟩ := hS.pull2.rd.len
      have HS := Lib.hid hS
      clear hS
      go_wp2_with (at_builtin; refine wpList_append_sl Epl8 rfl (.tmp 19) (.tmp 23) rfl (by rfl) (HS.out.pull2.alloc' _) (by rfl) (rdP8 wr _ ⟨1, false, ez, -1 - (k : Int)⟩ rfl) (RPl.one _) (by unfold maxLen; omega) (by omega) ?_; intro ao1 cap1 w1 hS1; have h2 := hS1.pull2; have q1 := h2.cell 0 rfl; have qf1 := h2.free 0; have h3 : Sat w0 (pc w.heap.size 56 [.slice ao1 (k + 1) cap1, vi 0, vi most] * (sl 58 7 (.slice ao1 (k + 1) cap1) (k + 1) (rflatP (newR k) ++ (⟨1, false, ez, -1 - (k : Int)⟩ : RPl).cells) * (F))) _ := h2.store 0 (.slice ao1 (k + 1) cap1); have H3 := Lib.hid h3; clear hS1 h2 h3)
      go_roundw
      case rel => exact ⟨k + 1, .slice ao1 (k + 1) cap1, by omega, by go_num, by rw [newR_flat]; exact H3.out⟩
      case measure => (simp [intOf]; try omega)
    · obtain rfl : k = n := by omega
      obtain ⟨b, cap, rfl⟩ : ∃ b cap, v = .slice (some ⟨b, 0, none⟩) k cap := by
        rcases hS.pull2.slE.2 with ⟨_, h0, _⟩ | ⟨g, c, cur, hv, _⟩
        · omega
        · exact ⟨g, c, hv⟩
      have HS := Lib.hid hS
      clear hS
      go_wp2
      go_ret
      have h1 := HS.out
      refine ⟨w.heap.size, b, cap, rfl, ?_⟩
      unfold rxL
      rw [newR_len]
      exact h1
set_option maxRecDepth 100000 in
set_option maxHeartbeats 4000000 in
theorem rx_copy (hS : Sat w0 (rxB q b rs.length cap times most * (rxL b cap rs * (F))) w)  (hl : rs.length ≤ 32) (h0 : 0 < rs.length) :
    Calls Try.prog 26 #[vp q] w fun e w' => ∃ q2 b2 cap2, e = .returned (vp q2) ∧ Sat w0 (rxB q2 b2 rs.length cap2 times most * (rxL b2 cap2 rs * (rxB q b rs.length cap times most * (rxL b cap rs * (F))))) w' := by
  have HS := Lib.hid hS
  have HN := Lib.hid (hS.drew.addNil 58 7)
  clear hS
  have ka0 := (HS.out.drew).cell 0 rfl; have ka1 := (HS.out.drew).cell 1 rfl; have ka2 := (HS.out.drew).cell 2 rfl
  go_enter Try.func26, Try.ntmps26
  go_wp2
  go_region_held3 (fun w' : World => w'.cell? ⟨q, 0, none⟩ = some (.slice (some ⟨b, 0, none⟩) rs.length cap) ∧ w'.cell? ⟨q, 1, none⟩ = some (vi times) ∧ w'.cell? ⟨q, 2, none⟩ = some (vi most))
    (first | exact ⟨ka0, ka1, ka2⟩ | exact ⟨kb0, kb1, kb2⟩ | go_keep)
    ((refine step_append_sl Epl8 (by rfl) _ _ (by rfl) (by rfl) HN.out (by rfl) (Sat.rd HN.out.pull3) (flat_one RPl.one rs) (by unfold maxLen; omega) (by omega) ?_; intro ao cp w9 hS9; simp only [Nat.zero_add, List.nil_append] at hS9; have H2 := Lib.hid ((hS9).cast (show _ = sl 58 7 (.slice ao rs.length cp) rs.length (rflatP rs) * (rxB q b rs.length cap times most * (rxL b cap rs * (F))) by ac_rfl)); clear hS9; have kb0 := (H2.out).dropL.cell 0 rfl; have kb1 := (H2.out).dropL.cell 1 rfl; have kb2 := (H2.out).dropL.cell 2 rfl))
  go_wp2
  go_ret
  obtain ⟨b2, cap2, hv⟩ : ∃ b2 cap2, (Value.slice ao rs.length cp) = .slice (some ⟨b2, 0, none⟩) rs.length cap2 := by
    rcases H2.out.slE.2 with ⟨_, h1, _⟩ | ⟨g, c, cur, hv, _⟩
    · omega
    · exact ⟨g, c, hv⟩
  cases hv
  exact ⟨_, b2, cp, rfl, H2.out.alloc (.cells #[.slice (some ⟨b2, 0, none⟩) rs.length cp, vi times, vi most] 56)⟩
end
end Go.Proofs.Ytknodagcmachiaa.Cn
