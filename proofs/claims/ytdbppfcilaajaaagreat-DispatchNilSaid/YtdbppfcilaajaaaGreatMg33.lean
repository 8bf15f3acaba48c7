/-
  The reference of layer 8: Make, pull. No statement is proved here.
-/
import Derived.Test.YtdbppfcilaajaaaGreatMg32
import Derived.Test.YtdbppfcilaajaaaGreatMg22
namespace Go.Proofs.YtdbppfcilaajaaaGreat.Cn
open Go.RowKit Ac Fi
set_option linter.unusedVariables false
set_option linter.unusedSimpArgs false

section
variable {w0 w : World} {F : Hp} {q b cap : Nat} {times most : Int} {rs : List RPl} {L : Blks} {l m : List Rf}
set_option maxRecDepth 100000 in
set_option maxHeartbeats 4000000 in
theorem rx_make_arg (hS : Sat w0 (rxB q b rs.length cap times most * (rxL b cap rs * (plB L * (F)))) w)  (bu per now : Int) (hc : ¬ MkOk bu per now) :
    Calls Tryz.prog 58 #[vp q, vu bu, vu per, vu now] w fun e w' => e = .returned (.tuple #[vr 0 0, vi 2]) ∧ Sat w0 (rxB q b rs.length cap times most * (rxL b cap rs * (plB L * (F)))) w' := by
  have hB : Sat w0 (pc w.heap.size 30 [vi 0, vu 0] * (rxB q b rs.length cap times most * (rxL b cap rs * (plB L * (F))))) (w.alloc (.cells #[vi 0, vu 0] 30)) := hS.alloc (.cells #[vi 0, vu 0] 30)
  have z0 := hB.cell 0 rfl
  have z1 := hB.cell 1 rfl
  have f0 := hB.free 0
  have f1 := hB.free 1
  have HB := Lib.hid hB
  clear hS hB
  by_cases h1 : bu < 1
  · clear hc
    go_enter Tryz.func58, Tryz.ntmps58
    go_wp2
    refine bodyPost_ret (v := .tuple #[vr 0 0, vi 2]) (by rw [results_cell_tmp rfl]; go_simp) rfl ?_
    first | exact ⟨rfl, HB.out.dropL⟩ | exact ⟨rfl, ((HB.out.store 0 (vi 0)).store 1 (vu 0)).dropL⟩
  · by_cases h2 : 4294967296 < bu
    · clear hc
      go_enter Tryz.func58, Tryz.ntmps58
      go_wp2
      refine bodyPost_ret (v := .tuple #[vr 0 0, vi 2]) (by rw [results_cell_tmp rfl]; go_simp) rfl ?_
      first | exact ⟨rfl, HB.out.dropL⟩ | exact ⟨rfl, ((HB.out.store 0 (vi 0)).store 1 (vu 0)).dropL⟩
    · by_cases h3 : per < 1
      · clear hc
        go_enter Tryz.func58, Tryz.ntmps58
        go_wp2
        refine bodyPost_ret (v := .tuple #[vr 0 0, vi 2]) (by rw [results_cell_tmp rfl]; go_simp) rfl ?_
        first | exact ⟨rfl, HB.out.dropL⟩ | exact ⟨rfl, ((HB.out.store 0 (vi 0)).store 1 (vu 0)).dropL⟩
      · by_cases h4 : 4294967296 < per
        · clear hc
          go_enter Tryz.func58, Tryz.ntmps58
          go_wp2
          refine bodyPost_ret (v := .tuple #[vr 0 0, vi 2]) (by rw [results_cell_tmp rfl]; go_simp) rfl ?_
          first | exact ⟨rfl, HB.out.dropL⟩ | exact ⟨rfl, ((HB.out.store 0 (vi 0)).store 1 (vu 0)).dropL⟩
        · have h5 : 1152921504606846976 < now := by unfold MkOk at hc; omega
          clear hc
          go_enter Tryz.func58, Tryz.ntmps58
          go_wp2
          refine bodyPost_ret (v := .tuple #[vr 0 0, vi 2]) (by rw [results_cell_tmp rfl]; go_simp) rfl ?_
          first | exact ⟨rfl, HB.out.dropL⟩ | exact ⟨rfl, ((HB.out.store 0 (vi 0)).store 1 (vu 0)).dropL⟩
set_option maxRecDepth 100000 in
set_option maxHeartbeats 4000000 in
theorem rx_make_full (hS : Sat w0 (rxB q b rs.length cap times most * (rxL b cap rs * (plB L * (F)))) w)  (bu per now : Int) (hc : MkOk bu per now) (hn0 : 0 ≤ now) (hl : rs.length ≤ 32) (hf : ∀ (k : Nat) (a : RPl), rs[k]? = some a → a.there = true) :
    Calls Tryz.prog 58 #[vp q, vu bu, vu per, vu now] w fun e w' => ∃ L2, e = .returned (.tuple #[vr 0 0, vi 3]) ∧ (∀ x ∈ L, x ∈ L2) ∧ Sat w0 (rxB q b rs.length cap times most * (rxL b cap rs * (plB L2 * (F)))) w' := by
  have hB : Sat w0 (pc w.heap.size 30 [vi 0, vu 0] * (rxB q b rs.length cap times most * (rxL b cap rs * (plB L * (F))))) (w.alloc (.cells #[vi 0, vu 0] 30)) := hS.alloc (.cells #[vi 0, vu 0] 30)
  have z0 := hB.cell 0 rfl
  have z1 := hB.cell 1 rfl
  have f0 := hB.free 0
  have f1 := hB.free 1
  have HB := Lib.hid hB
  have HOK : OkL [⟨bu, now⟩] := ok1 bu now ⟨by unfold MkOk at hc; omega, by unfold MkOk at hc; omega⟩ ⟨hn0, by unfold MkOk at hc; omega⟩
  have hc0 := hB.sloOne (size := 2) 244 [vu bu, vu now] rfl
  rw [size1] at hc0
  have hc1 : Sat w0 (fiS (.slice (some ⟨w.heap.size + 1, 0, none⟩) 1 1) [⟨bu, now⟩] * (plB L * (pc w.heap.size 30 [vi 0, vu 0] * (rxB q b rs.length cap times most * (rxL b cap rs * (F)))))) _ := hc0.cast (show _ = fiS (.slice (some ⟨w.heap.size + 1, 0, none⟩) 1 1) [⟨bu, now⟩] * (plB L * (pc w.heap.size 30 [vi 0, vu 0] * (rxB q b rs.length cap times most * (rxL b cap rs * (F))))) by (show slo 244 2 (.slice (some ⟨w.heap.size + 1, 0, none⟩) 1 1) 1 [vu bu, vu now] * _ = slo 244 2 (.slice (some ⟨w.heap.size + 1, 0, none⟩) 1 1) 1 [vu bu, vu now] * _; ac_rfl))
  obtain ⟨L2, hsub, hin, h3⟩ := hc1.plIn HOK
  have HSUB := Lib.hid hsub
  have HIN := Lib.hid hin
  have HPUT := Lib.hid (rx_put_full ((h3).cast (show _ = rxB q b rs.length cap times most * (rxL b cap rs * (pc w.heap.size 30 [vi 0, vu 0] * (plB L2 * (F)))) by ac_rfl)) ⟨bu, per, some ⟨w.heap.size + 1, 0, none⟩, 1, 1, 0⟩ hl hf)
  obtain ⟨h1, h2, h3', h4, h5⟩ := hc
  have h1' : ¬ (bu < 1) := by omega
  have h2' : ¬ (4294967296 < bu) := by omega
  have h3'' : ¬ (per < 1) := by omega
  have h4' : ¬ (4294967296 < per) := by omega
  have h5' : ¬ (1152921504606846976 < now) := by omega
  clear h1 h2 h3' h4 h5 hn0 hS hB hc0 hc1 h3 hsub hin HOK hf
  go_enter Tryz.func58, Tryz.ntmps58
  go_wp2_with (go_at_call 123; refine HPUT.out.mono ?_; rintro e w3 ⟨rfl, hS3⟩; have H3 := Lib.hid ((hS3).cast (show _ = pc w.heap.size 30 [vi 0, vu 0] * (rxB q b rs.length cap times most * (rxL b cap rs * (plB L2 * (F)))) by ac_rfl)); clear hS3; have y0 := H3.out.cell 0 rfl; have y1 := H3.out.cell 1 rfl; have yf := H3.out.free 0; have yg := H3.out.free 1; have h4 : Sat w0 (pc w.heap.size 30 [vi 0, vu 0] * (rxB q b rs.length cap times most * (rxL b cap rs * (plB L2 * (F))))) _ := (H3.out.store 0 (vi 0)).store 1 (vu 0); have H4 := Lib.hid h4; clear h4)
  refine bodyPost_ret (v := .tuple #[vr 0 0, vi 3]) (by rw [results_cell_tmp rfl]; go_simp) rfl ?_
  exact ⟨L2, rfl, HSUB.out, ((H4.out).cast (show _ = pc w.heap.size 30 [vi 0, vu 0] * (rxB q b rs.length cap times most * (rxL b cap rs * (plB L2 * (F)))) by ac_rfl)).dropL⟩
set_option maxRecDepth 100000 in
set_option maxHeartbeats 4000000 in
theorem rx_make_ok (hS : Sat w0 (rxB q b rs.length cap times most * (rxL b cap rs * (plB L * (F)))) w) {k : Nat} {a : RPl} (bu per now : Int) (hc : MkOk bu per now) (hn0 : 0 ≤ now) (hl : rs.length ≤ 32) (hk : rs[k]? = some a) (ht : a.there = false) (hm : ∀ (j : Nat) (d : RPl), rs[j]? = some d → d.there = false → j ≠ k → d.freed < a.freed) :
    Calls Tryz.prog 58 #[vp q, vu bu, vu per, vu now] w fun e w' => ∃ ao lc L2, e = .returned (.tuple #[vr k a.gen, vi 0]) ∧ (∀ x ∈ L, x ∈ L2) ∧ InP L2 (.slice ao 1 lc) [⟨bu, now⟩] ∧ Sat w0 (rxB q b rs.length cap times most * (rxL b cap (rs.set k { a with there := true, x := ⟨bu, per, ao, 1, lc, 0⟩ }) * (plB L2 * (F)))) w' := by
  have hB : Sat w0 (pc w.heap.size 30 [vi 0, vu 0] * (rxB q b rs.length cap times most * (rxL b cap rs * (plB L * (F))))) (w.alloc (.cells #[vi 0, vu 0] 30)) := hS.alloc (.cells #[vi 0, vu 0] 30)
  have z0 := hB.cell 0 rfl
  have z1 := hB.cell 1 rfl
  have f0 := hB.free 0
  have f1 := hB.free 1
  have HB := Lib.hid hB
  have HOK : OkL [⟨bu, now⟩] := ok1 bu now ⟨by unfold MkOk at hc; omega, by unfold MkOk at hc; omega⟩ ⟨hn0, by unfold MkOk at hc; omega⟩
  have hc0 := hB.sloOne (size := 2) 244 [vu bu, vu now] rfl
  rw [size1] at hc0
  have hc1 : Sat w0 (fiS (.slice (some ⟨w.heap.size + 1, 0, none⟩) 1 1) [⟨bu, now⟩] * (plB L * (pc w.heap.size 30 [vi 0, vu 0] * (rxB q b rs.length cap times most * (rxL b cap rs * (F)))))) _ := hc0.cast (show _ = fiS (.slice (some ⟨w.heap.size + 1, 0, none⟩) 1 1) [⟨bu, now⟩] * (plB L * (pc w.heap.size 30 [vi 0, vu 0] * (rxB q b rs.length cap times most * (rxL b cap rs * (F))))) by (show slo 244 2 (.slice (some ⟨w.heap.size + 1, 0, none⟩) 1 1) 1 [vu bu, vu now] * _ = slo 244 2 (.slice (some ⟨w.heap.size + 1, 0, none⟩) 1 1) 1 [vu bu, vu now] * _; ac_rfl))
  obtain ⟨L2, hsub, hin, h3⟩ := hc1.plIn HOK
  have HSUB := Lib.hid hsub
  have HIN := Lib.hid hin
  have HPUT := Lib.hid (rx_put_ok ((h3).cast (show _ = rxB q b rs.length cap times most * (rxL b cap rs * (pc w.heap.size 30 [vi 0, vu 0] * (plB L2 * (F)))) by ac_rfl)) ⟨bu, per, some ⟨w.heap.size + 1, 0, none⟩, 1, 1, 0⟩ hl hk ht hm)
  obtain ⟨h1, h2, h3', h4, h5⟩ := hc
  have h1' : ¬ (bu < 1) := by omega
  have h2' : ¬ (4294967296 < bu) := by omega
  have h3'' : ¬ (per < 1) := by omega
  have h4' : ¬ (4294967296 < per) := by omega
  have h5' : ¬ (1152921504606846976 < now) := by omega
  clear h1 h2 h3' h4 h5 hn0 hS hB hc0 hc1 h3 hsub hin HOK hk ht hm
  go_enter Tryz.func58, Tryz.ntmps58
  go_wp2_with (go_at_call 123; refine HPUT.out.mono ?_; rintro e w3 ⟨rfl, hS3⟩; have H3 := Lib.hid ((hS3).cast (show _ = pc w.heap.size 30 [vi 0, vu 0] * (rxB q b rs.length cap times most * (rxL b cap (rs.set k { a with there := true, x := ⟨bu, per, some ⟨w.heap.size + 1, 0, none⟩, 1, 1, 0⟩ }) * (plB L2 * (F)))) by ac_rfl)); clear hS3; have y0 := H3.out.cell 0 rfl; have y1 := H3.out.cell 1 rfl; have yf := H3.out.free 0; have yg := H3.out.free 1; have h4 : Sat w0 (pc w.heap.size 30 [vi k, vu a.gen] * (rxB q b rs.length cap times most * (rxL b cap (rs.set k { a with there := true, x := ⟨bu, per, some ⟨w.heap.size + 1, 0, none⟩, 1, 1, 0⟩ }) * (plB L2 * (F))))) _ := (H3.out.store 0 (vi k)).store 1 (vu a.gen); have H4 := Lib.hid h4; clear h4)
  refine bodyPost_ret (v := .tuple #[vr k a.gen, vi 0]) (by rw [results_cell_tmp rfl]; go_simp) rfl ?_
  exact ⟨some ⟨w.heap.size + 1, 0, none⟩, 1, L2, rfl, HSUB.out, HIN.out, ((H4.out).cast (show _ = pc w.heap.size 30 [vi k, vu a.gen] * (rxB q b rs.length cap times most * (rxL b cap (rs.set k { a with there := true, x := ⟨bu, per, some ⟨w.heap.size + 1, 0, none⟩, 1, 1, 0⟩ }) * (plB L2 * (F)))) by ac_rfl)).dropL⟩
end
end Go.Proofs.YtdbppfcilaajaaaGreat.Cn

namespace Go.Proofs.YtdbppfcilaajaaaGreat.Cn
open Go.RowKit Ac Fi
set_option linter.unusedVariables false
set_option linter.unusedSimpArgs false

section
variable {w0 w : World} {F : Hp} {q b cap : Nat} {times most : Int} {rs : List RPl} {L : Blks} {l m : List Rf}
end
end Go.Proofs.YtdbppfcilaajaaaGreat.Cn

namespace Go.Proofs.YtdbppfcilaajaaaGreat.Cn
open Go.RowKit Ac Fi
set_option linter.unusedVariables false
set_option linter.unusedSimpArgs false

section
variable {w0 w : World} {F : Hp} {q b cap : Nat} {times most : Int} {rs : List RPl} {L : Blks} {l m : List Rf}
end
end Go.Proofs.YtdbppfcilaajaaaGreat.Cn

namespace Go.Proofs.YtdbppfcilaajaaaGreat.Cn
open Go.RowKit Ac Fi
set_option linter.unusedVariables false
set_option linter.unusedSimpArgs false

section
variable {w0 w : World} {F : Hp} {q b cap : Nat} {times most : Int} {rs : List RPl} {L : Blks} {l m : List Rf}
theorem Epl8 : SlT Tryz.prog 222 226 7 72 (.agg #[vu 0, .bool false, .int .u64 0, .int .u64 0, .slice none 0 0, .int .i64 0, vi 0]) := SlT.mk' Tryz.underlying222 (by kernel_rfl) rfl (by decide)
theorem rdP8 (w : World) (T : TypeId) (r : RPl) {g : Nat} (hg : g = w.heap.size) : Rd (w.alloc (.cells r.cells.toArray T)) 7 (.slice (some ⟨g, 0, none⟩) 1 1) 1 r.cells := by
  subst hg
  have h : Sat w (pc w.heap.size T r.cells * emp) (w.alloc (.cells r.cells.toArray T)) := (Sat.start w).alloc _
  exact (h.slI (n := 1) (cap := 1) (size := 7) (xs := r.cells) (Nat.le_refl _) (by unfold maxLen; omega) (by rw [RPl.len]; omega) rfl).rd
def newR (k : Nat) : List RPl := (List.range k).map fun i : Nat => ⟨1, false, ez, -1 - (i : Int)⟩
theorem newR_succ (k : Nat) : newR (k + 1) = newR k ++ [⟨1, false, ez, -1 - (k : Int)⟩] := by simp [newR, List.range_succ]
theorem newR_len (k : Nat) : (newR k).length = k := by simp [newR]
theorem newR_flat (k : Nat) : rflatP (newR (k + 1)) = rflatP (newR k) ++ (⟨1, false, ez, -1 - (k : Int)⟩ : RPl).cells := by rw [newR_succ]; simp [rflatP]
theorem RM.new (L : Blks) (n : Nat) : RM L (newR n) (newC n) := by
  refine ⟨by simp [newC, newR], fun k a c ha hc => ?_⟩
  obtain ⟨h1, rfl⟩ := newC_at hc
  unfold newR at ha
  rw [List.getElem?_map, List.getElem?_range h1] at ha
  cases ha
  exact ⟨rfl, rfl, EM.zero L, rfl⟩
set_option maxRecDepth 100000 in
set_option maxHeartbeats 4000000 in
theorem rx_new (hS : Sat w0 F w) (n : Nat) (hn : 1 ≤ n ∧ n ≤ 32) (most : Int) :
    Calls Tryz.prog 54 #[vi n, vi most] w fun e w' => ∃ q b cap, e = .returned (vp q) ∧ Sat w0 (rxB q b n cap 0 most * (rxL b cap (newR n) * F)) w' := by
  have hq : Sat w0 (pc w.heap.size 224 [.slice none 0 0, vi 0, vi most] * (F)) (w.alloc (.cells #[.slice none 0 0, vi 0, vi most] 224)) := hS.alloc _
  have hq2 := hq.addNil 226 7
  have HQ := Lib.hid (hq2.pull2)
  clear hS hq hq2
  go_enter Tryz.func54, Tryz.ntmps54
  go_wp2
  go_loopw [6] (fun i wr => ∃ (k : Nat) (v : Value), k ≤ n ∧ i = vi k ∧ Sat w0 (pc w.heap.size 224 [v, vi 0, vi most] * (sl 226 7 v k (rflatP (newR k)) * (F))) wr) (fun i _ => n - (intOf i).toNat)
  case atStart => exact ⟨0, .slice none 0 0, Nat.zero_le _, rfl, HQ.out⟩
  case round =>
    clear HQ
    obtain ⟨k, v, hk, rfl, hS⟩ := hrel
    have q0 := hS.cell 0 rfl
    have qf := hS.free 0
    by_cases hlt : k < n
    · have hki : (k : Int) < (n : Int) := by omega
      have hwk : IntKind.i64.wrap (-1 - (k : Int)) = -1 - (k : Int) := IntWalk.i64_in _ (by omega)
      obtain ⟨vo, vc, rfl⟩ := hS.pull2.rd.len
      have HS := Lib.hid hS
      clear hS
      go_wp2_with (at_builtin; refine wpList_append_sl Epl8 rfl (.tmp 19) (.tmp 23) rfl (by rfl) (HS.out.pull2.alloc' _) (by rfl) (rdP8 wr _ ⟨1, false, ez, -1 - (k : Int)⟩ rfl) (RPl.one _) (by unfold maxLen; omega) (by omega) ?_; intro ao1 cap1 w1 hS1; have h2 := hS1.pull2; have q1 := h2.cell 0 rfl; have qf1 := h2.free 0; have h3 : Sat w0 (pc w.heap.size 224 [.slice ao1 (k + 1) cap1, vi 0, vi most] * (sl 226 7 (.slice ao1 (k + 1) cap1) (k + 1) (rflatP (newR k) ++ (⟨1, false, ez, -1 - (k : Int)⟩ : RPl).cells) * (F))) _ := h2.store 0 (.slice ao1 (k + 1) cap1); have H3 := Lib.hid h3; clear hS1 h2 h3)
      go_roundw
      case rel => exact ⟨k + 1, .slice ao1 (k + 1) cap1, by omega, by go_num, by rw [newR_flat]; exact H3.out⟩
      case measure => (simp [intOf]; try omega)
    · obtain rfl : k = n := by omega
      obtain ⟨b, cap, rfl⟩ : ∃ b cap, v = .slice (some ⟨b, 0, none⟩) k cap := by
        rcases hS.pull2.slE.2 with ⟨_, h0, _⟩ | ⟨g, c, cur, hv, _⟩
        · omega
        · exact ⟨g, c, hv⟩
      have HS := Lib.hid hS
      clear hS
      go_wp2
      go_ret
      have h1 := HS.out
      refine ⟨w.heap.size, b, cap, rfl, ?_⟩
      unfold rxL
      rw [newR_len]
      exact h1
end
end Go.Proofs.YtdbppfcilaajaaaGreat.Cn

namespace Go.Proofs.YtdbppfcilaajaaaGreat.Cn
open Go.RowKit Ac Fi
set_option linter.unusedVariables false

def cyQ (L0 : Blks) (q : Nat) (most : Int) (cs : List CP) (times : Int) : Hp := ex fun x : Nat × Nat × List RPl × Blks => given ((∀ y ∈ L0, y ∈ x.2.2.2) ∧ RM x.2.2.2 x.2.2.1 cs) (rxB q x.1 x.2.2.1.length x.2.1 times most * (rxL x.1 x.2.1 x.2.2.1 * plB x.2.2.2))
section
variable {w0 w : World} {F : Hp} {q : Nat} {most times : Int} {cs : List CP} {free : List Nat} {n T : Nat} {L0 : Blks}
theorem cy_open (hS : Sat w0 (cyQ L0 q most cs times * F) w) : ∃ b cap rs L, (∀ y ∈ L0, y ∈ L) ∧ RM L rs cs ∧ Sat w0 (rxB q b rs.length cap times most * (rxL b cap rs * (plB L * F))) w := by
  obtain ⟨⟨b, cap, rs, L⟩, hS⟩ := hS.exE
  obtain ⟨hp, hS⟩ := hS.givenE
  exact ⟨b, cap, rs, L, hp.1, hp.2, hS.cast (by ac_rfl)⟩
theorem cy_shut {b cap n : Nat} {rs : List RPl} {L : Blks} (hl : ∀ y ∈ L0, y ∈ L) (hp : RM L rs cs) (hn : rs.length = n) (hS : Sat w0 (rxB q b n cap times most * (rxL b cap rs * (plB L * F))) w) : Sat w0 (cyQ L0 q most cs times * F) w := by
  subst hn
  exact Sat.exI (b, cap, rs, L) (Sat.givenI ⟨hl, hp⟩ (hS.cast (by ac_rfl)))
theorem RM.setp {L : Blks} {rs : List RPl} (h : RM L rs cs) {i g : Int} {k : Nat} {a : RPl} {c : CP} (hc : isC cs i g = some (k, c)) (ha : rs[k]? = some a) {x : El} {y : Cx} (hx : EM L x y) : RM L (rs.set k { a with x := x }) (sC cs i g y) := by
  unfold sC
  rw [hc]
  obtain ⟨c1, c2, c3, c4⟩ := isC_some hc
  obtain ⟨h1, h2, h3, h4⟩ := h.at_ k a c ha c1
  exact h.set k h1 h2 hx h4
theorem r_bind (hI : Inv n most T cs free times) (hT : T ≤ 100000) (hS : Sat w0 (cyQ L0 q most cs times * F) w) (i g d : Int) (hd : -1 ≤ d ∧ d ≤ 1) :
    Calls Tryz.prog 60 #[vp q, vr i g, vi d] w fun e w' => e = .returned (vi (bindE cs i g d)) ∧ Sat w0 (cyQ L0 q most (bindL cs i g d) times * F) w' := by
  obtain ⟨b, cap, rs, L, hL, hp, hs⟩ := cy_open hS
  have hA := hI.anyC i g
  rcases eC_01 cs i g with he | he
  · obtain ⟨k, a, c, hc, hr, ha, hck, rfl, ht, rfl, _, _, hgc, hx, _⟩ := hp.yes he
    have hx3 := hx.2.2.2
    by_cases h0 : (gC cs k a.gen).n + d < 0
    · have hz : bindE cs k a.gen d = 5 := by unfold bindE; rw [if_neg (by omega), if_pos h0]
      unfold bindL
      rw [hz, if_neg (by omega)]
      exact (rx_bind_neg hs ha ht d hd (by rw [hx3]; omega) (by rw [hx3]; exact h0)).mono fun e w' ⟨h1, h2⟩ => ⟨h1, cy_shut hL hp rfl h2⟩
    · have hz : bindE cs k a.gen d = 0 := by unfold bindE; rw [if_neg (by omega), if_neg h0]
      unfold bindL
      rw [hz, if_pos rfl]
      refine (rx_bind_yes hs ha ht d hd (by rw [hx3]; omega) (by rw [hx3]; omega)).mono fun e w' ⟨h1, h2⟩ => ⟨h1, cy_shut hL (hp.setp hc ha ?_) (by rw [List.length_set]) h2⟩
      exact ⟨hx.1, hx.2.1, hx.2.2.1, congrArg (· + d) hx3⟩
  · have hz : bindE cs i g d = 11 := by unfold bindE; rw [if_pos he]
    unfold bindL
    rw [hz, if_neg (by omega)]
    exact (rx_bind_no hs i g (hp.no he) d).mono fun e w' ⟨h1, h2⟩ => ⟨h1, cy_shut hL hp rfl h2⟩
/-- The place that is taken next. -/
theorem Inv.best (h : Inv n most T cs free times) {b p now : Int} (he : mkE free b p now = 0) {c : CP} (hc : cs[mkK free]? = some c) : ∀ (j : Nat) (d : CP), cs[j]? = some d → d.there = false → j ≠ mkK free → d.freed < c.freed := by
  intro j d hd ht hj
  obtain ⟨_, hf⟩ := mk_last he
  have hjf : j ∈ free := (h.mem j).2 ⟨d, hd, ht⟩
  have ho := h.ord
  rw [hf] at ho hjf
  rcases List.mem_append.1 hjf with h1 | h1
  · exact (List.pairwise_append.1 ho).2.2 j h1 _ (List.mem_singleton.2 rfl) d c hd hc
  · exact absurd (List.mem_singleton.1 h1) hj
theorem RM.best {L : Blks} {rs : List RPl} (hp : RM L rs cs) (hI : Inv n most T cs free times) {b p now : Int} (he : mkE free b p now = 0) : ∃ a c, rs[mkK free]? = some a ∧ cs[mkK free]? = some c ∧ a.there = false ∧ c.there = false ∧ a.gen = c.gen ∧ genK cs (mkK free) = c.gen ∧ a.freed = c.freed ∧ ∀ (j : Nat) (d : RPl), rs[j]? = some d → d.there = false → j ≠ mkK free → d.freed < a.freed := by
  obtain ⟨c, hc, ht, hg⟩ := hI.mkAt he
  have hk : mkK free < rs.length := by rw [hp.len]; exact (List.getElem?_eq_some_iff.1 hc).1
  obtain ⟨a, ha⟩ : ∃ a, rs[mkK free]? = some a := ⟨rs[mkK free], List.getElem?_eq_getElem hk⟩
  obtain ⟨h1, h2, h3, h4⟩ := hp.at_ _ a c ha hc
  refine ⟨a, c, ha, hc, h2.trans ht, ht, h1, hg, h4, fun j d hd hdt hj => ?_⟩
  have hjl : j < cs.length := by rw [← hp.len]; exact (List.getElem?_eq_some_iff.1 hd).1
  obtain ⟨d', hd'⟩ : ∃ d', cs[j]? = some d' := ⟨cs[j], List.getElem?_eq_getElem hjl⟩
  obtain ⟨k1, k2, k3, k4⟩ := hp.at_ _ d d' hd hd'
  rw [k4, h4]
  exact hI.best he hc j d' hd' (k2.symm.trans hdt) hj
theorem RM.all {L : Blks} {rs : List RPl} (hp : RM L rs cs) (hI : Inv n most T cs [] times) : ∀ (k : Nat) (a : RPl), rs[k]? = some a → a.there = true := by
  intro k a ha
  have hjl : k < cs.length := by rw [← hp.len]; exact (List.getElem?_eq_some_iff.1 ha).1
  obtain ⟨c, hc⟩ : ∃ c, cs[k]? = some c := ⟨cs[k], List.getElem?_eq_getElem hjl⟩
  obtain ⟨k1, k2, k3, k4⟩ := hp.at_ _ a c ha hc
  rw [k2]
  cases hct : c.there with
  | true => rfl
  | false =>
    have := (hI.mem k).2 ⟨c, hc, hct⟩
    simp at this
theorem RM.come {L : Blks} {rs : List RPl} (h : RM L rs cs) {k : Nat} {a : RPl} {c : CP} (ha : rs[k]? = some a) (hc : cs[k]? = some c) {x : El} {y : Cx} (hx : EM L x y) : RM L (rs.set k { a with there := true, x := x }) (cs.set k { c with there := true, cx := y }) := by
  obtain ⟨h1, h2, h3, h4⟩ := h.at_ k a c ha hc
  exact h.set k h1 rfl hx h4
theorem RM.small {L : Blks} {rs : List RPl} (hp : RM L rs cs) (hI : Inv n most T cs free times) : rs.length ≤ 32 ∧ 0 < rs.length := by
  have := hp.len
  have := hI.len
  have := hI.small
  omega
theorem r_make (hI : Inv n most T cs free times) (hS : Sat w0 (cyQ L0 q most cs times * F) w) (b per now : Int) (hn : 0 ≤ now) :
    Calls Tryz.prog 58 #[vp q, vu b, vu per, vu now] w fun e w' => e = .returned (.tuple #[vr (mkI free b per now) (mkG cs free b per now), vi (mkE free b per now)]) ∧ Sat w0 (cyQ L0 q most (mkL cs free b per now) times * F) w' := by
  obtain ⟨bb, cap, rs, L, hL, hp, hs⟩ := cy_open hS
  have hsm := hp.small hI
  unfold mkI mkG mkL
  by_cases hm : MkOk b per now
  · by_cases hf : free = []
    · have he : mkE free b per now = 3 := by unfold mkE; rw [if_pos hm, if_pos hf]
      rw [he, if_neg (by omega), if_neg (by omega), if_neg (by omega)]
      subst hf
      refine (rx_make_full hs b per now hm hn hsm.1 (hp.all hI)).mono fun e w' hh => ?_
      obtain ⟨L2, h1, h2, h3⟩ := hh
      exact ⟨h1, cy_shut (fun x hx => h2 x (hL x hx)) (hp.mono h2) rfl h3⟩
    · have he : mkE free b per now = 0 := by unfold mkE; rw [if_pos hm, if_neg hf]
      rw [he, if_pos rfl, if_pos rfl, if_pos rfl]
      obtain ⟨a, c, ha, hc, hat, hct, hag, hgk, haf, hbest⟩ := hp.best hI he
      rw [hc, hgk]
      dsimp only
      refine (rx_make_ok hs b per now hm hn hsm.1 ha hat hbest).mono fun e w' hh => ?_
      obtain ⟨ao, lc, L2, h1, h2, h3, h4⟩ := hh
      refine ⟨by rw [h1, hag], cy_shut (fun x hx => h2 x (hL x hx)) ((hp.mono h2).come ha hc ?_) (by rw [List.length_set]) h4⟩
      exact ⟨rfl, rfl, h3, rfl⟩
  · have he : mkE free b per now = 2 := by unfold mkE; rw [if_neg hm]
    rw [he, if_neg (by omega), if_neg (by omega), if_neg (by omega)]
    exact (rx_make_arg hs b per now hm).mono fun e w' ⟨h1, h2⟩ => ⟨h1, cy_shut hL hp rfl h2⟩
theorem r_new (n : Nat) (hn : 1 ≤ n ∧ n ≤ 32) (most : Int) (hS : Sat w0 F w) : Calls Tryz.prog 54 #[vi n, vi most] w fun e w' => ∃ q, e = .returned (vp q) ∧ Sat w0 (cyQ [] q most (newC n) 0 * F) w' :=
  (rx_new hS n hn most).mono fun e w' ⟨q, b, cap, h1, h2⟩ => ⟨q, h1, cy_shut (fun y hy => by simp at hy) (RM.new [] n) (newR_len n) ((Sat.plStart h2).cast (by ac_rfl))⟩
end
end Go.Proofs.YtdbppfcilaajaaaGreat.Cn

namespace Go.Proofs.YtdbppfcilaajaaaGreat.Dm
open Go.RowKit Ad
set_option linter.unusedVariables false

/-- What is left of a domain itself. -/
def leftP (ps : List Pl) (r : Int × Int) : Int := subS (getX ps r.1 r.2).v3 (getX ps r.1 r.2).v9
/-- The least of some. -/
def minP : List Int → Int
  | [] => 0
  | x :: xs => xs.foldl (fun n m => if m < n then m else n) x
theorem minP_snoc (l : List Int) (m : Int) : minP (l ++ [m]) = if l = [] then m else if m < minP l then m else minP l := by
  cases l with
  | nil => rfl
  | cons x xs =>
    rw [if_neg (by simp)]
    show (xs ++ [m]).foldl _ x = _
    rw [List.foldl_append]
    rfl
/-- How often it can be charged. -/
def LeftP (ps : List Pl) (l : List (Int × Int)) : Int := minP (l.map (leftP ps))
def Used0 (ps : List Pl) : Prop := ∀ (k : Nat) (a : Pl), ps[k]? = some a → U64 a.x.v3 ∧ U64 a.x.v9
theorem Used0.at_ {ps : List Pl} (h : Used0 ps) (i g : Int) : U64 (getX ps i g).v3 ∧ U64 (getX ps i g).v9 := by
  unfold getX
  split
  · exact ⟨⟨by decide, by decide⟩, ⟨by decide, by decide⟩⟩
  · rename_i k a hA
    exact h k a (isAt_some hA).1

section
variable {w0 w : World} {F : Hp} {h p : Nat} {ps : List Pl} {free : List Nat}
set_option maxRecDepth 100000 in
set_option maxHeartbeats 2000000 in
theorem q_left (hS : Sat w0 (domB h p * (tblP p ps free * F)) w) (i g : Int) (hu : Used0 ps) :
    Calls Tryz.prog 225 #[vp h, vr i g] w fun e w' => e = .returned (.tuple #[vu (leftP ps (i, g)), .bool (decide (getE ps i g = 0))]) ∧ Sat w0 (domB h p * (tblP p ps free * F)) w' := by
  have hB : Sat w0 (pc w.heap.size 30 [vi i, vu g] * (domB h p * (tblP p ps free * F))) (w.alloc (.cells #[vi i, vu g] 30)) := hS.alloc _
  have b0 := hB.cell 0 rfl
  have b1 := hB.cell 1 rfl
  have HG := Lib.hid (dm_get (hB.cast (show _ = domB h p * (tblP p ps free * (pc w.heap.size 30 [vi i, vu g] * F)) by ac_rfl)) i g)
  obtain ⟨hu1, hu2⟩ := hu.at_ i g
  have HSub := Lib.hid (fun w => nsubSat (getX ps i g).v3 (getX ps i g).v9 hu1 hu2 w)
  clear hS hB hu1 hu2
  unfold leftP
  dsimp only
  rw [show subS (getX ps i g).v3 (getX ps i g).v9 = subS (getX ps i g).v3 (getX ps i g).v9 from rfl]
  generalize hs : subS (getX ps i g).v3 (getX ps i g).v9 = sv at *
  clear hs
  generalize getX ps i g = x at *
  obtain ⟨v0, v1, v2, v3, v4, v5, v6, v7, v8, v9, v10⟩ := x
  have hd : Hid (((getE ps i g == 0) : Bool) = decide (getE ps i g = 0)) := Lib.hid rfl
  have HD : decide (getE ps i g = 0) = (getE ps i g == 0) := rfl
  rw [HD]
  clear HD hd
  generalize getE ps i g = er at *
  go_enter Tryz.func225, Tryz.ntmps225
  go_wp2_with (first
    | (go_at_call 104; refine HG.out.mono ?_; rintro e w1 ⟨rfl, hS1⟩; have hT : Sat w0 (pc w1.heap.size 188 (elC ⟨v0, v1, v2, v3, v4, v5, v6, v7, v8, v9, v10⟩) * _) (w1.alloc (elO ⟨v0, v1, v2, v3, v4, v5, v6, v7, v8, v9, v10⟩)) := hS1.alloc (elO ⟨v0, v1, v2, v3, v4, v5, v6, v7, v8, v9, v10⟩); have q3 := hT.cell 3 rfl; have q9 := hT.cell 9 rfl; have HT := Lib.hid hT; clear hS1 hT b0 b1)
    | (go_at_call 237; refine (HSub.out _).mono ?_; rintro e w' ⟨rfl, rfl⟩))
  go_ret2
  exact ⟨rfl, (HT.out.dropL.cast (show _ = pc w.heap.size 30 [vi i, vu g] * (domB h p * (tblP p ps free * F)) by ac_rfl)).dropL⟩
set_option maxRecDepth 100000 in
set_option maxHeartbeats 2000000 in
theorem q_left1 {bd : Nat} (hS : Sat w0 (domB h p * (tblP p ps free * (pc bd 81 [vp h] * F))) w) (i g : Int) (hu : Used0 ps) :
    Calls Tryz.prog 224 #[vr i g, vp bd] w fun e w' => e = .returned (.tuple #[vu (leftP ps (i, g)), .bool (decide (getE ps i g = 0))]) ∧ Sat w0 (domB h p * (tblP p ps free * (pc bd 81 [vp h] * F))) w' := by
  have hB : Sat w0 (pc w.heap.size 30 [vi i, vu g] * (domB h p * (tblP p ps free * (pc bd 81 [vp h] * F)))) (w.alloc (.cells #[vi i, vu g] 30)) := hS.alloc _
  have b0 := hB.cell 0 rfl
  have b1 := hB.cell 1 rfl
  have d0 := hB.pull4.cell 0 rfl
  have HL := Lib.hid (q_left (hB.cast (show _ = domB h p * (tblP p ps free * (pc w.heap.size 30 [vi i, vu g] * (pc bd 81 [vp h] * F))) by ac_rfl)) i g hu)
  clear hS hB
  generalize leftP ps (i, g) = lv at *
  generalize decide (getE ps i g = 0) = er at *
  go_enter Tryz.func224, Tryz.ntmps224
  go_wp2_with (go_at_call 225; refine HL.out.mono ?_; rintro e w1 ⟨rfl, hS1⟩; have H1 := Lib.hid hS1; clear hS1)
  go_ret2
  exact ⟨rfl, (H1.out.cast (show _ = pc w.heap.size 30 [vi i, vu g] * (domB h p * (tblP p ps free * (pc bd 81 [vp h] * F))) by ac_rfl)).dropL⟩
end
end Go.Proofs.YtdbppfcilaajaaaGreat.Dm
