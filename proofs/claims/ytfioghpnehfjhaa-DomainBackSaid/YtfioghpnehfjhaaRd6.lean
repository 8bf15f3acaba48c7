/-
  The reference of layer 9: New. No statement is proved here.
-/
import Derived.Test.YtfioghpnehfjhaaRd5
import Derived.Test.YtfioghpnehfjhaaDn6
namespace Go.Proofs.Ytfioghpnehfjhaa.Dm
open Go.RowKit Ad
set_option linter.unusedVariables false

abbrev o1 : One := ⟨1, false, 0, 0, 0, 0, 0, 0, 0⟩
def newOL (n k : Nat) : List One := List.replicate k o1 ++ List.replicate (n - k) oz
theorem newOL_len (n k : Nat) (h : k ≤ n) : (newOL n k).length = n := by simp [newOL]; omega
theorem newOL_at (n k : Nat) (h : k < n) : (newOL n k)[k]? = some oz := by
  rw [newOL, List.getElem?_append_right (by simp), List.length_replicate, Nat.sub_self, List.getElem?_replicate, if_pos (by omega)]
theorem newOL_set (n k : Nat) (h : k < n) : (newOL n k).set k o1 = newOL n (k + 1) := by
  obtain ⟨m, rfl⟩ : ∃ m, n = k + (m + 1) := ⟨n - k - 1, by omega⟩
  rw [newOL, newOL, List.set_append, if_neg (by simp), List.length_replicate, Nat.sub_self, show k + (m + 1) - k = m + 1 by omega, List.replicate_succ, List.set_cons_zero, show k + (m + 1) - (k + 1) = m by omega, List.replicate_succ', List.append_assoc]
  rfl
theorem newOL_n (n : Nat) : newOL n n = List.replicate n o1 := by simp [newOL]
def rootO (n : Nat) (gs cpu per : Int) : List One := (List.replicate n o1).set 0 ⟨1, true, gs, cpu, per, 0, 0, 0, 0⟩
theorem rootO_len (n : Nat) (gs cpu per : Int) : (rootO n gs cpu per).length = n := by simp [rootO]
def newAtO (q g n k : Nat) (F : Hp) : Hp := ex fun v : Value => rdB q g n n v * (sl 112 9 (.slice (some ⟨g, 0, none⟩) n n) n (oflat (newOL n k)) * (sl 3 1 v k (nats (newF n k)) * F))
section
variable {w0 w : World} {F : Hp}
set_option maxRecDepth 100000 in
set_option maxHeartbeats 4000000 in
theorem rd_new (n : Nat) (hn : 1 ≤ n) (hn' : n ≤ 64) (gs cpu per : Int) (hS : Sat w0 F w) :
    Calls Try.prog 30 #[vi n, vi gs, vu cpu, vu per] w fun e w' => ∃ q b fa fcap, e = .returned (vp q) ∧ Sat w0 (rdB q b n n (.slice (some ⟨fa, 0, none⟩) (n - 1) fcap) * (sl 112 9 (.slice (some ⟨b, 0, none⟩) n n) n (oflat (rootO n gs cpu per)) * (sl 3 1 (.slice (some ⟨fa, 0, none⟩) (n - 1) fcap) (n - 1) (nats (newF n (n - 1))) * F))) w' := by
  have hlast : newF n n = newF n (n - 1) ++ [0] := newF_last n hn
  have HLast := Lib.hid hlast
  obtain ⟨m, hm⟩ : ∃ m, m = n - 1 := ⟨_, rfl⟩
  have hw1 : IntKind.i64.wrap ((n : Int) - 1) = (m : Int) := by rw [IntWalk.i64_in _ (by omega)]; omega
  have Hm := Lib.hid hm
  have hm4 : m ≤ 64 := by omega
  clear hm hlast
  have H := Lib.hid hS
  clear hS
  go_enter Try.func30, Try.ntmps30
  go_wp2_with (at_make; refine wpList_make_sl Eone rfl _ _ rfl .i64 .i64 n n n n rfl rfl rfl rfl (by omega) (by omega) (by omega) H.out ?_; intro g w1 hM; have HM := Lib.hid hM; clear hM)
  have hB : Sat w0 (newAtO w1.heap.size g n 0 F) (w1.alloc (.cells #[.slice (some ⟨g, 0, none⟩) n n, .slice none 0 0] 110)) := by
    have h5 := HM.out
    rw [flat_made One.len (by omega) (.agg #[vu 0, .bool false, vi 0, vu 0, vu 0, vi 0, vu 0, vi 0, vu 0]) oz rfl n] at h5
    have h6 := (h5.slI (n := n) (cap := n) (size := 9) (Nat.le_refl _) (by unfold maxLen; omega) (by rw [flat_len One.len]; simp) (List.take_of_length_le (by rw [flat_len One.len]; simp))).alloc (.cells #[.slice (some ⟨g, 0, none⟩) n n, .slice none 0 0] 110)
    have h7 := h6.addNil 3 1
    have h8 := (Sat.exI (f := fun v : Value => rdB w1.heap.size g n n v * (sl 112 9 (.slice (some ⟨g, 0, none⟩) n n) n (oflat (newOL n 0)) * (sl 3 1 v 0 (nats (newF n 0)) * F))) (F := emp) (.slice none 0 0) (h7.cast (by rw [sep_emp]; simp only [newOL, newF, List.range_zero, List.map_nil, List.replicate_zero, List.nil_append, Nat.sub_zero, nats]; simp only [rdB, pc]; ac_rfl)))
    exact h8.cast (sep_emp _)
  generalize w1.alloc (.cells #[.slice (some ⟨g, 0, none⟩) n n, .slice none 0 0] 110) = w2 at *
  generalize w1.heap.size = q at *
  have HB := Lib.hid hB
  clear hB HM
  go_wp2
  go_loopw [10] (fun i wr => ∃ k : Nat, k ≤ n ∧ i = vi k ∧ Sat w0 (newAtO q g n k F) wr) (fun i _ => n - (intOf i).toNat)
  case atStart => exact ⟨0, Nat.zero_le _, rfl, HB.out⟩
  case round =>
    obtain ⟨k, hk, rfl, hS⟩ := hrel
    obtain ⟨v, hS⟩ := (hS.cast (sep_emp _).symm).exE
    have hS := hS.cast (sep_emp _)
    by_cases hlt : k < n
    · obtain ⟨fo, fcap, rfl⟩ := hS.pull3.rd.len
      have c0 := hS.cell 0 rfl
      have c1 := hS.cell 1 rfl
      have f1 := hS.free 1
      have lf := hS.pull2.slFree (k * 9 + 0)
      have e0 := hS.pull2.slCell (k * 9 + 0) (flat_get One.len (newOL_at n k hlt) rfl)
      rw [Nat.add_zero] at lf e0
      have hqg : q ≠ g := hS.slNe
      have a1 := hS.pull2.slStore (k * 9 + 0) (by omega) (vu 1)
      rw [flat_set One.len _ k 0 _ o1 (vu 1) (newOL_at n k hlt) (by omega) rfl, newOL_set n k hlt, Nat.add_zero] at a1
      have A1 := Lib.hid a1
      have d0 := a1.pull2.cell 0 rfl
      have d1 := a1.pull2.cell 1 rfl
      obtain ⟨j, hj⟩ : ∃ j, j = n - 1 - k := ⟨_, rfl⟩
      have hmk : (m : Int) - (k : Int) = (j : Int) := by have := Hm.out; omega
      have Hmk := Lib.hid hmk
      have hw2 : IntKind.i64.wrap ((m : Int) - (k : Int)) = (m : Int) - (k : Int) := IntWalk.i64_in _ (by omega)
      clear hmk
      have hkn : (k : Int) < (n : Int) := by omega
      have Hj := Lib.hid hj
      clear hS a1 hj
      go_wp2_with (at_builtin; refine wpList_append_sl Eint rfl (.tmp 31) (.tmp 36) rfl rfl (A1.out.pull3.alloc' _) (by rfl) (Ad.Rd.one' _ _ (.int .i64 ((m : Int) - (k : Int))) (b := wr.heap.size) (by simp)) (by simp [Value.oneCell']) (by unfold maxLen; omega) (by omega) ?_; intro ao2 cap2 w3 hS2; rw [Hmk.out] at hS2; have hP := hS2.pull3; have z0 := hP.cell 0 rfl; have z1 := hP.cell 1 rfl; have g1 := hP.free 1; have H3 := Lib.hid hP; clear hS2 hP)
      go_roundw
      case rel =>
        refine ⟨k + 1, by omega, by go_num, ?_⟩
        refine (Sat.exI (F := emp) (.slice ao2 (k + 1) cap2) ((H3.out.store 1 (.slice ao2 (k + 1) cap2)).cast ?_)).cast (sep_emp _)
        rw [sep_emp, newF_succ]
        simp only [List.set_cons_succ, List.set_cons_zero, nats, List.map_append, List.map_cons, List.map_nil, ← Hj.out]
        ac_rfl
      case measure => simp [intOf]; omega
    · obtain rfl : k = n := by omega
      obtain ⟨fa, fcap, rfl⟩ : ∃ fa fcap, v = .slice (some ⟨fa, 0, none⟩) k fcap := by
        rcases hS.pull3.slE.2 with ⟨_, h0, _⟩ | ⟨g', c', cur, hv, _⟩
        · omega
        · exact ⟨g', c', hv⟩
      have hlen := newOL_len k k (Nat.le_refl _)
      have hS' : Sat w0 (rdB q g (newOL k k).length k (.slice (some ⟨fa, 0, none⟩) k fcap) * (rdL g k (newOL k k) * (sl 3 1 (.slice (some ⟨fa, 0, none⟩) k fcap) k (nats (newF k (k - 1) ++ [0])) * F))) wr := hS.cast (by unfold rdL; rw [hlen, ← HLast.out])
      have hp := rd_put k 0 o1 (by rw [newF_len]; omega) hS' (by rw [newOL_n, List.getElem?_replicate, if_pos (by omega)]) (by rw [hlen]; omega) (by omega) ⟨0, false, gs, cpu, per, 0, 0, 0, 0⟩
      rw [newF_len] at hp
      have HP := Lib.hid hp
      have HLn := Lib.hid hlen
      clear hS hS' hp hlen
      go_wp2_with (go_at_call 61; refine HP.out.mono ?_; rintro e w5 ⟨rfl, hS5⟩; have H5 := Lib.hid hS5; clear hS5)
      go_ret
      refine ⟨q, g, fa, fcap, rfl, H5.out.cast ?_⟩
      unfold rdL rootO
      rw [List.length_set, HLn.out, newOL_n]
end
end Go.Proofs.Ytfioghpnehfjhaa.Dm
