/-
  The reference of layer 9: put, New. No statement is proved here.
-/
import Derived.Test.YtdbppfcilaajaaaGreatRd4
import Derived.Test.YtdbppfcilaajaaaGreatMg9
import Derived.Test.YtdbppfcilaajaaaGreatMg21
import Derived.Test.YtdbppfcilaajaaaGreatMg18
namespace Go.Proofs.YtdbppfcilaajaaaGreat.Dm
open Go.RowKit Ad
set_option linter.unusedVariables false
set_option linter.unusedSimpArgs false

theorem slKeep {w0 w : World} {F : Hp} {e : TypeId} {size n g cap : Nat} {xs : List Value} (h : Sat w0 (sl e size (.slice (some ⟨g, 0, none⟩) n cap) n xs * F) w) (k : Nat) (hk : k ≤ n) : Sat w0 (sl e size (.slice (some ⟨g, 0, none⟩) k cap) k (xs.take (k * size)) * F) w := by
  obtain ⟨cur, h1, h2, h3, h4, hS⟩ := h.slP
  refine hS.slI (by omega) h2 h3 ?_
  rw [← h4, List.take_take, Nat.min_eq_left (Nat.mul_le_mul_right _ hk)]
theorem storeO {T : TypeId} {g n cap k : Nat} {rs : List One} {a : One} {F : Hp} {w0 w : World} (h : Sat w0 (sl T 9 (.slice (some ⟨g, 0, none⟩) n cap) n (oflat rs) * F) w) (hk : rs[k]? = some a) (hn : rs.length = n) (x : One) :
    Sat w0 (sl T 9 (.slice (some ⟨g, 0, none⟩) n cap) n (oflat (rs.set k x)) * F) (w.setCells g (k * 9) x.cells) := by
  have hlt : k < n := by rw [← hn]; exact (List.getElem?_eq_some_iff.1 hk).1
  have hself : ∀ a' : One, (rs.set k a')[k]? = some a' := fun a' => by simp [(List.getElem?_eq_some_iff.1 hk).1]
  have h0 := h.slStore (k * 9 + 0) (by omega) (vu x.gen)
  rw [flat_set One.len rs k 0 a ({ a with gen := x.gen } : One) _ hk (by omega) rfl] at h0
  have h1 := h0.slStore (k * 9 + 1) (by omega) (.bool x.is)
  rw [flat_set One.len _ k 1 ({ a with gen := x.gen } : One) ({ a with gen := x.gen, is := x.is } : One) _ (hself _) (by omega) rfl, List.set_set] at h1
  have h2 := h1.slStore (k * 9 + 2) (by omega) (vi x.gs)
  rw [flat_set One.len _ k 2 ({ a with gen := x.gen, is := x.is } : One) ({ a with gen := x.gen, is := x.is, gs := x.gs } : One) _ (hself _) (by omega) rfl, List.set_set] at h2
  have h3 := h2.slStore (k * 9 + 3) (by omega) (vu x.cpu)
  rw [flat_set One.len _ k 3 ({ a with gen := x.gen, is := x.is, gs := x.gs } : One) ({ a with gen := x.gen, is := x.is, gs := x.gs, cpu := x.cpu } : One) _ (hself _) (by omega) rfl, List.set_set] at h3
  have h4 := h3.slStore (k * 9 + 4) (by omega) (vu x.per)
  rw [flat_set One.len _ k 4 ({ a with gen := x.gen, is := x.is, gs := x.gs, cpu := x.cpu } : One) ({ a with gen := x.gen, is := x.is, gs := x.gs, cpu := x.cpu, per := x.per } : One) _ (hself _) (by omega) rfl, List.set_set] at h4
  have h5 := h4.slStore (k * 9 + 5) (by omega) (vi x.pi)
  rw [flat_set One.len _ k 5 ({ a with gen := x.gen, is := x.is, gs := x.gs, cpu := x.cpu, per := x.per } : One) ({ a with gen := x.gen, is := x.is, gs := x.gs, cpu := x.cpu, per := x.per, pi := x.pi } : One) _ (hself _) (by omega) rfl, List.set_set] at h5
  have h6 := h5.slStore (k * 9 + 6) (by omega) (vu x.pg)
  rw [flat_set One.len _ k 6 ({ a with gen := x.gen, is := x.is, gs := x.gs, cpu := x.cpu, per := x.per, pi := x.pi } : One) ({ a with gen := x.gen, is := x.is, gs := x.gs, cpu := x.cpu, per := x.per, pi := x.pi, pg := x.pg } : One) _ (hself _) (by omega) rfl, List.set_set] at h6
  have h7 := h6.slStore (k * 9 + 7) (by omega) (vi x.own)
  rw [flat_set One.len _ k 7 ({ a with gen := x.gen, is := x.is, gs := x.gs, cpu := x.cpu, per := x.per, pi := x.pi, pg := x.pg } : One) ({ a with gen := x.gen, is := x.is, gs := x.gs, cpu := x.cpu, per := x.per, pi := x.pi, pg := x.pg, own := x.own } : One) _ (hself _) (by omega) rfl, List.set_set] at h7
  have h8 := h7.slStore (k * 9 + 8) (by omega) (vu x.used)
  rw [flat_set One.len _ k 8 ({ a with gen := x.gen, is := x.is, gs := x.gs, cpu := x.cpu, per := x.per, pi := x.pi, pg := x.pg, own := x.own } : One) x _ (hself _) (by omega) rfl, List.set_set] at h8
  exact h8
theorem oneinfo : (Tryz.prog.info? 231).map (·.size) = some 9 := by kernel_rfl
theorem slThereO {T : TypeId} {g n cap k : Nat} {rs : List One} {a : One} {F : Hp} {w0 w : World} (h : Sat w0 (sl T 9 (.slice (some ⟨g, 0, none⟩) n cap) n (oflat rs) * F) w) (hk : rs[k]? = some a) (hn : rs.length = n) : w.there g (k * 9) 9 := fun j hj => by
  have e := h.slCell (k * 9 + j) (flat_get (j := j) One.len hk (List.getElem?_eq_getElem (by rw [One.len]; exact hj)))
  rw [e]
  exact ⟨rfl, h.slFree (k * 9 + j)⟩
section
variable {w0 w : World} {F : Hp} {q b cap : Nat} {rs : List One} {fr : List Nat} {fa fcap : Nat}
set_option maxRecDepth 100000 in
set_option maxHeartbeats 4000000 in
theorem rd_put (m : Nat) (k : Nat) (a : One) (hm : m = fr.length + 1) (hS : Sat w0 (rdB q b rs.length cap (.slice (some ⟨fa, 0, none⟩) m fcap) * (rdL b cap rs * (sl 3 1 (.slice (some ⟨fa, 0, none⟩) m fcap) m (nats (fr ++ [k])) * F))) w) (hk : rs[k]? = some a) (hl : rs.length ≤ 1000) (hml : m ≤ 1000) (x : One) :
    Calls Tryz.prog 121 #[vp q, .agg #[vu x.gen, .bool x.is, vi x.gs, vu x.cpu, vu x.per, vi x.pi, vu x.pg, vi x.own, vu x.used]] w fun e w' => e = .returned (vr k a.gen) ∧
      Sat w0 (rdB q b rs.length cap (.slice (some ⟨fa, 0, none⟩) fr.length fcap) * (rdL b cap (rs.set k { x with gen := a.gen, is := true }) * (sl 3 1 (.slice (some ⟨fa, 0, none⟩) fr.length fcap) fr.length (nats fr) * F))) w' := by
  obtain ⟨xg, xi, gs, cpu, per, pi, pg, own, used⟩ := x
  dsimp only
  have hB0 := (hS.alloc (.cells #[vu xg, .bool xi, vi gs, vu cpu, vu per, vi pi, vu pg, vi own, vu used] 231)).alloc (.cells #[vi 0, vu 0] 30)
  rw [size1] at hB0
  have hB : Sat w0 (pc (w.heap.size + 1) 30 [vi 0, vu 0] * (pc w.heap.size 231 [vu xg, .bool xi, vi gs, vu cpu, vu per, vi pi, vu pg, vi own, vu used] * (rdB q b rs.length cap (.slice (some ⟨fa, 0, none⟩) m fcap) * (rdL b cap rs * (sl 3 1 (.slice (some ⟨fa, 0, none⟩) m fcap) m (nats (fr ++ [k])) * F))))) ((w.alloc (.cells #[vu xg, .bool xi, vi gs, vu cpu, vu per, vi pi, vu pg, vi own, vu used] 231)).alloc (.cells #[vi 0, vu 0] 30)) := hB0
  clear hS hB0
  have hk2 : k < rs.length := (List.getElem?_eq_some_iff.1 hk).1
  have hki : (k : Int) < (rs.length : Int) := by omega
  obtain ⟨n, hn⟩ : ∃ n, n = fr.length := ⟨_, rfl⟩
  have hmn : m = n + 1 := by omega
  rw [← hn]
  have hw : IntKind.i64.wrap ((m : Int) - 1) = (n : Int) := by rw [IntWalk.i64_in _ (by omega)]; omega
  have hnm : (n : Int) < (m : Int) := by omega
  have hcap := hB.dropL.dropL.dropL.dropL.slCap
  have hnc : (n : Int) ≤ (fcap : Int) := by omega
  have q1 := hB.pull3.cell 1 rfl
  have g1 := hB.pull3.free 1
  have ck := hB.dropL.dropL.dropL.dropL.slCell n (u := vi k) (by rw [List.getElem?_map, hn]; simp)
  have h2 := hB.pull3.store 1 (.slice (some ⟨fa, 0, none⟩) n fcap)
  have q0 := h2.cell 0 rfl
  have e0 := h2.dropL.dropL.dropL.slCell _ (flat_get (j := 0) One.len hk rfl)
  rw [Nat.add_zero] at e0
  have x0 := h2.dropL.dropL.cell 0 rfl
  have y0 := h2.dropL.dropL.free 0
  have h3 := h2.pull3.store 0 (vu a.gen)
  have x1 := h3.cell 1 rfl
  have y1 := h3.free 1
  have h4 := h3.store 1 (.bool true)
  have hz : Sat w0 (pc w.heap.size 231 [vu a.gen, .bool true, vi gs, vu cpu, vu per, vi pi, vu pg, vi own, vu used] * (rdB q b rs.length cap (.slice (some ⟨fa, 0, none⟩) n fcap) * (pc (w.heap.size + 1) 30 [vi 0, vu 0] * (rdL b cap rs * (sl 3 1 (.slice (some ⟨fa, 0, none⟩) m fcap) m (nats (fr ++ [k])) * F))))) _ := h4
  have HZ := Lib.hid hz
  have HK := Lib.hid hk
  have Hn := Lib.hid hn
  have Hm := Lib.hid hm
  clear hB h2 h3 h4 hz hk hn hcap hm
  generalize a.gen = ag at *
  go_enter Tryz.func121, Tryz.ntmps121
  go_wp2
  generalize (((((w.alloc (.cells #[vu xg, .bool xi, vi gs, vu cpu, vu per, vi pi, vu pg, vi own, vu used] 231)).alloc (.cells #[vi 0, vu 0] 30)).setCell ⟨q, 1, none⟩ (.slice (some ⟨fa, 0, none⟩) n fcap)).setCell ⟨w.heap.size, 0, none⟩ (vu ag)).setCell ⟨w.heap.size, 1, none⟩ (.bool true)) = W1 at *
  generalize w.heap.size = b0 at *
  have q0 := HZ.out.drew.pull2.cell 0 rfl
  clear q1 g1 ck e0 x0 y0 x1 y1
  have q0 := HZ.out.pull2.cell 0 rfl
  have HTh := Lib.hid (slThereO HZ.out.drew.pull4 HK.out rfl)
  have hst := storeO HZ.out.drew.pull4 HK.out rfl ⟨ag, true, gs, cpu, per, pi, pg, own, used⟩
  have HST : Hid (Sat w0 _ (W1.drew.setCells b (k * 9) ([vu ag, .bool true, vi gs, vu cpu, vu per, vi pi, vu pg, vi own, vu used] : List Value).toArray.toList)) := Lib.hid hst
  clear hst
  refine wp_quiet_tail 6 (by kernel_rfl) (by kernel_rfl) ?_
  simp only [List.take_succ_cons, List.take_zero, List.drop_succ_cons, List.drop_zero]
  iterate 5 (go_big_quiet_step (fail))
  refine wpQuiet_load_row (by rfl) 231 _ rfl b0 0 (by rfl) [vu ag, .bool true, vi gs, vu cpu, vu per, vi pi, vu pg, vi own, vu used] _ (fun w' hw' => by subst hw'; exact range_ HZ.out.drew) Tryz.underlying231 rfl oneinfo ?_
  refine wpQuiet_nil ?_
  go_wp2_with (refine wpList_store_mid rfl 231 _ _ rfl b (k * 9) ([vu ag, .bool true, vi gs, vu cpu, vu per, vi pi, vu pg, vi own, vu used] : List Value).toArray (by rfl) (by rfl) HTh.out oneinfo (all_oneCell_toArray (One.one ⟨ag, true, gs, cpu, per, pi, pg, own, used⟩)) ?_; generalize World.setCells _ _ _ _ = W2 at *; have hS2 : Sat w0 (pc b0 231 [vu ag, .bool true, vi gs, vu cpu, vu per, vi pi, vu pg, vi own, vu used] * (pc (b0 + 1) 30 [vi 0, vu 0] * (rdB q b rs.length cap (.slice (some ⟨fa, 0, none⟩) n fcap) * (rdL b cap (rs.set k ⟨ag, true, gs, cpu, per, pi, pg, own, used⟩) * (sl 3 1 (.slice (some ⟨fa, 0, none⟩) m fcap) m (nats (fr ++ [k])) * F))))) W2 := HST.out.cast (by unfold rdL; rw [List.length_set]; ac_rfl); have z0 := hS2.cell 0 rfl; have r0 := hS2.pull2.cell 0 rfl; have r1 := hS2.pull2.cell 1 rfl; have rf0 := hS2.pull2.free 0; have rf1 := hS2.pull2.free 1; have hS3 := (hS2.pull2.store 0 (vi k)).store 1 (vu ag); have u0 := hS3.cell 0 rfl; have u1 := hS3.cell 1 rfl; have H3 := Lib.hid hS3; clear hS2 hS3)
  (try simp only [Exit.inBlock, Exit.then])
  refine bodyPost_ret (v := vr k ag) (by simp [results, Tryz.f121, go_sem, u0, u1]) rfl ?_
  refine ⟨rfl, ?_⟩
  have h9 := slKeep H3.out.dropL.dropL.pull3 n (by omega)
  have hx : (nats (fr ++ [k])).take (n * 1) = nats fr := by
    unfold nats
    rw [Nat.mul_one, List.map_append, Hn.out, List.take_left' (by simp)]
  rw [hx] at h9
  exact h9.cast (by ac_rfl)
end
end Go.Proofs.YtdbppfcilaajaaaGreat.Dm

namespace Go.Proofs.YtdbppfcilaajaaaGreat.Dm
open Go.RowKit Ad
set_option linter.unusedVariables false

abbrev o1 : One := ⟨1, false, 0, 0, 0, 0, 0, 0, 0⟩
def newOL (n k : Nat) : List One := List.replicate k o1 ++ List.replicate (n - k) oz
theorem newOL_len (n k : Nat) (h : k ≤ n) : (newOL n k).length = n := by simp [newOL]; omega
theorem newOL_at (n k : Nat) (h : k < n) : (newOL n k)[k]? = some oz := by
  rw [newOL, List.getElem?_append_right (by simp), List.length_replicate, Nat.sub_self, List.getElem?_replicate, if_pos (by omega)]
theorem newOL_set (n k : Nat) (h : k < n) : (newOL n k).set k o1 = newOL n (k + 1) := by
  obtain ⟨m, rfl⟩ : ∃ m, n = k + (m + 1) := ⟨n - k - 1, by omega⟩
  rw [newOL, newOL, List.set_append, if_neg (by simp), List.length_replicate, Nat.sub_self, show k + (m + 1) - k = m + 1 by omega, List.replicate_succ, List.set_cons_zero, show k + (m + 1) - (k + 1) = m by omega, List.replicate_succ', List.append_assoc]
  rfl
theorem newOL_n (n : Nat) : newOL n n = List.replicate n o1 := by simp [newOL]
def rootO (n : Nat) (gs cpu per : Int) : List One := (List.replicate n o1).set 0 ⟨1, true, gs, cpu, per, 0, 0, 0, 0⟩
def newAtO (q g n k : Nat) (F : Hp) : Hp := ex fun v : Value => rdB q g n n v * (sl 231 9 (.slice (some ⟨g, 0, none⟩) n n) n (oflat (newOL n k)) * (sl 3 1 v k (nats (newF n k)) * F))
section
variable {w0 w : World} {F : Hp}
set_option maxRecDepth 100000 in
set_option maxHeartbeats 4000000 in
theorem rd_new (n : Nat) (hn : 1 ≤ n) (hn' : n ≤ 64) (gs cpu per : Int) (hS : Sat w0 F w) :
    Calls Tryz.prog 55 #[vi n, vi gs, vu cpu, vu per] w fun e w' => ∃ q b fa fcap, e = .returned (vp q) ∧ Sat w0 (rdB q b n n (.slice (some ⟨fa, 0, none⟩) (n - 1) fcap) * (sl 231 9 (.slice (some ⟨b, 0, none⟩) n n) n (oflat (rootO n gs cpu per)) * (sl 3 1 (.slice (some ⟨fa, 0, none⟩) (n - 1) fcap) (n - 1) (nats (newF n (n - 1))) * F))) w' := by
  have hlast : newF n n = newF n (n - 1) ++ [0] := newF_last n hn
  have HLast := Lib.hid hlast
  obtain ⟨m, hm⟩ : ∃ m, m = n - 1 := ⟨_, rfl⟩
  have hw1 : IntKind.i64.wrap ((n : Int) - 1) = (m : Int) := by rw [IntWalk.i64_in _ (by omega)]; omega
  have Hm := Lib.hid hm
  have hm4 : m ≤ 64 := by omega
  clear hm hlast
  have H := Lib.hid hS
  clear hS
  go_enter Tryz.func55, Tryz.ntmps55
  go_wp2_with (at_make; refine wpList_make_sl Eone rfl _ _ rfl .i64 .i64 n n n n rfl rfl rfl rfl (by omega) (by omega) (by omega) H.out ?_; intro g w1 hM; have HM := Lib.hid hM; clear hM)
  have hB : Sat w0 (newAtO w1.heap.size g n 0 F) (w1.alloc (.cells #[.slice (some ⟨g, 0, none⟩) n n, .slice none 0 0] 229)) := by
    have h5 := HM.out
    rw [flat_made One.len (by omega) (.agg #[vu 0, .bool false, vi 0, vu 0, vu 0, vi 0, vu 0, vi 0, vu 0]) oz rfl n] at h5
    have h6 := (h5.slI (n := n) (cap := n) (size := 9) (Nat.le_refl _) (by unfold maxLen; omega) (by rw [flat_len One.len]; simp) (List.take_of_length_le (by rw [flat_len One.len]; simp))).alloc (.cells #[.slice (some ⟨g, 0, none⟩) n n, .slice none 0 0] 229)
    have h7 := h6.addNil 3 1
    have h8 := (Sat.exI (f := fun v : Value => rdB w1.heap.size g n n v * (sl 231 9 (.slice (some ⟨g, 0, none⟩) n n) n (oflat (newOL n 0)) * (sl 3 1 v 0 (nats (newF n 0)) * F))) (F := emp) (.slice none 0 0) (h7.cast (by rw [sep_emp]; simp only [newOL, newF, List.range_zero, List.map_nil, List.replicate_zero, List.nil_append, Nat.sub_zero, nats]; simp only [rdB, pc]; ac_rfl)))
    exact h8.cast (sep_emp _)
  generalize w1.alloc (.cells #[.slice (some ⟨g, 0, none⟩) n n, .slice none 0 0] 229) = w2 at *
  generalize w1.heap.size = q at *
  have HB := Lib.hid hB
  clear hB HM
  go_wp2
  go_loopw [10] (fun i wr => ∃ k : Nat, k ≤ n ∧ i = vi k ∧ Sat w0 (newAtO q g n k F) wr) (fun i _ => n - (intOf i).toNat)
  case atStart => exact ⟨0, Nat.zero_le _, rfl, HB.out⟩
  case round =>
    obtain ⟨k, hk, rfl, hS⟩ := hrel
    obtain ⟨v, hS⟩ := (hS.cast (sep_emp _).symm).exE
    have hS := hS.cast (sep_emp _)
    by_cases hlt : k < n
    · obtain ⟨fo, fcap, rfl⟩ := hS.pull3.rd.len
      have c0 := hS.cell 0 rfl
      have c1 := hS.cell 1 rfl
      have f1 := hS.free 1
      have lf := hS.pull2.slFree (k * 9 + 0)
      have e0 := hS.pull2.slCell (k * 9 + 0) (flat_get One.len (newOL_at n k hlt) rfl)
      rw [Nat.add_zero] at lf e0
      have hqg : q ≠ g := hS.slNe
      have a1 := hS.pull2.slStore (k * 9 + 0) (by omega) (vu 1)
      rw [flat_set One.len _ k 0 _ o1 (vu 1) (newOL_at n k hlt) (by omega) rfl, newOL_set n k hlt, Nat.add_zero] at a1
      have A1 := Lib.hid a1
      have d0 := a1.pull2.cell 0 rfl
      have d1 := a1.pull2.cell 1 rfl
      obtain ⟨j, hj⟩ : ∃ j, j = n - 1 - k := ⟨_, rfl⟩
      have hmk : (m : Int) - (k : Int) = (j : Int) := by have := Hm.out; omega
      have Hmk := Lib.hid hmk
      have hw2 : IntKind.i64.wrap ((m : Int) - (k : Int)) = (m : Int) - (k : Int) := IntWalk.i64_in _ (by omega)
      clear hmk
      have hkn : (k : Int) < (n : Int) := by omega
      have Hj := Lib.hid hj
      clear hS a1 hj
      go_wp2_with (at_builtin; refine wpList_append_sl Eint rfl (.tmp 31) (.tmp 36) rfl rfl (A1.out.pull3.alloc' _) (by rfl) (Ad.Rd.one' _ _ (.int .i64 ((m : Int) - (k : Int))) (b := wr.heap.size) (by simp)) (by simp [Value.oneCell']) (by unfold maxLen; omega) (by omega) ?_; intro ao2 cap2 w3 hS2; rw [Hmk.out] at hS2; have hP := hS2.pull3; have z0 := hP.cell 0 rfl; have z1 := hP.cell 1 rfl; have g1 := hP.free 1; have H3 := Lib.hid hP; clear hS2 hP)
      go_roundw
      case rel =>
        refine ⟨k + 1, by omega, by go_num, ?_⟩
        refine (Sat.exI (F := emp) (.slice ao2 (k + 1) cap2) ((H3.out.store 1 (.slice ao2 (k + 1) cap2)).cast ?_)).cast (sep_emp _)
        rw [sep_emp, newF_succ]
        simp only [List.set_cons_succ, List.set_cons_zero, nats, List.map_append, List.map_cons, List.map_nil, ← Hj.out]
        ac_rfl
      case measure => simp [intOf]; omega
    · obtain rfl : k = n := by omega
      obtain ⟨fa, fcap, rfl⟩ : ∃ fa fcap, v = .slice (some ⟨fa, 0, none⟩) k fcap := by
        rcases hS.pull3.slE.2 with ⟨_, h0, _⟩ | ⟨g', c', cur, hv, _⟩
        · omega
        · exact ⟨g', c', hv⟩
      have hlen := newOL_len k k (Nat.le_refl _)
      have hS' : Sat w0 (rdB q g (newOL k k).length k (.slice (some ⟨fa, 0, none⟩) k fcap) * (rdL g k (newOL k k) * (sl 3 1 (.slice (some ⟨fa, 0, none⟩) k fcap) k (nats (newF k (k - 1) ++ [0])) * F))) wr := hS.cast (by unfold rdL; rw [hlen, ← HLast.out])
      have hp := rd_put k 0 o1 (by rw [newF_len]; omega) hS' (by rw [newOL_n, List.getElem?_replicate, if_pos (by omega)]) (by rw [hlen]; omega) (by omega) ⟨0, false, gs, cpu, per, 0, 0, 0, 0⟩
      rw [newF_len] at hp
      have HP := Lib.hid hp
      have HLn := Lib.hid hlen
      clear hS hS' hp hlen
      go_wp2_with (go_at_call 121; refine HP.out.mono ?_; rintro e w5 ⟨rfl, hS5⟩; have H5 := Lib.hid hS5; clear hS5)
      go_ret
      refine ⟨q, g, fa, fcap, rfl, H5.out.cast ?_⟩
      unfold rdL rootO
      rw [List.length_set, HLn.out, newOL_n]
end
end Go.Proofs.YtdbppfcilaajaaaGreat.Dm

namespace Go.Proofs.YtdbppfcilaajaaaGreat.Dm
open Go.RowKit Ad
set_option linter.unusedVariables false
set_option linter.unusedSimpArgs false

/-- The reference's domain at a ref. -/
def getRR (rs : List One) (cl : Nat → List (Int × Int)) (k : Nat) (a : One) : El := getRX rs cl ((k : Int), a.gen) a (childL rs k a.gen rs.length) rs.length
def FitsR (x : El) (gs cpu : Int) : Prop := gs + x.v5 + x.v7 ≤ x.v2 ∧ cpu + x.v6 ≤ x.v3
instance (x : El) (gs cpu : Int) : Decidable (FitsR x gs cpu) := inferInstanceAs (Decidable (_ ∧ _))
theorem getRR_bd {rs : List One} (h : OneOk rs) (cl : Nat → List (Int × Int)) {k : Nat} {a : One} (ha : rs[k]? = some a) :
    0 ≤ (getRR rs cl k a).v5 ∧ (getRR rs cl k a).v5 ≤ 64000 ∧ 0 ≤ (getRR rs cl k a).v6 ∧ (getRR rs cl k a).v6 ≤ 4294967296000 ∧ 0 ≤ (getRR rs cl k a).v7 ∧ (getRR rs cl k a).v7 ≤ 64 ∧ 0 ≤ (getRR rs cl k a).v2 ∧ (getRR rs cl k a).v2 ≤ 64 ∧ 0 ≤ (getRR rs cl k a).v3 ∧ (getRR rs cl k a).v3 ≤ 4294967296 := by
  have h5 := sumO_bd One.gs 64 (by omega) (fun k a ha => ⟨(h.2 k a ha).1, (h.2 k a ha).2.1⟩) (childL rs k a.gen rs.length)
  have h6 := sumO_bd One.cpu 4294967296 (by omega) (fun k a ha => ⟨(h.2 k a ha).2.2.1, (h.2 k a ha).2.2.2.1⟩) (childL rs k a.gen rs.length)
  have hl := childL_len rs k a.gen rs.length
  have hl2 := h.1
  have ha2 := h.2 k a ha
  simp only [getRR, getRX]
  omega
section
variable {w0 w : World} {F : Hp} {q b cap : Nat} {rs : List One} {fr : List Nat} {vF : Value}
end
end Go.Proofs.YtdbppfcilaajaaaGreat.Dm

namespace Go.Proofs.YtdbppfcilaajaaaGreat.Dm
open Go.RowKit Ad
set_option linter.unusedVariables false
set_option linter.unusedSimpArgs false

section
variable {w0 w : World} {F : Hp} {q b cap : Nat} {rs : List One} {fr : List Nat} {vF : Value}
set_option maxRecDepth 100000 in
set_option maxHeartbeats 4000000 in
theorem rjoin_ok (hS : Sat w0 (rdB q b rs.length cap vF * (rdL b cap rs * F)) w) (k : Nat) (a : One) (ha : rs[k]? = some a) (his : a.is = true) (cl : Nat → List (Int × Int)) (hcl : Chains rs cl) (hok : OneOk rs) (hb : 0 ≤ a.own ∧ a.own ≤ 64) (hq : (getRR rs cl k a).v7 + (getRR rs cl k a).v5 < (getRR rs cl k a).v2) :
    Calls Tryz.prog 59 #[vp q, vr k a.gen] w fun e w' => e = .returned (vi 0) ∧ Sat w0 (rdB q b rs.length cap vF * (rdL b cap (rs.set k { a with own := a.own + 1 }) * F)) w' := by
  have hk : k < rs.length := (List.getElem?_eq_some_iff.1 ha).1
  have hki : (k : Int) < (rs.length : Int) := by omega
  have HA := Lib.hid ha
  have hB : Sat w0 (pc w.heap.size 30 [vi k, vu a.gen] * (rdB q b rs.length cap vF * (rdL b cap rs * F))) (w.alloc (.cells #[vi k, vu a.gen] 30)) := hS.alloc _
  have i0 := hB.cell 0 rfl
  have i1 := hB.cell 1 rfl
  have HB := Lib.hid hB
  have HI := Lib.hid (rd_is (hB.cast (show _ = rdB q b rs.length cap vF * (rdL b cap rs * (pc w.heap.size 30 [vi k, vu a.gen] * F)) by ac_rfl)) k a.gen)
  have hi : isR rs k a.gen = true := by
    unfold isR
    rw [if_neg (by omega), Int.toNat_natCast, ha]
    simp [his]
  rw [hi] at HI
  have hbd := getRR_bd hok cl ha
  have HG : Hid (∀ (w1 : World), Sat w0 (rdB q b rs.length cap vF * (rdL b cap rs * (pc w.heap.size 30 [vi k, vu a.gen] * F))) w1 → Calls Tryz.prog 125 #[vp q, vr k a.gen] w1 fun e w' => e = .returned (ev (getRR rs cl k a)) ∧ Sat w0 (rdB q b rs.length cap vF * (rdL b cap rs * (pc w.heap.size 30 [vi k, vu a.gen] * F))) w') := Lib.hid fun w1 h1 => rd_get h1 k a.gen a ha cl hcl hok
  have hwo : IntKind.i64.wrap (a.own + 1) = a.own + 1 := IntWalk.i64_in _ (by omega)
  have HFin : Hid (∀ W, Sat w0 (sl 231 9 (.slice (some ⟨b, 0, none⟩) rs.length cap) rs.length (oflat (rs.set k { a with own := a.own + 1 })) * (pc w.heap.size 30 [vi k, vu a.gen] * (rdB q b rs.length cap vF * F))) W → Sat w0 (rdB q b rs.length cap vF * (rdL b cap (rs.set k { a with own := a.own + 1 }) * F)) W) := Lib.hid fun W h => (h.cast (show _ = (pc w.heap.size 30 [vi k, vu a.gen]) * (rdB q b rs.length cap vF * (rdL b cap (rs.set k { a with own := a.own + 1 }) * F)) by unfold rdL; rw [List.length_set]; ac_rfl)).dropL
  clear hS hB hi his ha hcl hok
  generalize getRR rs cl k a = x at *
  obtain ⟨v0, v1, v2, v3, v4, v5, v6, v7, v8, v9, v10⟩ := x
  simp only at hbd hq
  have hw : IntKind.i64.wrap (v7 + v5) = v7 + v5 := IntWalk.i64_in _ (by omega)
  go_enter Tryz.func59, Tryz.ntmps59
  go_wp2_with (first | (go_at_call 124; refine HI.out.mono ?_; rintro e w1 ⟨rfl, hS1⟩; have hT : Sat w0 (pc w.heap.size 30 [vi k, vu a.gen] * (rdB q b rs.length cap vF * (rdL b cap rs * F))) w1 := hS1.cast (by ac_rfl); clear i0 i1; have i0 := hT.cell 0 rfl; have i1 := hT.cell 1 rfl; have q0 := hT.pull2.cell 0 rfl; have HT := Lib.hid hT; clear hS1 hT) | (go_at_call 125; refine (HG.out _ (HT.out.cast (show _ = rdB q b rs.length cap vF * (rdL b cap rs * (pc w.heap.size 30 [vi k, vu a.gen] * F)) by ac_rfl))).mono ?_; rintro e w2 ⟨rfl, hS2⟩; have hX := hS2.alloc (elO ⟨v0, v1, v2, v3, v4, v5, v6, v7, v8, v9, v10⟩); have hX2 : Sat w0 (pc w2.heap.size 188 (elC ⟨v0, v1, v2, v3, v4, v5, v6, v7, v8, v9, v10⟩) * (pc w.heap.size 30 [vi k, vu a.gen] * (rdB q b rs.length cap vF * (rdL b cap rs * F)))) (w2.alloc (elO ⟨v0, v1, v2, v3, v4, v5, v6, v7, v8, v9, v10⟩)) := (hX.cast (show _ = pc w2.heap.size 188 (elC ⟨v0, v1, v2, v3, v4, v5, v6, v7, v8, v9, v10⟩) * (rdB q b rs.length cap vF * (rdL b cap rs * (pc w.heap.size 30 [vi k, vu a.gen] * F))) from rfl)).cast (by ac_rfl); clear i0 i1 q0; have x2 := hX2.cell 2 rfl; have x5 := hX2.cell 5 rfl; have x7 := hX2.cell 7 rfl; have x8 := hX2.cell 8 rfl; have x10 := hX2.cell 10 rfl; have i0 := hX2.pull2.cell 0 rfl; have i1 := hX2.pull2.cell 1 rfl; have q0 := hX2.dropL.dropL.cell 0 rfl; have e7 := hX2.dropL.pull3.slCell _ (flat_get (j := 7) One.len HA.out rfl); have f7 := hX2.dropL.pull3.slFree (k * 9 + 7); have hst := hX2.dropL.pull3.slStore (k * 9 + 7) (by omega) (vi (a.own + 1)); rw [flat_set One.len rs k 7 a ({ a with own := a.own + 1 } : One) _ HA.out (by omega) rfl] at hst; have HST := Lib.hid hst; clear hst; have HX := Lib.hid hX2; clear hS2 hX hX2))
  refine wp_quiet_tail 6 (by kernel_rfl) (by kernel_rfl) ?_
  simp only [List.take_succ_cons, List.take_zero, List.drop_succ_cons, List.drop_zero]
  repeat (go_big_quiet_step (fail))
  refine wpQuiet_nil ?_
  go_wp2
  go_ret
  first | exact ⟨rfl, HFin.out _ HST.out⟩ | exact ⟨rfl, HFin.out _ (HST.out.drewN 1)⟩
end
end Go.Proofs.YtdbppfcilaajaaaGreat.Dm

namespace Go.Proofs.YtdbppfcilaajaaaGreat.Gt
open Go.RowKit Ag
set_option linter.unusedVariables false

section
variable {w0 w : World} {F : Hp} {h p : Nat} {ps : List Pl} {free : List Nat}
end
end Go.Proofs.YtdbppfcilaajaaaGreat.Gt
