/-
  The reference of layer 9: put, New. No statement is proved here.
-/
import Derived.Test.YtfioghpnehfjhaaRd4
import Derived.Test.YtfioghpnehfjhaaArCut
namespace Go.Proofs.Ytfioghpnehfjhaa.Dm
open Go.RowKit Ad
set_option linter.unusedVariables false
set_option linter.unusedSimpArgs false

theorem slKeep {w0 w : World} {F : Hp} {e : TypeId} {size n g cap : Nat} {xs : List Value} (h : Sat w0 (sl e size (.slice (some ⟨g, 0, none⟩) n cap) n xs * F) w) (k : Nat) (hk : k ≤ n) : Sat w0 (sl e size (.slice (some ⟨g, 0, none⟩) k cap) k (xs.take (k * size)) * F) w := by
  obtain ⟨cur, h1, h2, h3, h4, hS⟩ := h.slP
  refine hS.slI (by omega) h2 h3 ?_
  rw [← h4, List.take_take, Nat.min_eq_left (Nat.mul_le_mul_right _ hk)]
theorem storeO {T : TypeId} {g n cap k : Nat} {rs : List One} {a : One} {F : Hp} {w0 w : World} (h : Sat w0 (sl T 9 (.slice (some ⟨g, 0, none⟩) n cap) n (oflat rs) * F) w) (hk : rs[k]? = some a) (hn : rs.length = n) (x : One) :
    Sat w0 (sl T 9 (.slice (some ⟨g, 0, none⟩) n cap) n (oflat (rs.set k x)) * F) (w.setCells g (k * 9) x.cells) := by
  have hlt : k < n := by rw [← hn]; exact (List.getElem?_eq_some_iff.1 hk).1
  have hself : ∀ a' : One, (rs.set k a')[k]? = some a' := fun a' => by simp [(List.getElem?_eq_some_iff.1 hk).1]
  have h0 := h.slStore (k * 9 + 0) (by omega) (vu x.gen)
  rw [flat_set One.len rs k 0 a ({ a with gen := x.gen } : One) _ hk (by omega) rfl] at h0
  have h1 := h0.slStore (k * 9 + 1) (by omega) (.bool x.is)
  rw [flat_set One.len _ k 1 ({ a with gen := x.gen } : One) ({ a with gen := x.gen, is := x.is } : One) _ (hself _) (by omega) rfl, List.set_set] at h1
  have h2 := h1.slStore (k * 9 + 2) (by omega) (vi x.gs)
  rw [flat_set One.len _ k 2 ({ a with gen := x.gen, is := x.is } : One) ({ a with gen := x.gen, is := x.is, gs := x.gs } : One) _ (hself _) (by omega) rfl, List.set_set] at h2
  have h3 := h2.slStore (k * 9 + 3) (by omega) (vu x.cpu)
  rw [flat_set One.len _ k 3 ({ a with gen := x.gen, is := x.is, gs := x.gs } : One) ({ a with gen := x.gen, is := x.is, gs := x.gs, cpu := x.cpu } : One) _ (hself _) (by omega) rfl, List.set_set] at h3
  have h4 := h3.slStore (k * 9 + 4) (by omega) (vu x.per)
  rw [flat_set One.len _ k 4 ({ a with gen := x.gen, is := x.is, gs := x.gs, cpu := x.cpu } : One) ({ a with gen := x.gen, is := x.is, gs := x.gs, cpu := x.cpu, per := x.per } : One) _ (hself _) (by omega) rfl, List.set_set] at h4
  have h5 := h4.slStore (k * 9 + 5) (by omega) (vi x.pi)
  rw [flat_set One.len _ k 5 ({ a with gen := x.gen, is := x.is, gs := x.gs, cpu := x.cpu, per := x.per } : One) ({ a with gen := x.gen, is := x.is, gs := x.gs, cpu := x.cpu, per := x.per, pi := x.pi } : One) _ (hself _) (by omega) rfl, List.set_set] at h5
  have h6 := h5.slStore (k * 9 + 6) (by omega) (vu x.pg)
  rw [flat_set One.len _ k 6 ({ a with gen := x.gen, is := x.is, gs := x.gs, cpu := x.cpu, per := x.per, pi := x.pi } : One) ({ a with gen := x.gen, is := x.is, gs := x.gs, cpu := x.cpu, per := x.per, pi := x.pi, pg := x.pg } : One) _ (hself _) (by omega) rfl, List.set_set] at h6
  have h7 := h6.slStore (k * 9 + 7) (by omega) (vi x.own)
  rw [flat_set One.len _ k 7 ({ a with gen := x.gen, is := x.is, gs := x.gs, cpu := x.cpu, per := x.per, pi := x.pi, pg := x.pg } : One) ({ a with gen := x.gen, is := x.is, gs := x.gs, cpu := x.cpu, per := x.per, pi := x.pi, pg := x.pg, own := x.own } : One) _ (hself _) (by omega) rfl, List.set_set] at h7
  have h8 := h7.slStore (k * 9 + 8) (by omega) (vu x.used)
  rw [flat_set One.len _ k 8 ({ a with gen := x.gen, is := x.is, gs := x.gs, cpu := x.cpu, per := x.per, pi := x.pi, pg := x.pg, own := x.own } : One) x _ (hself _) (by omega) rfl, List.set_set] at h8
  exact h8
theorem oneinfo : (Try.prog.info? 112).map (·.size) = some 9 := by kernel_rfl
theorem slThereO {T : TypeId} {g n cap k : Nat} {rs : List One} {a : One} {F : Hp} {w0 w : World} (h : Sat w0 (sl T 9 (.slice (some ⟨g, 0, none⟩) n cap) n (oflat rs) * F) w) (hk : rs[k]? = some a) (hn : rs.length = n) : w.there g (k * 9) 9 := fun j hj => by
  have e := h.slCell (k * 9 + j) (flat_get (j := j) One.len hk (List.getElem?_eq_getElem (by rw [One.len]; exact hj)))
  rw [e]
  exact ⟨rfl, h.slFree (k * 9 + j)⟩
section
variable {w0 w : World} {F : Hp} {q b cap : Nat} {rs : List One} {fr : List Nat} {fa fcap : Nat}
set_option maxRecDepth 100000 in
set_option maxHeartbeats 4000000 in
theorem rd_put (m : Nat) (k : Nat) (a : One) (hm : m = fr.length + 1) (hS : Sat w0 (rdB q b rs.length cap (.slice (some ⟨fa, 0, none⟩) m fcap) * (rdL b cap rs * (sl 3 1 (.slice (some ⟨fa, 0, none⟩) m fcap) m (nats (fr ++ [k])) * F))) w) (hk : rs[k]? = some a) (hl : rs.length ≤ 1000) (hml : m ≤ 1000) (x : One) :
    Calls Try.prog 61 #[vp q, .agg #[vu x.gen, .bool x.is, vi x.gs, vu x.cpu, vu x.per, vi x.pi, vu x.pg, vi x.own, vu x.used]] w fun e w' => e = .returned (vr k a.gen) ∧
      Sat w0 (rdB q b rs.length cap (.slice (some ⟨fa, 0, none⟩) fr.length fcap) * (rdL b cap (rs.set k { x with gen := a.gen, is := true }) * (sl 3 1 (.slice (some ⟨fa, 0, none⟩) fr.length fcap) fr.length (nats fr) * F))) w' := by
  obtain ⟨xg, xi, gs, cpu, per, pi, pg, own, used⟩ := x
  dsimp only
  have hB0 := (hS.alloc (.cells #[vu xg, .bool xi, vi gs, vu cpu, vu per, vi pi, vu pg, vi own, vu used] 112)).alloc (.cells #[vi 0, vu 0] 32)
  rw [size1] at hB0
  have hB : Sat w0 (pc (w.heap.size + 1) 32 [vi 0, vu 0] * (pc w.heap.size 112 [vu xg, .bool xi, vi gs, vu cpu, vu per, vi pi, vu pg, vi own, vu used] * (rdB q b rs.length cap (.slice (some ⟨fa, 0, none⟩) m fcap) * (rdL b cap rs * (sl 3 1 (.slice (some ⟨fa, 0, none⟩) m fcap) m (nats (fr ++ [k])) * F))))) ((w.alloc (.cells #[vu xg, .bool xi, vi gs, vu cpu, vu per, vi pi, vu pg, vi own, vu used] 112)).alloc (.cells #[vi 0, vu 0] 32)) := hB0
  clear hS hB0
  have hk2 : k < rs.length := (List.getElem?_eq_some_iff.1 hk).1
  have hki : (k : Int) < (rs.length : Int) := by omega
  obtain ⟨n, hn⟩ : ∃ n, n = fr.length := ⟨_, rfl⟩
  have hmn : m = n + 1 := by omega
  rw [← hn]
  have hw : IntKind.i64.wrap ((m : Int) - 1) = (n : Int) := by rw [IntWalk.i64_in _ (by omega)]; omega
  have hnm : (n : Int) < (m : Int) := by omega
  have hcap := hB.dropL.dropL.dropL.dropL.slCap
  have hnc : (n : Int) ≤ (fcap : Int) := by omega
  have q1 := hB.pull3.cell 1 rfl
  have g1 := hB.pull3.free 1
  have ck := hB.dropL.dropL.dropL.dropL.slCell n (u := vi k) (by rw [List.getElem?_map, hn]; simp)
  have h2 := hB.pull3.store 1 (.slice (some ⟨fa, 0, none⟩) n fcap)
  have q0 := h2.cell 0 rfl
  have e0 := h2.dropL.dropL.dropL.slCell _ (flat_get (j := 0) One.len hk rfl)
  rw [Nat.add_zero] at e0
  have x0 := h2.dropL.dropL.cell 0 rfl
  have y0 := h2.dropL.dropL.free 0
  have h3 := h2.pull3.store 0 (vu a.gen)
  have x1 := h3.cell 1 rfl
  have y1 := h3.free 1
  have h4 := h3.store 1 (.bool true)
  have hz : Sat w0 (pc w.heap.size 112 [vu a.gen, .bool true, vi gs, vu cpu, vu per, vi pi, vu pg, vi own, vu used] * (rdB q b rs.length cap (.slice (some ⟨fa, 0, none⟩) n fcap) * (pc (w.heap.size + 1) 32 [vi 0, vu 0] * (rdL b cap rs * (sl 3 1 (.slice (some ⟨fa, 0, none⟩) m fcap) m (nats (fr ++ [k])) * F))))) _ := h4
  have HZ := Lib.hid hz
  have HK := Lib.hid hk
  have Hn := Lib.hid hn
  have Hm := Lib.hid hm
  clear hB h2 h3 h4 hz hk hn hcap hm
  generalize a.gen = ag at *
  go_enter Try.func61, Try.ntmps61
  go_wp2
  generalize (((((w.alloc (.cells #[vu xg, .bool xi, vi gs, vu cpu, vu per, vi pi, vu pg, vi own, vu used] 112)).alloc (.cells #[vi 0, vu 0] 32)).setCell ⟨q, 1, none⟩ (.slice (some ⟨fa, 0, none⟩) n fcap)).setCell ⟨w.heap.size, 0, none⟩ (vu ag)).setCell ⟨w.heap.size, 1, none⟩ (.bool true)) = W1 at *
  generalize w.heap.size = b0 at *
  have q0 := HZ.out.drew.pull2.cell 0 rfl
  clear q1 g1 ck e0 x0 y0 x1 y1
  have q0 := HZ.out.pull2.cell 0 rfl
  have HTh := Lib.hid (slThereO HZ.out.drew.pull4 HK.out rfl)
  have hst := storeO HZ.out.drew.pull4 HK.out rfl ⟨ag, true, gs, cpu, per, pi, pg, own, used⟩
  have HST : Hid (Sat w0 _ (W1.drew.setCells b (k * 9) ([vu ag, .bool true, vi gs, vu cpu, vu per, vi pi, vu pg, vi own, vu used] : List Value).toArray.toList)) := Lib.hid hst
  clear hst
  refine wp_quiet_tail 6 (by kernel_rfl) (by kernel_rfl) ?_
  simp only [List.take_succ_cons, List.take_zero, List.drop_succ_cons, List.drop_zero]
  iterate 5 (go_big_quiet_step (fail))
  refine wpQuiet_load_row (by rfl) 112 _ rfl b0 0 (by rfl) [vu ag, .bool true, vi gs, vu cpu, vu per, vi pi, vu pg, vi own, vu used] _ (fun w' hw' => by subst hw'; exact range_ HZ.out.drew) Try.underlying112 rfl oneinfo ?_
  refine wpQuiet_nil ?_
  go_wp2_with (refine wpList_store_mid rfl 112 _ _ rfl b (k * 9) ([vu ag, .bool true, vi gs, vu cpu, vu per, vi pi, vu pg, vi own, vu used] : List Value).toArray (by rfl) (by rfl) HTh.out oneinfo (all_oneCell_toArray (One.one ⟨ag, true, gs, cpu, per, pi, pg, own, used⟩)) ?_; generalize World.setCells _ _ _ _ = W2 at *; have hS2 : Sat w0 (pc b0 112 [vu ag, .bool true, vi gs, vu cpu, vu per, vi pi, vu pg, vi own, vu used] * (pc (b0 + 1) 32 [vi 0, vu 0] * (rdB q b rs.length cap (.slice (some ⟨fa, 0, none⟩) n fcap) * (rdL b cap (rs.set k ⟨ag, true, gs, cpu, per, pi, pg, own, used⟩) * (sl 3 1 (.slice (some ⟨fa, 0, none⟩) m fcap) m (nats (fr ++ [k])) * F))))) W2 := HST.out.cast (by unfold rdL; rw [List.length_set]; ac_rfl); have z0 := hS2.cell 0 rfl; have r0 := hS2.pull2.cell 0 rfl; have r1 := hS2.pull2.cell 1 rfl; have rf0 := hS2.pull2.free 0; have rf1 := hS2.pull2.free 1; have hS3 := (hS2.pull2.store 0 (vi k)).store 1 (vu ag); have u0 := hS3.cell 0 rfl; have u1 := hS3.cell 1 rfl; have H3 := Lib.hid hS3; clear hS2 hS3)
  (try simp only [Exit.inBlock, Exit.then])
  refine bodyPost_ret (v := vr k ag) (by simp [results, Try.f61, go_sem, u0, u1]) rfl ?_
  refine ⟨rfl, ?_⟩
  have h9 := slKeep H3.out.dropL.dropL.pull3 n (by omega)
  have hx : (nats (fr ++ [k])).take (n * 1) = nats fr := by
    unfold nats
    rw [Nat.mul_one, List.map_append, Hn.out, List.take_left' (by simp)]
  rw [hx] at h9
  exact h9.cast (by ac_rfl)
end
end Go.Proofs.Ytfioghpnehfjhaa.Dm
