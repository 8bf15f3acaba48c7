/-
  Package global: cut, Take, Remove. No statement is proved here.
-/
import Derived.Test.YtdbppfcilaajaaaGreatMg37
import Derived.LaidEqlPtr
namespace Go.Proofs.YtdbppfcilaajaaaGreat
theorem Sat.pull5' {w0 w : World} {A B C D E G : Hp} (h : Sat w0 (A * (B * (C * (D * (E * G))))) w) : Sat w0 (E * (A * (B * (C * (D * G))))) w := h.cast (by ac_rfl)
end Go.Proofs.YtdbppfcilaajaaaGreat
namespace Go.Proofs.YtdbppfcilaajaaaGreat.Gq
open Go.RowKit Rq Gq
attribute [local go_sem] Oper.semAt_some
set_option linter.unusedVariables false
set_option linter.unusedSimpArgs false

theorem lst_cons {n : Value} {x y : Nat × Int} {r : List (Nat × Int)} : lst n (x :: y :: r) = lst n (y :: r) := by
  unfold lst
  rw [List.getLast?_cons_cons]
theorem lst_app {n : Value} {a : List (Nat × Int)} {y : Nat × Int} {r : List (Nat × Int)} : lst n (a ++ y :: r) = lst n (y :: r) := by
  unfold lst
  rw [List.getLast?_append]
  cases h : (y :: r).getLast? with
  | none => simp at h
  | some z => rfl
theorem lst_is {n : Value} {y : Nat × Int} {r : List (Nat × Int)} : ∃ z, lst n (y :: r) = vp z ∧ z ∈ (y :: r).map Prod.fst := by
  obtain ⟨z, hz⟩ : ∃ z, (y :: r).getLast? = some z := ⟨_, List.getLast?_eq_some_getLast (by simp)⟩
  refine ⟨z.1, ?_, List.mem_map_of_mem (List.mem_of_getLast? hz)⟩
  unfold lst
  rw [hz]
theorem fst_mid {n : Value} {a : List (Nat × Int)} {x : Nat × Int} {b r : List (Nat × Int)} : fst n ((a ++ [x]) ++ b) = fst n ((a ++ [x]) ++ r) := by
  rw [fst_append, fst_append, fst_append, fst_append]
  rfl
theorem find_cut {f : Int → Bool} {a r : List Int} {g : Int} (ha : ∀ y ∈ a, f y = false) (hg : f g = true) : (a ++ g :: r).find? f = some g ∧ (a ++ g :: r).eraseP f = a ++ r := by
  constructor
  · rw [List.find?_append, List.find?_eq_none.2 (by intro y hy; simp [ha y hy]), Option.none_or, List.find?_cons_of_pos hg]
  · rw [List.eraseP_append_right _ (fun y hy => by simp [ha y hy]), List.eraseP_cons_of_pos hg]
theorem find_no {f : Int → Bool} {a : List Int} (ha : ∀ y ∈ a, f y = false) : a.find? f = none ∧ a.eraseP f = a :=
  ⟨List.find?_eq_none.2 (by intro y hy; simp [ha y hy]), List.eraseP_of_forall_not (fun y hy => by simp [ha y hy])⟩
abbrev qc (q : Nat) (x y z : Value) : Hp := pc q 286 [x, y, z]
abbrev nc (x : Nat) (g y : Value) : Hp := pc x 284 [g, y]
abbrev b2c (b q : Nat) : Hp := pc b 146 [vp q]
abbrev b3c (b : Nat) (v : Value) : Hp := pc b 58 [v]
abbrev b4c (b : Nat) (v : Value) : Hp := pc b 3 [v]
abbrev b5c (b : Nat) (v : Value) : Hp := pc b 4 [v]
abbrev sgN (ns : List (Nat × Int)) : Hp := sg 284 (.pointer none) ns
theorem itG_eq (bx q : Nat) (ns : List (Nat × Int)) : itG bx q ns = b2c bx q * (qc q (fst (.pointer none) ns) (lst (.pointer none) ns) (vi ns.length) * sgN ns) := rfl
theorem sg_del2 {w0 w : World} {F : Hp} {a : List (Nat × Int)} {c : Nat} {h : Int} {x : Nat} {g : Int} {r : List (Nat × Int)} (h1 : Sat w0 (sgN (a ++ (c, h) :: (x, g) :: r) * F) w) :
    w.cell? ⟨x, 1, none⟩ = some (fst (.pointer none) r) ∧ w.cell? ⟨c, 1, none⟩ = some (vp x) ∧ w.frozen? ⟨c, 1, none⟩ = false ∧ Sat w0 (sgN (a ++ (c, h) :: r) * (nc x (vi g) (fst (.pointer none) r) * F)) (w.setCell ⟨c, 1, none⟩ (fst (.pointer none) r)) := by
  rw [show sgN (a ++ (c, h) :: (x, g) :: r) = _ from sg_cut _ _ _ _ _] at h1
  have h2 : Sat w0 (nc c (vi h) (vp x) * (sg 284 (vp c) a * (nc x (vi g) (fst (.pointer none) r) * (sgN r * F)))) w := h1.cast (by show (sg _ (vp c) a * (nc c (vi h) (vp x) * (nc x (vi g) (fst (.pointer none) r) * sgN r))) * F = _; ac_rfl)
  refine ⟨h2.dropL.dropL.cell 1 rfl, h2.cell 1 rfl, h2.free 1, ?_⟩
  have h3 : Sat w0 (nc c (vi h) (fst (.pointer none) r) * _) _ := h2.store 1 (fst (.pointer none) r)
  rw [show sgN (a ++ (c, h) :: r) = _ from sg_cut _ _ _ _ _]
  exact h3.cast (by show _ = (sg _ (vp c) a * (nc c (vi h) (fst (.pointer none) r) * sgN r)) * (nc x (vi g) (fst (.pointer none) r) * F); ac_rfl)
theorem fst_ptr (r : List (Nat × Int)) : ∃ o, fst (.pointer none) r = .pointer o := by cases r <;> exact ⟨_, rfl⟩
theorem peq_same (x : Nat) (W : World) : (binOp .eql 282 (vp x) (vp x)).run Tryz.prog W = .ok (.bool true) W := by
  unfold binOp
  simp only [go_sem, Op.equal]
  rw [show Op.maxDepth = 9999 + 1 from rfl, Op.equalIn]
  simp [go_sem, run_sameAddr_same]
theorem peq_ne {x z : Nat} {W : World} {ca cb : Array Value} {ta tb : TypeId} (hne : ¬ z = x) (ha : W.heap[z]? = some (.cells ca ta (0, 0))) (hb : W.heap[x]? = some (.cells cb tb (0, 0))) : (binOp .eql 282 (vp z) (vp x)).run Tryz.prog W = .ok (.bool false) W := by
  unfold binOp
  simp only [go_sem, Op.equal]
  rw [show Op.maxDepth = 9999 + 1 from rfl, Op.equalIn]
  simp [go_sem, run_sameAddr_other W (a := ⟨z, 0, none⟩) (b := ⟨x, 0, none⟩) (by simp [hne]) ha hb]
theorem peq_ned {x z : Nat} {W : World} {ca cb : Array Value} {ta tb : TypeId} (hne : ¬ z = x) (ha : W.heap[z]? = some (.cells ca ta (0, 0))) (hb : W.heap[x]? = some (.cells cb tb (0, 0))) : (binOp .eql 282 (vp z) (vp x)).run Tryz.prog W.drew = .ok (.bool false) W.drew := peq_ne (W := W.drew) hne ha hb
theorem sg_blk {w0 w : World} {T : TypeId} {n : Value} {z : Nat} : ∀ {r : List (Nat × Int)} {F : Hp}, Sat w0 (sg T n r * F) w → z ∈ r.map Prod.fst → ∃ ca : Array Value, w.heap[z]? = some (.cells ca T (0, 0))
  | [], _, _, h => by simp at h
  | (c, g) :: r, F, h, hm => by
    have h1 : Sat w0 (pc c T [vi g, fst n r] * (sg T n r * F)) w := h.cast (by show (pc c T [vi g, fst n r] * sg T n r) * F = _; ac_rfl)
    rw [List.map_cons, List.mem_cons] at hm
    rcases hm with rfl | hm
    · exact ⟨_, h1.blk.1⟩
    · exact sg_blk (F := F) h1.dropL hm
theorem sep_emp_b5 (b : Nat) (v : Value) : b5c b v * emp = b5c b v := sep_emp _
section
variable {w0 w : World} {F B : Hp} {q ba bp : Nat} {xs : List Int} {f : Int → Bool}
set_option maxRecDepth 100000 in
set_option maxHeartbeats 8000000 in
theorem g_cut_may (h : Sat w0 (gQ q xs * (B * F)) w) (hl : xs.length ≤ 1000000)
    (hC : ∀ (g : Int) (W : World) (G : Hp), Sat w0 (B * G) W → Calls Tryz.prog 222 (#[vi g] ++ #[vp ba, vp bp]) W fun e w' => e = .returned (.bool (f g)) ∧ ∃ n, w' = W.drewN n) :
    Calls Tryz.prog 156 #[vp q, .func (.func 222) #[] #[vp ba, vp bp]] w fun e w' => e = .returned (.tuple #[vi ((xs.find? f).getD 0), .bool (xs.find? f).isSome]) ∧ Sat w0 (gQ q (xs.eraseP f) * (B * F)) w' := by
  have h4 := (((h.alloc (.cells #[vp q] 146)).alloc (.cells #[.func (.func 222) #[] #[vp ba, vp bp]] 58)).alloc (.cells #[vi 0] 3)).alloc (.cells #[.bool false] 4)
  simp only [World.size_alloc] at h4
  have h4 : Sat w0 (b5c (w.heap.size + 3) (.bool false) * (b4c (w.heap.size + 2) (vi 0) * (b3c (w.heap.size + 1) (.func (.func 222) #[] #[vp ba, vp bp]) * (b2c w.heap.size q * (gQ q xs * (B * F)))))) ((((w.alloc (.cells #[vp q] 146)).alloc (.cells #[.func (.func 222) #[] #[vp ba, vp bp]] 58)).alloc (.cells #[vi 0] 3)).alloc (.cells #[.bool false] 4)) := h4
  have c2 := h4.pull4.cell 0 rfl
  have HA := Lib.hid (g_each (q := q) h4)
  have HC := Lib.hid hC
  clear h h4 hC
  generalize hwb : (((w.alloc (.cells #[vp q] 146)).alloc (.cells #[.func (.func 222) #[] #[vp ba, vp bp]] 58)).alloc (.cells #[vi 0] 3)).alloc (.cells #[.bool false] 4) = wb at *
  generalize hb1 : w.heap.size = b2 at *
  have HW := Lib.hid hwb
  have HB1 := Lib.hid hb1
  clear hwb hb1
  refine (callsIn_wide (n := 9)).1 ?_
  refine callsIn_of_wp_marks Tryz.func156 rfl trivial ?_ rfl
  simp only [Tryz.ntmps156, List.size_toArray, List.length_cons, List.length_nil, Nat.reduceAdd, Nat.reduceSub, Array.replicate_succ, Array.replicate_zero, List.push_toArray, List.append_toArray, List.nil_append, List.cons_append]
  gi_wp2_with fail
  rw [HW.out, HB1.out]
  gi_wp2_with fail
  refine ⟨trivial, ?_⟩
  refine (callsIn_wide.2 HA.out).mono ?_
  rintro e w1 ⟨bx, rfl, hS⟩
  obtain ⟨ns, hns, hG⟩ := gq_open ((show Sat w0 (b2c bx q * _) w1 from hS).cast (show _ = gQ q xs * (b2c bx q * (b2c b2 q * (b3c (b2 + 1) (.func (.func 222) #[] #[vp ba, vp bp]) * (b4c (b2 + 2) (vi 0) * (b5c (b2 + 3) (.bool false) * (B * F)))))) by ac_rfl))
  have hG : Sat w0 (qc q (fst (.pointer none) ns) (lst (.pointer none) ns) (vi ns.length) * (sgN ns * _)) w1 := hG
  have h1 : Sat w0 (itG bx q ns * (b2c b2 q * (b3c (b2 + 1) (.func (.func 222) #[] #[vp ba, vp bp]) * (b4c (b2 + 2) (vi 0) * (b5c (b2 + 3) (.bool false) * given (∀ y ∈ xs.take 0, f y = false) (B * F)))))) w1 := by
    refine (Sat.givenI (p := ∀ y ∈ xs.take 0, f y = false) (by simp) (A := B * F) (F := itG bx q ns * (b2c b2 q * (b3c (b2 + 1) (.func (.func 222) #[] #[vp ba, vp bp]) * (b4c (b2 + 2) (vi 0) * (b5c (b2 + 3) (.bool false) * emp))))) (hG.cast ?_)).cast ?_
    · rw [sep_emp_b5]
      rw [itG_eq]
      ac_rfl
    · rw [sep_emp_b5]
      ac_rfl
  have H1 := Lib.hid h1
  have HNS := Lib.hid hns
  clear hS hG h1 hns c2
  gi_wp2
  refine wpIn_act ?_
  intro a0 ha0
  refine wpIn_range_stop (H' := itG bx q ns * (b2c b2 q * (b3c (b2 + 1) (.func (.func 222) #[] #[vp ba, vp bp]) * (b4c (b2 + 2) (vi 0) * (b5c (b2 + 3) (.bool false) * given (∀ y ∈ xs.take ns.length, f y = false) (B * F)))))) (S := fun c => given (c = .ret) (gQ q (xs.eraseP f) * (b4c (b2 + 2) (vi ((xs.find? f).getD 0)) * (b5c (b2 + 3) (.bool (xs.find? f).isSome) * (B * F))))) rfl (by omega) (gf := 235) (lb := #[vp bx]) (by rw [ha0]; rfl) trivial (enters_of Tryz.func235 (by kernel_rfl) rfl) H1.out ?call ?done ?stop
  case call =>
    intro fn ll DD R Rd W hfn hR hRd' hS
    have hS : Sat w0 (itG bx q ns * (pt ll R * (pt DD dmark * (b2c b2 q * (b3c (b2 + 1) (.func (.func 222) #[] #[vp ba, vp bp]) * (b4c (b2 + 2) (vi 0) * (b5c (b2 + 3) (.bool false) * given (∀ y ∈ xs.take 0, f y = false) (B * F)))))))) W := hS.cast (by ac_rfl)
    refine (g_each1 8 (by omega) (fun k => pt ll R * (pt DD dmark * (b2c b2 q * (b3c (b2 + 1) (.func (.func 222) #[] #[vp ba, vp bp]) * (b4c (b2 + 2) (vi 0) * (b5c (b2 + 3) (.bool false) * given (∀ y ∈ xs.take k, f y = false) (B * F))))))) (ex fun c => pt ll (Rd c) * (pt DD dmark * given (c = .ret) (gQ q (xs.eraseP f) * (b4c (b2 + 2) (vi ((xs.find? f).getD 0)) * (b5c (b2 + 3) (.bool (xs.find? f).isSome) * (B * F)))))) bx ll ?round hS).mono ?back
    case back =>
      rintro e W' ⟨he, h2 | h2⟩
      · exact ⟨he, .inl (h2.cast (by ac_rfl))⟩
      · obtain ⟨c, h3⟩ := (h2.cast (sep_emp _).symm).exE
        exact ⟨he, .inr ⟨c, h3.cast (sep_emp _)⟩⟩
    case round =>
      intro a x g r W2 F2 hnr hS2
      have hxs : xs = a.map Prod.snd ++ g :: r.map Prod.snd := by rw [← HNS.out, hnr]; simp
      have hxa : xs.take a.length = a.map Prod.snd := by rw [hxs]; simp
      have hxb : xs.take (a.length + 1) = a.map Prod.snd ++ [g] := by
        rw [hxs, List.take_append, List.take_of_length_le (by simp)]
        simp
      rw [hxa] at hS2
      have h6 := hS2.cast (show _ = given (∀ y ∈ a.map Prod.snd, f y = false) (B * F) * (itG bx q ns * (pt ll R * (pt DD dmark * (b2c b2 q * (b3c (b2 + 1) (.func (.func 222) #[] #[vp ba, vp bp]) * (b4c (b2 + 2) (vi 0) * (b5c (b2 + 3) (.bool false) * F2))))))) by ac_rfl)
      obtain ⟨hfa, h7⟩ := h6.givenE
      have hnd : (ns.map Prod.fst).Nodup := sg_nodup (T := 284) (n := .pointer none) (F := (b2c bx q * (qc q (fst (.pointer none) ns) (lst (.pointer none) ns) (vi ns.length))) * ((B * F) * (pt ll R * (pt DD dmark * (b2c b2 q * (b3c (b2 + 1) (.func (.func 222) #[] #[vp ba, vp bp]) * (b4c (b2 + 2) (vi 0) * (b5c (b2 + 3) (.bool false) * F2)))))))) (h7.cast (show _ = sgN ns * _ by rw [itG_eq]; ac_rfl))
      have h8 : Sat w0 (pt ll R * (b3c (b2 + 1) (.func (.func 222) #[] #[vp ba, vp bp]) * (sgN ns * (qc q (fst (.pointer none) ns) (lst (.pointer none) ns) (vi ns.length) * (b4c (b2 + 2) (vi 0) * (b5c (b2 + 3) (.bool false) * (b2c b2 q * (b2c bx q * (B * (F * (pt DD dmark * F2))))))))))) W2 := h7.cast (by rw [itG_eq]; ac_rfl)
      have H8 := Lib.hid h8
      have HXS := Lib.hid hxs
      have HXB := Lib.hid hxb
      have HFA := Lib.hid hfa
      have HNR := Lib.hid hnr
      have HND := Lib.hid hnd
      obtain ⟨bf, hbf⟩ : ∃ bf, lst (.pointer none) a = bf := ⟨_, rfl⟩
      have HBF := Lib.hid hbf
      rw [hbf]
      clear hS hS2 h6 h7 h8 hxs hxa hxb hfa hnr hnd hbf
      have hY := yield_stop (P := Tryz.prog) (G := Fence.wide) (n := 8 - 1) (args := #[bf, vp x]) (X' := given (∀ y ∈ xs.take (a.length + 1), f y = false) (B * F) * (itG bx q ns * (pt DD dmark * (b2c b2 q * (b3c (b2 + 1) (.func (.func 222) #[] #[vp ba, vp bp]) * (b4c (b2 + 2) (vi 0) * (b5c (b2 + 3) (.bool false) * F2)))))))
        (S := fun c => given (c = .ret) (gQ q (xs.eraseP f) * (b4c (b2 + 2) (vi ((xs.find? f).getD 0)) * (b5c (b2 + 3) (.bool (xs.find? f).isSome) * (B * F)))) * (pt DD dmark * F2))
        (A := fun a' W' => a' = { tmps := (((a0.tmps.setIfInBounds 10 bf).setIfInBounds 11 (vp x)).setIfInBounds 6 bf).setIfInBounds 7 (vp x), defers := [] } ∧ W' = W2) hfn rfl hR hRd' H8.out ?ha ?assign ?body
      case ha =>
        rintro a' W' ⟨_, rfl⟩
        exact H8.out.blk.1
      case assign =>
        intro K hK
        have HK := Lib.hid hK
        clear hK hR hRd'
        subst ha0
        gi_wp2
        exact HK.out _ _ ⟨by simp, rfl⟩
      case body =>
        rintro Bo a' W' ⟨rfl, rfl⟩
        have h5 : Sat w0 (pt ll Bo * _) _ := H8.out.putObj (o' := Bo)
        have hpre := h5
        have h5 := h5.drew
        clear hR hRd' H8
        subst ha0
        simp only [List.setIfInBounds_toArray, List.set_cons_succ, List.set_cons_zero]
        generalize (W'.putObj ll Bo) = W3 at *
        have p0 := h5.pull2.cell 0 rfl
        have hsg := sg_at (T := 284) (n := .pointer none) (a := a) (x := x) (g := g) (r := r) (F := pt ll Bo * (b3c (b2 + 1) (.func (.func 222) #[] #[vp ba, vp bp]) * (qc q (fst (.pointer none) ns) (lst (.pointer none) ns) (vi ns.length) * (b4c (b2 + 2) (vi 0) * (b5c (b2 + 3) (.bool false) * (b2c b2 q * (b2c bx q * (B * (F * (pt DD dmark * F2)))))))))) (h5.cast (show _ = sgN (a ++ (x, g) :: r) * _ by rw [← HNR.out]; ac_rfl))
        have x0 := hsg.1
        have x1 := hsg.2
        have hcc := HC.out g W3.drew (pt ll Bo * (b3c (b2 + 1) (.func (.func 222) #[] #[vp ba, vp bp]) * (sgN ns * (qc q (fst (.pointer none) ns) (lst (.pointer none) ns) (vi ns.length) * (b4c (b2 + 2) (vi 0) * (b5c (b2 + 3) (.bool false) * (b2c b2 q * (b2c bx q * (F * (pt DD dmark * F2)))))))))) (h5.cast (by ac_rfl))
        obtain ⟨t, ht⟩ : ∃ t, f g = t := ⟨_, rfl⟩
        rw [ht] at hcc
        have HFG := Lib.hid ht
        have HCC := Lib.hid hcc
        have H5 := Lib.hid hpre
        clear h5 hpre hsg hcc ht
        have hmix : Tryz.prog.follows .mixedOrders = true := by kernel_rfl
        gi_wp2
        refine wpIn_mono (Q := fun e a' w' => e = .normal ∧ a' = { tmps := #[vp q, .func (.func 222) #[] #[vp ba, vp bp], .pointer (some ⟨b2, 0, none⟩), .pointer (some ⟨b2 + 1, 0, none⟩), .pointer (some ⟨b2 + 1 + 1, 0, none⟩), .pointer (some ⟨b2 + 1 + 1 + 1, 0, none⟩), bf, vp x, vp q, .func (.func 235) #[] #[vp bx], bf, vp x, .func (.func 222) #[] #[vp ba, vp bp], vp x, .pointer (some ⟨x, 0, none⟩), .pointer (some ⟨x, 0, none⟩), vi g, .bool t, .bool !t, undef, undef, undef, undef, undef, undef, undef, undef, undef, undef, undef, undef, undef, undef, undef, undef, undef, undef, undef, undef, undef, undef, undef, undef, undef, undef, undef, undef, undef, undef, undef, undef, undef, undef, undef, undef, undef], defers := [] } ∧ Sat w0 (pt ll Bo * (b3c (b2 + 1) (.func (.func 222) #[] #[vp ba, vp bp]) * (sgN ns * (qc q (fst (.pointer none) ns) (lst (.pointer none) ns) (vi ns.length) * (b4c (b2 + 2) (vi 0) * (b5c (b2 + 3) (.bool false) * (b2c b2 q * (b2c bx q * (B * (F * (pt DD dmark * F2))))))))))) w') ?reg ?rest
        case reg =>
          gi_region_with_o (refine ⟨trivial, ?_⟩; gi_at_call 222; refine ((callsIn_wide.2 HCC.out).inRound ll).mono ?_; rintro e W5 ⟨rfl, N, rfl⟩; have H6 := Lib.hid (H5.out.drewN (1 + N)))
          all_goals exact ⟨rfl, rfl, H6.out⟩
        case rest =>
          rintro e a' W5 ⟨rfl, rfl, h6⟩
          clear H5 HCC x0 x1 p0
          cases t with
          | false =>
            have H6 := Lib.hid h6
            clear h6
            gi_wp2
            refine ((Sat.givenI (p := ∀ y ∈ xs.take (a.length + 1), f y = false) ?_ (A := B * F) (F := itG bx q ns * (pt ll Bo * (pt DD dmark * (b2c b2 q * (b3c (b2 + 1) (.func (.func 222) #[] #[vp ba, vp bp]) * (b4c (b2 + 2) (vi 0) * (b5c (b2 + 3) (.bool false) * F2))))))) (H6.out.cast ?_))).cast ?_
            · rw [HXB.out]
              intro y hy
              rcases List.mem_append.1 hy with hy | hy
              · exact HFA.out y hy
              · rw [List.mem_singleton.1 hy]
                exact HFG.out
            · rw [itG_eq]
              ac_rfl
            · ac_rfl
          | true =>
            have hfc := find_cut (r := r.map Prod.snd) HFA.out HFG.out
            rw [← HXS.out] at hfc
            obtain ⟨NN, hNN⟩ : ∃ NN : Int, (ns.length : Int) = NN := ⟨_, rfl⟩
            rw [hNN] at h6
            have hnl : (ns.length : Int) = ((a ++ r).length : Int) + 1 := by rw [HNR.out]; simp; omega
            have hsm : ns.length ≤ 1000000 := by rw [← HNS.out, List.length_map] at hl; exact hl
            have hw : IntKind.i64.wrap (NN - 1) = ((a ++ r).length : Int) := by rw [IntWalk.i64_in _ (by omega)]; omega
            have hfin : ∀ (cc : Code) (b' : Value) (W : World), cc = .ret → Sat w0 (qc q (fst (.pointer none) (a ++ r)) (lst (.pointer none) (a ++ r)) (vi ((a ++ r).length)) * (b4c (b2 + 2) (vi g) * (b5c (b2 + 3) (.bool true) * (b2c b2 q * (nc x (vi g) b' * (sgN (a ++ r) * (pt ll Bo * (b3c (b2 + 1) (.func (.func 222) #[] #[vp ba, vp bp]) * (b2c bx q * (B * (F * (pt DD dmark * F2)))))))))))) W → Sat w0 (pt ll Bo * (given (cc = .ret) (gQ q (xs.eraseP f) * (b4c (b2 + 2) (vi ((xs.find? f).getD 0)) * (b5c (b2 + 3) (.bool (xs.find? f).isSome) * (B * F)))) * (pt DD dmark * F2))) W := fun cc b' W hcc h => by
              rw [hfc.1, hfc.2]
              have h2 := (h.cast (show _ = b2c b2 q * (nc x (vi g) b' * (b3c (b2 + 1) (.func (.func 222) #[] #[vp ba, vp bp]) * (b2c bx q * (qc q (fst (.pointer none) (a ++ r)) (lst (.pointer none) (a ++ r)) (vi ((a ++ r).length)) * (sgN (a ++ r) * (b4c (b2 + 2) (vi g) * (b5c (b2 + 3) (.bool true) * (B * (F * (pt ll Bo * (pt DD dmark * F2))))))))))) by ac_rfl)).dropL.dropL.dropL.dropL
              have h3 : Sat w0 (gQ q (a.map Prod.snd ++ r.map Prod.snd) * _) W := gq_shut (xs := a.map Prod.snd ++ r.map Prod.snd) (a ++ r) (by rw [List.map_append]) h2
              exact (Sat.givenI (p := cc = .ret) hcc (A := gQ q (a.map Prod.snd ++ r.map Prod.snd) * (b4c (b2 + 2) (vi g) * (b5c (b2 + 3) (.bool true) * (B * F)))) (F := pt ll Bo * (pt DD dmark * F2)) (h3.cast (by ac_rfl))).cast (by show _ = pt ll Bo * (given (cc = .ret) (gQ q (a.map Prod.snd ++ r.map Prod.snd) * (b4c (b2 + 2) (vi g) * (b5c (b2 + 3) (.bool true) * (B * F)))) * (pt DD dmark * F2)); ac_rfl)
            obtain ⟨LN, hLN⟩ : ∃ LN : Int, ((a ++ r).length : Int) = LN := ⟨_, rfl⟩
            rw [hLN] at hfin hw
            have HFIN := Lib.hid hfin
            have HLN := Lib.hid hLN
            have HND2 := HND.out
            rw [HNR.out] at HND2
            have hlst : (r = [] ∧ lst (.pointer none) ns = vp x ∧ lst (.pointer none) (a ++ r) = bf) ∨ ∃ z, ¬ z = x ∧ z ∈ (a ++ r).map Prod.fst ∧ lst (.pointer none) ns = vp z ∧ lst (.pointer none) (a ++ r) = vp z := by
              cases r with
              | nil =>
                refine .inl ⟨rfl, ?_, ?_⟩
                · rw [HNR.out]
                  exact lst_snoc _ _ _
                · rw [List.append_nil]
                  exact HBF.out
              | cons y r' =>
                obtain ⟨z, hz, hzm⟩ := lst_is (n := .pointer none) (y := y) (r := r')
                refine .inr ⟨z, ?_, by rw [List.map_append]; exact List.mem_append_right _ hzm, ?_, ?_⟩
                · rintro rfl
                  rw [List.map_append, List.map_cons, List.nodup_append] at HND2
                  exact (List.nodup_cons.1 HND2.2.1).1 hzm
                · rw [HNR.out, lst_app, lst_cons]
                  exact hz
                · rw [lst_app]
                  exact hz
            have HLST := Lib.hid hlst
            clear hfc hNN hnl hsm hfin HND2 hlst hLN
            obtain ⟨fo, hfo⟩ := fst_ptr r
            rcases List.eq_nil_or_concat a with ha | ⟨a1, ⟨c, hcv⟩, ha⟩
            · have hbn : bf = .pointer none := by rw [← HBF.out, ha]; rfl
              have hra : a ++ r = r := by rw [ha]; rfl
              have h7 : Sat w0 (qc q (vp x) (lst (.pointer none) ns) (vi NN) * (b4c (b2 + 2) (vi 0) * (b5c (b2 + 3) (.bool false) * (b2c b2 q * (nc x (vi g) (fst (.pointer none) r) * (sgN r * (pt ll Bo * (b3c (b2 + 1) (.func (.func 222) #[] #[vp ba, vp bp]) * (b2c bx q * (B * (F * (pt DD dmark * F2)))))))))))) W5 := h6.cast (by
                rw [show fst (.pointer none) ns = vp x by rw [HNR.out, ha]; rfl, show sgN ns = nc x (vi g) (fst (.pointer none) r) * sgN r by rw [HNR.out, ha]; rfl]
                ac_rfl)
              have h8 : Sat w0 (qc q (fst (.pointer none) r) (lst (.pointer none) ns) (vi NN) * _) _ := h7.store 0 (fst (.pointer none) r)
              have u0 := h7.cell 0 rfl
              have u1 := h7.free 0
              have u2 := h7.pull4.cell 0 rfl
              have u3 := h7.pull5'.cell 1 rfl
              have hfs : fst (.pointer none) (a ++ r) = .pointer fo := by rw [hra]; exact hfo
              have hsg : sgN r = sgN (a ++ r) := by rw [hra]
              rw [hfo, hsg] at h8
              rw [hfo] at u3
              have HFS := Lib.hid hfs
              have HFO := Lib.hid hfo
              have HRA := Lib.hid ha
              clear hfs hsg hra ha hfo h7
              subst hbn
              rcases HLST.out with ⟨_, hl1, hl2⟩ | ⟨z, hzx, hzm, hl1, hl2⟩
              · rw [hl1] at h8
                have k8a := h8.cell 1 rfl
                have k8b := h8.cell 2 rfl
                have k8c := h8.free 1
                have k8d := h8.free 2
                have k8e := h8.pull4.cell 0 rfl
                have k8f := h8.pull5'.cell 0 rfl
                have pe := peq_same x
                have h9 : Sat w0 (qc q (.pointer fo) (.pointer none) (vi NN) * _) _ := h8.store 1 (.pointer none)
                have k9a := h9.cell 1 rfl
                have k9b := h9.cell 2 rfl
                have k9c := h9.free 1
                have k9d := h9.free 2
                have k9e := h9.pull4.cell 0 rfl
                have k9f := h9.pull5'.cell 0 rfl
                have h10 : Sat w0 (qc q (.pointer fo) (.pointer none) (vi LN) * _) _ := h9.store 2 (vi LN)
                have k10g := h10.pull2.cell 0 rfl
                have k10h := h10.pull2.free 0
                have k10i := h10.pull3.cell 0 rfl
                have k10j := h10.pull3.free 0
                have k10f := h10.pull5'.cell 0 rfl
                have h11 : Sat w0 (b4c (b2 + 2) (vi g) * _) _ := h10.pull2.store 0 (vi g)
                have k11i := h11.pull3.cell 0 rfl
                have k11j := h11.pull3.free 0
                have h12 : Sat w0 (b5c (b2 + 3) (.bool true) * _) _ := h11.pull3.store 0 (.bool true)
                have H12 := Lib.hid h12
                have HL2 := Lib.hid hl2
                clear h6 h8 h10 h11 h12 hl1 hl2 h9
                gi_wp2
                refine wpIn_quiet_tailR 7 (by kernel_rfl) (by kernel_rfl) (by kernel_rfl) ?_
                simp only [List.take_succ_cons, List.take_zero, List.drop_succ_cons, List.drop_zero]
                repeat (go_big_quiet_step (fail))
                refine wpQuiet_nil ?_
                gi_wp2
                exact HFIN.out .ret (.pointer fo) _ rfl (H12.out.drew.cast (by rw [HL2.out, HFS.out]; ac_rfl))
              · rw [hl1] at h8
                have k8a := h8.cell 1 rfl
                have k8b := h8.cell 2 rfl
                have k8c := h8.free 1
                have k8d := h8.free 2
                have k8e := h8.pull4.cell 0 rfl
                have k8f := h8.pull5'.cell 0 rfl
                obtain ⟨caz, hcz⟩ := sg_blk (T := 284) (z := z) (h8.cast (show _ = sgN (a ++ r) * (qc q (.pointer fo) (vp z) (vi NN) * (b4c (b2 + 2) (vi 0) * (b5c (b2 + 3) (.bool false) * (b2c b2 q * (nc x (vi g) (.pointer fo) * (pt ll Bo * (b3c (b2 + 1) (.func (.func 222) #[] #[vp ba, vp bp]) * (b2c bx q * (B * (F * (pt DD dmark * F2))))))))))) by ac_rfl)) hzm
                have hcx := h8.pull5'.blk.1
                have pn0 := peq_ne hzx hcz hcx
                have pn1 := peq_ned hzx hcz hcx
                clear hcz hcx hzx hzm
                have h10 : Sat w0 (qc q (.pointer fo) (vp z) (vi LN) * _) _ := h8.store 2 (vi LN)
                have k10g := h10.pull2.cell 0 rfl
                have k10h := h10.pull2.free 0
                have k10i := h10.pull3.cell 0 rfl
                have k10j := h10.pull3.free 0
                have k10f := h10.pull5'.cell 0 rfl
                have h11 : Sat w0 (b4c (b2 + 2) (vi g) * _) _ := h10.pull2.store 0 (vi g)
                have k11i := h11.pull3.cell 0 rfl
                have k11j := h11.pull3.free 0
                have h12 : Sat w0 (b5c (b2 + 3) (.bool true) * _) _ := h11.pull3.store 0 (.bool true)
                have H12 := Lib.hid h12
                have HL2 := Lib.hid hl2
                clear h6 h8 h10 h11 h12 hl1 hl2
                gi_wp2
                refine wpIn_quiet_tailR 7 (by kernel_rfl) (by kernel_rfl) (by kernel_rfl) ?_
                simp only [List.take_succ_cons, List.take_zero, List.drop_succ_cons, List.drop_zero]
                repeat (go_big_quiet_step (fail))
                refine wpQuiet_nil ?_
                gi_wp2
                exact HFIN.out .ret (.pointer fo) _ rfl (H12.out.drew.cast (by rw [HL2.out, HFS.out]; ac_rfl))
            · rw [List.concat_eq_append] at ha
              have hbn : bf = vp c := by rw [← HBF.out, ha]; exact lst_snoc _ _ _
              have hfs : fst (.pointer none) ns = fst (.pointer none) (a ++ r) := by rw [HNR.out, ha]; exact fst_mid
              have hsg : sgN ns = sgN (a1 ++ (c, hcv) :: (x, g) :: r) := by rw [HNR.out, ha]; simp
              have hsg2 : sgN (a1 ++ (c, hcv) :: r) = sgN (a ++ r) := by rw [ha]; simp
              have h7 := sg_del2 (F := qc q (fst (.pointer none) ns) (lst (.pointer none) ns) (vi NN) * (b4c (b2 + 2) (vi 0) * (b5c (b2 + 3) (.bool false) * (b2c b2 q * (pt ll Bo * (b3c (b2 + 1) (.func (.func 222) #[] #[vp ba, vp bp]) * (b2c bx q * (B * (F * (pt DD dmark * F2)))))))))) (h6.cast (show _ = sgN (a1 ++ (c, hcv) :: (x, g) :: r) * _ by rw [← hsg]; ac_rfl))
              rw [hfo] at h7
              have u0 := h7.1
              have u1 := h7.2.1
              have u2 := h7.2.2.1
              have h8 : Sat w0 (qc q (fst (.pointer none) ns) (lst (.pointer none) ns) (vi NN) * (b4c (b2 + 2) (vi 0) * (b5c (b2 + 3) (.bool false) * (b2c b2 q * (nc x (vi g) (.pointer fo) * (sgN (a1 ++ (c, hcv) :: r) * (pt ll Bo * (b3c (b2 + 1) (.func (.func 222) #[] #[vp ba, vp bp]) * (b2c bx q * (B * (F * (pt DD dmark * F2)))))))))))) _ := h7.2.2.2.cast (by ac_rfl)
              rw [hsg2, hfs] at h8
              have HRA := Lib.hid ha
              clear h7 hsg hsg2 hfs ha hfo
              subst hbn
              rcases HLST.out with ⟨_, hl1, hl2⟩ | ⟨z, hzx, hzm, hl1, hl2⟩
              · rw [hl1] at h8
                have k8a := h8.cell 1 rfl
                have k8b := h8.cell 2 rfl
                have k8c := h8.free 1
                have k8d := h8.free 2
                have k8e := h8.pull4.cell 0 rfl
                have k8f := h8.pull5'.cell 0 rfl
                have pe := peq_same x
                have h9 : Sat w0 (qc q (fst (.pointer none) (a ++ r)) (vp c) (vi NN) * _) _ := h8.store 1 (vp c)
                have k9a := h9.cell 1 rfl
                have k9b := h9.cell 2 rfl
                have k9c := h9.free 1
                have k9d := h9.free 2
                have k9e := h9.pull4.cell 0 rfl
                have k9f := h9.pull5'.cell 0 rfl
                have h10 : Sat w0 (qc q (fst (.pointer none) (a ++ r)) (vp c) (vi LN) * _) _ := h9.store 2 (vi LN)
                have k10g := h10.pull2.cell 0 rfl
                have k10h := h10.pull2.free 0
                have k10i := h10.pull3.cell 0 rfl
                have k10j := h10.pull3.free 0
                have k10f := h10.pull5'.cell 0 rfl
                have h11 : Sat w0 (b4c (b2 + 2) (vi g) * _) _ := h10.pull2.store 0 (vi g)
                have k11i := h11.pull3.cell 0 rfl
                have k11j := h11.pull3.free 0
                have h12 : Sat w0 (b5c (b2 + 3) (.bool true) * _) _ := h11.pull3.store 0 (.bool true)
                have H12 := Lib.hid h12
                have HL2 := Lib.hid hl2
                clear h6 h8 h10 h11 h12 hl1 hl2 h9
                gi_wp2
                exact HFIN.out .ret (.pointer fo) _ rfl (H12.out.cast (by rw [HL2.out]; ac_rfl))
              · rw [hl1] at h8
                have k8a := h8.cell 1 rfl
                have k8b := h8.cell 2 rfl
                have k8c := h8.free 1
                have k8d := h8.free 2
                have k8e := h8.pull4.cell 0 rfl
                have k8f := h8.pull5'.cell 0 rfl
                obtain ⟨caz, hcz⟩ := sg_blk (T := 284) (z := z) (h8.cast (show _ = sgN (a ++ r) * (qc q (fst (.pointer none) (a ++ r)) (vp z) (vi NN) * (b4c (b2 + 2) (vi 0) * (b5c (b2 + 3) (.bool false) * (b2c b2 q * (nc x (vi g) (.pointer fo) * (pt ll Bo * (b3c (b2 + 1) (.func (.func 222) #[] #[vp ba, vp bp]) * (b2c bx q * (B * (F * (pt DD dmark * F2))))))))))) by ac_rfl)) hzm
                have hcx := h8.pull5'.blk.1
                have pn0 := peq_ne hzx hcz hcx
                have pn1 := peq_ned hzx hcz hcx
                clear hcz hcx hzx hzm
                have h10 : Sat w0 (qc q (fst (.pointer none) (a ++ r)) (vp z) (vi LN) * _) _ := h8.store 2 (vi LN)
                have k10g := h10.pull2.cell 0 rfl
                have k10h := h10.pull2.free 0
                have k10i := h10.pull3.cell 0 rfl
                have k10j := h10.pull3.free 0
                have k10f := h10.pull5'.cell 0 rfl
                have h11 : Sat w0 (b4c (b2 + 2) (vi g) * _) _ := h10.pull2.store 0 (vi g)
                have k11i := h11.pull3.cell 0 rfl
                have k11j := h11.pull3.free 0
                have h12 : Sat w0 (b5c (b2 + 3) (.bool true) * _) _ := h11.pull3.store 0 (.bool true)
                have H12 := Lib.hid h12
                have HL2 := Lib.hid hl2
                clear h6 h8 h10 h11 h12 hl1 hl2
                gi_wp2
                exact HFIN.out .ret (.pointer fo) _ rfl (H12.out.cast (by rw [HL2.out]; ac_rfl))
      refine hY.mono ?_
      rintro e W' (⟨rfl, h9⟩ | ⟨c, rfl, h9⟩)
      · exact .inl ⟨rfl, h9.cast (by ac_rfl)⟩
      · refine .inr ⟨rfl, ?_⟩
        exact (Sat.exI (f := fun c => pt ll (Rd c) * (pt DD dmark * given (c = .ret) (gQ q (xs.eraseP f) * (b4c (b2 + 2) (vi ((xs.find? f).getD 0)) * (b5c (b2 + 3) (.bool (xs.find? f).isSome) * (B * F)))))) (F := F2) c (h9.cast (by ac_rfl)))
  case done =>
    intro DD W hS
    have h2 := hS.cast (show _ = given (∀ y ∈ xs.take ns.length, f y = false) (B * F) * (pt DD dmark * (itG bx q ns * (b2c b2 q * (b3c (b2 + 1) (.func (.func 222) #[] #[vp ba, vp bp]) * (b4c (b2 + 2) (vi 0) * (b5c (b2 + 3) (.bool false) * emp)))))) by rw [sep_emp_b5]; ac_rfl)
    obtain ⟨hno, h3⟩ := h2.givenE
    rw [show ns.length = xs.length by rw [← HNS.out]; simp, List.take_length] at hno
    have hfn := find_no hno
    have HFN := Lib.hid hfn
    have h4 : Sat w0 (b4c (b2 + 2) (vi 0) * (b5c (b2 + 3) (.bool false) * (pt DD dmark * (b2c b2 q * (b3c (b2 + 1) (.func (.func 222) #[] #[vp ba, vp bp]) * (b2c bx q * (qc q (fst (.pointer none) ns) (lst (.pointer none) ns) (vi ns.length) * (sgN ns * (B * F))))))))) W := h3.cast (by rw [sep_emp_b5, itG_eq]; ac_rfl)
    have r0 := h4.cell 0 rfl
    have r1 := h4.free 0
    have h5 : Sat w0 (b4c (b2 + 2) (vi 0) * _) _ := h4.store 0 (vi 0)
    have r2 := h5.pull2.cell 0 rfl
    have r3 := h5.pull2.free 0
    have h6 : Sat w0 (b5c (b2 + 3) (.bool false) * _) _ := h5.pull2.store 0 (.bool false)
    have hk := h6.pull3.blk.1
    have H6 := Lib.hid h6
    clear hS h2 h3 h4 h5 h6 hno hfn
    subst ha0
    gi_wp2
    generalize hW4 : World.setCell _ _ _ = W4 at *
    refine ⟨by simp, .inl ⟨_, _, rfl, run_takeDeferred hk, ?_⟩⟩
    have h7 := H6.out.pull3.putObj (o' := .deferred none)
    have k0 := h7.pull2.cell 0 rfl
    have k1 := h7.pull3.cell 0 rfl
    rw [HFN.out.1, HFN.out.2]
    exact ⟨.tuple #[vi 0, .bool false], by simp [results, Tryz.f156, go_sem, k0, k1], rfl, gq_shut ns HNS.out (h7.dropL.dropL.dropL.dropL.dropL.dropL)⟩
  case stop =>
    intro c DD W hS
    obtain ⟨hc, hS2⟩ := (hS.cast (sep_comm _ _)).givenE
    have h4 : Sat w0 (b4c (b2 + 2) (vi ((xs.find? f).getD 0)) * (b5c (b2 + 3) (.bool (xs.find? f).isSome) * (pt DD dmark * (gQ q (xs.eraseP f) * (B * F))))) W := hS2.cast (by ac_rfl)
    have hk := h4.pull3.blk.1
    have H4 := Lib.hid h4
    clear hS hS2 h4
    subst hc
    subst ha0
    gi_wp2
    refine ⟨by simp, .inl ⟨_, _, rfl, run_takeDeferred hk, ?_⟩⟩
    have h7 := H4.out.pull3.putObj (o' := .deferred none)
    have k0 := h7.pull2.cell 0 rfl
    have k1 := h7.pull3.cell 0 rfl
    exact ⟨.tuple #[vi ((xs.find? f).getD 0), .bool (xs.find? f).isSome], by simp [results, Tryz.f156, go_sem, k0, k1], rfl, h7.dropL.dropL.dropL⟩
end
end Go.Proofs.YtdbppfcilaajaaaGreat.Gq
