/-
  heap.Heap.All. No statement is proved here.
-/
import Derived.Test.YtcchfdoeacgapaaHm16
import Derived.Test.YtcchfdoeacgapaaHmR
namespace Go.Proofs.Ytcchfdoeacgapaa.Hm
open Go.RowKit Go.Sort
set_option linter.unusedVariables false

section
variable {w0 w : World} {F : Hp} {h : Nat} {p : Int} {A : List Tm}
theorem sort_' {v : Value} (hS : Sat w0 (sl 82 3 v A.length (tmsV A) * F) w) (hn : A.length ≤ 4096) :
    Calls Try.prog 62 #[v, .func (.func 63) #[] #[]] w fun e w' => e = .returned (.tuple #[]) ∧ ∃ A', A'.Perm A ∧ SortedT A' ∧ Sat w0 (sl 82 3 v A.length (tmsV A') * F) w' := by
  rcases hS.slE.2 with ⟨rfl, h0, _⟩ | ⟨g, c, cur, rfl, _⟩
  · refine (sort_none w _).mono ?_
    rintro e w' ⟨rfl, rfl⟩
    refine ⟨rfl, A, List.Perm.refl _, ?_, hS⟩
    intro i j _ hj
    omega
  · exact sort_ hS hn
theorem all_nil (w : World) : Calls Try.prog 40 #[.pointer none] w fun e w' => e = .returned (.slice none 0 0) ∧ w = w' := by
  go_enter Try.func40, Try.ntmps40
  go_wp2
  go_ret
  exact ⟨rfl, rfl⟩

/-- Where All's loop stands. -/
def AllIn (w0 : World) (G : Hp) (l : Value) (S : List Tm) (k : Nat) (o : Value) (w : World) : Prop :=
  Sat w0 (sl 68 2 o k (trsV ((S.take k).map trOf)) * (sl 82 3 l S.length (tmsV S) * G)) w
set_option maxRecDepth 100000 in
set_option maxHeartbeats 4000000 in
theorem all_ (hS : Sat w0 (heapP h A p * F) w) (hl : A.length ≤ 4096) : Calls Try.prog 40 #[vp h] w fun e w' => ∃ v S, e = .returned v ∧ S.Perm A ∧ SortedT S ∧ Sat w0 (sl 68 2 v S.length (trsV (S.map trOf)) * (heapP h A p * F)) w' := by
  obtain ⟨vl, vm, M, h1, h2, h3, hB⟩ := heapP_open hS
  have c0 := hB.cell 0 rfl
  have HX : Hid (∀ (G2 : Hp) (w' : World), Sat w0 (G2 * (sl 82 3 vl A.length (tmsV A) * (hpB h vl vm p * (mapI vm M * F)))) w' → Sat w0 (G2 * (heapP h A p * F)) w') := Lib.hid fun G2 w' h' =>
    (heapP_shut (F := G2 * F) h1 h2 h3 (h'.cast (by ac_rfl))).cast (by ac_rfl)
  have HC := Lib.hid (clone_ hB.pull2 hl)
  generalize hG : sl 82 3 vl A.length (tmsV A) * (hpB h vl vm p * (mapI vm M * F)) = G at HX HC
  clear hG hS hB h1 h2 h3
  have Hl := Lib.hid hl
  clear hl
  go_enter Try.func40, Try.ntmps40
  go_wp2_with (first
    | (go_at_call 61; refine HC.out.mono ?_; rintro e w1 ⟨u, rfl, hS1⟩; have HQ := Lib.hid (sort_' hS1 Hl.out); obtain ⟨ao, cap, rfl⟩ := hS1.rd.len; clear hS1)
    | (go_at_call 62; refine HQ.out.mono ?_; rintro e w2 ⟨rfl, S, hp, hs, hS2⟩; have H2 := Lib.hid hS2; have HP := Lib.hid hp; have HO := Lib.hid hs; clear hS2 hp hs))
  obtain ⟨n, hn⟩ : ∃ n, A.length = n := ⟨_, rfl⟩
  have hSn : S.length = n := HP.out.length_eq.trans hn
  have hb : n ≤ 4096 := by rw [← hn]; exact Hl.out
  have H3 : Hid (AllIn w0 G (.slice ao n cap) S 0 (.slice none 0 0) w2) := Lib.hid (by
    have := H2.out
    rw [hn] at this
    unfold AllIn
    rw [hSn]
    exact this.addNil _ _)
  rw [hn]
  clear HQ H2
  go_loopw [2, 17] (fun o i wr => ∃ k : Nat, k ≤ n ∧ i = vi k ∧ (∃ bo co, o = .slice bo k co) ∧ Hid (AllIn w0 G (.slice ao n cap) S k o wr)) (fun _ i _ => n - (intOf i).toNat)
  case atStart => exact ⟨0, Nat.zero_le _, rfl, ⟨_, _, rfl⟩, H3⟩
  case round =>
    clear H3
    obtain ⟨k, hk, rfl, ⟨bo, co, rfl⟩, HK⟩ := hrel
    by_cases hlt : k < n
    · have hki : (k : Int) < (n : Int) := by omega
      have hh := HK.out
      unfold AllIn at hh
      rw [hSn] at hh
      obtain ⟨g, rfl⟩ := slSome hh.pull2 (by omega)
      have q0 := hh.pull2.slCell (k * 3) (u := vu (gt S k).1) (by rw [show k * 3 = k * 3 + 0 from rfl, tmsV_at S k 0 (by omega) (by omega)]; rfl)
      have q1 := hh.pull2.slCell (k * 3 + 1) (u := vi (gt S k).2.1) (by rw [tmsV_at S k 1 (by omega) (by omega)]; rfl)
      have q2 := hh.pull2.slCell (k * 3 + 2) (u := vi (gt S k).2.2) (by rw [tmsV_at S k 2 (by omega) (by omega)]; rfl)
      have hkd : decide (k < n) = true := decide_eq_true hlt
      have HH := Lib.hid hh
      clear hh
      go_wp2_with (at_builtin; refine wpList_append_sl Etr rfl (.tmp 21) (.tmp 24) rfl (by rfl) ((HH.out.alloc' _).alloc' _) (by rfl) (Rd.oneR _ _ _ (by simp)) (by simp [trV, Value.oneCell']) (by unfold maxLen; omega) (by omega) ?_; intro ao1 cap1 w9 hS9; have H9 := Lib.hid hS9; clear hS9)
      go_roundw
      case rel =>
        refine ⟨k + 1, by omega, by go_num, ⟨_, _, rfl⟩, Lib.hid ?_⟩
        have h9 := H9.out
        unfold AllIn
        rw [hSn]
        refine h9.cast ?_
        rw [show trsV ((S.take (k + 1)).map trOf) = trsV ((S.take k).map trOf) ++ trV ((gt S k).1, (gt S k).2.1) by
          rw [List.take_add_one, gt_eq (show k < S.length by omega), Option.toList, List.map_append, trsV_append]
          simp [trsV, trOf]]
      case measure => (simp [intOf]; try omega)
    · obtain rfl : k = n := by omega
      have hki : ¬ (k : Int) < (k : Int) := by omega
      have hkd : decide (k < k) = false := by simp
      go_wp2
      go_ret
      refine ⟨.slice bo k co, by simp, S, HP.out, HO.out, HX.out _ _ ?_⟩
      have := HK.out
      unfold AllIn at this
      rw [List.take_of_length_le (by omega)] at this
      rw [hSn] at this ⊢
      exact this.drop2
end
end Go.Proofs.Ytcchfdoeacgapaa.Hm
