/-
  The reference of layer 8: two that share a pool. No statement is proved here.
-/
import Derived.Test.YtknodagcmachiaaMg21
import Derived.Deep.RegionHeld3
import Derived.Test.YtknodagcmachiaaMg19
import Derived.Test.YtknodagcmachiaaCs6
import Derived.Test.YtknodagcmachiaaMg8
namespace Go.Proofs.Ytknodagcmachiaa.Cn
open Go.RowKit Ac Fi
set_option linter.unusedVariables false

section
variable {w0 w : World} {F : Hp} {q q2 n T T2 : Nat} {most times times2 : Int} {L0 L : Blks} {cs cs2 : List CP} {free free2 : List Nat}
structure YS where
  b : Nat
  cap : Nat
  rs : List RPl
def twY (L0 : Blks) (q q2 : Nat) (most : Int) (cs : List CP) (times : Int) (cs2 : List CP) (times2 : Int) : Hp :=
  ex fun x : YS × YS × Blks => given ((∀ y ∈ L0, y ∈ x.2.2) ∧ RM x.2.2 x.1.rs cs ∧ RM x.2.2 x.2.1.rs cs2) (rxB q x.1.b x.1.rs.length x.1.cap times most * (rxL x.1.b x.1.cap x.1.rs * (rxB q2 x.2.1.b x.2.1.rs.length x.2.1.cap times2 most * (rxL x.2.1.b x.2.1.cap x.2.1.rs * plB x.2.2))))
theorem ty_open (hS : Sat w0 (twY L0 q q2 most cs times cs2 times2 * F) w) : ∃ b cap rs b2 cap2 rs2 L, (∀ y ∈ L0, y ∈ L) ∧ RM L rs cs ∧ RM L rs2 cs2 ∧ Sat w0 (rxB q b rs.length cap times most * (rxL b cap rs * (rxB q2 b2 rs2.length cap2 times2 most * (rxL b2 cap2 rs2 * (plB L * F))))) w := by
  obtain ⟨⟨⟨b, cap, rs⟩, ⟨b2, cap2, rs2⟩, L⟩, hS⟩ := hS.exE
  obtain ⟨hp, hS⟩ := hS.givenE
  dsimp only at hS hp
  exact ⟨b, cap, rs, b2, cap2, rs2, L, hp.1, hp.2.1, hp.2.2, hS.cast (by ac_rfl)⟩
theorem ty_shut {b cap b2 cap2 : Nat} {rs rs2 : List RPl} (hl : ∀ y ∈ L0, y ∈ L) (hp : RM L rs cs) (hp2 : RM L rs2 cs2) (hS : Sat w0 (rxB q b rs.length cap times most * (rxL b cap rs * (rxB q2 b2 rs2.length cap2 times2 most * (rxL b2 cap2 rs2 * (plB L * F))))) w) : Sat w0 (twY L0 q q2 most cs times cs2 times2 * F) w :=
  Sat.exI (⟨b, cap, rs⟩, ⟨b2, cap2, rs2⟩, L) (Sat.givenI ⟨hl, hp, hp2⟩ (hS.cast (show _ = (rxB q b rs.length cap times most * (rxL b cap rs * (rxB q2 b2 rs2.length cap2 times2 most * (rxL b2 cap2 rs2 * plB L)))) * F by ac_rfl)))
theorem ty_swap (hS : Sat w0 (twY L0 q q2 most cs times cs2 times2 * F) w) : Sat w0 (twY L0 q2 q most cs2 times2 cs times * F) w := by
  obtain ⟨b, cap, rs, b2, cap2, rs2, L, hL, hp, hp2, hs⟩ := ty_open hS
  exact ty_shut (b := b2) (cap := cap2) (b2 := b) (cap2 := cap) hL hp2 hp (hs.cast (by ac_rfl))
theorem ty_fst (hS : Sat w0 (twY L0 q q2 most cs times cs2 times2 * F) w) : ∃ L G, (∀ y ∈ L0, y ∈ L) ∧ Sat w0 (cyQ L q most cs times * (G * F)) w ∧ ∀ (w0 w' : World) (L' : Blks) (cs' : List CP) (times' : Int) (F' : Hp), (∀ y ∈ L, y ∈ L') → Sat w0 (cyQ L' q most cs' times' * (G * F')) w' → Sat w0 (twY L' q q2 most cs' times' cs2 times2 * F') w' := by
  obtain ⟨b, cap, rs, b2, cap2, rs2, L, hL, hp, hp2, hs⟩ := ty_open hS
  refine ⟨L, rxB q2 b2 rs2.length cap2 times2 most * rxL b2 cap2 rs2, hL, cy_shut (b := b) (cap := cap) (fun y hy => hy) hp rfl (hs.cast (by ac_rfl)), fun w0 w' L' cs' times' F' hl' h' => ?_⟩
  obtain ⟨b3, cap3, rs3, L3, hL3, hp3, hs3⟩ := cy_open h'
  exact ty_shut (b := b3) (cap := cap3) (b2 := b2) (cap2 := cap2) hL3 hp3 (hp2.mono (fun y hy => hL3 y (hl' y hy))) (hs3.cast (by ac_rfl))
theorem ty_less (hS : Sat w0 (twY L q q2 most cs times cs2 times2 * F) w) (hl : ∀ y ∈ L0, y ∈ L) : Sat w0 (twY L0 q q2 most cs times cs2 times2 * F) w := by
  obtain ⟨b, cap, rs, b2, cap2, rs2, L2, hL, hp, hp2, hs⟩ := ty_open hS
  exact ty_shut (fun y hy => hL y (hl y hy)) hp hp2 hs
theorem ty_copy (hI : Inv n most T cs free times) (hS : Sat w0 (cyQ L0 q most cs times * F) w) :
    Calls Try.prog 26 #[vp q] w fun e w' => ∃ o, e = .returned (vp o) ∧ Sat w0 (twY L0 q o most cs times cs times * F) w' := by
  obtain ⟨b, cap, rs, L, hL, hp, hs⟩ := cy_open hS
  have hsm := hp.small hI
  refine (rx_copy hs hsm.1 hsm.2).mono fun e w' ⟨o, bo, co, he, h'⟩ => ⟨o, he, ty_shut (b := b) (cap := cap) (b2 := bo) (cap2 := co) hL hp hp (h'.cast (by ac_rfl))⟩
/-- So far both have the same. -/
def SamePre (cs cs2 : List CP) (m : Nat) : Prop := ∀ (k : Nat) (c c2 : CP), k < m → cs[k]? = some c → cs2[k]? = some c2 → c.there = c2.there ∧ (c.there = true → c.gen = c2.gen ∧ c.cx = c2.cx)
theorem SamePre.next {m : Nat} {c c2 : CP} (h : SamePre cs cs2 m) (h1 : cs[m]? = some c) (h2 : cs2[m]? = some c2) (e : c.there = c2.there ∧ (c.there = true → c.gen = c2.gen ∧ c.cx = c2.cx)) : SamePre cs cs2 (m + 1) := fun k d d2 hk hd hd2 => by
  by_cases he : k = m
  · subst he
    rw [h1] at hd
    rw [h2] at hd2
    cases hd
    cases hd2
    exact e
  · exact h k d d2 (by omega) hd hd2
theorem SamePre.all {m : Nat} (h : SamePre cs cs2 m) (hl : cs.length = m) : SameC cs cs2 := fun k c c2 h1 h2 => h k c c2 (by rw [← hl]; exact (List.getElem?_eq_some_iff.1 h1).1) h1 h2
end
end Go.Proofs.Ytknodagcmachiaa.Cn

namespace Go.Proofs.Ytknodagcmachiaa.Cn
open Go.RowKit Ac Fi
set_option linter.unusedVariables false
set_option linter.unusedSimpArgs false

section
variable {w0 w : World} {F : Hp} {q q2 n T T2 : Nat} {most times times2 : Int} {L0 : Blks} {cs cs2 : List CP} {free free2 : List Nat}
def RSameOut (w0 : World) (H : Hp) (P : Prop) (e : Ending) (w' : World) : Prop := ∃ b, e = .returned (.bool b) ∧ (b = true ↔ P) ∧ Sat w0 H w'
set_option maxRecDepth 100000 in
set_option maxHeartbeats 8000000 in
theorem ty_same (hI : Inv n most T cs free times) (hI2 : Inv n most T2 cs2 free2 times2) (hS0 : Sat w0 (twY L0 q q2 most cs times cs2 times2 * F) w) :
    Calls Try.prog 28 #[vp q, vp q2] w (RSameOut w0 (twY L0 q q2 most cs times cs2 times2 * F) (SameC cs cs2)) := by
  obtain ⟨b, cap, rs, b2, cap2, rs2, L, hL, hp, hp2, hS⟩ := ty_open hS0
  have hlen : rs.length = rs2.length := by rw [hp.len, hp2.len, hI.len, hI2.len]
  have hlc : rs.length = cs.length := hp.len
  have hlc2 : rs2.length = cs2.length := hp2.len
  have hsm := hI.small
  have hln := hI.len
  have HI := Lib.hid hI
  have HI2 := Lib.hid hI2
  have HP := Lib.hid hp
  have HP2 := Lib.hid hp2
  have HL := Lib.hid hL
  have c0 := hS.cell 0 rfl
  have c2 := hS.cell 2 rfl
  have d0 := hS.pull3.cell 0 rfl
  have d2 := hS.pull3.cell 2 rfl
  have HB := Lib.hid hS
  have hnn : ((rs.length : Int) != (rs2.length : Int)) = false := by simp [hlen]
  have HLEN := Lib.hid (show rs.length = rs2.length ∧ rs.length = cs.length ∧ rs2.length = cs2.length from ⟨hlen, hlc, hlc2⟩)
  have hrl : rs.length ≤ 32 := by omega
  clear hS0 hS hI hI2 hp hp2 hL hlen hlc hlc2 hsm hln
  go_enter Try.func28, Try.ntmps28
  go_wp2_with fail
  go_quiet (fail)
  clear c0 c2 d0 d2
  go_wp2_with fail
  go_loopw [5] (fun ix wr => ∃ k : Nat, k ≤ rs.length ∧ ix = vi k ∧ Hid (SamePre cs cs2 k) ∧ Sat w0 (rxB q b rs.length cap times most * (rxL b cap rs * (rxB q2 b2 rs2.length cap2 times2 most * (rxL b2 cap2 rs2 * (plB L * F))))) wr) (fun ix _ => rs.length - (intOf ix).toNat)
  case atStart => exact ⟨0, Nat.zero_le _, rfl, Lib.hid (fun k c c2 hk => by omega), HB.out.drewN _⟩
  case round =>
    clear HB
    obtain ⟨k, hk, rfl, hM, hS⟩ := hrel
    have c0 := hS.cell 0 rfl
    have c1 := hS.pull3.cell 0 rfl
    by_cases hlt : k < rs.length
    · have hki : (k : Int) < (rs.length : Int) := by omega
      have hkk : k < rs2.length ∧ k < cs.length ∧ k < cs2.length := by have := HLEN.out; omega
      have hki2 : (k : Int) < (rs2.length : Int) := by omega
      have hk0 : (0 : Int) ≤ (k : Int) := by omega
      obtain ⟨a, ha⟩ : ∃ a, rs[k]? = some a := ⟨rs[k], List.getElem?_eq_getElem hlt⟩
      obtain ⟨d, hd⟩ : ∃ d, rs2[k]? = some d := ⟨rs2[k]'(by omega), List.getElem?_eq_getElem _⟩
      obtain ⟨c, hc⟩ : ∃ c, cs[k]? = some c := ⟨cs[k]'(by omega), List.getElem?_eq_getElem _⟩
      obtain ⟨cc, hcc⟩ : ∃ cc, cs2[k]? = some cc := ⟨cs2[k]'(by omega), List.getElem?_eq_getElem _⟩
      obtain ⟨e1, e2, e3, e4⟩ := HP.out.at_ k a c ha hc
      obtain ⟨f1, f2, f3, f4⟩ := HP2.out.at_ k d cc hd hcc
      have HNX : Hid ((c.there = cc.there ∧ (c.there = true → c.gen = cc.gen ∧ c.cx = cc.cx)) → SamePre cs cs2 (k + 1)) := Lib.hid (fun e => hM.out.next hc hcc e)
      have HNO : Hid (¬ (c.there = cc.there ∧ (c.there = true → c.gen = cc.gen ∧ c.cx = cc.cx)) → ¬ SameC cs cs2) := Lib.hid (fun hn hs => hn (hs k c cc hc hcc))
      have hlx : c.cx.l.length ≤ 16 ∧ cc.cx.l.length ≤ 16 := by
        constructor
        · by_cases ht : c.there = true
          · have := (HI.out.live k c hc ht).len
            have := HI.out.mst
            omega
          · rw [HI.out.gone k c hc (by simpa using ht)]; simp
        · by_cases ht : cc.there = true
          · have := (HI2.out.live k cc hcc ht).len
            have := HI2.out.mst
            omega
          · rw [HI2.out.gone k cc hcc (by simpa using ht)]; simp
      rw [← e1, ← e2, ← f1, ← f2] at HNX HNO
      have x0 := rx_at hS.pull2 (j := 0) ha rfl
      have x1 := rx_at hS.pull2 (j := 1) ha rfl
      have x2 := rx_at hS.pull2 (j := 2) ha rfl
      have x3 := rx_at hS.pull2 (j := 3) ha rfl
      have x4 := rx_at hS.pull2 (j := 4) ha rfl
      have x5 := rx_at hS.pull2 (j := 5) ha rfl
      have x6 := rx_at hS.pull2 (j := 6) ha rfl
      have y0 := rx_at hS.pull4 (j := 0) hd rfl
      have y1 := rx_at hS.pull4 (j := 1) hd rfl
      have y2 := rx_at hS.pull4 (j := 2) hd rfl
      have y3 := rx_at hS.pull4 (j := 3) hd rfl
      have y4 := rx_at hS.pull4 (j := 4) hd rfl
      have y5 := rx_at hS.pull4 (j := 5) hd rfl
      have y6 := rx_at hS.pull4 (j := 6) hd rfl
      rw [Nat.add_zero] at x0 y0
      obtain ⟨xg, xt, ⟨x0', x1', xa, xn, xc, x3'⟩, xf⟩ := a
      obtain ⟨yg, yt, ⟨y0', y1', ya, yn, yc, y3'⟩, yf⟩ := d
      have HE := Lib.hid e3
      have HF := Lib.hid f3
      dsimp only at x0 x1 x2 x3 x4 x5 x6 y0 y1 y2 y3 y4 y5 y6 HE HF HNX HNO
      have HS := Lib.hid hS
      clear hS e1 e2 e3 e4 f1 f2 f3 f4 ha hd hc hcc
      go_wp2_with fail
      go_region_held3 (fun w' => w'.cell? ⟨q, 0, none⟩ = some (.slice (some ⟨b, 0, none⟩) rs.length cap) ∧ w'.cell? ⟨q2, 0, none⟩ = some (.slice (some ⟨b2, 0, none⟩) rs2.length cap2) ∧ w'.cell? ⟨b, k * 7, none⟩ = some (vu xg) ∧ w'.cell? ⟨b, k * 7 + 1, none⟩ = some (.bool xt) ∧ w'.cell? ⟨b, k * 7 + 2, none⟩ = some (vu x0') ∧ w'.cell? ⟨b, k * 7 + 3, none⟩ = some (vu x1') ∧ w'.cell? ⟨b, k * 7 + 4, none⟩ = some (.slice xa xn xc) ∧ w'.cell? ⟨b, k * 7 + 5, none⟩ = some (vi x3') ∧ w'.cell? ⟨b, k * 7 + 6, none⟩ = some (vi xf) ∧ w'.cell? ⟨b2, k * 7, none⟩ = some (vu yg) ∧ w'.cell? ⟨b2, k * 7 + 1, none⟩ = some (.bool yt) ∧ w'.cell? ⟨b2, k * 7 + 2, none⟩ = some (vu y0') ∧ w'.cell? ⟨b2, k * 7 + 3, none⟩ = some (vu y1') ∧ w'.cell? ⟨b2, k * 7 + 4, none⟩ = some (.slice ya yn yc) ∧ w'.cell? ⟨b2, k * 7 + 5, none⟩ = some (vi y3') ∧ w'.cell? ⟨b2, k * 7 + 6, none⟩ = some (vi yf))
        (first | exact ⟨c0, c1, x0, x1, x2, x3, x4, x5, x6, y0, y1, y2, y3, y4, y5, y6⟩ | go_keep)
        (fail)
      all_goals (simp only [Exit.inBlock, Exit.then]; go_at_K)
      · have hA0 := (HS.out.alloc (.cells #[vu xg, .bool xt, vu x0', vu x1', .slice xa xn xc, vi x3', vi xf] 58)).alloc (.cells #[vu yg, .bool yt, vu y0', vu y1', .slice ya yn yc, vi y3', vi yf] 58)
        rw [World.size_alloc] at hA0
        have hA1 : Sat w0 (pc (wr.heap.size + 1) 58 [vu yg, .bool yt, vu y0', vu y1', .slice ya yn yc, vi y3', vi yf] * (pc wr.heap.size 58 [vu xg, .bool xt, vu x0', vu x1', .slice xa xn xc, vi x3', vi xf] * (rxB q b rs.length cap times most * (rxL b cap rs * (rxB q2 b2 rs2.length cap2 times2 most * (rxL b2 cap2 rs2 * (plB L * F))))))) _ := hA0
        have HA := Lib.hid (hA1.drew.cast (show _ = pc wr.heap.size 58 [vu xg, .bool xt, vu x0', vu x1', .slice xa xn xc, vi x3', vi xf] * (pc (wr.heap.size + 1) 58 [vu yg, .bool yt, vu y0', vu y1', .slice ya yn yc, vi y3', vi yf] * (rxB q b rs.length cap times most * (rxL b cap rs * (rxB q2 b2 rs2.length cap2 times2 most * (rxL b2 cap2 rs2 * (plB L * F)))))) by ac_rfl))
        clear hA0 hA1 x0 x1 x2 x3 x4 x5 x6 y0 y1 y2 y3 y4 y5 y6 c0 c1
        generalize hW1 : (World.alloc (World.alloc wr _) _).drew = W1
        have HA2 : Hid (Sat w0 (pc wr.heap.size 58 [vu xg, .bool xt, vu x0', vu x1', .slice xa xn xc, vi x3', vi xf] * (pc (wr.heap.size + 1) 58 [vu yg, .bool yt, vu y0', vu y1', .slice ya yn yc, vi y3', vi yf] * (rxB q b rs.length cap times most * (rxL b cap rs * (rxB q2 b2 rs2.length cap2 times2 most * (rxL b2 cap2 rs2 * (plB L * F))))))) W1) := Lib.hid (by rw [← hW1]; exact HA.out)
        clear HA hW1
        have HA := HA2
        clear HA2
        generalize wr.heap.size + 1 = bY at *
        generalize wr.heap.size = bX at *
        have x0 := HA.out.cell 0 rfl
        have y0 := HA.out.pull2.cell 0 rfl
        have x1 := HA.out.cell 1 rfl
        have y1 := HA.out.pull2.cell 1 rfl
        have x2 := HA.out.cell 2 rfl
        have y2 := HA.out.pull2.cell 2 rfl
        have x3 := HA.out.cell 3 rfl
        have y3 := HA.out.pull2.cell 3 rfl
        have x4 := HA.out.cell 4 rfl
        have y4 := HA.out.pull2.cell 4 rfl
        have x5 := HA.out.cell 5 rfl
        have y5 := HA.out.pull2.cell 5 rfl
        have x6 := HA.out.cell 6 rfl
        have y6 := HA.out.pull2.cell 6 rfl
        cases xt with
        | false =>
          cases yt with
          | false =>
            have HNX2 := Lib.hid (HNX.out ⟨rfl, fun h => by cases h⟩)
            clear HNX HNO
            go_wp2_with fail
            go_roundw
            case rel => exact ⟨k + 1, by omega, by go_num, HNX2, HA.out.dropL.dropL⟩
            case measure => (simp [intOf]; try omega)
          | true =>
            have HF2 := Lib.hid (HNO.out (by simp))
            go_wp2_with fail
            go_ret
            exact ⟨false, rfl, by simp [HF2.out], ty_shut HL.out HP.out HP2.out HA.out.dropL.dropL⟩
        | true =>
          cases yt with
          | false =>
            have HF2 := Lib.hid (HNO.out (by simp))
            go_wp2_with fail
            go_ret
            exact ⟨false, rfl, by simp [HF2.out], ty_shut HL.out HP.out HP2.out HA.out.dropL.dropL⟩
          | true =>
            by_cases hg : xg = yg
            · subst hg
              have hgb : (xg != xg) = false := by simp
              have hiff : SameX (⟨x0', x1', xa, xn, xc, x3'⟩ : El) (⟨y0', y1', ya, yn, yc, y3'⟩ : El) c.cx.l cc.cx.l ↔ c.cx = cc.cx := by
                obtain ⟨a1, a2, a3, a4⟩ := HE.out
                obtain ⟨d1, d2, d3, d4⟩ := HF.out
                dsimp only at a1 a2 a4 d1 d2 d4
                unfold SameX
                dsimp only
                constructor
                · rintro ⟨g1, g2, g3, g4⟩
                  generalize c.cx = U at *
                  generalize cc.cx = V at *
                  obtain ⟨u1, u2, u3, u4⟩ := U
                  obtain ⟨v1, v2, v3, v4⟩ := V
                  dsimp only at *
                  subst a1 a2 a4 d1 d2 d4 g1 g2 g3 g4
                  rfl
                · intro h
                  rw [a1, a2, a4, d1, d2, d4, h]
                  exact ⟨rfl, rfl, rfl, rfl⟩
              have HSO := Lib.hid (fun (w : World) (h1 : RdF w (.slice xa xn xc) c.cx.l) (h2 : RdF w (.slice ya yn yc) cc.cx.l) => sameOne_ (⟨x0', x1', xa, xn, xc, x3'⟩ : El) (⟨y0', y1', ya, yn, yc, y3'⟩ : El) c.cx.l cc.cx.l w h1 h2 (by omega) (by omega))
              rw [hiff] at HSO
              have hrd1 := Sat.plRd (HA.out.cast (show _ = plB L * (pc bX 58 [vu xg, .bool true, vu x0', vu x1', .slice xa xn xc, vi x3', vi xf] * (pc bY 58 [vu xg, .bool true, vu y0', vu y1', .slice ya yn yc, vi y3', vi yf] * (rxB q b rs.length cap times most * (rxL b cap rs * (rxB q2 b2 rs2.length cap2 times2 most * (rxL b2 cap2 rs2 * F)))))) by ac_rfl)) HE.out.2.2.1
              have hrd2 := Sat.plRd (HA.out.cast (show _ = plB L * (pc bX 58 [vu xg, .bool true, vu x0', vu x1', .slice xa xn xc, vi x3', vi xf] * (pc bY 58 [vu xg, .bool true, vu y0', vu y1', .slice ya yn yc, vi y3', vi yf] * (rxB q b rs.length cap times most * (rxL b cap rs * (rxB q2 b2 rs2.length cap2 times2 most * (rxL b2 cap2 rs2 * F)))))) by ac_rfl)) HF.out.2.2.1
              have HCALL := Lib.hid (HSO.out W1 hrd1 hrd2)
              clear hiff HSO hrd1 hrd2 HE HF hlx
              by_cases hcx : c.cx = cc.cx
              · have HNX2 := Lib.hid (HNX.out ⟨rfl, fun _ => ⟨rfl, hcx⟩⟩)
                have HCX := Lib.hid hcx
                clear HNX HNO hcx
                go_wp2_with (go_at_call 23; (with_reducible refine HCALL.out.mono ?_); rintro e w7 ⟨bb, rfl, hb, hbl⟩; obtain rfl : bb = true := hb.2 HCX.out; have H7 := Lib.hid (Sat.after HA.out hbl); clear hb hbl)
                go_roundw
                case rel => exact ⟨k + 1, by omega, by go_num, HNX2, H7.out.dropL.dropL⟩
                case measure => (simp [intOf]; try omega)
              · have HF2 := Lib.hid (HNO.out (fun h => hcx (h.2 rfl).2))
                have HCX := Lib.hid hcx
                clear HNX HNO hcx
                go_wp2_with (go_at_call 23; (with_reducible refine HCALL.out.mono ?_); rintro e w7 ⟨bb, rfl, hb, hbl⟩; obtain rfl : bb = false := (by cases bb; rfl; exact absurd (hb.1 rfl) HCX.out); have H7 := Lib.hid (Sat.after HA.out hbl); clear hb hbl)
                go_ret
                exact ⟨false, rfl, by simp [HF2.out], ty_shut HL.out HP.out HP2.out H7.out.dropL.dropL⟩
            · have HF2 := Lib.hid (HNO.out (fun h => hg (h.2 rfl).1))
              have hgb : (xg != yg) = true := by simpa using hg
              clear HNX HNO hg
              go_wp2_with fail
              go_ret
              exact ⟨false, rfl, by simp [HF2.out], ty_shut HL.out HP.out HP2.out HA.out.dropL.dropL⟩
      · have hA0 := (HS.out.alloc (.cells #[vu yg, .bool yt, vu y0', vu y1', .slice ya yn yc, vi y3', vi yf] 58)).alloc (.cells #[vu xg, .bool xt, vu x0', vu x1', .slice xa xn xc, vi x3', vi xf] 58)
        rw [World.size_alloc] at hA0
        have hA1 : Sat w0 (pc (wr.heap.size + 1) 58 [vu xg, .bool xt, vu x0', vu x1', .slice xa xn xc, vi x3', vi xf] * (pc wr.heap.size 58 [vu yg, .bool yt, vu y0', vu y1', .slice ya yn yc, vi y3', vi yf] * (rxB q b rs.length cap times most * (rxL b cap rs * (rxB q2 b2 rs2.length cap2 times2 most * (rxL b2 cap2 rs2 * (plB L * F))))))) _ := hA0
        have HA := Lib.hid (hA1.drew.cast (show _ = pc (wr.heap.size + 1) 58 [vu xg, .bool xt, vu x0', vu x1', .slice xa xn xc, vi x3', vi xf] * (pc wr.heap.size 58 [vu yg, .bool yt, vu y0', vu y1', .slice ya yn yc, vi y3', vi yf] * (rxB q b rs.length cap times most * (rxL b cap rs * (rxB q2 b2 rs2.length cap2 times2 most * (rxL b2 cap2 rs2 * (plB L * F)))))) by ac_rfl))
        clear hA0 hA1 x0 x1 x2 x3 x4 x5 x6 y0 y1 y2 y3 y4 y5 y6 c0 c1
        generalize hW1 : (World.alloc (World.alloc wr _) _).drew = W1
        have HA2 : Hid (Sat w0 (pc (wr.heap.size + 1) 58 [vu xg, .bool xt, vu x0', vu x1', .slice xa xn xc, vi x3', vi xf] * (pc wr.heap.size 58 [vu yg, .bool yt, vu y0', vu y1', .slice ya yn yc, vi y3', vi yf] * (rxB q b rs.length cap times most * (rxL b cap rs * (rxB q2 b2 rs2.length cap2 times2 most * (rxL b2 cap2 rs2 * (plB L * F))))))) W1) := Lib.hid (by rw [← hW1]; exact HA.out)
        clear HA hW1
        have HA := HA2
        clear HA2
        generalize wr.heap.size + 1 = bX at *
        generalize wr.heap.size = bY at *
        have x0 := HA.out.cell 0 rfl
        have y0 := HA.out.pull2.cell 0 rfl
        have x1 := HA.out.cell 1 rfl
        have y1 := HA.out.pull2.cell 1 rfl
        have x2 := HA.out.cell 2 rfl
        have y2 := HA.out.pull2.cell 2 rfl
        have x3 := HA.out.cell 3 rfl
        have y3 := HA.out.pull2.cell 3 rfl
        have x4 := HA.out.cell 4 rfl
        have y4 := HA.out.pull2.cell 4 rfl
        have x5 := HA.out.cell 5 rfl
        have y5 := HA.out.pull2.cell 5 rfl
        have x6 := HA.out.cell 6 rfl
        have y6 := HA.out.pull2.cell 6 rfl
        cases xt with
        | false =>
          cases yt with
          | false =>
            have HNX2 := Lib.hid (HNX.out ⟨rfl, fun h => by cases h⟩)
            clear HNX HNO
            go_wp2_with fail
            go_roundw
            case rel => exact ⟨k + 1, by omega, by go_num, HNX2, HA.out.dropL.dropL⟩
            case measure => (simp [intOf]; try omega)
          | true =>
            have HF2 := Lib.hid (HNO.out (by simp))
            go_wp2_with fail
            go_ret
            exact ⟨false, rfl, by simp [HF2.out], ty_shut HL.out HP.out HP2.out HA.out.dropL.dropL⟩
        | true =>
          cases yt with
          | false =>
            have HF2 := Lib.hid (HNO.out (by simp))
            go_wp2_with fail
            go_ret
            exact ⟨false, rfl, by simp [HF2.out], ty_shut HL.out HP.out HP2.out HA.out.dropL.dropL⟩
          | true =>
            by_cases hg : xg = yg
            · subst hg
              have hgb : (xg != xg) = false := by simp
              have hiff : SameX (⟨x0', x1', xa, xn, xc, x3'⟩ : El) (⟨y0', y1', ya, yn, yc, y3'⟩ : El) c.cx.l cc.cx.l ↔ c.cx = cc.cx := by
                obtain ⟨a1, a2, a3, a4⟩ := HE.out
                obtain ⟨d1, d2, d3, d4⟩ := HF.out
                dsimp only at a1 a2 a4 d1 d2 d4
                unfold SameX
                dsimp only
                constructor
                · rintro ⟨g1, g2, g3, g4⟩
                  generalize c.cx = U at *
                  generalize cc.cx = V at *
                  obtain ⟨u1, u2, u3, u4⟩ := U
                  obtain ⟨v1, v2, v3, v4⟩ := V
                  dsimp only at *
                  subst a1 a2 a4 d1 d2 d4 g1 g2 g3 g4
                  rfl
                · intro h
                  rw [a1, a2, a4, d1, d2, d4, h]
                  exact ⟨rfl, rfl, rfl, rfl⟩
              have HSO := Lib.hid (fun (w : World) (h1 : RdF w (.slice xa xn xc) c.cx.l) (h2 : RdF w (.slice ya yn yc) cc.cx.l) => sameOne_ (⟨x0', x1', xa, xn, xc, x3'⟩ : El) (⟨y0', y1', ya, yn, yc, y3'⟩ : El) c.cx.l cc.cx.l w h1 h2 (by omega) (by omega))
              rw [hiff] at HSO
              have hrd1 := Sat.plRd (HA.out.cast (show _ = plB L * (pc bX 58 [vu xg, .bool true, vu x0', vu x1', .slice xa xn xc, vi x3', vi xf] * (pc bY 58 [vu xg, .bool true, vu y0', vu y1', .slice ya yn yc, vi y3', vi yf] * (rxB q b rs.length cap times most * (rxL b cap rs * (rxB q2 b2 rs2.length cap2 times2 most * (rxL b2 cap2 rs2 * F)))))) by ac_rfl)) HE.out.2.2.1
              have hrd2 := Sat.plRd (HA.out.cast (show _ = plB L * (pc bX 58 [vu xg, .bool true, vu x0', vu x1', .slice xa xn xc, vi x3', vi xf] * (pc bY 58 [vu xg, .bool true, vu y0', vu y1', .slice ya yn yc, vi y3', vi yf] * (rxB q b rs.length cap times most * (rxL b cap rs * (rxB q2 b2 rs2.length cap2 times2 most * (rxL b2 cap2 rs2 * F)))))) by ac_rfl)) HF.out.2.2.1
              have HCALL := Lib.hid (HSO.out W1 hrd1 hrd2)
              clear hiff HSO hrd1 hrd2 HE HF hlx
              by_cases hcx : c.cx = cc.cx
              · have HNX2 := Lib.hid (HNX.out ⟨rfl, fun _ => ⟨rfl, hcx⟩⟩)
                have HCX := Lib.hid hcx
                clear HNX HNO hcx
                go_wp2_with (go_at_call 23; (with_reducible refine HCALL.out.mono ?_); rintro e w7 ⟨bb, rfl, hb, hbl⟩; obtain rfl : bb = true := hb.2 HCX.out; have H7 := Lib.hid (Sat.after HA.out hbl); clear hb hbl)
                go_roundw
                case rel => exact ⟨k + 1, by omega, by go_num, HNX2, H7.out.dropL.dropL⟩
                case measure => (simp [intOf]; try omega)
              · have HF2 := Lib.hid (HNO.out (fun h => hcx (h.2 rfl).2))
                have HCX := Lib.hid hcx
                clear HNX HNO hcx
                go_wp2_with (go_at_call 23; (with_reducible refine HCALL.out.mono ?_); rintro e w7 ⟨bb, rfl, hb, hbl⟩; obtain rfl : bb = false := (by cases bb; rfl; exact absurd (hb.1 rfl) HCX.out); have H7 := Lib.hid (Sat.after HA.out hbl); clear hb hbl)
                go_ret
                exact ⟨false, rfl, by simp [HF2.out], ty_shut HL.out HP.out HP2.out H7.out.dropL.dropL⟩
            · have HF2 := Lib.hid (HNO.out (fun h => hg (h.2 rfl).1))
              have hgb : (xg != yg) = true := by simpa using hg
              clear HNX HNO hg
              go_wp2_with fail
              go_ret
              exact ⟨false, rfl, by simp [HF2.out], ty_shut HL.out HP.out HP2.out HA.out.dropL.dropL⟩
    · obtain rfl : k = rs.length := by omega
      have hki : ¬ (rs.length : Int) < (rs.length : Int) := by omega
      have HS := Lib.hid hS
      clear hS
      go_wp2_with fail
      go_ret
      exact ⟨true, rfl, by simp [hM.out.all HLEN.out.2.1.symm], ty_shut HL.out HP.out HP2.out HS.out⟩
end
end Go.Proofs.Ytknodagcmachiaa.Cn

namespace Go.Proofs.Ytknodagcmachiaa.Cn
open Go.RowKit Ac Fi
set_option linter.unusedVariables false
set_option linter.unusedSimpArgs false

/-- Two pairs, side by side. -/
abbrev prC (h h2 q q2 : Nat) (most : Int) (s s2 : CS) (F : Hp) : Hp := twX [] h h2 most s.cs s.free s2.cs s2.free * (twY [] q q2 most s.cs s.times s2.cs s2.times * F)
section
variable {w0 w : World} {F : Hp} {n T T2 h h2 q q2 : Nat} {most : Int} {s s2 : CS}
theorem pr_swap (hS : Sat w0 (prC h h2 q q2 most s s2 F) w) : Sat w0 (prC h2 h q2 q most s2 s F) w :=
  (ty_swap (tw_swap hS).pull2).pull2
theorem pr_fst (hS : Sat w0 (prC h h2 q q2 most s s2 F) w) : ∃ L L' G, Sat w0 (bothC h q most L L' s (G * F)) w ∧ ∀ (w0 w' : World) (s' : CS) (F' : Hp), Sat w0 (bothC h q most L L' s' (G * F')) w' → Sat w0 (prC h h2 q q2 most s' s2 F') w' := by
  obtain ⟨L, G, _, hs, hb⟩ := tw_fst hS
  obtain ⟨L', G', _, hs', hb'⟩ := ty_fst (hs.cast (show _ = twY [] q q2 most s.cs s.times s2.cs s2.times * (cxQ L h most s.cs s.free * (G * F)) by ac_rfl))
  refine ⟨L, L', G * G', hs'.cast (show _ = cxQ L h most s.cs s.free * (cyQ L' q most s.cs s.times * ((G * G') * F)) by ac_rfl), fun w0 w' s' F' h' => ?_⟩
  have h1 := hb w0 w' L s'.cs s'.free (cyQ L' q most s'.cs s'.times * (G' * F')) (fun y hy => hy) (h'.cast (show cxQ L h most s'.cs s'.free * (cyQ L' q most s'.cs s'.times * ((G * G') * F')) = _ by ac_rfl))
  have hz := hb' w0 w' L' s'.cs s'.times (twX L h h2 most s'.cs s'.free s2.cs s2.free * F') (fun y hy => hy) (h1.cast (by ac_rfl))
  have h3 := ty_less (L0 := []) hz (fun y hy => by simp at hy)
  exact (tw_less (L0 := []) (h3.cast (show _ = twX L h h2 most s'.cs s'.free s2.cs s2.free * (twY [] q q2 most s'.cs s'.times s2.cs s2.times * F') by ac_rfl)) (fun y hy => by simp at hy))
theorem pr_do (hI : InvS n most T s) (hT : T ≤ 100000) (hS : Sat w0 (prC h h2 q q2 most s s2 F) w) (x : Act8) (hx : x.Ok) : Calls Try.prog 18 #[vp h, vp q, x.val] w fun e w' => e = .returned (.bool true) ∧ Sat w0 (prC h h2 q q2 most (stepS most s x) s2 F) w' := by
  obtain ⟨L, L', G, hs, hb⟩ := pr_fst hS
  exact (do8 hI hT hs x hx).mono fun e w' ⟨he, h'⟩ => ⟨he, hb w0 w' _ F h'⟩
theorem pr_same (hI : InvS n most T s) (hS : Sat w0 (prC h h2 q q2 most s s2 F) w) (x : Act8) : Calls Try.prog 24 #[vp h, vp q, x.val] w fun e w' => e = .returned (.bool true) ∧ Sat w0 (prC h h2 q q2 most s s2 F) w' := by
  obtain ⟨L, L', G, hs, hb⟩ := pr_fst hS
  exact (same8 hI hs x).mono fun e w' ⟨he, h'⟩ => ⟨he, hb w0 w' _ F h'⟩
/-- The contexts are copied, then the reference's. -/
theorem pr_copy1 (hS : Sat w0 (bothC h q most [] [] s F) w) : Calls Try.prog 25 #[vp h] w fun e w' => ∃ o, e = .returned (vp o) ∧ Sat w0 (twX [] h o most s.cs s.free s.cs s.free * (cyQ [] q most s.cs s.times * F)) w' := tw_copy hS
theorem pr_copy2 (hI : InvS n most T s) {o : Nat} (hS : Sat w0 (twX [] h o most s.cs s.free s.cs s.free * (cyQ [] q most s.cs s.times * F)) w) : Calls Try.prog 26 #[vp q] w fun e w' => ∃ v, e = .returned (vp v) ∧ Sat w0 (prC h o q v most s s F) w' :=
  (ty_copy hI hS.pull2).mono fun e w' ⟨v, he, h'⟩ => ⟨v, he, h'.pull2⟩
open Classical in
noncomputable def alike (s s2 : CS) : Bool := decide (SameC s.cs s2.cs)
open Classical in
theorem alike_symm (s s2 : CS) : alike s s2 = alike s2 s := by
  unfold alike
  exact decide_eq_decide.2 ⟨SameC.symm, SameC.symm⟩
open Classical in
theorem alike_self (s : CS) : alike s s = true := by
  unfold alike
  exact decide_eq_true (SameC.refl s.cs)
open Classical in
theorem is_alike {b : Bool} (hb : b = true ↔ SameC s.cs s2.cs) : b = alike s s2 := by
  unfold alike
  by_cases hs : SameC s.cs s2.cs
  · rw [hb.2 hs, decide_eq_true hs]
  · rw [decide_eq_false hs]
    cases b with
    | true => exact absurd (hb.1 rfl) hs
    | false => rfl
theorem pr_sameP (hI : InvS n most T s) (hI2 : InvS n most T2 s2) (hS : Sat w0 (prC h h2 q q2 most s s2 F) w) : Calls Try.prog 27 #[vp h, vp h2] w fun e w' => e = .returned (.bool (alike s s2)) ∧ Sat w0 (prC h h2 q q2 most s s2 F) w' :=
  (tw_same hI hI2 hS).mono fun e w' ⟨b, he, hb, h'⟩ => ⟨by rw [he, is_alike hb], h'⟩
theorem pr_sameR (hI : InvS n most T s) (hI2 : InvS n most T2 s2) (hS : Sat w0 (prC h h2 q q2 most s s2 F) w) : Calls Try.prog 28 #[vp q, vp q2] w fun e w' => e = .returned (.bool (alike s s2)) ∧ Sat w0 (prC h h2 q q2 most s s2 F) w' :=
  (ty_same hI hI2 hS.pull2).mono fun e w' ⟨b, he, hb, h'⟩ => ⟨by rw [he, is_alike hb], h'.pull2⟩
end
end Go.Proofs.Ytknodagcmachiaa.Cn

namespace Go.Proofs.Ytknodagcmachiaa.Cn
open Go.RowKit Ac Fi
set_option linter.unusedVariables false
set_option linter.unusedSimpArgs false

set_option maxRecDepth 100000 in
set_option maxHeartbeats 8000000 in
theorem copies8_row (w0 : World) (size : Int) (ws : (Lit.int .i64 size).wf = true) (most : Int) (wm : (Lit.int .i64 most).wf = true) (v2 : Value) (n : Nat) (A : Nat → Int) (h2 : ArgK w0 8 kA8 v2 n A)
    (v3 : Value) (n3 : Nat) (A3 : Nat → Int) (h3 : ArgK w0 8 kA8 v3 n3 A3) (v4 : Value) (n4 : Nat) (A4 : Nat → Int) (h4 : ArgK w0 8 kA8 v4 n4 A4) :
    Calls Try.prog 7 #[vi size, vi most, v2, v3, v4] w0 (QP8 w0) := by
  obtain ⟨ao, cap, rfl⟩ : ∃ ao cap, v2 = .slice ao n cap := by
    rcases h2.form with ⟨rfl, ao, cap, h⟩ | ⟨b, off, cap, h, _⟩
    · exact ⟨_, _, h⟩
    · exact ⟨_, _, h⟩
  obtain ⟨ao3, cap3, rfl⟩ : ∃ ao cap, v3 = .slice ao n3 cap := by
    rcases h3.form with ⟨rfl, ao, cap, h⟩ | ⟨b, off, cap, h, _⟩
    · exact ⟨_, _, h⟩
    · exact ⟨_, _, h⟩
  obtain ⟨ao4, cap4, rfl⟩ : ∃ ao cap, v4 = .slice ao n4 cap := by
    rcases h4.form with ⟨rfl, ao, cap, h⟩ | ⟨b, off, cap, h, _⟩
    · exact ⟨_, _, h⟩
    · exact ⟨_, _, h⟩
  have HA2 := Lib.hid h2
  have HA3 := Lib.hid h3
  have HA4 := Lib.hid h4
  clear h2 h3 h4
  by_cases hn : 50 < n
  · have hni : (50 : Int) < (n : Int) := by omega
    go_enter Try.func7, Try.ntmps7
    go_wp2_with (first
      | (go_at_call 9; refine (known08 w0).mono ?_; rintro e w2 ⟨rfl, hS⟩)
      )
    go_ret
    exact ⟨by simp, hS⟩

  have hni : ¬ (50 : Int) < (n : Int) := by omega
  by_cases hn3 : 25 < n3
  · have hni3 : (25 : Int) < (n3 : Int) := by omega
    go_enter Try.func7, Try.ntmps7
    go_wp2_with (first
      | (go_at_call 9; refine (known08 w0).mono ?_; rintro e w2 ⟨rfl, hS⟩)
      )
    go_ret
    exact ⟨by simp, hS⟩

  have hni3 : ¬ (25 : Int) < (n3 : Int) := by omega
  by_cases hn4 : 25 < n4
  · have hni4 : (25 : Int) < (n4 : Int) := by omega
    go_enter Try.func7, Try.ntmps7
    go_wp2_with (first
      | (go_at_call 9; refine (known08 w0).mono ?_; rintro e w2 ⟨rfl, hS⟩)
      )
    go_ret
    exact ⟨by simp, hS⟩

  have hni4 : ¬ (25 : Int) < (n4 : Int) := by omega
  by_cases hm : size < 1 ∨ 32 < size ∨ most < 2 ∨ 16 < most
  · have HM := Lib.hid (r_may_no size most hm w0)
    clear hm
    go_enter Try.func7, Try.ntmps7
    go_wp2_with (first
      | (go_at_call 16; (with_reducible refine HM.out.mono ?_); rintro e w1 ⟨rfl, rfl⟩)
      | (go_at_call 9; refine (known08 w0).mono ?_; rintro e w2 ⟨rfl, hS⟩)
      )
    go_ret
    exact ⟨by simp, hS⟩

  · obtain ⟨N, rfl⟩ := Int.eq_ofNat_of_zero_le (show 0 ≤ size by omega)
    have hN : 1 ≤ N ∧ N ≤ 32 := by omega
    have hM : 2 ≤ most ∧ most ≤ 16 := by omega
    have HI := Lib.hid (InvS.new N hN most hM)
    have HN := Lib.hid (p_new N hN hM (Sat.start w0))
    have HM := Lib.hid (r_may_yes N most (by omega) (by omega) hM.1 hM.2)
    clear hm
    go_enter Try.func7, Try.ntmps7
    go_wp2_with (first
      | (go_at_call 10; (with_reducible refine HN.out.mono ?_); rintro e w1 ⟨h, rfl, hS1⟩; have HNR := Lib.hid (both_new hS1 hN); clear hS1)
      | (go_at_call 16; (with_reducible refine (HM.out _).mono ?_); rintro e w1' ⟨rfl, rfl⟩)
      | (go_at_call 17; (with_reducible refine HNR.out.mono ?_); rintro e w2 ⟨q, rfl, hS2⟩; have HPREV := Lib.hid hS2; clear hS2))
    clear HNR HM HN
    go_loopw [14] (fun ix wr => ∃ (k : Nat) (s : CS), k ≤ n ∧ ix = vi k ∧ Hid (InvS N most (2 * k) s) ∧ Sat w0 (bothC h q most [] [] s emp) wr) (fun ix _ => n - (intOf ix).toNat)
    case atStart => exact ⟨0, _, Nat.zero_le _, rfl, HI, HPREV.out⟩
    case round =>
      clear HI
      clear HPREV
      obtain ⟨k, s, hk, rfl, hI, hS⟩ := hrel
      by_cases hlt : k < n
      · have hki : (k : Int) < (n : Int) := by omega
        obtain ⟨ab, aoff, rfl, x, hx, hca⟩ := act_of HA2.out hlt
        obtain ⟨a0, a1, a2, a3, a4, a5, a6, a7⟩ := hca _ _ hS
        have HI2 := Lib.hid (hI.out.step hx)
        have HD := Lib.hid (do8 hI.out (by omega) hS x hx)
        clear hS hca
        generalize stepS most s x = s2 at *
        go_wp2_with (go_at_call 18; (with_reducible refine HD.out.mono ?_); rintro e w4 ⟨rfl, hS4⟩; have H5 := Lib.hid hS4; clear hS4)
        go_roundw
        case rel => exact ⟨k + 1, s2, by omega, by go_num, HI2, H5.out⟩
        case measure => (simp [intOf]; try omega)

      · obtain rfl : k = n := by omega
        have hki : ¬ (k : Int) < (k : Int) := by omega
        have HC1 := Lib.hid (pr_copy1 hS)
        have HI0 := Lib.hid (hI.out.mono (show 2 * k ≤ 100 by omega))
        clear hS hI
        go_wp2_with (first
          | (go_at_call 25; (with_reducible refine HC1.out.mono ?_); rintro e w5 ⟨o, rfl, hS5⟩; have HC2 := Lib.hid (pr_copy2 HI0.out hS5); clear hS5)
          | (go_at_call 26; (with_reducible refine HC2.out.mono ?_); rintro e w6 ⟨v, rfl, hS6⟩; have HC3 := Lib.hid (pr_sameP HI0.out HI0.out (pr_swap hS6)); rw [alike_self] at HC3; clear hS6)
          | (go_at_call 27; (with_reducible refine HC3.out.mono ?_); rintro e w7 ⟨rfl, hS7⟩; have HC4 := Lib.hid (pr_sameP HI0.out HI0.out (pr_swap hS7)); rw [alike_self] at HC4; clear hS7)
          | (go_at_call 27; (with_reducible refine HC4.out.mono ?_); rintro e w8 ⟨rfl, hS8⟩; have HPREV := Lib.hid hS8; clear hS8))
        clear HC1 HC2 HC3 HC4
        go_loopw [17] (fun ix wr => ∃ (k : Nat) (s1 : CS), k ≤ n3 ∧ ix = vi k ∧ Hid (InvS N most (100 + 2 * k) s1) ∧ Sat w0 (prC h o q v most s1 s emp) wr) (fun ix _ => n3 - (intOf ix).toNat)
        case atStart => exact ⟨0, _, Nat.zero_le _, rfl, HI0, HPREV.out⟩
        case round =>
          clear HPREV
          obtain ⟨k1, s1, hk, rfl, hI, hS⟩ := hrel
          by_cases hlt : k1 < n3
          · have hki : (k1 : Int) < (n3 : Int) := by omega
            obtain ⟨ab, aoff, rfl, x, hx, hca⟩ := act_of HA3.out hlt
            obtain ⟨a0, a1, a2, a3, a4, a5, a6, a7⟩ := hca _ _ hS
            have HI2 := Lib.hid (hI.out.step hx)
            have HD := Lib.hid (pr_do hI.out (by omega) hS x hx)
            clear hS hca
            generalize stepS most s1 x = s2 at *
            go_wp2_with (go_at_call 18; (with_reducible refine HD.out.mono ?_); rintro e w4 ⟨rfl, hS4⟩; have H5 := Lib.hid hS4; clear hS4)
            go_roundw
            case rel => exact ⟨k1 + 1, s2, by omega, by go_num, HI2, H5.out⟩
            case measure => (simp [intOf]; try omega)

          · obtain rfl : k1 = n3 := by omega
            have hki : ¬ (k1 : Int) < (k1 : Int) := by omega
            have HPREV := Lib.hid (pr_swap hS)
            have HI1 := Lib.hid (hI.out.mono (show 100 + 2 * k1 ≤ 200 by omega))
            clear hS hI
            go_wp2_with fail
            go_loopw [18] (fun ix wr => ∃ (k : Nat) (s2 : CS), k ≤ n4 ∧ ix = vi k ∧ Hid (InvS N most (100 + 2 * k) s2) ∧ Sat w0 (prC o h v q most s2 s1 emp) wr) (fun ix _ => n4 - (intOf ix).toNat)
            case atStart => exact ⟨0, _, Nat.zero_le _, rfl, HI0, HPREV.out⟩
            case round =>
              clear HPREV
              obtain ⟨k2, sb, hk, rfl, hI, hS⟩ := hrel
              by_cases hlt : k2 < n4
              · have hki : (k2 : Int) < (n4 : Int) := by omega
                obtain ⟨ab, aoff, rfl, x, hx, hca⟩ := act_of HA4.out hlt
                obtain ⟨a0, a1, a2, a3, a4, a5, a6, a7⟩ := hca _ _ hS
                have HI2 := Lib.hid (hI.out.step hx)
                have HD := Lib.hid (pr_do hI.out (by omega) hS x hx)
                clear hS hca
                generalize stepS most sb x = s2 at *
                go_wp2_with (go_at_call 18; (with_reducible refine HD.out.mono ?_); rintro e w4 ⟨rfl, hS4⟩; have H5 := Lib.hid hS4; clear hS4)
                go_roundw
                case rel => exact ⟨k2 + 1, s2, by omega, by go_num, HI2, H5.out⟩
                case measure => (simp [intOf]; try omega)

              · obtain rfl : k2 = n4 := by omega
                have hki : ¬ (k2 : Int) < (k2 : Int) := by omega
                have HI2 := hI
                have HS0 := Lib.hid (pr_swap hS)
                clear hS
                have HR := Lib.hid (pr_sameR HI1.out HI2.out HS0.out)
                have HS1 : Hid (∀ w' : World, Sat w0 (prC h o q v most s1 sb emp) w' → Calls Try.prog 24 #[vp h, vp q, (Act8.val ⟨0, 0, 0, 0, 0, 0, 0, 0⟩)] w' fun e w' => e = .returned (.bool true) ∧ Sat w0 (prC h o q v most s1 sb emp) w') := Lib.hid fun w' h' => pr_same HI1.out h' _
                have HS2 : Hid (∀ w' : World, Sat w0 (prC h o q v most s1 sb emp) w' → Calls Try.prog 24 #[vp o, vp v, (Act8.val ⟨0, 0, 0, 0, 0, 0, 0, 0⟩)] w' fun e w' => e = .returned (.bool true) ∧ Sat w0 (prC h o q v most s1 sb emp) w') := Lib.hid fun w' h' => (pr_same HI2.out (pr_swap h') _).mono fun e w2 ⟨he, hh⟩ => ⟨he, pr_swap hh⟩
                have HS3 : Hid (∀ w' : World, Sat w0 (prC h o q v most s1 sb emp) w' → Calls Try.prog 27 #[vp h, vp o] w' fun e w' => e = .returned (.bool (alike s1 sb)) ∧ Sat w0 (prC h o q v most s1 sb emp) w') := Lib.hid fun w' h' => pr_sameP HI1.out HI2.out h'
                have HS4 : Hid (∀ w' : World, Sat w0 (prC h o q v most s1 sb emp) w' → Calls Try.prog 27 #[vp o, vp h] w' fun e w' => e = .returned (.bool (alike s1 sb)) ∧ Sat w0 (prC h o q v most s1 sb emp) w') := Lib.hid fun w' h' => by
                  rw [alike_symm]
                  exact (pr_sameP HI2.out HI1.out (pr_swap h')).mono fun e w2 ⟨he, hh⟩ => ⟨he, pr_swap hh⟩
                generalize alike s1 sb = al at *
                have hal : (al == al) = true := by simp
                clear HS0
                go_wp2_with (first
                  | (go_at_call 28; (with_reducible refine HR.out.mono ?_); rintro e w9 ⟨rfl, hS9⟩; have H9 := Lib.hid hS9; clear hS9)
                  | (go_at_call 24; (with_reducible refine (HS1.out _ H9.out).mono ?_); rintro e w10 ⟨rfl, hSa⟩; have H10 := Lib.hid hSa; clear hSa)
                  | (go_at_call 24; (with_reducible refine (HS2.out _ H10.out).mono ?_); rintro e w11 ⟨rfl, hSa⟩; have H11 := Lib.hid hSa; clear hSa)
                  | (go_at_call 27; (with_reducible refine (HS3.out _ H11.out).mono ?_); rintro e w12 ⟨rfl, hSa⟩; have H12 := Lib.hid hSa; clear hSa)
                  | (go_at_call 27; (with_reducible refine (HS4.out _ H12.out).mono ?_); rintro e w13 ⟨rfl, hSa⟩; have H13 := Lib.hid hSa; clear hSa)
                  | (go_at_call 9; refine (known08 _).mono ?_; rintro e w14 ⟨rfl, hb⟩; have H14 := Lib.hid (Sat.after H13.out hb); clear hb))
                go_ret
                exact ⟨by simp, H14.out.below⟩
end Go.Proofs.Ytknodagcmachiaa.Cn
