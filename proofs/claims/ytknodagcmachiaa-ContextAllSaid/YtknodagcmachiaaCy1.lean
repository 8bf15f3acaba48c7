/-
  The reference of layer 8, as contexts plainly. No statement is proved here.
-/
import Derived.Test.YtknodagcmachiaaCr9
namespace Go.Proofs.Ytknodagcmachiaa.Cn
open Go.RowKit Ac Fi
set_option linter.unusedVariables false

def cyQ (L0 : Blks) (q : Nat) (most : Int) (cs : List CP) (times : Int) : Hp := ex fun x : Nat × Nat × List RPl × Blks => given ((∀ y ∈ L0, y ∈ x.2.2.2) ∧ RM x.2.2.2 x.2.2.1 cs) (rxB q x.1 x.2.2.1.length x.2.1 times most * (rxL x.1 x.2.1 x.2.2.1 * plB x.2.2.2))
section
variable {w0 w : World} {F : Hp} {q : Nat} {most times : Int} {cs : List CP} {free : List Nat} {n T : Nat} {L0 : Blks}
theorem cy_open (hS : Sat w0 (cyQ L0 q most cs times * F) w) : ∃ b cap rs L, (∀ y ∈ L0, y ∈ L) ∧ RM L rs cs ∧ Sat w0 (rxB q b rs.length cap times most * (rxL b cap rs * (plB L * F))) w := by
  obtain ⟨⟨b, cap, rs, L⟩, hS⟩ := hS.exE
  obtain ⟨hp, hS⟩ := hS.givenE
  exact ⟨b, cap, rs, L, hp.1, hp.2, hS.cast (by ac_rfl)⟩
theorem cy_shut {b cap n : Nat} {rs : List RPl} {L : Blks} (hl : ∀ y ∈ L0, y ∈ L) (hp : RM L rs cs) (hn : rs.length = n) (hS : Sat w0 (rxB q b n cap times most * (rxL b cap rs * (plB L * F))) w) : Sat w0 (cyQ L0 q most cs times * F) w := by
  subst hn
  exact Sat.exI (b, cap, rs, L) (Sat.givenI ⟨hl, hp⟩ (hS.cast (by ac_rfl)))
theorem RM.setp {L : Blks} {rs : List RPl} (h : RM L rs cs) {i g : Int} {k : Nat} {a : RPl} {c : CP} (hc : isC cs i g = some (k, c)) (ha : rs[k]? = some a) {x : El} {y : Cx} (hx : EM L x y) : RM L (rs.set k { a with x := x }) (sC cs i g y) := by
  unfold sC
  rw [hc]
  obtain ⟨c1, c2, c3, c4⟩ := isC_some hc
  obtain ⟨h1, h2, h3, h4⟩ := h.at_ k a c ha c1
  exact h.set k h1 h2 hx h4
theorem r_bind (hI : Inv n most T cs free times) (hT : T ≤ 100000) (hS : Sat w0 (cyQ L0 q most cs times * F) w) (i g d : Int) (hd : -1 ≤ d ∧ d ≤ 1) :
    Calls Try.prog 45 #[vp q, vr i g, vi d] w fun e w' => e = .returned (vi (bindE cs i g d)) ∧ Sat w0 (cyQ L0 q most (bindL cs i g d) times * F) w' := by
  obtain ⟨b, cap, rs, L, hL, hp, hs⟩ := cy_open hS
  have hA := hI.anyC i g
  rcases eC_01 cs i g with he | he
  · obtain ⟨k, a, c, hc, hr, ha, hck, rfl, ht, rfl, _, _, hgc, hx, _⟩ := hp.yes he
    have hx3 := hx.2.2.2
    by_cases h0 : (gC cs k a.gen).n + d < 0
    · have hz : bindE cs k a.gen d = 5 := by unfold bindE; rw [if_neg (by omega), if_pos h0]
      unfold bindL
      rw [hz, if_neg (by omega)]
      exact (rx_bind_neg hs ha ht d hd (by rw [hx3]; omega) (by rw [hx3]; exact h0)).mono fun e w' ⟨h1, h2⟩ => ⟨h1, cy_shut hL hp rfl h2⟩
    · have hz : bindE cs k a.gen d = 0 := by unfold bindE; rw [if_neg (by omega), if_neg h0]
      unfold bindL
      rw [hz, if_pos rfl]
      refine (rx_bind_yes hs ha ht d hd (by rw [hx3]; omega) (by rw [hx3]; omega)).mono fun e w' ⟨h1, h2⟩ => ⟨h1, cy_shut hL (hp.setp hc ha ?_) (by rw [List.length_set]) h2⟩
      exact ⟨hx.1, hx.2.1, hx.2.2.1, congrArg (· + d) hx3⟩
  · have hz : bindE cs i g d = 11 := by unfold bindE; rw [if_pos he]
    unfold bindL
    rw [hz, if_neg (by omega)]
    exact (rx_bind_no hs i g (hp.no he) d).mono fun e w' ⟨h1, h2⟩ => ⟨h1, cy_shut hL hp rfl h2⟩
theorem r_can (hI : Inv n most T cs free times) (hS : Sat w0 (cyQ L0 q most cs times * F) w) (i g now : Int) :
    Calls Try.prog 46 #[vp q, vr i g, vu now] w fun e w' => e = .returned (.bool (canB cs i g now)) ∧ Sat w0 (cyQ L0 q most cs times * F) w' := by
  obtain ⟨b, cap, rs, L, hL, hp, hs⟩ := cy_open hS
  have hA := hI.anyC i g
  rcases eC_01 cs i g with he | he
  · obtain ⟨k, a, c, hc, hr, ha, hck, rfl, ht, rfl, _, _, hgc, hx, _⟩ := hp.yes he
    refine (rx_can_yes hs ha ht hx.2.2.1 (by omega) now).mono fun e w' ⟨h1, h2⟩ => ⟨?_, cy_shut hL hp rfl h2⟩
    rw [h1]
    unfold canB
    simp [he]
  · refine (rx_can_no hs i g (hp.no he) now).mono fun e w' ⟨h1, h2⟩ => ⟨?_, cy_shut hL hp rfl h2⟩
    rw [h1]
    unfold canB
    simp [he]
theorem r_next (hI : Inv n most T cs free times) (hS : Sat w0 (cyQ L0 q most cs times * F) w) (i g now : Int) :
    Calls Try.prog 59 #[vp q, vr i g, vu now] w fun e w' => e = .returned (addV (nxtO cs i g now)) ∧ Sat w0 (cyQ L0 q most cs times * F) w' := by
  obtain ⟨b, cap, rs, L, hL, hp, hs⟩ := cy_open hS
  have hA := hI.anyC i g
  rcases eC_01 cs i g with he | he
  · obtain ⟨k, a, c, hc, hr, ha, hck, rfl, ht, rfl, _, _, hgc, hx, _⟩ := hp.yes he
    refine (rx_next_yes hs ha ht hx.2.2.1 (by omega) now).mono fun e w' ⟨h1, h2⟩ => ⟨?_, cy_shut hL hp rfl h2⟩
    rw [h1]
    unfold nxtO
    rw [if_pos he]
  · refine (rx_next_no hs i g (hp.no he) now).mono fun e w' ⟨h1, h2⟩ => ⟨?_, cy_shut hL hp rfl h2⟩
    rw [h1]
    unfold nxtO
    rw [if_neg (by omega)]
theorem r_charge (hI : Inv n most T cs free times) (hS : Sat w0 (cyQ L0 q most cs times * F) w) (i g now : Int) (hn : U64 now) :
    Calls Try.prog 47 #[vp q, vr i g, vu now] w fun e w' => e = .returned (.bool (chgB most cs i g now)) ∧ Sat w0 (cyQ L0 q most (chgL most cs i g now) times * F) w' := by
  obtain ⟨b, cap, rs, L, hL, hp, hs⟩ := cy_open hS
  have hA := hI.anyC i g
  rcases eC_01 cs i g with he | he
  · obtain ⟨k, a, c, hc, hr, ha, hck, rfl, ht, rfl, _, _, hgc, hx, _⟩ := hp.yes he
    have hpu : U64 a.x.v1 := by rw [hx.2.1]; exact ⟨by omega, by omega⟩
    by_cases hb : chgB most cs k a.gen now = true
    · obtain ⟨_, hch⟩ := chgB_iff.1 hb
      obtain ⟨b1, b2, b3, b4⟩ := charge_law hch hA.1 hn.1 (by omega)
      unfold chgL
      rw [if_pos hb, hb]
      have hc' : ChOk (gC cs k a.gen).l now a.x.v1 most := by rw [hx.2.1]; exact hch
      refine (rx_charge_ok hs ha ht hx.2.2.1 (by omega) now hn hpu hc' (by rw [hx.2.1]; exact b2)).mono fun e w' hh => ?_
      obtain ⟨ao, lc, L2, h1, h2, h3, h4⟩ := hh
      rw [hx.2.1] at h3 h4
      refine ⟨h1, cy_shut (fun x hx => h2 x (hL x hx)) ((hp.mono h2).setp hc ha ?_) (by rw [List.length_set]) h4⟩
      exact ⟨hx.1, hx.2.1, h3, hx.2.2.2⟩
    · have hf : chgB most cs k a.gen now = false := by simpa using hb
      unfold chgL
      rw [if_neg hb, hf]
      have hcn : ¬ ChOk (gC cs k a.gen).l now a.x.v1 most := fun h => hb (chgB_iff.2 ⟨he, by rw [hx.2.1] at h; exact h⟩)
      exact (rx_charge_not hs ha ht hx.2.2.1 (by omega) now hn hpu hcn).mono fun e w' ⟨h1, h2⟩ => ⟨h1, cy_shut hL hp rfl h2⟩
  · have hb : ¬ chgB most cs i g now = true := fun h => by have := (chgB_iff.1 h).1; omega
    have hf : chgB most cs i g now = false := by simpa using hb
    unfold chgL
    rw [if_neg hb, hf]
    exact (rx_charge_stale hs i g (hp.no he) now).mono fun e w' ⟨h1, h2⟩ => ⟨h1, cy_shut hL hp rfl h2⟩
theorem r_get (hI : Inv n most T cs free times) (hS : Sat w0 (cyQ L0 q most cs times * F) w) (i g : Int) :
    Calls Try.prog 58 #[vp q, vr i g] w fun e w' => ∃ ao lc, e = .returned (.tuple #[ev ⟨(gC cs i g).b, (gC cs i g).p, ao, (gC cs i g).l.length, lc, (gC cs i g).n⟩, vi (eC cs i g)]) ∧ RdF w' (.slice ao (gC cs i g).l.length lc) (gC cs i g).l ∧ Sat w0 (cyQ L0 q most cs times * F) w' := by
  obtain ⟨b, cap, rs, L, hL, hp, hs⟩ := cy_open hS
  rcases eC_01 cs i g with he | he
  · obtain ⟨k, a, c, hc, hr, ha, hck, rfl, ht, rfl, _, _, hgc, hx, _⟩ := hp.yes he
    refine (rx_get_yes hs ha ht).mono fun e w' ⟨h1, h2⟩ => ?_
    have hi := hx.2.2.1
    have hrd := Sat.plRd (h2.cast (show _ = plB L * (rxB q b rs.length cap times most * (rxL b cap rs * F)) by ac_rfl)) hi
    obtain ⟨ao2, c2, hf⟩ := hi.form
    injection hf with e1 e2 e3
    refine ⟨a.x.a2, a.x.c2, ?_, by rw [← e2]; exact hrd, cy_shut hL hp rfl h2⟩
    rw [h1, he, ← hx.1, ← hx.2.1, ← hx.2.2.2, ← e2]
  · refine (rx_get_no hs i g (hp.no he)).mono fun e w' ⟨h1, h2⟩ => ⟨none, 0, ?_, ?_, cy_shut hL hp rfl h2⟩
    · rw [h1, gC_no he, he]
      rfl
    · rw [gC_no he]
      exact RdF.nil _
/-- The place that is taken next. -/
theorem Inv.best (h : Inv n most T cs free times) {b p now : Int} (he : mkE free b p now = 0) {c : CP} (hc : cs[mkK free]? = some c) : ∀ (j : Nat) (d : CP), cs[j]? = some d → d.there = false → j ≠ mkK free → d.freed < c.freed := by
  intro j d hd ht hj
  obtain ⟨_, hf⟩ := mk_last he
  have hjf : j ∈ free := (h.mem j).2 ⟨d, hd, ht⟩
  have ho := h.ord
  rw [hf] at ho hjf
  rcases List.mem_append.1 hjf with h1 | h1
  · exact (List.pairwise_append.1 ho).2.2 j h1 _ (List.mem_singleton.2 rfl) d c hd hc
  · exact absurd (List.mem_singleton.1 h1) hj
theorem RM.best {L : Blks} {rs : List RPl} (hp : RM L rs cs) (hI : Inv n most T cs free times) {b p now : Int} (he : mkE free b p now = 0) : ∃ a c, rs[mkK free]? = some a ∧ cs[mkK free]? = some c ∧ a.there = false ∧ c.there = false ∧ a.gen = c.gen ∧ genK cs (mkK free) = c.gen ∧ a.freed = c.freed ∧ ∀ (j : Nat) (d : RPl), rs[j]? = some d → d.there = false → j ≠ mkK free → d.freed < a.freed := by
  obtain ⟨c, hc, ht, hg⟩ := hI.mkAt he
  have hk : mkK free < rs.length := by rw [hp.len]; exact (List.getElem?_eq_some_iff.1 hc).1
  obtain ⟨a, ha⟩ : ∃ a, rs[mkK free]? = some a := ⟨rs[mkK free], List.getElem?_eq_getElem hk⟩
  obtain ⟨h1, h2, h3, h4⟩ := hp.at_ _ a c ha hc
  refine ⟨a, c, ha, hc, h2.trans ht, ht, h1, hg, h4, fun j d hd hdt hj => ?_⟩
  have hjl : j < cs.length := by rw [← hp.len]; exact (List.getElem?_eq_some_iff.1 hd).1
  obtain ⟨d', hd'⟩ : ∃ d', cs[j]? = some d' := ⟨cs[j], List.getElem?_eq_getElem hjl⟩
  obtain ⟨k1, k2, k3, k4⟩ := hp.at_ _ d d' hd hd'
  rw [k4, h4]
  exact hI.best he hc j d' hd' (k2.symm.trans hdt) hj
theorem RM.all {L : Blks} {rs : List RPl} (hp : RM L rs cs) (hI : Inv n most T cs [] times) : ∀ (k : Nat) (a : RPl), rs[k]? = some a → a.there = true := by
  intro k a ha
  have hjl : k < cs.length := by rw [← hp.len]; exact (List.getElem?_eq_some_iff.1 ha).1
  obtain ⟨c, hc⟩ : ∃ c, cs[k]? = some c := ⟨cs[k], List.getElem?_eq_getElem hjl⟩
  obtain ⟨k1, k2, k3, k4⟩ := hp.at_ _ a c ha hc
  rw [k2]
  cases hct : c.there with
  | true => rfl
  | false =>
    have := (hI.mem k).2 ⟨c, hc, hct⟩
    simp at this
theorem RM.come {L : Blks} {rs : List RPl} (h : RM L rs cs) {k : Nat} {a : RPl} {c : CP} (ha : rs[k]? = some a) (hc : cs[k]? = some c) {x : El} {y : Cx} (hx : EM L x y) : RM L (rs.set k { a with there := true, x := x }) (cs.set k { c with there := true, cx := y }) := by
  obtain ⟨h1, h2, h3, h4⟩ := h.at_ k a c ha hc
  exact h.set k h1 rfl hx h4
theorem RM.small {L : Blks} {rs : List RPl} (hp : RM L rs cs) (hI : Inv n most T cs free times) : rs.length ≤ 32 ∧ 0 < rs.length := by
  have := hp.len
  have := hI.len
  have := hI.small
  omega
theorem r_make (hI : Inv n most T cs free times) (hS : Sat w0 (cyQ L0 q most cs times * F) w) (b per now : Int) (hn : 0 ≤ now) :
    Calls Try.prog 44 #[vp q, vu b, vu per, vu now] w fun e w' => e = .returned (.tuple #[vr (mkI free b per now) (mkG cs free b per now), vi (mkE free b per now)]) ∧ Sat w0 (cyQ L0 q most (mkL cs free b per now) times * F) w' := by
  obtain ⟨bb, cap, rs, L, hL, hp, hs⟩ := cy_open hS
  have hsm := hp.small hI
  unfold mkI mkG mkL
  by_cases hm : MkOk b per now
  · by_cases hf : free = []
    · have he : mkE free b per now = 3 := by unfold mkE; rw [if_pos hm, if_pos hf]
      rw [he, if_neg (by omega), if_neg (by omega), if_neg (by omega)]
      subst hf
      refine (rx_make_full hs b per now hm hn hsm.1 (hp.all hI)).mono fun e w' hh => ?_
      obtain ⟨L2, h1, h2, h3⟩ := hh
      exact ⟨h1, cy_shut (fun x hx => h2 x (hL x hx)) (hp.mono h2) rfl h3⟩
    · have he : mkE free b per now = 0 := by unfold mkE; rw [if_pos hm, if_neg hf]
      rw [he, if_pos rfl, if_pos rfl, if_pos rfl]
      obtain ⟨a, c, ha, hc, hat, hct, hag, hgk, haf, hbest⟩ := hp.best hI he
      rw [hc, hgk]
      dsimp only
      refine (rx_make_ok hs b per now hm hn hsm.1 ha hat hbest).mono fun e w' hh => ?_
      obtain ⟨ao, lc, L2, h1, h2, h3, h4⟩ := hh
      refine ⟨by rw [h1, hag], cy_shut (fun x hx => h2 x (hL x hx)) ((hp.mono h2).come ha hc ?_) (by rw [List.length_set]) h4⟩
      exact ⟨rfl, rfl, h3, rfl⟩
  · have he : mkE free b per now = 2 := by unfold mkE; rw [if_neg hm]
    rw [he, if_neg (by omega), if_neg (by omega), if_neg (by omega)]
    exact (rx_make_arg hs b per now hm).mono fun e w' ⟨h1, h2⟩ => ⟨h1, cy_shut hL hp rfl h2⟩
theorem r_drop (hI : Inv n most T cs free times) (hT : T ≤ 100000) (hS : Sat w0 (cyQ L0 q most cs times * F) w) (i g : Int) :
    Calls Try.prog 50 #[vp q, vr i g] w fun e w' => e = .returned (vi (drE cs i g)) ∧ Sat w0 (cyQ L0 q most (drL cs i g times) (drT cs i g times) * F) w' := by
  obtain ⟨b, cap, rs, L, hL, hp, hs⟩ := cy_open hS
  have hA := hI.anyC i g
  unfold drL drT
  rcases eC_01 cs i g with he | he
  · obtain ⟨k, a, c, hc, hr, ha, hck, rfl, ht, rfl, hcg, _, hgc, hx, _⟩ := hp.yes he
    have hx3 := hx.2.2.2
    by_cases hb : 0 < (gC cs k a.gen).n
    · have hd : drE cs k a.gen = 14 := by unfold drE; rw [if_neg (by omega), if_pos hb]
      rw [hd, if_neg (by omega), if_neg (by omega)]
      exact (rx_drop_busy hs ha ht (by rw [hx3]; exact hb)).mono fun e w' ⟨h1, h2⟩ => ⟨h1, cy_shut hL hp rfl h2⟩
    · have hd : drE cs k a.gen = 0 := by unfold drE; rw [if_neg (by omega), if_neg hb]
      rw [hd, if_pos rfl, if_pos rfl, hc]
      have hg := hI.gens k c hck
      have htm := hI.tm
      refine (rx_drop_yes hs ha ht (by rw [hx3]; omega) (by omega) (by omega)).mono fun e w' ⟨h1, h2⟩ => ⟨h1, cy_shut hL (hp.set k ?_ rfl (EM.zero L) rfl) (by rw [List.length_set]) h2⟩
      show a.gen + 1 = c.gen + 1
      rw [hcg]
  · have hd : drE cs i g = 11 := by unfold drE; rw [if_pos he]
    rw [hd, if_neg (by omega), if_neg (by omega)]
    exact (rx_drop_no hs i g (hp.no he)).mono fun e w' ⟨h1, h2⟩ => ⟨h1, cy_shut hL hp rfl h2⟩
theorem r_new (n : Nat) (hn : 1 ≤ n ∧ n ≤ 32) (most : Int) (hS : Sat w0 F w) : Calls Try.prog 17 #[vi n, vi most] w fun e w' => ∃ q, e = .returned (vp q) ∧ Sat w0 (cyQ [] q most (newC n) 0 * F) w' :=
  (rx_new hS n hn most).mono fun e w' ⟨q, b, cap, h1, h2⟩ => ⟨q, h1, cy_shut (fun y hy => by simp at hy) (RM.new [] n) (newR_len n) ((Sat.plStart h2).cast (by ac_rfl))⟩
theorem r_split (hI : Inv n most T cs free times) (hS : Sat w0 (cyQ L0 q most cs times * F) w) (i g amount now : Int) (ha : U64 amount) (hn : U64 now) :
    Calls Try.prog 48 #[vp q, vr i g, vu amount, vu now] w fun e w' => e = .returned (.tuple #[vr (spI cs free i g amount now) (spG cs free i g amount now), vi (spE cs free i g amount now)]) ∧ Sat w0 (cyQ L0 q most (spL cs free i g amount now) times * F) w' := by
  obtain ⟨b, cap, rs, L, hL, hp, hs⟩ := cy_open hS
  have hA := hI.anyC i g
  have hsm := hp.small hI
  unfold spI spG spL
  rcases eC_01 cs i g with he | he
  · obtain ⟨k, a, c, hc, hr, hak, hck, rfl, ht, rfl, hcg, _, hgc, hx, _⟩ := hp.yes he
    by_cases hpt : partC (gC cs k a.gen).b (gC cs k a.gen).l amount now = 0
    · obtain ⟨p1, p2, p3, p4⟩ := part_zero hpt
      have hl := hI.liveC he
      have ha1 := ha.1
      have hm : MkOk amount (gC cs k a.gen).p now := ⟨by omega, by omega, by have := hl.p; omega, by have := hl.p; omega, p2⟩
      have hm' : MkOk amount a.x.v1 now := by rw [hx.2.1]; exact hm
      have hpt' : partC a.x.v0 (gC cs k a.gen).l amount now = 0 := by rw [hx.1]; exact hpt
      have hse : spE cs free k a.gen amount now = mkE free amount (gC cs k a.gen).p now := by unfold spE; rw [if_neg (by omega), if_neg (by omega)]
      by_cases hf : free = []
      · have hz : mkE free amount (gC cs k a.gen).p now = 3 := by unfold mkE; rw [if_pos hm, if_pos hf]
        rw [hse, hz, if_neg (by omega), if_neg (by omega), if_neg (by omega)]
        subst hf
        refine (rx_split_full hs hak ht hx.2.2.1 (by omega) amount now hpt' hm' hn.1 hsm.1 (hp.all hI)).mono fun e w' hh => ?_
        obtain ⟨L2, h1, h2, h3⟩ := hh
        exact ⟨h1, cy_shut (fun x hx => h2 x (hL x hx)) (hp.mono h2) rfl h3⟩
      · have hz : mkE free amount (gC cs k a.gen).p now = 0 := by unfold mkE; rw [if_pos hm, if_neg hf]
        rw [hse, hz, if_pos rfl, if_pos rfl, if_pos rfl]
        obtain ⟨a', c', ha', hc', hat, hct, hag, hgk, haf, hbest⟩ := hp.best hI hz
        obtain ⟨q1, q2⟩ := pull_live hl ha.1 hpt
        have hne : mkK free ≠ k := fun e => by
          rw [e] at ha'
          rw [hak] at ha'
          cases ha'
          rw [ht] at hat
          cases hat
        have hML : mkL cs free amount (gC cs k a.gen).p now = cs.set (mkK free) { c' with there := true, cx := ⟨amount, (gC cs k a.gen).p, [⟨amount, now⟩], 0⟩ } := by
          unfold mkL
          rw [if_pos hz, hc']
        have hb : amount ≤ a.x.v0 ∧ a.x.v0 ≤ 18446744073709551615 := by rw [hx.1]; omega
        rw [hML, hgk]
        refine (rx_split_ok hs hak ht hx.2.2.1 (by omega) amount now hpt' hm' hn.1 hsm.1 ha' hat hbest q2 p4 hb ha q1.ok).mono fun e w' hh => ?_
        obtain ⟨ao, lc, ao2, lc2, L2, h1, h2, h3, h4, h5⟩ := hh
        have hc2 : isC (cs.set (mkK free) { c' with there := true, cx := ⟨amount, (gC cs k a.gen).p, [⟨amount, now⟩], 0⟩ }) k a.gen = some (k, c) := by
          obtain ⟨c1, c2, c3, c4⟩ := isC_some hc
          have := isC_of (cs := cs.set (mkK free) { c' with there := true, cx := ⟨amount, (gC cs k a.gen).p, [⟨amount, now⟩], 0⟩ }) (k := k) (c := c) (by rw [List.getElem?_set_ne hne]; exact c1) c3
          rw [c4] at this
          exact this
        have hx1 : EM L2 (⟨amount, a.x.v1, ao, 1, lc, 0⟩ : El) ⟨amount, (gC cs k a.gen).p, [⟨amount, now⟩], 0⟩ := ⟨rfl, hx.2.1, h3, rfl⟩
        refine ⟨by rw [h1, hag], cy_shut (fun x hx => h2 x (hL x hx)) (((hp.mono h2).come ha' hc' hx1).setp hc2 (by rw [List.getElem?_set_ne hne]; exact hak) ?_) (by rw [List.length_set, List.length_set]) h5⟩
        exact ⟨by dsimp only; rw [hx.1]; rfl, hx.2.1, h4, hx.2.2.2⟩
    · have hse : spE cs free k a.gen amount now = partC (gC cs k a.gen).b (gC cs k a.gen).l amount now := by unfold spE; rw [if_neg (by omega), if_pos hpt]
      rw [hse, if_neg hpt, if_neg hpt, if_neg hpt]
      exact (rx_split_part hs hak ht hx.2.2.1 (by omega) amount now _ (by rw [hx.1]) hpt).mono fun e w' ⟨h1, h2⟩ => ⟨h1, cy_shut hL hp rfl h2⟩
  · have hse : spE cs free i g amount now = 11 := by unfold spE; rw [if_pos he]
    rw [hse, if_neg (by omega), if_neg (by omega), if_neg (by omega)]
    exact (rx_split_stale hs i g (hp.no he) amount now).mono fun e w' ⟨h1, h2⟩ => ⟨h1, cy_shut hL hp rfl h2⟩
theorem firstE_none (es : List Int) (e : Int) (he : e ≠ 0) : firstE (e :: es) = e := by rw [firstE, if_neg he]
theorem r_donate (hI : Inv n most T cs free times) (hS : Sat w0 (cyQ L0 q most cs times * F) w) (i g j t amount now : Int) (ha : U64 amount) (hn : U64 now) :
    Calls Try.prog 49 #[vp q, vr i g, vr j t, vu amount, vu now] w fun e w' => e = .returned (vi (doE most cs i g j t amount now)) ∧ Sat w0 (cyQ L0 q most (doL most cs i g j t amount now) times * F) w' := by
  obtain ⟨b, cap, rs, L, hL, hp, hs⟩ := cy_open hS
  have hA := hI.anyC i g
  have hA2 := hI.anyC j t
  unfold doL
  have hbad : ∀ er, doE1 cs i g j t amount now = er → er ≠ 0 → doE most cs i g j t amount now = er := fun er h1 h2 => by
    unfold doE
    rw [h1, if_pos h2]
  rcases eC_01 cs i g with he | he
  · rcases eC_01 cs j t with he2 | he2
    · obtain ⟨k, a, c, hc, hr, hak, hck, rfl, hta, rfl, hcg, _, hgc, hx, _⟩ := hp.yes he
      obtain ⟨k2, d, c2, hc2, hr2, hdk, hck2, rfl, htd, rfl, hcg2, _, hgc2, hx2, _⟩ := hp.yes he2
      by_cases hk : k = k2
      · have hgg : a.gen = d.gen := by
          subst hk
          rw [hak] at hdk
          cases hdk
          rfl
        have h1 : doE1 cs k a.gen k2 d.gen amount now = 2 := by
          unfold doE1 donC
          rw [he, he2, firstE, if_pos rfl, firstE, if_pos rfl, if_pos ⟨by omega, hgg⟩, firstE, if_neg (by omega)]
        rw [hbad 2 h1 (by omega), if_neg (by omega)]
        exact (rx_don_same hs hak hta hdk htd amount now hk).mono fun e w' ⟨h1, h2⟩ => ⟨h1, cy_shut hL hp rfl h2⟩
      · have hns : ¬ ((k : Int) = (k2 : Int) ∧ a.gen = d.gen) := fun h => hk (by omega)
        have h1 : doE1 cs k a.gen k2 d.gen amount now = firstE [partC (gC cs k a.gen).b (gC cs k a.gen).l amount now, if 4294967296 < (gC cs k2 d.gen).b + amount then 6 else 0] := by
          unfold doE1 donC
          rw [he, he2, firstE, if_pos rfl, firstE, if_pos rfl, if_neg hns, firstE, if_pos rfl]
        by_cases hpt : partC (gC cs k a.gen).b (gC cs k a.gen).l amount now = 0
        · obtain ⟨p1, p2, p3, p4⟩ := part_zero hpt
          have hl := hI.liveC he
          have hl2 := hI.liveC he2
          have ha1 := ha.1
          have hpt' : partC a.x.v0 (gC cs k a.gen).l amount now = 0 := by rw [hx.1]; exact hpt
          have hw : 0 ≤ d.x.v0 + amount ∧ d.x.v0 + amount ≤ 18446744073709551615 := by rw [hx2.1]; omega
          rw [hpt, firstE, if_pos rfl] at h1
          by_cases ho : 4294967296 < (gC cs k2 d.gen).b + amount
          · rw [if_pos ho, firstE, if_neg (by omega)] at h1
            rw [hbad 6 h1 (by omega), if_neg (by omega)]
            exact (rx_don_over hs hak hta hdk htd hx.2.2.1 (by omega) amount now hk hpt' hw (by rw [hx2.1]; exact ho)).mono fun e w' ⟨h1, h2⟩ => ⟨h1, cy_shut hL hp rfl h2⟩
          · rw [if_neg ho, firstE, if_pos rfl, firstE] at h1
            have hgv : GvOk (gC cs k2 d.gen).l amount most := ⟨hl2.may, p1, by have := hI.mst; omega, hl2.len⟩
            by_cases hf : thN (gC cs k2 d.gen).l now = 0 ∧ ((gC cs k2 d.gen).l.length : Int) = most
            · have hd : doE most cs k a.gen k2 d.gen amount now = 3 := by unfold doE; rw [if_neg (by omega), if_pos hf]
              rw [hd, if_neg (by omega)]
              exact (rx_don_full hs hak hta hdk htd hx.2.2.1 (by omega) amount now hk hpt' hw hx2.2.2.1 (by omega) ha hn hgv (by omega) (by rw [hx2.1]; exact ho) hf).mono fun e w' ⟨h1, h2⟩ => ⟨h1, cy_shut hL hp rfl h2⟩
            · have hd : doE most cs k a.gen k2 d.gen amount now = 0 := by unfold doE; rw [if_neg (by omega), if_neg hf]
              rw [hd, if_pos rfl]
              obtain ⟨q1, q2⟩ := pull_live hl ha.1 hpt
              obtain ⟨g1, g2⟩ := give_live (amount := amount) hl2 hI.mst.1 (by omega) hn (by omega) hf
              refine (rx_don_ok hs hak hta hdk htd hx.2.2.1 (by omega) amount now hk hpt' hw hx2.2.2.1 (by omega) ha hn hgv (by omega) (by rw [hx2.1]; exact ho) hf q2 p4 (by rw [hx.1]; omega) g1.ok q1.ok).mono fun e w' hh => ?_
              obtain ⟨ao, lc, ao2, lc2, L3, h1, h2, h3, h4, h5⟩ := hh
              have hxy : EM L3 (⟨d.x.v0 + amount, d.x.v1, ao, (giveL (gC cs k2 d.gen).l now amount).length, lc, d.x.v3⟩ : El) (giveC (gC cs k2 d.gen) amount now) := ⟨by dsimp only; rw [hx2.1]; rfl, hx2.2.1, h3, hx2.2.2.2⟩
              have hcc : isC (sC cs k2 d.gen (giveC (gC cs k2 d.gen) amount now)) k a.gen = some (k, c) := by
                unfold sC
                rw [hc2]
                obtain ⟨c1, _, c3, c4⟩ := isC_some hc
                have := isC_of (cs := cs.set k2 { c2 with cx := giveC (gC cs k2 d.gen) amount now }) (k := k) (c := c) (by rw [List.getElem?_set_ne (fun e => hk e.symm)]; exact c1) c3
                rw [c4] at this
                exact this
              refine ⟨h1, cy_shut (fun x hx => h2 x (hL x hx)) (((hp.mono h2).setp hc2 hdk hxy).setp hcc (by rw [List.getElem?_set_ne (fun e => hk e.symm)]; exact hak) ?_) (by rw [List.length_set, List.length_set]) h5⟩
              exact ⟨by dsimp only; rw [hx.1]; rfl, hx.2.1, h4, hx.2.2.2⟩
        · rw [firstE_none _ _ hpt] at h1
          rw [hbad _ h1 hpt, if_neg hpt]
          exact (rx_don_part hs hak hta hdk htd hx.2.2.1 (by omega) amount now _ hk (by rw [hx.1]) hpt).mono fun e w' ⟨h1, h2⟩ => ⟨h1, cy_shut hL hp rfl h2⟩
    · obtain ⟨k, a, c, hc, hr, hak, hck, rfl, hta, rfl, hcg, _, hgc, hx, _⟩ := hp.yes he
      have h1 : doE1 cs k a.gen j t amount now = 11 := by
        unfold doE1 donC
        rw [he, he2, firstE, if_pos rfl, firstE, if_neg (by omega)]
      rw [hbad 11 h1 (by omega), if_neg (by omega)]
      exact (rx_don_st2 hs j t amount now hak hta (hp.no he2)).mono fun e w' ⟨h1, h2⟩ => ⟨h1, cy_shut hL hp rfl h2⟩
  · have h1 : doE1 cs i g j t amount now = 11 := by
      unfold doE1 donC
      rw [he, firstE, if_neg (by omega)]
    rw [hbad 11 h1 (by omega), if_neg (by omega)]
    exact (rx_don_st1 hs i g j t amount now (hp.no he)).mono fun e w' ⟨h1, h2⟩ => ⟨h1, cy_shut hL hp rfl h2⟩
end
end Go.Proofs.Ytknodagcmachiaa.Cn
