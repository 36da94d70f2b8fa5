/- Lanes that go on, step by step. -/
import Derived.Test.YtdfoobomlabffaaLN
import Derived.Test.YtdfoobomlabffaaRP
import Derived.Test.YtdfoobomlabffaaKI
namespace Go.Proofs.Ytdfoobomlabffaa
open HL
set_option maxRecDepth 100000
theorem C.impl_isShare {sh : Nat} {H : Hp} {K : Value → Hp → Prop}
    (hk : ∀ H', Le H H' → K (.bool (decide (shrP sh))) H') : HT prg I.impl_isShare [(.float .f32 sh)].toArray H K := by
  have lE := Le.refl H
  refine R.impl_isShare ?_
  unfold F.impl_isShare
  refine ob_i (vF_geq _ _) ?_
  by_cases hc1 : (fGe sh 0) = true
  · skip
    refine gop_e (hc1) ?_
    refine gop_rt ?_
    refine gop_e (hc1) ?_
    refine gop_rt ?_
    refine ob_i (vF_leq _ _) ?_
    refine ob_i (vPick_et (hc1) _ _) ?_
    skip
    exact keq (K := K) (by rw [show (fLe sh 1065353216) = decide (shrP sh) from by rw [Bool.eq_iff_iff, decide_eq_true_eq]; exact ⟨fun h => ⟨by assumption, h⟩, fun h => h.2⟩]) (hk   _    lE)
  · skip
    refine gop_e (eq_false_of_ne_true hc1) ?_
    refine gop_sf ?_
    refine gop_e (eq_false_of_ne_true hc1) ?_
    refine gop_sf ?_
    refine ob_i (vPick_ef (eq_false_of_ne_true hc1) _ _) ?_
    skip
    exact keq (K := K) (by rw [decide_eq_false (show ¬ (shrP sh) from by exact fun h => by have := h.1; simp_all)]) (hk   _    lE)
theorem C.spec_l02Share {sh : Nat} {H : Hp} {K : Value → Hp → Prop}
    (hk : ∀ H', Le H H' → K (.bool (decide (shrP sh))) H') : HT prg I.spec_l02Share [(.float .f32 sh)].toArray H K := by
  have lE := Le.refl H
  refine R.spec_l02Share ?_
  unfold F.spec_l02Share
  refine ob_i (vF_geq _ _) ?_
  by_cases hc1 : (fGe sh 0) = true
  · skip
    refine gop_e (hc1) ?_
    refine gop_rt ?_
    refine gop_e (hc1) ?_
    refine gop_rt ?_
    refine ob_i (vF_leq _ _) ?_
    refine ob_i (vPick_et (hc1) _ _) ?_
    skip
    exact keq (K := K) (by rw [show (fLe sh 1065353216) = decide (shrP sh) from by rw [Bool.eq_iff_iff, decide_eq_true_eq]; exact ⟨fun h => ⟨by assumption, h⟩, fun h => h.2⟩]) (hk   _    lE)
  · skip
    refine gop_e (eq_false_of_ne_true hc1) ?_
    refine gop_sf ?_
    refine gop_e (eq_false_of_ne_true hc1) ?_
    refine gop_sf ?_
    refine ob_i (vPick_ef (eq_false_of_ne_true hc1) _ _) ?_
    skip
    exact keq (K := K) (by rw [decide_eq_false (show ¬ (shrP sh) from by exact fun h => by have := h.1; simp_all)]) (hk   _    lE)
theorem C.impl_isSeed {x : Int}  {H : Hp} {K : Value → Hp → Prop}
    (hk : ∀ H', Le H H' → K (.bool (decide (0 ≤ x ∧ x ≤ 4294967295))) H') : HT prg I.impl_isSeed [(.int .i64 (x))].toArray H K := by
  have lE := Le.refl H
  refine R.impl_isSeed ?_
  unfold F.impl_isSeed
  refine C.impl_within  ?_
  skip
  exact hk   _    lE
theorem C.impl_nextSeed {x : Int}  {H : Hp} {K : Value → Hp → Prop} (x0 : 0 ≤ x) (x1 : x ≤ 4294967295)
    (hk : K (.int .i64 (nxS x)) H) : HT prg I.impl_nextSeed [(.int .i64 (x))].toArray H K := by
  have lE := Le.refl H
  refine R.impl_nextSeed ?_
  unfold F.impl_nextSeed
  refine ob_i (vInt_mul (by omega) (by omega)) ?_
  refine ob_i (vInt_add (by omega) (by omega)) ?_
  refine ob_i (vInt_remN (by omega) (by omega)) ?_
  skip
  exact keq (K := K) (by rw [show ((((1664525 * x) + 1013904223) % 4294967296) : Int) = (nxS x) from by rfl]) (hk )
theorem C.impl_gap {va : Value} {i : Int} {l : List Int}  {H : Hp} {K : Value → Hp → Prop} (hva0 : Sl eI H va l) (l1 : l.length ≤ 64) (i0 : 0 ≤ i) (i1 : i < l.length) (hc : 0 ≤ at_ 0 l i)
    (hk : ∀ H', Le H H' → K (.int .i64 ((frG l i : Int))) H') : HT prg I.impl_gap [va, (.int .i64 (i))].toArray H K := by
  have lE := Le.refl H
  have hva := hva0
  refine R.impl_gap ?_
  unfold F.impl_gap
  obtain ⟨fg1, fg2, fg3⟩ := frG_spec i0 i1 hc
  refine ⟨fun n' σ' H' => ∃ j : Nat, n' = l.length - j ∧ j ≤ l.length ∧ σ' 0 = va ∧ σ' 1 = (.int .i64 (i)) ∧ σ' 5 = (.int .i64 ((j : Int) + 1)) ∧ Le H H' ∧ ∀ m, m < j → lnAt l i m < 0,
    ⟨_, 0, rfl, by omega, rfl, rfl, (congrArg (Value.int .i64) (by first | omega | rfl | (simp; done))), lE, (fun m hm => absurd hm (by omega))⟩, ?_⟩
  rintro n1 σ1 H1 ⟨j, rfl, hjN, g0L1, g1L1, g5L1, lE, hm0⟩
  have hva := hva0.le lE
  try simp only [g0L1, g1L1, g5L1]
  have bm := Int.emod_nonneg (i + ((j : Int) + 1)) (b := (l.length : Int)) (by omega)
  have bn := Int.emod_lt_of_pos (i + ((j : Int) + 1)) (b := (l.length : Int)) (by omega)
  have hjn : j < l.length := by
      rcases Nat.lt_or_ge (l.length - 1) j with h | h
      · have := hm0 _ h; rw [lnAt_self i0 i1] at this; omega
      · omega
  refine ob_i (vInt_add (by omega) (by omega)) ?_
  refine ob_i (hva.len) ?_
  have rm2 := And.intro (Int.emod_nonneg (i + ((j : Int) + 1)) (b := ((l).length : Int)) (by omega)) (Int.emod_lt_of_pos (i + ((j : Int) + 1)) (b := ((l).length : Int)) (by omega))
  refine ob_i (vInt_remN (by omega) (by omega)) ?_
  refine ob_i (hva.ix (by omega) (by omega)) ?_
  refine ob_i (hva.ld 0 (by omega) (by omega)) ?_
  refine ob_i (vInt_geq _ _ _) ?_
  refine cnd_d (fun hg3 => ?_) (fun hg3 => ?_)
  · skip
    have tj := hg3
    refine ob_i (vInt_sub (by omega) (by omega)) ?_
    refine retK (K := K) (v' := (.int .i64 (((j : Int) + 1) - 1))) rfl ?_
    skip
    exact keq (K := K) (by rw [show ((((j : Int) + 1) - 1) : Int) = ((frG l i : Int)) from by rw [frG_at hm0 (by unfold lnAt; rw [show i + 1 + (j : Int) = i + ((j : Int) + 1) by omega]; assumption) (by omega)]; omega]) (hk   _    lE)
  · skip
    have tj := hg3
    refine ob_i (vInt_add (by omega) (by omega)) ?_
    exact nxt (l.length - (j + 1)) (by omega) ⟨j + 1, rfl, by omega, g0L1, g1L1, (congrArg (Value.int .i64) (by first | omega | rfl | (simp; done))), lE, (fun m hm => by rcases Nat.lt_or_ge m j with h | h; exact hm0 m h; obtain rfl : m = j := (by omega); unfold lnAt; rw [show i + 1 + (m : Int) = i + ((m : Int) + 1) by omega]; omega)⟩
theorem C.spec_l06Free {va : Value} {i : Int} {l : List Int}  {H : Hp} {K : Value → Hp → Prop} (hva0 : Sl eI H va l) (l1 : l.length ≤ 64) (i0 : 0 ≤ i) (i1 : i < l.length) (hc : 0 ≤ at_ 0 l i)
    (hk : ∀ H', Le H H' → K (.int .i64 ((frG l i : Int))) H') : HT prg I.spec_l06Free [va, (.int .i64 (i))].toArray H K := by
  have lE := Le.refl H
  have hva := hva0
  refine R.spec_l06Free ?_
  unfold F.spec_l06Free
  obtain ⟨fg1, fg2, fg3⟩ := frG_spec i0 i1 hc
  have bm := Int.emod_nonneg (i + 1) (b := (l.length : Int)) (by omega)
  have bn := Int.emod_lt_of_pos (i + 1) (b := (l.length : Int)) (by omega)
  refine ob_i (hva.len) ?_
  refine jn_i (fun σ' H' => σ' 6 = (.int .i64 ((frG l i : Int))) ∧ Le H H') (fun σ1 H1 hP => ?_) (fun J1 hJ1 => ?_)
  · skip
    obtain ⟨g6L1, lE⟩ := hP
    have hva := hva0.le lE
    try simp only [g6L1]
    skip
    exact hk   _    lE
  refine ob_i (vInt_add (by omega) (by omega)) ?_
  have rm2 := And.intro (Int.emod_nonneg (i + 1) (b := ((l).length : Int)) (by omega)) (Int.emod_lt_of_pos (i + 1) (b := ((l).length : Int)) (by omega))
  refine ob_i (vInt_remN (by omega) (by omega)) ?_
  refine ⟨fun n' σ' H' => ∃ j : Nat, n' = l.length - j ∧ j ≤ l.length ∧ σ' 0 = va ∧ σ' 1 = (.int .i64 (i)) ∧ σ' 5 = (.int .i64 (((l).length : Int))) ∧ σ' 6 = (.int .i64 ((j : Int))) ∧ σ' 7 = (.int .i64 ((i + 1 + (j : Int)) % (l.length : Int))) ∧ Le H H' ∧ ∀ m, m < j → lnAt l i m < 0,
    ⟨_, 0, rfl, by omega, rfl, rfl, rfl, (congrArg (Value.int .i64) (by first | omega | rfl | (simp; done))), (congrArg (Value.int .i64) (by rw [Int.ofNat_zero, Int.add_zero])), lE, (fun m hm => absurd hm (by omega))⟩, ?_⟩
  rintro n3 σ3 H3 ⟨j, rfl, hjN, g0L3, g1L3, g5L3, g6L3, g7L3, lE, hm0⟩
  have hva := hva0.le lE
  try simp only [g0L3, g1L3, g5L3, g6L3, g7L3]
  have bm := Int.emod_nonneg (i + 1 + (j : Int)) (b := (l.length : Int)) (by omega)
  have bn := Int.emod_lt_of_pos (i + 1 + (j : Int)) (b := (l.length : Int)) (by omega)
  have hjn : j < l.length := by
      rcases Nat.lt_or_ge (l.length - 1) j with h | h
      · have := hm0 _ h; rw [lnAt_self i0 i1] at this; omega
      · omega
  refine ob_i (vInt_neq _ _ _) ?_
  by_cases hc4 : ((i + 1 + (j : Int)) % (l.length : Int)) ≠ i
  · skip
    refine gop_e (decide_eq_true hc4) ?_
    refine gop_rt ?_
    refine gop_e (decide_eq_true hc4) ?_
    refine gop_rt ?_
    refine gop_e (decide_eq_true hc4) ?_
    refine gop_rt ?_
    refine ob_i (hva.ix (by omega) (by omega)) ?_
    refine gop_e (decide_eq_true hc4) ?_
    refine gop_rt ?_
    refine ob_i (hva.ld 0 (by omega) (by omega)) ?_
    refine gop_e (decide_eq_true hc4) ?_
    refine gop_rt ?_
    refine ob_i (vInt_lss _ _ _) ?_
    refine ob_i (vPick_et (decide_eq_true hc4) _ _) ?_
    refine cnd_d (fun hg5 => ?_) (fun hg5 => ?_)
    · skip
      refine ob_i (vInt_add (by omega) (by omega)) ?_
      refine ob_i (vInt_add (by omega) (by omega)) ?_
      have rm6 := And.intro (Int.emod_nonneg (((i + 1 + (j : Int)) % (l.length : Int)) + 1) (b := ((l).length : Int)) (by omega)) (Int.emod_lt_of_pos (((i + 1 + (j : Int)) % (l.length : Int)) + 1) (b := ((l).length : Int)) (by omega))
      refine ob_i (vInt_remN (by omega) (by omega)) ?_
      exact nxt (l.length - (j + 1)) (by omega) ⟨j + 1, rfl, by omega, g0L3, g1L3, g5L3, (congrArg (Value.int .i64) (by first | omega | rfl | (simp; done))), (congrArg (Value.int .i64) (by rw [Int.emod_add_emod]; congr 1; omega)), lE, (fun m hm => by rcases Nat.lt_or_ge m j with h | h; exact hm0 m h; obtain rfl : m = j := (by omega); unfold lnAt; omega)⟩
    · skip
      exact hJ1 _ _ ⟨(g6L3.trans (congrArg (Value.int .i64) (congrArg Int.ofNat (frG_at hm0 (by unfold lnAt; first | omega | (rw [show (i + 1 + (j : Int)) % (l.length : Int) = i by omega]; exact hc)) (by omega)).symm))), lE⟩
  · skip
    refine gop_e (decide_eq_false hc4) ?_
    refine gop_sf ?_
    refine gop_e (decide_eq_false hc4) ?_
    refine gop_sf ?_
    refine gop_e (decide_eq_false hc4) ?_
    refine gop_sf ?_
    refine gop_e (decide_eq_false hc4) ?_
    refine gop_sf ?_
    refine gop_e (decide_eq_false hc4) ?_
    refine gop_sf ?_
    refine ob_i (vPick_ef (decide_eq_false hc4) _ _) ?_
    refine cnd_f1 ?_
    exact hJ1 _ _ ⟨(g6L3.trans (congrArg (Value.int .i64) (congrArg Int.ofNat (frG_at hm0 (by unfold lnAt; first | omega | (rw [show (i + 1 + (j : Int)) % (l.length : Int) = i by omega]; exact hc)) (by omega)).symm))), lE⟩
theorem C.spec_l00Min {a b : Int}  {H : Hp} {K : Value → Hp → Prop}
    (hk : K (.int .i64 (min a b)) H) : HT prg I.spec_l00Min [(.int .i64 (a)), (.int .i64 (b))].toArray H K := by
  have lE := Le.refl H
  refine R.spec_l00Min ?_
  unfold F.spec_l00Min
  refine ob_i (vInt_lss _ _ _) ?_
  refine cnd_d (fun hg1 => ?_) (fun hg1 => ?_)
  · skip
    skip
    exact keq (K := K) (by rw [show ((min a b) : Int) = (a) from by omega]) (hk )
  · skip
    skip
    exact keq (K := K) (by rw [show ((min a b) : Int) = (b) from by omega]) (hk )
theorem C.impl_LaneStep {va : Value} {mo x : Int} {l : List Int} {sh : Nat} {H : Hp} {K : Value → Hp → Prop} (hva0 : Sl eI H va l) (k1 : l.length ≤ 9223372036854775807)
    (hk : ∀ u1 H', Own eI H' u1 (selL (lnsP l mo sh x) (lnL l mo sh x)) → Nw H u1 → Le H H' → K (.tuple #[u1, (.int .i64 (selI (lnsP l mo sh x) (lnX l mo sh x))), (.bool (decide (lnsP l mo sh x)))]) H') : HT prg I.impl_LaneStep [va, (.int .i64 (mo)), (.float .f32 sh), (.int .i64 (x))].toArray H K := by
  have lE := Le.refl H
  have hva := hva0
  refine R.impl_LaneStep ?_
  unfold F.impl_LaneStep
  refine C.impl_IsLane hva (by first | omega | assumption) ?_
  refine ob_nd (fun hc1 => ?_) (fun hc1 => ?_)
  · skip
    have hl1 := hc1.1
    have hl2 := hc1.2
    refine gop_rf ?_
    refine gop_rf ?_
    refine C.impl_within  ?_
    refine gop_rf ?_
    refine ob_nd (fun hc2 => ?_) (fun hc2 => ?_)
    · skip
      refine ob_i (vPick_f _ _) ?_
      refine gop_rf ?_
      refine gop_rf ?_
      refine C.impl_isShare  (fun   H3    le4 => ?_)
      replace hva := hva.le le4
      replace lE := lE.trans le4
      refine gop_rf ?_
      refine ob_nd (fun hc5 => ?_) (fun hc5 => ?_)
      · skip
        refine ob_i (vPick_f _ _) ?_
        refine gop_rf ?_
        refine gop_rf ?_
        refine C.impl_isSeed  (fun   H6    le7 => ?_)
        replace hva := hva.le le7
        replace lE := lE.trans le7
        refine gop_rf ?_
        refine ob_nd (fun hc8 => ?_) (fun hc8 => ?_)
        · skip
          have sb := fun n => lnS_seed (l := l) (most := mo) (sh := sh) (show 0 ≤ x by omega) (show x ≤ 4294967295 by omega) n
          refine ob_i (vPick_f _ _) ?_
          refine cnd_f1 ?_
          refine bS_i (enc := eI) (l := [(-1)]) (by omega) rfl (by kernel_rfl) (fun u9 H10 ou9 nn11 le13 => ?_)
          have nu9 : Nw H u9 := nn11.le lE
          replace hva := hva.le le13
          replace lE := lE.trans le13
          refine ob_i (hva.len) ?_
          refine C.slices_Repeat_int64Zint64 ou9.sl (by rfl) (by first | omega | assumption) (by first | omega | assumption) (fun  u H14 ou nn16  le15 => ?_)
          have au9Xu : Apart u9 u := ou9.apart nn16
          have nu : Nw H u := nn16.le lE
          replace ou9 := ou9.le le15
          replace hva := hva.le le15
          replace lE := lE.trans le15
          refine jn_i (fun σ' H' => ∃ u, σ' 3 = (.int .i64 (lnX l mo sh x)) ∧ σ' 11 = u ∧ Own eI H' u9 ([(-1)]) ∧ Own eI H' u (lnL l mo sh x) ∧ Nw H u ∧ Apart u9 u ∧ Le H H') (fun σ17 H17 hP => ?_) (fun J17 hJ17 => ?_)
          · skip
            obtain ⟨u, g3L17, g11L17, ou9, ou, nu, au9Xu, lE⟩ := hP
            have hva := hva0.le lE
            try simp only [g3L17, g11L17]
            skip
            have hok : lnsP l mo sh x := by exact ⟨by assumption, by assumption, by assumption, by omega⟩
            exact keq (K := K) (by rw [show ((selI (lnsP l mo sh x) (lnX l mo sh x)) : Int) = (lnX l mo sh x) from by first | exact selI_t hok | exact selI_f hok]; rw [decide_eq_true (show (lnsP l mo sh x) from by exact hok)]) (hk  u _ (Own.cast (show lnL l mo sh x = selL (lnsP l mo sh x) (lnL l mo sh x) by exact (selL_t hok).symm) ou) nu  lE)
          refine ob_i (hva.len) ?_
          refine ⟨fun n' σ' H' => ∃ i : Nat, n' = l.length - i ∧ i ≤ l.length ∧ ∃ u, σ' 0 = va ∧ σ' 1 = (.int .i64 (mo)) ∧ σ' 2 = (.float .f32 sh) ∧ σ' 3 = (.int .i64 ((lnS l mo sh x i).2)) ∧ σ' 11 = u ∧ σ' 36 = va ∧ σ' 37 = (.int .i64 (((l).length : Int))) ∧ σ' 38 = (.int .i64 ((i : Int))) ∧ Own eI H' u9 ([(-1)]) ∧ Own eI H' u ((lnS l mo sh x i).1) ∧ Nw H u ∧ Apart u9 u ∧ Le H H',
            ⟨_, 0, rfl, by omega, u, rfl, rfl, rfl, (congrArg (Value.int .i64) (by first | omega | rfl | (simp; done))), rfl, rfl, rfl, (congrArg (Value.int .i64) (by first | omega | rfl | (simp; done))), ou9, (Own.cast (by first | rfl | (simp; done)) ou), nu, au9Xu, lE⟩, ?_⟩
          rintro n18 σ18 H18 ⟨i, rfl, hiN, u, g0L18, g1L18, g2L18, g3L18, g11L18, g36L18, g37L18, g38L18, ou9, ou, nu, au9Xu, lE⟩
          have hva := hva0.le lE
          try simp only [g0L18, g1L18, g2L18, g3L18, g11L18, g36L18, g37L18, g38L18]
          have ll := lnS_len (l := l) (most := mo) (sh := sh) (x := x) i
          have si := sb i
          refine ob_i (vInt_lss _ _ _) ?_
          refine cnd_d (fun hg19 => ?_) (fun hg19 => ?_)
          · skip
            have ti := hg19
            have sj : 0 ≤ nxS (lnS l mo sh x i).2 ∧ nxS (lnS l mo sh x i).2 ≤ 4294967295 := by unfold nxS; omega
            have ax := hl2 _ (at_mem 0 l (i := (i : Int)) (by omega) (by omega))
            refine ob_i (hva.ix (by omega) (by omega)) ?_
            refine ob_i (hva.ld 0 (by omega) (by omega)) ?_
            refine ob_i (vInt_lss _ _ _) ?_
            refine cnd_d (fun hg20 => ?_) (fun hg20 => ?_)
            · skip
              refine ob_i (vInt_add (by omega) (by omega)) ?_
              have eS : lnS l mo sh x (i + 1) = lnS l mo sh x i := lnS_skip hg20
              exact nxt (l.length - (i + 1)) (by omega) ⟨i + 1, rfl, by omega, u, g0L18, g1L18, g2L18, (g3L18.trans (congrArg (Value.int .i64) (by first | (rw [eS]; done) | (rw [eS]; rfl)))), g11L18, g36L18, g37L18, (congrArg (Value.int .i64) (by first | omega | rfl | (simp; done))), ou9, (Own.cast (by first | (rw [eS]; done) | (rw [eS]; rfl)) ou), nu, au9Xu, lE⟩
            · skip
              refine ob_i (vInt_add (by omega) (by omega)) ?_
              refine C.impl_gap hva (by first | omega | assumption) (by first | omega | assumption) (by first | omega | assumption) (by first | omega | assumption) (fun   H21    le22 => ?_)
              replace ou9 := ou9.le le22
              replace ou := ou.le le22
              replace hva := hva.le le22
              replace lE := lE.trans le22
              refine ob_i (vMx_min3 _ _ _ _) ?_
              refine C.impl_nextSeed (by first | omega | assumption) (by first | omega | assumption) ?_
              refine R.impl_shareOf ?_
              unfold F.impl_shareOf
              refine ob_i (vInt_quoN (by omega) (by omega) (by omega)) ?_
              refine ob_i (a := (.float .f32 (FloatKind.nearest .f32 ((nxS ((lnS l mo sh x i).2)) / 256)))) rfl ?_
              refine fA_i (o := (FloatKind.f32.format.div (FloatKind.nearest .f32 ((nxS ((lnS l mo sh x i).2)) / 256)) 1266679808)) rfl (fun t => nan_bits32 _ _ t) (fun z23 hz23 => ?_)
              refine ob_i (vF_lss _ _) ?_
              by_cases hc24 : (fLt z23 sh) = true
              · skip
                refine gop_e (hc24) ?_
                refine gop_rt ?_
                refine gop_e (hc24) ?_
                refine gop_rt ?_
                refine ob_i (vInt_gtr _ _ _) ?_
                refine ob_i (vPick_et (hc24) _ _) ?_
                refine cnd_d (fun hg25 => ?_) (fun hg25 => ?_)
                · skip
                  refine ob_i (vInt_sub (by omega) (by omega)) ?_
                  refine ob_i (vInt_add (by omega) (by omega)) ?_
                  refine ob_i (hva.len) ?_
                  have rm26 := And.intro (Int.emod_nonneg ((i : Int) + ((min (min ((at_ 0 (l) ((i : Int))) + 1) (mo)) ((frG l (i : Int) : Int))) - 1)) (b := ((l).length : Int)) (by omega)) (Int.emod_lt_of_pos ((i : Int) + ((min (min ((at_ 0 (l) ((i : Int))) + 1) (mo)) ((frG l (i : Int) : Int))) - 1)) (b := ((l).length : Int)) (by omega))
                  refine ob_i (vInt_remN (by omega) (by omega)) ?_
                  refine ob_i (ou.sl.ix (by omega) (by omega)) ?_
                  refine ou.st (x := (min (min ((at_ 0 (l) ((i : Int))) + 1) (mo)) ((frG l (i : Int) : Int))) - 1) (by omega) (by omega) rfl rfl (fun H27 ou off28 => ?_)
                  replace ou9 := ou9.off off28 au9Xu
                  replace hva := hva0.le (off28.le lE nu)
                  replace lE := off28.le lE nu
                  refine ob_i (vInt_add (by omega) (by omega)) ?_
                  have eB : fLt z23 sh = shB (nxS (lnS l mo sh x i).2) sh := fLtO_of hz23
                  have eV := lnV_t (l := l) (most := mo) (sh := sh) (i := (i : Int)) (s := nxS (lnS l mo sh x i).2) rfl (eB.symm.trans hc24) hg25
                  have eS := lnS_car (l := l) (most := mo) (sh := sh) (x := x) hg20 rfl eV.symm
                  exact nxt (l.length - (i + 1)) (by omega) ⟨i + 1, rfl, by omega, u, g0L18, g1L18, g2L18, (congrArg (Value.int .i64) (by first | (rw [eS]; done) | (rw [eS]; rfl))), g11L18, g36L18, g37L18, (congrArg (Value.int .i64) (by first | omega | rfl | (simp; done))), ou9, (Own.cast (by first | (rw [eS]; done) | (rw [eS]; rfl)) ou), nu, au9Xu, lE⟩
                · skip
                  refine ob_i (vInt_add (by omega) (by omega)) ?_
                  refine ob_i (hva.len) ?_
                  have rm29 := And.intro (Int.emod_nonneg ((i : Int) + (min (min ((at_ 0 (l) ((i : Int))) + 1) (mo)) ((frG l (i : Int) : Int)))) (b := ((l).length : Int)) (by omega)) (Int.emod_lt_of_pos ((i : Int) + (min (min ((at_ 0 (l) ((i : Int))) + 1) (mo)) ((frG l (i : Int) : Int)))) (b := ((l).length : Int)) (by omega))
                  refine ob_i (vInt_remN (by omega) (by omega)) ?_
                  refine ob_i (ou.sl.ix (by omega) (by omega)) ?_
                  refine ou.st (x := min (min ((at_ 0 (l) ((i : Int))) + 1) (mo)) ((frG l (i : Int) : Int))) (by omega) (by omega) rfl rfl (fun H30 ou off31 => ?_)
                  replace ou9 := ou9.off off31 au9Xu
                  replace hva := hva0.le (off31.le lE nu)
                  replace lE := off31.le lE nu
                  refine ob_i (vInt_add (by omega) (by omega)) ?_
                  have eB : fLt z23 sh = shB (nxS (lnS l mo sh x i).2) sh := fLtO_of hz23
                  have eV := lnV_f (l := l) (most := mo) (sh := sh) (i := (i : Int)) (s := nxS (lnS l mo sh x i).2) rfl (fun h => absurd h.2 hg25)
                  have eS := lnS_car (l := l) (most := mo) (sh := sh) (x := x) hg20 rfl eV.symm
                  exact nxt (l.length - (i + 1)) (by omega) ⟨i + 1, rfl, by omega, u, g0L18, g1L18, g2L18, (congrArg (Value.int .i64) (by first | (rw [eS]; done) | (rw [eS]; rfl))), g11L18, g36L18, g37L18, (congrArg (Value.int .i64) (by first | omega | rfl | (simp; done))), ou9, (Own.cast (by first | (rw [eS]; done) | (rw [eS]; rfl)) ou), nu, au9Xu, lE⟩
              · skip
                refine gop_e (eq_false_of_ne_true hc24) ?_
                refine gop_sf ?_
                refine gop_e (eq_false_of_ne_true hc24) ?_
                refine gop_sf ?_
                refine ob_i (vPick_ef (eq_false_of_ne_true hc24) _ _) ?_
                refine cnd_f1 ?_
                refine ob_i (vInt_add (by omega) (by omega)) ?_
                refine ob_i (hva.len) ?_
                have rm32 := And.intro (Int.emod_nonneg ((i : Int) + (min (min ((at_ 0 (l) ((i : Int))) + 1) (mo)) ((frG l (i : Int) : Int)))) (b := ((l).length : Int)) (by omega)) (Int.emod_lt_of_pos ((i : Int) + (min (min ((at_ 0 (l) ((i : Int))) + 1) (mo)) ((frG l (i : Int) : Int)))) (b := ((l).length : Int)) (by omega))
                refine ob_i (vInt_remN (by omega) (by omega)) ?_
                refine ob_i (ou.sl.ix (by omega) (by omega)) ?_
                refine ou.st (x := min (min ((at_ 0 (l) ((i : Int))) + 1) (mo)) ((frG l (i : Int) : Int))) (by omega) (by omega) rfl rfl (fun H33 ou off34 => ?_)
                replace ou9 := ou9.off off34 au9Xu
                replace hva := hva0.le (off34.le lE nu)
                replace lE := off34.le lE nu
                refine ob_i (vInt_add (by omega) (by omega)) ?_
                have eB : fLt z23 sh = shB (nxS (lnS l mo sh x i).2) sh := fLtO_of hz23
                have eV := lnV_f (l := l) (most := mo) (sh := sh) (i := (i : Int)) (s := nxS (lnS l mo sh x i).2) rfl (fun h => by have h1 := eB.symm.trans (by simpa using hc24); rw [h.1] at h1; simp at h1)
                have eS := lnS_car (l := l) (most := mo) (sh := sh) (x := x) hg20 rfl eV.symm
                exact nxt (l.length - (i + 1)) (by omega) ⟨i + 1, rfl, by omega, u, g0L18, g1L18, g2L18, (congrArg (Value.int .i64) (by first | (rw [eS]; done) | (rw [eS]; rfl))), g11L18, g36L18, g37L18, (congrArg (Value.int .i64) (by first | omega | rfl | (simp; done))), ou9, (Own.cast (by first | (rw [eS]; done) | (rw [eS]; rfl)) ou), nu, au9Xu, lE⟩
          · skip
            have ti := hg19
            obtain rfl : i = l.length := by omega
            exact hJ17 _ _ ⟨u, (g3L18.trans (congrArg (Value.int .i64) (by first | omega | rfl | (simp; done)))), g11L18, ou9, ou, nu, au9Xu, lE⟩
        · skip
          refine ob_i (vPick_f _ _) ?_
          refine cnd_t1 ?_
          skip
          have hok : ¬ (lnsP l mo sh x) := by intro h; obtain ⟨h1, h2, h3, h4⟩ := h; first | contradiction | omega
          exact keq (K := K) (by rw [show ((selI (lnsP l mo sh x) (lnX l mo sh x)) : Int) = (0) from by first | exact selI_t hok | exact selI_f hok]; rw [decide_eq_false (show ¬ (lnsP l mo sh x) from by exact hok)]) (hk  (.slice none 0 0) _ (Own.cast (show [] = selL (lnsP l mo sh x) (lnL l mo sh x) by exact (selL_f hok).symm) (Own.nil_of none)) (fun b hb => by simp [bk] at hb)  lE)
      · skip
        refine ob_i (vPick_f _ _) ?_
        refine gop_st ?_
        refine gop_st ?_
        refine gop_st ?_
        refine ob_i (vPick_t _ _) ?_
        refine cnd_t1 ?_
        skip
        have hok : ¬ (lnsP l mo sh x) := by intro h; obtain ⟨h1, h2, h3, h4⟩ := h; first | contradiction | omega
        exact keq (K := K) (by rw [show ((selI (lnsP l mo sh x) (lnX l mo sh x)) : Int) = (0) from by first | exact selI_t hok | exact selI_f hok]; rw [decide_eq_false (show ¬ (lnsP l mo sh x) from by exact hok)]) (hk  (.slice none 0 0) _ (Own.cast (show [] = selL (lnsP l mo sh x) (lnL l mo sh x) by exact (selL_f hok).symm) (Own.nil_of none)) (fun b hb => by simp [bk] at hb)  lE)
    · skip
      refine ob_i (vPick_f _ _) ?_
      refine gop_st ?_
      refine gop_st ?_
      refine gop_st ?_
      refine ob_i (vPick_t _ _) ?_
      refine gop_st ?_
      refine gop_st ?_
      refine gop_st ?_
      refine ob_i (vPick_t _ _) ?_
      refine cnd_t1 ?_
      skip
      have hok : ¬ (lnsP l mo sh x) := by intro h; obtain ⟨h1, h2, h3, h4⟩ := h; first | contradiction | omega
      exact keq (K := K) (by rw [show ((selI (lnsP l mo sh x) (lnX l mo sh x)) : Int) = (0) from by first | exact selI_t hok | exact selI_f hok]; rw [decide_eq_false (show ¬ (lnsP l mo sh x) from by exact hok)]) (hk  (.slice none 0 0) _ (Own.cast (show [] = selL (lnsP l mo sh x) (lnL l mo sh x) by exact (selL_f hok).symm) (Own.nil_of none)) (fun b hb => by simp [bk] at hb)  lE)
  · skip
    refine gop_st ?_
    refine gop_st ?_
    refine gop_st ?_
    refine ob_i (vPick_t _ _) ?_
    refine gop_st ?_
    refine gop_st ?_
    refine gop_st ?_
    refine ob_i (vPick_t _ _) ?_
    refine gop_st ?_
    refine gop_st ?_
    refine gop_st ?_
    refine ob_i (vPick_t _ _) ?_
    refine cnd_t1 ?_
    skip
    have hok : ¬ (lnsP l mo sh x) := by intro h; obtain ⟨h1, h2, h3, h4⟩ := h; first | contradiction | omega
    exact keq (K := K) (by rw [show ((selI (lnsP l mo sh x) (lnX l mo sh x)) : Int) = (0) from by first | exact selI_t hok | exact selI_f hok]; rw [decide_eq_false (show ¬ (lnsP l mo sh x) from by exact hok)]) (hk  (.slice none 0 0) _ (Own.cast (show [] = selL (lnsP l mo sh x) (lnL l mo sh x) by exact (selL_f hok).symm) (Own.nil_of none)) (fun b hb => by simp [bk] at hb)  lE)
theorem C.spec_LaneStep {va : Value} {mo x : Int} {l : List Int} {sh : Nat} {H : Hp} {K : Value → Hp → Prop} (hva0 : Sl eI H va l) (k1 : l.length ≤ 9223372036854775807)
    (hk : ∀ u1 H', Own eI H' u1 (selL (lnsP l mo sh x) (lnL l mo sh x)) → Nw H u1 → Le H H' → K (.tuple #[u1, (.int .i64 (selI (lnsP l mo sh x) (lnX l mo sh x))), (.bool (decide (lnsP l mo sh x)))]) H') : HT prg I.spec_LaneStep [va, (.int .i64 (mo)), (.float .f32 sh), (.int .i64 (x))].toArray H K := by
  have lE := Le.refl H
  have hva := hva0
  refine R.spec_LaneStep ?_
  unfold F.spec_LaneStep
  refine C.spec_l06Lane hva (by first | omega | assumption) ?_
  refine ob_nd (fun hc1 => ?_) (fun hc1 => ?_)
  · skip
    have hl1 := hc1.1
    have hl2 := hc1.2
    refine gop_rf ?_
    refine gop_rf ?_
    refine C.spec_l00In  ?_
    refine gop_rf ?_
    refine ob_nd (fun hc2 => ?_) (fun hc2 => ?_)
    · skip
      refine ob_i (vPick_f _ _) ?_
      refine gop_rf ?_
      refine gop_rf ?_
      refine C.spec_l02Share  (fun   H3    le4 => ?_)
      replace hva := hva.le le4
      replace lE := lE.trans le4
      refine gop_rf ?_
      refine ob_nd (fun hc5 => ?_) (fun hc5 => ?_)
      · skip
        refine ob_i (vPick_f _ _) ?_
        refine gop_rf ?_
        refine gop_rf ?_
        refine C.spec_l00In  ?_
        refine gop_rf ?_
        refine ob_nd (fun hc6 => ?_) (fun hc6 => ?_)
        · skip
          have sb := fun n => lnS_seed (l := l) (most := mo) (sh := sh) (show 0 ≤ x by omega) (show x ≤ 4294967295 by omega) n
          refine ob_i (vPick_f _ _) ?_
          refine cnd_f1 ?_
          refine bS_nil (enc := eI) (fun u7 H8 ou7 nn9 kk10 le11 => ?_)
          have nu7 : Nw H u7 := nn9.le lE
          replace hva := hva.le le11
          replace lE := lE.trans le11
          refine jn_i (fun σ' H' => ∃ u, σ' 0 = va ∧ σ' 1 = (.int .i64 (mo)) ∧ σ' 2 = (.float .f32 sh) ∧ σ' 3 = (.int .i64 (x)) ∧ σ' 11 = u ∧ Own eI H' u (List.replicate l.length (-1)) ∧ Nw H u ∧ Le H H') (fun σ12 H12 hP => ?_) (fun J12 hJ12 => ?_)
          · skip
            obtain ⟨u, g0L12, g1L12, g2L12, g3L12, g11L12, ou, nu, lE⟩ := hP
            have hva := hva0.le lE
            try simp only [g0L12, g1L12, g2L12, g3L12, g11L12]
            refine jn_i (fun σ' H' => ∃ u, σ' 3 = (.int .i64 (lnX l mo sh x)) ∧ σ' 11 = u ∧ Own eI H' u (lnL l mo sh x) ∧ Nw H u ∧ Le H H') (fun σ13 H13 hP => ?_) (fun J13 hJ13 => ?_)
            · skip
              obtain ⟨u, g3L13, g11L13, ou, nu, lE⟩ := hP
              have hva := hva0.le lE
              try simp only [g3L13, g11L13]
              skip
              have hok : lnsP l mo sh x := by exact ⟨by assumption, by assumption, by assumption, by omega⟩
              exact keq (K := K) (by rw [show ((selI (lnsP l mo sh x) (lnX l mo sh x)) : Int) = (lnX l mo sh x) from by first | exact selI_t hok | exact selI_f hok]; rw [decide_eq_true (show (lnsP l mo sh x) from by exact hok)]) (hk  u _ (Own.cast (show lnL l mo sh x = selL (lnsP l mo sh x) (lnL l mo sh x) by exact (selL_t hok).symm) ou) nu  lE)
            refine ⟨fun n' σ' H' => ∃ i : Nat, n' = l.length - i ∧ i ≤ l.length ∧ ∃ u, σ' 0 = va ∧ σ' 1 = (.int .i64 (mo)) ∧ σ' 2 = (.float .f32 sh) ∧ σ' 3 = (.int .i64 ((lnS l mo sh x i).2)) ∧ σ' 11 = u ∧ σ' 13 = (.int .i64 ((i : Int))) ∧ Own eI H' u ((lnS l mo sh x i).1) ∧ Nw H u ∧ Le H H',
              ⟨_, 0, rfl, by omega, u, g0L12, g1L12, g2L12, (g3L12.trans (congrArg (Value.int .i64) (by first | omega | rfl | (simp; done)))), g11L12, (congrArg (Value.int .i64) (by first | omega | rfl | (simp; done))), (Own.cast (by first | rfl | (simp; done)) ou), nu, lE⟩, ?_⟩
            rintro n14 σ14 H14 ⟨i, rfl, hiN, u, g0L14, g1L14, g2L14, g3L14, g11L14, g13L14, ou, nu, lE⟩
            have hva := hva0.le lE
            try simp only [g0L14, g1L14, g2L14, g3L14, g11L14, g13L14]
            have ll := lnS_len (l := l) (most := mo) (sh := sh) (x := x) i
            have si := sb i
            refine ob_i (hva.len) ?_
            refine ob_i (vInt_lss _ _ _) ?_
            refine cnd_d (fun hg15 => ?_) (fun hg15 => ?_)
            · skip
              have ti := hg15
              have sj : 0 ≤ nxS (lnS l mo sh x i).2 ∧ nxS (lnS l mo sh x i).2 ≤ 4294967295 := by unfold nxS; omega
              have ax := hl2 _ (at_mem 0 l (i := (i : Int)) (by omega) (by omega))
              refine ob_i (hva.ix (by omega) (by omega)) ?_
              refine ob_i (hva.ld 0 (by omega) (by omega)) ?_
              refine ob_i (vInt_lss _ _ _) ?_
              refine cnd_d (fun hg16 => ?_) (fun hg16 => ?_)
              · skip
                refine ob_i (vInt_add (by omega) (by omega)) ?_
                have eS : lnS l mo sh x (i + 1) = lnS l mo sh x i := lnS_skip hg16
                exact nxt (l.length - (i + 1)) (by omega) ⟨i + 1, rfl, by omega, u, g0L14, g1L14, g2L14, (g3L14.trans (congrArg (Value.int .i64) (by first | (rw [eS]; done) | (rw [eS]; rfl)))), g11L14, (congrArg (Value.int .i64) (by first | omega | rfl | (simp; done))), (Own.cast (by first | (rw [eS]; done) | (rw [eS]; rfl)) ou), nu, lE⟩
              · skip
                refine ob_i (hva.ix (by omega) (by omega)) ?_
                refine ob_i (hva.ld 0 (by omega) (by omega)) ?_
                refine ob_i (vInt_add (by omega) (by omega)) ?_
                refine C.spec_l00Min  ?_
                refine C.spec_l06Free hva (by first | omega | assumption) (by first | omega | assumption) (by first | omega | assumption) (by first | omega | assumption) (fun   H17    le18 => ?_)
                replace ou := ou.le le18
                replace hva := hva.le le18
                replace lE := lE.trans le18
                refine C.spec_l00Min  ?_
                refine R.spec_l06Seed ?_
                unfold F.spec_l06Seed
                refine ob_i (vInt_mul (by omega) (by omega)) ?_
                refine ob_i (vInt_add (by omega) (by omega)) ?_
                refine ob_i (vInt_remN (by omega) (by omega)) ?_
                refine ob_i (vInt_quoN (by omega) (by omega) (by omega)) ?_
                refine ob_i (a := (.float .f32 (FloatKind.nearest .f32 ((((1664525 * ((lnS l mo sh x i).2)) + 1013904223) % 4294967296) / 256)))) rfl ?_
                refine fA_i (o := (FloatKind.f32.format.div (FloatKind.nearest .f32 ((((1664525 * ((lnS l mo sh x i).2)) + 1013904223) % 4294967296) / 256)) 1266679808)) rfl (fun t => nan_bits32 _ _ t) (fun z19 hz19 => ?_)
                refine ob_i (vExt_20 _ _) ?_
                refine ob_i (vExt_21 _ _) ?_
                refine ob_i (vF_lss _ _) ?_
                by_cases hc20 : (fLt z19 sh) = true
                · skip
                  refine gop_e (hc20) ?_
                  refine gop_rt ?_
                  refine gop_e (hc20) ?_
                  refine gop_rt ?_
                  refine ob_i (vInt_gtr _ _ _) ?_
                  refine ob_i (vPick_et (hc20) _ _) ?_
                  refine cnd_d (fun hg21 => ?_) (fun hg21 => ?_)
                  · skip
                    refine ob_i (vInt_sub (by omega) (by omega)) ?_
                    refine ob_i (vInt_add (by omega) (by omega)) ?_
                    refine ob_i (hva.len) ?_
                    have rm22 := And.intro (Int.emod_nonneg ((i : Int) + ((min (min ((at_ 0 (l) ((i : Int))) + 1) mo) ((frG l (i : Int) : Int))) - 1)) (b := ((l).length : Int)) (by omega)) (Int.emod_lt_of_pos ((i : Int) + ((min (min ((at_ 0 (l) ((i : Int))) + 1) mo) ((frG l (i : Int) : Int))) - 1)) (b := ((l).length : Int)) (by omega))
                    refine ob_i (vInt_remN (by omega) (by omega)) ?_
                    refine ob_i (ou.sl.ix (by omega) (by omega)) ?_
                    refine ou.st (x := (min (min ((at_ 0 (l) ((i : Int))) + 1) mo) ((frG l (i : Int) : Int))) - 1) (by omega) (by omega) rfl rfl (fun H23 ou off24 => ?_)
                    replace hva := hva0.le (off24.le lE nu)
                    replace lE := off24.le lE nu
                    refine ob_i (vInt_add (by omega) (by omega)) ?_
                    have eB : fLt z19 sh = shB (nxS (lnS l mo sh x i).2) sh := fLtO_of hz19
                    have eV := lnV_t (l := l) (most := mo) (sh := sh) (i := (i : Int)) (s := nxS (lnS l mo sh x i).2) rfl (eB.symm.trans hc20) hg21
                    have eS := lnS_car (l := l) (most := mo) (sh := sh) (x := x) hg16 rfl eV.symm
                    exact nxt (l.length - (i + 1)) (by omega) ⟨i + 1, rfl, by omega, u, g0L14, g1L14, g2L14, (congrArg (Value.int .i64) (by first | (rw [eS]; done) | (rw [eS]; rfl))), g11L14, (congrArg (Value.int .i64) (by first | omega | rfl | (simp; done))), (Own.cast (by first | (rw [eS]; done) | (rw [eS]; rfl)) ou), nu, lE⟩
                  · skip
                    refine ob_i (vInt_add (by omega) (by omega)) ?_
                    refine ob_i (hva.len) ?_
                    have rm25 := And.intro (Int.emod_nonneg ((i : Int) + (min (min ((at_ 0 (l) ((i : Int))) + 1) mo) ((frG l (i : Int) : Int)))) (b := ((l).length : Int)) (by omega)) (Int.emod_lt_of_pos ((i : Int) + (min (min ((at_ 0 (l) ((i : Int))) + 1) mo) ((frG l (i : Int) : Int)))) (b := ((l).length : Int)) (by omega))
                    refine ob_i (vInt_remN (by omega) (by omega)) ?_
                    refine ob_i (ou.sl.ix (by omega) (by omega)) ?_
                    refine ou.st (x := min (min ((at_ 0 (l) ((i : Int))) + 1) mo) ((frG l (i : Int) : Int))) (by omega) (by omega) rfl rfl (fun H26 ou off27 => ?_)
                    replace hva := hva0.le (off27.le lE nu)
                    replace lE := off27.le lE nu
                    refine ob_i (vInt_add (by omega) (by omega)) ?_
                    have eB : fLt z19 sh = shB (nxS (lnS l mo sh x i).2) sh := fLtO_of hz19
                    have eV := lnV_f (l := l) (most := mo) (sh := sh) (i := (i : Int)) (s := nxS (lnS l mo sh x i).2) rfl (fun h => absurd h.2 hg21)
                    have eS := lnS_car (l := l) (most := mo) (sh := sh) (x := x) hg16 rfl eV.symm
                    exact nxt (l.length - (i + 1)) (by omega) ⟨i + 1, rfl, by omega, u, g0L14, g1L14, g2L14, (congrArg (Value.int .i64) (by first | (rw [eS]; done) | (rw [eS]; rfl))), g11L14, (congrArg (Value.int .i64) (by first | omega | rfl | (simp; done))), (Own.cast (by first | (rw [eS]; done) | (rw [eS]; rfl)) ou), nu, lE⟩
                · skip
                  refine gop_e (eq_false_of_ne_true hc20) ?_
                  refine gop_sf ?_
                  refine gop_e (eq_false_of_ne_true hc20) ?_
                  refine gop_sf ?_
                  refine ob_i (vPick_ef (eq_false_of_ne_true hc20) _ _) ?_
                  refine cnd_f1 ?_
                  refine ob_i (vInt_add (by omega) (by omega)) ?_
                  refine ob_i (hva.len) ?_
                  have rm28 := And.intro (Int.emod_nonneg ((i : Int) + (min (min ((at_ 0 (l) ((i : Int))) + 1) mo) ((frG l (i : Int) : Int)))) (b := ((l).length : Int)) (by omega)) (Int.emod_lt_of_pos ((i : Int) + (min (min ((at_ 0 (l) ((i : Int))) + 1) mo) ((frG l (i : Int) : Int)))) (b := ((l).length : Int)) (by omega))
                  refine ob_i (vInt_remN (by omega) (by omega)) ?_
                  refine ob_i (ou.sl.ix (by omega) (by omega)) ?_
                  refine ou.st (x := min (min ((at_ 0 (l) ((i : Int))) + 1) mo) ((frG l (i : Int) : Int))) (by omega) (by omega) rfl rfl (fun H29 ou off30 => ?_)
                  replace hva := hva0.le (off30.le lE nu)
                  replace lE := off30.le lE nu
                  refine ob_i (vInt_add (by omega) (by omega)) ?_
                  have eB : fLt z19 sh = shB (nxS (lnS l mo sh x i).2) sh := fLtO_of hz19
                  have eV := lnV_f (l := l) (most := mo) (sh := sh) (i := (i : Int)) (s := nxS (lnS l mo sh x i).2) rfl (fun h => by have h1 := eB.symm.trans (by simpa using hc20); rw [h.1] at h1; simp at h1)
                  have eS := lnS_car (l := l) (most := mo) (sh := sh) (x := x) hg16 rfl eV.symm
                  exact nxt (l.length - (i + 1)) (by omega) ⟨i + 1, rfl, by omega, u, g0L14, g1L14, g2L14, (congrArg (Value.int .i64) (by first | (rw [eS]; done) | (rw [eS]; rfl))), g11L14, (congrArg (Value.int .i64) (by first | omega | rfl | (simp; done))), (Own.cast (by first | (rw [eS]; done) | (rw [eS]; rfl)) ou), nu, lE⟩
            · skip
              have ti := hg15
              obtain rfl : i = l.length := by omega
              exact hJ13 _ _ ⟨u, (g3L14.trans (congrArg (Value.int .i64) (by first | omega | rfl | (simp; done)))), g11L14, ou, nu, lE⟩
          refine ⟨fun n' σ' H' => ∃ j : Nat, n' = l.length - j ∧ j ≤ l.length ∧ ∃ u, σ' 0 = va ∧ σ' 1 = (.int .i64 (mo)) ∧ σ' 2 = (.float .f32 sh) ∧ σ' 3 = (.int .i64 (x)) ∧ σ' 11 = u ∧ σ' 12 = (.int .i64 ((j : Int))) ∧ Own eI H' u (List.replicate j (-1)) ∧ Nw H u ∧ Le H H',
            ⟨_, 0, rfl, by omega, u7, rfl, rfl, rfl, rfl, rfl, (congrArg (Value.int .i64) (by first | omega | rfl | (simp; done))), (Own.cast (by first | rfl | (simp; done)) ou7), nu7, lE⟩, ?_⟩
          rintro n31 σ31 H31 ⟨j, rfl, hjN, u, g0L31, g1L31, g2L31, g3L31, g11L31, g12L31, ou, nu, lE⟩
          have hva := hva0.le lE
          try simp only [g0L31, g11L31, g12L31]
          refine ob_i (hva.len) ?_
          refine ob_i (vInt_lss _ _ _) ?_
          refine cnd_d (fun hg32 => ?_) (fun hg32 => ?_)
          · skip
            have tj := hg32
            refine bS_i (enc := eI) (l := [(-1)]) (by omega) rfl (by kernel_rfl) (fun u33 H34 ou33 nn35 le37 => ?_)
            have auXu33 : Apart u u33 := ou.apart nn35
            have nu33 : Nw H u33 := nn35.le lE
            replace ou := ou.le le37
            replace hva := hva.le le37
            replace lE := lE.trans le37
            refine apd_any ou ou33.sl (fun _ => rfl) (by omega) (by first | omega | (simp only [List.length_cons, List.length_nil, List.length_append, List.length_replicate, List.length_map, List.length_range]; omega)) (fun u41 H38 ou41 off39 hb40 => ?_)
            have au33Xu41 : Apart u33 u41 := Apart.ap2 ou33.known auXu33.symm hb40
            have nu41 : Nw H u41 := Nw.ap2 nu lE hb40
            replace ou33 := ou33.off off39 auXu33.symm
            replace hva := hva0.le (off39.le lE nu)
            replace lE := off39.le lE nu
            refine ob_i (vInt_add (by omega) (by omega)) ?_
            exact nxt (l.length - (j + 1)) (by omega) ⟨j + 1, rfl, by omega, u41, g0L31, g1L31, g2L31, g3L31, rfl, (congrArg (Value.int .i64) (by first | omega | rfl | (simp; done))), (Own.cast (List.replicate_succ').symm ou41), nu41, lE⟩
          · skip
            have tj := hg32
            obtain rfl : j = l.length := by omega
            exact hJ12 _ _ ⟨u, g0L31, g1L31, g2L31, g3L31, g11L31, ou, nu, lE⟩
        · skip
          refine ob_i (vPick_f _ _) ?_
          refine cnd_t1 ?_
          skip
          have hok : ¬ (lnsP l mo sh x) := by intro h; obtain ⟨h1, h2, h3, h4⟩ := h; first | contradiction | omega
          exact keq (K := K) (by rw [show ((selI (lnsP l mo sh x) (lnX l mo sh x)) : Int) = (0) from by first | exact selI_t hok | exact selI_f hok]; rw [decide_eq_false (show ¬ (lnsP l mo sh x) from by exact hok)]) (hk  (.slice none 0 0) _ (Own.cast (show [] = selL (lnsP l mo sh x) (lnL l mo sh x) by exact (selL_f hok).symm) (Own.nil_of none)) (fun b hb => by simp [bk] at hb)  lE)
      · skip
        refine ob_i (vPick_f _ _) ?_
        refine gop_st ?_
        refine gop_st ?_
        refine gop_st ?_
        refine ob_i (vPick_t _ _) ?_
        refine cnd_t1 ?_
        skip
        have hok : ¬ (lnsP l mo sh x) := by intro h; obtain ⟨h1, h2, h3, h4⟩ := h; first | contradiction | omega
        exact keq (K := K) (by rw [show ((selI (lnsP l mo sh x) (lnX l mo sh x)) : Int) = (0) from by first | exact selI_t hok | exact selI_f hok]; rw [decide_eq_false (show ¬ (lnsP l mo sh x) from by exact hok)]) (hk  (.slice none 0 0) _ (Own.cast (show [] = selL (lnsP l mo sh x) (lnL l mo sh x) by exact (selL_f hok).symm) (Own.nil_of none)) (fun b hb => by simp [bk] at hb)  lE)
    · skip
      refine ob_i (vPick_f _ _) ?_
      refine gop_st ?_
      refine gop_st ?_
      refine gop_st ?_
      refine ob_i (vPick_t _ _) ?_
      refine gop_st ?_
      refine gop_st ?_
      refine gop_st ?_
      refine ob_i (vPick_t _ _) ?_
      refine cnd_t1 ?_
      skip
      have hok : ¬ (lnsP l mo sh x) := by intro h; obtain ⟨h1, h2, h3, h4⟩ := h; first | contradiction | omega
      exact keq (K := K) (by rw [show ((selI (lnsP l mo sh x) (lnX l mo sh x)) : Int) = (0) from by first | exact selI_t hok | exact selI_f hok]; rw [decide_eq_false (show ¬ (lnsP l mo sh x) from by exact hok)]) (hk  (.slice none 0 0) _ (Own.cast (show [] = selL (lnsP l mo sh x) (lnL l mo sh x) by exact (selL_f hok).symm) (Own.nil_of none)) (fun b hb => by simp [bk] at hb)  lE)
  · skip
    refine gop_st ?_
    refine gop_st ?_
    refine gop_st ?_
    refine ob_i (vPick_t _ _) ?_
    refine gop_st ?_
    refine gop_st ?_
    refine gop_st ?_
    refine ob_i (vPick_t _ _) ?_
    refine gop_st ?_
    refine gop_st ?_
    refine gop_st ?_
    refine ob_i (vPick_t _ _) ?_
    refine cnd_t1 ?_
    skip
    have hok : ¬ (lnsP l mo sh x) := by intro h; obtain ⟨h1, h2, h3, h4⟩ := h; first | contradiction | omega
    exact keq (K := K) (by rw [show ((selI (lnsP l mo sh x) (lnX l mo sh x)) : Int) = (0) from by first | exact selI_t hok | exact selI_f hok]; rw [decide_eq_false (show ¬ (lnsP l mo sh x) from by exact hok)]) (hk  (.slice none 0 0) _ (Own.cast (show [] = selL (lnsP l mo sh x) (lnL l mo sh x) by exact (selL_f hok).symm) (Own.nil_of none)) (fun b hb => by simp [bk] at hb)  lE)
end Go.Proofs.Ytdfoobomlabffaa
