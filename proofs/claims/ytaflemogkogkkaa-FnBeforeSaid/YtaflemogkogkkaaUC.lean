/- Fields that are still, and those that lead to one. -/
import Derived.Test.YtaflemogkogkkaaUP
import Derived.Test.YtaflemogkogkkaaUB
namespace Go.Proofs.Ytaflemogkogkkaa
open HL
set_option maxRecDepth 100000
theorem C.impl_digitsOf {x bb n : Int}  {H : Hp} {K : Value → Hp → Prop} (x0 : 0 ≤ x) (x1 : x < 9223372036854775808) (b0 : 2 ≤ bb) (b1 : bb ≤ 16) (n0 : 0 ≤ n) (n1 : n ≤ 100000)
    (hk : ∀ u1 H', Own eI H' u1 (dgL bb x n.toNat) → Nw H u1 → Le H H' → K u1 H') : HT prg I.impl_digitsOf [(.int .i64 (x)), (.int .i64 (bb)), (.int .i64 (n))].toArray H K := by
  have lE := Le.refl H
  refine R.impl_digitsOf ?_
  unfold F.impl_digitsOf
  refine Own.mk_ (z := (0 : Int)) (by omega) (by omega) (by omega) (by omega) (fun u H1 ou nn2 le3 => ?_)
  have nu : Nw H u := nn2.le lE
  replace lE := lE.trans le3
  refine jn_i (fun σ' H' => σ' 7 = u ∧ Own eI H' u (dgL bb x n.toNat) ∧ Le H H') (fun σ4 H4 hP => ?_) (fun J4 hJ4 => ?_)
  · skip
    obtain ⟨g7L4, ou, lE⟩ := hP
    try simp only [g7L4]
    skip
    exact hk  u _ ou nu  lE
  refine ob_i (vInt_sub (by omega) (by omega)) ?_
  refine ⟨fun n' σ' H' => ∃ t : Nat, n' = n.toNat - t ∧ t ≤ n.toNat ∧ σ' 0 = (.int .i64 (x / bb ^ t)) ∧ σ' 1 = (.int .i64 (bb)) ∧ σ' 7 = u ∧ σ' 8 = (.int .i64 (n - 1 - (t : Int))) ∧ Own eI H' u (dgF bb x n.toNat t) ∧ Le H H',
    ⟨_, 0, rfl, by omega, (congrArg (Value.int .i64) dg_one.symm), rfl, rfl, (congrArg (Value.int .i64) (by first | omega | rfl | (simp; done))), (Own.cast (dgF_zero _ _ _).symm ou), lE⟩, ?_⟩
  rintro n5 σ5 H5 ⟨t, rfl, htN, g0L5, g1L5, g7L5, g8L5, ou, lE⟩
  try simp only [g0L5, g1L5, g7L5, g8L5]
  have bd := dg_bnd (b := bb) (x := x) (t := t) (by omega) (by omega)
  have bl := dgF_len bb x n.toNat t
  refine ob_i (vInt_geq _ _ _) ?_
  refine cnd_d (fun hg6 => ?_) (fun hg6 => ?_)
  · skip
    have tt := hg6
    have rm7 := And.intro (Int.emod_nonneg (x / bb ^ t) (b := bb) (by omega)) (Int.emod_lt_of_pos (x / bb ^ t) (b := bb) (by omega))
    refine ob_i (vInt_remN (by omega) (by omega)) ?_
    refine ob_i (ou.sl.ix (by omega) (by omega)) ?_
    refine ou.st (x := (x / bb ^ t) % bb) (by omega) (by omega) rfl rfl (fun H8 ou off9 => ?_)
    replace lE := off9.le lE nu
    refine ob_i (vInt_quoN (by omega) (by omega) (by omega)) ?_
    refine ob_i (vInt_sub (by omega) (by omega)) ?_
    have eP := dg_div (b := bb) (x := x) (t := t) (by omega)
    rw [dgF_set (by omega) (by omega)] at ou
    exact nxt (n.toNat - (t + 1)) (by omega) ⟨t + 1, rfl, by omega, (congrArg (Value.int .i64) (by first | omega | rfl | (simp; done))), g1L5, g7L5, (congrArg (Value.int .i64) (by first | omega | rfl | (simp; done))), ou, lE⟩
  · skip
    have tt := hg6
    rw [show t = n.toNat by omega, dgF_full] at ou
    exact hJ4 _ _ ⟨g7L5, ou, lE⟩
theorem C.impl_areSmall {r c : Int}  {H : Hp} {K : Value → Hp → Prop}
    (hk : ∀ H', Le H H' → K (.bool (decide (smP r c))) H') : HT prg I.impl_areSmall [(.int .i64 (r)), (.int .i64 (c))].toArray H K := by
  have lE := Le.refl H
  refine R.impl_areSmall ?_
  unfold F.impl_areSmall
  refine C.impl_isSide  ?_
  by_cases hc1 : 1 ≤ r ∧ r ≤ 24
  · skip
    refine gop_e (decide_eq_true hc1) ?_
    refine gop_rt ?_
    refine gop_e (decide_eq_true hc1) ?_
    refine gop_rt ?_
    refine C.impl_isSide  ?_
    refine ob_i (vPick_et (decide_eq_true hc1) _ _) ?_
    by_cases hc2 : 1 ≤ c ∧ c ≤ 24
    · skip
      have hs : sidesF r c := ⟨by assumption, hc2⟩
      have qm := sidesF_mul hs
      refine gop_e (decide_eq_true hc2) ?_
      refine gop_rt ?_
      refine gop_e (decide_eq_true hc2) ?_
      refine gop_rt ?_
      refine gop_e (decide_eq_true hc2) ?_
      refine gop_rt ?_
      refine ob_i (vInt_mul (by omega) (by omega)) ?_
      refine gop_e (decide_eq_true hc2) ?_
      refine gop_rt ?_
      refine ob_i (vInt_leq _ _ _) ?_
      refine ob_i (vPick_et (decide_eq_true hc2) _ _) ?_
      skip
      exact keq (K := K) (by rw [show decide ((r * c) ≤ 12) = decide (smP r c) from decide_eq_decide.mpr (by exact ⟨fun h => ⟨by assumption, h⟩, fun h => h.2⟩)]) (hk   _    lE)
    · skip
      refine gop_e (decide_eq_false hc2) ?_
      refine gop_sf ?_
      refine gop_e (decide_eq_false hc2) ?_
      refine gop_sf ?_
      refine gop_e (decide_eq_false hc2) ?_
      refine gop_sf ?_
      refine gop_e (decide_eq_false hc2) ?_
      refine gop_sf ?_
      refine ob_i (vPick_ef (decide_eq_false hc2) _ _) ?_
      skip
      exact keq (K := K) (by rw [decide_eq_false (show ¬ (smP r c) from by exact fun h => by have := h.1.1; have := h.1.2; omega)]) (hk   _    lE)
  · skip
    refine gop_e (decide_eq_false hc1) ?_
    refine gop_sf ?_
    refine gop_e (decide_eq_false hc1) ?_
    refine gop_sf ?_
    refine ob_i (vPick_ef (decide_eq_false hc1) _ _) ?_
    refine gop_sf ?_
    refine gop_sf ?_
    refine gop_sf ?_
    refine gop_sf ?_
    refine ob_i (vPick_f _ _) ?_
    skip
    exact keq (K := K) (by rw [decide_eq_false (show ¬ (smP r c) from by exact fun h => by have := h.1.1; have := h.1.2; omega)]) (hk   _    lE)
theorem C.impl_plainFields {fv : Value} {r c : Int} {H : Hp} {K : Value → Hp → Prop} {Inv : Nat → Hp → Prop} (hs : smP r c) (h0 : Inv 0 H)
    (hstep : ∀ t Ha Hb u (Z : Value → Hp → Prop), t < pw (r * c) → Inv t Ha → Own eI Hb u (dgL 2 t (r * c).toNat) → Nw Ha u → Le Ha Hb → (∀ H'', Inv (t + 1) H'' → Z (.tuple #[]) H'') → callV prg fv [.agg #[.int .i64 r, .int .i64 c, u]] Hb Z)
    (hk : ∀ H', Inv (pw (r * c)) H' → K (.tuple #[]) H') : HT prg I.impl_plainFields [.int .i64 r, .int .i64 c, fv].toArray H K := by
  have qm := sidesF_mul hs.1
  have q12 := hs.2
  have qp := pw_le q12
  refine R.impl_plainFields ?_
  unfold F.impl_plainFields
  refine ob_i (vInt_mul (by omega) (by omega)) ?_
  refine ob_i (a := .int .i64 ((pw (r * c) : Nat) : Int)) (vInt_shl1 (by omega) (by omega)) ?_
  refine ⟨fun n σ H' => ∃ t : Nat, n = pw (r * c) - t ∧ t ≤ pw (r * c) ∧ σ 0 = .int .i64 r ∧ σ 1 = .int .i64 c ∧ σ 2 = fv ∧ σ 6 = .int .i64 (r * c) ∧ σ 12 = .int .i64 (pw (r * c) : Nat) ∧ σ 13 = .int .i64 (t : Nat) ∧ Inv t H', ⟨_, 0, rfl, by omega, rfl, rfl, rfl, rfl, rfl, rfl, h0⟩, ?_⟩
  rintro n σ H1 ⟨t, rfl, ht, g0, g1, g2, g6, g12, g13, hI⟩
  simp only [g0, g1, g2, g6, g12, g13]
  refine ob_i (vInt_lss _ _ _) ?_
  refine cnd_d (fun hlt => ?_) (fun hge => ?_)
  · refine C.impl_digitsOf (by omega) (by omega) (by omega) (by omega) (by omega) (by omega) (fun u H2 ou nu le2 => ?_)
    refine ob_i (a := .agg #[.int .i64 r, .int .i64 c, u]) (by obtain ⟨_, _, _, rfl⟩ := ou.isSl; rfl) ?_
    refine hstep t H1 H2 u _ (by omega) hI ou nu le2 (fun H3 hI3 => ?_)
    refine ob_i (vInt_add (by omega) (by omega)) ?_
    exact nxt (pw (r * c) - (t + 1)) (by omega) ⟨t + 1, rfl, by omega, g0, g1, g2, g6, g12, rfl, hI3⟩
  · obtain rfl : t = pw (r * c) := by omega
    exact hk _ hI
theorem C.impl_CountStill {vb vs : Value} {r c : Int} {b : List Int} {s : List Int}  {H : Hp} {K : Value → Hp → Prop} (hvb0 : Sl eI H vb b) (hvs0 : Sl eI H vs s) (kb : b.length ≤ 9223372036854775807) (ks : s.length ≤ 9223372036854775807)
    (hk : ∀ H', Le H H' → K (.tuple #[(.int .i64 (selI (stlP b s r c) (cnN (stillP b s r c) (pw (r * c))))), (.bool (decide (stlP b s r c)))]) H') : HT prg I.impl_CountStill [(.agg #[vb, vs]), (.int .i64 (r)), (.int .i64 (c))].toArray H K := by
  have lE := Le.refl H
  have hvb := hvb0
  have hvs := hvs0
  refine R.impl_CountStill ?_
  unfold F.impl_CountStill
  refine nw_i (fun p1 H2 op1 nn3 le4 => ?_)
  have np1 : Nw H p1 := nn3.le lE
  replace hvb := hvb.le le4
  replace hvs := hvs.le le4
  replace lE := lE.trans le4
  replace op1 : Cel H2 p1 [vb, vs] := op1
  refine ob_i (op1.ldn rfl) ?_
  refine C.impl_ValidLife hvb hvs (by first | omega | assumption) (by first | omega | assumption) (fun   H5    le6 => ?_)
  replace op1 := op1.le le6
  replace hvb := hvb.le le6
  replace hvs := hvs.le le6
  replace lE := lE.trans le6
  refine ob_nd (fun hc7 => ?_) (fun hc7 => ?_)
  · skip
    refine gop_rf ?_
    refine gop_rf ?_
    refine gop_rf ?_
    refine C.impl_areSmall  (fun   H8    le9 => ?_)
    replace op1 := op1.le le9
    replace hvb := hvb.le le9
    replace hvs := hvs.le le9
    replace lE := lE.trans le9
    refine gop_rf ?_
    refine ob_nd (fun hc10 => ?_) (fun hc10 => ?_)
    · skip
      have hs := hc10.1
      have q12 := hc10.2
      have qm := sidesF_mul hs
      have qp := pw_le q12
      have q1 := hs.1
      have q2 := hs.2
      refine ob_i (vPick_f _ _) ?_
      refine cnd_f1 ?_
      refine nw_i (fun p11 H12 op11 nn13 le14 => ?_)
      have ap1Xp11 : Apart p1 p11 := op1.apart nn13
      have np11 : Nw H p11 := nn13.le lE
      replace op1 := op1.le le14
      replace hvb := hvb.le le14
      replace hvs := hvs.le le14
      replace lE := lE.trans le14
      replace op11 : Cel H12 p11 [(.int .i64 (0))] := op11
      refine op11.st0 (by simp) rfl rfl (fun H15 op11 off16 => ?_)
      replace op1 := op1.off off16 ap1Xp11
      replace hvb := hvb0.le (off16.le lE np11)
      replace hvs := hvs0.le (off16.le lE np11)
      replace lE := off16.le lE np11
      replace op11 : Cel H15 p11 [(.int .i64 (0))] := op11
      refine C.impl_plainFields (Inv := fun t H' => Cel H' p1 [vb, vs] ∧ Cel H' p11 [(.int .i64 (cnN (stillP b s r c) t))] ∧ Le H H') (by assumption) ⟨op1, (Cel.cast (by first | rfl | (simp; done)) op11), lE⟩ (fun t Ha17 Hb17 u17 Z ht17 hI17 ou17 nu17 le17 hZ17 => ?_) (fun He17 hI17 => ?_)
      · obtain ⟨op1, op11, lE⟩ := hI17
        have hvb := hvb0.le lE
        have hvs := hvs0.le lE
        have ap1Xu17 : Apart p1 u17 := op1.apart nu17
        have ap11Xu17 : Apart p11 u17 := op11.apart nu17
        have nu17 : Nw H u17 := nu17.le lE
        replace op1 := op1.le le17
        replace op11 := op11.le le17
        replace hvb := hvb.le le17
        replace hvs := hvs.le le17
        replace lE := lE.trans le17
        have hfd : fieldN 1 r c (dgL 2 (t : Int) (r * c).toNat) := dgL_field (by assumption)
        have hfn : fieldN 1 r c (nxL false b s r c (dgL 2 (t : Int) (r * c).toNat)) := nxL_field hfd.1
        have hld := fieldN_len hfd
        have hln := fieldN_len hfn
        have cb := cnN_bnd (stillP b s r c) t
        refine ⟨by kernel_rfl, ?_⟩
        refine R.impl_CountStill_1 ?_
        unfold F.impl_CountStill_1
        refine nw_i (fun p18 H19 op18 nn20 le21 => ?_)
        have ap1Xp18 : Apart p1 p18 := op1.apart nn20
        have ap11Xp18 : Apart p11 p18 := op11.apart nn20
        have au17Xp18 : Apart u17 p18 := ou17.apart nn20
        have np18 : Nw H p18 := nn20.le lE
        replace op1 := op1.le le21
        replace op11 := op11.le le21
        replace ou17 := ou17.le le21
        replace hvb := hvb.le le21
        replace hvs := hvs.le le21
        replace lE := lE.trans le21
        replace op18 : Cel H19 p18 [(.int .i64 (r)), (.int .i64 (c)), u17] := op18
        refine ob_i (op1.ldn rfl) ?_
        refine ob_i (op18.ldn rfl) ?_
        refine ob_i (op18.ldn rfl) ?_
        refine C.impl_Life_step hvb hvs ou17.sl (by first | omega | assumption) (by first | omega | assumption) (by first | omega | assumption) (fun  u24 H22 ou24 nn25  le23 => ?_)
        have ap1Xu24 : Apart p1 u24 := op1.apart nn25
        have ap11Xu24 : Apart p11 u24 := op11.apart nn25
        have au17Xu24 : Apart u17 u24 := ou17.apart nn25
        have ap18Xu24 : Apart p18 u24 := op18.apart nn25
        have nu24 : Nw H u24 := nn25.le lE
        replace op1 := op1.le le23
        replace op11 := op11.le le23
        replace ou17 := ou17.le le23
        replace op18 := op18.le le23
        replace hvb := hvb.le le23
        replace hvs := hvs.le le23
        replace lE := lE.trans le23
        refine ⟨le23, ?_⟩
        refine C.impl_SameField ou24.sl ou17.sl (by first | omega | assumption) (fun   H26    le27 => ?_)
        replace op1 := op1.le le27
        replace op11 := op11.le le27
        replace ou17 := ou17.le le27
        replace op18 := op18.le le27
        replace ou24 := ou24.le le27
        replace hvb := hvb.le le27
        replace hvs := hvs.le le27
        replace lE := lE.trans le27
        refine ⟨le27, ?_⟩
        refine cnd_d (fun hg28 => ?_) (fun hg28 => ?_)
        · skip
          refine ob_i (op11.ld0 rfl) ?_
          refine ob_i (vInt_add (by omega) (by omega)) ?_
          refine op11.st0 (by simp) rfl rfl (fun H29 op11 off30 => ?_)
          replace op1 := op1.off off30 ap1Xp11
          replace ou17 := ou17.off off30 ap11Xu17.symm
          replace op18 := op18.off off30 ap11Xp18.symm
          replace ou24 := ou24.off off30 ap11Xu24.symm
          replace hvb := hvb0.le (off30.le lE np11)
          replace hvs := hvs0.le (off30.le lE np11)
          replace lE := off30.le lE np11
          replace op11 : Cel H29 p11 [(.int .i64 ((cnN (stillP b s r c) t) + 1))] := op11
          have eC := cnN_yes (p := stillP b s r c) (n := t) hg28.2.2
          exact hZ17 _ ⟨op1, (Cel.cast (by rw [eC]) op11), lE⟩
        · skip
          have eC := cnN_no (p := stillP b s r c) (n := t) (fun h => hg28 ⟨rfl, rfl, h⟩)
          exact hZ17 _ ⟨op1, (Cel.cast (by rw [eC]) op11), lE⟩
      obtain ⟨op1, op11, lE⟩ := hI17
      have hvb := hvb0.le lE
      have hvs := hvs0.le lE
      refine ob_i (op11.ld0 rfl) ?_
      skip
      have hok : stlP b s r c := by exact ⟨by assumption, by assumption⟩
      exact keq (K := K) (by rw [show ((selI (stlP b s r c) (cnN (stillP b s r c) (pw (r * c)))) : Int) = (cnN (stillP b s r c) (pw (r * c))) from by first | exact selI_t hok | exact selI_f hok]; rw [decide_eq_true (show (stlP b s r c) from by exact hok)]) (hk   _    lE)
    · skip
      refine ob_i (vPick_f _ _) ?_
      refine cnd_t1 ?_
      skip
      have hok : ¬ (stlP b s r c) := by intro h; first | exact absurd h.1 (by assumption) | exact absurd h.2 (by assumption)
      exact keq (K := K) (by rw [show ((selI (stlP b s r c) (cnN (stillP b s r c) (pw (r * c)))) : Int) = (0) from by first | exact selI_t hok | exact selI_f hok]; rw [decide_eq_false (show ¬ (stlP b s r c) from by exact hok)]) (hk   _    lE)
  · skip
    refine gop_st ?_
    refine gop_st ?_
    refine gop_st ?_
    refine gop_st ?_
    refine ob_i (vPick_t _ _) ?_
    refine cnd_t1 ?_
    skip
    have hok : ¬ (stlP b s r c) := by intro h; first | exact absurd h.1 (by assumption) | exact absurd h.2 (by assumption)
    exact keq (K := K) (by rw [show ((selI (stlP b s r c) (cnN (stillP b s r c) (pw (r * c)))) : Int) = (0) from by first | exact selI_t hok | exact selI_f hok]; rw [decide_eq_false (show ¬ (stlP b s r c) from by exact hok)]) (hk   _    lE)
theorem C.impl_CountBefore {vb vs vc : Value} {r c : Int} {b : List Int} {s : List Int} {l : List Int}  {H : Hp} {K : Value → Hp → Prop} (hvb0 : Sl eI H vb b) (hvs0 : Sl eI H vs s) (hvc0 : Sl eI H vc l) (kb : b.length ≤ 9223372036854775807) (ks : s.length ≤ 9223372036854775807) (k1 : l.length ≤ 9223372036854775807)
    (hk : ∀ H', Le H H' → K (.tuple #[(.int .i64 (selI (cbfP b s r c l) (cnN (befP b s r c l) (pw (r * c))))), (.bool (decide (cbfP b s r c l)))]) H') : HT prg I.impl_CountBefore [(.agg #[vb, vs]), (.agg #[(.int .i64 (r)), (.int .i64 (c)), vc])].toArray H K := by
  have lE := Le.refl H
  have hvb := hvb0
  have hvs := hvs0
  have hvc := hvc0
  refine R.impl_CountBefore ?_
  unfold F.impl_CountBefore
  refine nw_i (fun p1 H2 op1 nn3 le4 => ?_)
  have np1 : Nw H p1 := nn3.le lE
  replace hvb := hvb.le le4
  replace hvs := hvs.le le4
  replace hvc := hvc.le le4
  replace lE := lE.trans le4
  replace op1 : Cel H2 p1 [vb, vs] := op1
  refine nw_i (fun p5 H6 op5 nn7 le8 => ?_)
  have ap1Xp5 : Apart p1 p5 := op1.apart nn7
  have np5 : Nw H p5 := nn7.le lE
  replace op1 := op1.le le8
  replace hvb := hvb.le le8
  replace hvs := hvs.le le8
  replace hvc := hvc.le le8
  replace lE := lE.trans le8
  replace op5 : Cel H6 p5 [(.int .i64 (r)), (.int .i64 (c)), vc] := op5
  refine nw_i (fun p9 H10 op9 nn11 le12 => ?_)
  have ap1Xp9 : Apart p1 p9 := op1.apart nn11
  have ap5Xp9 : Apart p5 p9 := op5.apart nn11
  have np9 : Nw H p9 := nn11.le lE
  replace op1 := op1.le le12
  replace op5 := op5.le le12
  replace hvb := hvb.le le12
  replace hvs := hvs.le le12
  replace hvc := hvc.le le12
  replace lE := lE.trans le12
  replace op9 : Cel H10 p9 [(.int .i64 (0))] := op9
  refine op9.st0 (by simp) rfl rfl (fun H13 op9 off14 => ?_)
  replace op1 := op1.off off14 ap1Xp9
  replace op5 := op5.off off14 ap5Xp9
  replace hvb := hvb0.le (off14.le lE np9)
  replace hvs := hvs0.le (off14.le lE np9)
  replace hvc := hvc0.le (off14.le lE np9)
  replace lE := off14.le lE np9
  replace op9 : Cel H13 p9 [(.int .i64 (0))] := op9
  refine ob_i (op1.ldn rfl) ?_
  refine ob_i (op5.ldn rfl) ?_
  refine R.impl_before ?_
  unfold F.impl_before
  refine nw_i (fun p15 H16 op15 nn17 le18 => ?_)
  have ap1Xp15 : Apart p1 p15 := op1.apart nn17
  have ap5Xp15 : Apart p5 p15 := op5.apart nn17
  have ap9Xp15 : Apart p9 p15 := op9.apart nn17
  have np15 : Nw H p15 := nn17.le lE
  replace op1 := op1.le le18
  replace op5 := op5.le le18
  replace op9 := op9.le le18
  replace hvb := hvb.le le18
  replace hvs := hvs.le le18
  replace hvc := hvc.le le18
  replace lE := lE.trans le18
  replace op15 : Cel H16 p15 [vb, vs] := op15
  refine nw_i (fun p19 H20 op19 nn21 le22 => ?_)
  have ap1Xp19 : Apart p1 p19 := op1.apart nn21
  have ap5Xp19 : Apart p5 p19 := op5.apart nn21
  have ap9Xp19 : Apart p9 p19 := op9.apart nn21
  have ap15Xp19 : Apart p15 p19 := op15.apart nn21
  have np19 : Nw H p19 := nn21.le lE
  replace op1 := op1.le le22
  replace op5 := op5.le le22
  replace op9 := op9.le le22
  replace op15 := op15.le le22
  replace hvb := hvb.le le22
  replace hvs := hvs.le le22
  replace hvc := hvc.le le22
  replace lE := lE.trans le22
  replace op19 : Cel H20 p19 [(.int .i64 (r)), (.int .i64 (c)), vc] := op19
  refine nw_i (fun p23 H24 op23 nn25 le26 => ?_)
  have ap1Xp23 : Apart p1 p23 := op1.apart nn25
  have ap5Xp23 : Apart p5 p23 := op5.apart nn25
  have ap9Xp23 : Apart p9 p23 := op9.apart nn25
  have ap15Xp23 : Apart p15 p23 := op15.apart nn25
  have ap19Xp23 : Apart p19 p23 := op19.apart nn25
  have np23 : Nw H p23 := nn25.le lE
  replace op1 := op1.le le26
  replace op5 := op5.le le26
  replace op9 := op9.le le26
  replace op15 := op15.le le26
  replace op19 := op19.le le26
  replace hvb := hvb.le le26
  replace hvs := hvs.le le26
  replace hvc := hvc.le le26
  replace lE := lE.trans le26
  replace op23 : Cel H24 p23 [(.func (.func I.impl_CountBefore_1) #[] #[p9])] := op23
  refine ob_i (op15.ldn rfl) ?_
  refine ob_i (op19.ldn rfl) ?_
  refine bSE_one (enc := encFv) (x := (⟨r, c, vc⟩ : Fv)) rfl rfl (by omega) (by omega) rfl (fun u27 H28 ou27 nn29 le31 => ?_) rfl
  have ap1Xu27 : Apart p1 u27 := op1.apart nn29
  have ap5Xu27 : Apart p5 u27 := op5.apart nn29
  have ap9Xu27 : Apart p9 u27 := op9.apart nn29
  have ap15Xu27 : Apart p15 u27 := op15.apart nn29
  have ap19Xu27 : Apart p19 u27 := op19.apart nn29
  have ap23Xu27 : Apart p23 u27 := op23.apart nn29
  have nu27 : Nw H u27 := nn29.le lE
  replace op1 := op1.le le31
  replace op5 := op5.le le31
  replace op9 := op9.le le31
  replace op15 := op15.le le31
  replace op19 := op19.le le31
  replace op23 := op23.le le31
  replace hvb := hvb.le le31
  replace hvs := hvs.le le31
  replace hvc := hvc.le le31
  replace lE := lE.trans le31
  refine C.impl_lives hvb hvs hvc (ou27.sl encFv_n) (by first | omega | assumption) (by first | omega | assumption) (by first | omega | assumption) (fun   H32    le33 => ?_)
  replace op1 := op1.le le33
  replace op5 := op5.le le33
  replace op9 := op9.le le33
  replace op15 := op15.le le33
  replace op19 := op19.le le33
  replace op23 := op23.le le33
  replace ou27 := ou27.le le33
  replace hvb := hvb.le le33
  replace hvs := hvs.le le33
  replace hvc := hvc.le le33
  replace lE := lE.trans le33
  refine ob_nd (fun hc34 => ?_) (fun hc34 => ?_)
  · skip
    have hf := hc34.2
    have l1 := fieldN_len hf
    have hs := hf.1
    have hl := hf.2.1
    have q1 := hs.1
    have q2 := hs.2
    have qm := sidesF_mul hs
    refine gop_rf ?_
    refine ob_i (op19.fa 0) ?_
    refine gop_rf ?_
    refine ob_i (op19.ld 0 rfl) ?_
    refine gop_rf ?_
    refine ob_i (op19.fa 1) ?_
    refine gop_rf ?_
    refine ob_i (op19.ld 1 rfl) ?_
    refine gop_rf ?_
    refine C.impl_areSmall  (fun   H35    le36 => ?_)
    replace op1 := op1.le le36
    replace op5 := op5.le le36
    replace op9 := op9.le le36
    replace op15 := op15.le le36
    replace op19 := op19.le le36
    replace op23 := op23.le le36
    replace ou27 := ou27.le le36
    replace hvb := hvb.le le36
    replace hvs := hvs.le le36
    replace hvc := hvc.le le36
    replace lE := lE.trans le36
    refine gop_rf ?_
    refine ob_nd (fun hc37 => ?_) (fun hc37 => ?_)
    · skip
      have hs := hc37.1
      have q12 := hc37.2
      have qm := sidesF_mul hs
      have qp := pw_le q12
      have q1 := hs.1
      have q2 := hs.2
      have ep : pw (l.length : Int) = pw (r * c) := by rw [hl]
      refine ob_i (vPick_f _ _) ?_
      refine cnd_f1 ?_
      refine ob_i (op19.fa 0) ?_
      refine ob_i (op19.ld 0 rfl) ?_
      refine ob_i (op19.fa 1) ?_
      refine ob_i (op19.ld 1 rfl) ?_
      refine C.impl_plainFields (Inv := fun t H' => Cel H' p1 [vb, vs] ∧ Cel H' p5 [(.int .i64 (r)), (.int .i64 (c)), vc] ∧ Cel H' p9 [(.int .i64 (cnN (befP b s r c l) t))] ∧ Cel H' p15 [vb, vs] ∧ Cel H' p19 [(.int .i64 (r)), (.int .i64 (c)), vc] ∧ Cel H' p23 [(.func (.func I.impl_CountBefore_1) #[] #[p9])] ∧ OwnE 3 encFv H' u27 ([⟨r, c, vc⟩]) ∧ Le H H') (by assumption) ⟨op1, op5, (Cel.cast (by first | rfl | (simp; done)) op9), op15, op19, op23, ou27, lE⟩ (fun t Ha38 Hb38 u38 Z ht38 hI38 ou38 nu38 le38 hZ38 => ?_) (fun He38 hI38 => ?_)
      · obtain ⟨op1, op5, op9, op15, op19, op23, ou27, lE⟩ := hI38
        have hvb := hvb0.le lE
        have hvs := hvs0.le lE
        have hvc := hvc0.le lE
        have ap1Xu38 : Apart p1 u38 := op1.apart nu38
        have ap5Xu38 : Apart p5 u38 := op5.apart nu38
        have ap9Xu38 : Apart p9 u38 := op9.apart nu38
        have ap15Xu38 : Apart p15 u38 := op15.apart nu38
        have ap19Xu38 : Apart p19 u38 := op19.apart nu38
        have ap23Xu38 : Apart p23 u38 := op23.apart nu38
        have au27Xu38 : Apart u27 u38 := ou27.apart nu38
        have nu38 : Nw H u38 := nu38.le lE
        replace op1 := op1.le le38
        replace op5 := op5.le le38
        replace op9 := op9.le le38
        replace op15 := op15.le le38
        replace op19 := op19.le le38
        replace op23 := op23.le le38
        replace ou27 := ou27.le le38
        replace hvb := hvb.le le38
        replace hvs := hvs.le le38
        replace hvc := hvc.le le38
        replace lE := lE.trans le38
        have hfd : fieldN 1 r c (dgL 2 (t : Int) (r * c).toNat) := dgL_field (by assumption)
        have hfn : fieldN 1 r c (nxL false b s r c (dgL 2 (t : Int) (r * c).toNat)) := nxL_field hfd.1
        have hld := fieldN_len hfd
        have hln := fieldN_len hfn
        have cb := cnN_bnd (befP b s r c l) t
        refine ⟨by kernel_rfl, ?_⟩
        refine R.impl_before_1 ?_
        unfold F.impl_before_1
        refine nw_i (fun p39 H40 op39 nn41 le42 => ?_)
        have ap1Xp39 : Apart p1 p39 := op1.apart nn41
        have ap5Xp39 : Apart p5 p39 := op5.apart nn41
        have ap9Xp39 : Apart p9 p39 := op9.apart nn41
        have ap15Xp39 : Apart p15 p39 := op15.apart nn41
        have ap19Xp39 : Apart p19 p39 := op19.apart nn41
        have ap23Xp39 : Apart p23 p39 := op23.apart nn41
        have au27Xp39 : Apart u27 p39 := ou27.apart nn41
        have au38Xp39 : Apart u38 p39 := ou38.apart nn41
        have np39 : Nw H p39 := nn41.le lE
        replace op1 := op1.le le42
        replace op5 := op5.le le42
        replace op9 := op9.le le42
        replace op15 := op15.le le42
        replace op19 := op19.le le42
        replace op23 := op23.le le42
        replace ou27 := ou27.le le42
        replace ou38 := ou38.le le42
        replace hvb := hvb.le le42
        replace hvs := hvs.le le42
        replace hvc := hvc.le le42
        replace lE := lE.trans le42
        replace op39 : Cel H40 p39 [(.int .i64 (r)), (.int .i64 (c)), u38] := op39
        refine ob_i (op15.ldn rfl) ?_
        refine ob_i (op39.ldn rfl) ?_
        refine ob_i (op19.ldn rfl) ?_
        refine C.impl_Life_step hvb hvs ou38.sl (by first | omega | assumption) (by first | omega | assumption) (by first | omega | assumption) (fun  u45 H43 ou45 nn46  le44 => ?_)
        have ap1Xu45 : Apart p1 u45 := op1.apart nn46
        have ap5Xu45 : Apart p5 u45 := op5.apart nn46
        have ap9Xu45 : Apart p9 u45 := op9.apart nn46
        have ap15Xu45 : Apart p15 u45 := op15.apart nn46
        have ap19Xu45 : Apart p19 u45 := op19.apart nn46
        have ap23Xu45 : Apart p23 u45 := op23.apart nn46
        have au27Xu45 : Apart u27 u45 := ou27.apart nn46
        have au38Xu45 : Apart u38 u45 := ou38.apart nn46
        have ap39Xu45 : Apart p39 u45 := op39.apart nn46
        have nu45 : Nw H u45 := nn46.le lE
        replace op1 := op1.le le44
        replace op5 := op5.le le44
        replace op9 := op9.le le44
        replace op15 := op15.le le44
        replace op19 := op19.le le44
        replace op23 := op23.le le44
        replace ou27 := ou27.le le44
        replace ou38 := ou38.le le44
        replace op39 := op39.le le44
        replace hvb := hvb.le le44
        replace hvs := hvs.le le44
        replace hvc := hvc.le le44
        replace lE := lE.trans le44
        refine ⟨le44, ?_⟩
        refine C.impl_SameField ou45.sl hvc (by first | omega | assumption) (fun   H47    le48 => ?_)
        replace op1 := op1.le le48
        replace op5 := op5.le le48
        replace op9 := op9.le le48
        replace op15 := op15.le le48
        replace op19 := op19.le le48
        replace op23 := op23.le le48
        replace ou27 := ou27.le le48
        replace ou38 := ou38.le le48
        replace op39 := op39.le le48
        replace ou45 := ou45.le le48
        replace hvb := hvb.le le48
        replace hvs := hvs.le le48
        replace hvc := hvc.le le48
        replace lE := lE.trans le48
        refine ⟨le48, ?_⟩
        refine cnd_d (fun hg49 => ?_) (fun hg49 => ?_)
        · skip
          refine ob_i (op23.ld0 rfl) ?_
          refine ob_i (op39.ldn rfl) ?_
          refine ⟨by kernel_rfl, ?_⟩
          refine R.impl_CountBefore_1 ?_
          unfold F.impl_CountBefore_1
          refine nw_i (fun p50 H51 op50 nn52 le53 => ?_)
          have ap1Xp50 : Apart p1 p50 := op1.apart nn52
          have ap5Xp50 : Apart p5 p50 := op5.apart nn52
          have ap9Xp50 : Apart p9 p50 := op9.apart nn52
          have ap15Xp50 : Apart p15 p50 := op15.apart nn52
          have ap19Xp50 : Apart p19 p50 := op19.apart nn52
          have ap23Xp50 : Apart p23 p50 := op23.apart nn52
          have au27Xp50 : Apart u27 p50 := ou27.apart nn52
          have au38Xp50 : Apart u38 p50 := ou38.apart nn52
          have ap39Xp50 : Apart p39 p50 := op39.apart nn52
          have au45Xp50 : Apart u45 p50 := ou45.apart nn52
          have np50 : Nw H p50 := nn52.le lE
          replace op1 := op1.le le53
          replace op5 := op5.le le53
          replace op9 := op9.le le53
          replace op15 := op15.le le53
          replace op19 := op19.le le53
          replace op23 := op23.le le53
          replace ou27 := ou27.le le53
          replace ou38 := ou38.le le53
          replace op39 := op39.le le53
          replace ou45 := ou45.le le53
          replace hvb := hvb.le le53
          replace hvs := hvs.le le53
          replace hvc := hvc.le le53
          replace lE := lE.trans le53
          replace op50 : Cel H51 p50 [(.int .i64 (r)), (.int .i64 (c)), u38] := op50
          refine ob_i (op9.ld0 rfl) ?_
          refine ob_i (vInt_add (by omega) (by omega)) ?_
          refine op9.st0 (by simp) rfl rfl (fun H54 op9 off55 => ?_)
          replace op1 := op1.off off55 ap1Xp9
          replace op5 := op5.off off55 ap5Xp9
          replace op15 := op15.off off55 ap9Xp15.symm
          replace op19 := op19.off off55 ap9Xp19.symm
          replace op23 := op23.off off55 ap9Xp23.symm
          replace ou27 := ou27.off off55 ap9Xu27.symm
          replace ou38 := ou38.off off55 ap9Xu38.symm
          replace op39 := op39.off off55 ap9Xp39.symm
          replace ou45 := ou45.off off55 ap9Xu45.symm
          replace op50 := op50.off off55 ap9Xp50.symm
          replace hvb := hvb0.le (off55.le lE np9)
          replace hvs := hvs0.le (off55.le lE np9)
          replace hvc := hvc0.le (off55.le lE np9)
          replace lE := off55.le lE np9
          replace op9 : Cel H54 p9 [(.int .i64 ((cnN (befP b s r c l) t) + 1))] := op9
          have eC := cnN_yes (p := befP b s r c l) (n := t) hg49.2.2
          exact hZ38 _ ⟨op1, op5, (Cel.cast (by rw [eC]) op9), op15, op19, op23, ou27, lE⟩
        · skip
          have eC := cnN_no (p := befP b s r c l) (n := t) (fun h => hg49 ⟨rfl, rfl, h⟩)
          exact hZ38 _ ⟨op1, op5, (Cel.cast (by rw [eC]) op9), op15, op19, op23, ou27, lE⟩
      obtain ⟨op1, op5, op9, op15, op19, op23, ou27, lE⟩ := hI38
      have hvb := hvb0.le lE
      have hvs := hvs0.le lE
      have hvc := hvc0.le lE
      refine ob_i (a := .bool false) rfl ?_
      refine cnd_f1 ?_
      refine ob_i (op9.ld0 rfl) ?_
      skip
      have hok : cbfP b s r c l := by exact ⟨by assumption, by assumption⟩
      exact keq (K := K) (by rw [show ((selI (cbfP b s r c l) (cnN (befP b s r c l) (pw (r * c)))) : Int) = (cnN (befP b s r c l) (pw (r * c))) from by first | exact selI_t hok | exact selI_f hok]; rw [decide_eq_true (show (cbfP b s r c l) from by exact hok)]) (hk   _    lE)
    · skip
      refine ob_i (vPick_f _ _) ?_
      refine cnd_t1 ?_
      refine ob_i (a := .bool true) rfl ?_
      refine cnd_t1 ?_
      skip
      have hok : ¬ (cbfP b s r c l) := by intro h; first | exact absurd h.1 (by assumption) | exact absurd h.2 (by assumption)
      exact keq (K := K) (by rw [show ((selI (cbfP b s r c l) (cnN (befP b s r c l) (pw (r * c)))) : Int) = (0) from by first | exact selI_t hok | exact selI_f hok]; rw [decide_eq_false (show ¬ (cbfP b s r c l) from by exact hok)]) (hk   _    lE)
  · skip
    refine gop_st ?_
    refine gop_st ?_
    refine gop_st ?_
    refine gop_st ?_
    refine gop_st ?_
    refine gop_st ?_
    refine ob_i (vPick_t _ _) ?_
    refine cnd_t1 ?_
    refine ob_i (a := .bool true) rfl ?_
    refine cnd_t1 ?_
    skip
    have hok : ¬ (cbfP b s r c l) := by intro h; first | exact absurd h.1 (by assumption) | exact absurd h.2 (by assumption)
    exact keq (K := K) (by rw [show ((selI (cbfP b s r c l) (cnN (befP b s r c l) (pw (r * c)))) : Int) = (0) from by first | exact selI_t hok | exact selI_f hok]; rw [decide_eq_false (show ¬ (cbfP b s r c l) from by exact hok)]) (hk   _    lE)
theorem C.impl_FirstBefore {vb vs vc : Value} {r c : Int} {b : List Int} {s : List Int} {l : List Int}  {H : Hp} {K : Value → Hp → Prop} (hvb0 : Sl eI H vb b) (hvs0 : Sl eI H vs s) (hvc0 : Sl eI H vc l) (kb : b.length ≤ 9223372036854775807) (ks : s.length ≤ 9223372036854775807) (k1 : l.length ≤ 9223372036854775807)
    (hk : ∀ u1 H', Own eI H' u1 (selL (fbP b s r c l) (dgL 2 (fbF b s r c l) (r * c).toNat)) → Nw H u1 → Le H H' → K (.tuple #[(.agg #[(.int .i64 (selI (fbP b s r c l) r)), (.int .i64 (selI (fbP b s r c l) c)), u1]), (.bool (decide (fbP b s r c l)))]) H') : HT prg I.impl_FirstBefore [(.agg #[vb, vs]), (.agg #[(.int .i64 (r)), (.int .i64 (c)), vc])].toArray H K := by
  have lE := Le.refl H
  have hvb := hvb0
  have hvs := hvs0
  have hvc := hvc0
  refine R.impl_FirstBefore ?_
  unfold F.impl_FirstBefore
  refine nw_i (fun p1 H2 op1 nn3 le4 => ?_)
  have np1 : Nw H p1 := nn3.le lE
  replace hvb := hvb.le le4
  replace hvs := hvs.le le4
  replace hvc := hvc.le le4
  replace lE := lE.trans le4
  replace op1 : Cel H2 p1 [vb, vs] := op1
  refine nw_i (fun p5 H6 op5 nn7 le8 => ?_)
  have ap1Xp5 : Apart p1 p5 := op1.apart nn7
  have np5 : Nw H p5 := nn7.le lE
  replace op1 := op1.le le8
  replace hvb := hvb.le le8
  replace hvs := hvs.le le8
  replace hvc := hvc.le le8
  replace lE := lE.trans le8
  replace op5 : Cel H6 p5 [(.int .i64 (r)), (.int .i64 (c)), vc] := op5
  refine nw_i (fun p9 H10 op9 nn11 le12 => ?_)
  have ap1Xp9 : Apart p1 p9 := op1.apart nn11
  have ap5Xp9 : Apart p5 p9 := op5.apart nn11
  have np9 : Nw H p9 := nn11.le lE
  replace op1 := op1.le le12
  replace op5 := op5.le le12
  replace hvb := hvb.le le12
  replace hvs := hvs.le le12
  replace hvc := hvc.le le12
  replace lE := lE.trans le12
  replace op9 : Cel H10 p9 [(.int .i64 (0)), (.int .i64 (0)), (.slice none 0 0)] := op9
  refine ob_i (a := (.agg #[(.int .i64 (0)), (.int .i64 (0)), (.slice none 0 0)])) (by rfl) ?_
  refine nw_i (fun p13 H14 op13 nn15 le16 => ?_)
  have ap1Xp13 : Apart p1 p13 := op1.apart nn15
  have ap5Xp13 : Apart p5 p13 := op5.apart nn15
  have ap9Xp13 : Apart p9 p13 := op9.apart nn15
  have np13 : Nw H p13 := nn15.le lE
  replace op1 := op1.le le16
  replace op5 := op5.le le16
  replace op9 := op9.le le16
  replace hvb := hvb.le le16
  replace hvs := hvs.le le16
  replace hvc := hvc.le le16
  replace lE := lE.trans le16
  replace op13 : Cel H14 p13 [(.int .i64 (0)), (.int .i64 (0)), (.slice none 0 0)] := op13
  refine nw_i (fun p17 H18 op17 nn19 le20 => ?_)
  have ap1Xp17 : Apart p1 p17 := op1.apart nn19
  have ap5Xp17 : Apart p5 p17 := op5.apart nn19
  have ap9Xp17 : Apart p9 p17 := op9.apart nn19
  have ap13Xp17 : Apart p13 p17 := op13.apart nn19
  have np17 : Nw H p17 := nn19.le lE
  replace op1 := op1.le le20
  replace op5 := op5.le le20
  replace op9 := op9.le le20
  replace op13 := op13.le le20
  replace hvb := hvb.le le20
  replace hvs := hvs.le le20
  replace hvc := hvc.le le20
  replace lE := lE.trans le20
  replace op17 : Cel H18 p17 [(.bool false)] := op17
  refine op13.stn (ws := [(.int .i64 (0)), (.int .i64 (0)), (.slice none 0 0)]) rfl rfl (oc1 rfl (oc1 rfl (oc1 rfl oc0))) (fun H21 op13 off22 => ?_)
  replace op1 := op1.off off22 ap1Xp13
  replace op5 := op5.off off22 ap5Xp13
  replace op9 := op9.off off22 ap9Xp13
  replace op17 := op17.off off22 ap13Xp17.symm
  replace hvb := hvb0.le (off22.le lE np13)
  replace hvs := hvs0.le (off22.le lE np13)
  replace hvc := hvc0.le (off22.le lE np13)
  replace lE := off22.le lE np13
  replace op13 : Cel H21 p13 [(.int .i64 (0)), (.int .i64 (0)), (.slice none 0 0)] := op13
  refine op17.st0 (by simp) rfl rfl (fun H23 op17 off24 => ?_)
  replace op1 := op1.off off24 ap1Xp17
  replace op5 := op5.off off24 ap5Xp17
  replace op9 := op9.off off24 ap9Xp17
  replace op13 := op13.off off24 ap13Xp17
  replace hvb := hvb0.le (off24.le lE np17)
  replace hvs := hvs0.le (off24.le lE np17)
  replace hvc := hvc0.le (off24.le lE np17)
  replace lE := off24.le lE np17
  replace op17 : Cel H23 p17 [(.bool false)] := op17
  refine ob_i (op1.ldn rfl) ?_
  refine ob_i (op5.ldn rfl) ?_
  refine R.impl_before ?_
  unfold F.impl_before
  refine nw_i (fun p25 H26 op25 nn27 le28 => ?_)
  have ap1Xp25 : Apart p1 p25 := op1.apart nn27
  have ap5Xp25 : Apart p5 p25 := op5.apart nn27
  have ap9Xp25 : Apart p9 p25 := op9.apart nn27
  have ap13Xp25 : Apart p13 p25 := op13.apart nn27
  have ap17Xp25 : Apart p17 p25 := op17.apart nn27
  have np25 : Nw H p25 := nn27.le lE
  replace op1 := op1.le le28
  replace op5 := op5.le le28
  replace op9 := op9.le le28
  replace op13 := op13.le le28
  replace op17 := op17.le le28
  replace hvb := hvb.le le28
  replace hvs := hvs.le le28
  replace hvc := hvc.le le28
  replace lE := lE.trans le28
  replace op25 : Cel H26 p25 [vb, vs] := op25
  refine nw_i (fun p29 H30 op29 nn31 le32 => ?_)
  have ap1Xp29 : Apart p1 p29 := op1.apart nn31
  have ap5Xp29 : Apart p5 p29 := op5.apart nn31
  have ap9Xp29 : Apart p9 p29 := op9.apart nn31
  have ap13Xp29 : Apart p13 p29 := op13.apart nn31
  have ap17Xp29 : Apart p17 p29 := op17.apart nn31
  have ap25Xp29 : Apart p25 p29 := op25.apart nn31
  have np29 : Nw H p29 := nn31.le lE
  replace op1 := op1.le le32
  replace op5 := op5.le le32
  replace op9 := op9.le le32
  replace op13 := op13.le le32
  replace op17 := op17.le le32
  replace op25 := op25.le le32
  replace hvb := hvb.le le32
  replace hvs := hvs.le le32
  replace hvc := hvc.le le32
  replace lE := lE.trans le32
  replace op29 : Cel H30 p29 [(.int .i64 (r)), (.int .i64 (c)), vc] := op29
  refine nw_i (fun p33 H34 op33 nn35 le36 => ?_)
  have ap1Xp33 : Apart p1 p33 := op1.apart nn35
  have ap5Xp33 : Apart p5 p33 := op5.apart nn35
  have ap9Xp33 : Apart p9 p33 := op9.apart nn35
  have ap13Xp33 : Apart p13 p33 := op13.apart nn35
  have ap17Xp33 : Apart p17 p33 := op17.apart nn35
  have ap25Xp33 : Apart p25 p33 := op25.apart nn35
  have ap29Xp33 : Apart p29 p33 := op29.apart nn35
  have np33 : Nw H p33 := nn35.le lE
  replace op1 := op1.le le36
  replace op5 := op5.le le36
  replace op9 := op9.le le36
  replace op13 := op13.le le36
  replace op17 := op17.le le36
  replace op25 := op25.le le36
  replace op29 := op29.le le36
  replace hvb := hvb.le le36
  replace hvs := hvs.le le36
  replace hvc := hvc.le le36
  replace lE := lE.trans le36
  replace op33 : Cel H34 p33 [(.func (.func I.impl_FirstBefore_1) #[] #[p17, p13])] := op33
  refine ob_i (op25.ldn rfl) ?_
  refine ob_i (op29.ldn rfl) ?_
  refine bSE_one (enc := encFv) (x := (⟨r, c, vc⟩ : Fv)) rfl rfl (by omega) (by omega) rfl (fun u37 H38 ou37 nn39 le41 => ?_) rfl
  have ap1Xu37 : Apart p1 u37 := op1.apart nn39
  have ap5Xu37 : Apart p5 u37 := op5.apart nn39
  have ap9Xu37 : Apart p9 u37 := op9.apart nn39
  have ap13Xu37 : Apart p13 u37 := op13.apart nn39
  have ap17Xu37 : Apart p17 u37 := op17.apart nn39
  have ap25Xu37 : Apart p25 u37 := op25.apart nn39
  have ap29Xu37 : Apart p29 u37 := op29.apart nn39
  have ap33Xu37 : Apart p33 u37 := op33.apart nn39
  have nu37 : Nw H u37 := nn39.le lE
  replace op1 := op1.le le41
  replace op5 := op5.le le41
  replace op9 := op9.le le41
  replace op13 := op13.le le41
  replace op17 := op17.le le41
  replace op25 := op25.le le41
  replace op29 := op29.le le41
  replace op33 := op33.le le41
  replace hvb := hvb.le le41
  replace hvs := hvs.le le41
  replace hvc := hvc.le le41
  replace lE := lE.trans le41
  refine C.impl_lives hvb hvs hvc (ou37.sl encFv_n) (by first | omega | assumption) (by first | omega | assumption) (by first | omega | assumption) (fun   H42    le43 => ?_)
  replace op1 := op1.le le43
  replace op5 := op5.le le43
  replace op9 := op9.le le43
  replace op13 := op13.le le43
  replace op17 := op17.le le43
  replace op25 := op25.le le43
  replace op29 := op29.le le43
  replace op33 := op33.le le43
  replace ou37 := ou37.le le43
  replace hvb := hvb.le le43
  replace hvs := hvs.le le43
  replace hvc := hvc.le le43
  replace lE := lE.trans le43
  refine ob_nd (fun hc44 => ?_) (fun hc44 => ?_)
  · skip
    have hf := hc44.2
    have l1 := fieldN_len hf
    have hs := hf.1
    have hl := hf.2.1
    have q1 := hs.1
    have q2 := hs.2
    have qm := sidesF_mul hs
    refine gop_rf ?_
    refine ob_i (op29.fa 0) ?_
    refine gop_rf ?_
    refine ob_i (op29.ld 0 rfl) ?_
    refine gop_rf ?_
    refine ob_i (op29.fa 1) ?_
    refine gop_rf ?_
    refine ob_i (op29.ld 1 rfl) ?_
    refine gop_rf ?_
    refine C.impl_areSmall  (fun   H45    le46 => ?_)
    replace op1 := op1.le le46
    replace op5 := op5.le le46
    replace op9 := op9.le le46
    replace op13 := op13.le le46
    replace op17 := op17.le le46
    replace op25 := op25.le le46
    replace op29 := op29.le le46
    replace op33 := op33.le le46
    replace ou37 := ou37.le le46
    replace hvb := hvb.le le46
    replace hvs := hvs.le le46
    replace hvc := hvc.le le46
    replace lE := lE.trans le46
    refine gop_rf ?_
    refine ob_nd (fun hc47 => ?_) (fun hc47 => ?_)
    · skip
      have hs := hc47.1
      have q12 := hc47.2
      have qm := sidesF_mul hs
      have qp := pw_le q12
      have q1 := hs.1
      have q2 := hs.2
      have ep : pw (l.length : Int) = pw (r * c) := by rw [hl]
      refine ob_i (vPick_f _ _) ?_
      refine cnd_f1 ?_
      refine ob_i (op29.fa 0) ?_
      refine ob_i (op29.ld 0 rfl) ?_
      refine ob_i (op29.fa 1) ?_
      refine ob_i (op29.ld 1 rfl) ?_
      refine C.impl_plainFields (Inv := fun t H' => ∃ uu, Cel H' p1 [vb, vs] ∧ Cel H' p5 [(.int .i64 (r)), (.int .i64 (c)), vc] ∧ Cel H' p9 [(.int .i64 (0)), (.int .i64 (0)), (.slice none 0 0)] ∧ Cel H' p13 [(.int .i64 (selI (0 ≤ fstN (befP b s r c l) t) r)), (.int .i64 (selI (0 ≤ fstN (befP b s r c l) t) c)), uu] ∧ Cel H' p17 [(.bool (decide (0 ≤ fstN (befP b s r c l) t)))] ∧ Cel H' p25 [vb, vs] ∧ Cel H' p29 [(.int .i64 (r)), (.int .i64 (c)), vc] ∧ Cel H' p33 [(.func (.func I.impl_FirstBefore_1) #[] #[p17, p13])] ∧ OwnE 3 encFv H' u37 ([⟨r, c, vc⟩]) ∧ Own eI H' uu (selL (0 ≤ fstN (befP b s r c l) t) (dgL 2 (fstN (befP b s r c l) t) (r * c).toNat)) ∧ Nw H uu ∧ Apart p1 uu ∧ Apart p5 uu ∧ Apart p9 uu ∧ Apart p13 uu ∧ Apart p17 uu ∧ Apart p25 uu ∧ Apart p29 uu ∧ Apart p33 uu ∧ Apart u37 uu ∧ Le H H') (by assumption) ⟨_, op1, op5, op9, (Cel.cast (by first | rfl | (simp [selI, selL, fstN]; done)) op13), (Cel.cast (by first | rfl | (simp [selI, selL, fstN]; done)) op17), op25, op29, op33, ou37, (Own.cast (by first | rfl | (simp [selI, selL, fstN]; done)) (Own.nil_of none)), (fun b hb => by simp [bk] at hb), (fun b _ hb => by simp [bk] at hb), (fun b _ hb => by simp [bk] at hb), (fun b _ hb => by simp [bk] at hb), (fun b _ hb => by simp [bk] at hb), (fun b _ hb => by simp [bk] at hb), (fun b _ hb => by simp [bk] at hb), (fun b _ hb => by simp [bk] at hb), (fun b _ hb => by simp [bk] at hb), (fun b _ hb => by simp [bk] at hb), lE⟩ (fun t Ha48 Hb48 u48 Z ht48 hI48 ou48 nu48 le48 hZ48 => ?_) (fun He48 hI48 => ?_)
      · obtain ⟨uu, op1, op5, op9, op13, op17, op25, op29, op33, ou37, ouu, nuu, ap1Xuu, ap5Xuu, ap9Xuu, ap13Xuu, ap17Xuu, ap25Xuu, ap29Xuu, ap33Xuu, au37Xuu, lE⟩ := hI48
        have hvb := hvb0.le lE
        have hvs := hvs0.le lE
        have hvc := hvc0.le lE
        have ap1Xu48 : Apart p1 u48 := op1.apart nu48
        have ap5Xu48 : Apart p5 u48 := op5.apart nu48
        have ap9Xu48 : Apart p9 u48 := op9.apart nu48
        have ap13Xu48 : Apart p13 u48 := op13.apart nu48
        have ap17Xu48 : Apart p17 u48 := op17.apart nu48
        have ap25Xu48 : Apart p25 u48 := op25.apart nu48
        have ap29Xu48 : Apart p29 u48 := op29.apart nu48
        have ap33Xu48 : Apart p33 u48 := op33.apart nu48
        have au37Xu48 : Apart u37 u48 := ou37.apart nu48
        have auuXu48 : Apart uu u48 := ouu.apart nu48
        have nu48 : Nw H u48 := nu48.le lE
        replace op1 := op1.le le48
        replace op5 := op5.le le48
        replace op9 := op9.le le48
        replace op13 := op13.le le48
        replace op17 := op17.le le48
        replace op25 := op25.le le48
        replace op29 := op29.le le48
        replace op33 := op33.le le48
        replace ou37 := ou37.le le48
        replace ouu := ouu.le le48
        replace hvb := hvb.le le48
        replace hvs := hvs.le le48
        replace hvc := hvc.le le48
        replace lE := lE.trans le48
        have hfd : fieldN 1 r c (dgL 2 (t : Int) (r * c).toNat) := dgL_field (by assumption)
        have hfn : fieldN 1 r c (nxL false b s r c (dgL 2 (t : Int) (r * c).toNat)) := nxL_field hfd.1
        have hld := fieldN_len hfd
        have hln := fieldN_len hfn
        refine ⟨by kernel_rfl, ?_⟩
        refine R.impl_before_1 ?_
        unfold F.impl_before_1
        refine nw_i (fun p49 H50 op49 nn51 le52 => ?_)
        have ap1Xp49 : Apart p1 p49 := op1.apart nn51
        have ap5Xp49 : Apart p5 p49 := op5.apart nn51
        have ap9Xp49 : Apart p9 p49 := op9.apart nn51
        have ap13Xp49 : Apart p13 p49 := op13.apart nn51
        have ap17Xp49 : Apart p17 p49 := op17.apart nn51
        have ap25Xp49 : Apart p25 p49 := op25.apart nn51
        have ap29Xp49 : Apart p29 p49 := op29.apart nn51
        have ap33Xp49 : Apart p33 p49 := op33.apart nn51
        have au37Xp49 : Apart u37 p49 := ou37.apart nn51
        have auuXp49 : Apart uu p49 := ouu.apart nn51
        have au48Xp49 : Apart u48 p49 := ou48.apart nn51
        have np49 : Nw H p49 := nn51.le lE
        replace op1 := op1.le le52
        replace op5 := op5.le le52
        replace op9 := op9.le le52
        replace op13 := op13.le le52
        replace op17 := op17.le le52
        replace op25 := op25.le le52
        replace op29 := op29.le le52
        replace op33 := op33.le le52
        replace ou37 := ou37.le le52
        replace ouu := ouu.le le52
        replace ou48 := ou48.le le52
        replace hvb := hvb.le le52
        replace hvs := hvs.le le52
        replace hvc := hvc.le le52
        replace lE := lE.trans le52
        replace op49 : Cel H50 p49 [(.int .i64 (r)), (.int .i64 (c)), u48] := op49
        refine ob_i (op25.ldn rfl) ?_
        refine ob_i (op49.ldn rfl) ?_
        refine ob_i (op29.ldn rfl) ?_
        refine C.impl_Life_step hvb hvs ou48.sl (by first | omega | assumption) (by first | omega | assumption) (by first | omega | assumption) (fun  u55 H53 ou55 nn56  le54 => ?_)
        have ap1Xu55 : Apart p1 u55 := op1.apart nn56
        have ap5Xu55 : Apart p5 u55 := op5.apart nn56
        have ap9Xu55 : Apart p9 u55 := op9.apart nn56
        have ap13Xu55 : Apart p13 u55 := op13.apart nn56
        have ap17Xu55 : Apart p17 u55 := op17.apart nn56
        have ap25Xu55 : Apart p25 u55 := op25.apart nn56
        have ap29Xu55 : Apart p29 u55 := op29.apart nn56
        have ap33Xu55 : Apart p33 u55 := op33.apart nn56
        have au37Xu55 : Apart u37 u55 := ou37.apart nn56
        have auuXu55 : Apart uu u55 := ouu.apart nn56
        have au48Xu55 : Apart u48 u55 := ou48.apart nn56
        have ap49Xu55 : Apart p49 u55 := op49.apart nn56
        have nu55 : Nw H u55 := nn56.le lE
        replace op1 := op1.le le54
        replace op5 := op5.le le54
        replace op9 := op9.le le54
        replace op13 := op13.le le54
        replace op17 := op17.le le54
        replace op25 := op25.le le54
        replace op29 := op29.le le54
        replace op33 := op33.le le54
        replace ou37 := ou37.le le54
        replace ouu := ouu.le le54
        replace ou48 := ou48.le le54
        replace op49 := op49.le le54
        replace hvb := hvb.le le54
        replace hvs := hvs.le le54
        replace hvc := hvc.le le54
        replace lE := lE.trans le54
        refine ⟨le54, ?_⟩
        refine C.impl_SameField ou55.sl hvc (by first | omega | assumption) (fun   H57    le58 => ?_)
        replace op1 := op1.le le58
        replace op5 := op5.le le58
        replace op9 := op9.le le58
        replace op13 := op13.le le58
        replace op17 := op17.le le58
        replace op25 := op25.le le58
        replace op29 := op29.le le58
        replace op33 := op33.le le58
        replace ou37 := ou37.le le58
        replace ouu := ouu.le le58
        replace ou48 := ou48.le le58
        replace op49 := op49.le le58
        replace ou55 := ou55.le le58
        replace hvb := hvb.le le58
        replace hvs := hvs.le le58
        replace hvc := hvc.le le58
        replace lE := lE.trans le58
        refine ⟨le58, ?_⟩
        refine cnd_d (fun hg59 => ?_) (fun hg59 => ?_)
        · skip
          refine ob_i (op33.ld0 rfl) ?_
          refine ob_i (op49.ldn rfl) ?_
          refine ⟨by kernel_rfl, ?_⟩
          refine R.impl_FirstBefore_1 ?_
          unfold F.impl_FirstBefore_1
          refine nw_i (fun p60 H61 op60 nn62 le63 => ?_)
          have ap1Xp60 : Apart p1 p60 := op1.apart nn62
          have ap5Xp60 : Apart p5 p60 := op5.apart nn62
          have ap9Xp60 : Apart p9 p60 := op9.apart nn62
          have ap13Xp60 : Apart p13 p60 := op13.apart nn62
          have ap17Xp60 : Apart p17 p60 := op17.apart nn62
          have ap25Xp60 : Apart p25 p60 := op25.apart nn62
          have ap29Xp60 : Apart p29 p60 := op29.apart nn62
          have ap33Xp60 : Apart p33 p60 := op33.apart nn62
          have au37Xp60 : Apart u37 p60 := ou37.apart nn62
          have auuXp60 : Apart uu p60 := ouu.apart nn62
          have au48Xp60 : Apart u48 p60 := ou48.apart nn62
          have ap49Xp60 : Apart p49 p60 := op49.apart nn62
          have au55Xp60 : Apart u55 p60 := ou55.apart nn62
          have np60 : Nw H p60 := nn62.le lE
          replace op1 := op1.le le63
          replace op5 := op5.le le63
          replace op9 := op9.le le63
          replace op13 := op13.le le63
          replace op17 := op17.le le63
          replace op25 := op25.le le63
          replace op29 := op29.le le63
          replace op33 := op33.le le63
          replace ou37 := ou37.le le63
          replace ouu := ouu.le le63
          replace ou48 := ou48.le le63
          replace op49 := op49.le le63
          replace ou55 := ou55.le le63
          replace hvb := hvb.le le63
          replace hvs := hvs.le le63
          replace hvc := hvc.le le63
          replace lE := lE.trans le63
          replace op60 : Cel H61 p60 [(.int .i64 (r)), (.int .i64 (c)), u48] := op60
          refine ob_i (op17.ld0 rfl) ?_
          refine ob_nd (fun hc64 => ?_) (fun hc64 => ?_)
          · skip
            refine cnd_f1 ?_
            have eF : fstN (befP b s r c l) (t + 1) = fstN (befP b s r c l) t := fst_keep hc64
            exact hZ48 _ ⟨uu, op1, op5, op9, (Cel.cast (by first | rfl | (rw [eF]; done) | (simp only [selI_t h0t, selL_t h0t, decide_eq_true h0t]; done) | (rw [selL_t h0t, eF])) op13), (Cel.cast (by first | rfl | (rw [eF]; done) | (simp only [selI_t h0t, selL_t h0t, decide_eq_true h0t]; done) | (rw [selL_t h0t, eF])) op17), op25, op29, op33, ou37, (Own.cast (by first | rfl | (rw [eF]; done) | (simp only [selI_t h0t, selL_t h0t, decide_eq_true h0t]; done) | (rw [selL_t h0t, eF])) ouu), nuu, ap1Xuu, ap5Xuu, ap9Xuu, ap13Xuu, ap17Xuu, ap25Xuu, ap29Xuu, ap33Xuu, au37Xuu, lE⟩
          · skip
            refine cnd_t1 ?_
            refine ob_i (op60.ldn rfl) ?_
            refine op13.stn (ws := [(.int .i64 (r)), (.int .i64 (c)), u48]) rfl rfl (oc1 rfl (oc1 rfl (oc1 ou48.one oc0))) (fun H65 op13 off66 => ?_)
            replace op1 := op1.off off66 ap1Xp13
            replace op5 := op5.off off66 ap5Xp13
            replace op9 := op9.off off66 ap9Xp13
            replace op17 := op17.off off66 ap13Xp17.symm
            replace op25 := op25.off off66 ap13Xp25.symm
            replace op29 := op29.off off66 ap13Xp29.symm
            replace op33 := op33.off off66 ap13Xp33.symm
            replace ou37 := ou37.off off66 ap13Xu37.symm
            replace ouu := ouu.off off66 ap13Xuu.symm
            replace ou48 := ou48.off off66 ap13Xu48.symm
            replace op49 := op49.off off66 ap13Xp49.symm
            replace ou55 := ou55.off off66 ap13Xu55.symm
            replace op60 := op60.off off66 ap13Xp60.symm
            replace hvb := hvb0.le (off66.le lE np13)
            replace hvs := hvs0.le (off66.le lE np13)
            replace hvc := hvc0.le (off66.le lE np13)
            replace lE := off66.le lE np13
            replace op13 : Cel H65 p13 [(.int .i64 (r)), (.int .i64 (c)), u48] := op13
            refine op17.st0 (by simp) rfl rfl (fun H67 op17 off68 => ?_)
            replace op1 := op1.off off68 ap1Xp17
            replace op5 := op5.off off68 ap5Xp17
            replace op9 := op9.off off68 ap9Xp17
            replace op13 := op13.off off68 ap13Xp17
            replace op25 := op25.off off68 ap17Xp25.symm
            replace op29 := op29.off off68 ap17Xp29.symm
            replace op33 := op33.off off68 ap17Xp33.symm
            replace ou37 := ou37.off off68 ap17Xu37.symm
            replace ouu := ouu.off off68 ap17Xuu.symm
            replace ou48 := ou48.off off68 ap17Xu48.symm
            replace op49 := op49.off off68 ap17Xp49.symm
            replace ou55 := ou55.off off68 ap17Xu55.symm
            replace op60 := op60.off off68 ap17Xp60.symm
            replace hvb := hvb0.le (off68.le lE np17)
            replace hvs := hvs0.le (off68.le lE np17)
            replace hvc := hvc0.le (off68.le lE np17)
            replace lE := off68.le lE np17
            replace op17 : Cel H67 p17 [(.bool true)] := op17
            have eF : fstN (befP b s r c l) (t + 1) = (t : Int) := fst_hit hc64 hg59.2.2
            have h0t : 0 ≤ fstN (befP b s r c l) (t + 1) := by omega
            exact hZ48 _ ⟨u48, op1, op5, op9, (Cel.cast (by first | rfl | (rw [eF]; done) | (simp only [selI_t h0t, selL_t h0t, decide_eq_true h0t]; done) | (rw [selL_t h0t, eF])) op13), (Cel.cast (by first | rfl | (rw [eF]; done) | (simp only [selI_t h0t, selL_t h0t, decide_eq_true h0t]; done) | (rw [selL_t h0t, eF])) op17), op25, op29, op33, ou37, (Own.cast (by first | rfl | (rw [eF]; done) | (simp only [selI_t h0t, selL_t h0t, decide_eq_true h0t]; done) | (rw [selL_t h0t, eF])) ou48), nu48, ap1Xu48, ap5Xu48, ap9Xu48, ap13Xu48, ap17Xu48, ap25Xu48, ap29Xu48, ap33Xu48, au37Xu48, lE⟩
        · skip
          have eF : fstN (befP b s r c l) (t + 1) = fstN (befP b s r c l) t := fst_skip (fun h => hg59 ⟨rfl, rfl, h⟩)
          exact hZ48 _ ⟨uu, op1, op5, op9, (Cel.cast (by first | rfl | (rw [eF]; done) | (simp only [selI_t h0t, selL_t h0t, decide_eq_true h0t]; done) | (rw [selL_t h0t, eF])) op13), (Cel.cast (by first | rfl | (rw [eF]; done) | (simp only [selI_t h0t, selL_t h0t, decide_eq_true h0t]; done) | (rw [selL_t h0t, eF])) op17), op25, op29, op33, ou37, (Own.cast (by first | rfl | (rw [eF]; done) | (simp only [selI_t h0t, selL_t h0t, decide_eq_true h0t]; done) | (rw [selL_t h0t, eF])) ouu), nuu, ap1Xuu, ap5Xuu, ap9Xuu, ap13Xuu, ap17Xuu, ap25Xuu, ap29Xuu, ap33Xuu, au37Xuu, lE⟩
      obtain ⟨uu, op1, op5, op9, op13, op17, op25, op29, op33, ou37, ouu, nuu, ap1Xuu, ap5Xuu, ap9Xuu, ap13Xuu, ap17Xuu, ap25Xuu, ap29Xuu, ap33Xuu, au37Xuu, lE⟩ := hI48
      have hvb := hvb0.le lE
      have hvs := hvs0.le lE
      have hvc := hvc0.le lE
      refine ⟨?_, ?_⟩
      · skip
        refine ob_i (op13.ldn rfl) ?_
        refine ob_i (op17.ld0 rfl) ?_
        refine op9.stn (ws := [(.int .i64 (selI (0 ≤ fstN (befP b s r c l) (pw (r * c))) r)), (.int .i64 (selI (0 ≤ fstN (befP b s r c l) (pw (r * c))) c)), uu]) rfl rfl (oc1 rfl (oc1 rfl (oc1 ouu.one oc0))) (fun H69 op9 off70 => ?_)
        replace op1 := op1.off off70 ap1Xp9
        replace op5 := op5.off off70 ap5Xp9
        replace op13 := op13.off off70 ap9Xp13.symm
        replace op17 := op17.off off70 ap9Xp17.symm
        replace op25 := op25.off off70 ap9Xp25.symm
        replace op29 := op29.off off70 ap9Xp29.symm
        replace op33 := op33.off off70 ap9Xp33.symm
        replace ou37 := ou37.off off70 ap9Xu37.symm
        replace ouu := ouu.off off70 ap9Xuu.symm
        replace hvb := hvb0.le (off70.le lE np9)
        replace hvs := hvs0.le (off70.le lE np9)
        replace hvc := hvc0.le (off70.le lE np9)
        replace lE := off70.le lE np9
        replace op9 : Cel H69 p9 [(.int .i64 (selI (0 ≤ fstN (befP b s r c l) (pw (r * c))) r)), (.int .i64 (selI (0 ≤ fstN (befP b s r c l) (pw (r * c))) c)), uu] := op9
        refine ob_i (op9.ldn rfl) ?_
        skip
        have hiff : fbP b s r c l ↔ 0 ≤ fbF b s r c l := ⟨fun h => h.2, fun h => ⟨⟨by assumption, by assumption⟩, h⟩⟩
        exact keq (K := K) (by rw [show ((selI (0 ≤ fstN (befP b s r c l) (pw (r * c))) r) : Int) = (selI (fbP b s r c l) r) from by first | exact selI_f hok | exact selI_iff hiff | exact (selI_iff hiff).symm]; rw [show ((selI (0 ≤ fstN (befP b s r c l) (pw (r * c))) c) : Int) = (selI (fbP b s r c l) c) from by first | exact selI_f hok | exact selI_iff hiff | exact (selI_iff hiff).symm]; rw [show decide (0 ≤ fstN (befP b s r c l) (pw (r * c))) = decide (fbP b s r c l) from decide_eq_decide.mpr (by exact hiff.symm)]) (hk  uu _ (Own.cast (show selL (0 ≤ fstN (befP b s r c l) (pw (r * c))) (dgL 2 (fstN (befP b s r c l) (pw (r * c))) (r * c).toNat) = selL (fbP b s r c l) (dgL 2 (fbF b s r c l) (r * c).toNat) by exact (selL_iff hiff).symm) ouu) nuu  lE)
      · skip
        refine ob_i (op13.ldn rfl) ?_
        refine op9.stn (ws := [(.int .i64 (selI (0 ≤ fstN (befP b s r c l) (pw (r * c))) r)), (.int .i64 (selI (0 ≤ fstN (befP b s r c l) (pw (r * c))) c)), uu]) rfl rfl (oc1 rfl (oc1 rfl (oc1 ouu.one oc0))) (fun H71 op9 off72 => ?_)
        replace op1 := op1.off off72 ap1Xp9
        replace op5 := op5.off off72 ap5Xp9
        replace op13 := op13.off off72 ap9Xp13.symm
        replace op17 := op17.off off72 ap9Xp17.symm
        replace op25 := op25.off off72 ap9Xp25.symm
        replace op29 := op29.off off72 ap9Xp29.symm
        replace op33 := op33.off off72 ap9Xp33.symm
        replace ou37 := ou37.off off72 ap9Xu37.symm
        replace ouu := ouu.off off72 ap9Xuu.symm
        replace hvb := hvb0.le (off72.le lE np9)
        replace hvs := hvs0.le (off72.le lE np9)
        replace hvc := hvc0.le (off72.le lE np9)
        replace lE := off72.le lE np9
        replace op9 : Cel H71 p9 [(.int .i64 (selI (0 ≤ fstN (befP b s r c l) (pw (r * c))) r)), (.int .i64 (selI (0 ≤ fstN (befP b s r c l) (pw (r * c))) c)), uu] := op9
        refine ob_i (op17.ld0 rfl) ?_
        refine ob_i (op9.ldn rfl) ?_
        skip
        have hiff : fbP b s r c l ↔ 0 ≤ fbF b s r c l := ⟨fun h => h.2, fun h => ⟨⟨by assumption, by assumption⟩, h⟩⟩
        exact keq (K := K) (by rw [show ((selI (0 ≤ fstN (befP b s r c l) (pw (r * c))) r) : Int) = (selI (fbP b s r c l) r) from by first | exact selI_f hok | exact selI_iff hiff | exact (selI_iff hiff).symm]; rw [show ((selI (0 ≤ fstN (befP b s r c l) (pw (r * c))) c) : Int) = (selI (fbP b s r c l) c) from by first | exact selI_f hok | exact selI_iff hiff | exact (selI_iff hiff).symm]; rw [show decide (0 ≤ fstN (befP b s r c l) (pw (r * c))) = decide (fbP b s r c l) from decide_eq_decide.mpr (by exact hiff.symm)]) (hk  uu _ (Own.cast (show selL (0 ≤ fstN (befP b s r c l) (pw (r * c))) (dgL 2 (fstN (befP b s r c l) (pw (r * c))) (r * c).toNat) = selL (fbP b s r c l) (dgL 2 (fbF b s r c l) (r * c).toNat) by exact (selL_iff hiff).symm) ouu) nuu  lE)
    · skip
      refine ob_i (vPick_f _ _) ?_
      refine cnd_t1 ?_
      refine ⟨?_, ?_⟩
      · skip
        refine ob_i (op13.ldn rfl) ?_
        refine ob_i (op17.ld0 rfl) ?_
        refine op9.stn (ws := [(.int .i64 (0)), (.int .i64 (0)), (.slice none 0 0)]) rfl rfl (oc1 rfl (oc1 rfl (oc1 rfl oc0))) (fun H73 op9 off74 => ?_)
        replace op1 := op1.off off74 ap1Xp9
        replace op5 := op5.off off74 ap5Xp9
        replace op13 := op13.off off74 ap9Xp13.symm
        replace op17 := op17.off off74 ap9Xp17.symm
        replace op25 := op25.off off74 ap9Xp25.symm
        replace op29 := op29.off off74 ap9Xp29.symm
        replace op33 := op33.off off74 ap9Xp33.symm
        replace ou37 := ou37.off off74 ap9Xu37.symm
        replace hvb := hvb0.le (off74.le lE np9)
        replace hvs := hvs0.le (off74.le lE np9)
        replace hvc := hvc0.le (off74.le lE np9)
        replace lE := off74.le lE np9
        replace op9 : Cel H73 p9 [(.int .i64 (0)), (.int .i64 (0)), (.slice none 0 0)] := op9
        refine ob_i (op9.ldn rfl) ?_
        skip
        have hok : ¬ fbP b s r c l := by intro h; first | exact absurd h.1.1 (by assumption) | exact absurd h.1.2 (by assumption)
        exact keq (K := K) (by rw [show ((selI (fbP b s r c l) r) : Int) = (0) from by first | exact selI_f hok | exact selI_iff hiff | exact (selI_iff hiff).symm]; rw [show ((selI (fbP b s r c l) c) : Int) = (0) from by first | exact selI_f hok | exact selI_iff hiff | exact (selI_iff hiff).symm]; rw [decide_eq_false (show ¬ (fbP b s r c l) from by exact hok)]) (hk  (.slice none 0 0) _ (Own.cast (show [] = selL (fbP b s r c l) (dgL 2 (fbF b s r c l) (r * c).toNat) by exact (selL_f hok).symm) (Own.nil_of none)) (fun b hb => by simp [bk] at hb)  lE)
      · skip
        refine ob_i (op13.ldn rfl) ?_
        refine op9.stn (ws := [(.int .i64 (0)), (.int .i64 (0)), (.slice none 0 0)]) rfl rfl (oc1 rfl (oc1 rfl (oc1 rfl oc0))) (fun H75 op9 off76 => ?_)
        replace op1 := op1.off off76 ap1Xp9
        replace op5 := op5.off off76 ap5Xp9
        replace op13 := op13.off off76 ap9Xp13.symm
        replace op17 := op17.off off76 ap9Xp17.symm
        replace op25 := op25.off off76 ap9Xp25.symm
        replace op29 := op29.off off76 ap9Xp29.symm
        replace op33 := op33.off off76 ap9Xp33.symm
        replace ou37 := ou37.off off76 ap9Xu37.symm
        replace hvb := hvb0.le (off76.le lE np9)
        replace hvs := hvs0.le (off76.le lE np9)
        replace hvc := hvc0.le (off76.le lE np9)
        replace lE := off76.le lE np9
        replace op9 : Cel H75 p9 [(.int .i64 (0)), (.int .i64 (0)), (.slice none 0 0)] := op9
        refine ob_i (op17.ld0 rfl) ?_
        refine ob_i (op9.ldn rfl) ?_
        skip
        have hok : ¬ fbP b s r c l := by intro h; first | exact absurd h.1.1 (by assumption) | exact absurd h.1.2 (by assumption)
        exact keq (K := K) (by rw [show ((selI (fbP b s r c l) r) : Int) = (0) from by first | exact selI_f hok | exact selI_iff hiff | exact (selI_iff hiff).symm]; rw [show ((selI (fbP b s r c l) c) : Int) = (0) from by first | exact selI_f hok | exact selI_iff hiff | exact (selI_iff hiff).symm]; rw [decide_eq_false (show ¬ (fbP b s r c l) from by exact hok)]) (hk  (.slice none 0 0) _ (Own.cast (show [] = selL (fbP b s r c l) (dgL 2 (fbF b s r c l) (r * c).toNat) by exact (selL_f hok).symm) (Own.nil_of none)) (fun b hb => by simp [bk] at hb)  lE)
  · skip
    refine gop_st ?_
    refine gop_st ?_
    refine gop_st ?_
    refine gop_st ?_
    refine gop_st ?_
    refine gop_st ?_
    refine ob_i (vPick_t _ _) ?_
    refine cnd_t1 ?_
    refine ⟨?_, ?_⟩
    · skip
      refine ob_i (op13.ldn rfl) ?_
      refine ob_i (op17.ld0 rfl) ?_
      refine op9.stn (ws := [(.int .i64 (0)), (.int .i64 (0)), (.slice none 0 0)]) rfl rfl (oc1 rfl (oc1 rfl (oc1 rfl oc0))) (fun H77 op9 off78 => ?_)
      replace op1 := op1.off off78 ap1Xp9
      replace op5 := op5.off off78 ap5Xp9
      replace op13 := op13.off off78 ap9Xp13.symm
      replace op17 := op17.off off78 ap9Xp17.symm
      replace op25 := op25.off off78 ap9Xp25.symm
      replace op29 := op29.off off78 ap9Xp29.symm
      replace op33 := op33.off off78 ap9Xp33.symm
      replace ou37 := ou37.off off78 ap9Xu37.symm
      replace hvb := hvb0.le (off78.le lE np9)
      replace hvs := hvs0.le (off78.le lE np9)
      replace hvc := hvc0.le (off78.le lE np9)
      replace lE := off78.le lE np9
      replace op9 : Cel H77 p9 [(.int .i64 (0)), (.int .i64 (0)), (.slice none 0 0)] := op9
      refine ob_i (op9.ldn rfl) ?_
      skip
      have hok : ¬ fbP b s r c l := by intro h; first | exact absurd h.1.1 (by assumption) | exact absurd h.1.2 (by assumption)
      exact keq (K := K) (by rw [show ((selI (fbP b s r c l) r) : Int) = (0) from by first | exact selI_f hok | exact selI_iff hiff | exact (selI_iff hiff).symm]; rw [show ((selI (fbP b s r c l) c) : Int) = (0) from by first | exact selI_f hok | exact selI_iff hiff | exact (selI_iff hiff).symm]; rw [decide_eq_false (show ¬ (fbP b s r c l) from by exact hok)]) (hk  (.slice none 0 0) _ (Own.cast (show [] = selL (fbP b s r c l) (dgL 2 (fbF b s r c l) (r * c).toNat) by exact (selL_f hok).symm) (Own.nil_of none)) (fun b hb => by simp [bk] at hb)  lE)
    · skip
      refine ob_i (op13.ldn rfl) ?_
      refine op9.stn (ws := [(.int .i64 (0)), (.int .i64 (0)), (.slice none 0 0)]) rfl rfl (oc1 rfl (oc1 rfl (oc1 rfl oc0))) (fun H79 op9 off80 => ?_)
      replace op1 := op1.off off80 ap1Xp9
      replace op5 := op5.off off80 ap5Xp9
      replace op13 := op13.off off80 ap9Xp13.symm
      replace op17 := op17.off off80 ap9Xp17.symm
      replace op25 := op25.off off80 ap9Xp25.symm
      replace op29 := op29.off off80 ap9Xp29.symm
      replace op33 := op33.off off80 ap9Xp33.symm
      replace ou37 := ou37.off off80 ap9Xu37.symm
      replace hvb := hvb0.le (off80.le lE np9)
      replace hvs := hvs0.le (off80.le lE np9)
      replace hvc := hvc0.le (off80.le lE np9)
      replace lE := off80.le lE np9
      replace op9 : Cel H79 p9 [(.int .i64 (0)), (.int .i64 (0)), (.slice none 0 0)] := op9
      refine ob_i (op17.ld0 rfl) ?_
      refine ob_i (op9.ldn rfl) ?_
      skip
      have hok : ¬ fbP b s r c l := by intro h; first | exact absurd h.1.1 (by assumption) | exact absurd h.1.2 (by assumption)
      exact keq (K := K) (by rw [show ((selI (fbP b s r c l) r) : Int) = (0) from by first | exact selI_f hok | exact selI_iff hiff | exact (selI_iff hiff).symm]; rw [show ((selI (fbP b s r c l) c) : Int) = (0) from by first | exact selI_f hok | exact selI_iff hiff | exact (selI_iff hiff).symm]; rw [decide_eq_false (show ¬ (fbP b s r c l) from by exact hok)]) (hk  (.slice none 0 0) _ (Own.cast (show [] = selL (fbP b s r c l) (dgL 2 (fbF b s r c l) (r * c).toNat) by exact (selL_f hok).symm) (Own.nil_of none)) (fun b hb => by simp [bk] at hb)  lE)
end Go.Proofs.Ytaflemogkogkkaa
