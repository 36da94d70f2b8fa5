/- Several texts in one. -/
import Derived.Test.YtffmfkpobjdmmaaGreatDoorMSoupOf1
import Derived.Test.YtffmfkpobjdmmaaGreatDoorMSoupOf0
import Derived.Laws.Strings
/- Life on fields, step by step: the program's and the reference's. -/
namespace Go.Proofs.YtffmfkpobjdmmaaGreatDoor
open HL
set_option maxRecDepth 100000
theorem C.spec_l04Counts {va : Value} {l : List Int}  {H : Hp} {K : Value → Hp → Prop} (hva0 : Sl eI H va l) (k1 : l.length ≤ 9223372036854775807)
    (hk : ∀ H', Le H H' → K (.bool (decide (cntP l))) H') : HT prg I.spec_l04Counts [va].toArray H K := by
  have lE := Le.refl H
  have hva := hva0
  refine R.spec_l04Counts ?_
  unfold F.spec_l04Counts
  refine jn_i (fun σ' H' => Le H H' ∧ cntU l l.length ∧ cntV l l.length) (fun σ1 H1 hP => ?_) (fun J1 hJ1 => ?_)
  · skip
    obtain ⟨lE, ho0⟩ := hP
    have hva := hva0.le lE
    skip
    exact keq (K := K) (by rw [decide_eq_true (show (cntP l) from by exact ⟨cntV_all ho0.2 (Nat.le_refl _), ho0.1⟩)]) (hk   _    lE)
  refine ⟨fun n' σ' H' => ∃ i : Nat, n' = l.length - i ∧ i ≤ l.length ∧ σ' 0 = va ∧ σ' 3 = (.int .i64 ((i : Int))) ∧ Le H H' ∧ cntU l i ∧ cntV l i,
    ⟨_, 0, rfl, by omega, rfl, (congrArg (Value.int .i64) (by first | omega | rfl | (simp; done))), lE, ⟨cntU_zero l, cntV_zero l⟩⟩, ?_⟩
  rintro n2 σ2 H2 ⟨i, rfl, hiN, g0L2, g3L2, lE, hpre⟩
  have hva := hva0.le lE
  try simp only [g0L2, g3L2]
  refine ob_i (hva.len) ?_
  refine ob_i (vInt_lss _ _ _) ?_
  refine cnd_d (fun hg3 => ?_) (fun hg3 => ?_)
  · skip
    have ti := hg3
    refine ob_i (hva.ix (by omega) (by omega)) ?_
    refine ob_i (hva.ld 0 (by omega) (by omega)) ?_
    refine C.spec_l00In  ?_
    refine ⟨Le.refl _, ?_⟩
    refine ob_nd (fun hc4 => ?_) (fun hc4 => ?_)
    · skip
      refine gop_rf ?_
      refine gop_rf ?_
      refine ob_i (vInt_gtr _ _ _) ?_
      refine gop_rf ?_
      by_cases hc5 : 0 < (i : Int)
      · skip
        refine gop_e (decide_eq_true hc5) ?_
        refine gop_rt ?_
        refine gop_e (decide_eq_true hc5) ?_
        refine gop_rt ?_
        refine gop_e (decide_eq_true hc5) ?_
        refine gop_rt ?_
        refine ob_i (hva.ix (by omega) (by omega)) ?_
        refine gop_e (decide_eq_true hc5) ?_
        refine gop_rt ?_
        refine ob_i (hva.ld 0 (by omega) (by omega)) ?_
        refine gop_e (decide_eq_true hc5) ?_
        refine gop_rt ?_
        refine gop_e (decide_eq_true hc5) ?_
        refine gop_rt ?_
        refine gop_e (decide_eq_true hc5) ?_
        refine gop_rt ?_
        refine ob_i (vInt_sub (by omega) (by omega)) ?_
        refine gop_e (decide_eq_true hc5) ?_
        refine gop_rt ?_
        refine ob_i (hva.ix (by omega) (by omega)) ?_
        refine gop_e (decide_eq_true hc5) ?_
        refine gop_rt ?_
        refine ob_i (hva.ld 0 (by omega) (by omega)) ?_
        refine gop_e (decide_eq_true hc5) ?_
        refine gop_rt ?_
        refine ob_i (vInt_leq _ _ _) ?_
        refine gop_rf ?_
        refine ob_i (vPick_et (decide_eq_true hc5) _ _) ?_
        refine ob_i (vPick_f _ _) ?_
        refine cnd_d (fun hg6 => ?_) (fun hg6 => ?_)
        · skip
          refine retK (K := K) (v' := (.bool false)) rfl ?_
          skip
          exact keq (K := K) (by rw [decide_eq_false (show ¬ (cntP l) from by intro h; have h1 := cntP_in h (j := i) (by omega); have h2 := cntP_up h (j := i) (by omega); omega)]) (hk   _    lE)
        · skip
          refine ob_i (vInt_add (by omega) (by omega)) ?_
          exact nxt (l.length - (i + 1)) (by omega) ⟨i + 1, rfl, by omega, g0L2, (congrArg (Value.int .i64) (by first | omega | rfl | (simp; done))), lE, ⟨cntU_succ hpre.1 (by intro; omega), cntV_succ hpre.2 (by first | assumption | omega)⟩⟩
      · skip
        refine gop_e (decide_eq_false hc5) ?_
        refine gop_sf ?_
        refine gop_e (decide_eq_false hc5) ?_
        refine gop_sf ?_
        refine gop_e (decide_eq_false hc5) ?_
        refine gop_sf ?_
        refine gop_e (decide_eq_false hc5) ?_
        refine gop_sf ?_
        refine gop_e (decide_eq_false hc5) ?_
        refine gop_sf ?_
        refine gop_e (decide_eq_false hc5) ?_
        refine gop_sf ?_
        refine gop_e (decide_eq_false hc5) ?_
        refine gop_sf ?_
        refine gop_e (decide_eq_false hc5) ?_
        refine gop_sf ?_
        refine gop_e (decide_eq_false hc5) ?_
        refine gop_sf ?_
        refine gop_e (decide_eq_false hc5) ?_
        refine gop_sf ?_
        refine gop_rf ?_
        refine ob_i (vPick_ef (decide_eq_false hc5) _ _) ?_
        refine ob_i (vPick_f _ _) ?_
        refine cnd_f1 ?_
        refine ob_i (vInt_add (by omega) (by omega)) ?_
        exact nxt (l.length - (i + 1)) (by omega) ⟨i + 1, rfl, by omega, g0L2, (congrArg (Value.int .i64) (by first | omega | rfl | (simp; done))), lE, ⟨cntU_succ hpre.1 (by intro; omega), cntV_succ hpre.2 (by first | assumption | omega)⟩⟩
    · skip
      refine gop_st ?_
      refine gop_st ?_
      refine gop_st ?_
      refine gop_u ?_
      refine gop_u ?_
      refine gop_u ?_
      refine gop_u ?_
      refine gop_u ?_
      refine gop_u ?_
      refine gop_u ?_
      refine gop_u ?_
      refine gop_u ?_
      refine gop_u ?_
      refine gop_st ?_
      refine ob_i (vPick_t _ _) ?_
      refine cnd_t1 ?_
      refine retK (K := K) (v' := (.bool false)) rfl ?_
      skip
      exact keq (K := K) (by rw [decide_eq_false (show ¬ (cntP l) from by intro h; have h1 := cntP_in h (j := i) (by omega); have h2 := cntP_up h (j := i) (by omega); omega)]) (hk   _    lE)
  · skip
    have ti := hg3
    exact hJ1 _ _ ⟨lE, (by rw [show l.length = i by omega]; exact hpre)⟩
theorem C.impl_areCounts {va : Value} {l : List Int}  {H : Hp} {K : Value → Hp → Prop} (hva0 : Sl eI H va l) (k1 : l.length ≤ 9223372036854775807)
    (hk : ∀ H', Le H H' → K (.bool (decide (cntP l))) H') : HT prg I.impl_areCounts [va].toArray H K := by
  have lE := Le.refl H
  have hva := hva0
  refine R.impl_areCounts ?_
  unfold F.impl_areCounts
  refine jn_i (fun σ' H' => σ' 0 = va ∧ Le H H' ∧ cntU l l.length) (fun σ1 H1 hP => ?_) (fun J1 hJ1 => ?_)
  · skip
    obtain ⟨g0L1, lE, ho0⟩ := hP
    have hva := hva0.le lE
    try simp only [g0L1]
    refine C.impl_areWithin hva (by first | omega | assumption) ?_
    skip
    exact keq (K := K) (by rw [show decide (∀ x ∈ l, 0 ≤ x ∧ x ≤ 8) = decide (cntP l) from decide_eq_decide.mpr (by exact ⟨fun h => ⟨h, ho0⟩, fun h => h.1⟩)]) (hk   _    lE)
  refine ⟨fun n' σ' H' => ∃ i : Nat, n' = l.length - i ∧ i ≤ l.length ∧ σ' 0 = va ∧ σ' 3 = (.int .i64 ((i : Int) + 1)) ∧ Le H H' ∧ cntU l (i + 1),
    ⟨_, 0, rfl, by omega, rfl, (congrArg (Value.int .i64) (by first | omega | rfl | (simp; done))), lE, cntU_one l⟩, ?_⟩
  rintro n2 σ2 H2 ⟨i, rfl, hiN, g0L2, g3L2, lE, hpre⟩
  have hva := hva0.le lE
  try simp only [g0L2, g3L2]
  refine ob_i (hva.len) ?_
  refine ob_i (vInt_lss _ _ _) ?_
  refine cnd_d (fun hg3 => ?_) (fun hg3 => ?_)
  · skip
    have ti := hg3
    refine ob_i (hva.ix (by omega) (by omega)) ?_
    refine ob_i (hva.ld 0 (by omega) (by omega)) ?_
    refine ob_i (vInt_sub (by omega) (by omega)) ?_
    refine ob_i (hva.ix (by omega) (by omega)) ?_
    refine ob_i (hva.ld 0 (by omega) (by omega)) ?_
    refine ob_i (vInt_leq _ _ _) ?_
    refine cnd_d (fun hg4 => ?_) (fun hg4 => ?_)
    · skip
      refine retK (K := K) (v' := (.bool false)) rfl ?_
      skip
      exact keq (K := K) (by rw [decide_eq_false (show ¬ (cntP l) from by intro h; have h2 := cntP_up h (j := i + 1) (by omega); rw [show (((i + 1 : Nat) : Int)) = (i : Int) + 1 by omega] at h2; omega)]) (hk   _    lE)
    · skip
      refine ob_i (vInt_add (by omega) (by omega)) ?_
      exact nxt (l.length - (i + 1)) (by omega) ⟨i + 1, rfl, by omega, g0L2, (congrArg (Value.int .i64) (by first | omega | rfl | (simp; done))), lE, cntU_succ hpre (by intro; rw [show (((i + 1 : Nat) : Int)) = (i : Int) + 1 by omega]; omega)⟩
  · skip
    have ti := hg3
    exact hJ1 _ _ ⟨g0L2, lE, cntU_full hpre (by omega)⟩
theorem C.spec_l04Life {w vb vs : Value} {b : List Int} {s : List Int}  {H : Hp} {K : Value → Hp → Prop} (hw0 : Cel H w [vb, vs]) (hvb0 : Sl eI H vb b) (hvs0 : Sl eI H vs s) (kb : b.length ≤ 9223372036854775807) (ks : s.length ≤ 9223372036854775807)
    (hk : ∀ H', Le H H' → K (.bool (decide (lifP b s))) H') : HT prg I.spec_l04Life [w].toArray H K := by
  have lE := Le.refl H
  have hw := hw0
  have hvb := hvb0
  have hvs := hvs0
  refine R.spec_l04Life ?_
  unfold F.spec_l04Life
  refine ob_i (hw.nilC) ?_
  refine ob_i (hw.fa 0) ?_
  refine ob_i (hw.ld 0 rfl) ?_
  refine C.spec_l04Counts hvb (by first | omega | assumption) (fun   H1    le2 => ?_)
  replace hw := hw.le le2
  replace hvb := hvb.le le2
  replace hvs := hvs.le le2
  replace lE := lE.trans le2
  by_cases hc3 : cntP b
  · skip
    refine gop_e (decide_eq_true hc3) ?_
    refine gop_rt ?_
    refine gop_e (decide_eq_true hc3) ?_
    refine gop_rt ?_
    refine ob_i (hw.nilC) ?_
    refine gop_e (decide_eq_true hc3) ?_
    refine gop_rt ?_
    refine ob_i (hw.fa 1) ?_
    refine gop_e (decide_eq_true hc3) ?_
    refine gop_rt ?_
    refine ob_i (hw.ld 1 rfl) ?_
    refine gop_e (decide_eq_true hc3) ?_
    refine gop_rt ?_
    refine C.spec_l04Counts hvs (by first | omega | assumption) (fun   H4    le5 => ?_)
    replace hw := hw.le le5
    replace hvb := hvb.le le5
    replace hvs := hvs.le le5
    replace lE := lE.trans le5
    refine ob_i (vPick_et (decide_eq_true hc3) _ _) ?_
    skip
    exact keq (K := K) (by rw [show decide (cntP s) = decide (lifP b s) from decide_eq_decide.mpr (by exact ⟨fun h => ⟨by assumption, h⟩, fun h => h.2⟩)]) (hk   _    lE)
  · skip
    refine gop_e (decide_eq_false hc3) ?_
    refine gop_sf ?_
    refine gop_e (decide_eq_false hc3) ?_
    refine gop_sf ?_
    refine gop_e (decide_eq_false hc3) ?_
    refine gop_sf ?_
    refine gop_e (decide_eq_false hc3) ?_
    refine gop_sf ?_
    refine gop_e (decide_eq_false hc3) ?_
    refine gop_sf ?_
    refine ob_i (vPick_ef (decide_eq_false hc3) _ _) ?_
    skip
    have hc_ := hc3
    exact keq (K := K) (by rw [decide_eq_false (show ¬ (lifP b s) from by exact fun h => hc_ h.1)]) (hk   _    lE)
theorem C.impl_ValidLife {vb vs : Value} {b : List Int} {s : List Int}  {H : Hp} {K : Value → Hp → Prop} (hvb0 : Sl eI H vb b) (hvs0 : Sl eI H vs s) (kb : b.length ≤ 9223372036854775807) (ks : s.length ≤ 9223372036854775807)
    (hk : ∀ H', Le H H' → K (.bool (decide (lifP b s))) H') : HT prg I.impl_ValidLife [(.agg #[vb, vs])].toArray H K := by
  have lE := Le.refl H
  have hvb := hvb0
  have hvs := hvs0
  refine R.impl_ValidLife ?_
  unfold F.impl_ValidLife
  refine nw_i (fun p1 H2 op1 nn3 le4 => ?_)
  have np1 : Nw H p1 := nn3.le lE
  replace hvb := hvb.le le4
  replace hvs := hvs.le le4
  replace lE := lE.trans le4
  replace op1 : Cel H2 p1 [vb, vs] := op1
  refine ob_i (op1.fa 0) ?_
  refine ob_i (op1.ld 0 rfl) ?_
  refine C.impl_areCounts hvb (by first | omega | assumption) (fun   H5    le6 => ?_)
  replace op1 := op1.le le6
  replace hvb := hvb.le le6
  replace hvs := hvs.le le6
  replace lE := lE.trans le6
  by_cases hc7 : cntP b
  · skip
    refine gop_e (decide_eq_true hc7) ?_
    refine gop_rt ?_
    refine ob_i (op1.fa 1) ?_
    refine gop_e (decide_eq_true hc7) ?_
    refine gop_rt ?_
    refine ob_i (op1.ld 1 rfl) ?_
    refine gop_e (decide_eq_true hc7) ?_
    refine gop_rt ?_
    refine C.impl_areCounts hvs (by first | omega | assumption) (fun   H8    le9 => ?_)
    replace op1 := op1.le le9
    replace hvb := hvb.le le9
    replace hvs := hvs.le le9
    replace lE := lE.trans le9
    refine ob_i (vPick_et (decide_eq_true hc7) _ _) ?_
    skip
    exact keq (K := K) (by rw [show decide (cntP s) = decide (lifP b s) from decide_eq_decide.mpr (by exact ⟨fun h => ⟨by assumption, h⟩, fun h => h.2⟩)]) (hk   _    lE)
  · skip
    refine gop_e (decide_eq_false hc7) ?_
    refine gop_sf ?_
    refine gop_e (decide_eq_false hc7) ?_
    refine gop_sf ?_
    refine gop_e (decide_eq_false hc7) ?_
    refine gop_sf ?_
    refine ob_i (vPick_ef (decide_eq_false hc7) _ _) ?_
    skip
    have hc_ := hc7
    exact keq (K := K) (by rw [decide_eq_false (show ¬ (lifP b s) from by exact fun h => hc_ h.1)]) (hk   _    lE)
theorem C.spec_l04Own {p vc : Value} {r c : Int} {l : List Int}  {H : Hp} {K : Value → Hp → Prop} (hp0 : Cel H p [(.int .i64 (r)), (.int .i64 (c)), vc]) (hvc0 : Sl eI H vc l) (k2 : l.length ≤ 68719476736)
    (hk : ∀ u1 H', Own eI H' u1 l → Nw H u1 → Le H H' → K (.agg #[(.int .i64 (r)), (.int .i64 (c)), u1]) H') : HT prg I.spec_l04Own [p].toArray H K := by
  have lE := Le.refl H
  have hp := hp0
  have hvc := hvc0
  refine R.spec_l04Own ?_
  unfold F.spec_l04Own
  refine nw_i (fun p1 H2 op1 nn3 le4 => ?_)
  have np1 : Nw H p1 := nn3.le lE
  replace hp := hp.le le4
  replace hvc := hvc.le le4
  replace lE := lE.trans le4
  replace op1 : Cel H2 p1 [(.int .i64 (0)), (.int .i64 (0)), (.slice none 0 0)] := op1
  refine ob_i (hp.nilC) ?_
  refine ob_i (hp.fa 0) ?_
  refine ob_i (hp.ld 0 rfl) ?_
  refine ob_i (hp.nilC) ?_
  refine ob_i (hp.fa 1) ?_
  refine ob_i (hp.ld 1 rfl) ?_
  refine ob_i (hp.nilC) ?_
  refine ob_i (hp.fa 2) ?_
  refine ob_i (hp.ld 2 rfl) ?_
  refine bS_nil (enc := eI) (fun u5 H6 ou5 nn7 kk8 le9 => ?_)
  have ap1Xu5 : Apart p1 u5 := op1.apart nn7
  have nu5 : Nw H u5 := nn7.le lE
  replace op1 := op1.le le9
  replace hp := hp.le le9
  replace hvc := hvc.le le9
  replace lE := lE.trans le9
  refine apd_nil ou5 kk8 hvc (fun _ => rfl) (by omega) (by omega) (fun u13 H10 ou13 nn14 le15 => ?_)
  have ap1Xu13 : Apart p1 u13 := op1.apart nn14
  have au5Xu13 : Apart u5 u13 := ou5.apart nn14
  have nu13 : Nw H u13 := nn14.le lE
  replace op1 := op1.le le15
  replace ou5 := ou5.le le15
  replace hp := hp.le le15
  replace hvc := hvc.le le15
  replace lE := lE.trans le15
  refine ⟨le15, ?_⟩
  refine ob_i (a := (.agg #[(.int .i64 (r)), (.int .i64 (c)), u13])) (by obtain ⟨_, _, _, rfl⟩ := ou13.isSl; rfl) ?_
  refine op1.stn (ws := [(.int .i64 (r)), (.int .i64 (c)), u13]) rfl rfl (oc1 rfl (oc1 rfl (oc1 ou13.one oc0))) (fun H16 op1 off17 => ?_)
  replace ou5 := ou5.off off17 ap1Xu5.symm
  replace ou13 := ou13.off off17 ap1Xu13.symm
  replace hp := hp0.le (off17.le lE np1)
  replace hvc := hvc0.le (off17.le lE np1)
  replace lE := off17.le lE np1
  replace op1 : Cel H16 p1 [(.int .i64 (r)), (.int .i64 (c)), u13] := op1
  refine ob_i (op1.ldn rfl) ?_
  skip
  exact hk  u13 _ ou13 nu13  lE
theorem C.impl_copyField {vc : Value} {r c : Int} {l : List Int}  {H : Hp} {K : Value → Hp → Prop} (hvc0 : Sl eI H vc l) (k2 : l.length ≤ 68719476736)
    (hk : ∀ u1 H', Own eI H' u1 l → Nw H u1 → Le H H' → K (.agg #[(.int .i64 (r)), (.int .i64 (c)), u1]) H') : HT prg I.impl_copyField [(.agg #[(.int .i64 (r)), (.int .i64 (c)), vc])].toArray H K := by
  have lE := Le.refl H
  have hvc := hvc0
  refine R.impl_copyField ?_
  unfold F.impl_copyField
  refine nw_i (fun p1 H2 op1 nn3 le4 => ?_)
  have np1 : Nw H p1 := nn3.le lE
  replace hvc := hvc.le le4
  replace lE := lE.trans le4
  replace op1 : Cel H2 p1 [(.int .i64 (r)), (.int .i64 (c)), vc] := op1
  refine nw_i (fun p5 H6 op5 nn7 le8 => ?_)
  have ap1Xp5 : Apart p1 p5 := op1.apart nn7
  have np5 : Nw H p5 := nn7.le lE
  replace op1 := op1.le le8
  replace hvc := hvc.le le8
  replace lE := lE.trans le8
  replace op5 : Cel H6 p5 [(.int .i64 (0)), (.int .i64 (0)), (.slice none 0 0)] := op5
  refine ob_i (op1.fa 2) ?_
  refine ob_i (op1.ld 2 rfl) ?_
  refine C.slices_Clone_int64Zint64 hvc (by first | omega | assumption) (fun  u11 H9 ou11 nn12  le10 => ?_)
  have ap1Xu11 : Apart p1 u11 := op1.apart nn12
  have ap5Xu11 : Apart p5 u11 := op5.apart nn12
  have nu11 : Nw H u11 := nn12.le lE
  replace op1 := op1.le le10
  replace op5 := op5.le le10
  replace hvc := hvc.le le10
  replace lE := lE.trans le10
  refine ob_i (op1.fa 2) ?_
  refine op1.st (by simp) ou11.one ou11.cells (fun H13 op1 off14 => ?_)
  replace op5 := op5.off off14 ap1Xp5.symm
  replace ou11 := ou11.off off14 ap1Xu11.symm
  replace hvc := hvc0.le (off14.le lE np1)
  replace lE := off14.le lE np1
  replace op1 : Cel H13 p1 [(.int .i64 (r)), (.int .i64 (c)), u11] := op1
  refine ob_i (op1.ldn rfl) ?_
  refine op5.stn (ws := [(.int .i64 (r)), (.int .i64 (c)), u11]) rfl rfl (oc1 rfl (oc1 rfl (oc1 ou11.one oc0))) (fun H15 op5 off16 => ?_)
  replace op1 := op1.off off16 ap1Xp5
  replace ou11 := ou11.off off16 ap5Xu11.symm
  replace hvc := hvc0.le (off16.le lE np5)
  replace lE := off16.le lE np5
  replace op5 : Cel H15 p5 [(.int .i64 (r)), (.int .i64 (c)), u11] := op5
  refine ob_i (op5.ldn rfl) ?_
  skip
  exact hk  u11 _ ou11 nu11  lE
theorem C.spec_l04Has {va : Value} {x : Int} {l : List Int}  {H : Hp} {K : Value → Hp → Prop} (hva0 : Sl eI H va l) (k1 : l.length ≤ 9223372036854775807)
    (hk : ∀ H', Le H H' → K (.bool (decide (x ∈ l))) H') : HT prg I.spec_l04Has [va, (.int .i64 (x))].toArray H K := by
  have lE := Le.refl H
  have hva := hva0
  refine R.spec_l04Has ?_
  unfold F.spec_l04Has
  refine jn_i (fun σ' H' => Le H H' ∧ x ∉ l) (fun σ1 H1 hP => ?_) (fun J1 hJ1 => ?_)
  · skip
    obtain ⟨lE, ho0⟩ := hP
    have hva := hva0.le lE
    skip
    exact keq (K := K) (by rw [decide_eq_false (show ¬ (x ∈ l) from by exact ho0)]) (hk   _    lE)
  refine ⟨fun n' σ' H' => ∃ i : Nat, n' = l.length - i ∧ i ≤ l.length ∧ σ' 0 = va ∧ σ' 1 = (.int .i64 (x)) ∧ σ' 5 = (.int .i64 ((i : Int))) ∧ Le H H' ∧ x ∉ l.take i,
    ⟨_, 0, rfl, by omega, rfl, rfl, (congrArg (Value.int .i64) (by first | omega | rfl | (simp; done))), lE, by simp⟩, ?_⟩
  rintro n2 σ2 H2 ⟨i, rfl, hiN, g0L2, g1L2, g5L2, lE, hm0⟩
  have hva := hva0.le lE
  try simp only [g0L2, g1L2, g5L2]
  refine ob_i (hva.len) ?_
  refine ob_i (vInt_lss _ _ _) ?_
  refine cnd_d (fun hg3 => ?_) (fun hg3 => ?_)
  · skip
    have ti := hg3
    refine ob_i (hva.ix (by omega) (by omega)) ?_
    refine ob_i (hva.ld 0 (by omega) (by omega)) ?_
    refine ob_i (vInt_eql _ _ _) ?_
    refine cnd_d (fun hg4 => ?_) (fun hg4 => ?_)
    · skip
      refine retK (K := K) (v' := (.bool true)) rfl ?_
      skip
      have hg_ := hg4
      exact keq (K := K) (by rw [decide_eq_true (show (x ∈ l) from by rw [← hg_]; exact at_mem 0 l (by omega) (by omega))]) (hk   _    lE)
    · skip
      refine ob_i (vInt_add (by omega) (by omega)) ?_
      exact nxt (l.length - (i + 1)) (by omega) ⟨i + 1, rfl, by omega, g0L2, g1L2, (congrArg (Value.int .i64) (by first | omega | rfl | (simp; done))), lE, notin_succ hm0 (by omega) hg4⟩
  · skip
    have ti := hg3
    exact hJ1 _ _ ⟨lE, (by rw [List.take_of_length_le (by omega)] at hm0; exact hm0)⟩
theorem C.slices_Index_int64Zint64 {va : Value} {x : Int} {l : List Int}  {H : Hp} {K : Value → Hp → Prop} (hva0 : Sl eI H va l) (k1 : l.length ≤ 9223372036854775807)
    (hk : ∀ H', Le H H' → K (.int .i64 (idxL x l)) H') : HT prg I.slices_Index_int64Zint64 [va, (.int .i64 (x))].toArray H K := by
  have lE := Le.refl H
  have hva := hva0
  refine R.slices_Index_int64Zint64 ?_
  unfold F.slices_Index_int64Zint64
  refine jn_i (fun σ' H' => Le H H' ∧ x ∉ l) (fun σ1 H1 hP => ?_) (fun J1 hJ1 => ?_)
  · skip
    obtain ⟨lE, ho0⟩ := hP
    have hva := hva0.le lE
    skip
    exact keq (K := K) (by rw [show ((idxL x l) : Int) = ((-1)) from by exact idxL_not ho0]) (hk   _    lE)
  refine ob_i (hva.len) ?_
  refine ⟨fun n' σ' H' => ∃ i : Nat, n' = l.length - i ∧ i ≤ l.length ∧ σ' 0 = va ∧ σ' 1 = (.int .i64 (x)) ∧ σ' 7 = (.int .i64 (((l).length : Int))) ∧ σ' 8 = (.int .i64 ((i : Int))) ∧ Le H H' ∧ x ∉ l.take i,
    ⟨_, 0, rfl, by omega, rfl, rfl, rfl, (congrArg (Value.int .i64) (by first | omega | rfl | (simp; done))), lE, by simp⟩, ?_⟩
  rintro n2 σ2 H2 ⟨i, rfl, hiN, g0L2, g1L2, g7L2, g8L2, lE, hm0⟩
  have hva := hva0.le lE
  try simp only [g0L2, g1L2, g7L2, g8L2]
  refine ob_i (vInt_lss _ _ _) ?_
  refine cnd_d (fun hg3 => ?_) (fun hg3 => ?_)
  · skip
    have ti := hg3
    refine ob_i (hva.ix (by omega) (by omega)) ?_
    refine ob_i (hva.ld 0 (by omega) (by omega)) ?_
    refine ob_i (vInt_eql _ _ _) ?_
    refine cnd_d (fun hg4 => ?_) (fun hg4 => ?_)
    · skip
      refine retK (K := K) (v' := (.int .i64 ((i : Int)))) rfl ?_
      skip
      exact keq (K := K) (by rw [show (((i : Int)) : Int) = (idxL x l) from by exact (idxL_at hm0 (by omega) hg4.symm).symm]) (hk   _    lE)
    · skip
      refine ob_i (vInt_add (by omega) (by omega)) ?_
      exact nxt (l.length - (i + 1)) (by omega) ⟨i + 1, rfl, by omega, g0L2, g1L2, g7L2, (congrArg (Value.int .i64) (by first | omega | rfl | (simp; done))), lE, notin_succ hm0 (by omega) (fun h => hg4 h.symm)⟩
  · skip
    have ti := hg3
    exact hJ1 _ _ ⟨lE, (by rw [List.take_of_length_le (by omega)] at hm0; exact hm0)⟩
theorem C.slices_Contains_int64Zint64 {va : Value} {x : Int} {l : List Int}  {H : Hp} {K : Value → Hp → Prop} (hva0 : Sl eI H va l) (k1 : l.length ≤ 9223372036854775807)
    (hk : ∀ H', Le H H' → K (.bool (decide (x ∈ l))) H') : HT prg I.slices_Contains_int64Zint64 [va, (.int .i64 (x))].toArray H K := by
  have lE := Le.refl H
  have hva := hva0
  refine R.slices_Contains_int64Zint64 ?_
  unfold F.slices_Contains_int64Zint64
  refine C.slices_Index_int64Zint64 hva (by first | omega | assumption) (fun   H1    le2 => ?_)
  replace hva := hva.le le2
  replace lE := lE.trans le2
  refine ob_i (vInt_geq _ _ _) ?_
  skip
  exact keq (K := K) (by rw [show decide (0 ≤ (idxL x l)) = decide (x ∈ l) from decide_eq_decide.mpr (by exact idxL_mem)]) (hk   _    lE)
theorem C.impl_bit {q : Bool}  {H : Hp} {K : Value → Hp → Prop}
    (hk : K (.int .i64 (if q = true then 1 else 0)) H) : HT prg I.impl_bit [(.bool (q))].toArray H K := by
  have lE := Le.refl H
  refine R.impl_bit ?_
  unfold F.impl_bit
  refine cnd_i (fun hg1 => ?_) (fun hg1 => ?_)
  · skip
    skip
    exact keq (K := K) (by rw [show ((if q = true then 1 else 0) : Int) = (1) from by rw [if_pos hg1]]) (hk )
  · skip
    skip
    exact keq (K := K) (by rw [show ((if q = true then 1 else 0) : Int) = (0) from by rw [if_neg (by rw [hg1]; simp)]]) (hk )
theorem C.spec_l04Around {p vc : Value} {i k r c : Int} {rnd : Bool} {l : List Int}  {H : Hp} {K : Value → Hp → Prop} (hp0 : Cel H p [(.int .i64 (r)), (.int .i64 (c)), vc]) (hvc0 : Sl eI H vc l) (hf : fieldN 1 r c l) (i0 : 0 ≤ i) (i1 : i < r) (j0 : 0 ≤ k) (j1 : k < c)
    (hk : ∀ H', Le H H' → K (.int .i64 (arF rnd r c l i k)) H') : HT prg I.spec_l04Around [p, (.int .i64 (i)), (.int .i64 (k)), (.bool (rnd))].toArray H K := by
  have lE := Le.refl H
  have hp := hp0
  have hvc := hvc0
  refine R.spec_l04Around ?_
  unfold F.spec_l04Around
  have hs := hf.1
  have hl := hf.2.1
  have q1 := hs.1
  have q2 := hs.2
  have qm := sidesF_mul hs
  refine jn_i (fun σ' H' => σ' 9 = (.int .i64 (sumF (fun a => sumF (fun b => skF rnd r c l i k (i - 1 + a) (k - 1 + b)) 3) 3)) ∧ Le H H') (fun σ1 H1 hP => ?_) (fun J1 hJ1 => ?_)
  · skip
    obtain ⟨g9L1, lE⟩ := hP
    have hp := hp0.le lE
    have hvc := hvc0.le lE
    try simp only [g9L1]
    skip
    exact keq (K := K) (by rw [show ((sumF (fun a => sumF (fun b => skF rnd r c l i k (i - 1 + a) (k - 1 + b)) 3) 3) : Int) = (arF rnd r c l i k) from by rfl]) (hk   _    lE)
  refine ob_i (vInt_sub (by omega) (by omega)) ?_
  refine ⟨fun n' σ' H' => ∃ t : Nat, n' = 3 - t ∧ t ≤ 3 ∧ σ' 0 = p ∧ σ' 1 = (.int .i64 (i)) ∧ σ' 2 = (.int .i64 (k)) ∧ σ' 3 = (.bool (rnd)) ∧ σ' 9 = (.int .i64 (sumF (fun a => sumF (fun b => skF rnd r c l i k (i - 1 + a) (k - 1 + b)) 3) t)) ∧ σ' 10 = (.int .i64 (i - 1 + (t : Int))) ∧ Le H H',
    ⟨_, 0, rfl, by omega, rfl, rfl, rfl, rfl, (congrArg (Value.int .i64) (by first | omega | rfl | (simp; done))), (congrArg (Value.int .i64) (by first | omega | rfl | (simp; done))), lE⟩, ?_⟩
  rintro n2 σ2 H2 ⟨t, rfl, htN, g0L2, g1L2, g2L2, g3L2, g9L2, g10L2, lE⟩
  have hp := hp0.le lE
  have hvc := hvc0.le lE
  try simp only [g0L2, g1L2, g2L2, g3L2, g9L2, g10L2]
  have bO := sumF_bnd (f := fun a => sumF (fun b => skF rnd r c l i k (i - 1 + a) (k - 1 + b)) 3) (a := 0) (b := 3) (fun a => by have := sumF_bnd (f := fun b => skF rnd r c l i k (i - 1 + a) (k - 1 + b)) (fun b => skF_01 hf i k _ _) 3; omega) t
  have zI := sumF_zero (fun b => skF rnd r c l i k (i - 1 + (t : Int)) (k - 1 + b))
  refine ob_i (vInt_add (by omega) (by omega)) ?_
  refine ob_i (vInt_leq _ _ _) ?_
  refine cnd_d (fun hg3 => ?_) (fun hg3 => ?_)
  · skip
    have tt := hg3
    refine jn_i (fun σ' H' => σ' 0 = p ∧ σ' 1 = (.int .i64 (i)) ∧ σ' 2 = (.int .i64 (k)) ∧ σ' 3 = (.bool (rnd)) ∧ σ' 9 = (.int .i64 (sumF (fun a => sumF (fun b => skF rnd r c l i k (i - 1 + a) (k - 1 + b)) 3) (t + 1))) ∧ σ' 10 = (.int .i64 (i - 1 + (t : Int))) ∧ Le H H') (fun σ4 H4 hP => ?_) (fun J4 hJ4 => ?_)
    · skip
      obtain ⟨g0L4, g1L4, g2L4, g3L4, g9L4, g10L4, lE⟩ := hP
      have hp := hp0.le lE
      have hvc := hvc0.le lE
      try simp only [g10L4]
      refine ob_i (vInt_add (by omega) (by omega)) ?_
      exact nxt (3 - (t + 1)) (by omega) ⟨t + 1, rfl, by omega, g0L4, g1L4, g2L4, g3L4, (g9L4.trans (congrArg (Value.int .i64) (by first | omega | rfl | (simp; done)))), (congrArg (Value.int .i64) (by first | omega | rfl | (simp; done))), lE⟩
    refine ob_i (vInt_sub (by omega) (by omega)) ?_
    refine ⟨fun n' σ' H' => ∃ u : Nat, n' = 3 - u ∧ u ≤ 3 ∧ σ' 0 = p ∧ σ' 1 = (.int .i64 (i)) ∧ σ' 2 = (.int .i64 (k)) ∧ σ' 3 = (.bool (rnd)) ∧ σ' 9 = (.int .i64 (sumF (fun a => sumF (fun b => skF rnd r c l i k (i - 1 + a) (k - 1 + b)) 3) t + sumF (fun b => skF rnd r c l i k (i - 1 + (t : Int)) (k - 1 + b)) u)) ∧ σ' 10 = (.int .i64 (i - 1 + (t : Int))) ∧ σ' 11 = (.int .i64 (k - 1 + (u : Int))) ∧ Le H H',
      ⟨_, 0, rfl, by omega, g0L2, g1L2, g2L2, g3L2, (g9L2.trans (congrArg (Value.int .i64) (by first | omega | rfl | (simp; done)))), g10L2, (congrArg (Value.int .i64) (by first | omega | rfl | (simp; done))), lE⟩, ?_⟩
    rintro n5 σ5 H5 ⟨u, rfl, huN, g0L5, g1L5, g2L5, g3L5, g9L5, g10L5, g11L5, lE⟩
    have hp := hp0.le lE
    have hvc := hvc0.le lE
    try simp only [g0L5, g1L5, g2L5, g3L5, g9L5, g10L5, g11L5]
    have bI := sumF_bnd (f := fun b => skF rnd r c l i k (i - 1 + (t : Int)) (k - 1 + b)) (fun b => skF_01 hf i k _ _) u
    have bR := roundF_lt (i := i - 1 + (t : Int)) (k := k - 1 + (u : Int)) hs
    have bV := fieldN_at hf (i := roundF r c (i - 1 + (t : Int)) (k - 1 + (u : Int))) (by omega) (by omega)
    refine ob_i (vInt_add (by omega) (by omega)) ?_
    refine ob_i (vInt_leq _ _ _) ?_
    refine cnd_d (fun hg6 => ?_) (fun hg6 => ?_)
    · skip
      have tu := hg6
      refine ob_i (vInt_eql _ _ _) ?_
      by_cases hc7 : (i - 1 + (t : Int)) = i
      · skip
        refine gop_e (decide_eq_true hc7) ?_
        refine gop_rt ?_
        refine gop_e (decide_eq_true hc7) ?_
        refine gop_rt ?_
        refine gop_e (decide_eq_true hc7) ?_
        refine gop_rt ?_
        refine ob_i (vInt_eql _ _ _) ?_
        refine ob_i (vPick_et (decide_eq_true hc7) _ _) ?_
        refine cnd_d (fun hg8 => ?_) (fun hg8 => ?_)
        · skip
          refine ob_i (vInt_add (by omega) (by omega)) ?_
          have e3 : skF rnd r c l i k (i - 1 + (t : Int)) (k - 1 + (u : Int)) = 0 := by rw [skF_eq]; first | rw [if_pos (by omega)] | (rw [if_neg (by omega)]; first | rw [if_pos (by first | (left; assumption) | (right; omega))] | rw [if_neg (by rintro (h | h) <;> first | omega | exact absurd h (by assumption))])
          have eS : sumF (fun b => skF rnd r c l i k (i - 1 + (t : Int)) (k - 1 + b)) (u + 1) = sumF (fun b => skF rnd r c l i k (i - 1 + (t : Int)) (k - 1 + b)) u + skF rnd r c l i k (i - 1 + (t : Int)) (k - 1 + (u : Int)) := rfl
          exact nxt (3 - (u + 1)) (by omega) ⟨u + 1, rfl, by omega, g0L5, g1L5, g2L5, g3L5, (g9L5.trans (congrArg (Value.int .i64) (by first | omega | rfl | (simp; done)))), g10L5, (congrArg (Value.int .i64) (by first | omega | rfl | (simp; done))), lE⟩
        · skip
          by_cases hc9 : (rnd) = true
          · skip
            refine gop_e (hc9) ?_
            refine gop_st ?_
            refine gop_e (hc9) ?_
            refine gop_st ?_
            refine gop_e (hc9) ?_
            refine gop_st ?_
            refine gop_e (hc9) ?_
            refine gop_st ?_
            refine gop_e (hc9) ?_
            refine gop_st ?_
            refine gop_e (hc9) ?_
            refine gop_st ?_
            refine gop_e (hc9) ?_
            refine gop_st ?_
            refine gop_e (hc9) ?_
            refine gop_st ?_
            refine gop_u ?_
            refine gop_u ?_
            refine gop_u ?_
            refine gop_u ?_
            refine gop_u ?_
            refine gop_u ?_
            refine gop_u ?_
            refine gop_e (hc9) ?_
            refine gop_st ?_
            refine ob_i (vPick_et (hc9) _ _) ?_
            refine cnd_t1 ?_
            refine ob_i (hp.nilC) ?_
            refine ob_i (hp.fa 2) ?_
            refine ob_i (hp.ld 2 rfl) ?_
            refine C.spec_l04Round hp (by first | omega | assumption) ?_
            refine ⟨Le.refl _, ?_⟩
            refine ob_i (hvc.ix (by omega) (by omega)) ?_
            refine ob_i (hvc.ld 0 (by omega) (by omega)) ?_
            refine ob_i (vInt_add (by omega) (by omega)) ?_
            refine ob_i (vInt_add (by omega) (by omega)) ?_
            have e3 : skF rnd r c l i k (i - 1 + (t : Int)) (k - 1 + (u : Int)) = at_ 0 l (roundF r c (i - 1 + (t : Int)) (k - 1 + (u : Int))) := by rw [skF_eq]; first | rw [if_pos (by omega)] | (rw [if_neg (by omega)]; first | rw [if_pos (by first | (left; assumption) | (right; omega))] | rw [if_neg (by rintro (h | h) <;> first | omega | exact absurd h (by assumption))])
            have eS : sumF (fun b => skF rnd r c l i k (i - 1 + (t : Int)) (k - 1 + b)) (u + 1) = sumF (fun b => skF rnd r c l i k (i - 1 + (t : Int)) (k - 1 + b)) u + skF rnd r c l i k (i - 1 + (t : Int)) (k - 1 + (u : Int)) := rfl
            exact nxt (3 - (u + 1)) (by omega) ⟨u + 1, rfl, by omega, g0L5, g1L5, g2L5, g3L5, (congrArg (Value.int .i64) (by first | omega | rfl | (simp; done))), g10L5, (congrArg (Value.int .i64) (by first | omega | rfl | (simp; done))), lE⟩
          · skip
            refine gop_e (eq_false_of_ne_true hc9) ?_
            refine gop_rf ?_
            refine gop_e (eq_false_of_ne_true hc9) ?_
            refine gop_rf ?_
            refine gop_e (eq_false_of_ne_true hc9) ?_
            refine gop_rf ?_
            refine ob_i (hp.nilC) ?_
            refine gop_e (eq_false_of_ne_true hc9) ?_
            refine gop_rf ?_
            refine ob_i (hp.fa 0) ?_
            refine gop_e (eq_false_of_ne_true hc9) ?_
            refine gop_rf ?_
            refine ob_i (hp.ld 0 rfl) ?_
            refine gop_e (eq_false_of_ne_true hc9) ?_
            refine gop_rf ?_
            refine ob_i (vInt_sub (by omega) (by omega)) ?_
            refine gop_e (eq_false_of_ne_true hc9) ?_
            refine gop_rf ?_
            refine C.spec_l00In  ?_
            refine gop_e (eq_false_of_ne_true hc9) ?_
            refine gop_rf ?_
            by_cases hc10 : 0 ≤ (i - 1 + (t : Int)) ∧ (i - 1 + (t : Int)) ≤ (r - 1)
            · skip
              refine gop_e (decide_eq_true hc10) ?_
              refine gop_rt ?_
              refine gop_e (decide_eq_true hc10) ?_
              refine gop_rt ?_
              refine gop_e (decide_eq_true hc10) ?_
              refine gop_rt ?_
              refine ob_i (hp.nilC) ?_
              refine gop_e (decide_eq_true hc10) ?_
              refine gop_rt ?_
              refine ob_i (hp.fa 1) ?_
              refine gop_e (decide_eq_true hc10) ?_
              refine gop_rt ?_
              refine ob_i (hp.ld 1 rfl) ?_
              refine gop_e (decide_eq_true hc10) ?_
              refine gop_rt ?_
              refine ob_i (vInt_sub (by omega) (by omega)) ?_
              refine gop_e (decide_eq_true hc10) ?_
              refine gop_rt ?_
              refine C.spec_l00In  ?_
              refine gop_e (eq_false_of_ne_true hc9) ?_
              refine gop_rf ?_
              refine ob_i (vPick_et (decide_eq_true hc10) _ _) ?_
              refine ob_i (vPick_ef (eq_false_of_ne_true hc9) _ _) ?_
              refine cnd_d (fun hg11 => ?_) (fun hg11 => ?_)
              · skip
                refine ob_i (hp.nilC) ?_
                refine ob_i (hp.fa 2) ?_
                refine ob_i (hp.ld 2 rfl) ?_
                refine C.spec_l04Round hp (by first | omega | assumption) ?_
                refine ⟨Le.refl _, ?_⟩
                refine ob_i (hvc.ix (by omega) (by omega)) ?_
                refine ob_i (hvc.ld 0 (by omega) (by omega)) ?_
                refine ob_i (vInt_add (by omega) (by omega)) ?_
                refine ob_i (vInt_add (by omega) (by omega)) ?_
                have e3 : skF rnd r c l i k (i - 1 + (t : Int)) (k - 1 + (u : Int)) = at_ 0 l (roundF r c (i - 1 + (t : Int)) (k - 1 + (u : Int))) := by rw [skF_eq]; first | rw [if_pos (by omega)] | (rw [if_neg (by omega)]; first | rw [if_pos (by first | (left; assumption) | (right; omega))] | rw [if_neg (by rintro (h | h) <;> first | omega | exact absurd h (by assumption))])
                have eS : sumF (fun b => skF rnd r c l i k (i - 1 + (t : Int)) (k - 1 + b)) (u + 1) = sumF (fun b => skF rnd r c l i k (i - 1 + (t : Int)) (k - 1 + b)) u + skF rnd r c l i k (i - 1 + (t : Int)) (k - 1 + (u : Int)) := rfl
                exact nxt (3 - (u + 1)) (by omega) ⟨u + 1, rfl, by omega, g0L5, g1L5, g2L5, g3L5, (congrArg (Value.int .i64) (by first | omega | rfl | (simp; done))), g10L5, (congrArg (Value.int .i64) (by first | omega | rfl | (simp; done))), lE⟩
              · skip
                refine ob_i (vInt_add (by omega) (by omega)) ?_
                have e3 : skF rnd r c l i k (i - 1 + (t : Int)) (k - 1 + (u : Int)) = 0 := by rw [skF_eq]; first | rw [if_pos (by omega)] | (rw [if_neg (by omega)]; first | rw [if_pos (by first | (left; assumption) | (right; omega))] | rw [if_neg (by rintro (h | h) <;> first | omega | exact absurd h (by assumption))])
                have eS : sumF (fun b => skF rnd r c l i k (i - 1 + (t : Int)) (k - 1 + b)) (u + 1) = sumF (fun b => skF rnd r c l i k (i - 1 + (t : Int)) (k - 1 + b)) u + skF rnd r c l i k (i - 1 + (t : Int)) (k - 1 + (u : Int)) := rfl
                exact nxt (3 - (u + 1)) (by omega) ⟨u + 1, rfl, by omega, g0L5, g1L5, g2L5, g3L5, (g9L5.trans (congrArg (Value.int .i64) (by first | omega | rfl | (simp; done)))), g10L5, (congrArg (Value.int .i64) (by first | omega | rfl | (simp; done))), lE⟩
            · skip
              refine gop_e (decide_eq_false hc10) ?_
              refine gop_sf ?_
              refine gop_e (decide_eq_false hc10) ?_
              refine gop_sf ?_
              refine gop_e (decide_eq_false hc10) ?_
              refine gop_sf ?_
              refine gop_e (decide_eq_false hc10) ?_
              refine gop_sf ?_
              refine gop_e (decide_eq_false hc10) ?_
              refine gop_sf ?_
              refine gop_e (decide_eq_false hc10) ?_
              refine gop_sf ?_
              refine gop_e (decide_eq_false hc10) ?_
              refine gop_sf ?_
              refine gop_e (eq_false_of_ne_true hc9) ?_
              refine gop_rf ?_
              refine ob_i (vPick_ef (decide_eq_false hc10) _ _) ?_
              refine ob_i (vPick_ef (eq_false_of_ne_true hc9) _ _) ?_
              refine cnd_f1 ?_
              refine ob_i (vInt_add (by omega) (by omega)) ?_
              have e3 : skF rnd r c l i k (i - 1 + (t : Int)) (k - 1 + (u : Int)) = 0 := by rw [skF_eq]; first | rw [if_pos (by omega)] | (rw [if_neg (by omega)]; first | rw [if_pos (by first | (left; assumption) | (right; omega))] | rw [if_neg (by rintro (h | h) <;> first | omega | exact absurd h (by assumption))])
              have eS : sumF (fun b => skF rnd r c l i k (i - 1 + (t : Int)) (k - 1 + b)) (u + 1) = sumF (fun b => skF rnd r c l i k (i - 1 + (t : Int)) (k - 1 + b)) u + skF rnd r c l i k (i - 1 + (t : Int)) (k - 1 + (u : Int)) := rfl
              exact nxt (3 - (u + 1)) (by omega) ⟨u + 1, rfl, by omega, g0L5, g1L5, g2L5, g3L5, (g9L5.trans (congrArg (Value.int .i64) (by first | omega | rfl | (simp; done)))), g10L5, (congrArg (Value.int .i64) (by first | omega | rfl | (simp; done))), lE⟩
      · skip
        refine gop_e (decide_eq_false hc7) ?_
        refine gop_sf ?_
        refine gop_e (decide_eq_false hc7) ?_
        refine gop_sf ?_
        refine gop_e (decide_eq_false hc7) ?_
        refine gop_sf ?_
        refine ob_i (vPick_ef (decide_eq_false hc7) _ _) ?_
        refine cnd_f1 ?_
        by_cases hc12 : (rnd) = true
        · skip
          refine gop_e (hc12) ?_
          refine gop_st ?_
          refine gop_e (hc12) ?_
          refine gop_st ?_
          refine gop_e (hc12) ?_
          refine gop_st ?_
          refine gop_e (hc12) ?_
          refine gop_st ?_
          refine gop_e (hc12) ?_
          refine gop_st ?_
          refine gop_e (hc12) ?_
          refine gop_st ?_
          refine gop_e (hc12) ?_
          refine gop_st ?_
          refine gop_e (hc12) ?_
          refine gop_st ?_
          refine gop_u ?_
          refine gop_u ?_
          refine gop_u ?_
          refine gop_u ?_
          refine gop_u ?_
          refine gop_u ?_
          refine gop_u ?_
          refine gop_e (hc12) ?_
          refine gop_st ?_
          refine ob_i (vPick_et (hc12) _ _) ?_
          refine cnd_t1 ?_
          refine ob_i (hp.nilC) ?_
          refine ob_i (hp.fa 2) ?_
          refine ob_i (hp.ld 2 rfl) ?_
          refine C.spec_l04Round hp (by first | omega | assumption) ?_
          refine ⟨Le.refl _, ?_⟩
          refine ob_i (hvc.ix (by omega) (by omega)) ?_
          refine ob_i (hvc.ld 0 (by omega) (by omega)) ?_
          refine ob_i (vInt_add (by omega) (by omega)) ?_
          refine ob_i (vInt_add (by omega) (by omega)) ?_
          have e3 : skF rnd r c l i k (i - 1 + (t : Int)) (k - 1 + (u : Int)) = at_ 0 l (roundF r c (i - 1 + (t : Int)) (k - 1 + (u : Int))) := by rw [skF_eq]; first | rw [if_pos (by omega)] | (rw [if_neg (by omega)]; first | rw [if_pos (by first | (left; assumption) | (right; omega))] | rw [if_neg (by rintro (h | h) <;> first | omega | exact absurd h (by assumption))])
          have eS : sumF (fun b => skF rnd r c l i k (i - 1 + (t : Int)) (k - 1 + b)) (u + 1) = sumF (fun b => skF rnd r c l i k (i - 1 + (t : Int)) (k - 1 + b)) u + skF rnd r c l i k (i - 1 + (t : Int)) (k - 1 + (u : Int)) := rfl
          exact nxt (3 - (u + 1)) (by omega) ⟨u + 1, rfl, by omega, g0L5, g1L5, g2L5, g3L5, (congrArg (Value.int .i64) (by first | omega | rfl | (simp; done))), g10L5, (congrArg (Value.int .i64) (by first | omega | rfl | (simp; done))), lE⟩
        · skip
          refine gop_e (eq_false_of_ne_true hc12) ?_
          refine gop_rf ?_
          refine gop_e (eq_false_of_ne_true hc12) ?_
          refine gop_rf ?_
          refine gop_e (eq_false_of_ne_true hc12) ?_
          refine gop_rf ?_
          refine ob_i (hp.nilC) ?_
          refine gop_e (eq_false_of_ne_true hc12) ?_
          refine gop_rf ?_
          refine ob_i (hp.fa 0) ?_
          refine gop_e (eq_false_of_ne_true hc12) ?_
          refine gop_rf ?_
          refine ob_i (hp.ld 0 rfl) ?_
          refine gop_e (eq_false_of_ne_true hc12) ?_
          refine gop_rf ?_
          refine ob_i (vInt_sub (by omega) (by omega)) ?_
          refine gop_e (eq_false_of_ne_true hc12) ?_
          refine gop_rf ?_
          refine C.spec_l00In  ?_
          refine gop_e (eq_false_of_ne_true hc12) ?_
          refine gop_rf ?_
          by_cases hc13 : 0 ≤ (i - 1 + (t : Int)) ∧ (i - 1 + (t : Int)) ≤ (r - 1)
          · skip
            refine gop_e (decide_eq_true hc13) ?_
            refine gop_rt ?_
            refine gop_e (decide_eq_true hc13) ?_
            refine gop_rt ?_
            refine gop_e (decide_eq_true hc13) ?_
            refine gop_rt ?_
            refine ob_i (hp.nilC) ?_
            refine gop_e (decide_eq_true hc13) ?_
            refine gop_rt ?_
            refine ob_i (hp.fa 1) ?_
            refine gop_e (decide_eq_true hc13) ?_
            refine gop_rt ?_
            refine ob_i (hp.ld 1 rfl) ?_
            refine gop_e (decide_eq_true hc13) ?_
            refine gop_rt ?_
            refine ob_i (vInt_sub (by omega) (by omega)) ?_
            refine gop_e (decide_eq_true hc13) ?_
            refine gop_rt ?_
            refine C.spec_l00In  ?_
            refine gop_e (eq_false_of_ne_true hc12) ?_
            refine gop_rf ?_
            refine ob_i (vPick_et (decide_eq_true hc13) _ _) ?_
            refine ob_i (vPick_ef (eq_false_of_ne_true hc12) _ _) ?_
            refine cnd_d (fun hg14 => ?_) (fun hg14 => ?_)
            · skip
              refine ob_i (hp.nilC) ?_
              refine ob_i (hp.fa 2) ?_
              refine ob_i (hp.ld 2 rfl) ?_
              refine C.spec_l04Round hp (by first | omega | assumption) ?_
              refine ⟨Le.refl _, ?_⟩
              refine ob_i (hvc.ix (by omega) (by omega)) ?_
              refine ob_i (hvc.ld 0 (by omega) (by omega)) ?_
              refine ob_i (vInt_add (by omega) (by omega)) ?_
              refine ob_i (vInt_add (by omega) (by omega)) ?_
              have e3 : skF rnd r c l i k (i - 1 + (t : Int)) (k - 1 + (u : Int)) = at_ 0 l (roundF r c (i - 1 + (t : Int)) (k - 1 + (u : Int))) := by rw [skF_eq]; first | rw [if_pos (by omega)] | (rw [if_neg (by omega)]; first | rw [if_pos (by first | (left; assumption) | (right; omega))] | rw [if_neg (by rintro (h | h) <;> first | omega | exact absurd h (by assumption))])
              have eS : sumF (fun b => skF rnd r c l i k (i - 1 + (t : Int)) (k - 1 + b)) (u + 1) = sumF (fun b => skF rnd r c l i k (i - 1 + (t : Int)) (k - 1 + b)) u + skF rnd r c l i k (i - 1 + (t : Int)) (k - 1 + (u : Int)) := rfl
              exact nxt (3 - (u + 1)) (by omega) ⟨u + 1, rfl, by omega, g0L5, g1L5, g2L5, g3L5, (congrArg (Value.int .i64) (by first | omega | rfl | (simp; done))), g10L5, (congrArg (Value.int .i64) (by first | omega | rfl | (simp; done))), lE⟩
            · skip
              refine ob_i (vInt_add (by omega) (by omega)) ?_
              have e3 : skF rnd r c l i k (i - 1 + (t : Int)) (k - 1 + (u : Int)) = 0 := by rw [skF_eq]; first | rw [if_pos (by omega)] | (rw [if_neg (by omega)]; first | rw [if_pos (by first | (left; assumption) | (right; omega))] | rw [if_neg (by rintro (h | h) <;> first | omega | exact absurd h (by assumption))])
              have eS : sumF (fun b => skF rnd r c l i k (i - 1 + (t : Int)) (k - 1 + b)) (u + 1) = sumF (fun b => skF rnd r c l i k (i - 1 + (t : Int)) (k - 1 + b)) u + skF rnd r c l i k (i - 1 + (t : Int)) (k - 1 + (u : Int)) := rfl
              exact nxt (3 - (u + 1)) (by omega) ⟨u + 1, rfl, by omega, g0L5, g1L5, g2L5, g3L5, (g9L5.trans (congrArg (Value.int .i64) (by first | omega | rfl | (simp; done)))), g10L5, (congrArg (Value.int .i64) (by first | omega | rfl | (simp; done))), lE⟩
          · skip
            refine gop_e (decide_eq_false hc13) ?_
            refine gop_sf ?_
            refine gop_e (decide_eq_false hc13) ?_
            refine gop_sf ?_
            refine gop_e (decide_eq_false hc13) ?_
            refine gop_sf ?_
            refine gop_e (decide_eq_false hc13) ?_
            refine gop_sf ?_
            refine gop_e (decide_eq_false hc13) ?_
            refine gop_sf ?_
            refine gop_e (decide_eq_false hc13) ?_
            refine gop_sf ?_
            refine gop_e (decide_eq_false hc13) ?_
            refine gop_sf ?_
            refine gop_e (eq_false_of_ne_true hc12) ?_
            refine gop_rf ?_
            refine ob_i (vPick_ef (decide_eq_false hc13) _ _) ?_
            refine ob_i (vPick_ef (eq_false_of_ne_true hc12) _ _) ?_
            refine cnd_f1 ?_
            refine ob_i (vInt_add (by omega) (by omega)) ?_
            have e3 : skF rnd r c l i k (i - 1 + (t : Int)) (k - 1 + (u : Int)) = 0 := by rw [skF_eq]; first | rw [if_pos (by omega)] | (rw [if_neg (by omega)]; first | rw [if_pos (by first | (left; assumption) | (right; omega))] | rw [if_neg (by rintro (h | h) <;> first | omega | exact absurd h (by assumption))])
            have eS : sumF (fun b => skF rnd r c l i k (i - 1 + (t : Int)) (k - 1 + b)) (u + 1) = sumF (fun b => skF rnd r c l i k (i - 1 + (t : Int)) (k - 1 + b)) u + skF rnd r c l i k (i - 1 + (t : Int)) (k - 1 + (u : Int)) := rfl
            exact nxt (3 - (u + 1)) (by omega) ⟨u + 1, rfl, by omega, g0L5, g1L5, g2L5, g3L5, (g9L5.trans (congrArg (Value.int .i64) (by first | omega | rfl | (simp; done)))), g10L5, (congrArg (Value.int .i64) (by first | omega | rfl | (simp; done))), lE⟩
    · skip
      have tu := hg6
      obtain rfl : u = 3 := by omega
      exact hJ4 _ _ ⟨g0L5, g1L5, g2L5, g3L5, (g9L5.trans (congrArg (Value.int .i64) (by first | omega | rfl | (simp; done)))), g10L5, lE⟩
  · skip
    have tt := hg3
    obtain rfl : t = 3 := by omega
    exact hJ1 _ _ ⟨(g9L2.trans (congrArg (Value.int .i64) (by first | omega | rfl | (simp; done)))), lE⟩
theorem C.look_any {vc : Value} {r c i k : Int} {rnd : Bool} {l : List Int} {H : Hp} {K : Value → Hp → Prop} (hc : Sl eI H vc l) (hs : sidesF r c) (hl : (l.length : Int) = r * c) (i0 : -1000 ≤ i) (i1 : i ≤ 1000) (k0 : -1000 ≤ k) (k1 : k ≤ 1000)
    (hk : ∀ H', Le H H' → K (.int .i64 (lkF rnd r c l i k)) H') : HT prg I.impl_Field_look [.agg #[.int .i64 r, .int .i64 c, vc], .int .i64 i, .int .i64 k, .bool rnd].toArray H K := by
  cases rnd with
  | true => exact C.look_round hc hs hl i0 i1 k0 k1 hk
  | false => exact C.look_flat hc hs hl hk
theorem C.impl_Field_around {vc : Value} {r c i k : Int} {rnd : Bool} {l : List Int}  {H : Hp} {K : Value → Hp → Prop} (hvc0 : Sl eI H vc l) (hf : fieldN 1 r c l) (i0 : 0 ≤ i) (i1 : i < r) (j0 : 0 ≤ k) (j1 : k < c)
    (hk : ∀ H', Le H H' → K (.int .i64 (arF rnd r c l i k)) H') : HT prg I.impl_Field_around [(.agg #[(.int .i64 (r)), (.int .i64 (c)), vc]), (.int .i64 (i)), (.int .i64 (k)), (.bool (rnd))].toArray H K := by
  have lE := Le.refl H
  have hvc := hvc0
  refine R.impl_Field_around ?_
  unfold F.impl_Field_around
  have hs := hf.1
  have hl := hf.2.1
  have q1 := hs.1
  have q2 := hs.2
  have qm := sidesF_mul hs
  have x1 := ix_lt (a := i) (b := k) (r := r) (c := c) (by omega) (by omega) (by omega) (by omega)
  have cA := fieldN_at hf (i := i * c + k) (by omega) (by omega)
  have z0 := sumF_zero (fun a => sumF (fun b => lkF rnd r c l (i - 1 + a) (k - 1 + b)) 3)
  refine nw_i (fun p1 H2 op1 nn3 le4 => ?_)
  have np1 : Nw H p1 := nn3.le lE
  replace hvc := hvc.le le4
  replace lE := lE.trans le4
  replace op1 : Cel H2 p1 [(.int .i64 (r)), (.int .i64 (c)), vc] := op1
  refine ob_i (op1.ldn rfl) ?_
  refine C.impl_Field_at hvc (by first | omega | assumption) (by first | omega | assumption) (by first | omega | assumption) (by first | omega | assumption) (by first | omega | assumption) (fun   H5    le6 => ?_)
  replace op1 := op1.le le6
  replace hvc := hvc.le le6
  replace lE := lE.trans le6
  refine ob_i (vUn_ngK (by omega) (by omega)) ?_
  refine jn_i (fun σ' H' => σ' 9 = (.int .i64 (arF rnd r c l i k)) ∧ Cel H' p1 [(.int .i64 (r)), (.int .i64 (c)), vc] ∧ Le H H') (fun σ7 H7 hP => ?_) (fun J7 hJ7 => ?_)
  · skip
    obtain ⟨g9L7, op1, lE⟩ := hP
    have hvc := hvc0.le lE
    try simp only [g9L7]
    skip
    exact hk   _    lE
  refine ob_i (vInt_sub (by omega) (by omega)) ?_
  refine ⟨fun n' σ' H' => ∃ t : Nat, n' = 3 - t ∧ t ≤ 3 ∧ σ' 1 = (.int .i64 (i)) ∧ σ' 2 = (.int .i64 (k)) ∧ σ' 3 = (.bool (rnd)) ∧ σ' 4 = p1 ∧ σ' 9 = (.int .i64 (-at_ 0 l (i * c + k) + sumF (fun a => sumF (fun b => lkF rnd r c l (i - 1 + a) (k - 1 + b)) 3) t)) ∧ σ' 10 = (.int .i64 (i - 1 + (t : Int))) ∧ Cel H' p1 [(.int .i64 (r)), (.int .i64 (c)), vc] ∧ Le H H',
    ⟨_, 0, rfl, by omega, rfl, rfl, rfl, rfl, (congrArg (Value.int .i64) (by first | omega | rfl | (simp; done))), (congrArg (Value.int .i64) (by first | omega | rfl | (simp; done))), op1, lE⟩, ?_⟩
  rintro n8 σ8 H8 ⟨t, rfl, htN, g1L8, g2L8, g3L8, g4L8, g9L8, g10L8, op1, lE⟩
  have hvc := hvc0.le lE
  try simp only [g1L8, g2L8, g3L8, g4L8, g9L8, g10L8]
  have bO := sumF_bnd (f := fun a => sumF (fun b => lkF rnd r c l (i - 1 + a) (k - 1 + b)) 3) (a := 0) (b := 3) (fun a => by have := sumF_bnd (f := fun b => lkF rnd r c l (i - 1 + a) (k - 1 + b)) (fun b => lkF_01 hf _ _) 3; omega) t
  have zI := sumF_zero (fun b => lkF rnd r c l (i - 1 + (t : Int)) (k - 1 + b))
  refine ob_i (vInt_add (by omega) (by omega)) ?_
  refine ob_i (vInt_leq _ _ _) ?_
  refine cnd_d (fun hg9 => ?_) (fun hg9 => ?_)
  · skip
    have tt := hg9
    refine jn_i (fun σ' H' => σ' 1 = (.int .i64 (i)) ∧ σ' 2 = (.int .i64 (k)) ∧ σ' 3 = (.bool (rnd)) ∧ σ' 4 = p1 ∧ σ' 9 = (.int .i64 (-at_ 0 l (i * c + k) + sumF (fun a => sumF (fun b => lkF rnd r c l (i - 1 + a) (k - 1 + b)) 3) (t + 1))) ∧ σ' 10 = (.int .i64 (i - 1 + (t : Int))) ∧ Cel H' p1 [(.int .i64 (r)), (.int .i64 (c)), vc] ∧ Le H H') (fun σ10 H10 hP => ?_) (fun J10 hJ10 => ?_)
    · skip
      obtain ⟨g1L10, g2L10, g3L10, g4L10, g9L10, g10L10, op1, lE⟩ := hP
      have hvc := hvc0.le lE
      try simp only [g10L10]
      refine ob_i (vInt_add (by omega) (by omega)) ?_
      exact nxt (3 - (t + 1)) (by omega) ⟨t + 1, rfl, by omega, g1L10, g2L10, g3L10, g4L10, (g9L10.trans (congrArg (Value.int .i64) (by first | omega | rfl | (simp; done)))), (congrArg (Value.int .i64) (by first | omega | rfl | (simp; done))), op1, lE⟩
    refine ob_i (vInt_sub (by omega) (by omega)) ?_
    refine ⟨fun n' σ' H' => ∃ u : Nat, n' = 3 - u ∧ u ≤ 3 ∧ σ' 1 = (.int .i64 (i)) ∧ σ' 2 = (.int .i64 (k)) ∧ σ' 3 = (.bool (rnd)) ∧ σ' 4 = p1 ∧ σ' 9 = (.int .i64 (-at_ 0 l (i * c + k) + sumF (fun a => sumF (fun b => lkF rnd r c l (i - 1 + a) (k - 1 + b)) 3) t + sumF (fun b => lkF rnd r c l (i - 1 + (t : Int)) (k - 1 + b)) u)) ∧ σ' 10 = (.int .i64 (i - 1 + (t : Int))) ∧ σ' 11 = (.int .i64 (k - 1 + (u : Int))) ∧ Cel H' p1 [(.int .i64 (r)), (.int .i64 (c)), vc] ∧ Le H H',
      ⟨_, 0, rfl, by omega, g1L8, g2L8, g3L8, g4L8, (g9L8.trans (congrArg (Value.int .i64) (by first | omega | rfl | (simp; done)))), g10L8, (congrArg (Value.int .i64) (by first | omega | rfl | (simp; done))), op1, lE⟩, ?_⟩
    rintro n11 σ11 H11 ⟨u, rfl, huN, g1L11, g2L11, g3L11, g4L11, g9L11, g10L11, g11L11, op1, lE⟩
    have hvc := hvc0.le lE
    try simp only [g2L11, g3L11, g4L11, g9L11, g10L11, g11L11]
    have bI := sumF_bnd (f := fun b => lkF rnd r c l (i - 1 + (t : Int)) (k - 1 + b)) (fun b => lkF_01 hf _ _) u
    have bV := lkF_01 (rnd := rnd) hf (i - 1 + (t : Int)) (k - 1 + (u : Int))
    refine ob_i (vInt_add (by omega) (by omega)) ?_
    refine ob_i (vInt_leq _ _ _) ?_
    refine cnd_d (fun hg12 => ?_) (fun hg12 => ?_)
    · skip
      have tu := hg12
      refine ob_i (op1.ldn rfl) ?_
      refine C.look_any hvc (by first | omega | assumption) (by first | omega | assumption) (by first | omega | assumption) (by first | omega | assumption) (by first | omega | assumption) (by first | omega | assumption) (fun   H13    le14 => ?_)
      replace op1 := op1.le le14
      replace hvc := hvc.le le14
      replace lE := lE.trans le14
      refine ob_i (vInt_add (by omega) (by omega)) ?_
      refine ob_i (vInt_add (by omega) (by omega)) ?_
      have eS := sumF_succ (fun b => lkF rnd r c l (i - 1 + (t : Int)) (k - 1 + b)) u
      exact nxt (3 - (u + 1)) (by omega) ⟨u + 1, rfl, by omega, g1L11, g2L11, g3L11, g4L11, (congrArg (Value.int .i64) (by first | omega | rfl | (simp; done))), g10L11, (congrArg (Value.int .i64) (by first | omega | rfl | (simp; done))), op1, lE⟩
    · skip
      have tu := hg12
      obtain rfl : u = 3 := by omega
      have eO := sumF_succ (fun a => sumF (fun b => lkF rnd r c l (i - 1 + a) (k - 1 + b)) 3) t
      exact hJ10 _ _ ⟨g1L11, g2L11, g3L11, g4L11, (g9L11.trans (congrArg (Value.int .i64) (by first | omega | rfl | (simp; done)))), g10L11, op1, lE⟩
  · skip
    have tt := hg9
    obtain rfl : t = 3 := by omega
    have eA := arF_eq (rnd := rnd) (l := l) i0 i1 j0 j1
    exact hJ7 _ _ ⟨(g9L8.trans (congrArg (Value.int .i64) (by first | omega | rfl | (simp; done)))), op1, lE⟩
theorem C.impl_Life_becomes {vb vs : Value} {x n : Int} {b : List Int} {s : List Int}  {H : Hp} {K : Value → Hp → Prop} (hvb0 : Sl eI H vb b) (hvs0 : Sl eI H vs s) (kb : b.length ≤ 9223372036854775807) (ks : s.length ≤ 9223372036854775807)
    (hk : ∀ H', Le H H' → K (.int .i64 (if x = 0 then (if n ∈ b then 1 else 0) else (if n ∈ s then 1 else 0))) H') : HT prg I.impl_Life_becomes [(.agg #[vb, vs]), (.int .i64 (x)), (.int .i64 (n))].toArray H K := by
  have lE := Le.refl H
  have hvb := hvb0
  have hvs := hvs0
  refine R.impl_Life_becomes ?_
  unfold F.impl_Life_becomes
  refine nw_i (fun p1 H2 op1 nn3 le4 => ?_)
  have np1 : Nw H p1 := nn3.le lE
  replace hvb := hvb.le le4
  replace hvs := hvs.le le4
  replace lE := lE.trans le4
  replace op1 : Cel H2 p1 [vb, vs] := op1
  refine ob_i (vInt_eql _ _ _) ?_
  refine cnd_d (fun hg5 => ?_) (fun hg5 => ?_)
  · skip
    refine ob_i (op1.fa 0) ?_
    refine ob_i (op1.ld 0 rfl) ?_
    refine C.slices_Contains_int64Zint64 hvb (by first | omega | assumption) (fun   H6    le7 => ?_)
    replace op1 := op1.le le7
    replace hvb := hvb.le le7
    replace hvs := hvs.le le7
    replace lE := lE.trans le7
    refine C.impl_bit  ?_
    skip
    exact keq (K := K) (by rw [show ((if x = 0 then (if n ∈ b then 1 else 0) else (if n ∈ s then 1 else 0)) : Int) = (if (decide (n ∈ b)) = true then 1 else 0) from by simp only [ hg5, if_true, if_false, decide_eq_true_eq]]) (hk   _    lE)
  · skip
    refine ob_i (op1.fa 1) ?_
    refine ob_i (op1.ld 1 rfl) ?_
    refine C.slices_Contains_int64Zint64 hvs (by first | omega | assumption) (fun   H8    le9 => ?_)
    replace op1 := op1.le le9
    replace hvb := hvb.le le9
    replace hvs := hvs.le le9
    replace lE := lE.trans le9
    refine C.impl_bit  ?_
    skip
    exact keq (K := K) (by rw [show ((if x = 0 then (if n ∈ b then 1 else 0) else (if n ∈ s then 1 else 0)) : Int) = (if (decide (n ∈ s)) = true then 1 else 0) from by simp only [ hg5, if_true, if_false, decide_eq_true_eq]]) (hk   _    lE)
theorem C.impl_Life_step_1 {w p g vb vs vc : Value} {i k r c : Int} {rnd : Bool} {b : List Int} {s : List Int} {l : List Int}  {H : Hp} {K : Value → Hp → Prop} (hw0 : Cel H w [vb, vs]) (hp0 : Cel H p [(.int .i64 (r)), (.int .i64 (c)), vc]) (hg0 : Cel H g [(.bool (rnd))]) (hvb0 : Sl eI H vb b) (hvs0 : Sl eI H vs s) (hvc0 : Sl eI H vc l) (hf : fieldN 1 r c l) (kb : b.length ≤ 9223372036854775807) (ks : s.length ≤ 9223372036854775807) (i0 : 0 ≤ i) (i1 : i < r) (j0 : 0 ≤ k) (j1 : k < c)
    (hk : ∀ H', Le H H' → K (.int .i64 (nxG rnd b s r c l i k)) H') : HT prg I.impl_Life_step_1 [(.int .i64 (i)), (.int .i64 (k)), w, p, g].toArray H K := by
  have lE := Le.refl H
  have hw := hw0
  have hp := hp0
  have hg := hg0
  have hvb := hvb0
  have hvs := hvs0
  have hvc := hvc0
  refine R.impl_Life_step_1 ?_
  unfold F.impl_Life_step_1
  have hs := hf.1
  have hl := hf.2.1
  have q1 := hs.1
  have q2 := hs.2
  have qm := sidesF_mul hs
  have x1 := ix_lt (a := i) (b := k) (r := r) (c := c) (by omega) (by omega) (by omega) (by omega)
  refine ob_i (hw.ldn rfl) ?_
  refine ob_i (hp.ldn rfl) ?_
  refine ob_i (hp.ldn rfl) ?_
  refine ob_i (hg.ld0 rfl) ?_
  refine C.impl_Field_at hvc (by first | omega | assumption) (by first | omega | assumption) (by first | omega | assumption) (by first | omega | assumption) (by first | omega | assumption) (fun   H1    le2 => ?_)
  replace hw := hw.le le2
  replace hp := hp.le le2
  replace hg := hg.le le2
  replace hvb := hvb.le le2
  replace hvs := hvs.le le2
  replace hvc := hvc.le le2
  replace lE := lE.trans le2
  refine ⟨le2, ?_⟩
  refine C.impl_Field_around hvc (by first | omega | assumption) (by first | omega | assumption) (by first | omega | assumption) (by first | omega | assumption) (by first | omega | assumption) (fun   H3    le4 => ?_)
  replace hw := hw.le le4
  replace hp := hp.le le4
  replace hg := hg.le le4
  replace hvb := hvb.le le4
  replace hvs := hvs.le le4
  replace hvc := hvc.le le4
  replace lE := lE.trans le4
  refine ⟨le4, ?_⟩
  refine C.impl_Life_becomes hvb hvs (by first | omega | assumption) (by first | omega | assumption) (fun   H5    le6 => ?_)
  replace hw := hw.le le6
  replace hp := hp.le le6
  replace hg := hg.le le6
  replace hvb := hvb.le le6
  replace hvs := hvs.le le6
  replace hvc := hvc.le le6
  replace lE := lE.trans le6
  refine ⟨le6, ?_⟩
  skip
  exact keq (K := K) (by rw [show ((if (at_ 0 l (i * c + k)) = 0 then (if (arF rnd r c l i k) ∈ b then 1 else 0) else (if (arF rnd r c l i k) ∈ s then 1 else 0)) : Int) = (nxG rnd b s r c l i k) from by rfl]) (hk   _    lE)
theorem C.impl_Life_step {vb vs vc : Value} {r c : Int} {rnd : Bool} {b : List Int} {s : List Int} {l : List Int}  {H : Hp} {K : Value → Hp → Prop} (hvb0 : Sl eI H vb b) (hvs0 : Sl eI H vs s) (hvc0 : Sl eI H vc l) (hf : fieldN 1 r c l) (kb : b.length ≤ 9223372036854775807) (ks : s.length ≤ 9223372036854775807)
    (hk : ∀ u1 H', Own eI H' u1 (nxL rnd b s r c l) → Nw H u1 → Le H H' → K (.agg #[(.int .i64 (r)), (.int .i64 (c)), u1]) H') : HT prg I.impl_Life_step [(.agg #[vb, vs]), (.agg #[(.int .i64 (r)), (.int .i64 (c)), vc]), (.bool (rnd))].toArray H K := by
  have lE := Le.refl H
  have hvb := hvb0
  have hvs := hvs0
  have hvc := hvc0
  refine R.impl_Life_step ?_
  unfold F.impl_Life_step
  have hs := hf.1
  have hl := hf.2.1
  have q1 := hs.1
  have q2 := hs.2
  have qm := sidesF_mul hs
  refine nw_i (fun p1 H2 op1 nn3 le4 => ?_)
  have np1 : Nw H p1 := nn3.le lE
  replace hvb := hvb.le le4
  replace hvs := hvs.le le4
  replace hvc := hvc.le le4
  replace lE := lE.trans le4
  replace op1 : Cel H2 p1 [vb, vs] := op1
  refine nw_i (fun p5 H6 op5 nn7 le8 => ?_)
  have ap1Xp5 : Apart p1 p5 := op1.apart nn7
  have np5 : Nw H p5 := nn7.le lE
  replace op1 := op1.le le8
  replace hvb := hvb.le le8
  replace hvs := hvs.le le8
  replace hvc := hvc.le le8
  replace lE := lE.trans le8
  replace op5 : Cel H6 p5 [(.int .i64 (r)), (.int .i64 (c)), vc] := op5
  refine nw_i (fun p9 H10 op9 nn11 le12 => ?_)
  have ap1Xp9 : Apart p1 p9 := op1.apart nn11
  have ap5Xp9 : Apart p5 p9 := op5.apart nn11
  have np9 : Nw H p9 := nn11.le lE
  replace op1 := op1.le le12
  replace op5 := op5.le le12
  replace hvb := hvb.le le12
  replace hvs := hvs.le le12
  replace hvc := hvc.le le12
  replace lE := lE.trans le12
  replace op9 : Cel H10 p9 [(.bool (rnd))] := op9
  refine nw_i (fun p13 H14 op13 nn15 le16 => ?_)
  have ap1Xp13 : Apart p1 p13 := op1.apart nn15
  have ap5Xp13 : Apart p5 p13 := op5.apart nn15
  have ap9Xp13 : Apart p9 p13 := op9.apart nn15
  have np13 : Nw H p13 := nn15.le lE
  replace op1 := op1.le le16
  replace op5 := op5.le le16
  replace op9 := op9.le le16
  replace hvb := hvb.le le16
  replace hvs := hvs.le le16
  replace hvc := hvc.le le16
  replace lE := lE.trans le16
  replace op13 : Cel H14 p13 [(.int .i64 (0)), (.int .i64 (0)), (.slice none 0 0)] := op13
  refine ob_i (op5.fa 0) ?_
  refine ob_i (op5.ld 0 rfl) ?_
  refine ob_i (op5.fa 1) ?_
  refine ob_i (op5.ld 1 rfl) ?_
  refine C.impl_madeField (g := nxG rnd b s r c l) (by omega) (by omega) (by omega) (by omega) (fun H21c i21 k21 Z leZ hi21 hk21 hZ => ?_) (fun u17 H18 ou17 nn19 le20 => ?_)
  · refine ⟨by kernel_rfl, ?_⟩
    replace op1 := op1.le leZ
    replace op5 := op5.le leZ
    replace op9 := op9.le leZ
    replace op13 := op13.le leZ
    replace hvb := hvb.le leZ
    replace hvs := hvs.le leZ
    replace hvc := hvc.le leZ
    replace lE := lE.trans leZ
    have lZ := Le.refl H21c
    refine C.impl_Life_step_1 op1 op5 op9 hvb hvs hvc (by first | omega | assumption) (by first | omega | assumption) (by first | omega | assumption) (by first | omega | assumption) (by first | omega | assumption) (by first | omega | assumption) (by first | omega | assumption) (fun   H22    le23 => ?_)
    replace op1 := op1.le le23
    replace op5 := op5.le le23
    replace op9 := op9.le le23
    replace op13 := op13.le le23
    replace hvb := hvb.le le23
    replace hvs := hvs.le le23
    replace hvc := hvc.le le23
    replace lE := lE.trans le23
    replace lZ := lZ.trans le23
    exact keq (K := Z) (by rw [show ((nxG rnd b s r c l (i21 : Int) (k21 : Int)) : Int) = (nxG rnd b s r c l) (i21 : Int) (k21 : Int) from rfl]) (hZ _ lZ)
  have ap1Xu17 : Apart p1 u17 := op1.apart nn19
  have ap5Xu17 : Apart p5 u17 := op5.apart nn19
  have ap9Xu17 : Apart p9 u17 := op9.apart nn19
  have ap13Xu17 : Apart p13 u17 := op13.apart nn19
  have nu17 : Nw H u17 := nn19.le lE
  replace op1 := op1.le le20
  replace op5 := op5.le le20
  replace op9 := op9.le le20
  replace op13 := op13.le le20
  replace hvb := hvb.le le20
  replace hvs := hvs.le le20
  replace hvc := hvc.le le20
  replace lE := lE.trans le20
  refine op13.stn (ws := [(.int .i64 (r)), (.int .i64 (c)), u17]) rfl rfl (oc1 rfl (oc1 rfl (oc1 ou17.one oc0))) (fun H24 op13 off25 => ?_)
  replace op1 := op1.off off25 ap1Xp13
  replace op5 := op5.off off25 ap5Xp13
  replace op9 := op9.off off25 ap9Xp13
  replace ou17 := ou17.off off25 ap13Xu17.symm
  replace hvb := hvb0.le (off25.le lE np13)
  replace hvs := hvs0.le (off25.le lE np13)
  replace hvc := hvc0.le (off25.le lE np13)
  replace lE := off25.le lE np13
  replace op13 : Cel H24 p13 [(.int .i64 (r)), (.int .i64 (c)), u17] := op13
  refine ob_i (op13.ldn rfl) ?_
  skip
  exact hk  u17 _ (Own.cast (show mkL (c) (nxG rnd b s r c l) ((r : Int).toNat * (c : Int).toNat) = nxL rnd b s r c l by first | rfl | simp) ou17) nu17  lE
theorem C.spec_l04Next {w p vb vs vc : Value} {r c : Int} {rnd : Bool} {b : List Int} {s : List Int} {l : List Int}  {H : Hp} {K : Value → Hp → Prop} (hw0 : Cel H w [vb, vs]) (hp0 : Cel H p [(.int .i64 (r)), (.int .i64 (c)), vc]) (hvb0 : Sl eI H vb b) (hvs0 : Sl eI H vs s) (hvc0 : Sl eI H vc l) (hf : fieldN 1 r c l) (kb : b.length ≤ 9223372036854775807) (ks : s.length ≤ 9223372036854775807)
    (hk : ∀ u1 H', Own eI H' u1 (nxL rnd b s r c l) → Nw H u1 → Le H H' → K (.agg #[(.int .i64 (r)), (.int .i64 (c)), u1]) H') : HT prg I.spec_l04Next [w, p, (.bool (rnd))].toArray H K := by
  have lE := Le.refl H
  have hw := hw0
  have hp := hp0
  have hvb := hvb0
  have hvs := hvs0
  have hvc := hvc0
  refine R.spec_l04Next ?_
  unfold F.spec_l04Next
  have hs := hf.1
  have hl := hf.2.1
  have q1 := hs.1
  have q2 := hs.2
  have qm := sidesF_mul hs
  refine nw_i (fun p1 H2 op1 nn3 le4 => ?_)
  have np1 : Nw H p1 := nn3.le lE
  replace hw := hw.le le4
  replace hp := hp.le le4
  replace hvb := hvb.le le4
  replace hvs := hvs.le le4
  replace hvc := hvc.le le4
  replace lE := lE.trans le4
  replace op1 : Cel H2 p1 [(.int .i64 (0)), (.int .i64 (0)), (.slice none 0 0)] := op1
  refine ob_i (hp.nilC) ?_
  refine ob_i (hp.fa 0) ?_
  refine ob_i (hp.ld 0 rfl) ?_
  refine ob_i (hp.nilC) ?_
  refine ob_i (hp.fa 1) ?_
  refine ob_i (hp.ld 1 rfl) ?_
  refine C.spec_l04New (by first | omega | assumption) (by first | omega | assumption) (by first | omega | assumption) (by first | omega | assumption) (fun  u H5 ou nn7  le6 => ?_)
  have ap1Xu : Apart p1 u := op1.apart nn7
  have nu : Nw H u := nn7.le lE
  replace op1 := op1.le le6
  replace hw := hw.le le6
  replace hp := hp.le le6
  replace hvb := hvb.le le6
  replace hvs := hvs.le le6
  replace hvc := hvc.le le6
  replace lE := lE.trans le6
  refine ⟨le6, ?_⟩
  refine nw_i (fun p8 H9 op8 nn10 le11 => ?_)
  have ap1Xp8 : Apart p1 p8 := op1.apart nn10
  have auXp8 : Apart u p8 := ou.apart nn10
  have np8 : Nw H p8 := nn10.le lE
  replace op1 := op1.le le11
  replace ou := ou.le le11
  replace hw := hw.le le11
  replace hp := hp.le le11
  replace hvb := hvb.le le11
  replace hvs := hvs.le le11
  replace hvc := hvc.le le11
  replace lE := lE.trans le11
  replace op8 : Cel H9 p8 [(.int .i64 (0)), (.int .i64 (0)), (.slice none 0 0)] := op8
  refine op8.stn (ws := [(.int .i64 (r)), (.int .i64 (c)), u]) rfl rfl (oc1 rfl (oc1 rfl (oc1 ou.one oc0))) (fun H12 op8 off13 => ?_)
  replace op1 := op1.off off13 ap1Xp8
  replace ou := ou.off off13 auXp8
  replace hw := hw0.le (off13.le lE np8)
  replace hp := hp0.le (off13.le lE np8)
  replace hvb := hvb0.le (off13.le lE np8)
  replace hvs := hvs0.le (off13.le lE np8)
  replace hvc := hvc0.le (off13.le lE np8)
  replace lE := off13.le lE np8
  replace op8 : Cel H12 p8 [(.int .i64 (r)), (.int .i64 (c)), u] := op8
  refine jn_i (fun σ' H' => σ' 6 = p1 ∧ σ' 7 = p8 ∧ Cel H' p1 [(.int .i64 (0)), (.int .i64 (0)), (.slice none 0 0)] ∧ Own eI H' u (nxL rnd b s r c l) ∧ Cel H' p8 [(.int .i64 (r)), (.int .i64 (c)), u] ∧ Le H H') (fun σ14 H14 hP => ?_) (fun J14 hJ14 => ?_)
  · skip
    obtain ⟨g6L14, g7L14, op1, ou, op8, lE⟩ := hP
    have hw := hw0.le lE
    have hp := hp0.le lE
    have hvb := hvb0.le lE
    have hvs := hvs0.le lE
    have hvc := hvc0.le lE
    try simp only [g6L14, g7L14]
    refine ob_i (op8.ldn rfl) ?_
    refine op1.stn (ws := [(.int .i64 (r)), (.int .i64 (c)), u]) rfl rfl (oc1 rfl (oc1 rfl (oc1 ou.one oc0))) (fun H15 op1 off16 => ?_)
    replace ou := ou.off off16 ap1Xu.symm
    replace op8 := op8.off off16 ap1Xp8.symm
    replace hw := hw0.le (off16.le lE np1)
    replace hp := hp0.le (off16.le lE np1)
    replace hvb := hvb0.le (off16.le lE np1)
    replace hvs := hvs0.le (off16.le lE np1)
    replace hvc := hvc0.le (off16.le lE np1)
    replace lE := off16.le lE np1
    replace op1 : Cel H15 p1 [(.int .i64 (r)), (.int .i64 (c)), u] := op1
    refine ob_i (op1.ldn rfl) ?_
    skip
    exact hk  u _ ou nu  lE
  refine ⟨fun n' σ' H' => ∃ i : Nat, n' = r.toNat - i ∧ i ≤ r.toNat ∧ σ' 0 = w ∧ σ' 1 = p ∧ σ' 2 = (.bool (rnd)) ∧ σ' 6 = p1 ∧ σ' 7 = p8 ∧ σ' 8 = (.int .i64 ((i : Int))) ∧ Cel H' p1 [(.int .i64 (0)), (.int .i64 (0)), (.slice none 0 0)] ∧ Own eI H' u (fillL c (nxG rnd b s r c l) (r.toNat * c.toNat) (i * c.toNat)) ∧ Cel H' p8 [(.int .i64 (r)), (.int .i64 (c)), u] ∧ Le H H',
    ⟨_, 0, rfl, by omega, rfl, rfl, rfl, rfl, rfl, (congrArg (Value.int .i64) (by first | omega | rfl | (simp; done))), op1, (by rw [Nat.zero_mul, fillL_zero]; exact ou), op8, lE⟩, ?_⟩
  rintro n17 σ17 H17 ⟨i, rfl, hiN, g0L17, g1L17, g2L17, g6L17, g7L17, g8L17, op1, ou, op8, lE⟩
  have hw := hw0.le lE
  have hp := hp0.le lE
  have hvb := hvb0.le lE
  have hvs := hvs0.le lE
  have hvc := hvc0.le lE
  try simp only [g0L17, g1L17, g2L17, g6L17, g7L17, g8L17]
  refine ob_i (hp.nilC) ?_
  refine ob_i (hp.fa 0) ?_
  refine ob_i (hp.ld 0 rfl) ?_
  refine ob_i (vInt_lss _ _ _) ?_
  refine cnd_d (fun hg18 => ?_) (fun hg18 => ?_)
  · skip
    have ti := hg18
    refine jn_i (fun σ' H' => σ' 0 = w ∧ σ' 1 = p ∧ σ' 2 = (.bool (rnd)) ∧ σ' 6 = p1 ∧ σ' 7 = p8 ∧ σ' 8 = (.int .i64 ((i : Int))) ∧ Cel H' p1 [(.int .i64 (0)), (.int .i64 (0)), (.slice none 0 0)] ∧ Own eI H' u (fillL c (nxG rnd b s r c l) (r.toNat * c.toNat) ((i + 1) * c.toNat)) ∧ Cel H' p8 [(.int .i64 (r)), (.int .i64 (c)), u] ∧ Le H H') (fun σ19 H19 hP => ?_) (fun J19 hJ19 => ?_)
    · skip
      obtain ⟨g0L19, g1L19, g2L19, g6L19, g7L19, g8L19, op1, ou, op8, lE⟩ := hP
      have hw := hw0.le lE
      have hp := hp0.le lE
      have hvb := hvb0.le lE
      have hvs := hvs0.le lE
      have hvc := hvc0.le lE
      try simp only [g6L19, g8L19]
      refine ob_i (vInt_add (by omega) (by omega)) ?_
      exact nxt (r.toNat - (i + 1)) (by omega) ⟨i + 1, rfl, by omega, g0L19, g1L19, g2L19, g6L19, g7L19, (congrArg (Value.int .i64) (by first | omega | rfl | (simp; done))), op1, ou, op8, lE⟩
    refine ⟨fun n' σ' H' => ∃ k : Nat, n' = c.toNat - k ∧ k ≤ c.toNat ∧ σ' 0 = w ∧ σ' 1 = p ∧ σ' 2 = (.bool (rnd)) ∧ σ' 6 = p1 ∧ σ' 7 = p8 ∧ σ' 8 = (.int .i64 ((i : Int))) ∧ σ' 9 = (.int .i64 ((k : Int))) ∧ Cel H' p1 [(.int .i64 (0)), (.int .i64 (0)), (.slice none 0 0)] ∧ Own eI H' u (fillL c (nxG rnd b s r c l) (r.toNat * c.toNat) (i * c.toNat + k)) ∧ Cel H' p8 [(.int .i64 (r)), (.int .i64 (c)), u] ∧ Le H H',
      ⟨_, 0, rfl, by omega, g0L17, g1L17, g2L17, g6L17, g7L17, g8L17, (congrArg (Value.int .i64) (by first | omega | rfl | (simp; done))), op1, ou, op8, lE⟩, ?_⟩
    rintro n20 σ20 H20 ⟨k, rfl, hkN, g0L20, g1L20, g2L20, g6L20, g7L20, g8L20, g9L20, op1, ou, op8, lE⟩
    have hw := hw0.le lE
    have hp := hp0.le lE
    have hvb := hvb0.le lE
    have hvs := hvs0.le lE
    have hvc := hvc0.le lE
    try simp only [g0L20, g1L20, g2L20, g6L20, g7L20, g8L20, g9L20]
    refine ob_i (hp.nilC) ?_
    refine ob_i (hp.fa 1) ?_
    refine ob_i (hp.ld 1 rfl) ?_
    refine ob_i (vInt_lss _ _ _) ?_
    refine cnd_d (fun hg21 => ?_) (fun hg21 => ?_)
    · skip
      have tk := hg21
      have x1 := ix_lt (a := (i : Int)) (b := (k : Int)) (r := r) (c := c) (by omega) (by omega) (by omega) (by omega)
      have x3 := fillL_len (c := c) (g := nxG rnd b s r c l) (rr := r) (cc := c) (t := i * c.toNat + k) (by omega) (by omega)
      have x4 := fieldN_at hf (i := (i : Int) * c + (k : Int)) (by omega) (by omega)
      refine C.spec_l04Around hp hvc (by first | omega | assumption) (by first | omega | assumption) (by first | omega | assumption) (by first | omega | assumption) (by first | omega | assumption) (fun   H22    le23 => ?_)
      replace op1 := op1.le le23
      replace ou := ou.le le23
      replace op8 := op8.le le23
      replace hw := hw.le le23
      replace hp := hp.le le23
      replace hvb := hvb.le le23
      replace hvs := hvs.le le23
      replace hvc := hvc.le le23
      replace lE := lE.trans le23
      refine ob_i (hp.nilC) ?_
      refine ob_i (hp.fa 1) ?_
      refine ob_i (hp.ld 1 rfl) ?_
      refine ob_i (vInt_mul (by omega) (by omega)) ?_
      refine ob_i (vInt_add (by omega) (by omega)) ?_
      refine ob_i (hp.nilC) ?_
      refine ob_i (hp.fa 2) ?_
      refine ob_i (hp.ld 2 rfl) ?_
      refine ob_i (hvc.ix (by omega) (by omega)) ?_
      refine ob_i (hvc.ld 0 (by omega) (by omega)) ?_
      refine ob_i (vInt_eql _ _ _) ?_
      by_cases hc24 : (at_ 0 (l) (((i : Int) * c) + (k : Int))) = 0
      · skip
        refine gop_e (decide_eq_true hc24) ?_
        refine gop_rt ?_
        refine gop_e (decide_eq_true hc24) ?_
        refine gop_rt ?_
        refine ob_i (hw.nilC) ?_
        refine gop_e (decide_eq_true hc24) ?_
        refine gop_rt ?_
        refine ob_i (hw.fa 0) ?_
        refine gop_e (decide_eq_true hc24) ?_
        refine gop_rt ?_
        refine ob_i (hw.ld 0 rfl) ?_
        refine gop_e (decide_eq_true hc24) ?_
        refine gop_rt ?_
        refine gop_e (decide_eq_true hc24) ?_
        refine gop_rt ?_
        refine C.spec_l04Has hvb (by first | omega | assumption) (fun   H25    le26 => ?_)
        replace op1 := op1.le le26
        replace ou := ou.le le26
        replace op8 := op8.le le26
        replace hw := hw.le le26
        replace hp := hp.le le26
        replace hvb := hvb.le le26
        replace hvs := hvs.le le26
        replace hvc := hvc.le le26
        replace lE := lE.trans le26
        refine ob_i (vPick_et (decide_eq_true hc24) _ _) ?_
        by_cases hc27 : (arF rnd r c l (i : Int) (k : Int)) ∈ b
        · skip
          refine gop_e (decide_eq_true hc27) ?_
          refine gop_st ?_
          refine gop_e (decide_eq_true hc27) ?_
          refine gop_st ?_
          refine gop_e (decide_eq_true hc27) ?_
          refine gop_st ?_
          refine gop_e (decide_eq_true hc27) ?_
          refine gop_st ?_
          refine gop_e (decide_eq_true hc27) ?_
          refine gop_st ?_
          refine gop_e (decide_eq_true hc27) ?_
          refine gop_st ?_
          refine gop_e (decide_eq_true hc27) ?_
          refine gop_st ?_
          refine gop_e (decide_eq_true hc27) ?_
          refine gop_st ?_
          refine gop_e (decide_eq_true hc27) ?_
          refine gop_st ?_
          refine gop_u ?_
          refine gop_u ?_
          refine gop_u ?_
          refine gop_u ?_
          refine gop_u ?_
          refine gop_u ?_
          refine gop_e (decide_eq_true hc27) ?_
          refine gop_st ?_
          refine ob_i (vPick_et (decide_eq_true hc27) _ _) ?_
          refine cnd_t1 ?_
          refine ob_i (op8.fa 2) ?_
          refine ob_i (op8.ld 2 rfl) ?_
          refine ob_i (ou.sl.ix (by omega) (by omega)) ?_
          refine ou.st (x := 1) (by omega) (by omega) rfl rfl (fun H28 ou off29 => ?_)
          replace op1 := op1.off off29 ap1Xu
          replace op8 := op8.off off29 auXp8.symm
          replace hw := hw0.le (off29.le lE nu)
          replace hp := hp0.le (off29.le lE nu)
          replace hvb := hvb0.le (off29.le lE nu)
          replace hvs := hvs0.le (off29.le lE nu)
          replace hvc := hvc0.le (off29.le lE nu)
          replace lE := off29.le lE nu
          refine ob_i (vInt_add (by omega) (by omega)) ?_
          have eG : nxG rnd b s r c l (i : Int) (k : Int) = 1 := by first | exact nx_b1 (by assumption) (by assumption) | exact nx_s1 (by assumption) (by assumption) | (exfalso; omega)
          replace ou : Own eI H28 u (fillL c (nxG rnd b s r c l) (r.toNat * c.toNat) (i * c.toNat + (k + 1))) := by rw [← Nat.add_assoc, ← fillL_set (c := c) (g := nxG rnd b s r c l) (i := (i : Int)) (k := (k : Int)) (by omega) (by omega) (by omega) (cast_ix (by omega)) (by omega), eG]; exact ou
          exact nxt (c.toNat - (k + 1)) (by omega) ⟨k + 1, rfl, by omega, g0L20, g1L20, g2L20, g6L20, g7L20, g8L20, (congrArg (Value.int .i64) (by first | omega | rfl | (simp; done))), op1, ou, op8, lE⟩
        · skip
          refine gop_e (decide_eq_false hc27) ?_
          refine gop_rf ?_
          refine gop_e (decide_eq_false hc27) ?_
          refine gop_rf ?_
          refine ob_i (hp.nilC) ?_
          refine gop_e (decide_eq_false hc27) ?_
          refine gop_rf ?_
          refine ob_i (hp.fa 2) ?_
          refine gop_e (decide_eq_false hc27) ?_
          refine gop_rf ?_
          refine ob_i (hp.ld 2 rfl) ?_
          refine gop_e (decide_eq_false hc27) ?_
          refine gop_rf ?_
          refine gop_e (decide_eq_false hc27) ?_
          refine gop_rf ?_
          refine ob_i (hvc.ix (by omega) (by omega)) ?_
          refine gop_e (decide_eq_false hc27) ?_
          refine gop_rf ?_
          refine ob_i (hvc.ld 0 (by omega) (by omega)) ?_
          refine gop_e (decide_eq_false hc27) ?_
          refine gop_rf ?_
          refine ob_i (vInt_eql _ _ _) ?_
          refine gop_e (decide_eq_false hc27) ?_
          refine gop_rf ?_
          by_cases hc30 : (at_ 0 (l) (((i : Int) * c) + (k : Int))) = 1
          · skip
            refine gop_e (decide_eq_true hc30) ?_
            refine gop_rt ?_
            refine gop_e (decide_eq_true hc30) ?_
            refine gop_rt ?_
            refine ob_i (hw.nilC) ?_
            refine gop_e (decide_eq_true hc30) ?_
            refine gop_rt ?_
            refine ob_i (hw.fa 1) ?_
            refine gop_e (decide_eq_true hc30) ?_
            refine gop_rt ?_
            refine ob_i (hw.ld 1 rfl) ?_
            refine gop_e (decide_eq_true hc30) ?_
            refine gop_rt ?_
            refine gop_e (decide_eq_true hc30) ?_
            refine gop_rt ?_
            refine C.spec_l04Has hvs (by first | omega | assumption) (fun   H31    le32 => ?_)
            replace op1 := op1.le le32
            replace ou := ou.le le32
            replace op8 := op8.le le32
            replace hw := hw.le le32
            replace hp := hp.le le32
            replace hvb := hvb.le le32
            replace hvs := hvs.le le32
            replace hvc := hvc.le le32
            replace lE := lE.trans le32
            refine gop_e (decide_eq_false hc27) ?_
            refine gop_rf ?_
            refine ob_i (vPick_et (decide_eq_true hc30) _ _) ?_
            refine ob_i (vPick_ef (decide_eq_false hc27) _ _) ?_
            refine cnd_d (fun hg33 => ?_) (fun hg33 => ?_)
            · skip
              refine ob_i (op8.fa 2) ?_
              refine ob_i (op8.ld 2 rfl) ?_
              refine ob_i (ou.sl.ix (by omega) (by omega)) ?_
              refine ou.st (x := 1) (by omega) (by omega) rfl rfl (fun H34 ou off35 => ?_)
              replace op1 := op1.off off35 ap1Xu
              replace op8 := op8.off off35 auXp8.symm
              replace hw := hw0.le (off35.le lE nu)
              replace hp := hp0.le (off35.le lE nu)
              replace hvb := hvb0.le (off35.le lE nu)
              replace hvs := hvs0.le (off35.le lE nu)
              replace hvc := hvc0.le (off35.le lE nu)
              replace lE := off35.le lE nu
              refine ob_i (vInt_add (by omega) (by omega)) ?_
              have eG : nxG rnd b s r c l (i : Int) (k : Int) = 1 := by first | exact nx_b1 (by assumption) (by assumption) | exact nx_s1 (by assumption) (by assumption) | (exfalso; omega)
              replace ou : Own eI H34 u (fillL c (nxG rnd b s r c l) (r.toNat * c.toNat) (i * c.toNat + (k + 1))) := by rw [← Nat.add_assoc, ← fillL_set (c := c) (g := nxG rnd b s r c l) (i := (i : Int)) (k := (k : Int)) (by omega) (by omega) (by omega) (cast_ix (by omega)) (by omega), eG]; exact ou
              exact nxt (c.toNat - (k + 1)) (by omega) ⟨k + 1, rfl, by omega, g0L20, g1L20, g2L20, g6L20, g7L20, g8L20, (congrArg (Value.int .i64) (by first | omega | rfl | (simp; done))), op1, ou, op8, lE⟩
            · skip
              refine ob_i (vInt_add (by omega) (by omega)) ?_
              have eG : nxG rnd b s r c l (i : Int) (k : Int) = 0 := by first | exact nx_b0 (by assumption) (by assumption) | exact nx_s0 (by assumption) (by assumption) | (exfalso; omega)
              replace ou : Own eI H31 u (fillL c (nxG rnd b s r c l) (r.toNat * c.toNat) (i * c.toNat + (k + 1))) := by rw [← Nat.add_assoc, ← fillL_skip (c := c) (g := nxG rnd b s r c l) (i := (i : Int)) (k := (k : Int)) (by omega) (by omega) (by omega) (cast_ix (by omega)) eG]; exact ou
              exact nxt (c.toNat - (k + 1)) (by omega) ⟨k + 1, rfl, by omega, g0L20, g1L20, g2L20, g6L20, g7L20, g8L20, (congrArg (Value.int .i64) (by first | omega | rfl | (simp; done))), op1, ou, op8, lE⟩
          · skip
            refine gop_e (decide_eq_false hc30) ?_
            refine gop_sf ?_
            refine gop_e (decide_eq_false hc30) ?_
            refine gop_sf ?_
            refine gop_e (decide_eq_false hc30) ?_
            refine gop_sf ?_
            refine gop_e (decide_eq_false hc30) ?_
            refine gop_sf ?_
            refine gop_e (decide_eq_false hc30) ?_
            refine gop_sf ?_
            refine gop_e (decide_eq_false hc30) ?_
            refine gop_sf ?_
            refine gop_e (decide_eq_false hc27) ?_
            refine gop_rf ?_
            refine ob_i (vPick_ef (decide_eq_false hc30) _ _) ?_
            refine ob_i (vPick_ef (decide_eq_false hc27) _ _) ?_
            refine cnd_f1 ?_
            refine ob_i (vInt_add (by omega) (by omega)) ?_
            have eG : nxG rnd b s r c l (i : Int) (k : Int) = 0 := by first | exact nx_b0 (by assumption) (by assumption) | exact nx_s0 (by assumption) (by assumption) | (exfalso; omega)
            replace ou : Own eI H25 u (fillL c (nxG rnd b s r c l) (r.toNat * c.toNat) (i * c.toNat + (k + 1))) := by rw [← Nat.add_assoc, ← fillL_skip (c := c) (g := nxG rnd b s r c l) (i := (i : Int)) (k := (k : Int)) (by omega) (by omega) (by omega) (cast_ix (by omega)) eG]; exact ou
            exact nxt (c.toNat - (k + 1)) (by omega) ⟨k + 1, rfl, by omega, g0L20, g1L20, g2L20, g6L20, g7L20, g8L20, (congrArg (Value.int .i64) (by first | omega | rfl | (simp; done))), op1, ou, op8, lE⟩
      · skip
        refine gop_e (decide_eq_false hc24) ?_
        refine gop_sf ?_
        refine gop_e (decide_eq_false hc24) ?_
        refine gop_sf ?_
        refine gop_e (decide_eq_false hc24) ?_
        refine gop_sf ?_
        refine gop_e (decide_eq_false hc24) ?_
        refine gop_sf ?_
        refine gop_e (decide_eq_false hc24) ?_
        refine gop_sf ?_
        refine gop_e (decide_eq_false hc24) ?_
        refine gop_sf ?_
        refine ob_i (vPick_ef (decide_eq_false hc24) _ _) ?_
        refine gop_rf ?_
        refine gop_rf ?_
        refine ob_i (hp.nilC) ?_
        refine gop_rf ?_
        refine ob_i (hp.fa 2) ?_
        refine gop_rf ?_
        refine ob_i (hp.ld 2 rfl) ?_
        refine gop_rf ?_
        refine gop_rf ?_
        refine ob_i (hvc.ix (by omega) (by omega)) ?_
        refine gop_rf ?_
        refine ob_i (hvc.ld 0 (by omega) (by omega)) ?_
        refine gop_rf ?_
        refine ob_i (vInt_eql _ _ _) ?_
        refine gop_rf ?_
        by_cases hc36 : (at_ 0 (l) (((i : Int) * c) + (k : Int))) = 1
        · skip
          refine gop_e (decide_eq_true hc36) ?_
          refine gop_rt ?_
          refine gop_e (decide_eq_true hc36) ?_
          refine gop_rt ?_
          refine ob_i (hw.nilC) ?_
          refine gop_e (decide_eq_true hc36) ?_
          refine gop_rt ?_
          refine ob_i (hw.fa 1) ?_
          refine gop_e (decide_eq_true hc36) ?_
          refine gop_rt ?_
          refine ob_i (hw.ld 1 rfl) ?_
          refine gop_e (decide_eq_true hc36) ?_
          refine gop_rt ?_
          refine gop_e (decide_eq_true hc36) ?_
          refine gop_rt ?_
          refine C.spec_l04Has hvs (by first | omega | assumption) (fun   H37    le38 => ?_)
          replace op1 := op1.le le38
          replace ou := ou.le le38
          replace op8 := op8.le le38
          replace hw := hw.le le38
          replace hp := hp.le le38
          replace hvb := hvb.le le38
          replace hvs := hvs.le le38
          replace hvc := hvc.le le38
          replace lE := lE.trans le38
          refine gop_rf ?_
          refine ob_i (vPick_et (decide_eq_true hc36) _ _) ?_
          refine ob_i (vPick_f _ _) ?_
          refine cnd_d (fun hg39 => ?_) (fun hg39 => ?_)
          · skip
            refine ob_i (op8.fa 2) ?_
            refine ob_i (op8.ld 2 rfl) ?_
            refine ob_i (ou.sl.ix (by omega) (by omega)) ?_
            refine ou.st (x := 1) (by omega) (by omega) rfl rfl (fun H40 ou off41 => ?_)
            replace op1 := op1.off off41 ap1Xu
            replace op8 := op8.off off41 auXp8.symm
            replace hw := hw0.le (off41.le lE nu)
            replace hp := hp0.le (off41.le lE nu)
            replace hvb := hvb0.le (off41.le lE nu)
            replace hvs := hvs0.le (off41.le lE nu)
            replace hvc := hvc0.le (off41.le lE nu)
            replace lE := off41.le lE nu
            refine ob_i (vInt_add (by omega) (by omega)) ?_
            have eG : nxG rnd b s r c l (i : Int) (k : Int) = 1 := by first | exact nx_b1 (by assumption) (by assumption) | exact nx_s1 (by assumption) (by assumption) | (exfalso; omega)
            replace ou : Own eI H40 u (fillL c (nxG rnd b s r c l) (r.toNat * c.toNat) (i * c.toNat + (k + 1))) := by rw [← Nat.add_assoc, ← fillL_set (c := c) (g := nxG rnd b s r c l) (i := (i : Int)) (k := (k : Int)) (by omega) (by omega) (by omega) (cast_ix (by omega)) (by omega), eG]; exact ou
            exact nxt (c.toNat - (k + 1)) (by omega) ⟨k + 1, rfl, by omega, g0L20, g1L20, g2L20, g6L20, g7L20, g8L20, (congrArg (Value.int .i64) (by first | omega | rfl | (simp; done))), op1, ou, op8, lE⟩
          · skip
            refine ob_i (vInt_add (by omega) (by omega)) ?_
            have eG : nxG rnd b s r c l (i : Int) (k : Int) = 0 := by first | exact nx_b0 (by assumption) (by assumption) | exact nx_s0 (by assumption) (by assumption) | (exfalso; omega)
            replace ou : Own eI H37 u (fillL c (nxG rnd b s r c l) (r.toNat * c.toNat) (i * c.toNat + (k + 1))) := by rw [← Nat.add_assoc, ← fillL_skip (c := c) (g := nxG rnd b s r c l) (i := (i : Int)) (k := (k : Int)) (by omega) (by omega) (by omega) (cast_ix (by omega)) eG]; exact ou
            exact nxt (c.toNat - (k + 1)) (by omega) ⟨k + 1, rfl, by omega, g0L20, g1L20, g2L20, g6L20, g7L20, g8L20, (congrArg (Value.int .i64) (by first | omega | rfl | (simp; done))), op1, ou, op8, lE⟩
        · skip
          refine gop_e (decide_eq_false hc36) ?_
          refine gop_sf ?_
          refine gop_e (decide_eq_false hc36) ?_
          refine gop_sf ?_
          refine gop_e (decide_eq_false hc36) ?_
          refine gop_sf ?_
          refine gop_e (decide_eq_false hc36) ?_
          refine gop_sf ?_
          refine gop_e (decide_eq_false hc36) ?_
          refine gop_sf ?_
          refine gop_e (decide_eq_false hc36) ?_
          refine gop_sf ?_
          refine gop_rf ?_
          refine ob_i (vPick_ef (decide_eq_false hc36) _ _) ?_
          refine ob_i (vPick_f _ _) ?_
          refine cnd_f1 ?_
          refine ob_i (vInt_add (by omega) (by omega)) ?_
          have eG : nxG rnd b s r c l (i : Int) (k : Int) = 0 := by first | exact nx_b0 (by assumption) (by assumption) | exact nx_s0 (by assumption) (by assumption) | (exfalso; omega)
          replace ou : Own eI H22 u (fillL c (nxG rnd b s r c l) (r.toNat * c.toNat) (i * c.toNat + (k + 1))) := by rw [← Nat.add_assoc, ← fillL_skip (c := c) (g := nxG rnd b s r c l) (i := (i : Int)) (k := (k : Int)) (by omega) (by omega) (by omega) (cast_ix (by omega)) eG]; exact ou
          exact nxt (c.toNat - (k + 1)) (by omega) ⟨k + 1, rfl, by omega, g0L20, g1L20, g2L20, g6L20, g7L20, g8L20, (congrArg (Value.int .i64) (by first | omega | rfl | (simp; done))), op1, ou, op8, lE⟩
    · skip
      have tk := hg21
      rw [show i * c.toNat + k = (i + 1) * c.toNat by rw [Nat.add_mul, Nat.one_mul]; omega] at ou
      exact hJ19 _ _ ⟨g0L20, g1L20, g2L20, g6L20, g7L20, g8L20, op1, ou, op8, lE⟩
  · skip
    have ti := hg18
    rw [fillL_end (by rw [show i = r.toNat by omega]; exact Nat.le_refl _)] at ou
    exact hJ14 _ _ ⟨g6L17, g7L17, op1, ou, op8, lE⟩
theorem C.spec_l04Run {w p vb vs vc : Value} {st r c : Int} {rnd : Bool} {b : List Int} {s : List Int} {l : List Int}  {H : Hp} {K : Value → Hp → Prop} (hw0 : Cel H w [vb, vs]) (hp0 : Cel H p [(.int .i64 (r)), (.int .i64 (c)), vc]) (hvb0 : Sl eI H vb b) (hvs0 : Sl eI H vs s) (hvc0 : Sl eI H vc l) (hf : fieldN 1 r c l) (kb : b.length ≤ 9223372036854775807) (ks : s.length ≤ 9223372036854775807) (st0 : 0 ≤ st) (st1 : st ≤ 1000)
    (hk : ∀ u1 H', Own eI H' u1 (rnL rnd b s r c l st.toNat) → Nw H u1 → Le H H' → K (.agg #[(.int .i64 (r)), (.int .i64 (c)), u1]) H') : HT prg I.spec_l04Run [w, p, (.bool (rnd)), (.int .i64 (st))].toArray H K := by
  have lE := Le.refl H
  have hw := hw0
  have hp := hp0
  have hvb := hvb0
  have hvs := hvs0
  have hvc := hvc0
  refine R.spec_l04Run ?_
  unfold F.spec_l04Run
  have l1 := fieldN_len hf
  refine nw_i (fun p1 H2 op1 nn3 le4 => ?_)
  have np1 : Nw H p1 := nn3.le lE
  replace hw := hw.le le4
  replace hp := hp.le le4
  replace hvb := hvb.le le4
  replace hvs := hvs.le le4
  replace hvc := hvc.le le4
  replace lE := lE.trans le4
  replace op1 : Cel H2 p1 [(.int .i64 (0)), (.int .i64 (0)), (.slice none 0 0)] := op1
  refine C.spec_l04Own hp hvc (by first | omega | assumption) (fun  u7 H5 ou7 nn8  le6 => ?_)
  have ap1Xu7 : Apart p1 u7 := op1.apart nn8
  have nu7 : Nw H u7 := nn8.le lE
  replace op1 := op1.le le6
  replace hw := hw.le le6
  replace hp := hp.le le6
  replace hvb := hvb.le le6
  replace hvs := hvs.le le6
  replace hvc := hvc.le le6
  replace lE := lE.trans le6
  refine nw_i (fun q H9 oq nn10 le11 => ?_)
  have ap1Xq : Apart p1 q := op1.apart nn10
  have au7Xq : Apart u7 q := ou7.apart nn10
  have nq : Nw H q := nn10.le lE
  replace op1 := op1.le le11
  replace ou7 := ou7.le le11
  replace hw := hw.le le11
  replace hp := hp.le le11
  replace hvb := hvb.le le11
  replace hvs := hvs.le le11
  replace hvc := hvc.le le11
  replace lE := lE.trans le11
  replace oq : Cel H9 q [(.int .i64 (0)), (.int .i64 (0)), (.slice none 0 0)] := oq
  refine oq.stn (ws := [(.int .i64 (r)), (.int .i64 (c)), u7]) rfl rfl (oc1 rfl (oc1 rfl (oc1 ou7.one oc0))) (fun H12 oq off13 => ?_)
  replace op1 := op1.off off13 ap1Xq
  replace ou7 := ou7.off off13 au7Xq
  replace hw := hw0.le (off13.le lE nq)
  replace hp := hp0.le (off13.le lE nq)
  replace hvb := hvb0.le (off13.le lE nq)
  replace hvs := hvs0.le (off13.le lE nq)
  replace hvc := hvc0.le (off13.le lE nq)
  replace lE := off13.le lE nq
  replace oq : Cel H12 q [(.int .i64 (r)), (.int .i64 (c)), u7] := oq
  refine jn_i (fun σ' H' => ∃ u, σ' 8 = p1 ∧ σ' 9 = q ∧ Cel H' p1 [(.int .i64 (0)), (.int .i64 (0)), (.slice none 0 0)] ∧ Cel H' q [(.int .i64 (r)), (.int .i64 (c)), u] ∧ Own eI H' u (rnL rnd b s r c l st.toNat) ∧ Nw H u ∧ Apart p1 u ∧ Apart q u ∧ Le H H') (fun σ14 H14 hP => ?_) (fun J14 hJ14 => ?_)
  · skip
    obtain ⟨u, g8L14, g9L14, op1, oq, ou, nu, ap1Xu, aqXu, lE⟩ := hP
    have hw := hw0.le lE
    have hp := hp0.le lE
    have hvb := hvb0.le lE
    have hvs := hvs0.le lE
    have hvc := hvc0.le lE
    try simp only [g8L14, g9L14]
    refine ob_i (oq.ldn rfl) ?_
    refine op1.stn (ws := [(.int .i64 (r)), (.int .i64 (c)), u]) rfl rfl (oc1 rfl (oc1 rfl (oc1 ou.one oc0))) (fun H15 op1 off16 => ?_)
    replace oq := oq.off off16 ap1Xq.symm
    replace ou := ou.off off16 ap1Xu.symm
    replace hw := hw0.le (off16.le lE np1)
    replace hp := hp0.le (off16.le lE np1)
    replace hvb := hvb0.le (off16.le lE np1)
    replace hvs := hvs0.le (off16.le lE np1)
    replace hvc := hvc0.le (off16.le lE np1)
    replace lE := off16.le lE np1
    replace op1 : Cel H15 p1 [(.int .i64 (r)), (.int .i64 (c)), u] := op1
    refine ob_i (op1.ldn rfl) ?_
    skip
    exact hk  u _ ou nu  lE
  refine ⟨fun n' σ' H' => ∃ i : Nat, n' = st.toNat - i ∧ i ≤ st.toNat ∧ ∃ u, σ' 0 = w ∧ σ' 2 = (.bool (rnd)) ∧ σ' 3 = (.int .i64 (st - (i : Int))) ∧ σ' 8 = p1 ∧ σ' 9 = q ∧ Cel H' p1 [(.int .i64 (0)), (.int .i64 (0)), (.slice none 0 0)] ∧ Cel H' q [(.int .i64 (r)), (.int .i64 (c)), u] ∧ Own eI H' u (rnL rnd b s r c l i) ∧ Nw H u ∧ Apart p1 u ∧ Apart q u ∧ Le H H',
    ⟨_, 0, rfl, by omega, u7, rfl, rfl, (congrArg (Value.int .i64) (by first | omega | rfl | (simp; done))), rfl, rfl, op1, oq, (Own.cast (by first | rfl | (simp; done)) ou7), nu7, ap1Xu7, au7Xq.symm, lE⟩, ?_⟩
  rintro n17 σ17 H17 ⟨i, rfl, hiN, u, g0L17, g2L17, g3L17, g8L17, g9L17, op1, oq, ou, nu, ap1Xu, aqXu, lE⟩
  have hw := hw0.le lE
  have hp := hp0.le lE
  have hvb := hvb0.le lE
  have hvs := hvs0.le lE
  have hvc := hvc0.le lE
  try simp only [g0L17, g2L17, g3L17, g8L17, g9L17]
  have hfi : fieldN 1 r c (rnL rnd b s r c l i) := rnL_field hf i
  have hli := fieldN_len hfi
  have hfn : fieldN 1 r c (nxL rnd b s r c (rnL rnd b s r c l i)) := nxL_field hf.1
  have hln := fieldN_len hfn
  refine ob_i (vInt_gtr _ _ _) ?_
  refine cnd_d (fun hg18 => ?_) (fun hg18 => ?_)
  · skip
    have ti := hg18
    refine C.spec_l04Next hw oq hvb hvs ou.sl (by first | omega | assumption) (by first | omega | assumption) (by first | omega | assumption) (fun  u21 H19 ou21 nn22  le20 => ?_)
    have ap1Xu21 : Apart p1 u21 := op1.apart nn22
    have aqXu21 : Apart q u21 := oq.apart nn22
    have auXu21 : Apart u u21 := ou.apart nn22
    have nu21 : Nw H u21 := nn22.le lE
    replace op1 := op1.le le20
    replace oq := oq.le le20
    replace ou := ou.le le20
    replace hw := hw.le le20
    replace hp := hp.le le20
    replace hvb := hvb.le le20
    replace hvs := hvs.le le20
    replace hvc := hvc.le le20
    replace lE := lE.trans le20
    refine oq.stn (ws := [(.int .i64 (r)), (.int .i64 (c)), u21]) rfl rfl (oc1 rfl (oc1 rfl (oc1 ou21.one oc0))) (fun H23 oq off24 => ?_)
    replace op1 := op1.off off24 ap1Xq
    replace ou := ou.off off24 aqXu.symm
    replace ou21 := ou21.off off24 aqXu21.symm
    replace hw := hw0.le (off24.le lE nq)
    replace hp := hp0.le (off24.le lE nq)
    replace hvb := hvb0.le (off24.le lE nq)
    replace hvs := hvs0.le (off24.le lE nq)
    replace hvc := hvc0.le (off24.le lE nq)
    replace lE := off24.le lE nq
    replace oq : Cel H23 q [(.int .i64 (r)), (.int .i64 (c)), u21] := oq
    refine ob_i (vInt_sub (by omega) (by omega)) ?_
    exact nxt (st.toNat - (i + 1)) (by omega) ⟨i + 1, rfl, by omega, u21, g0L17, g2L17, (congrArg (Value.int .i64) (by first | omega | rfl | (simp; done))), g8L17, g9L17, op1, oq, ou21, nu21, ap1Xu21, aqXu21, lE⟩
  · skip
    have ti := hg18
    rw [show i = st.toNat by omega] at ou
    exact hJ14 _ _ ⟨u, g8L17, g9L17, op1, oq, ou, nu, ap1Xu, aqXu, lE⟩
theorem C.impl_Life_run {vb vs vc : Value} {r c st : Int} {rnd : Bool} {b : List Int} {s : List Int} {l : List Int}  {H : Hp} {K : Value → Hp → Prop} (hvb0 : Sl eI H vb b) (hvs0 : Sl eI H vs s) (hvc0 : Sl eI H vc l) (hf : fieldN 1 r c l) (kb : b.length ≤ 9223372036854775807) (ks : s.length ≤ 9223372036854775807) (st0 : 0 ≤ st) (st1 : st ≤ 1000)
    (hk : ∀ u1 H', Own eI H' u1 (rnL rnd b s r c l st.toNat) → Nw H u1 → Le H H' → K (.agg #[(.int .i64 (r)), (.int .i64 (c)), u1]) H') : HT prg I.impl_Life_run [(.agg #[vb, vs]), (.agg #[(.int .i64 (r)), (.int .i64 (c)), vc]), (.bool (rnd)), (.int .i64 (st))].toArray H K := by
  have lE := Le.refl H
  have hvb := hvb0
  have hvs := hvs0
  have hvc := hvc0
  refine R.impl_Life_run ?_
  unfold F.impl_Life_run
  have l1 := fieldN_len hf
  refine nw_i (fun p1 H2 op1 nn3 le4 => ?_)
  have np1 : Nw H p1 := nn3.le lE
  replace hvb := hvb.le le4
  replace hvs := hvs.le le4
  replace hvc := hvc.le le4
  replace lE := lE.trans le4
  replace op1 : Cel H2 p1 [vb, vs] := op1
  refine nw_i (fun q H5 oq nn6 le7 => ?_)
  have ap1Xq : Apart p1 q := op1.apart nn6
  have nq : Nw H q := nn6.le lE
  replace op1 := op1.le le7
  replace hvb := hvb.le le7
  replace hvs := hvs.le le7
  replace hvc := hvc.le le7
  replace lE := lE.trans le7
  replace oq : Cel H5 q [(.int .i64 (r)), (.int .i64 (c)), vc] := oq
  refine nw_i (fun p8 H9 op8 nn10 le11 => ?_)
  have ap1Xp8 : Apart p1 p8 := op1.apart nn10
  have aqXp8 : Apart q p8 := oq.apart nn10
  have np8 : Nw H p8 := nn10.le lE
  replace op1 := op1.le le11
  replace oq := oq.le le11
  replace hvb := hvb.le le11
  replace hvs := hvs.le le11
  replace hvc := hvc.le le11
  replace lE := lE.trans le11
  replace op8 : Cel H9 p8 [(.int .i64 (0)), (.int .i64 (0)), (.slice none 0 0)] := op8
  refine ob_i (oq.ldn rfl) ?_
  refine C.impl_copyField hvc (by first | omega | assumption) (fun  u14 H12 ou14 nn15  le13 => ?_)
  have ap1Xu14 : Apart p1 u14 := op1.apart nn15
  have aqXu14 : Apart q u14 := oq.apart nn15
  have ap8Xu14 : Apart p8 u14 := op8.apart nn15
  have nu14 : Nw H u14 := nn15.le lE
  replace op1 := op1.le le13
  replace oq := oq.le le13
  replace op8 := op8.le le13
  replace hvb := hvb.le le13
  replace hvs := hvs.le le13
  replace hvc := hvc.le le13
  replace lE := lE.trans le13
  refine oq.stn (ws := [(.int .i64 (r)), (.int .i64 (c)), u14]) rfl rfl (oc1 rfl (oc1 rfl (oc1 ou14.one oc0))) (fun H16 oq off17 => ?_)
  replace op1 := op1.off off17 ap1Xq
  replace op8 := op8.off off17 aqXp8.symm
  replace ou14 := ou14.off off17 aqXu14.symm
  replace hvb := hvb0.le (off17.le lE nq)
  replace hvs := hvs0.le (off17.le lE nq)
  replace hvc := hvc0.le (off17.le lE nq)
  replace lE := off17.le lE nq
  replace oq : Cel H16 q [(.int .i64 (r)), (.int .i64 (c)), u14] := oq
  refine jn_i (fun σ' H' => ∃ u, σ' 5 = q ∧ σ' 8 = p8 ∧ Cel H' p1 [vb, vs] ∧ Cel H' q [(.int .i64 (r)), (.int .i64 (c)), u] ∧ Cel H' p8 [(.int .i64 (0)), (.int .i64 (0)), (.slice none 0 0)] ∧ Own eI H' u (rnL rnd b s r c l st.toNat) ∧ Nw H u ∧ Apart p1 u ∧ Apart q u ∧ Apart p8 u ∧ Le H H') (fun σ18 H18 hP => ?_) (fun J18 hJ18 => ?_)
  · skip
    obtain ⟨u, g5L18, g8L18, op1, oq, op8, ou, nu, ap1Xu, aqXu, ap8Xu, lE⟩ := hP
    have hvb := hvb0.le lE
    have hvs := hvs0.le lE
    have hvc := hvc0.le lE
    try simp only [g5L18, g8L18]
    refine ob_i (oq.ldn rfl) ?_
    refine op8.stn (ws := [(.int .i64 (r)), (.int .i64 (c)), u]) rfl rfl (oc1 rfl (oc1 rfl (oc1 ou.one oc0))) (fun H19 op8 off20 => ?_)
    replace op1 := op1.off off20 ap1Xp8
    replace oq := oq.off off20 aqXp8
    replace ou := ou.off off20 ap8Xu.symm
    replace hvb := hvb0.le (off20.le lE np8)
    replace hvs := hvs0.le (off20.le lE np8)
    replace hvc := hvc0.le (off20.le lE np8)
    replace lE := off20.le lE np8
    replace op8 : Cel H19 p8 [(.int .i64 (r)), (.int .i64 (c)), u] := op8
    refine ob_i (op8.ldn rfl) ?_
    skip
    exact hk  u _ ou nu  lE
  refine ⟨fun n' σ' H' => ∃ i : Nat, n' = st.toNat - i ∧ i ≤ st.toNat ∧ ∃ u, σ' 2 = (.bool (rnd)) ∧ σ' 4 = p1 ∧ σ' 5 = q ∧ σ' 8 = p8 ∧ σ' 11 = (.int .i64 (st)) ∧ σ' 12 = (.int .i64 ((i : Int))) ∧ Cel H' p1 [vb, vs] ∧ Cel H' q [(.int .i64 (r)), (.int .i64 (c)), u] ∧ Cel H' p8 [(.int .i64 (0)), (.int .i64 (0)), (.slice none 0 0)] ∧ Own eI H' u (rnL rnd b s r c l i) ∧ Nw H u ∧ Apart p1 u ∧ Apart q u ∧ Apart p8 u ∧ Le H H',
    ⟨_, 0, rfl, by omega, u14, rfl, rfl, rfl, rfl, rfl, (congrArg (Value.int .i64) (by first | omega | rfl | (simp; done))), op1, oq, op8, (Own.cast (by first | rfl | (simp; done)) ou14), nu14, ap1Xu14, aqXu14, ap8Xu14, lE⟩, ?_⟩
  rintro n21 σ21 H21 ⟨i, rfl, hiN, u, g2L21, g4L21, g5L21, g8L21, g11L21, g12L21, op1, oq, op8, ou, nu, ap1Xu, aqXu, ap8Xu, lE⟩
  have hvb := hvb0.le lE
  have hvs := hvs0.le lE
  have hvc := hvc0.le lE
  try simp only [g2L21, g4L21, g5L21, g8L21, g11L21, g12L21]
  have hfi : fieldN 1 r c (rnL rnd b s r c l i) := rnL_field hf i
  have hli := fieldN_len hfi
  have hfn : fieldN 1 r c (nxL rnd b s r c (rnL rnd b s r c l i)) := nxL_field hf.1
  have hln := fieldN_len hfn
  refine ob_i (vInt_lss _ _ _) ?_
  refine cnd_d (fun hg22 => ?_) (fun hg22 => ?_)
  · skip
    have ti := hg22
    refine ob_i (op1.ldn rfl) ?_
    refine ob_i (oq.ldn rfl) ?_
    refine C.impl_Life_step hvb hvs ou.sl (by first | omega | assumption) (by first | omega | assumption) (by first | omega | assumption) (fun  u25 H23 ou25 nn26  le24 => ?_)
    have ap1Xu25 : Apart p1 u25 := op1.apart nn26
    have aqXu25 : Apart q u25 := oq.apart nn26
    have ap8Xu25 : Apart p8 u25 := op8.apart nn26
    have auXu25 : Apart u u25 := ou.apart nn26
    have nu25 : Nw H u25 := nn26.le lE
    replace op1 := op1.le le24
    replace oq := oq.le le24
    replace op8 := op8.le le24
    replace ou := ou.le le24
    replace hvb := hvb.le le24
    replace hvs := hvs.le le24
    replace hvc := hvc.le le24
    replace lE := lE.trans le24
    refine oq.stn (ws := [(.int .i64 (r)), (.int .i64 (c)), u25]) rfl rfl (oc1 rfl (oc1 rfl (oc1 ou25.one oc0))) (fun H27 oq off28 => ?_)
    replace op1 := op1.off off28 ap1Xq
    replace op8 := op8.off off28 aqXp8.symm
    replace ou := ou.off off28 aqXu.symm
    replace ou25 := ou25.off off28 aqXu25.symm
    replace hvb := hvb0.le (off28.le lE nq)
    replace hvs := hvs0.le (off28.le lE nq)
    replace hvc := hvc0.le (off28.le lE nq)
    replace lE := off28.le lE nq
    replace oq : Cel H27 q [(.int .i64 (r)), (.int .i64 (c)), u25] := oq
    refine ob_i (vInt_add (by omega) (by omega)) ?_
    exact nxt (st.toNat - (i + 1)) (by omega) ⟨i + 1, rfl, by omega, u25, g2L21, g4L21, g5L21, g8L21, g11L21, (congrArg (Value.int .i64) (by first | omega | rfl | (simp; done))), op1, oq, op8, ou25, nu25, ap1Xu25, aqXu25, ap8Xu25, lE⟩
  · skip
    have ti := hg22
    rw [show i = st.toNat by omega] at ou
    exact hJ18 _ _ ⟨u, g5L21, g8L21, op1, oq, op8, ou, nu, ap1Xu, aqXu, ap8Xu, lE⟩
def runP (b s : List Int) (r c : Int) (l : List Int) (n : Int) : Prop := canP b s r c l ∧ 0 ≤ n ∧ n ≤ 512
instance (b s : List Int) (r c : Int) (l : List Int) (n : Int) : Decidable (runP b s r c l n) := by unfold runP; infer_instance
end Go.Proofs.YtffmfkpobjdmmaaGreatDoor
/- Counts ahead, inner steps. -/
namespace Go.Proofs.YtffmfkpobjdmmaaGreatDoor
open HL
set_option maxRecDepth 100000
end Go.Proofs.YtffmfkpobjdmmaaGreatDoor
/- Fields that are still, and those that lead to one. -/
namespace Go.Proofs.YtffmfkpobjdmmaaGreatDoor
open HL
set_option maxRecDepth 100000
end Go.Proofs.YtffmfkpobjdmmaaGreatDoor
/- Patterns that come again elsewhere: the program's and the reference's. -/
namespace Go.Proofs.YtffmfkpobjdmmaaGreatDoor
open HL
set_option maxRecDepth 100000
end Go.Proofs.YtffmfkpobjdmmaaGreatDoor
/- Fields that are drawn, and what they become. -/
namespace Go.Proofs.YtffmfkpobjdmmaaGreatDoor
open HL
set_option maxRecDepth 100000
theorem C.impl_isShare {sh : Nat} {H : Hp} {K : Value → Hp → Prop}
    (hk : ∀ H', Le H H' → K (.bool (decide (shrP sh))) H') : HT prg I.impl_isShare [(.float .f32 sh)].toArray H K := by
  have lE := Le.refl H
  refine R.impl_isShare ?_
  unfold F.impl_isShare
  refine ob_i (vF_geq _ _) ?_
  by_cases hc1 : (fGe sh 0) = true
  · skip
    refine gop_e (hc1) ?_
    refine gop_rt ?_
    refine gop_e (hc1) ?_
    refine gop_rt ?_
    refine ob_i (vF_leq _ _) ?_
    refine ob_i (vPick_et (hc1) _ _) ?_
    skip
    exact keq (K := K) (by rw [show (fLe sh 1065353216) = decide (shrP sh) from by rw [Bool.eq_iff_iff, decide_eq_true_eq]; exact ⟨fun h => ⟨by assumption, h⟩, fun h => h.2⟩]) (hk   _    lE)
  · skip
    refine gop_e (eq_false_of_ne_true hc1) ?_
    refine gop_sf ?_
    refine gop_e (eq_false_of_ne_true hc1) ?_
    refine gop_sf ?_
    refine ob_i (vPick_ef (eq_false_of_ne_true hc1) _ _) ?_
    skip
    exact keq (K := K) (by rw [decide_eq_false (show ¬ (shrP sh) from by exact fun h => by have := h.1; simp_all)]) (hk   _    lE)
theorem C.spec_l02Share {sh : Nat} {H : Hp} {K : Value → Hp → Prop}
    (hk : ∀ H', Le H H' → K (.bool (decide (shrP sh))) H') : HT prg I.spec_l02Share [(.float .f32 sh)].toArray H K := by
  have lE := Le.refl H
  refine R.spec_l02Share ?_
  unfold F.spec_l02Share
  refine ob_i (vF_geq _ _) ?_
  by_cases hc1 : (fGe sh 0) = true
  · skip
    refine gop_e (hc1) ?_
    refine gop_rt ?_
    refine gop_e (hc1) ?_
    refine gop_rt ?_
    refine ob_i (vF_leq _ _) ?_
    refine ob_i (vPick_et (hc1) _ _) ?_
    skip
    exact keq (K := K) (by rw [show (fLe sh 1065353216) = decide (shrP sh) from by rw [Bool.eq_iff_iff, decide_eq_true_eq]; exact ⟨fun h => ⟨by assumption, h⟩, fun h => h.2⟩]) (hk   _    lE)
  · skip
    refine gop_e (eq_false_of_ne_true hc1) ?_
    refine gop_sf ?_
    refine gop_e (eq_false_of_ne_true hc1) ?_
    refine gop_sf ?_
    refine ob_i (vPick_ef (eq_false_of_ne_true hc1) _ _) ?_
    skip
    exact keq (K := K) (by rw [decide_eq_false (show ¬ (shrP sh) from by exact fun h => by have := h.1; simp_all)]) (hk   _    lE)
theorem C.impl_isSeed {x : Int}  {H : Hp} {K : Value → Hp → Prop}
    (hk : ∀ H', Le H H' → K (.bool (decide (0 ≤ x ∧ x ≤ 4294967295))) H') : HT prg I.impl_isSeed [(.int .i64 (x))].toArray H K := by
  have lE := Le.refl H
  refine R.impl_isSeed ?_
  unfold F.impl_isSeed
  refine C.impl_within  ?_
  skip
  exact hk   _    lE
theorem C.spec_l04Sides {r c : Int}  {H : Hp} {K : Value → Hp → Prop}
    (hk : ∀ H', Le H H' → K (.bool (decide ((1 ≤ r ∧ r ≤ 24) ∧ 1 ≤ c ∧ c ≤ 24))) H') : HT prg I.spec_l04Sides [(.int .i64 (r)), (.int .i64 (c))].toArray H K := by
  have lE := Le.refl H
  refine R.spec_l04Sides ?_
  unfold F.spec_l04Sides
  refine C.spec_l00In  ?_
  by_cases hc1 : 1 ≤ r ∧ r ≤ 24
  · skip
    refine gop_e (decide_eq_true hc1) ?_
    refine gop_rt ?_
    refine gop_e (decide_eq_true hc1) ?_
    refine gop_rt ?_
    refine C.spec_l00In  ?_
    refine ob_i (vPick_et (decide_eq_true hc1) _ _) ?_
    skip
    exact keq (K := K) (by rw [show decide (1 ≤ c ∧ c ≤ 24) = decide ((1 ≤ r ∧ r ≤ 24) ∧ 1 ≤ c ∧ c ≤ 24) from decide_eq_decide.mpr (by exact ⟨fun h => ⟨by assumption, h⟩, fun h => h.2⟩)]) (hk   _    lE)
  · skip
    refine gop_e (decide_eq_false hc1) ?_
    refine gop_sf ?_
    refine gop_e (decide_eq_false hc1) ?_
    refine gop_sf ?_
    refine ob_i (vPick_ef (decide_eq_false hc1) _ _) ?_
    skip
    exact keq (K := K) (by rw [decide_eq_false (show ¬ ((1 ≤ r ∧ r ≤ 24) ∧ 1 ≤ c ∧ c ≤ 24) from by exact fun h => absurd h.1 (by assumption))]) (hk   _    lE)
theorem C.impl_nextSeed {x : Int}  {H : Hp} {K : Value → Hp → Prop} (x0 : 0 ≤ x) (x1 : x ≤ 4294967295)
    (hk : K (.int .i64 (nxS x)) H) : HT prg I.impl_nextSeed [(.int .i64 (x))].toArray H K := by
  have lE := Le.refl H
  refine R.impl_nextSeed ?_
  unfold F.impl_nextSeed
  refine ob_i (vInt_mul (by omega) (by omega)) ?_
  refine ob_i (vInt_add (by omega) (by omega)) ?_
  refine ob_i (vInt_remN (by omega) (by omega)) ?_
  skip
  exact keq (K := K) (by rw [show ((((1664525 * x) + 1013904223) % 4294967296) : Int) = (nxS x) from by rfl]) (hk )
theorem C.spec_DrawField {r c x : Int} {sh : Nat} {H : Hp} {K : Value → Hp → Prop}
    (hk1 : ¬ drP r c x sh → ∀ H', Le H H' → K (.tuple #[(.agg #[(.int .i64 (0)), (.int .i64 (0)), (.slice none 0 0)]), (.int .i64 (0)), (.bool false)]) H')
    (hk2 : drP r c x sh → ∀ u1 H', Own eI H' u1 (drL r c x sh) → Nw H u1 → Le H H' → K (.tuple #[(.agg #[(.int .i64 (r)), (.int .i64 (c)), u1]), (.int .i64 (sdS x (r.toNat * c.toNat))), (.bool true)]) H') : HT prg I.spec_DrawField [(.int .i64 (r)), (.int .i64 (c)), (.float .f32 sh), (.int .i64 (x))].toArray H K := by
  have lE := Le.refl H
  refine R.spec_DrawField ?_
  unfold F.spec_DrawField
  refine nw_i (fun p1 H2 op1 nn3 le4 => ?_)
  have np1 : Nw H p1 := nn3.le lE
  replace lE := lE.trans le4
  replace op1 : Cel H2 p1 [(.int .i64 (0)), (.int .i64 (0)), (.slice none 0 0)] := op1
  refine C.spec_l04Sides  (fun   H5    le6 => ?_)
  replace op1 := op1.le le6
  replace lE := lE.trans le6
  refine ob_nd (fun hc7 => ?_) (fun hc7 => ?_)
  · skip
    have hs : sidesF r c := hc7
    have qm := sidesF_mul hs
    have q1 := hs.1
    have q2 := hs.2
    have qc : ((r.toNat * c.toNat : Nat) : Int) = r * c := by rw [← Int.toNat_mul (by omega) (by omega)]; omega
    refine gop_rf ?_
    refine gop_rf ?_
    refine C.spec_l02Share  (fun   H8    le9 => ?_)
    replace op1 := op1.le le9
    replace lE := lE.trans le9
    refine gop_rf ?_
    refine ob_nd (fun hc10 => ?_) (fun hc10 => ?_)
    · skip
      refine ob_i (vPick_f _ _) ?_
      refine gop_rf ?_
      refine gop_rf ?_
      refine C.spec_l00In  ?_
      refine gop_rf ?_
      refine ob_nd (fun hc11 => ?_) (fun hc11 => ?_)
      · skip
        have sb := sdS_bnd (x := x) (by omega) (by omega)
        refine ob_i (vPick_f _ _) ?_
        refine cnd_f1 ?_
        refine C.spec_l04New (by first | omega | assumption) (by first | omega | assumption) (by first | omega | assumption) (by first | omega | assumption) (fun  u14 H12 ou14 nn15  le13 => ?_)
        have ap1Xu14 : Apart p1 u14 := op1.apart nn15
        have nu14 : Nw H u14 := nn15.le lE
        replace op1 := op1.le le13
        replace lE := lE.trans le13
        refine nw_i (fun q H16 oq nn17 le18 => ?_)
        have ap1Xq : Apart p1 q := op1.apart nn17
        have au14Xq : Apart u14 q := ou14.apart nn17
        have nq : Nw H q := nn17.le lE
        replace op1 := op1.le le18
        replace ou14 := ou14.le le18
        replace lE := lE.trans le18
        replace oq : Cel H16 q [(.int .i64 (0)), (.int .i64 (0)), (.slice none 0 0)] := oq
        refine oq.stn (ws := [(.int .i64 (r)), (.int .i64 (c)), u14]) rfl rfl (oc1 rfl (oc1 rfl (oc1 ou14.one oc0))) (fun H19 oq off20 => ?_)
        replace op1 := op1.off off20 ap1Xq
        replace ou14 := ou14.off off20 au14Xq
        replace lE := off20.le lE nq
        replace oq : Cel H19 q [(.int .i64 (r)), (.int .i64 (c)), u14] := oq
        refine jn_i (fun σ' H' => ∃ u, σ' 3 = (.int .i64 (sdS x (r.toNat * c.toNat))) ∧ σ' 8 = p1 ∧ σ' 11 = q ∧ Cel H' p1 [(.int .i64 (0)), (.int .i64 (0)), (.slice none 0 0)] ∧ Cel H' q [(.int .i64 (r)), (.int .i64 (c)), u] ∧ Own eI H' u (drL r c x sh) ∧ Nw H u ∧ Apart p1 u ∧ Apart q u ∧ Le H H') (fun σ21 H21 hP => ?_) (fun J21 hJ21 => ?_)
        · skip
          obtain ⟨u, g3L21, g8L21, g11L21, op1, oq, ou, nu, ap1Xu, aqXu, lE⟩ := hP
          try simp only [g3L21, g8L21, g11L21]
          refine ob_i (oq.ldn rfl) ?_
          refine op1.stn (ws := [(.int .i64 (r)), (.int .i64 (c)), u]) rfl rfl (oc1 rfl (oc1 rfl (oc1 ou.one oc0))) (fun H22 op1 off23 => ?_)
          replace oq := oq.off off23 ap1Xq.symm
          replace ou := ou.off off23 ap1Xu.symm
          replace lE := off23.le lE np1
          replace op1 : Cel H22 p1 [(.int .i64 (r)), (.int .i64 (c)), u] := op1
          refine ob_i (op1.ldn rfl) ?_
          skip
          exact hk2 (by exact ⟨hs, by assumption, by omega⟩) u _ ou nu  lE
        refine ⟨fun n' σ' H' => ∃ i : Nat, n' = (r.toNat * c.toNat) - i ∧ i ≤ (r.toNat * c.toNat) ∧ ∃ u, σ' 2 = (.float .f32 sh) ∧ σ' 3 = (.int .i64 (sdS x i)) ∧ σ' 8 = p1 ∧ σ' 11 = q ∧ σ' 12 = (.int .i64 ((i : Int))) ∧ Cel H' p1 [(.int .i64 (0)), (.int .i64 (0)), (.slice none 0 0)] ∧ Cel H' q [(.int .i64 (r)), (.int .i64 (c)), u] ∧ Own eI H' u (fillL c (drG c x sh) (r.toNat * c.toNat) i) ∧ Nw H u ∧ Apart p1 u ∧ Apart q u ∧ Le H H',
          ⟨_, 0, rfl, by omega, u14, rfl, (congrArg (Value.int .i64) (by first | omega | rfl | (simp; done))), rfl, rfl, (congrArg (Value.int .i64) (by first | omega | rfl | (simp; done))), op1, oq, (Own.cast (by exact (fillL_zero _ _ _).symm) ou14), nu14, ap1Xu14, au14Xq.symm, lE⟩, ?_⟩
        rintro n24 σ24 H24 ⟨i, rfl, hiN, u, g2L24, g3L24, g8L24, g11L24, g12L24, op1, oq, ou, nu, ap1Xu, aqXu, lE⟩
        try simp only [g2L24, g3L24, g8L24, g11L24, g12L24]
        have si := sb i
        have fl := fillL_length c (drG c x sh) (r.toNat * c.toNat) i
        refine ob_i (oq.fa 2) ?_
        refine ob_i (oq.ld 2 rfl) ?_
        refine ob_i (ou.len) ?_
        refine ob_i (vInt_lss _ _ _) ?_
        refine cnd_d (fun hg25 => ?_) (fun hg25 => ?_)
        · skip
          have ti := hg25
          refine ob_i (vInt_mul (by omega) (by omega)) ?_
          refine ob_i (vInt_add (by omega) (by omega)) ?_
          refine ob_i (vInt_remN (by omega) (by omega)) ?_
          refine ob_i (vInt_quoN (by omega) (by omega) (by omega)) ?_
          refine ob_i (a := (.float .f32 (FloatKind.nearest .f32 ((((1664525 * (sdS x i)) + 1013904223) % 4294967296) / 256)))) rfl ?_
          refine fA_i (o := (FloatKind.f32.format.div (FloatKind.nearest .f32 ((((1664525 * (sdS x i)) + 1013904223) % 4294967296) / 256)) 1266679808)) rfl (fun t => nan_bits32 _ _ t) (fun z26 hz26 => ?_)
          refine ob_i (vF_lss _ _) ?_
          refine cnd_i (fun hg27 => ?_) (fun hg27 => ?_)
          · skip
            refine ob_i (oq.fa 2) ?_
            refine ob_i (oq.ld 2 rfl) ?_
            refine ob_i (ou.sl.ix (by omega) (by omega)) ?_
            refine ou.st (x := 1) (by omega) (by omega) rfl rfl (fun H28 ou off29 => ?_)
            replace op1 := op1.off off29 ap1Xu
            replace oq := oq.off off29 aqXu
            replace lE := off29.le lE nu
            refine ob_i (vInt_add (by omega) (by omega)) ?_
            have eB : fLt z26 sh = shB (sdS x (i + 1)) sh := fLtO_of hz26
            have eG : drG c x sh ((i : Int) / c) ((i : Int) % c) = 1 := by rw [dr_ix (by omega), if_pos (eB.symm.trans hg27)]
            replace ou : Own eI H28 u (fillL c (drG c x sh) (r.toNat * c.toNat) (i + 1)) := by have e := fillL_set1 (c := c) (g := drG c x sh) (N := (r.toNat * c.toNat)) (t := i); rw [eG] at e; rw [Int.toNat_natCast] at ou; rw [← e]; exact ou
            exact nxt ((r.toNat * c.toNat) - (i + 1)) (by omega) ⟨i + 1, rfl, by omega, u, g2L24, (congrArg (Value.int .i64) (by first | omega | rfl | (simp; done))), g8L24, g11L24, (congrArg (Value.int .i64) (by first | omega | rfl | (simp; done))), op1, oq, ou, nu, ap1Xu, aqXu, lE⟩
          · skip
            refine ob_i (vInt_add (by omega) (by omega)) ?_
            have eB : fLt z26 sh = shB (sdS x (i + 1)) sh := fLtO_of hz26
            have eG : drG c x sh ((i : Int) / c) ((i : Int) % c) = 0 := by rw [dr_ix (by omega), if_neg (by rw [← eB, hg27]; simp)]
            replace ou : Own eI H24 u (fillL c (drG c x sh) (r.toNat * c.toNat) (i + 1)) := by rw [← fillL_skip1 eG]; exact ou
            exact nxt ((r.toNat * c.toNat) - (i + 1)) (by omega) ⟨i + 1, rfl, by omega, u, g2L24, (congrArg (Value.int .i64) (by first | omega | rfl | (simp; done))), g8L24, g11L24, (congrArg (Value.int .i64) (by first | omega | rfl | (simp; done))), op1, oq, ou, nu, ap1Xu, aqXu, lE⟩
        · skip
          have ti := hg25
          obtain rfl : i = (r.toNat * c.toNat) := by omega
          rw [fillL_end (Nat.le_refl _)] at ou
          exact hJ21 _ _ ⟨u, (g3L24.trans (congrArg (Value.int .i64) (by first | omega | rfl | (simp; done)))), g8L24, g11L24, op1, oq, ou, nu, ap1Xu, aqXu, lE⟩
      · skip
        refine ob_i (vPick_f _ _) ?_
        refine cnd_t1 ?_
        refine ob_i (a := (.agg #[(.int .i64 (0)), (.int .i64 (0)), (.slice none 0 0)])) (by rfl) ?_
        refine op1.stn (ws := [(.int .i64 (0)), (.int .i64 (0)), (.slice none 0 0)]) rfl rfl (oc1 rfl (oc1 rfl (oc1 rfl oc0))) (fun H30 op1 off31 => ?_)
        replace lE := off31.le lE np1
        replace op1 : Cel H30 p1 [(.int .i64 (0)), (.int .i64 (0)), (.slice none 0 0)] := op1
        refine ob_i (op1.ldn rfl) ?_
        skip
        exact hk1 (by intro h; have h1 := h.1.1; have h2 := h.1.2; have h3 := h.2.2; first | omega | exact absurd h.2.1 (by assumption) | exact absurd (show (1 ≤ r ∧ r ≤ 24) ∧ 1 ≤ c ∧ c ≤ 24 from h.1) (by assumption))  _    lE
    · skip
      refine ob_i (vPick_f _ _) ?_
      refine gop_st ?_
      refine gop_st ?_
      refine gop_st ?_
      refine ob_i (vPick_t _ _) ?_
      refine cnd_t1 ?_
      refine ob_i (a := (.agg #[(.int .i64 (0)), (.int .i64 (0)), (.slice none 0 0)])) (by rfl) ?_
      refine op1.stn (ws := [(.int .i64 (0)), (.int .i64 (0)), (.slice none 0 0)]) rfl rfl (oc1 rfl (oc1 rfl (oc1 rfl oc0))) (fun H32 op1 off33 => ?_)
      replace lE := off33.le lE np1
      replace op1 : Cel H32 p1 [(.int .i64 (0)), (.int .i64 (0)), (.slice none 0 0)] := op1
      refine ob_i (op1.ldn rfl) ?_
      skip
      exact hk1 (by intro h; have h1 := h.1.1; have h2 := h.1.2; have h3 := h.2.2; first | omega | exact absurd h.2.1 (by assumption) | exact absurd (show (1 ≤ r ∧ r ≤ 24) ∧ 1 ≤ c ∧ c ≤ 24 from h.1) (by assumption))  _    lE
  · skip
    refine gop_st ?_
    refine gop_st ?_
    refine gop_st ?_
    refine ob_i (vPick_t _ _) ?_
    refine gop_st ?_
    refine gop_st ?_
    refine gop_st ?_
    refine ob_i (vPick_t _ _) ?_
    refine cnd_t1 ?_
    refine ob_i (a := (.agg #[(.int .i64 (0)), (.int .i64 (0)), (.slice none 0 0)])) (by rfl) ?_
    refine op1.stn (ws := [(.int .i64 (0)), (.int .i64 (0)), (.slice none 0 0)]) rfl rfl (oc1 rfl (oc1 rfl (oc1 rfl oc0))) (fun H34 op1 off35 => ?_)
    replace lE := off35.le lE np1
    replace op1 : Cel H34 p1 [(.int .i64 (0)), (.int .i64 (0)), (.slice none 0 0)] := op1
    refine ob_i (op1.ldn rfl) ?_
    skip
    exact hk1 (by intro h; have h1 := h.1.1; have h2 := h.1.2; have h3 := h.2.2; first | omega | exact absurd h.2.1 (by assumption) | exact absurd (show (1 ≤ r ∧ r ≤ 24) ∧ 1 ≤ c ∧ c ≤ 24 from h.1) (by assumption))  _    lE
theorem C.impl_DrawField {r c x : Int} {sh : Nat} {H : Hp} {K : Value → Hp → Prop}
    (hk1 : ¬ drP r c x sh → ∀ H', Le H H' → K (.tuple #[(.agg #[(.int .i64 (0)), (.int .i64 (0)), (.slice none 0 0)]), (.int .i64 (0)), (.bool false)]) H')
    (hk2 : drP r c x sh → ∀ u1 H', Own eI H' u1 (drL r c x sh) → Nw H u1 → Le H H' → K (.tuple #[(.agg #[(.int .i64 (r)), (.int .i64 (c)), u1]), (.int .i64 (sdS x (r.toNat * c.toNat))), (.bool true)]) H') : HT prg I.impl_DrawField [(.int .i64 (r)), (.int .i64 (c)), (.float .f32 sh), (.int .i64 (x))].toArray H K := by
  have lE := Le.refl H
  refine R.impl_DrawField ?_
  unfold F.impl_DrawField
  refine nw_i (fun p1 H2 op1 nn3 le4 => ?_)
  have np1 : Nw H p1 := nn3.le lE
  replace lE := lE.trans le4
  replace op1 : Cel H2 p1 [(.float .f32 sh)] := op1
  refine nw_i (fun p5 H6 op5 nn7 le8 => ?_)
  have ap1Xp5 : Apart p1 p5 := op1.apart nn7
  have np5 : Nw H p5 := nn7.le lE
  replace op1 := op1.le le8
  replace lE := lE.trans le8
  replace op5 : Cel H6 p5 [(.int .i64 (x))] := op5
  refine nw_i (fun p9 H10 op9 nn11 le12 => ?_)
  have ap1Xp9 : Apart p1 p9 := op1.apart nn11
  have ap5Xp9 : Apart p5 p9 := op5.apart nn11
  have np9 : Nw H p9 := nn11.le lE
  replace op1 := op1.le le12
  replace op5 := op5.le le12
  replace lE := lE.trans le12
  replace op9 : Cel H10 p9 [(.int .i64 (0)), (.int .i64 (0)), (.slice none 0 0)] := op9
  refine C.impl_isSide  ?_
  refine ob_nd (fun hc13 => ?_) (fun hc13 => ?_)
  · skip
    refine gop_rf ?_
    refine gop_rf ?_
    refine C.impl_isSide  ?_
    refine gop_rf ?_
    refine ob_nd (fun hc14 => ?_) (fun hc14 => ?_)
    · skip
      have hs : sidesF r c := ⟨by assumption, hc14⟩
      have qm := sidesF_mul hs
      have q1 := hs.1
      have q2 := hs.2
      have qc : ((r.toNat * c.toNat : Nat) : Int) = r * c := by rw [← Int.toNat_mul (by omega) (by omega)]; omega
      refine ob_i (vPick_f _ _) ?_
      refine gop_rf ?_
      refine ob_i (op1.ld0 rfl) ?_
      refine gop_rf ?_
      refine C.impl_isShare  (fun   H15    le16 => ?_)
      replace op1 := op1.le le16
      replace op5 := op5.le le16
      replace op9 := op9.le le16
      replace lE := lE.trans le16
      refine gop_rf ?_
      refine ob_nd (fun hc17 => ?_) (fun hc17 => ?_)
      · skip
        refine ob_i (vPick_f _ _) ?_
        refine gop_rf ?_
        refine ob_i (op5.ld0 rfl) ?_
        refine gop_rf ?_
        refine C.impl_isSeed  (fun   H18    le19 => ?_)
        replace op1 := op1.le le19
        replace op5 := op5.le le19
        replace op9 := op9.le le19
        replace lE := lE.trans le19
        refine gop_rf ?_
        refine ob_nd (fun hc20 => ?_) (fun hc20 => ?_)
        · skip
          have sb := sdS_bnd (x := x) (by omega) (by omega)
          refine ob_i (vPick_f _ _) ?_
          refine cnd_f1 ?_
          refine C.impl_madeField_cell (g := drG c x sh) (sd := sdS x) (by omega) (by omega) (by omega) (by omega) op5 (fun Ha25 i25 k25 Z ofa25 opa25 hi25 hk25 hZ => ?_) (fun u21 H22 ou21 nn23 opE25 off24 => ?_)
          · refine ⟨by kernel_rfl, ?_⟩
            replace op1 := op1.off ofa25 ap1Xp5
            replace op9 := op9.off ofa25 ap5Xp9.symm
            replace lE := ofa25.le lE np5
            have op5 := opa25
            replace op5 : Cel Ha25 p5 [(.int .i64 (sdS x (i25 * (c : Int).toNat + k25)))] := op5
            have ofq25 := Off.of_le (v := p5) (Le.refl Ha25)
            have si := sb (i25 * c.toNat + k25)
            have sj := sb (i25 * c.toNat + k25 + 1)
            have ej : sdS x (i25 * c.toNat + k25 + 1) = nxS (sdS x (i25 * c.toNat + k25)) := rfl
            refine R.impl_DrawField_1 ?_
            unfold F.impl_DrawField_1
            refine ob_i (op5.ld0 rfl) ?_
            refine C.impl_nextSeed (by first | omega | assumption) (by first | omega | assumption) ?_
            refine op5.st0 (by simp) rfl rfl (fun H26 op5 off27 => ?_)
            replace op1 := op1.off off27 ap1Xp5
            replace op9 := op9.off off27 ap5Xp9.symm
            replace lE := off27.le lE np5
            replace ofq25 := ofq25.trans off27
            replace op5 : Cel H26 p5 [(.int .i64 (nxS (sdS x (i25 * (c : Int).toNat + k25))))] := op5
            refine ob_i (op5.ld0 rfl) ?_
            refine ob_i (op1.ld0 rfl) ?_
            have lq28 := Le.refl H26
            refine R.impl_shareOf ?_
            unfold F.impl_shareOf
            refine ob_i (vInt_quoN (by omega) (by omega) (by omega)) ?_
            refine ob_i (a := (.float .f32 (FloatKind.nearest .f32 ((nxS (sdS x (i25 * (c : Int).toNat + k25))) / 256)))) rfl ?_
            refine fA_i (o := (FloatKind.f32.format.div (FloatKind.nearest .f32 ((nxS (sdS x (i25 * (c : Int).toNat + k25))) / 256)) 1266679808)) rfl (fun t => nan_bits32 _ _ t) (fun z29 hz29 => ?_)
            refine ⟨lq28, ?_⟩
            refine ob_i (vF_lss _ _) ?_
            refine C.impl_bit  ?_
            refine ⟨Le.refl _, ?_⟩
            have eN : (((i25 : Int) * c + (k25 : Int)).toNat) = i25 * c.toNat + k25 := by rw [← cast_ix (by omega)]; rfl
            have eQ : (if (fLt z29 sh) = true then 1 else 0) = drG c x sh (i25 : Int) (k25 : Int) := by unfold drG; rw [eN, show fLt z29 sh = shB (sdS x (i25 * c.toNat + k25 + 1)) sh from fLtO_of hz29]
            exact keq (K := Z) (by rw [eQ]) (hZ _ (Cel.cast (by first | rfl | simp) op5) ofq25)
          have ap1Xu21 : Apart p1 u21 := op1.apart nn23
          have ap5Xu21 : Apart p5 u21 := op5.apart nn23
          have ap9Xu21 : Apart p9 u21 := op9.apart nn23
          have nu21 : Nw H u21 := nn23.le lE
          replace op1 := op1.off off24 ap1Xp5
          replace op9 := op9.off off24 ap5Xp9.symm
          replace lE := off24.le lE np5
          have op5 := opE25
          replace op5 : Cel H22 p5 [(.int .i64 (sdS x ((r : Int).toNat * (c : Int).toNat)))] := op5
          refine nw_i (fun p30 H31 op30 nn32 le33 => ?_)
          have ap1Xp30 : Apart p1 p30 := op1.apart nn32
          have ap5Xp30 : Apart p5 p30 := op5.apart nn32
          have ap9Xp30 : Apart p9 p30 := op9.apart nn32
          have au21Xp30 : Apart u21 p30 := ou21.apart nn32
          have np30 : Nw H p30 := nn32.le lE
          replace op1 := op1.le le33
          replace op5 := op5.le le33
          replace op9 := op9.le le33
          replace ou21 := ou21.le le33
          replace lE := lE.trans le33
          replace op30 : Cel H31 p30 [(.int .i64 (0)), (.int .i64 (0)), (.slice none 0 0)] := op30
          refine op30.stn (ws := [(.int .i64 (r)), (.int .i64 (c)), u21]) rfl rfl (oc1 rfl (oc1 rfl (oc1 ou21.one oc0))) (fun H34 op30 off35 => ?_)
          replace op1 := op1.off off35 ap1Xp30
          replace op5 := op5.off off35 ap5Xp30
          replace op9 := op9.off off35 ap9Xp30
          replace ou21 := ou21.off off35 au21Xp30
          replace lE := off35.le lE np30
          replace op30 : Cel H34 p30 [(.int .i64 (r)), (.int .i64 (c)), u21] := op30
          refine ⟨?_, ?_⟩
          · skip
            refine ob_i (op30.ldn rfl) ?_
            refine ob_i (op5.ld0 rfl) ?_
            refine op9.stn (ws := [(.int .i64 (r)), (.int .i64 (c)), u21]) rfl rfl (oc1 rfl (oc1 rfl (oc1 ou21.one oc0))) (fun H36 op9 off37 => ?_)
            replace op1 := op1.off off37 ap1Xp9
            replace op5 := op5.off off37 ap5Xp9
            replace ou21 := ou21.off off37 ap9Xu21.symm
            replace op30 := op30.off off37 ap9Xp30.symm
            replace lE := off37.le lE np9
            replace op9 : Cel H36 p9 [(.int .i64 (r)), (.int .i64 (c)), u21] := op9
            refine ob_i (op9.ldn rfl) ?_
            skip
            exact keq (K := K) (by rw [show ((sdS x ((r : Int).toNat * (c : Int).toNat)) : Int) = (sdS x (r.toNat * c.toNat)) from by omega]) (hk2 (by exact ⟨hs, by assumption, by omega⟩) u21 _ (Own.cast (show mkL (c) (drG c x sh) ((r : Int).toNat * (c : Int).toNat) = drL r c x sh by first | rfl | simp) ou21) nu21  lE)
          · skip
            refine ob_i (op30.ldn rfl) ?_
            refine op9.stn (ws := [(.int .i64 (r)), (.int .i64 (c)), u21]) rfl rfl (oc1 rfl (oc1 rfl (oc1 ou21.one oc0))) (fun H38 op9 off39 => ?_)
            replace op1 := op1.off off39 ap1Xp9
            replace op5 := op5.off off39 ap5Xp9
            replace ou21 := ou21.off off39 ap9Xu21.symm
            replace op30 := op30.off off39 ap9Xp30.symm
            replace lE := off39.le lE np9
            replace op9 : Cel H38 p9 [(.int .i64 (r)), (.int .i64 (c)), u21] := op9
            refine ob_i (op5.ld0 rfl) ?_
            refine ob_i (op9.ldn rfl) ?_
            skip
            exact keq (K := K) (by rw [show ((sdS x ((r : Int).toNat * (c : Int).toNat)) : Int) = (sdS x (r.toNat * c.toNat)) from by omega]) (hk2 (by exact ⟨hs, by assumption, by omega⟩) u21 _ (Own.cast (show mkL (c) (drG c x sh) ((r : Int).toNat * (c : Int).toNat) = drL r c x sh by first | rfl | simp) ou21) nu21  lE)
        · skip
          refine ob_i (vPick_f _ _) ?_
          refine cnd_t1 ?_
          refine ob_i (a := (.agg #[(.int .i64 (0)), (.int .i64 (0)), (.slice none 0 0)])) (by rfl) ?_
          refine op9.stn (ws := [(.int .i64 (0)), (.int .i64 (0)), (.slice none 0 0)]) rfl rfl (oc1 rfl (oc1 rfl (oc1 rfl oc0))) (fun H40 op9 off41 => ?_)
          replace op1 := op1.off off41 ap1Xp9
          replace op5 := op5.off off41 ap5Xp9
          replace lE := off41.le lE np9
          replace op9 : Cel H40 p9 [(.int .i64 (0)), (.int .i64 (0)), (.slice none 0 0)] := op9
          refine ob_i (op9.ldn rfl) ?_
          skip
          exact hk1 (by intro h; have h1 := h.1.1; have h2 := h.1.2; have h3 := h.2.2; first | omega | exact absurd h.2.1 (by assumption) | exact absurd (show (1 ≤ r ∧ r ≤ 24) ∧ 1 ≤ c ∧ c ≤ 24 from h.1) (by assumption))  _    lE
      · skip
        refine ob_i (vPick_f _ _) ?_
        refine gop_st ?_
        refine gop_st ?_
        refine gop_st ?_
        refine ob_i (vPick_t _ _) ?_
        refine cnd_t1 ?_
        refine ob_i (a := (.agg #[(.int .i64 (0)), (.int .i64 (0)), (.slice none 0 0)])) (by rfl) ?_
        refine op9.stn (ws := [(.int .i64 (0)), (.int .i64 (0)), (.slice none 0 0)]) rfl rfl (oc1 rfl (oc1 rfl (oc1 rfl oc0))) (fun H42 op9 off43 => ?_)
        replace op1 := op1.off off43 ap1Xp9
        replace op5 := op5.off off43 ap5Xp9
        replace lE := off43.le lE np9
        replace op9 : Cel H42 p9 [(.int .i64 (0)), (.int .i64 (0)), (.slice none 0 0)] := op9
        refine ob_i (op9.ldn rfl) ?_
        skip
        exact hk1 (by intro h; have h1 := h.1.1; have h2 := h.1.2; have h3 := h.2.2; first | omega | exact absurd h.2.1 (by assumption) | exact absurd (show (1 ≤ r ∧ r ≤ 24) ∧ 1 ≤ c ∧ c ≤ 24 from h.1) (by assumption))  _    lE
    · skip
      refine ob_i (vPick_f _ _) ?_
      refine gop_st ?_
      refine gop_st ?_
      refine gop_st ?_
      refine ob_i (vPick_t _ _) ?_
      refine gop_st ?_
      refine gop_st ?_
      refine gop_st ?_
      refine ob_i (vPick_t _ _) ?_
      refine cnd_t1 ?_
      refine ob_i (a := (.agg #[(.int .i64 (0)), (.int .i64 (0)), (.slice none 0 0)])) (by rfl) ?_
      refine op9.stn (ws := [(.int .i64 (0)), (.int .i64 (0)), (.slice none 0 0)]) rfl rfl (oc1 rfl (oc1 rfl (oc1 rfl oc0))) (fun H44 op9 off45 => ?_)
      replace op1 := op1.off off45 ap1Xp9
      replace op5 := op5.off off45 ap5Xp9
      replace lE := off45.le lE np9
      replace op9 : Cel H44 p9 [(.int .i64 (0)), (.int .i64 (0)), (.slice none 0 0)] := op9
      refine ob_i (op9.ldn rfl) ?_
      skip
      exact hk1 (by intro h; have h1 := h.1.1; have h2 := h.1.2; have h3 := h.2.2; first | omega | exact absurd h.2.1 (by assumption) | exact absurd (show (1 ≤ r ∧ r ≤ 24) ∧ 1 ≤ c ∧ c ≤ 24 from h.1) (by assumption))  _    lE
  · skip
    refine gop_st ?_
    refine gop_st ?_
    refine gop_st ?_
    refine ob_i (vPick_t _ _) ?_
    refine gop_st ?_
    refine gop_st ?_
    refine gop_st ?_
    refine ob_i (vPick_t _ _) ?_
    refine gop_st ?_
    refine gop_st ?_
    refine gop_st ?_
    refine ob_i (vPick_t _ _) ?_
    refine cnd_t1 ?_
    refine ob_i (a := (.agg #[(.int .i64 (0)), (.int .i64 (0)), (.slice none 0 0)])) (by rfl) ?_
    refine op9.stn (ws := [(.int .i64 (0)), (.int .i64 (0)), (.slice none 0 0)]) rfl rfl (oc1 rfl (oc1 rfl (oc1 rfl oc0))) (fun H46 op9 off47 => ?_)
    replace op1 := op1.off off47 ap1Xp9
    replace op5 := op5.off off47 ap5Xp9
    replace lE := off47.le lE np9
    replace op9 : Cel H46 p9 [(.int .i64 (0)), (.int .i64 (0)), (.slice none 0 0)] := op9
    refine ob_i (op9.ldn rfl) ?_
    skip
    exact hk1 (by intro h; have h1 := h.1.1; have h2 := h.1.2; have h3 := h.2.2; first | omega | exact absurd h.2.1 (by assumption) | exact absurd (show (1 ≤ r ∧ r ≤ 24) ∧ 1 ≤ c ∧ c ≤ 24 from h.1) (by assumption))  _    lE
theorem C.spec_l05Soup {w vb vs : Value} {r x st : Int} {b : List Int} {s : List Int} {sh : Nat} {H : Hp} {K : Value → Hp → Prop} (hw0 : Cel H w [vb, vs]) (hvb0 : Sl eI H vb b) (hvs0 : Sl eI H vs s) (kb : b.length ≤ 9223372036854775807) (ks : s.length ≤ 9223372036854775807)
    (hk1 : ¬ soP b s r sh x st → ∀ H', Le H H' → K (.tuple #[(.agg #[(.int .i64 (0)), (.int .i64 (0)), (.slice none 0 0)]), (.int .i64 (0)), (.bool false)]) H')
    (hk2 : soP b s r sh x st → ∀ u1 H', Own eI H' u1 (soL b s r x sh st.toNat) → Nw H u1 → Le H H' → K (.tuple #[(.agg #[(.int .i64 (r)), (.int .i64 (r)), u1]), (.int .i64 (sdS x (r.toNat * r.toNat))), (.bool true)]) H') : HT prg I.spec_l05Soup [w, (.int .i64 (r)), (.float .f32 sh), (.int .i64 (x)), (.int .i64 (st))].toArray H K := by
  have lE := Le.refl H
  have hw := hw0
  have hvb := hvb0
  have hvs := hvs0
  refine R.spec_l05Soup ?_
  unfold F.spec_l05Soup
  refine nw_i (fun p1 H2 op1 nn3 le4 => ?_)
  have np1 : Nw H p1 := nn3.le lE
  replace hw := hw.le le4
  replace hvb := hvb.le le4
  replace hvs := hvs.le le4
  replace lE := lE.trans le4
  replace op1 : Cel H2 p1 [(.int .i64 (0)), (.int .i64 (0)), (.slice none 0 0)] := op1
  refine C.spec_l04Life hw hvb hvs (by first | omega | assumption) (by first | omega | assumption) (fun   H5    le6 => ?_)
  replace op1 := op1.le le6
  replace hw := hw.le le6
  replace hvb := hvb.le le6
  replace hvs := hvs.le le6
  replace lE := lE.trans le6
  refine ob_nd (fun hc7 => ?_) (fun hc7 => ?_)
  · skip
    refine gop_rf ?_
    refine gop_rf ?_
    refine C.spec_l00In  ?_
    refine gop_rf ?_
    refine ob_nd (fun hc8 => ?_) (fun hc8 => ?_)
    · skip
      refine ob_i (vPick_f _ _) ?_
      refine cnd_f1 ?_
      refine C.spec_DrawField  (fun hc9  H10    le11 => ?_) (fun hc12 u15 H13 ou15 nn16  le14 => ?_)
      · skip
        replace op1 := op1.le le11
        replace hw := hw.le le11
        replace hvb := hvb.le le11
        replace hvs := hvs.le le11
        replace lE := lE.trans le11
        refine ob_i (vExt_30 _ _ _) ?_
        refine ob_i (vExt_31 _ _ _) ?_
        refine ob_i (vExt_32 _ _ _) ?_
        refine nw_i (fun p17 H18 op17 nn19 le20 => ?_)
        have ap1Xp17 : Apart p1 p17 := op1.apart nn19
        have np17 : Nw H p17 := nn19.le lE
        replace op1 := op1.le le20
        replace hw := hw.le le20
        replace hvb := hvb.le le20
        replace hvs := hvs.le le20
        replace lE := lE.trans le20
        replace op17 : Cel H18 p17 [(.int .i64 (0)), (.int .i64 (0)), (.slice none 0 0)] := op17
        refine op17.stn (ws := [(.int .i64 (0)), (.int .i64 (0)), (.slice none 0 0)]) rfl rfl (oc1 rfl (oc1 rfl (oc1 rfl oc0))) (fun H21 op17 off22 => ?_)
        replace op1 := op1.off off22 ap1Xp17
        replace hw := hw0.le (off22.le lE np17)
        replace hvb := hvb0.le (off22.le lE np17)
        replace hvs := hvs0.le (off22.le lE np17)
        replace lE := off22.le lE np17
        replace op17 : Cel H21 p17 [(.int .i64 (0)), (.int .i64 (0)), (.slice none 0 0)] := op17
        refine ob_i (a := .bool true) rfl ?_
        refine cnd_t1 ?_
        refine ob_i (a := (.agg #[(.int .i64 (0)), (.int .i64 (0)), (.slice none 0 0)])) (by rfl) ?_
        refine op1.stn (ws := [(.int .i64 (0)), (.int .i64 (0)), (.slice none 0 0)]) rfl rfl (oc1 rfl (oc1 rfl (oc1 rfl oc0))) (fun H23 op1 off24 => ?_)
        replace op17 := op17.off off24 ap1Xp17.symm
        replace hw := hw0.le (off24.le lE np1)
        replace hvb := hvb0.le (off24.le lE np1)
        replace hvs := hvs0.le (off24.le lE np1)
        replace lE := off24.le lE np1
        replace op1 : Cel H23 p1 [(.int .i64 (0)), (.int .i64 (0)), (.slice none 0 0)] := op1
        refine ob_i (op1.ldn rfl) ?_
        skip
        exact hk1 (by intro h; first | exact absurd h.1 (by assumption) | exact absurd h.2.1 (by assumption) | exact absurd h.2.2 (by assumption))  _    lE
      · skip
        have hs := hc12.1
        have hf : fieldN 1 r r (drL r r x sh) := drL_field hs
        have l1 := fieldN_len hf
        have ap1Xu15 : Apart p1 u15 := op1.apart nn16
        have nu15 : Nw H u15 := nn16.le lE
        replace op1 := op1.le le14
        replace hw := hw.le le14
        replace hvb := hvb.le le14
        replace hvs := hvs.le le14
        replace lE := lE.trans le14
        refine ob_i (vExt_30 _ _ _) ?_
        refine ob_i (vExt_31 _ _ _) ?_
        refine ob_i (vExt_32 _ _ _) ?_
        refine nw_i (fun p25 H26 op25 nn27 le28 => ?_)
        have ap1Xp25 : Apart p1 p25 := op1.apart nn27
        have au15Xp25 : Apart u15 p25 := ou15.apart nn27
        have np25 : Nw H p25 := nn27.le lE
        replace op1 := op1.le le28
        replace ou15 := ou15.le le28
        replace hw := hw.le le28
        replace hvb := hvb.le le28
        replace hvs := hvs.le le28
        replace lE := lE.trans le28
        replace op25 : Cel H26 p25 [(.int .i64 (0)), (.int .i64 (0)), (.slice none 0 0)] := op25
        refine op25.stn (ws := [(.int .i64 (r)), (.int .i64 (r)), u15]) rfl rfl (oc1 rfl (oc1 rfl (oc1 ou15.one oc0))) (fun H29 op25 off30 => ?_)
        replace op1 := op1.off off30 ap1Xp25
        replace ou15 := ou15.off off30 au15Xp25
        replace hw := hw0.le (off30.le lE np25)
        replace hvb := hvb0.le (off30.le lE np25)
        replace hvs := hvs0.le (off30.le lE np25)
        replace lE := off30.le lE np25
        replace op25 : Cel H29 p25 [(.int .i64 (r)), (.int .i64 (r)), u15] := op25
        refine ob_i (a := .bool false) rfl ?_
        refine cnd_f1 ?_
        refine C.spec_l04Run hw op25 hvb hvs ou15.sl (by first | omega | assumption) (by first | omega | assumption) (by first | omega | assumption) (by first | omega | assumption) (by first | omega | assumption) (fun  u33 H31 ou33 nn34  le32 => ?_)
        have ap1Xu33 : Apart p1 u33 := op1.apart nn34
        have au15Xu33 : Apart u15 u33 := ou15.apart nn34
        have ap25Xu33 : Apart p25 u33 := op25.apart nn34
        have nu33 : Nw H u33 := nn34.le lE
        replace op1 := op1.le le32
        replace ou15 := ou15.le le32
        replace op25 := op25.le le32
        replace hw := hw.le le32
        replace hvb := hvb.le le32
        replace hvs := hvs.le le32
        replace lE := lE.trans le32
        refine op1.stn (ws := [(.int .i64 (r)), (.int .i64 (r)), u33]) rfl rfl (oc1 rfl (oc1 rfl (oc1 ou33.one oc0))) (fun H35 op1 off36 => ?_)
        replace ou15 := ou15.off off36 ap1Xu15.symm
        replace op25 := op25.off off36 ap1Xp25.symm
        replace ou33 := ou33.off off36 ap1Xu33.symm
        replace hw := hw0.le (off36.le lE np1)
        replace hvb := hvb0.le (off36.le lE np1)
        replace hvs := hvs0.le (off36.le lE np1)
        replace lE := off36.le lE np1
        replace op1 : Cel H35 p1 [(.int .i64 (r)), (.int .i64 (r)), u33] := op1
        refine ob_i (op1.ldn rfl) ?_
        skip
        exact hk2 (by exact ⟨by assumption, by assumption, by assumption⟩) u33 _ (Own.cast (show rnL true b s r r (drL r r x sh) st.toNat = soL b s r x sh st.toNat by rfl) ou33) nu33  lE
    · skip
      refine ob_i (vPick_f _ _) ?_
      refine cnd_t1 ?_
      refine ob_i (a := (.agg #[(.int .i64 (0)), (.int .i64 (0)), (.slice none 0 0)])) (by rfl) ?_
      refine op1.stn (ws := [(.int .i64 (0)), (.int .i64 (0)), (.slice none 0 0)]) rfl rfl (oc1 rfl (oc1 rfl (oc1 rfl oc0))) (fun H37 op1 off38 => ?_)
      replace hw := hw0.le (off38.le lE np1)
      replace hvb := hvb0.le (off38.le lE np1)
      replace hvs := hvs0.le (off38.le lE np1)
      replace lE := off38.le lE np1
      replace op1 : Cel H37 p1 [(.int .i64 (0)), (.int .i64 (0)), (.slice none 0 0)] := op1
      refine ob_i (op1.ldn rfl) ?_
      skip
      exact hk1 (by intro h; first | exact absurd h.1 (by assumption) | exact absurd h.2.1 (by assumption) | exact absurd h.2.2 (by assumption))  _    lE
  · skip
    refine gop_st ?_
    refine gop_st ?_
    refine gop_st ?_
    refine ob_i (vPick_t _ _) ?_
    refine cnd_t1 ?_
    refine ob_i (a := (.agg #[(.int .i64 (0)), (.int .i64 (0)), (.slice none 0 0)])) (by rfl) ?_
    refine op1.stn (ws := [(.int .i64 (0)), (.int .i64 (0)), (.slice none 0 0)]) rfl rfl (oc1 rfl (oc1 rfl (oc1 rfl oc0))) (fun H39 op1 off40 => ?_)
    replace hw := hw0.le (off40.le lE np1)
    replace hvb := hvb0.le (off40.le lE np1)
    replace hvs := hvs0.le (off40.le lE np1)
    replace lE := off40.le lE np1
    replace op1 : Cel H39 p1 [(.int .i64 (0)), (.int .i64 (0)), (.slice none 0 0)] := op1
    refine ob_i (op1.ldn rfl) ?_
    skip
    exact hk1 (by intro h; first | exact absurd h.1 (by assumption) | exact absurd h.2.1 (by assumption) | exact absurd h.2.2 (by assumption))  _    lE
theorem C.impl_soup {vb vs : Value} {r x st : Int} {b : List Int} {s : List Int} {sh : Nat} {H : Hp} {K : Value → Hp → Prop} (hvb0 : Sl eI H vb b) (hvs0 : Sl eI H vs s) (kb : b.length ≤ 9223372036854775807) (ks : s.length ≤ 9223372036854775807)
    (hk1 : ¬ soP b s r sh x st → ∀ H', Le H H' → K (.tuple #[(.agg #[(.int .i64 (0)), (.int .i64 (0)), (.slice none 0 0)]), (.int .i64 (0)), (.bool false)]) H')
    (hk2 : soP b s r sh x st → ∀ u1 H', Own eI H' u1 (soL b s r x sh st.toNat) → Nw H u1 → Le H H' → K (.tuple #[(.agg #[(.int .i64 (r)), (.int .i64 (r)), u1]), (.int .i64 (sdS x (r.toNat * r.toNat))), (.bool true)]) H') : HT prg I.impl_soup [(.agg #[vb, vs]), (.int .i64 (r)), (.float .f32 sh), (.int .i64 (x)), (.int .i64 (st))].toArray H K := by
  have lE := Le.refl H
  have hvb := hvb0
  have hvs := hvs0
  refine R.impl_soup ?_
  unfold F.impl_soup
  refine nw_i (fun p1 H2 op1 nn3 le4 => ?_)
  have np1 : Nw H p1 := nn3.le lE
  replace hvb := hvb.le le4
  replace hvs := hvs.le le4
  replace lE := lE.trans le4
  replace op1 : Cel H2 p1 [vb, vs] := op1
  refine nw_i (fun p5 H6 op5 nn7 le8 => ?_)
  have ap1Xp5 : Apart p1 p5 := op1.apart nn7
  have np5 : Nw H p5 := nn7.le lE
  replace op1 := op1.le le8
  replace hvb := hvb.le le8
  replace hvs := hvs.le le8
  replace lE := lE.trans le8
  replace op5 : Cel H6 p5 [(.int .i64 (0)), (.int .i64 (0)), (.slice none 0 0)] := op5
  refine ob_i (op1.ldn rfl) ?_
  refine C.impl_ValidLife hvb hvs (by first | omega | assumption) (by first | omega | assumption) (fun   H9    le10 => ?_)
  replace op1 := op1.le le10
  replace op5 := op5.le le10
  replace hvb := hvb.le le10
  replace hvs := hvs.le le10
  replace lE := lE.trans le10
  refine ob_nd (fun hc11 => ?_) (fun hc11 => ?_)
  · skip
    refine gop_rf ?_
    refine gop_rf ?_
    refine C.impl_within  ?_
    refine gop_rf ?_
    refine ob_nd (fun hc12 => ?_) (fun hc12 => ?_)
    · skip
      refine ob_i (vPick_f _ _) ?_
      refine cnd_f1 ?_
      refine C.impl_DrawField  (fun hc13  H14    le15 => ?_) (fun hc16 u19 H17 ou19 nn20  le18 => ?_)
      · skip
        replace op1 := op1.le le15
        replace op5 := op5.le le15
        replace hvb := hvb.le le15
        replace hvs := hvs.le le15
        replace lE := lE.trans le15
        refine ob_i (vExt_30 _ _ _) ?_
        refine ob_i (vExt_31 _ _ _) ?_
        refine ob_i (vExt_32 _ _ _) ?_
        refine nw_i (fun p21 H22 op21 nn23 le24 => ?_)
        have ap1Xp21 : Apart p1 p21 := op1.apart nn23
        have ap5Xp21 : Apart p5 p21 := op5.apart nn23
        have np21 : Nw H p21 := nn23.le lE
        replace op1 := op1.le le24
        replace op5 := op5.le le24
        replace hvb := hvb.le le24
        replace hvs := hvs.le le24
        replace lE := lE.trans le24
        replace op21 : Cel H22 p21 [(.int .i64 (0)), (.int .i64 (0)), (.slice none 0 0)] := op21
        refine op21.stn (ws := [(.int .i64 (0)), (.int .i64 (0)), (.slice none 0 0)]) rfl rfl (oc1 rfl (oc1 rfl (oc1 rfl oc0))) (fun H25 op21 off26 => ?_)
        replace op1 := op1.off off26 ap1Xp21
        replace op5 := op5.off off26 ap5Xp21
        replace hvb := hvb0.le (off26.le lE np21)
        replace hvs := hvs0.le (off26.le lE np21)
        replace lE := off26.le lE np21
        replace op21 : Cel H25 p21 [(.int .i64 (0)), (.int .i64 (0)), (.slice none 0 0)] := op21
        refine ob_i (a := .bool true) rfl ?_
        refine cnd_t1 ?_
        refine ob_i (a := (.agg #[(.int .i64 (0)), (.int .i64 (0)), (.slice none 0 0)])) (by rfl) ?_
        refine op5.stn (ws := [(.int .i64 (0)), (.int .i64 (0)), (.slice none 0 0)]) rfl rfl (oc1 rfl (oc1 rfl (oc1 rfl oc0))) (fun H27 op5 off28 => ?_)
        replace op1 := op1.off off28 ap1Xp5
        replace op21 := op21.off off28 ap5Xp21.symm
        replace hvb := hvb0.le (off28.le lE np5)
        replace hvs := hvs0.le (off28.le lE np5)
        replace lE := off28.le lE np5
        replace op5 : Cel H27 p5 [(.int .i64 (0)), (.int .i64 (0)), (.slice none 0 0)] := op5
        refine ob_i (op5.ldn rfl) ?_
        skip
        exact hk1 (by intro h; first | exact absurd h.1 (by assumption) | exact absurd h.2.1 (by assumption) | exact absurd h.2.2 (by assumption))  _    lE
      · skip
        have hs := hc16.1
        have hf : fieldN 1 r r (drL r r x sh) := drL_field hs
        have l1 := fieldN_len hf
        have ap1Xu19 : Apart p1 u19 := op1.apart nn20
        have ap5Xu19 : Apart p5 u19 := op5.apart nn20
        have nu19 : Nw H u19 := nn20.le lE
        replace op1 := op1.le le18
        replace op5 := op5.le le18
        replace hvb := hvb.le le18
        replace hvs := hvs.le le18
        replace lE := lE.trans le18
        refine ob_i (vExt_30 _ _ _) ?_
        refine ob_i (vExt_31 _ _ _) ?_
        refine ob_i (vExt_32 _ _ _) ?_
        refine nw_i (fun p29 H30 op29 nn31 le32 => ?_)
        have ap1Xp29 : Apart p1 p29 := op1.apart nn31
        have ap5Xp29 : Apart p5 p29 := op5.apart nn31
        have au19Xp29 : Apart u19 p29 := ou19.apart nn31
        have np29 : Nw H p29 := nn31.le lE
        replace op1 := op1.le le32
        replace op5 := op5.le le32
        replace ou19 := ou19.le le32
        replace hvb := hvb.le le32
        replace hvs := hvs.le le32
        replace lE := lE.trans le32
        replace op29 : Cel H30 p29 [(.int .i64 (0)), (.int .i64 (0)), (.slice none 0 0)] := op29
        refine op29.stn (ws := [(.int .i64 (r)), (.int .i64 (r)), u19]) rfl rfl (oc1 rfl (oc1 rfl (oc1 ou19.one oc0))) (fun H33 op29 off34 => ?_)
        replace op1 := op1.off off34 ap1Xp29
        replace op5 := op5.off off34 ap5Xp29
        replace ou19 := ou19.off off34 au19Xp29
        replace hvb := hvb0.le (off34.le lE np29)
        replace hvs := hvs0.le (off34.le lE np29)
        replace lE := off34.le lE np29
        replace op29 : Cel H33 p29 [(.int .i64 (r)), (.int .i64 (r)), u19] := op29
        refine ob_i (a := .bool false) rfl ?_
        refine cnd_f1 ?_
        refine ob_i (op1.ldn rfl) ?_
        refine ob_i (op29.ldn rfl) ?_
        refine C.impl_Life_run hvb hvs ou19.sl (by first | omega | assumption) (by first | omega | assumption) (by first | omega | assumption) (by first | omega | assumption) (by first | omega | assumption) (fun  u37 H35 ou37 nn38  le36 => ?_)
        have ap1Xu37 : Apart p1 u37 := op1.apart nn38
        have ap5Xu37 : Apart p5 u37 := op5.apart nn38
        have au19Xu37 : Apart u19 u37 := ou19.apart nn38
        have ap29Xu37 : Apart p29 u37 := op29.apart nn38
        have nu37 : Nw H u37 := nn38.le lE
        replace op1 := op1.le le36
        replace op5 := op5.le le36
        replace ou19 := ou19.le le36
        replace op29 := op29.le le36
        replace hvb := hvb.le le36
        replace hvs := hvs.le le36
        replace lE := lE.trans le36
        refine op5.stn (ws := [(.int .i64 (r)), (.int .i64 (r)), u37]) rfl rfl (oc1 rfl (oc1 rfl (oc1 ou37.one oc0))) (fun H39 op5 off40 => ?_)
        replace op1 := op1.off off40 ap1Xp5
        replace ou19 := ou19.off off40 ap5Xu19.symm
        replace op29 := op29.off off40 ap5Xp29.symm
        replace ou37 := ou37.off off40 ap5Xu37.symm
        replace hvb := hvb0.le (off40.le lE np5)
        replace hvs := hvs0.le (off40.le lE np5)
        replace lE := off40.le lE np5
        replace op5 : Cel H39 p5 [(.int .i64 (r)), (.int .i64 (r)), u37] := op5
        refine ob_i (op5.ldn rfl) ?_
        skip
        exact hk2 (by exact ⟨by assumption, by assumption, by assumption⟩) u37 _ (Own.cast (show rnL true b s r r (drL r r x sh) st.toNat = soL b s r x sh st.toNat by rfl) ou37) nu37  lE
    · skip
      refine ob_i (vPick_f _ _) ?_
      refine cnd_t1 ?_
      refine ob_i (a := (.agg #[(.int .i64 (0)), (.int .i64 (0)), (.slice none 0 0)])) (by rfl) ?_
      refine op5.stn (ws := [(.int .i64 (0)), (.int .i64 (0)), (.slice none 0 0)]) rfl rfl (oc1 rfl (oc1 rfl (oc1 rfl oc0))) (fun H41 op5 off42 => ?_)
      replace op1 := op1.off off42 ap1Xp5
      replace hvb := hvb0.le (off42.le lE np5)
      replace hvs := hvs0.le (off42.le lE np5)
      replace lE := off42.le lE np5
      replace op5 : Cel H41 p5 [(.int .i64 (0)), (.int .i64 (0)), (.slice none 0 0)] := op5
      refine ob_i (op5.ldn rfl) ?_
      skip
      exact hk1 (by intro h; first | exact absurd h.1 (by assumption) | exact absurd h.2.1 (by assumption) | exact absurd h.2.2 (by assumption))  _    lE
  · skip
    refine gop_st ?_
    refine gop_st ?_
    refine gop_st ?_
    refine ob_i (vPick_t _ _) ?_
    refine cnd_t1 ?_
    refine ob_i (a := (.agg #[(.int .i64 (0)), (.int .i64 (0)), (.slice none 0 0)])) (by rfl) ?_
    refine op5.stn (ws := [(.int .i64 (0)), (.int .i64 (0)), (.slice none 0 0)]) rfl rfl (oc1 rfl (oc1 rfl (oc1 rfl oc0))) (fun H43 op5 off44 => ?_)
    replace op1 := op1.off off44 ap1Xp5
    replace hvb := hvb0.le (off44.le lE np5)
    replace hvs := hvs0.le (off44.le lE np5)
    replace lE := off44.le lE np5
    replace op5 : Cel H43 p5 [(.int .i64 (0)), (.int .i64 (0)), (.slice none 0 0)] := op5
    refine ob_i (op5.ldn rfl) ?_
    skip
    exact hk1 (by intro h; first | exact absurd h.1 (by assumption) | exact absurd h.2.1 (by assumption) | exact absurd h.2.2 (by assumption))  _    lE
end Go.Proofs.YtffmfkpobjdmmaaGreatDoor
/- Texts: bytes in a row. -/
namespace Go.Proofs.YtffmfkpobjdmmaaGreatDoor.HL
set_option maxRecDepth 100000
/-- A text of some bytes. -/
def tS (l : List UInt8) : ByteArray := ⟨l.toArray⟩
abbrev vS (l : List UInt8) : Value := .string (tS l)
theorem tS_size (l : List UInt8) : (tS l).size = l.length := rfl
theorem tS_data (l : List UInt8) : (tS l).data.toList = l := rfl
theorem tS_toList (l : List UInt8) : (tS l).toList = l := by rw [ByteArray.toList_eq]; rfl
theorem tS_of (b : ByteArray) : b = tS b.data.toList := by cases b; rfl
theorem tS_append (a b : List UInt8) : tS a ++ tS b = tS (a ++ b) := by
  have h : ∀ {x y : ByteArray}, x.data.toList = y.data.toList → x = y := fun {x y} h => by
    cases x; cases y; simp only [ByteArray.mk.injEq]; exact Array.toList_inj.mp h
  apply h
  rw [ByteArray.data_append, Array.toList_append]
  rfl
theorem vStr_add {a b : List UInt8} (h : a.length + b.length ≤ 9223372036854775807) : vStr .add (vS a) (vS b) = some (vS (a ++ b)) := by
  simp only [vStr, tS_size, tS_append]
  rw [if_pos]
  have e : IntKind.i64.max = 9223372036854775807 := by decide
  rw [e]; omega
theorem vStr_eql (a b : List UInt8) : vStr .eql (vS a) (vS b) = some (.bool (decide (a = b))) := by
  simp only [vStr, tS_toList]
  congr 2
  by_cases h : a = b
  · simp [h]
  · simp [h]
theorem vStr_neq (a b : List UInt8) : vStr .neq (vS a) (vS b) = some (.bool (decide (a ≠ b))) := by
  simp only [vStr, tS_toList]
  congr 2
  by_cases h : a = b
  · simp [h]
  · simp [h]
theorem vStr_neq_same (a : List UInt8) : vStr .neq (vS a) (vS a) = some (.bool false) := by rw [vStr_neq]; simp
theorem vStr_lss (a b : List UInt8) : vStr .lss (vS a) (vS b) = some (.bool (Op.bytesLess a b)) := by simp only [vStr, tS_toList]
theorem vLenS_t (a : List UInt8) : vLenS (vS a) = some (.int .i64 a.length) := rfl
theorem tS_extract (a : List UInt8) (l h : Nat) : (tS a).extract l h = tS ((a.drop l).take (h - l)) := by
  have hh : ∀ {x y : ByteArray}, x.data.toList = y.data.toList → x = y := fun {x y} h => by
    cases x; cases y; simp only [ByteArray.mk.injEq]; exact Array.toList_inj.mp h
  apply hh
  rw [ByteArray.data_extract, Array.toList_extract, List.extract_eq_take_drop]
  rfl
theorem vSlS_t {a : List UInt8} {k k' : IntKind} {l h : Int} (l0 : 0 ≤ l) (lh : l ≤ h) (h1 : h ≤ a.length) : vSlS (vS a) (some (.int k l)) (some (.int k' h)) = some (vS ((a.drop l.toNat).take (h.toNat - l.toNat))) := by
  have e := tS_size a
  simp only [vSlS, bnd, e]
  rw [if_pos ⟨by omega, by omega⟩]
  simp only
  rw [if_pos ⟨by omega, by omega⟩]
  simp only [tS_extract]
end Go.Proofs.YtffmfkpobjdmmaaGreatDoor.HL
/- The runs of a row, as texts: plain law. -/
namespace Go.Proofs.YtffmfkpobjdmmaaGreatDoor
open HL
set_option maxRecDepth 100000
/-- A number below 100 in decimal. -/
def decT (n : Nat) : List UInt8 := if n < 10 then [UInt8.ofNat (48 + n)] else [UInt8.ofNat (48 + n / 10), UInt8.ofNat (48 + n % 10)]
theorem decT_len (n : Nat) : 1 ≤ (decT n).length ∧ (decT n).length ≤ 2 := by unfold decT; split <;> simp
/-- How often a number stands at the beginning. -/
def rN (x : Int) : List Int → Nat
  | [] => 0
  | y :: l => if y = x then rN x l + 1 else 0
theorem rN_le (x : Int) : ∀ l : List Int, rN x l ≤ l.length
  | [] => Nat.le_refl _
  | y :: l => by
    have := rN_le x l
    unfold rN
    split <;> simp <;> omega
theorem rN_step {x : Int} : ∀ {l : List Int} {t : Nat}, t ≤ rN x l → t < l.length → at_ 0 l (t : Int) = x → t + 1 ≤ rN x l
  | [], t, _, h, _ => by simp at h
  | y :: l, 0, _, _, h => by
    have : y = x := h
    unfold rN
    rw [if_pos this]; omega
  | y :: l, t + 1, h1, h2, h3 => by
    unfold rN at h1 ⊢
    split at h1
    · rename_i hy
      rw [if_pos hy]
      have := rN_step (x := x) (l := l) (t := t) (by omega) (by simpa using h2) (by
        unfold at_ at h3 ⊢
        simpa using h3)
      omega
    · omega
theorem rN_at {x : Int} : ∀ {l : List Int} {t : Nat}, t < rN x l → at_ 0 l (t : Int) = x
  | [], t, h => by simp [rN] at h
  | y :: l, 0, h => by
    unfold rN at h
    split at h
    · rename_i hy; exact hy
    · omega
  | y :: l, t + 1, h => by
    unfold rN at h
    split at h
    · have := rN_at (x := x) (l := l) (t := t) (by omega)
      unfold at_ at this ⊢
      simpa using this
    · omega
theorem rN_end {x : Int} {l : List Int} {t : Nat} (h1 : t ≤ rN x l) (h2 : t = l.length ∨ at_ 0 l (t : Int) ≠ x) : t = rN x l := by
  rcases Nat.lt_or_ge t (rN x l) with h | h
  · have h3 := rN_at h
    rcases h2 with h2 | h2
    · have := rN_le x l; omega
    · exact absurd h3 h2
  · omega
def chT (x : Int) : UInt8 := if x = 1 then 111 else 98
/-- The runs of a row, without zeros at its end. -/
def rtx : List Int → List UInt8
  | [] => []
  | x :: l => if x = 0 ∧ rN x (x :: l) = l.length + 1 then [] else (if rN x (x :: l) = 1 then [] else decT (rN x (x :: l))) ++ [chT x] ++ rtx ((x :: l).drop (rN x (x :: l)))
termination_by l => l.length
decreasing_by
  have : 1 ≤ rN x (x :: l) := by unfold rN; rw [if_pos rfl]; omega
  simp only [List.length_drop, List.length_cons]; omega
theorem rtx_nil : rtx [] = [] := by unfold rtx; rfl
theorem rtx_of {l : List Int} (h : 0 < l.length) : rtx l = if at_ 0 l 0 = 0 ∧ rN (at_ 0 l 0) l = l.length then [] else (if rN (at_ 0 l 0) l = 1 then [] else decT (rN (at_ 0 l 0) l)) ++ [chT (at_ 0 l 0)] ++ rtx (l.drop (rN (at_ 0 l 0) l)) := by
  cases l with
  | nil => simp at h
  | cons x l =>
    conv => lhs; unfold rtx
    rfl
theorem rtx_zero : ∀ {l : List Int}, (∀ t, t < l.length → at_ 0 l (t : Int) = 0) → rtx l = []
  | [], _ => rtx_nil
  | x :: l, h => by
    rw [rtx_of (by simp)]
    have e0 : at_ 0 (x :: l) 0 = 0 := h 0 (by simp)
    rw [e0]
    have hk : ∀ t, t ≤ (x :: l).length → t ≤ rN 0 (x :: l) := by
      intro t
      induction t with
      | zero => intro _; omega
      | succ t ih => intro ht; exact rN_step (ih (by omega)) (by omega) (h t (by omega))
    have := hk _ (Nat.le_refl _)
    have := rN_le 0 (x :: l)
    rw [if_pos ⟨rfl, by omega⟩]
theorem rtx_len : ∀ (n : Nat) (l : List Int), l.length ≤ n → (rtx l).length ≤ 3 * l.length
  | 0, l, h => by
    have : l = [] := List.length_eq_zero_iff.mp (by omega)
    subst this
    simp [rtx_nil]
  | n + 1, l, h => by
    cases l with
    | nil => simp [rtx_nil]
    | cons x l =>
      rw [rtx_of (by simp)]
      split
      · simp
      · have h1 : 1 ≤ rN (at_ 0 (x :: l) 0) (x :: l) := rN_step (t := 0) (by omega) (by simp) rfl
        have h2 := rN_le (at_ 0 (x :: l) 0) (x :: l)
        have h3 := rtx_len n ((x :: l).drop (rN (at_ 0 (x :: l) 0) (x :: l))) (by simp only [List.length_drop]; simp only [List.length_cons] at h ⊢; omega)
        simp only [List.length_drop] at h3
        have h4 := decT_len (rN (at_ 0 (x :: l) 0) (x :: l))
        simp only [List.length_append, List.length_singleton]
        split
        · simp only [List.length_nil]; omega
        · omega
section
variable {row : List Int}
theorem at_drop {a t : Nat} : at_ 0 (row.drop a) (t : Int) = at_ 0 row ((a + t : Nat) : Int) := by
  unfold at_
  rw [Int.toNat_natCast, Int.toNat_natCast]
  simp [List.getD_eq_getElem?_getD, List.getElem?_drop]
/-- A run that is told: what is written, and what is left. -/
theorem rtx_run {a k : Nat} (ha : a < row.length) (hk : k = rN (at_ 0 row (a : Int)) (row.drop a)) (hne : ¬ (at_ 0 row (a : Int) = 0 ∧ a + k = row.length)) :
    rtx (row.drop a) = (if k = 1 then [] else decT k) ++ [chT (at_ 0 row (a : Int))] ++ rtx (row.drop (a + k)) := by
  have e0 : at_ 0 (row.drop a) 0 = at_ 0 row (a : Int) := at_drop (t := 0)
  rw [rtx_of (by simp; omega), e0, ← hk]
  rw [if_neg (fun h => hne ⟨h.1, by have := h.2; simp only [List.length_drop] at this; omega⟩), List.drop_drop]
theorem rtx_stop {a k : Nat} (ha : a < row.length) (hk : k = rN (at_ 0 row (a : Int)) (row.drop a)) (h : at_ 0 row (a : Int) = 0 ∧ a + k = row.length) : rtx (row.drop a) = [] := by
  have e0 : at_ 0 (row.drop a) 0 = at_ 0 row (a : Int) := at_drop (t := 0)
  rw [rtx_of (by simp; omega), e0, ← hk]
  rw [if_pos ⟨h.1, by simp only [List.length_drop]; omega⟩]
theorem run_zero {a : Nat} (ha : a < row.length) : a + 1 - a ≤ rN (at_ 0 row (a : Int)) (row.drop a) := by
  have := rN_step (x := at_ 0 row (a : Int)) (l := row.drop a) (t := 0) (by omega) (by simp; omega) (at_drop (t := 0))
  omega
theorem run_next {a e : Nat} (hae : a ≤ e) (h : e - a ≤ rN (at_ 0 row (a : Int)) (row.drop a)) (he : e < row.length) (hx : at_ 0 row (e : Int) = at_ 0 row (a : Int)) : e + 1 - a ≤ rN (at_ 0 row (a : Int)) (row.drop a) := by
  have := rN_step (t := e - a) h (by simp; omega) (by rw [at_drop, show a + (e - a) = e by omega]; exact hx)
  omega
theorem run_end {a e : Nat} (hae : a ≤ e) (h : e - a ≤ rN (at_ 0 row (a : Int)) (row.drop a)) (he : e ≤ row.length) (hx : e = row.length ∨ at_ 0 row (e : Int) ≠ at_ 0 row (a : Int)) : e - a = rN (at_ 0 row (a : Int)) (row.drop a) := by
  refine rN_end h ?_
  rcases hx with hx | hx
  · exact .inl (by simp; omega)
  · exact .inr (by rw [at_drop, show a + (e - a) = e by omega]; exact hx)
theorem run_pos {a : Nat} (ha : a < row.length) : 1 ≤ rN (at_ 0 row (a : Int)) (row.drop a) ∧ a + rN (at_ 0 row (a : Int)) (row.drop a) ≤ row.length := by
  have := run_zero ha
  have := rN_le (at_ 0 row (a : Int)) (row.drop a)
  simp only [List.length_drop] at this
  omega
/-- The end of a row without the zeros behind it. -/
def endP (row : List Int) (e : Nat) : Prop := e ≤ row.length ∧ ∀ j, e ≤ j → j < row.length → at_ 0 row (j : Int) = 0
theorem endP_rtx {e : Nat} (h : endP row e) : rtx (row.drop e) = [] := rtx_zero (fun t ht => by
  rw [at_drop]
  exact h.2 _ (by omega) (by simp only [List.length_drop] at ht; omega))
/-- A run within a row that is cut so. -/
theorem run_cut {a e k : Nat} (h : endP row e) (hl : 0 < e → at_ 0 row ((e - 1 : Nat) : Int) ≠ 0) (ha : a < e) (k1 : 1 ≤ k) (hk : k ≤ rN (at_ 0 row (a : Int)) (row.drop a)) (hke : a + k ≤ e) (hx : a + k = e ∨ at_ 0 row ((a + k : Nat) : Int) ≠ at_ 0 row (a : Int)) :
    k = rN (at_ 0 row (a : Int)) (row.drop a) ∧ ¬ (at_ 0 row (a : Int) = 0 ∧ a + k = row.length) := by
  have hlast : a + k = e → at_ 0 row (a : Int) ≠ 0 := fun he h0 => by
    have h1 := rN_at (x := at_ 0 row (a : Int)) (l := row.drop a) (t := k - 1) (by omega)
    rw [at_drop, show a + (k - 1) = e - 1 by omega] at h1
    exact hl (by omega) (h1.trans h0)
  have e1 := run_end (a := a) (e := a + k) (by omega) (by rw [show a + k - a = k by omega]; exact hk) (by have := h.1; omega) (by
    rcases hx with hx | hx
    · rcases Nat.lt_or_ge (a + k) row.length with h2 | h2
      · right
        rw [h.2 (a + k) (by omega) h2]
        exact fun h3 => hlast hx h3.symm
      · left; have := h.1; omega
    · exact .inr hx)
  refine ⟨by omega, fun hh => ?_⟩
  rcases hx with hx | hx
  · exact hlast hx hh.1
  · have := h.1
    have : a + k = e := by omega
    exact hlast this hh.1
end
/-- Texts with another one between them. -/
def joinT (sep : List UInt8) : List (List UInt8) → List UInt8
  | [] => []
  | a :: r => a ++ r.flatMap (sep ++ ·)
theorem joinT_snoc (sep : List UInt8) (x : List UInt8) : ∀ ls : List (List UInt8), ls ≠ [] → joinT sep (ls ++ [x]) = joinT sep ls ++ sep ++ x
  | [], h => absurd rfl h
  | a :: r, _ => by simp [joinT]
end Go.Proofs.YtffmfkpobjdmmaaGreatDoor
/- Parts of slices; slices that are put together. -/
namespace Go.Proofs.YtffmfkpobjdmmaaGreatDoor
open HL
set_option maxRecDepth 100000
namespace HL
theorem Sl.cut {α : Type} {enc : α → Value} {H : Hp} {v : Value} {l : List α} (h : Sl enc H v l) {lo hi : Int} (h0 : 0 ≤ lo) (h1 : lo ≤ hi) (h2 : hi ≤ l.length) :
    ∃ x, vSl3 1 v (some (.int .i64 lo)) (some (.int .i64 hi)) none = some x ∧ (hi = l.length → vSl3 1 v (some (.int .i64 lo)) none none = some x) ∧ (lo = 0 → vSl3 1 v none (some (.int .i64 hi)) none = some x) ∧ (lo = 0 → hi = l.length → vSl3 1 v none none none = some x) ∧
      Sl enc H x ((l.drop lo.toNat).take (hi.toNat - lo.toNat)) ∧ (∀ b, bk x = some b → bk v = some b) := by
  obtain ⟨a, c, rfl, hc, hr⟩ := h
  have e1 : bnd (some (.int .i64 hi)) c l.length = some hi.toNat := by simp only [bnd]; rw [if_pos ⟨by omega, by omega⟩]
  have e2 : bnd (some (.int .i64 lo)) hi.toNat 0 = some lo.toNat := by simp only [bnd]; rw [if_pos ⟨by omega, by omega⟩]
  have e3 : bnd none c l.length = some l.length := rfl
  refine ⟨.slice (if c = lo.toNat then a else a.map (·.add (lo.toNat * 1))) (hi.toNat - lo.toNat) (c - lo.toNat), ?_, ?_, ?_, ?_, ?_, ?_⟩
  · simp only [vSl3, vSl, e1, e2]
  · intro e
    subst e
    have e2' : bnd (some (.int .i64 lo)) l.length 0 = some lo.toNat := by simpa using e2
    simp only [vSl3, vSl, e3, e2', Int.toNat_natCast]
  · intro e
    subst e
    simp only [vSl3, vSl, e1]; rfl
  · intro e e'
    subst e e'
    simp only [vSl3, vSl, e3, Int.toNat_natCast]; rfl
  · have hl : ((l.drop lo.toNat).take (hi.toNat - lo.toNat)).length = hi.toNat - lo.toNat := by simp; omega
    refine ⟨_, _, by rw [hl], by rw [hl]; omega, fun i hi' => ?_⟩
    rw [hl] at hi'
    obtain ⟨ad, rfl, hh⟩ := hr (lo.toNat + i) (by omega)
    rw [if_neg (by omega)]
    refine ⟨ad.add (lo.toNat * 1), rfl, ?_⟩
    have e4 : (ad.add (lo.toNat * 1)).add i = ad.add (lo.toNat + i) := by
      rw [Nat.mul_one]
      unfold Addr.add
      by_cases hx : lo.toNat = 0
      · rw [if_pos hx, hx, Nat.zero_add]
      · by_cases hy : i = 0
        · subst hy; simp
        · rw [if_neg hx, if_neg hy, if_neg (by omega)]; simp [Nat.add_assoc]
    rw [e4, hh]
    simp
  · intro b hb
    by_cases hcl : c = lo.toNat
    · rw [if_pos hcl] at hb
      cases a with
      | none => simp [bk] at hb
      | some ad => simp only [bk] at hb; rw [if_pos (by omega)] at hb; simp at hb
    · rw [if_neg hcl] at hb
      cases a with
      | none => simp [bk] at hb
      | some ad =>
        have hbl : ∀ k, (ad.add k).block = ad.block := fun k => by unfold Addr.add; split <;> rfl
        simp only [Option.map_some, bk] at hb ⊢
        split at hb
        · simp at hb
        · rw [if_neg (by omega)]; rw [hbl] at hb; exact hb
end HL
end Go.Proofs.YtffmfkpobjdmmaaGreatDoor
/- Ranges over functions: a rule by an invariant; slices.Chunk. -/
namespace Go.Proofs.YtffmfkpobjdmmaaGreatDoor
open HL
set_option maxRecDepth 100000
namespace HL
/-- A range over an iterator that gives N times something: what holds ahead of each round. -/
theorem rgE_i {fv : Value} {ps : List Nat} {body : (Exit → S → Hp → Prop) → S → Hp → Prop} {Q : Exit → S → Hp → Prop} {σ : S} {H : Hp} (N : Nat) (arg : Nat → List Value) (I : Nat → Hp → Prop) (hfv : match fv with | .func (.func _) _ _ => True | _ => False) (hps : ∀ t, (arg t).length = ps.length) (h0 : I 0 H)
    (hb : ∀ t A σ' (Q' : Exit → S → Hp → Prop), t < N → σ' = ups σ ps (arg t) → (∀ σ'' B, I (t + 1) B → Q' .normal σ'' B) → (∀ σ'' B, Q .ret σ B → Q' .ret σ'' B) → (∀ id σ'' B, Q (.exit id) σ B → Q' (.exit id) σ'' B) → I t A → body Q' σ' A)
    (hend : ∀ A, I N A → Q .normal σ A)
    (hcall : ∀ (yv : Value) (J : Nat → Hp → Prop) (St : Hp → Prop) (H1 : Hp) (K : Value → Hp → Prop), (∀ t A, J t A → ∃ A' b o, A = A'.put b o ∧ A' b = none ∧ I t A') → J 0 H1 →
      (∀ t A (Z : Value → Hp → Prop), t < N → J t A → (∀ B, J (t + 1) B → Z (.bool true) B) → (∀ B, St B → Z (.bool false) B) → callV prg yv (arg t) A Z) → (∀ A, J N A → K (.tuple #[]) A) → (∀ A, St A → K (.tuple #[]) A) → callV prg fv [yv] H1 K) :
    rgE prg fv ps body Q σ H := by
  refine ⟨hfv, fun l X hl hy => ?_⟩
  refine hcall _ (fun t A => ∃ A', A = A'.put l (X none) ∧ A' l = none ∧ I t A') (fun A => ∃ A' j, A = A'.put l (X j) ∧ A' l = none ∧ jmpQ Q σ A' j) _ _ ?_ ⟨H, rfl, hl, h0⟩ ?_ ?_ ?_
  · rintro t A ⟨A', rfl, hn, hI⟩
    exact ⟨A', l, X none, rfl, hn, hI⟩
  · rintro t A Z ht ⟨A', rfl, hn, hI⟩ hT hF
    refine hy (arg t) A' Z (hps t) hn (hb t A' _ _ ht rfl (fun σ'' B hB hBl => ?_) (fun σ'' B hB hBl => ?_) (fun id σ'' B hB hBl => ?_) hI)
    · exact hT _ ⟨B, rfl, hBl, hB⟩
    · exact hF _ ⟨B, some .ret, rfl, hBl, hB⟩
    · exact hF _ ⟨B, some (.exit id), rfl, hBl, hB⟩
  · rintro A ⟨A', rfl, hn, hI⟩
    exact ⟨A', none, rfl, hn, hend A' hI⟩
  · rintro A ⟨A', j, rfl, hn, hj⟩
    exact ⟨A', j, rfl, hn, hj⟩
/-- A piece of a slice, with no room behind it. -/
def chV (v : Value) (lo c : Nat) : Value := (vSl3 1 v (some (.int .i64 (lo : Int))) (some (.int .i64 ((lo : Int) + (c : Int)))) (some (.int .i64 ((lo : Int) + (c : Int))))).getD undef
theorem chV_sl {α : Type} {enc : α → Value} {H : Hp} {v : Value} {l : List α} (h : Sl enc H v l) {lo c : Nat} (h1 : lo + c ≤ l.length) :
    vSl3 1 v (some (.int .i64 (lo : Int))) (some (.int .i64 ((lo : Int) + (c : Int)))) (some (.int .i64 ((lo : Int) + (c : Int)))) = some (chV v lo c) ∧ Sl enc H (chV v lo c) ((l.drop lo).take c) := by
  obtain ⟨a, k, rfl, hc, hr⟩ := h
  have e0 : bnd (some (.int .i64 ((lo : Int) + (c : Int)))) k k = some (lo + c) := by simp only [bnd]; rw [if_pos ⟨by omega, by omega⟩]; congr 1
  have e1 : bnd (some (.int .i64 ((lo : Int) + (c : Int)))) (lo + c) (lo + c) = some (lo + c) := by simp only [bnd]; rw [if_pos ⟨by omega, by omega⟩]; congr 1
  have e2 : bnd (some (.int .i64 (lo : Int))) (lo + c) 0 = some lo := by simp only [bnd]; rw [if_pos ⟨by omega, by omega⟩]; simp
  have e : vSl3 1 (.slice a l.length k) (some (.int .i64 (lo : Int))) (some (.int .i64 ((lo : Int) + (c : Int)))) (some (.int .i64 ((lo : Int) + (c : Int)))) = some (.slice (if lo + c = lo then a else a.map (·.add (lo * 1))) (lo + c - lo) (lo + c - lo)) := by
    simp only [vSl3, e0, e1, e2]
  refine ⟨by unfold chV; rw [e]; rfl, ?_⟩
  unfold chV
  rw [e]
  show Sl enc H (.slice _ _ _) _
  have hl : ((l.drop lo).take c).length = c := by simp; omega
  refine ⟨_, _, by rw [hl]; congr 1; omega, by rw [hl]; omega, fun i hi' => ?_⟩
  rw [hl] at hi'
  obtain ⟨ad, rfl, hh⟩ := hr (lo + i) (by omega)
  rw [if_neg (by omega)]
  refine ⟨ad.add (lo * 1), rfl, ?_⟩
  have e4 : (ad.add (lo * 1)).add i = ad.add (lo + i) := by
    rw [Nat.mul_one]
    unfold Addr.add
    by_cases hx : lo = 0
    · rw [if_pos hx, hx, Nat.zero_add]
    · by_cases hy : i = 0
      · subst hy; simp
      · rw [if_neg hx, if_neg hy, if_neg (by omega)]; simp [Nat.add_assoc]
  rw [e4, hh]
  simp
end HL
/-- A row of a list. -/
def rowL (c : Nat) (l : List Int) (i : Nat) : List Int := (l.drop (i * c)).take c
theorem rowL_len {c r : Nat} {l : List Int} (hl : l.length = r * c) {i : Nat} (hi : i < r) : (rowL c l i).length = c := by
  unfold rowL
  have := Nat.mul_le_mul_right c (show i + 1 ≤ r by omega)
  rw [Nat.add_mul, Nat.one_mul] at this
  simp; omega
theorem C.slices_Chunk {vc : Value} {l : List Int} {n : Int} {H : Hp} {K : Value → Hp → Prop} (hv : Sl eI H vc l) (hn : 1 ≤ n)
    (hk : ∀ ps pn H', Cel H' ps [vc] → Cel H' pn [.int .i64 n] → Nw H ps → Nw H pn → Apart ps pn → Le H H' → K (.func (.func I.slices_Chunk_int64Zint64Z1) #[] #[ps, pn]) H') :
    HT prg I.slices_Chunk_int64Zint64 [vc, .int .i64 n].toArray H K := by
  refine R.slices_Chunk_int64Zint64 ?_
  unfold F.slices_Chunk_int64Zint64
  rw [hv.cells]
  refine nw_i (fun ps H2 ops nps le2 => ?_)
  refine nw_i (fun pn H4 opn npn le4 => ?_)
  refine ob_i (opn.ld0 rfl) ?_
  refine ob_i (vInt_lss _ _ _) ?_
  rw [decide_eq_false (show ¬ n < 1 by omega)]
  refine cnd_f1 ?_
  exact hk ps pn H4 (ops.le le4) opn nps (npn.le le2) (ops.apart npn) (le2.trans le4)
theorem C.slices_ChunkZ1 {yv ps pn vc : Value} {l : List Int} {c r : Nat} {H0 H : Hp} {K : Value → Hp → Prop} {J : Nat → Hp → Prop} {St : Hp → Prop} (hv : Sl eI H0 vc l) (hl : l.length = r * c) (c1 : 1 ≤ c) (c2 : c ≤ 1000000) (l2 : l.length ≤ 1000000)
    (hb : ∀ t A, J t A → Cel A ps [vc] ∧ Cel A pn [.int .i64 (c : Int)]) (h0 : J 0 H)
    (hst : ∀ t A (Z : Value → Hp → Prop), t < r → J t A → (∀ B, J (t + 1) B → Z (.bool true) B) → (∀ B, St B → Z (.bool false) B) → callV prg yv [chV vc (t * c) c] A Z)
    (hk : ∀ A, J r A → K (.tuple #[]) A) (hs : ∀ A, St A → K (.tuple #[]) A) :
    HT prg I.slices_Chunk_int64Zint64Z1 [yv, ps, pn].toArray H K := by
  refine R.slices_Chunk_int64Zint64Z1 ?_
  unfold F.slices_Chunk_int64Zint64Z1
  refine ⟨fun n σ H' => ∃ t : Nat, n = r - t ∧ t ≤ r ∧ σ 0 = yv ∧ σ 1 = ps ∧ σ 2 = pn ∧ σ 4 = .int .i64 ((t * c : Nat) : Int) ∧ J t H', ⟨_, 0, rfl, by omega, rfl, rfl, rfl, congrArg (Value.int .i64) (by simp), h0⟩, ?_⟩
  rintro n σ H1 ⟨t, rfl, ht, g0, g1, g2, g4, hJ⟩
  simp only [g0, g1, g2, g4]
  obtain ⟨ops, opn⟩ := hb t H1 hJ
  refine ob_i (ops.ld0 rfl) ?_
  refine ob_i hv.len ?_
  refine ob_i (vInt_lss _ _ _) ?_
  refine cnd_d (fun hlt => ?_) (fun hge => ?_)
  · have htr : t < r := Nat.lt_of_not_le fun hh => by
      have := Nat.mul_le_mul_right c hh
      omega
    have hm := Nat.mul_le_mul_right c (show t + 1 ≤ r by omega)
    rw [Nat.add_mul, Nat.one_mul] at hm
    refine ob_i (opn.ld0 rfl) ?_
    refine ob_i (ops.ld0 rfl) ?_
    obtain ⟨x, _, hx2, _, _, hx5, _⟩ := hv.cut (lo := ((t * c : Nat) : Int)) (hi := (l.length : Int)) (by omega) (by omega) (by omega)
    refine ob_i (hx2 rfl) ?_
    refine ob_i hx5.len ?_
    have hmin : vMx false (.int .i64 (c : Int)) [.int .i64 (((l.drop ((t * c : Nat) : Int).toNat).take ((l.length : Int).toNat - ((t * c : Nat) : Int).toNat)).length : Int)] = some (.int .i64 (c : Int)) := by
      simp only [vMx]
      rw [if_neg]
      rw [List.length_take, List.length_drop, Int.toNat_natCast, Int.toNat_natCast]
      omega
    refine ob_i hmin ?_
    refine ob_i (ops.ld0 rfl) ?_
    refine ob_i (vInt_add (by omega) (by omega)) ?_
    refine ob_i (vInt_add (by omega) (by omega)) ?_
    refine ob_i (chV_sl hv (lo := t * c) (c := c) (by omega)).1 ?_
    refine hst t H1 _ htr hJ (fun B hB => ?_) (fun B hB => ?_)
    · refine ob_i (a := .bool false) rfl ?_
      refine cnd_f1 ?_
      obtain ⟨ops, opn⟩ := hb _ B hB
      refine ob_i (opn.ld0 rfl) ?_
      refine ob_i (vInt_add (by omega) (by omega)) ?_
      exact nxt (r - (t + 1)) (by omega) ⟨t + 1, rfl, by omega, g0, g1, g2, congrArg (Value.int .i64) (by rw [Nat.add_mul, Nat.one_mul]; omega), hB⟩
    · refine ob_i (a := .bool true) rfl ?_
      refine cnd_t1 ?_
      exact hs B hB
  · obtain rfl : t = r := by
      have := Nat.le_antisymm ht (Nat.le_of_not_lt fun hh => by
        have hm := Nat.mul_le_mul_right c (show t + 1 ≤ r by omega)
        rw [Nat.add_mul, Nat.one_mul] at hm
        omega)
      exact this
    exact hk _ hJ
end Go.Proofs.YtffmfkpobjdmmaaGreatDoor
/- Maps by texts. -/
namespace Go.Proofs.YtffmfkpobjdmmaaGreatDoor.HL
set_option maxRecDepth 100000
def keyIs (k : ByteArray) (v : Value) : Bool := match v with | .string s => k == s | _ => false
/-- What a map has at a text: where, and what. -/
def findS (k : ByteArray) : List MapEntry → Nat → Option (Nat × Value)
  | [], _ => none
  | e :: es, i => bif keyIs k e.key then some (i, e.val) else findS k es (i + 1)
def keysS (es : List MapEntry) : Prop := ∀ e ∈ es, ∃ s, e.key = .string s
theorem findNow_s (k : ByteArray) : ∀ (es : List MapEntry) (i : Nat), keysS es → Instr.findNow .string (.string k) es i = some (findS k es i)
  | [], i, _ => rfl
  | e :: es, i, h => by
    obtain ⟨s, hs⟩ := h e (by simp)
    have ih := findNow_s k es (i + 1) (fun x hx => h x (by simp [hx]))
    unfold Instr.findNow findS
    rw [hs]
    simp only [Instr.sameNow, keyIs]
    cases e1 : (k == s) with
    | true => rfl
    | false => exact ih
theorem val_checkKey (P : Program) (b : Bool) (n : Nat) (t : TypeId) (k : ByteArray) (H : Hp) (ht : P.underlying t = some .string) : val P (Instr.checkKey b (n + 1) t (.string k)) H = some () := by
  unfold Instr.checkKey
  rw [val_bind', val_underlying, ht]
  rfl
theorem val_findKey (P : Program) (t : TypeId) (k : ByteArray) (es : List MapEntry) (H : Hp) (ht : P.underlying t = some .string) (hk : keysS es) : val P (Instr.findKey t (.string k) es) H = some (findS k es 0) := by
  unfold Instr.findKey
  rw [val_bind', val_underlying, ht]
  simp only [Option.bind_some]
  rw [findNow_s k es 0 hk]
  rfl
/-- A new entry. -/
theorem hp_mapUpdate_new {P : Program} {t kt et : TypeId} {r c : Nat} {es : Array MapEntry} {k : ByteArray} {x : Value} {H : Hp} {K : Unit → Hp → Prop} (ht : P.underlying t = some (.map kt et)) (hk : P.underlying kt = some .string)
    (hr : H r = some (.map es c)) (hs : keysS es.toList) (hn : findS k es.toList 0 = none) (h : K () (H.put r (.map (es.push { key := .string k, val := x, born := c }) (c + 1)))) : hp P (Instr.mapUpdate t (.map (some r)) (.string k) x) H K := by
  unfold Instr.mapUpdate
  have e1 : val P (getObj r) H = some (.map es c) := by
    show val P (Sem.getObj r Sem.pure) H = _
    simp only [val, hr]
  refine hp_val_bind P _ _ H K _ (by rw [val_underlying, ht]) ?_
  refine hp_val_bind P _ _ H K _ e1 ?_
  refine hp_val_bind P _ _ H K _ (val_checkKey P _ 9999 kt k H hk) ?_
  refine hp_val_bind P _ _ H K _ (val_findKey P kt k es.toList H hk hs) ?_
  rw [hn]
  show hp P (Sem.setObj r _ (Sem.pure ())) H K
  simp only [hp, hr]
  exact h
end Go.Proofs.YtffmfkpobjdmmaaGreatDoor.HL
/- Slices of fields whose cells are owned. -/
namespace Go.Proofs.YtffmfkpobjdmmaaGreatDoor
open HL
set_option maxRecDepth 100000
namespace HL
/-- What has blocks: a slice or a pointer, or a set of blocks. -/
class Bks (α : Type) where inb : α → Nat → Prop
instance instBV : Bks Value := ⟨fun v b => bk v = some b⟩
def Rg : Type := Nat → Prop
instance instBR : Bks Rg := ⟨fun S b => S b⟩
def Apt {α β : Type} [Bks α] [Bks β] (u : α) (v : β) : Prop := ∀ b, Bks.inb u b → ¬ Bks.inb v b
def Kn {α : Type} [Bks α] (H : Hp) (u : α) : Prop := ∀ b, Bks.inb u b → ∃ o, H b = some o
def Nws (H : Hp) (S : Rg) : Prop := ∀ b, S b → H b = none
def OffS (S : Rg) (H H' : Hp) : Prop := ∀ b o, H b = some o → ¬ S b → H' b = some o
section
variable {α β : Type} [Bks α] [Bks β] {u : α} {v : β} {H H' : Hp} {S : Rg}
theorem Apt.symm (h : Apt u v) : Apt v u := fun b h1 h2 => h b h2 h1
theorem Apt.nil_r {c : Nat} : Apt u (Value.slice none c c) := fun b _ h => by
  have : bk (.slice none c c) = some b := h
  simp [bk] at this
theorem Apt.of_nws (hu : Kn H u) (hn : Nws H S) : Apt u S := fun b h1 h2 => by
  obtain ⟨o, ho⟩ := hu b h1
  rw [hn b h2] at ho; exact absurd ho (by simp)
theorem Apt.of_nw {w : Value} (hu : Kn H u) (hn : Nw H w) : Apt u w := fun b h1 h2 => by
  obtain ⟨o, ho⟩ := hu b h1
  rw [hn b h2] at ho; exact absurd ho (by simp)
theorem Nws.le (h : Nws H' S) (hl : Le H H') : Nws H S := fun b hb => by
  cases ho : H b with
  | none => rfl
  | some o => have := hl b o ho; rw [h b hb] at this; exact absurd this (by simp)
theorem OffS.le {H0 : Hp} (h : OffS S H H') (hl : Le H0 H) (hn : Nws H0 S) : Le H0 H' := fun b o hb =>
  h b o (hl b o hb) (fun e => by rw [hn b e] at hb; exact absurd hb (by simp))
theorem OffS.trans {A B C : Hp} (h : OffS S A B) (h' : OffS S B C) : OffS S A C := fun b o hb hv => h' b o (h b o hb hv) hv
theorem OffS.of_le (h : Le H H') : OffS S H H' := fun b o hb _ => h b o hb
/-- What has no block of a set stays. -/
theorem OffS.off {w x : Value} (h : OffS S H H') (ha : Apt w S) : ∀ b o, bk w = some b → H b = some o → H' b = some o := fun b o hb ho => h b o ho (ha b hb)
end
theorem Own.offS {α : Type} {enc : α → Value} {H H' : Hp} {u : Value} {l : List α} {S : Rg} (h : Own enc H u l) (ho : OffS S H H') (ha : Apt u S) : Own enc H' u l := by
  obtain ⟨a, c, rfl, hc, hr⟩ := h
  refine ⟨a, c, rfl, hc, fun h0 => ?_⟩
  obtain ⟨b, off, cs, e, rfl, hb, hs, hcs⟩ := hr h0
  refine ⟨b, off, cs, e, rfl, ho b _ hb (ha b ?_), hs, hcs⟩
  show bk _ = some b
  simp only [bk]
  rw [if_neg (by omega)]
theorem Cel.offS {H H' : Hp} {p : Value} {cs : List Value} {S : Rg} (h : Cel H p cs) (ho : OffS S H H') (ha : Apt p S) : Cel H' p cs := by
  obtain ⟨r, e, rfl, hr⟩ := h
  exact ⟨r, e, rfl, ho r _ hr (ha r rfl)⟩
theorem Ro.offS {α : Type} {enc : α → Value} {H H' : Hp} {u : Value} {l : List α} {S : Rg} (h : Ro enc H u l) (ho : OffS S H H') (ha : Apt u S) : Ro enc H' u l := by
  obtain ⟨⟨a, c, rfl, hc, hr⟩, hk⟩ := h
  have key : ∀ b, bk (.slice a l.length c) = some b → H' b = H b := fun b hb => by
    obtain ⟨o, hbo⟩ := hk b hb
    rw [ho b o hbo (ha b hb), hbo]
  refine ⟨⟨a, c, rfl, hc, fun i hi => ?_⟩, fun b hb => by rw [key b hb]; exact hk b hb⟩
  obtain ⟨ad, rfl, hh⟩ := hr i hi
  refine ⟨ad, rfl, ?_⟩
  have e : H' (ad.add i).block = H (ad.add i).block := by
    rw [add_block]
    exact key _ (by simp only [bk]; rw [if_neg (by omega)])
  unfold Hp.cell? at hh ⊢
  rw [e]; exact hh
/-- A field. -/
structure FdL where
  r : Int
  c : Int
  l : List Int
  deriving DecidableEq
def fd0 : FdL := ⟨0, 0, []⟩
def RelF (P : Value → List Int → Prop) : List Fv → List FdL → Prop
  | [], [] => True
  | x :: L, f :: fs => (x.r = f.r ∧ x.c = f.c ∧ P x.v f.l) ∧ RelF P L fs
  | _, _ => False
section
variable {P Q : Value → List Int → Prop}
theorem RelF.len : ∀ {L : List Fv} {fs : List FdL}, RelF P L fs → L.length = fs.length
  | [], [], _ => rfl
  | x :: L, f :: fs, h => congrArg (· + 1) (RelF.len h.2)
  | [], _ :: _, h => h.elim
  | _ :: _, [], h => h.elim
theorem RelF.imp : ∀ {L : List Fv} {fs : List FdL}, RelF P L fs → (∀ x ∈ L, ∀ l, P x.v l → Q x.v l) → RelF Q L fs
  | [], [], _, _ => trivial
  | x :: L, f :: fs, h, g => ⟨⟨h.1.1, h.1.2.1, g x (by simp) _ h.1.2.2⟩, RelF.imp h.2 (fun y hy => g y (by simp [hy]))⟩
  | [], _ :: _, h, _ => h.elim
  | _ :: _, [], h, _ => h.elim
theorem RelF.app : ∀ {L M : List Fv} {fs gs : List FdL}, RelF P L fs → RelF P M gs → RelF P (L ++ M) (fs ++ gs)
  | [], M, [], gs, _, h => h
  | x :: L, M, f :: fs, gs, h1, h2 => ⟨h1.1, RelF.app h1.2 h2⟩
  | [], _, _ :: _, _, h, _ => h.elim
  | _ :: _, _, [], _, h, _ => h.elim
theorem RelF.get : ∀ {L : List Fv} {fs : List FdL} {i : Nat}, RelF P L fs → i < L.length → (at_ fv0 L (i : Int)).r = (at_ fd0 fs (i : Int)).r ∧ (at_ fv0 L (i : Int)).c = (at_ fd0 fs (i : Int)).c ∧ P (at_ fv0 L (i : Int)).v (at_ fd0 fs (i : Int)).l
  | [], [], i, _, hi => absurd hi (by simp)
  | x :: L, f :: fs, 0, h, _ => h.1
  | x :: L, f :: fs, i + 1, h, hi => RelF.get (L := L) (fs := fs) (i := i) h.2 (by simpa using hi)
  | [], _ :: _, _, h, _ => h.elim
  | _ :: _, [], _, h, _ => h.elim
end
/-- A slice of fields, whose blocks and those of its fields are owned. -/
def Fam (H : Hp) (v : Value) (S : Rg) (fs : List FdL) : Prop :=
  ∃ L, OwnE 3 encFv H v L ∧ RelF (Own eI H) L fs ∧ (∀ x ∈ L, Apart v x.v) ∧ L.Pairwise (fun x y => Apart x.v y.v) ∧ ∀ b, S b ↔ (bk v = some b ∨ ∃ x ∈ L, bk x.v = some b)
theorem RelF.mem {P : Value → List Int → Prop} : ∀ {L : List Fv} {fs : List FdL}, RelF P L fs → ∀ x ∈ L, ∃ l, P x.v l
  | [], [], _ => by simp
  | x :: L, f :: fs, h => fun y hy => by
    rcases List.mem_cons.mp hy with rfl | hy
    · exact ⟨_, h.1.2.2⟩
    · exact RelF.mem h.2 y hy
  | [], _ :: _, h => h.elim
  | _ :: _, [], h => h.elim
section
variable {H H' : Hp} {v : Value} {S : Rg} {fs : List FdL}
theorem Fam.known (h : Fam H v S fs) : Kn H S := by
  obtain ⟨L, h1, h2, h3, h4, h5⟩ := h
  intro b hb
  rcases (h5 b).mp hb with e | ⟨x, hx, e⟩
  · exact h1.known b e
  · obtain ⟨l, hl⟩ := h2.mem x hx
    exact hl.known b e
theorem Fam.le (h : Fam H v S fs) (hl : Le H H') : Fam H' v S fs := by
  obtain ⟨L, h1, h2, h3, h4, h5⟩ := h
  exact ⟨L, h1.le hl, h2.imp (fun _ _ _ h => h.le hl), h3, h4, h5⟩
theorem Fam.off {w : Value} (h : Fam H v S fs) (ho : Off w H H') (ha : Apt S w) : Fam H' v S fs := by
  obtain ⟨L, h1, h2, h3, h4, h5⟩ := h
  exact ⟨L, h1.off ho (fun b hb => ha b ((h5 b).mpr (.inl hb))), h2.imp (fun x hx _ h => h.off ho (fun b hb => ha b ((h5 b).mpr (.inr ⟨x, hx, hb⟩)))), h3, h4, h5⟩
theorem OwnE.offS {n : Nat} {α : Type} {enc : α → List Value} {u : Value} {l : List α} (h : OwnE n enc H u l) (ho : OffS S H H') (ha : Apt u S) : OwnE n enc H' u l := by
  obtain ⟨a, c, rfl, hc, hr⟩ := h
  refine ⟨a, c, rfl, hc, fun h0 => ?_⟩
  obtain ⟨b, off, cs, e, rfl, hb, hs, hcs⟩ := hr h0
  refine ⟨b, off, cs, e, rfl, ho b _ hb (ha b ?_), hs, hcs⟩
  show bk _ = some b
  simp only [bk]
  rw [if_neg (by omega)]
theorem Fam.offS {T : Rg} (h : Fam H v S fs) (ho : OffS T H H') (ha : Apt S T) : Fam H' v S fs := by
  obtain ⟨L, h1, h2, h3, h4, h5⟩ := h
  exact ⟨L, h1.offS ho (fun b hb => ha b ((h5 b).mpr (.inl hb))), h2.imp (fun x hx _ h => h.offS ho (fun b hb => ha b ((h5 b).mpr (.inr ⟨x, hx, hb⟩)))), h3, h4, h5⟩
theorem Fam.len (h : Fam H v S fs) : vLenSl v = some (.int .i64 fs.length) := by
  obtain ⟨L, h1, h2, _⟩ := h
  rw [h1.len, h2.len]
theorem Fam.one (h : Fam H v S fs) : oneCell v = true := by obtain ⟨L, h1, _⟩ := h; exact h1.one
theorem Fam.cells (h : Fam H v S fs) : v.cells = #[v] := by obtain ⟨L, h1, _⟩ := h; exact h1.cells
theorem Fam.isSl (h : Fam H v S fs) : ∃ a n c, v = .slice a n c := by obtain ⟨L, h1, _⟩ := h; exact h1.isSl
theorem Fam.cast {gs : List FdL} (e : fs = gs) (h : Fam H v S fs) : Fam H v S gs := e ▸ h
theorem Fam.nil_of (a : Option Addr) : Fam H (.slice a 0 0) (fun _ => False) [] :=
  ⟨[], OwnE.nil_of a, trivial, by simp, List.Pairwise.nil, fun b => ⟨fun h => h.elim, fun h => by
    rcases h with h | ⟨x, hx, _⟩
    · cases a <;> simp [bk] at h
    · simp at hx⟩⟩
/-- A new slice of fields. -/
theorem bSE_fam {z : Array Value} {e : TypeId} {K : Value → Hp → Prop} (hk : ∀ v S H', Fam H' v S [] → Nws H S → Le H H' → K v H') : bS 3 0 z e [] H K :=
  bSE_nil (n := 3) (enc := encFv) fun v H' ov nv hb le => hk v (fun _ => False) H' ⟨[], ov, trivial, by simp, List.Pairwise.nil, fun b => ⟨fun h => h.elim, fun h => by
    rcases h with h | ⟨x, hx, _⟩
    · rw [hb] at h; simp at h
    · simp at hx⟩⟩ (fun b h => h.elim) le
/-- One more. -/
theorem Fam.push {bytes : Nat} {z : Array Value} {e : TypeId} {w x : Value} {r c : Int} {l : List Int} {K : Value → Hp → Prop} (h : Fam H v S fs) (hz : z.size = 3) (hw : SlE 3 encFv H w [⟨r, c, x⟩]) (hx : Own eI H x l) (ax : Apt x S)
    (hb : bytes ≤ 64) (hl : fs.length < 1000000)
    (hk : ∀ v' S' H', Fam H' v' S' (fs ++ [⟨r, c, l⟩]) → OffS S H H' → (∀ b, S' b → S b ∨ bk x = some b ∨ H b = none) → (∀ b, bk x = some b → S' b) → Own eI H' x l → K v' H') : apd 3 bytes z e v w H K := by
  obtain ⟨L, h1, h2, h3, h4, h5⟩ := h
  have hlen := h2.len
  have axv : Apart x v := fun b hb hv => ax b hb ((h5 b).mpr (.inl hv))
  refine OwnE.apd h1 encFv_n hz hw (fun y hy t ht => ?_) hb (by simp; omega) (fun v' H' ov off hb' => ?_)
  · simp only [List.mem_singleton] at hy
    subst hy
    simp only [encFv, List.mem_cons, List.not_mem_nil, or_false] at ht
    rcases ht with rfl | rfl | rfl
    · rfl
    · rfl
    · exact hx.one
  have ax' : ∀ y ∈ L, Apart v' y.v := fun y hy b e1 e2 => by
    rcases hb' b e1 with e3 | e3
    · exact h3 y hy b e3 e2
    · obtain ⟨m, hm⟩ := h2.mem y hy
      obtain ⟨o, ho⟩ := hm.known b e2
      rw [e3] at ho; simp at ho
  have axx : Apart v' x := fun b e1 e2 => by
    rcases hb' b e1 with e3 | e3
    · exact axv b e2 e3
    · obtain ⟨o, ho⟩ := hx.known b e2
      rw [e3] at ho; simp at ho
  have hx' := hx.off off axv
  refine hk v' (fun b => bk v' = some b ∨ ∃ y ∈ L ++ [⟨r, c, x⟩], bk y.v = some b) H' ⟨_, ov, ?_, ?_, ?_, fun b => Iff.rfl⟩ (fun b o hbo hn => off b o hbo (fun e => hn ((h5 b).mpr (.inl e)))) ?_ (fun b hb => .inr ⟨⟨r, c, x⟩, by simp, hb⟩) hx'
  · exact (h2.imp (fun y hy m h => h.off off (h3 y hy).symm)).app ⟨⟨rfl, rfl, hx'⟩, trivial⟩
  · intro y hy
    rcases List.mem_append.mp hy with hy | hy
    · exact ax' y hy
    · simp only [List.mem_singleton] at hy; subst hy; exact axx
  · rw [List.pairwise_append]
    refine ⟨h4, List.pairwise_singleton _ _, fun y hy t ht => ?_⟩
    simp only [List.mem_singleton] at ht
    subst ht
    exact fun b e1 e2 => ax b e2 ((h5 b).mpr (.inr ⟨y, hy, e1⟩))
  · intro b hb
    rcases hb with hb | ⟨y, hy, e⟩
    · rcases hb' b hb with e3 | e3
      · exact .inl ((h5 b).mpr (.inl e3))
      · exact .inr (.inr e3)
    · rcases List.mem_append.mp hy with hy | hy
      · exact .inl ((h5 b).mpr (.inr ⟨y, hy, e⟩))
      · simp only [List.mem_singleton] at hy; subst hy; exact .inr (.inl e)
/-- Apart from what was pushed to. -/
theorem Apt.push {α : Type} [Bks α] {u : α} {S' : Rg} {x : Value} (hu : Kn H u) (hS : Apt u S) (hx : Apt u x) (hb : ∀ b, S' b → S b ∨ bk x = some b ∨ H b = none) : Apt u S' := fun b h1 h2 => by
  rcases hb b h2 with h | h | h
  · exact hS b h1 h
  · exact hx b h1 h
  · obtain ⟨o, ho⟩ := hu b h1
    rw [h] at ho; simp at ho
theorem Nws.push {H0 : Hp} {S' : Rg} {x : Value} (hl : Le H0 H) (hS : Nws H0 S) (hx : Nw H0 x) (hb : ∀ b, S' b → S b ∨ bk x = some b ∨ H b = none) : Nws H0 S' := fun b h2 => by
  rcases hb b h2 with h | h | h
  · exact hS b h
  · exact hx b h
  · cases ho : H0 b with
    | none => rfl
    | some o => rw [hl b o ho] at h; simp at h
end
end HL
end Go.Proofs.YtffmfkpobjdmmaaGreatDoor
/- Maps from texts to numbers, as owned things. -/
namespace Go.Proofs.YtffmfkpobjdmmaaGreatDoor.HL
set_option maxRecDepth 100000
/-- The entries of a map, told as texts and numbers. -/
def entsS (es : List MapEntry) : List (ByteArray × Int) → Prop := fun ms => es.map (fun e => (e.key, e.val)) = ms.map (fun m => (Value.string m.1, Value.int .i64 m.2))
theorem entsS_keys {es : List MapEntry} {ms : List (ByteArray × Int)} (h : entsS es ms) : keysS es := fun e he => by
  have : (e.key, e.val) ∈ es.map (fun e => (e.key, e.val)) := List.mem_map.mpr ⟨e, he, rfl⟩
  rw [h] at this
  obtain ⟨m, _, hm⟩ := List.mem_map.mp this
  exact ⟨m.1, by injection hm with h1 _; exact h1.symm⟩
/-- A map that is owned. -/
def Mp (H : Hp) (p : Value) (S : Rg) (ms : List (ByteArray × Int)) : Prop := ∃ r es c, p = .map (some r) ∧ H r = some (.map es c) ∧ entsS es.toList ms ∧ ∀ b, S b ↔ b = r
section
variable {H H' : Hp} {p : Value} {S : Rg} {ms : List (ByteArray × Int)}
theorem Mp.known (h : Mp H p S ms) : Kn H S := by
  obtain ⟨r, es, c, _, hr, _, hS⟩ := h
  intro b hb
  rw [(hS b).mp hb]; exact ⟨_, hr⟩
theorem Mp.le (h : Mp H p S ms) (hl : Le H H') : Mp H' p S ms := by
  obtain ⟨r, es, c, e, hr, he, hS⟩ := h
  exact ⟨r, es, c, e, hl r _ hr, he, hS⟩
theorem Mp.off {w : Value} (h : Mp H p S ms) (ho : Off w H H') (ha : Apt S w) : Mp H' p S ms := by
  obtain ⟨r, es, c, e, hr, he, hS⟩ := h
  exact ⟨r, es, c, e, ho r _ hr (ha r ((hS r).mpr rfl)), he, hS⟩
theorem Mp.offS {T : Rg} (h : Mp H p S ms) (ho : OffS T H H') (ha : Apt S T) : Mp H' p S ms := by
  obtain ⟨r, es, c, e, hr, he, hS⟩ := h
  exact ⟨r, es, c, e, ho r _ hr (ha r ((hS r).mpr rfl)), he, hS⟩
/-- What the map has at a text. -/
def mget (k : ByteArray) : List (ByteArray × Int) → Option Int
  | [] => none
  | m :: ms => bif k == m.1 then some m.2 else mget k ms
theorem findS_mget (k : ByteArray) : ∀ (es : List MapEntry) (ms : List (ByteArray × Int)) (i : Nat), entsS es ms → (findS k es i).map Prod.snd = (mget k ms).map (Value.int .i64)
  | [], [], _, _ => rfl
  | e :: es, m :: ms, i, h => by
    simp only [entsS, List.map_cons, List.cons.injEq, Prod.mk.injEq] at h
    obtain ⟨⟨h1, h2⟩, h3⟩ := h
    have ih := findS_mget k es ms (i + 1) h3
    unfold findS mget
    rw [h1]
    simp only [keyIs]
    cases k == m.1
    · exact ih
    · simp [h2]
  | [], _ :: _, _, h => by simp [entsS] at h
  | _ :: _, [], _, h => by simp [entsS] at h
/-- One more entry. -/
theorem Mp.add {P : Program} {t kt et : TypeId} {k : ByteArray} {x : Int} {K : Unit → Hp → Prop} (h : Mp H p S ms) (ht : P.underlying t = some (.map kt et)) (hk : P.underlying kt = some .string) (hn : mget k ms = none)
    (hK : ∀ H', Mp H' p S (ms ++ [(k, x)]) → OffS S H H' → K () H') : hp P (Instr.mapUpdate t p (.string k) (.int .i64 x)) H K := by
  obtain ⟨r, es, c, rfl, hr, he, hS⟩ := h
  have e := findS_mget k es.toList ms 0 he
  have hf : findS k es.toList 0 = none := by
    rw [hn] at e
    cases h : findS k es.toList 0 with
    | none => rfl
    | some x => rw [h] at e; simp at e
  refine hp_mapUpdate_new ht hk hr (entsS_keys he) hf ?_
  refine hK _ ⟨r, _, c + 1, rfl, Hp.put_same _ _ _, ?_, hS⟩ (fun b o hb hn => ?_)
  · unfold entsS at he ⊢
    rw [Array.toList_push, List.map_append, he, List.map_append]; rfl
  · rw [Hp.put_ne _ _ (by rintro rfl; exact hn ((hS _).mpr rfl))]; exact hb
end
end Go.Proofs.YtffmfkpobjdmmaaGreatDoor.HL
/- Bytes in slices. -/
namespace Go.Proofs.YtffmfkpobjdmmaaGreatDoor.HL
abbrev eU : Int → Value := .int .u8
end Go.Proofs.YtffmfkpobjdmmaaGreatDoor.HL
/- Bytes told as texts. -/
namespace Go.Proofs.YtffmfkpobjdmmaaGreatDoor.HL
set_option maxRecDepth 100000
def bytesS (s : ByteArray) (l : List Int) : ByteArray := l.foldl (fun s n => s.push (UInt8.ofNat n.toNat)) s
theorem val_bytesFrom (P : Program) (H : Hp) : ∀ (l : List Int) (s : ByteArray),
    val P (forIn (l.map eU) s fun c r => (match c with
      | Value.int IntKind.u8 n => pure (ForInStep.yield (r.push (UInt8.ofNat n.toNat)))
      | _ => do
        stuck "bytesToString: byte expected"
        pure (ForInStep.yield r) : Sem (ForInStep ByteArray))) H = some (bytesS s l)
  | [], s => rfl
  | n :: l, s => by
    simp only [List.map_cons, List.forIn_cons, val_bind', val_pure, Option.bind_some]
    exact val_bytesFrom P H l _
theorem val_bytesToString {P : Program} {H : Hp} {v : Value} {l : List Int} (h : Sl eU H v l) : val P (Conv.bytesToString v) H = some (.string (bytesS .empty l)) := by
  have hf := h.firstC
  obtain ⟨a, c, rfl, hc, hr⟩ := h
  cases a with
  | none =>
    have : l = [] := by
      cases l with
      | nil => rfl
      | cons x r => obtain ⟨ad, e, _⟩ := hr 0 (by simp); simp at e
    subst this
    rfl
  | some ad =>
    simp only [HL.firstC, Nat.mul_one] at hf
    unfold Conv.bytesToString
    simp only [val_bind', val_loadCells P H ad l.length _ hf, Option.bind_some]
    have := val_bytesFrom P H l .empty
    simp only [List.forIn_toArray]
    exact Eq.trans (congrArg (fun o => Option.bind o (fun v => val P (pure (Value.string v)) H)) this) rfl
theorem bytesS_data : ∀ (l : List Int) (s : ByteArray), (bytesS s l).data.toList = s.data.toList ++ l.map fun n => UInt8.ofNat n.toNat
  | [], s => by simp [bytesS]
  | n :: l, s => by
    have := bytesS_data l (s.push (UInt8.ofNat n.toNat))
    simp only [bytesS, List.foldl_cons, List.map_cons] at this ⊢
    rw [this, ByteArray.data_push, Array.toList_push, List.append_assoc]; rfl
end Go.Proofs.YtffmfkpobjdmmaaGreatDoor.HL
/- What the small functions of structs come to: copies, sizes, what is alike. -/
namespace Go.Proofs.YtffmfkpobjdmmaaGreatDoor
open HL
set_option maxRecDepth 100000
end Go.Proofs.YtffmfkpobjdmmaaGreatDoor
/- Slices of fields that are compared, marked and held. -/
namespace Go.Proofs.YtffmfkpobjdmmaaGreatDoor
open HL
set_option maxRecDepth 100000
namespace HL
theorem at_get {α : Type} (d : α) {l : List α} {i : Nat} (h : i < l.length) : at_ d l (i : Int) = l[i] := by
  unfold at_; rw [List.getD_eq_getElem?_getD, Int.toNat_natCast, List.getElem?_eq_getElem h]; rfl
/-- A new row of elements. -/
theorem bSE_i {α : Type} {enc : α → List Value} {n len : Nat} {z : Array Value} {e : TypeId} {parts : List (Nat × Value)} {l : List α} {H : Hp} {K : Value → Hp → Prop} (h1 : len * n ≤ 1000000) (hl : l.length = len) (hn : ∀ x, (enc x).length = n)
    (hf : Instr.fill (fun i => some (i * n, n)) (if len * n = 0 then #[] else zrow z (len * n)) parts = some (l.flatMap enc).toArray) (hk : ∀ v H', OwnE n enc H' v l → Nw H v → Le H H' → K v H') : bS n len z e parts H K := by
  refine ⟨by omega, ?_⟩
  rw [hf]
  intro r hr
  subst hl
  have fl := flat_len hn l
  refine hk _ _ ⟨some ⟨r, 0, none⟩, l.length, rfl, Nat.le_refl _, fun _ => ⟨r, 0, _, e, rfl, Hp.put_same _ _ _, by simp only [List.size_toArray]; omega, fun i hi => by simp [hi]⟩⟩ ?_ (Le.put _ hr)
  intro b hb
  simp only [bk] at hb
  split at hb
  · simp at hb
  · simp only [Option.some.injEq] at hb; subst hb; exact hr
/-- Fields that are read. -/
def FamS (H : Hp) (v : Value) (fs : List FdL) : Prop := ∃ L, SlE 3 encFv H v L ∧ RelF (Sl eI H) L fs
section
variable {H H' : Hp} {v : Value} {S : Rg} {fs : List FdL}
theorem Fam.sl (h : Fam H v S fs) : FamS H v fs := by
  obtain ⟨L, h1, h2, _⟩ := h
  exact ⟨L, h1.sl encFv_n, h2.imp (fun _ _ _ h => h.sl)⟩
theorem FamS.le (h : FamS H v fs) (hl : Le H H') : FamS H' v fs := by
  obtain ⟨L, h1, h2⟩ := h
  exact ⟨L, h1.le hl, h2.imp (fun _ _ _ h => h.le hl)⟩
theorem FamS.len (h : FamS H v fs) : vLenSl v = some (.int .i64 fs.length) := by
  obtain ⟨L, h1, h2⟩ := h
  rw [h1.len, h2.len]
theorem FamS.one (h : FamS H v fs) : oneCell v = true := by obtain ⟨L, h1, _⟩ := h; exact h1.one
theorem FamS.cells (h : FamS H v fs) : v.cells = #[v] := by obtain ⟨L, h1, _⟩ := h; exact h1.cells
theorem FamS.cast {gs : List FdL} (e : fs = gs) (h : FamS H v fs) : FamS H v gs := e ▸ h
theorem FamS.ix (h : FamS H v fs) {i : Int} (h0 : 0 ≤ i) (h1 : i < fs.length) : vIx 3 v (.int .i64 i) = some (ptrE 3 v i) := by
  obtain ⟨L, g1, g2⟩ := h
  exact g1.ix encFv_n (by omega) h0 (by rw [g2.len]; exact h1)
theorem FamS.at_ (h : FamS H v fs) {i : Nat} (h1 : i < fs.length) : ∃ x, vLoadN 3 (ptrE 3 v i) H = some (.agg #[.int .i64 (at_ fd0 fs (i : Int)).r, .int .i64 (at_ fd0 fs (i : Int)).c, x]) ∧ Sl eI H x (at_ fd0 fs (i : Int)).l ∧
    vLoad (fp (ptrE 3 v i) 0) H = some (.int .i64 (at_ fd0 fs (i : Int)).r) ∧ vLoad (fp (ptrE 3 v i) 1) H = some (.int .i64 (at_ fd0 fs (i : Int)).c) ∧ vLoad (fp (ptrE 3 v i) 2) H = some x ∧ vFa 0 (ptrE 3 v i) = some (fp (ptrE 3 v i) 0) ∧ vFa 1 (ptrE 3 v i) = some (fp (ptrE 3 v i) 1) ∧ vFa 2 (ptrE 3 v i) = some (fp (ptrE 3 v i) 2) := by
  obtain ⟨L, g1, g2⟩ := h
  have hi : (i : Int) < L.length := by rw [g2.len]; omega
  obtain ⟨e1, e2, e3⟩ := g2.get (i := i) (by omega)
  have e := g1.ldn encFv_n (by omega) fv0 (i := (i : Int)) (by omega) hi
  refine ⟨_, ?_, e3, ?_, ?_, ?_, g1.fa encFv_n (by omega) (by omega) hi 0, g1.fa encFv_n (by omega) (by omega) hi 1, g1.fa encFv_n (by omega) (by omega) hi 2⟩
  · rw [e]; simp only [encFv, e1, e2]
  · rw [g1.ld encFv_n (by omega) fv0 (by omega) hi (k := 0) (by omega) rfl, e1]
  · rw [g1.ld encFv_n (by omega) fv0 (by omega) hi (k := 1) (by omega) rfl, e2]
  · exact g1.ld encFv_n (by omega) fv0 (by omega) hi (k := 2) (by omega) rfl
theorem RelF.set : ∀ {P : Value → List Int → Prop} {L : List Fv} {fs : List FdL} {i : Nat} {x : Fv} {f : FdL}, RelF P L fs → (x.r = f.r ∧ x.c = f.c ∧ P x.v f.l) → RelF P (L.set i x) (fs.set i f)
  | P, [], [], i, x, f, _, _ => trivial
  | P, y :: L, g :: fs, 0, x, f, h, hx => ⟨hx, h.2⟩
  | P, y :: L, g :: fs, i + 1, x, f, h, hx => ⟨h.1, RelF.set h.2 hx⟩
  | _, [], _ :: _, _, _, _, h, _ => h.elim
  | _, _ :: _, [], _, _, _, h, _ => h.elim
theorem RelF.gete {P : Value → List Int → Prop} {L : List Fv} {fs : List FdL} {i : Nat} (h : RelF P L fs) (h1 : i < L.length) (h2 : i < fs.length) : L[i].r = fs[i].r ∧ L[i].c = fs[i].c ∧ P L[i].v fs[i].l := by
  have := h.get h1
  rw [at_get fv0 h1, at_get fd0 h2] at this
  exact this
/-- The cells of one of them, and what is put back. -/
theorem Fam.cut (h : Fam H v S fs) {i : Nat} (hi : i < fs.length) : ∃ x, vLoad (fp (ptrE 3 v (i : Int)) 2) H = some x ∧ Own eI H x fs[i].l ∧ ∀ H' m, Own eI H' x m → Off x H H' → Fam H' v S (fs.set i ⟨fs[i].r, fs[i].c, m⟩) ∧ OffS S H H' := by
  obtain ⟨L, h1, h2, h3, h4, h5⟩ := h
  have hi' : i < L.length := by rw [h2.len]; exact hi
  have g := h2.gete hi' hi
  have hx : ∀ b, bk L[i].v = some b → S b := fun b hb => (h5 b).mpr (.inr ⟨_, List.getElem_mem hi', hb⟩)
  refine ⟨L[i].v, ?_, g.2.2, fun H' m om off => ⟨⟨L, h1.off off (h3 _ (List.getElem_mem hi')), ?_, h3, h4, h5⟩, fun b o hb hn => off b o hb (fun e => hn (hx b e))⟩⟩
  · have := (h1.sl encFv_n).ld encFv_n (by omega) fv0 (i := (i : Int)) (by omega) (by omega) (k := 2) (by omega) (x := L[i].v) (by rw [at_get fv0 hi']; rfl)
    exact this
  · have key : ∀ (L : List Fv) (fs : List FdL) (i : Nat) (hi : i < L.length) (hi2 : i < fs.length), RelF (Own eI H) L fs → L.Pairwise (fun x y => Apart x.v y.v) → Off L[i].v H H' → Own eI H' L[i].v m → RelF (Own eI H') L (fs.set i ⟨fs[i].r, fs[i].c, m⟩) := by
      intro L
      induction L with
      | nil => intro fs i hi; simp at hi
      | cons x L ih =>
        intro fs i hi hi2 hr hp hoff ho
        cases fs with
        | nil => simp at hi2
        | cons f fs =>
          rw [List.pairwise_cons] at hp
          cases i with
          | zero =>
            refine ⟨⟨hr.1.1, hr.1.2.1, ho⟩, hr.2.imp (fun y hy _ h => h.off hoff (fun b e1 e2 => hp.1 y hy b e2 e1))⟩
          | succ i =>
            have hi3 : i < L.length := by simpa using hi
            refine ⟨⟨hr.1.1, hr.1.2.1, hr.1.2.2.off hoff (hp.1 _ (List.getElem_mem hi3))⟩, ih fs i hi3 (by simpa using hi2) hr.2 hp.2 hoff ho⟩
    exact key L fs i hi' hi h2 h4 off om
end
end HL
end Go.Proofs.YtffmfkpobjdmmaaGreatDoor
/- Pointers that are only read; elements of a family; texts as keys. -/
namespace Go.Proofs.YtffmfkpobjdmmaaGreatDoor
open HL
set_option maxRecDepth 100000
namespace HL
/-- A pointer to cells that are read. -/
def CelR (H : Hp) (p : Value) (cs : List Value) : Prop := ∃ a, p = .pointer (some a) ∧ (∃ o, H a.block = some o) ∧ ∀ i (h : i < cs.length), H.cell? (a.add i) = some cs[i]
section
variable {H H' : Hp} {p u v : Value} {cs : List Value}
theorem Cel.r (h : Cel H p cs) : CelR H p cs := by
  obtain ⟨r, e, rfl, hr⟩ := h
  refine ⟨_, rfl, ⟨_, hr⟩, fun i hi => ?_⟩
  simp only [add_none, Hp.cell?, hr, Nat.zero_add]
  simp [hi]
theorem CelR.known (h : CelR H p cs) : ∀ b, bk p = some b → ∃ o, H b = some o := by
  obtain ⟨a, rfl, ho, _⟩ := h
  intro b hb
  simp only [bk, Option.some.injEq] at hb
  subst hb; exact ho
theorem CelR.le (h : CelR H p cs) (hl : Le H H') : CelR H' p cs := by
  obtain ⟨a, rfl, ⟨o, ho⟩, hc⟩ := h
  exact ⟨a, rfl, ⟨o, hl _ _ ho⟩, fun i hi => hl.cell (hc i hi)⟩
theorem CelR.keep (h : CelR H p cs) (hk : ∀ b, bk p = some b → H' b = H b) : CelR H' p cs := by
  obtain ⟨a, rfl, ⟨o, ho⟩, hc⟩ := h
  have e := hk a.block rfl
  refine ⟨a, rfl, ⟨o, by rw [e]; exact ho⟩, fun i hi => ?_⟩
  have := hc i hi
  unfold Hp.cell? at this ⊢
  rw [add_block] at this ⊢
  rw [e]; exact this
theorem CelR.off (h : CelR H p cs) (ho : Off v H H') (ha : Apart p v) : CelR H' p cs := h.keep fun b hb => by
  obtain ⟨o, hh⟩ := h.known b hb
  rw [ho b o hh (ha b hb), hh]
theorem CelR.offS {S : Rg} (h : CelR H p cs) (ho : OffS S H H') (ha : Apt p S) : CelR H' p cs := h.keep fun b hb => by
  obtain ⟨o, hh⟩ := h.known b hb
  rw [ho b o hh (ha b hb), hh]
theorem CelR.apart (h : CelR H p cs) (hn : Nw H v) : Apart p v := Apart.of_nw h.known hn
theorem CelR.fa (h : CelR H p cs) (k : Nat) : vFa k p = some (fp p k) := by
  obtain ⟨a, rfl, _⟩ := h; rfl
theorem CelR.nilC (h : CelR H p cs) : vNilC p = some p := by
  obtain ⟨a, rfl, _⟩ := h; rfl
theorem CelR.ld (h : CelR H p cs) (k : Nat) {x : Value} (hx : cs[k]? = some x) : vLoad (fp p k) H = some x := by
  obtain ⟨a, rfl, _, hc⟩ := h
  obtain ⟨hk, rfl⟩ := List.getElem?_eq_some_iff.mp hx
  exact hc k hk
theorem CelR.ld0 (h : CelR H p cs) {x : Value} (hx : cs[0]? = some x) : vLoad p H = some x := by
  obtain ⟨a, rfl, _, hc⟩ := h
  obtain ⟨hk, rfl⟩ := List.getElem?_eq_some_iff.mp hx
  have := hc 0 hk
  rw [show a.add 0 = a by unfold Addr.add; simp] at this
  exact this
theorem CelR.ldn (h : CelR H p cs) {n : Nat} (hn : cs.length = n) : vLoadN n p H = some (.agg cs.toArray) := by
  obtain ⟨a, rfl, _, hc⟩ := h
  simp only [vLoadN]
  rw [rd_cells (enc := id) a n 0 cs hn (fun i hi => by rw [Nat.zero_add]; exact hc i hi)]
  simp
theorem CelR.cast {ds : List Value} (e : cs = ds) (h : CelR H p cs) : CelR H p ds := e ▸ h
end
theorem OwnE.blk {n : Nat} {α : Type} {enc : α → List Value} {H : Hp} {v : Value} {l : List α} (h : OwnE n enc H v l) (hn : ∀ x, (enc x).length = n) (n0 : 0 < n) {i : Nat} (hi : i < l.length) :
    ∃ a c, v = .slice (some a) l.length c ∧ (∃ o, H a.block = some o) ∧ bk v = some a.block ∧ ∀ j (hj : j < n), H.cell? (a.add (i * n + j)) = (enc l[i])[j]? := by
  have hs := h.sl hn
  obtain ⟨a, c, e, hc⟩ := hs.base hn n0 hi
  have hb : bk v = some a.block := by
    obtain ⟨a', c', e', h1, _⟩ := h
    rw [e] at e'
    simp only [Value.slice.injEq] at e'
    rw [e]
    simp only [bk]
    rw [if_neg (by omega)]
  exact ⟨a, c, e, h.known _ hb, hb, hc⟩
/-- An element of a family, by its pointer. -/
theorem Fam.el {H : Hp} {v : Value} {S : Rg} {fs : List FdL} {f : FdL} (h : Fam H v S fs) {i : Int} (i0 : 0 ≤ i) (i1 : i < fs.length) (e : at_ fd0 fs i = f) :
    ∃ P x, vIx 3 v (.int .i64 i) = some P ∧ CelR H P [.int .i64 f.r, .int .i64 f.c, x] ∧ Ro eI H x f.l ∧ (∀ b, bk P = some b → S b) ∧ (∀ b, bk x = some b → S b) := by
  obtain ⟨L, h1, h2, h3, h4, h5⟩ := h
  obtain ⟨n, rfl⟩ := Int.eq_ofNat_of_zero_le i0
  have hl := h2.len
  have hn : n < L.length := by omega
  obtain ⟨g1, g2, g3⟩ := h2.get hn
  obtain ⟨a, c, rfl, ho, hb, hc⟩ := h1.blk encFv_n (by omega) hn
  have hx := at_get fv0 hn
  subst e
  refine ⟨.pointer (some (a.add (n * 3))), (at_ fv0 L (n : Int)).v, ?_, ⟨_, rfl, by rw [add_block]; exact ho, fun j hj => ?_⟩, g3.ro, fun b hb2 => ?_, fun b hb2 => ?_⟩
  · simp only [vIx]
    rw [if_pos (by omega)]; rfl
  · simp only [List.length_cons, List.length_nil] at hj
    rw [add_add, hc j (by omega), ← hx]
    simp only [encFv]
    have hj3 : j = 0 ∨ j = 1 ∨ j = 2 := by omega
    rcases hj3 with rfl | rfl | rfl
    · simp [g1]
    · simp [g2]
    · simp
  · simp only [bk, add_block, Option.some.injEq] at hb2
    subst hb2
    exact (h5 _).mpr (.inl hb)
  · exact (h5 _).mpr (.inr ⟨_, at_mem fv0 L (by omega) (by omega), hb2⟩)
theorem Apt.ap2 {α : Type} [Bks α] {z : α} {u u' : Value} {H : Hp} (hz : Kn H z) (ha : Apt z u) (hb : ∀ b, bk u' = some b → bk u = some b ∨ H b = none) : Apt z u' := fun b h1 h2 => by
  rcases hb b h2 with h | h
  · exact ha b h1 h
  · obtain ⟨o, ho⟩ := hz b h1
    rw [h] at ho; simp at ho
theorem Mp.cast {H : Hp} {p : Value} {S : Rg} {ms ns : List (ByteArray × Int)} (e : ms = ns) (h : Mp H p S ms) : Mp H p S ns := e ▸ h
def cvBS (P : Program) (s d : TypeId) : Bool := match P.underlying s, P.underlying d with
  | some (.slice e), some .string => (match P.underlying e with | some (.int .u8) => true | _ => false)
  | _, _ => false
theorem val_convBS {P : Program} {s d : TypeId} {H : Hp} {v : Value} {l : List Int} (h : cvBS P s d = true) (hs : Sl eU H v l) : val P (convert s d v) H = some (.string (bytesS .empty l)) := by
  unfold cvBS at h
  split at h
  · rename_i e h1 h2
    split at h
    · rename_i h3
      have hv := val_bytesToString (P := P) hs
      obtain ⟨a, n, c, rfl⟩ := hs.isSl
      unfold convert
      rw [val_bind', val_underlying, h1, Option.bind_some, val_bind', val_underlying, h2, Option.bind_some]
      simp only
      rw [val_bind', val_underlying, h3, Option.bind_some]
      exact hv
    · simp at h
  · simp at h
theorem vCI_u8 {k : IntKind} {a : Int} (h : 0 ≤ a) (h' : a ≤ 255) : vCI .u8 (.int k a) = some (.int .u8 a) := by
  have : IntKind.u8.wrap a = a := by unfold IntKind.wrap; simp [IntKind.signed, IntKind.bits]; omega
  simp only [vCI, this]
end HL
end Go.Proofs.YtffmfkpobjdmmaaGreatDoor
/- Texts: bytes turned to texts, small numbers, the rows of a field. -/
namespace Go.Proofs.YtffmfkpobjdmmaaGreatDoor
open HL
set_option maxRecDepth 100000
namespace HL
def btT (l : List Int) : List UInt8 := l.map fun n => UInt8.ofNat n.toNat
theorem val_convT {P : Program} {s d : TypeId} {H : Hp} {v : Value} {l : List Int} (h : cvBS P s d = true) (hs : Sl eU H v l) : val P (convert s d v) H = some (vS (btT l)) := by
  rw [val_convBS h hs, tS_of (bytesS .empty l), bytesS_data]
  rfl
theorem Cel.castX {H : Hp} {p : Value} {cs ds : List Value} (e : cs = ds) (h : Cel H p cs) : Cel H p ds := e ▸ h
end HL
def digT : List UInt8 := [48, 49, 50, 51, 52, 53, 54, 55, 56, 57, 97, 98, 99, 100, 101, 102, 103, 104, 105, 106, 107, 108, 109, 110, 111, 112, 113, 114, 115, 116, 117, 118, 119, 120, 121, 122]
def dig2T : List UInt8 := [48, 48, 48, 49, 48, 50, 48, 51, 48, 52, 48, 53, 48, 54, 48, 55, 48, 56, 48, 57, 49, 48, 49, 49, 49, 50, 49, 51, 49, 52, 49, 53, 49, 54, 49, 55, 49, 56, 49, 57, 50, 48, 50, 49, 50, 50, 50, 51, 50, 52, 50, 53, 50, 54, 50, 55, 50, 56, 50, 57, 51, 48, 51, 49, 51, 50, 51, 51, 51, 52, 51, 53, 51, 54, 51, 55, 51, 56, 51, 57, 52, 48, 52, 49, 52, 50, 52, 51, 52, 52, 52, 53, 52, 54, 52, 55, 52, 56, 52, 57, 53, 48, 53, 49, 53, 50, 53, 51, 53, 52, 53, 53, 53, 54, 53, 55, 53, 56, 53, 57, 54, 48, 54, 49, 54, 50, 54, 51, 54, 52, 54, 53, 54, 54, 54, 55, 54, 56, 54, 57, 55, 48, 55, 49, 55, 50, 55, 51, 55, 52, 55, 53, 55, 54, 55, 55, 55, 56, 55, 57, 56, 48, 56, 49, 56, 50, 56, 51, 56, 52, 56, 53, 56, 54, 56, 55, 56, 56, 56, 57, 57, 48, 57, 49, 57, 50, 57, 51, 57, 52, 57, 53, 57, 54, 57, 55, 57, 56, 57, 57]
theorem dig_one : ∀ n : Nat, n < 10 → (digT.drop n).take (n + 1 - n) = decT n := by decide +kernel
theorem dig_two : ∀ n : Nat, n < 100 → 10 ≤ n → (dig2T.drop (n * 2)).take (n * 2 + 2 - n * 2) = decT n := by decide +kernel
theorem small_one {n : Int} (h0 : 0 ≤ n) (h1 : n < 10) : (digT.drop n.toNat).take ((n + 1).toNat - n.toNat) = decT n.toNat := by
  have := dig_one n.toNat (by omega)
  rw [show (n + 1).toNat = n.toNat + 1 by omega]; exact this
theorem small_two {n : Int} (h0 : 10 ≤ n) (h1 : n < 100) : (dig2T.drop (n * 2).toNat).take ((n * 2 + 2).toNat - (n * 2).toNat) = decT n.toNat := by
  have := dig_two n.toNat (by omega) (by omega)
  rw [show (n * 2 + 2).toNat = n.toNat * 2 + 2 by omega, show (n * 2).toNat = n.toNat * 2 by omega]; exact this
theorem num_one {n : Int} (h0 : 0 ≤ n) (h1 : n < 10) : btT [48 + n] = decT n.toNat := by
  unfold btT decT
  rw [if_pos (by omega)]
  simp only [List.map_cons, List.map_nil]
  rw [show (48 + n).toNat = 48 + n.toNat by omega]
theorem num_two {n : Int} (h0 : 10 ≤ n) (h1 : n < 100) : decT (n / 10).toNat ++ btT [48 + n % 10] = decT n.toNat := by
  unfold btT decT
  rw [if_pos (by omega), if_neg (by omega)]
  simp only [List.map_cons, List.map_nil, List.singleton_append]
  rw [show (48 + n % 10).toNat = 48 + n.toNat % 10 by omega, show (n / 10).toNat = n.toNat / 10 by omega]
theorem bo_T {x : Int} (h0 : 0 ≤ x) (h1 : x ≤ 1) : (([98, 111] : List UInt8).drop x.toNat).take ((x + 1).toNat - x.toNat) = [chT x] := by
  rcases show x = 0 ∨ x = 1 by omega with rfl | rfl <;> rfl
theorem chT_1 {x : Int} (h : x = 1) : ([111] : List UInt8) = [chT x] := by subst h; rfl
theorem chT_0 {x : Int} (h : ¬ x = 1) : ([98] : List UInt8) = [chT x] := by unfold chT; rw [if_neg h]
/-- The rows' texts. -/
def rowsT (c : Nat) (l : List Int) (n : Nat) : List (List UInt8) := (List.range n).map fun i => rtx (rowL c l i)
theorem rowsT_len {c : Nat} {l : List Int} {n : Nat} : (rowsT c l n).length = n := by simp [rowsT]
theorem rowsT_succ {c : Nat} {l : List Int} {n : Nat} : rowsT c l (n + 1) = rowsT c l n ++ [rtx (rowL c l n)] := by simp [rowsT, List.range_succ]
theorem rowsT_flat {c : Nat} {l : List Int} : ∀ n : Nat, (rowsT c l n).flatten.length ≤ n * (3 * c)
  | 0 => by simp [rowsT]
  | n + 1 => by
    have ih := rowsT_flat (c := c) (l := l) n
    have h2 := rtx_len c (rowL c l n) (by unfold rowL; simp; omega)
    have h3 : (rowL c l n).length ≤ c := by unfold rowL; simp; omega
    rw [rowsT_succ]
    simp only [List.flatten_append, List.length_append, List.flatten_cons, List.flatten_nil, List.append_nil]
    rw [Nat.add_mul]
    omega
def joinR (c : Nat) (l : List Int) (n : Nat) : List UInt8 := joinT [36] (rowsT c l n)
theorem joinR_zero {c : Nat} {l : List Int} : joinR c l 0 = [] := rfl
theorem joinR_one {c : Nat} {l : List Int} {n : Nat} (h : n = 0) : joinR c l (n + 1) = rtx (rowL c l n) := by
  subst h
  simp [joinR, rowsT, joinT]
theorem joinR_succ {c : Nat} {l : List Int} {n : Nat} (h : 0 < n) : joinR c l (n + 1) = joinR c l n ++ [36] ++ rtx (rowL c l n) := by
  unfold joinR
  rw [rowsT_succ]
  exact joinT_snoc _ _ _ (fun he => by have := congrArg List.length he; rw [rowsT_len] at this; simp at this; omega)
theorem joinR_len {c : Nat} {l : List Int} : ∀ n : Nat, (joinR c l n).length ≤ n * (3 * c + 1)
  | 0 => by simp [joinR_zero]
  | n + 1 => by
    have ih := joinR_len (c := c) (l := l) n
    have h2 := rtx_len c (rowL c l n) (by unfold rowL; simp; omega)
    have h3 : (rowL c l n).length ≤ c := by unfold rowL; simp; omega
    rcases Nat.eq_zero_or_pos n with h | h
    · rw [joinR_one h, Nat.add_mul]; omega
    · rw [joinR_succ h, Nat.add_mul]; simp only [List.length_append, List.length_singleton]; omega
/-- What is written ahead of the rows. -/
def headT (r c : Int) : List UInt8 := decT c.toNat ++ [44] ++ decT r.toNat ++ [58]
theorem headT_len (r c : Int) : (headT r c).length ≤ 6 := by
  have := decT_len c.toNat
  have := decT_len r.toNat
  simp only [headT, List.length_append, List.length_singleton]
  omega
/-- A field's text. -/
def fieldT (r c : Int) (l : List Int) : List UInt8 := headT r c ++ joinR c.toNat l r.toNat ++ [33]
theorem row_mul {r c : Int} {i : Nat} (hs : sidesF r c) (hi : (i : Int) < r) : ((i * c.toNat : Nat) : Int) = (i : Int) * c ∧ 0 ≤ (i : Int) * c ∧ (i : Int) * c + c ≤ r * c ∧ ((i : Int) + 1) * c = (i : Int) * c + c := by
  obtain ⟨⟨_, _⟩, _, _⟩ := hs
  have e : ((i * c.toNat : Nat) : Int) = (i : Int) * c := by rw [Int.natCast_mul, Int.toNat_of_nonneg (by omega)]
  have h1 : ((i : Int) + 1) * c ≤ r * c := Int.mul_le_mul_of_nonneg_right (by omega) (by omega)
  have h2 : ((i : Int) + 1) * c = (i : Int) * c + c := by rw [Int.add_mul, Int.one_mul]
  refine ⟨e, ?_, by omega, h2⟩
  have := Int.mul_nonneg (show (0 : Int) ≤ i by omega) (show 0 ≤ c by omega)
  exact this
theorem row_eq {r c : Int} {l : List Int} {i : Nat} (hs : sidesF r c) (hi : (i : Int) < r) : (l.drop ((i : Int) * c).toNat).take ((((i : Int) + 1) * c).toNat - ((i : Int) * c).toNat) = rowL c.toNat l i := by
  obtain ⟨e, h0, h1, h2⟩ := row_mul hs hi
  unfold rowL
  rw [show ((i : Int) * c).toNat = i * c.toNat by omega, show (((i : Int) + 1) * c).toNat - i * c.toNat = c.toNat by have := hs.2.1; omega]
theorem row_01 {c : Nat} {l : List Int} {i : Nat} (h : ∀ x ∈ l, 0 ≤ x ∧ x ≤ 1) : ∀ x ∈ rowL c l i, 0 ≤ x ∧ x ≤ 1 := fun x hx => h x (List.mem_of_mem_drop (List.mem_of_mem_take hx))
theorem endP_back {row : List Int} {e : Nat} (h : endP row e) (he : 0 < e) (h0 : at_ 0 row ((e : Int) - 1) = 0) {d : Nat} (hd : d = e - 1) : endP row d := by
  subst hd
  refine ⟨by have := h.1; omega, fun q h1 h2 => ?_⟩
  rcases Nat.lt_or_ge q e with h3 | h3
  · rw [show (q : Int) = (e : Int) - 1 by omega]; exact h0
  · exact h.2 q h3 h2
end Go.Proofs.YtffmfkpobjdmmaaGreatDoor
/- Fields that are turned and mirrored. -/
namespace Go.Proofs.YtffmfkpobjdmmaaGreatDoor
open HL
set_option maxRecDepth 100000
def turG (r c : Int) (l : List Int) (x y : Int) : Int := at_ 0 l ((r - 1 - y) * c + x)
def turL (r c : Int) (l : List Int) : List Int := mkL r (turG r c l) (c.toNat * r.toNat)
def mirG (c : Int) (l : List Int) (x y : Int) : Int := at_ 0 l (x * c + (c - 1 - y))
def mirL (r c : Int) (l : List Int) : List Int := mkL c (mirG c l) (r.toNat * c.toNat)
theorem at_01 {l : List Int} (h : ∀ x ∈ l, 0 ≤ x ∧ x ≤ 1) (i : Int) : 0 ≤ at_ 0 l i ∧ at_ 0 l i ≤ 1 := by
  unfold at_
  rw [List.getD_eq_getElem?_getD]
  cases he : l[i.toNat]? with
  | none => simp
  | some y => exact h y (List.mem_of_getElem? he)
def turF (f : FdL) : FdL := ⟨f.c, f.r, turL f.r f.c f.l⟩
def mirF (f : FdL) : FdL := ⟨f.r, f.c, mirL f.r f.c f.l⟩
def okF (f : FdL) : Prop := fieldN 1 f.r f.c f.l
theorem turF_ok {f : FdL} (h : okF f) : okF (turF f) := mkL_field ⟨h.1.2, h.1.1⟩ (fun _ _ => at_01 h.2.2 _)
theorem mirF_ok {f : FdL} (h : okF f) : okF (mirF f) := mkL_field h.1 (fun _ _ => at_01 h.2.2 _)
def imK (f : FdL) : Nat → FdL
  | 0 => f
  | k + 1 => turF (imK f k)
theorem imK_ok {f : FdL} (h : okF f) : ∀ k, okF (imK f k)
  | 0 => h
  | k + 1 => turF_ok (imK_ok h k)
/-- The field of a side. -/
def imB (f : FdL) (i : Nat) : FdL := if i = 0 then f else mirF f
theorem imB_ok {f : FdL} (h : okF f) (i : Nat) : okF (imB f i) := by
  unfold imB
  split
  · exact h
  · exact mirF_ok h
def imgs (f : FdL) (n : Nat) : List FdL := (List.range n).map fun t => imK (imB f (t / 4)) (t % 4)
theorem imgs_len (f : FdL) (n : Nat) : (imgs f n).length = n := by simp [imgs]
theorem imgs_succ (f : FdL) {i k : Nat} (hk : k < 4) : imgs f (4 * i + k) ++ [⟨(imK (imB f i) k).r, (imK (imB f i) k).c, (imK (imB f i) k).l⟩] = imgs f (4 * i + k + 1) := by
  simp only [imgs, List.range_succ, List.map_append, List.map_cons, List.map_nil]
  rw [show (4 * i + k) / 4 = i by omega, show (4 * i + k) % 4 = k by omega]
theorem cut_all {r c : Int} {l : List Int} (h1 : 0 ≤ r) (h2 : 0 < c) (hl : (l.length : Int) = r * c) : mkL c (cutG c l 0 0) (r.toNat * c.toNat) = l := by
  have hl2 := mkL_len' (c := c) (g := cutG c l 0 0) (rr := r) (cc := c) h1 (by omega)
  apply List.ext_getElem
  · omega
  · intro j g1 g2
    have d := Int.mul_ediv_add_emod (j : Int) c
    rw [Int.mul_comm] at d
    simp only [mkL, List.getElem_map, List.getElem_range, cutG]
    rw [show (0 + (j : Int) / c) * c + 0 + (j : Int) % c = (j : Int) by rw [Int.zero_add]; omega, at_get 0 g2]
/-- What is told of the field of a round, and of the next one. -/
def gL (f : FdL) (i : Nat) : List Int := if i = 0 then f.l else if i = 1 then (mirF f).l else []
def hL (f : FdL) (i : Nat) : List Int := if i = 0 then (mirF f).l else []
theorem hgL (f : FdL) (i : Nat) : hL f i = gL f (i + 1) := by
  unfold hL gL
  rcases i with _ | i <;> simp
theorem gL_eq {f : FdL} {i : Nat} (h : i < 2) : gL f i = (imB f i).l := by
  rcases (by omega : i = 0 ∨ i = 1) with rfl | rfl <;> rfl
theorem imB_r (f : FdL) (i : Nat) : (imB f i).r = f.r := by unfold imB; split <;> rfl
theorem imB_c (f : FdL) (i : Nat) : (imB f i).c = f.c := by unfold imB; split <;> rfl
end Go.Proofs.YtffmfkpobjdmmaaGreatDoor
/- Names of fields: the least text of the trimmed field's images: plain law. -/
namespace Go.Proofs.YtffmfkpobjdmmaaGreatDoor
open HL
set_option maxRecDepth 100000
theorem bytesLess_tri : ∀ a b : List UInt8, Op.bytesLess b a = !(Op.bytesLess a b || a == b)
  | [], [] => rfl
  | [], _ :: _ => rfl
  | _ :: _, [] => rfl
  | x :: a, y :: b => by
    have ih := bytesLess_tri a b
    simp only [Op.bytesLess, ih, List.cons_beq_cons]
    rcases Nat.lt_trichotomy x.toNat y.toNat with h | h | h
    · have h1 : x < y := UInt8.lt_iff_toNat_lt.mpr h
      have h2 : ¬ y < x := fun g => by have := UInt8.lt_iff_toNat_lt.mp g; omega
      have h3 : ¬ y = x := fun g => by subst g; omega
      simp [h1, h2, h3]
    · obtain rfl : x = y := UInt8.toNat_inj.mp h
      have h2 : ¬ x < x := fun g => by have := UInt8.lt_iff_toNat_lt.mp g; omega
      simp [h2]
    · have h1 : y < x := UInt8.lt_iff_toNat_lt.mpr h
      have h2 : ¬ x < y := fun g => by have := UInt8.lt_iff_toNat_lt.mp g; omega
      have h3 : ¬ x = y := fun g => by subst g; omega
      simp [h1, h2, h3]
/-- The lesser of two texts. -/
def minT (m x : List UInt8) : List UInt8 := if Op.bytesLess x m = true then x else m
/-- The least of some texts. -/
def minF : List (List UInt8) → List UInt8
  | [] => []
  | a :: r => r.foldl minT a
theorem minF_snoc (ls : List (List UInt8)) (x : List UInt8) (h : ls ≠ []) : minF (ls ++ [x]) = minT (minF ls) x := by
  cases ls with
  | nil => exact absurd rfl h
  | cons a r => simp [minF]
theorem min_tr {P : Program} {H : Hp} {K : Value → Hp → Prop} {ts : Array TypeId} {t : TypeId} {bs : Array Bool} {m x : List UInt8} (h : K (vS (minT m x)) H) : hp P (builtin .min ts t bs #[vS m, vS x]) H (nextH P K) := by
  have e : hp P (builtin .min ts t bs #[vS m, vS x]) H (nextH P K) = K (.string (if (Op.bytesLess (tS m).toList (tS x).toList || (tS m).toList == (tS x).toList) = true then tS m else tS x)) H := rfl
  rw [e]
  simp only [tS_toList]
  have : (if (Op.bytesLess m x || m == x) = true then tS m else tS x) = tS (minT m x) := by
    unfold minT
    rw [bytesLess_tri m x]
    cases Op.bytesLess m x || m == x <;> rfl
  rw [this]
  exact h
section
variable {r c : Int} {l : List Int}
theorem trF_ok (h : fieldN 1 r c l) (hb : 0 ≤ (trm r c l).2.1) : fieldN 1 (trR r c l) (trC r c l) (trL r c l) := by
  obtain ⟨h1, h2, h3, h4, h5, h6⟩ := trm_bnd h.1 hb
  have hs := h.1
  obtain ⟨⟨_, _⟩, _, _⟩ := hs
  refine ⟨⟨⟨h3, by omega⟩, h4, by omega⟩, ?_, fun x hx => ?_⟩
  · unfold trL; exact mkL_len (by omega) (by omega)
  · simp only [trL, mkL, List.mem_map] at hx
    obtain ⟨t, _, rfl⟩ := hx
    exact at_01 h.2.2 _
end
/-- The text of a field. -/
def ftx (f : FdL) : List UInt8 := fieldT f.r f.c f.l
/-- The trimmed field. -/
def tmF (r c : Int) (l : List Int) : FdL := ⟨trR r c l, trC r c l, trL r c l⟩
def imF (f : FdL) (i : Nat) : FdL := imK (imB f (i / 4)) (i % 4)
theorem imF_ok {f : FdL} (h : okF f) (i : Nat) : okF (imF f i) := imK_ok (imB_ok h _) _
theorem imF_at {f : FdL} {n i : Nat} (h : i < n) : at_ fd0 (imgs f n) (i : Int) = ⟨(imF f i).r, (imF f i).c, (imF f i).l⟩ := by
  rw [at_eq fd0 (imgs f n) (by rw [imgs_len]; omega)]
  simp [imgs, imF]
def imT (f : FdL) (n : Nat) : List (List UInt8) := (List.range n).map fun i => ftx (imF f i)
theorem imT_len {f : FdL} {n : Nat} : (imT f n).length = n := by simp [imT]
theorem imT_succ {f : FdL} {n : Nat} : imT f (n + 1) = imT f n ++ [fieldT (imF f n).r (imF f n).c (imF f n).l] := by simp [imT, List.range_succ, ftx]
theorem minF_next {f : FdL} {n : Nat} (h : 0 < n) : minF (imT f (n + 1)) = minT (minF (imT f n)) (fieldT (imF f n).r (imF f n).c (imF f n).l) := by
  rw [imT_succ]
  exact minF_snoc _ _ (fun e => by have := congrArg List.length e; rw [imT_len] at this; simp at this; omega)
theorem minF_first {f : FdL} {n : Nat} (h : n = 0) : minF (imT f (n + 1)) = fieldT (imF f n).r (imF f n).c (imF f n).l := by
  subst h; rfl
theorem minT_t {m x : List UInt8} (h : Op.bytesLess x m = true) : minT m x = x := if_pos h
theorem minT_f {m x : List UInt8} (h : ¬ Op.bytesLess x m = true) : minT m x = m := if_neg h
/-- The least of the first texts. -/
theorem minF_take {ls : List (List UInt8)} {t : Nat} (h0 : 1 ≤ t) (h : t < ls.length) : minF (ls.take (t + 1)) = minT (minF (ls.take t)) (at_ [] ls (t : Int)) := by
  rw [take_at [] ls h]
  exact minF_snoc _ _ (fun e => by have := congrArg List.length e; simp only [List.length_take, List.length_nil] at this; omega)
theorem minF_take1 {ls : List (List UInt8)} (h : 1 ≤ ls.length) : minF (ls.take 1) = at_ [] ls 0 := by
  cases ls with
  | nil => simp at h
  | cons a r => rfl
/-- A field's name. -/
def nameT (r c : Int) (l : List Int) : List UInt8 := if 0 ≤ (trm r c l).2.1 then minF (imT (tmF r c l) 8) else []
theorem nameT_t {r c : Int} {l : List Int} (h : 0 ≤ (trm r c l).2.1) : nameT r c l = minF (imT (tmF r c l) 8) := if_pos h
theorem nameT_f {r c : Int} {l : List Int} (h : (trm r c l).2.1 < 0) : nameT r c l = [] := if_neg (by omega)
end Go.Proofs.YtffmfkpobjdmmaaGreatDoor
/- A census: plain law. Names in rising order, each with how often it stands. -/
namespace Go.Proofs.YtffmfkpobjdmmaaGreatDoor
open HL
set_option maxRecDepth 100000
abbrev Txt := List UInt8
def LtT (a b : Txt) : Prop := Op.bytesLess a b = true
theorem less_lt : ∀ a b : Txt, Op.bytesLess a b = decide (a < b)
  | [], [] => rfl
  | [], _ :: _ => rfl
  | _ :: _, [] => rfl
  | x :: a, y :: b => by
    have ih := less_lt a b
    simp only [Op.bytesLess, ih, List.cons_lt_cons_iff]
    by_cases h1 : x < y <;> by_cases h2 : x = y <;> simp [h1, h2]
theorem ltT_iff {a b : Txt} : LtT a b ↔ a < b := by unfold LtT; rw [less_lt]; simp
theorem ltT_irr (a : Txt) : ¬ LtT a a := fun h => List.lt_irrefl a (ltT_iff.mp h)
theorem ltT_trans {a b c : Txt} (h : LtT a b) (h' : LtT b c) : LtT a c := ltT_iff.mpr (List.lt_trans (ltT_iff.mp h) (ltT_iff.mp h'))
theorem ltT_tri {a b : Txt} (h : ¬ LtT a b) (h' : a ≠ b) : LtT b a := by
  unfold LtT at *
  rw [bytesLess_tri a b]
  simp [h, h']
theorem ltT_ne {a b : Txt} (h : LtT a b) : a ≠ b := fun e => ltT_irr a (e ▸ h)
/-- The names of a list, rising, with how often each stands there. -/
structure Cen (ns : List Txt) (cs : List Int) (L : List Txt) : Prop where
  srt : ns.Pairwise LtT
  mem : ∀ x, x ∈ ns ↔ x ∈ L
  cnt : cs = ns.map fun x => (L.count x : Int)
theorem cen_nil : Cen [] [] [] := ⟨List.Pairwise.nil, fun _ => Iff.rfl, rfl⟩
section
variable {A B : List Txt} {b x : Txt} {cs : List Int} {ns L : List Txt}
theorem Cen.len (h : Cen ns cs L) : cs.length = ns.length := by rw [h.cnt]; simp
theorem Cen.nodup (h : Cen ns cs L) : ns.Nodup := h.srt.imp fun hab => ltT_ne hab
theorem Cen.le (h : Cen ns cs L) : ns.length ≤ L.length := by
  have : ns ⊆ L := fun x hx => (h.mem x).mp hx
  exact h.nodup.length_le_of_subset this
theorem Cen.bnd (h : Cen ns cs L) {c : Int} (hc : c ∈ cs) : 0 ≤ c ∧ c ≤ L.length := by
  rw [h.cnt] at hc
  obtain ⟨x, _, rfl⟩ := List.mem_map.mp hc
  have := List.count_le_length (a := x) (l := L)
  omega
theorem map_ne {C : List Txt} (h : ∀ a ∈ C, a ≠ x) : (C.map fun y => (L.count y : Int)) = C.map fun y => ((L ++ [x]).count y : Int) := by
  refine List.map_congr_left fun a ha => ?_
  rw [List.count_append, List.count_singleton]
  have : ¬ x = a := fun e => h a ha e.symm
  simp [this]
theorem cen_hit (h : Cen (A ++ b :: B) cs L) (hb : b = x) : Cen (A ++ b :: B) (cs.set A.length (at_ 0 cs (A.length : Int) + 1)) (L ++ [x]) := by
  subst hb
  have hs := h.srt
  rw [List.pairwise_append] at hs
  obtain ⟨_, hB, hAB⟩ := hs
  rw [List.pairwise_cons] at hB
  have hA' : ∀ a ∈ A, a ≠ b := fun a ha => ltT_ne (hAB a ha b (by simp))
  have hB' : ∀ a ∈ B, a ≠ b := fun a ha => (ltT_ne (hB.1 a ha)).symm
  refine ⟨h.srt, fun y => ?_, ?_⟩
  · rw [h.mem y, List.mem_append, List.mem_singleton]
    refine ⟨.inl, fun hy => ?_⟩
    rcases hy with hy | rfl
    · exact hy
    · exact (h.mem y).mp (by simp)
  · have hat : at_ 0 cs (A.length : Int) = (L.count b : Int) := by
      rw [h.cnt, at_eq 0 _ (by simp)]
      simp
    rw [hat, h.cnt]
    simp only [List.map_append, List.map_cons]
    rw [map_ne hA', map_ne hB', List.set_append_right _ _ (by simp)]
    simp only [List.length_map, Nat.sub_self, List.set_cons_zero]
    congr 2
    rw [List.count_append, List.count_singleton]
    simp
theorem cen_new (h : Cen (A ++ B) cs L) (hA : ∀ a ∈ A, LtT a x) (hB : ∀ b ∈ B, LtT x b) : Cen (A ++ [x] ++ B) (cs.take A.length ++ [1] ++ cs.drop A.length) (L ++ [x]) := by
  have hs := h.srt
  rw [List.pairwise_append] at hs
  obtain ⟨h1, h2, h3⟩ := hs
  have hA' : ∀ a ∈ A, a ≠ x := fun a ha => ltT_ne (hA a ha)
  have hB' : ∀ a ∈ B, a ≠ x := fun a ha => (ltT_ne (hB a ha)).symm
  have hx : x ∉ L := fun hx => by
    rcases List.mem_append.mp ((h.mem x).mpr hx) with h | h
    · exact hA' x h rfl
    · exact hB' x h rfl
  refine ⟨?_, fun y => ?_, ?_⟩
  · rw [List.append_assoc, List.pairwise_append]
    refine ⟨h1, ?_, fun a ha y hy => ?_⟩
    · rw [List.singleton_append, List.pairwise_cons]; exact ⟨hB, h2⟩
    · rw [List.singleton_append, List.mem_cons] at hy
      rcases hy with rfl | hy
      · exact hA a ha
      · exact h3 a ha y hy
  · have := h.mem y
    simp only [List.mem_append, List.mem_singleton] at this ⊢
    rw [← this]
    constructor
    · rintro ((h | h) | h)
      · exact .inl (.inl h)
      · exact .inr h
      · exact .inl (.inr h)
    · rintro ((h | h) | h)
      · exact .inl (.inl h)
      · exact .inr h
      · exact .inl (.inr h)
  · rw [h.cnt]
    simp only [List.map_append, List.map_cons, List.map_nil]
    rw [List.take_append_of_le_length (by simp), List.take_of_length_le (by simp), List.drop_append_of_le_length (by simp), List.drop_of_length_le (by simp), List.nil_append, ← map_ne hA', ← map_ne hB']
    congr 2
    rw [List.count_append, List.count_singleton, List.count_eq_zero.mpr hx]
    simp
end
section
variable {x : Txt} {cs : List Int} {ns L : List Txt} {p : Nat}
/-- One more name, at its place. -/
theorem cen_at_hit (h : Cen ns cs L) (hp : p < ns.length) (hx : at_ [] ns (p : Int) = x) : Cen ns (cs.set p (at_ 0 cs (p : Int) + 1)) (L ++ [x]) := by
  have e : ns = ns.take p ++ at_ [] ns (p : Int) :: ns.drop (p + 1) := by rw [at_eq [] ns hp]; simp
  have hl : (ns.take p).length = p := by rw [List.length_take]; omega
  rw [e] at h ⊢
  have := cen_hit h hx
  rw [hl] at this
  exact this
theorem cen_at_new (h : Cen ns cs L) (hp : p ≤ ns.length) (hA : ∀ j, j < p → LtT (at_ [] ns (j : Int)) x) (hB : p < ns.length → ¬ LtT (at_ [] ns (p : Int)) x ∧ at_ [] ns (p : Int) ≠ x) : Cen (ns.take p ++ [x] ++ ns.drop p) (cs.take p ++ [1] ++ cs.drop p) (L ++ [x]) := by
  have hl : (ns.take p).length = p := by rw [List.length_take]; omega
  have hs := h.srt
  rw [← List.take_append_drop p ns] at h
  have := cen_new h (x := x) (fun a ha => ?_) (fun b hb => ?_)
  · rw [hl] at this; exact this
  · obtain ⟨j, hj, rfl⟩ := List.getElem_of_mem ha
    rw [hl] at hj
    have := hA j hj
    rw [at_eq [] ns (by omega)] at this
    rw [List.getElem_take]
    exact this
  · obtain ⟨j, hj, rfl⟩ := List.getElem_of_mem hb
    rw [List.length_drop] at hj
    obtain ⟨h1, h2⟩ := hB (by omega)
    have h3 := ltT_tri h1 h2
    rw [at_eq [] ns (by omega)] at h3
    rw [List.getElem_drop]
    rcases Nat.eq_zero_or_pos j with rfl | hj0
    · exact h3
    · exact ltT_trans h3 (List.pairwise_iff_getElem.mp hs p (p + j) (by omega) (by omega) (by omega))
/-- The names are told by what stands in the list, not by its order. -/
theorem cen_uni {ns' L' : List Txt} {cs' : List Int} (h : Cen ns cs L) (h' : Cen ns' cs' L') (hp : L.Perm L') : ns = ns' ∧ cs = cs' := by
  have e : ns = ns' := by
    refine List.Perm.eq_of_pairwise (le := LtT) (fun a b _ _ h1 h2 => absurd (ltT_trans h1 h2) (ltT_irr a)) h.srt h'.srt ?_
    rw [List.perm_ext_iff_of_nodup h.nodup h'.nodup]
    intro a
    rw [h.mem a, h'.mem a]
    exact hp.mem_iff
  subst e
  refine ⟨rfl, ?_⟩
  rw [h.cnt, h'.cnt]
  exact List.map_congr_left fun a _ => by rw [hp.count_eq]
end
theorem cen_ex : ∀ L : List Txt, ∃ ns cs, Cen ns cs L := by
  intro L
  induction hn : L.length generalizing L with
  | zero => obtain rfl := List.length_eq_zero_iff.mp hn; exact ⟨[], [], cen_nil⟩
  | succ n ih =>
    obtain ⟨M, x, rfl⟩ : ∃ M x, L = M ++ [x] := ⟨L.dropLast, L.getLast (by intro e; rw [e] at hn; simp at hn), (List.dropLast_concat_getLast _).symm⟩
    obtain ⟨ns, cs, h⟩ := ih M (by simpa using hn)
    have hp : ∃ p, p ≤ ns.length ∧ (∀ j, j < p → LtT (at_ [] ns (j : Int)) x) ∧ (p < ns.length → ¬ LtT (at_ [] ns (p : Int)) x) := by
      have : ∀ k, k ≤ ns.length → (∀ j, j < k → LtT (at_ [] ns (j : Int)) x) ∨ ∃ p, p ≤ ns.length ∧ (∀ j, j < p → LtT (at_ [] ns (j : Int)) x) ∧ (p < ns.length → ¬ LtT (at_ [] ns (p : Int)) x) := by
        intro k
        induction k with
        | zero => intro _; exact .inl (fun j hj => absurd hj (by omega))
        | succ k ihk =>
          intro hk
          rcases ihk (by omega) with h1 | h1
          · by_cases hx : LtT (at_ [] ns (k : Int)) x
            · exact .inl fun j hj => by
                rcases Nat.lt_or_ge j k with h2 | h2
                · exact h1 j h2
                · obtain rfl : j = k := by omega
                  exact hx
            · exact .inr ⟨k, by omega, h1, fun _ => hx⟩
          · exact .inr h1
      rcases this ns.length (Nat.le_refl _) with h1 | h1
      · exact ⟨ns.length, Nat.le_refl _, h1, fun h => absurd h (by omega)⟩
      · exact h1
    obtain ⟨p, hp1, hp2, hp3⟩ := hp
    by_cases hx : p < ns.length ∧ at_ [] ns (p : Int) = x
    · exact ⟨_, _, cen_at_hit h hx.1 hx.2⟩
    · exact ⟨_, _, cen_at_new h hp1 hp2 fun hp => ⟨hp3 hp, fun e => hx ⟨hp, e⟩⟩⟩
noncomputable def cenN (L : List Txt) : List Txt := Classical.choose (cen_ex L)
noncomputable def cenC (L : List Txt) : List Int := Classical.choose (Classical.choose_spec (cen_ex L))
theorem cen_of (L : List Txt) : Cen (cenN L) (cenC L) L := Classical.choose_spec (Classical.choose_spec (cen_ex L))
theorem cen_eq {ns : List Txt} {cs : List Int} {L M : List Txt} (h : Cen ns cs L) (hp : L.Perm M) : ns = cenN M ∧ cs = cenC M := cen_uni h (cen_of M) hp
/-- The sorted list. -/
def srtT (L : List Txt) : List Txt := L.mergeSort fun x y => decide (x ≤ y)
theorem srtT_perm (L : List Txt) : (srtT L).Perm L := List.mergeSort_perm L _
theorem srtT_len (L : List Txt) : (srtT L).length = L.length := (srtT_perm L).length_eq
theorem srtT_le (L : List Txt) {i j : Nat} (hi : i < j) (hj : j < (srtT L).length) : ¬ LtT (at_ [] (srtT L) (j : Int)) (at_ [] (srtT L) (i : Int)) := by
  have h := List.pairwise_mergeSort (le := fun x y : Txt => decide (x ≤ y)) (fun a b c h1 h2 => by simp only [decide_eq_true_eq] at *; exact List.le_trans h1 h2) (fun a b => by simp only [Bool.or_eq_true, decide_eq_true_eq]; exact List.le_total a b) L
  have := List.pairwise_iff_getElem.mp h i j (by show i < (srtT L).length; omega) hj hi
  rw [at_eq [] _ hj, at_eq [] _ (by omega), ltT_iff]
  simp only [decide_eq_true_eq] at this
  exact List.not_lt.mpr this
end Go.Proofs.YtffmfkpobjdmmaaGreatDoor
/- Parts of a field, by plain law: what can be reached, starts, numbers. -/
namespace Go.Proofs.YtffmfkpobjdmmaaGreatDoor
open HL
set_option maxRecDepth 100000
/-- Cells side by side, or corner by corner; a cell and itself too. -/
def nbP (c : Int) (x y : Nat) : Prop := ((x : Int) / c - (y : Int) / c ≤ 1 ∧ (y : Int) / c - (x : Int) / c ≤ 1) ∧ (x : Int) % c - (y : Int) % c ≤ 1 ∧ (y : Int) % c - (x : Int) % c ≤ 1
theorem nbP_symm {c : Int} {x y : Nat} (h : nbP c x y) : nbP c y x := ⟨⟨h.1.2, h.1.1⟩, h.2.2, h.2.1⟩
/-- A cell of 1. -/
def onP (l : List Int) (x : Nat) : Prop := x < l.length ∧ at_ 0 l (x : Int) = 1
instance (l : List Int) (x : Nat) : Decidable (onP l x) := by unfold onP; infer_instance
/-- What can be reached from a cell. -/
inductive Rch (c : Int) (l : List Int) (s : Nat) : Nat → Prop
  | base : onP l s → Rch c l s s
  | step {x y : Nat} : Rch c l s x → nbP c x y → onP l y → Rch c l s y
section
variable {c : Int} {l : List Int} {s : Nat}
theorem Rch.on {x : Nat} (h : Rch c l s x) : onP l x ∧ onP l s := by
  induction h with
  | base h => exact ⟨h, h⟩
  | step _ _ hy ih => exact ⟨hy, ih.2⟩
theorem Rch.trans {x y : Nat} (h : Rch c l s x) (h2 : Rch c l x y) : Rch c l s y := by
  induction h2 with
  | base _ => exact h
  | step _ hn hy ih => exact ih.step hn hy
theorem Rch.symm {x : Nat} (h : Rch c l s x) : Rch c l x s := by
  induction h with
  | base h => exact .base h
  | step hx hn hy ih => exact ((Rch.base hy).step (nbP_symm hn) hx.on.1).trans ih
/-- A set that holds a cell, is sound and closed, is what can be reached. -/
theorem Rch_set {C : Nat → Prop} (hs : C s) (sd : ∀ x, C x → Rch c l s x) (cl : ∀ x y, C x → nbP c x y → onP l y → C y) (x : Nat) : C x ↔ Rch c l s x := by
  constructor
  · exact sd x
  · intro h
    induction h with
    | base _ => exact hs
    | step _ hn hy ih => exact cl _ _ ih hn hy
end
open Classical in
/-- The starts among the first cells. -/
noncomputable def stsL (c : Int) (l : List Int) : Nat → List Nat
  | 0 => []
  | i + 1 => if onP l i ∧ ∀ s ∈ stsL c l i, ¬ Rch c l s i then stsL c l i ++ [i] else stsL c l i
open Classical in
/-- A part alone. -/
noncomputable def aloL (c : Int) (l : List Int) (s : Nat) : List Int := (List.range l.length).map fun x => if Rch c l s x then 1 else 0
open Classical in
/-- The number of a cell's part; 0: none. -/
noncomputable def nuN (c : Int) (l : List Int) : List Nat → Nat → Int
  | [], _ => 0
  | s :: L, x => if Rch c l s x then 1 else if nuN c l L x = 0 then 0 else nuN c l L x + 1
section
variable {c : Int} {l : List Int}
theorem aloL_len (s : Nat) : (aloL c l s).length = l.length := by simp [aloL]
theorem stsL_on : ∀ {i s : Nat}, s ∈ stsL c l i → onP l s ∧ s < i
  | 0, s, h => by simp [stsL] at h
  | i + 1, s, h => by
    unfold stsL at h
    split at h
    · rename_i hc
      rcases List.mem_append.mp h with h | h
      · have := stsL_on h; exact ⟨this.1, by omega⟩
      · simp only [List.mem_singleton] at h; subst h; exact ⟨hc.1, by omega⟩
    · have := stsL_on h; exact ⟨this.1, by omega⟩
theorem nuN_zero : ∀ {L : List Nat} {x : Nat}, nuN c l L x = 0 ↔ ∀ s ∈ L, ¬ Rch c l s x
  | [], x => by simp [nuN]
  | s :: L, x => by
    have ih := nuN_zero (L := L) (x := x)
    have pos : ∀ L : List Nat, 0 ≤ nuN c l L x := by
      intro L
      induction L with
      | nil => simp [nuN]
      | cons a L ih => unfold nuN; split <;> (try split) <;> omega
    have := pos L
    unfold nuN
    by_cases h : Rch c l s x
    · rw [if_pos h]
      constructor
      · intro g; omega
      · intro g; exact absurd h (g s (by simp))
    · rw [if_neg h]
      by_cases h2 : nuN c l L x = 0
      · rw [if_pos h2]
        constructor
        · intro _ a ha
          rcases List.mem_cons.mp ha with rfl | ha
          · exact h
          · exact ih.mp h2 a ha
        · intro _; rfl
      · rw [if_neg h2]
        constructor
        · intro g; omega
        · intro g; exact absurd (ih.mpr (fun a ha => g a (by simp [ha]))) h2
open Classical in
/-- One more start behind the others. -/
theorem nuN_snoc {x t : Nat} : ∀ {L : List Nat}, nuN c l (L ++ [t]) x = if nuN c l L x = 0 then (if Rch c l t x then (L.length : Int) + 1 else 0) else nuN c l L x
  | [] => by
    simp only [List.nil_append, nuN, if_true, List.length_nil]
    by_cases h : Rch c l t x
    · simp [h]
    · simp [h]
  | s :: L => by
    have ih := nuN_snoc (x := x) (t := t) (L := L)
    have p0 : 0 ≤ nuN c l L x := by
      clear ih
      induction L with
      | nil => simp [nuN]
      | cons a L ih => unfold nuN; split <;> (try split) <;> omega
    simp only [List.cons_append, nuN, List.length_cons]
    by_cases h : Rch c l s x
    · rw [if_pos h, if_pos h, if_neg (by omega)]
    · rw [if_neg h, if_neg h, ih]
      by_cases h2 : nuN c l L x = 0
      · rw [if_pos h2]
        simp only [h2, if_true]
        by_cases h3 : Rch c l t x
        · rw [if_pos h3, if_pos h3, if_neg (by omega)]; omega
        · rw [if_neg h3, if_neg h3, if_pos rfl]
      · rw [if_neg h2, if_neg h2, if_neg (by omega)]
end
theorem nodup_len : ∀ (N : Nat) (ls : List Int), ls.Nodup → (∀ x ∈ ls, 0 ≤ x ∧ x < (N : Int)) → ls.length ≤ N
  | 0, ls, _, h => by
    cases ls with
    | nil => simp
    | cons a ls => have := h a (by simp); omega
  | N + 1, ls, hn, h => by
    by_cases hm : (N : Int) ∈ ls
    · obtain ⟨a, b, rfl⟩ := List.append_of_mem hm
      have h1 : (a ++ b).Nodup := by
        have := List.nodup_append.mp hn
        have h2 := List.nodup_cons.mp this.2.1
        exact List.nodup_append.mpr ⟨this.1, h2.2, fun x hx y hy => this.2.2 x hx y (by simp [hy])⟩
      have h3 : ∀ x ∈ a ++ b, x ≠ (N : Int) := by
        have := List.nodup_append.mp hn
        have h2 := List.nodup_cons.mp this.2.1
        intro x hx e
        subst e
        rcases List.mem_append.mp hx with g | g
        · exact this.2.2 _ g _ (by simp) rfl
        · exact h2.1 g
      have := nodup_len N (a ++ b) h1 (fun x hx => by
        have g := h x (by rcases List.mem_append.mp hx with g | g <;> simp [g])
        have := h3 x hx
        omega)
      simp at this ⊢; omega
    · have := nodup_len N ls hn (fun x hx => by
        have g := h x hx
        have : x ≠ (N : Int) := fun e => hm (e ▸ hx)
        omega)
      omega
open Classical in
/-- Which cells are reached from a list of starts, or are in a list. -/
noncomputable def tkB (c : Int) (l : List Int) (L : List Nat) (ls : List Int) : List Bool := (List.range l.length).map fun x => decide ((∃ s ∈ L, Rch c l s x) ∨ (x : Int) ∈ ls)
open Classical in
noncomputable def indL (l ls : List Int) : List Int := (List.range l.length).map fun (x : Nat) => if (x : Int) ∈ ls then 1 else 0
section
variable {c : Int} {l : List Int}
theorem stsL_t {i : Nat} (h : onP l i) (hn : ∀ s ∈ stsL c l i, ¬ Rch c l s i) : stsL c l (i + 1) = stsL c l i ++ [i] := by
  conv => lhs; unfold stsL
  rw [if_pos ⟨h, hn⟩]
theorem stsL_f {i : Nat} (h : ¬ (onP l i ∧ ∀ s ∈ stsL c l i, ¬ Rch c l s i)) : stsL c l (i + 1) = stsL c l i := by
  conv => lhs; unfold stsL
  rw [if_neg h]
theorem tkB_len {L : List Nat} {ls : List Int} : (tkB c l L ls).length = l.length := by simp [tkB]
theorem indL_len {ls : List Int} : (indL l ls).length = l.length := by simp [indL]
/-- A flood that has come to its end. -/
theorem flood_end {i : Nat} {ls : List Int} (hi : (i : Int) ∈ ls) (sd : ∀ x ∈ ls, ∃ k : Nat, x = (k : Int) ∧ Rch c l i k) (cl : ∀ x y : Nat, (x : Int) ∈ ls → nbP c x y → onP l y → (y : Int) ∈ ls) (x : Nat) : (x : Int) ∈ ls ↔ Rch c l i x := by
  refine Rch_set (C := fun x : Nat => (x : Int) ∈ ls) hi (fun y hy => ?_) (fun y z h1 h2 h3 => cl y z h1 h2 h3) x
  obtain ⟨k, hk, hr⟩ := sd _ hy
  have : y = k := by omega
  subst this; exact hr
theorem tkB_end {i : Nat} {L : List Nat} {ls : List Int} (h : ∀ x : Nat, (x : Int) ∈ ls ↔ Rch c l i x) : tkB c l L ls = tkB c l (L ++ [i]) [] := by
  unfold tkB
  apply List.map_congr_left
  intro x _
  apply decide_eq_decide.mpr
  rw [h x]
  constructor
  · rintro (⟨s, h1, h2⟩ | h1)
    · exact .inl ⟨s, by simp [h1], h2⟩
    · exact .inl ⟨i, by simp, h1⟩
  · rintro (⟨s, h1, h2⟩ | h1)
    · rcases List.mem_append.mp h1 with h1 | h1
      · exact .inl ⟨s, h1, h2⟩
      · simp only [List.mem_singleton] at h1; subst h1; exact .inr h2
    · simp at h1
theorem indL_end {i : Nat} {ls : List Int} (h : ∀ x : Nat, (x : Int) ∈ ls ↔ Rch c l i x) : indL l ls = aloL c l i := by
  unfold indL aloL
  apply List.map_congr_left
  intro x _
  by_cases g : Rch c l i x
  · rw [if_pos ((h x).mpr g), if_pos g]
  · rw [if_neg (fun q => g ((h x).mp q)), if_neg g]
end
end Go.Proofs.YtffmfkpobjdmmaaGreatDoor
