/- Life on fields, step by step: the program's and the reference's. -/
import Derived.Test.YtaflemogkogkkaaUL
import Derived.Test.YtaflemogkogkkaaUF
import Derived.Test.YtaflemogkogkkaaSI
import Derived.Test.YtaflemogkogkkaaSE
namespace Go.Proofs.Ytaflemogkogkkaa
open HL
set_option maxRecDepth 100000
theorem C.spec_l04Counts {va : Value} {l : List Int}  {H : Hp} {K : Value → Hp → Prop} (hva0 : Sl eI H va l) (k1 : l.length ≤ 9223372036854775807)
    (hk : ∀ H', Le H H' → K (.bool (decide (cntP l))) H') : HT prg I.spec_l04Counts [va].toArray H K := by
  have lE := Le.refl H
  have hva := hva0
  refine R.spec_l04Counts ?_
  unfold F.spec_l04Counts
  refine jn_i (fun σ' H' => Le H H' ∧ cntU l l.length ∧ cntV l l.length) (fun σ1 H1 hP => ?_) (fun J1 hJ1 => ?_)
  · skip
    obtain ⟨lE, ho0⟩ := hP
    have hva := hva0.le lE
    skip
    exact keq (K := K) (by rw [decide_eq_true (show (cntP l) from by exact ⟨cntV_all ho0.2 (Nat.le_refl _), ho0.1⟩)]) (hk   _    lE)
  refine ⟨fun n' σ' H' => ∃ i : Nat, n' = l.length - i ∧ i ≤ l.length ∧ σ' 0 = va ∧ σ' 3 = (.int .i64 ((i : Int))) ∧ Le H H' ∧ cntU l i ∧ cntV l i,
    ⟨_, 0, rfl, by omega, rfl, (congrArg (Value.int .i64) (by first | omega | rfl | (simp; done))), lE, ⟨cntU_zero l, cntV_zero l⟩⟩, ?_⟩
  rintro n2 σ2 H2 ⟨i, rfl, hiN, g0L2, g3L2, lE, hpre⟩
  have hva := hva0.le lE
  try simp only [g0L2, g3L2]
  refine ob_i (hva.len) ?_
  refine ob_i (vInt_lss _ _ _) ?_
  refine cnd_d (fun hg3 => ?_) (fun hg3 => ?_)
  · skip
    have ti := hg3
    refine ob_i (hva.ix (by omega) (by omega)) ?_
    refine ob_i (hva.ld 0 (by omega) (by omega)) ?_
    refine C.spec_l00In  ?_
    refine ⟨Le.refl _, ?_⟩
    refine ob_nd (fun hc4 => ?_) (fun hc4 => ?_)
    · skip
      refine gop_rf ?_
      refine gop_rf ?_
      refine ob_i (vInt_gtr _ _ _) ?_
      refine gop_rf ?_
      by_cases hc5 : 0 < (i : Int)
      · skip
        refine gop_e (decide_eq_true hc5) ?_
        refine gop_rt ?_
        refine gop_e (decide_eq_true hc5) ?_
        refine gop_rt ?_
        refine gop_e (decide_eq_true hc5) ?_
        refine gop_rt ?_
        refine ob_i (hva.ix (by omega) (by omega)) ?_
        refine gop_e (decide_eq_true hc5) ?_
        refine gop_rt ?_
        refine ob_i (hva.ld 0 (by omega) (by omega)) ?_
        refine gop_e (decide_eq_true hc5) ?_
        refine gop_rt ?_
        refine gop_e (decide_eq_true hc5) ?_
        refine gop_rt ?_
        refine gop_e (decide_eq_true hc5) ?_
        refine gop_rt ?_
        refine ob_i (vInt_sub (by omega) (by omega)) ?_
        refine gop_e (decide_eq_true hc5) ?_
        refine gop_rt ?_
        refine ob_i (hva.ix (by omega) (by omega)) ?_
        refine gop_e (decide_eq_true hc5) ?_
        refine gop_rt ?_
        refine ob_i (hva.ld 0 (by omega) (by omega)) ?_
        refine gop_e (decide_eq_true hc5) ?_
        refine gop_rt ?_
        refine ob_i (vInt_leq _ _ _) ?_
        refine gop_rf ?_
        refine ob_i (vPick_et (decide_eq_true hc5) _ _) ?_
        refine ob_i (vPick_f _ _) ?_
        refine cnd_d (fun hg6 => ?_) (fun hg6 => ?_)
        · skip
          refine retK (K := K) (v' := (.bool false)) rfl ?_
          skip
          exact keq (K := K) (by rw [decide_eq_false (show ¬ (cntP l) from by intro h; have h1 := cntP_in h (j := i) (by omega); have h2 := cntP_up h (j := i) (by omega); omega)]) (hk   _    lE)
        · skip
          refine ob_i (vInt_add (by omega) (by omega)) ?_
          exact nxt (l.length - (i + 1)) (by omega) ⟨i + 1, rfl, by omega, g0L2, (congrArg (Value.int .i64) (by first | omega | rfl | (simp; done))), lE, ⟨cntU_succ hpre.1 (by intro; omega), cntV_succ hpre.2 (by first | assumption | omega)⟩⟩
      · skip
        refine gop_e (decide_eq_false hc5) ?_
        refine gop_sf ?_
        refine gop_e (decide_eq_false hc5) ?_
        refine gop_sf ?_
        refine gop_e (decide_eq_false hc5) ?_
        refine gop_sf ?_
        refine gop_e (decide_eq_false hc5) ?_
        refine gop_sf ?_
        refine gop_e (decide_eq_false hc5) ?_
        refine gop_sf ?_
        refine gop_e (decide_eq_false hc5) ?_
        refine gop_sf ?_
        refine gop_e (decide_eq_false hc5) ?_
        refine gop_sf ?_
        refine gop_e (decide_eq_false hc5) ?_
        refine gop_sf ?_
        refine gop_e (decide_eq_false hc5) ?_
        refine gop_sf ?_
        refine gop_e (decide_eq_false hc5) ?_
        refine gop_sf ?_
        refine gop_rf ?_
        refine ob_i (vPick_ef (decide_eq_false hc5) _ _) ?_
        refine ob_i (vPick_f _ _) ?_
        refine cnd_f1 ?_
        refine ob_i (vInt_add (by omega) (by omega)) ?_
        exact nxt (l.length - (i + 1)) (by omega) ⟨i + 1, rfl, by omega, g0L2, (congrArg (Value.int .i64) (by first | omega | rfl | (simp; done))), lE, ⟨cntU_succ hpre.1 (by intro; omega), cntV_succ hpre.2 (by first | assumption | omega)⟩⟩
    · skip
      refine gop_st ?_
      refine gop_st ?_
      refine gop_st ?_
      refine gop_u ?_
      refine gop_u ?_
      refine gop_u ?_
      refine gop_u ?_
      refine gop_u ?_
      refine gop_u ?_
      refine gop_u ?_
      refine gop_u ?_
      refine gop_u ?_
      refine gop_u ?_
      refine gop_st ?_
      refine ob_i (vPick_t _ _) ?_
      refine cnd_t1 ?_
      refine retK (K := K) (v' := (.bool false)) rfl ?_
      skip
      exact keq (K := K) (by rw [decide_eq_false (show ¬ (cntP l) from by intro h; have h1 := cntP_in h (j := i) (by omega); have h2 := cntP_up h (j := i) (by omega); omega)]) (hk   _    lE)
  · skip
    have ti := hg3
    exact hJ1 _ _ ⟨lE, (by rw [show l.length = i by omega]; exact hpre)⟩
theorem C.impl_areCounts {va : Value} {l : List Int}  {H : Hp} {K : Value → Hp → Prop} (hva0 : Sl eI H va l) (k1 : l.length ≤ 9223372036854775807)
    (hk : ∀ H', Le H H' → K (.bool (decide (cntP l))) H') : HT prg I.impl_areCounts [va].toArray H K := by
  have lE := Le.refl H
  have hva := hva0
  refine R.impl_areCounts ?_
  unfold F.impl_areCounts
  refine jn_i (fun σ' H' => σ' 0 = va ∧ Le H H' ∧ cntU l l.length) (fun σ1 H1 hP => ?_) (fun J1 hJ1 => ?_)
  · skip
    obtain ⟨g0L1, lE, ho0⟩ := hP
    have hva := hva0.le lE
    try simp only [g0L1]
    refine C.impl_areWithin hva (by first | omega | assumption) ?_
    skip
    exact keq (K := K) (by rw [show decide (∀ x ∈ l, 0 ≤ x ∧ x ≤ 8) = decide (cntP l) from decide_eq_decide.mpr (by exact ⟨fun h => ⟨h, ho0⟩, fun h => h.1⟩)]) (hk   _    lE)
  refine ⟨fun n' σ' H' => ∃ i : Nat, n' = l.length - i ∧ i ≤ l.length ∧ σ' 0 = va ∧ σ' 3 = (.int .i64 ((i : Int) + 1)) ∧ Le H H' ∧ cntU l (i + 1),
    ⟨_, 0, rfl, by omega, rfl, (congrArg (Value.int .i64) (by first | omega | rfl | (simp; done))), lE, cntU_one l⟩, ?_⟩
  rintro n2 σ2 H2 ⟨i, rfl, hiN, g0L2, g3L2, lE, hpre⟩
  have hva := hva0.le lE
  try simp only [g0L2, g3L2]
  refine ob_i (hva.len) ?_
  refine ob_i (vInt_lss _ _ _) ?_
  refine cnd_d (fun hg3 => ?_) (fun hg3 => ?_)
  · skip
    have ti := hg3
    refine ob_i (hva.ix (by omega) (by omega)) ?_
    refine ob_i (hva.ld 0 (by omega) (by omega)) ?_
    refine ob_i (vInt_sub (by omega) (by omega)) ?_
    refine ob_i (hva.ix (by omega) (by omega)) ?_
    refine ob_i (hva.ld 0 (by omega) (by omega)) ?_
    refine ob_i (vInt_leq _ _ _) ?_
    refine cnd_d (fun hg4 => ?_) (fun hg4 => ?_)
    · skip
      refine retK (K := K) (v' := (.bool false)) rfl ?_
      skip
      exact keq (K := K) (by rw [decide_eq_false (show ¬ (cntP l) from by intro h; have h2 := cntP_up h (j := i + 1) (by omega); rw [show (((i + 1 : Nat) : Int)) = (i : Int) + 1 by omega] at h2; omega)]) (hk   _    lE)
    · skip
      refine ob_i (vInt_add (by omega) (by omega)) ?_
      exact nxt (l.length - (i + 1)) (by omega) ⟨i + 1, rfl, by omega, g0L2, (congrArg (Value.int .i64) (by first | omega | rfl | (simp; done))), lE, cntU_succ hpre (by intro; rw [show (((i + 1 : Nat) : Int)) = (i : Int) + 1 by omega]; omega)⟩
  · skip
    have ti := hg3
    exact hJ1 _ _ ⟨g0L2, lE, cntU_full hpre (by omega)⟩
theorem C.spec_l04Life {w vb vs : Value} {b : List Int} {s : List Int}  {H : Hp} {K : Value → Hp → Prop} (hw0 : Cel H w [vb, vs]) (hvb0 : Sl eI H vb b) (hvs0 : Sl eI H vs s) (kb : b.length ≤ 9223372036854775807) (ks : s.length ≤ 9223372036854775807)
    (hk : ∀ H', Le H H' → K (.bool (decide (lifP b s))) H') : HT prg I.spec_l04Life [w].toArray H K := by
  have lE := Le.refl H
  have hw := hw0
  have hvb := hvb0
  have hvs := hvs0
  refine R.spec_l04Life ?_
  unfold F.spec_l04Life
  refine ob_i (hw.nilC) ?_
  refine ob_i (hw.fa 0) ?_
  refine ob_i (hw.ld 0 rfl) ?_
  refine C.spec_l04Counts hvb (by first | omega | assumption) (fun   H1    le2 => ?_)
  replace hw := hw.le le2
  replace hvb := hvb.le le2
  replace hvs := hvs.le le2
  replace lE := lE.trans le2
  by_cases hc3 : cntP b
  · skip
    refine gop_e (decide_eq_true hc3) ?_
    refine gop_rt ?_
    refine gop_e (decide_eq_true hc3) ?_
    refine gop_rt ?_
    refine ob_i (hw.nilC) ?_
    refine gop_e (decide_eq_true hc3) ?_
    refine gop_rt ?_
    refine ob_i (hw.fa 1) ?_
    refine gop_e (decide_eq_true hc3) ?_
    refine gop_rt ?_
    refine ob_i (hw.ld 1 rfl) ?_
    refine gop_e (decide_eq_true hc3) ?_
    refine gop_rt ?_
    refine C.spec_l04Counts hvs (by first | omega | assumption) (fun   H4    le5 => ?_)
    replace hw := hw.le le5
    replace hvb := hvb.le le5
    replace hvs := hvs.le le5
    replace lE := lE.trans le5
    refine ob_i (vPick_et (decide_eq_true hc3) _ _) ?_
    skip
    exact keq (K := K) (by rw [show decide (cntP s) = decide (lifP b s) from decide_eq_decide.mpr (by exact ⟨fun h => ⟨by assumption, h⟩, fun h => h.2⟩)]) (hk   _    lE)
  · skip
    refine gop_e (decide_eq_false hc3) ?_
    refine gop_sf ?_
    refine gop_e (decide_eq_false hc3) ?_
    refine gop_sf ?_
    refine gop_e (decide_eq_false hc3) ?_
    refine gop_sf ?_
    refine gop_e (decide_eq_false hc3) ?_
    refine gop_sf ?_
    refine gop_e (decide_eq_false hc3) ?_
    refine gop_sf ?_
    refine ob_i (vPick_ef (decide_eq_false hc3) _ _) ?_
    skip
    have hc_ := hc3
    exact keq (K := K) (by rw [decide_eq_false (show ¬ (lifP b s) from by exact fun h => hc_ h.1)]) (hk   _    lE)
theorem C.impl_ValidLife {vb vs : Value} {b : List Int} {s : List Int}  {H : Hp} {K : Value → Hp → Prop} (hvb0 : Sl eI H vb b) (hvs0 : Sl eI H vs s) (kb : b.length ≤ 9223372036854775807) (ks : s.length ≤ 9223372036854775807)
    (hk : ∀ H', Le H H' → K (.bool (decide (lifP b s))) H') : HT prg I.impl_ValidLife [(.agg #[vb, vs])].toArray H K := by
  have lE := Le.refl H
  have hvb := hvb0
  have hvs := hvs0
  refine R.impl_ValidLife ?_
  unfold F.impl_ValidLife
  refine nw_i (fun p1 H2 op1 nn3 le4 => ?_)
  have np1 : Nw H p1 := nn3.le lE
  replace hvb := hvb.le le4
  replace hvs := hvs.le le4
  replace lE := lE.trans le4
  replace op1 : Cel H2 p1 [vb, vs] := op1
  refine ob_i (op1.fa 0) ?_
  refine ob_i (op1.ld 0 rfl) ?_
  refine C.impl_areCounts hvb (by first | omega | assumption) (fun   H5    le6 => ?_)
  replace op1 := op1.le le6
  replace hvb := hvb.le le6
  replace hvs := hvs.le le6
  replace lE := lE.trans le6
  by_cases hc7 : cntP b
  · skip
    refine gop_e (decide_eq_true hc7) ?_
    refine gop_rt ?_
    refine ob_i (op1.fa 1) ?_
    refine gop_e (decide_eq_true hc7) ?_
    refine gop_rt ?_
    refine ob_i (op1.ld 1 rfl) ?_
    refine gop_e (decide_eq_true hc7) ?_
    refine gop_rt ?_
    refine C.impl_areCounts hvs (by first | omega | assumption) (fun   H8    le9 => ?_)
    replace op1 := op1.le le9
    replace hvb := hvb.le le9
    replace hvs := hvs.le le9
    replace lE := lE.trans le9
    refine ob_i (vPick_et (decide_eq_true hc7) _ _) ?_
    skip
    exact keq (K := K) (by rw [show decide (cntP s) = decide (lifP b s) from decide_eq_decide.mpr (by exact ⟨fun h => ⟨by assumption, h⟩, fun h => h.2⟩)]) (hk   _    lE)
  · skip
    refine gop_e (decide_eq_false hc7) ?_
    refine gop_sf ?_
    refine gop_e (decide_eq_false hc7) ?_
    refine gop_sf ?_
    refine gop_e (decide_eq_false hc7) ?_
    refine gop_sf ?_
    refine ob_i (vPick_ef (decide_eq_false hc7) _ _) ?_
    skip
    have hc_ := hc7
    exact keq (K := K) (by rw [decide_eq_false (show ¬ (lifP b s) from by exact fun h => hc_ h.1)]) (hk   _    lE)
theorem C.spec_l04Can {w p vb vs vc : Value} {r c : Int} {b : List Int} {s : List Int} {l : List Int}  {H : Hp} {K : Value → Hp → Prop} (hw0 : Cel H w [vb, vs]) (hp0 : Cel H p [(.int .i64 (r)), (.int .i64 (c)), vc]) (hvb0 : Sl eI H vb b) (hvs0 : Sl eI H vs s) (hvc0 : Sl eI H vc l) (kb : b.length ≤ 9223372036854775807) (ks : s.length ≤ 9223372036854775807) (k1 : l.length ≤ 9223372036854775807)
    (hk : ∀ H', Le H H' → K (.bool (decide (canP b s r c l))) H') : HT prg I.spec_l04Can [w, p].toArray H K := by
  have lE := Le.refl H
  have hw := hw0
  have hp := hp0
  have hvb := hvb0
  have hvs := hvs0
  have hvc := hvc0
  refine R.spec_l04Can ?_
  unfold F.spec_l04Can
  refine C.spec_l04Life hw hvb hvs (by first | omega | assumption) (by first | omega | assumption) (fun   H1    le2 => ?_)
  replace hw := hw.le le2
  replace hp := hp.le le2
  replace hvb := hvb.le le2
  replace hvs := hvs.le le2
  replace hvc := hvc.le le2
  replace lE := lE.trans le2
  by_cases hc3 : lifP b s
  · skip
    refine gop_e (decide_eq_true hc3) ?_
    refine gop_rt ?_
    refine gop_e (decide_eq_true hc3) ?_
    refine gop_rt ?_
    refine C.spec_l04Plain hp hvc (by first | omega | assumption) ?_
    refine ob_i (vPick_et (decide_eq_true hc3) _ _) ?_
    skip
    exact keq (K := K) (by rw [show decide (fieldN 1 r c l) = decide (canP b s r c l) from decide_eq_decide.mpr (by exact ⟨fun h => ⟨by assumption, h⟩, fun h => h.2⟩)]) (hk   _    lE)
  · skip
    refine gop_e (decide_eq_false hc3) ?_
    refine gop_sf ?_
    refine gop_e (decide_eq_false hc3) ?_
    refine gop_sf ?_
    refine ob_i (vPick_ef (decide_eq_false hc3) _ _) ?_
    skip
    have hc_ := hc3
    exact keq (K := K) (by rw [decide_eq_false (show ¬ (canP b s r c l) from by exact fun h => hc_ h.1)]) (hk   _    lE)
theorem C.impl_lives {vb vs vc vv : Value} {r c : Int} {b : List Int} {s : List Int} {l : List Int}  {H : Hp} {K : Value → Hp → Prop} (hvb0 : Sl eI H vb b) (hvs0 : Sl eI H vs s) (hvc0 : Sl eI H vc l) (hvv0 : SlE 3 encFv H vv ([⟨r, c, vc⟩])) (kb : b.length ≤ 9223372036854775807) (ks : s.length ≤ 9223372036854775807) (k1 : l.length ≤ 9223372036854775807)
    (hk : ∀ H', Le H H' → K (.bool (decide (canP b s r c l))) H') : HT prg I.impl_lives [(.agg #[vb, vs]), vv].toArray H K := by
  have lE := Le.refl H
  have hvb := hvb0
  have hvs := hvs0
  have hvc := hvc0
  have hvv := hvv0
  refine R.impl_lives ?_
  unfold F.impl_lives
  refine nw_i (fun p1 H2 op1 nn3 le4 => ?_)
  have np1 : Nw H p1 := nn3.le lE
  replace hvb := hvb.le le4
  replace hvs := hvs.le le4
  replace hvc := hvc.le le4
  replace hvv := hvv.le le4
  replace lE := lE.trans le4
  replace op1 : Cel H2 p1 [vb, vs] := op1
  refine ob_i (op1.ldn rfl) ?_
  refine C.impl_ValidLife hvb hvs (by first | omega | assumption) (by first | omega | assumption) (fun   H5    le6 => ?_)
  replace op1 := op1.le le6
  replace hvb := hvb.le le6
  replace hvs := hvs.le le6
  replace hvc := hvc.le le6
  replace hvv := hvv.le le6
  replace lE := lE.trans le6
  by_cases hc7 : lifP b s
  · skip
    refine gop_e (decide_eq_true hc7) ?_
    refine gop_rt ?_
    refine gop_e (decide_eq_true hc7) ?_
    refine gop_rt ?_
    refine C.ContainsFunc_Field1 (q := !decide (fieldN 1 r c l)) hvv (fun Hc Z leZ hZ => ⟨by kernel_rfl, ?_⟩) (fun H8 le9 => ?_)
    · exact C.impl_lives_1 (hvc.le leZ) (by omega) hZ
    replace op1 := op1.le le9
    replace hvb := hvb.le le9
    replace hvs := hvs.le le9
    replace hvc := hvc.le le9
    replace hvv := hvv.le le9
    replace lE := lE.trans le9
    refine gop_e (decide_eq_true hc7) ?_
    refine gop_rt ?_
    refine ob_i (vUn_not _) ?_
    refine ob_i (vPick_et (decide_eq_true hc7) _ _) ?_
    skip
    exact keq (K := K) (by rw [show (!(!decide (fieldN 1 r c l))) = decide (canP b s r c l) from by rw [Bool.not_not]; exact decide_eq_decide.mpr ⟨fun h => ⟨by assumption, h⟩, fun h => h.2⟩]) (hk   _    lE)
  · skip
    refine gop_e (decide_eq_false hc7) ?_
    refine gop_sf ?_
    refine gop_e (decide_eq_false hc7) ?_
    refine gop_sf ?_
    refine gop_e (decide_eq_false hc7) ?_
    refine gop_sf ?_
    refine ob_i (vPick_ef (decide_eq_false hc7) _ _) ?_
    skip
    have hc_ := hc7
    exact keq (K := K) (by rw [decide_eq_false (show ¬ (canP b s r c l) from by exact fun h => hc_ h.1)]) (hk   _    lE)
theorem C.spec_l04Has {va : Value} {x : Int} {l : List Int}  {H : Hp} {K : Value → Hp → Prop} (hva0 : Sl eI H va l) (k1 : l.length ≤ 9223372036854775807)
    (hk : ∀ H', Le H H' → K (.bool (decide (x ∈ l))) H') : HT prg I.spec_l04Has [va, (.int .i64 (x))].toArray H K := by
  have lE := Le.refl H
  have hva := hva0
  refine R.spec_l04Has ?_
  unfold F.spec_l04Has
  refine jn_i (fun σ' H' => Le H H' ∧ x ∉ l) (fun σ1 H1 hP => ?_) (fun J1 hJ1 => ?_)
  · skip
    obtain ⟨lE, ho0⟩ := hP
    have hva := hva0.le lE
    skip
    exact keq (K := K) (by rw [decide_eq_false (show ¬ (x ∈ l) from by exact ho0)]) (hk   _    lE)
  refine ⟨fun n' σ' H' => ∃ i : Nat, n' = l.length - i ∧ i ≤ l.length ∧ σ' 0 = va ∧ σ' 1 = (.int .i64 (x)) ∧ σ' 5 = (.int .i64 ((i : Int))) ∧ Le H H' ∧ x ∉ l.take i,
    ⟨_, 0, rfl, by omega, rfl, rfl, (congrArg (Value.int .i64) (by first | omega | rfl | (simp; done))), lE, by simp⟩, ?_⟩
  rintro n2 σ2 H2 ⟨i, rfl, hiN, g0L2, g1L2, g5L2, lE, hm0⟩
  have hva := hva0.le lE
  try simp only [g0L2, g1L2, g5L2]
  refine ob_i (hva.len) ?_
  refine ob_i (vInt_lss _ _ _) ?_
  refine cnd_d (fun hg3 => ?_) (fun hg3 => ?_)
  · skip
    have ti := hg3
    refine ob_i (hva.ix (by omega) (by omega)) ?_
    refine ob_i (hva.ld 0 (by omega) (by omega)) ?_
    refine ob_i (vInt_eql _ _ _) ?_
    refine cnd_d (fun hg4 => ?_) (fun hg4 => ?_)
    · skip
      refine retK (K := K) (v' := (.bool true)) rfl ?_
      skip
      have hg_ := hg4
      exact keq (K := K) (by rw [decide_eq_true (show (x ∈ l) from by rw [← hg_]; exact at_mem 0 l (by omega) (by omega))]) (hk   _    lE)
    · skip
      refine ob_i (vInt_add (by omega) (by omega)) ?_
      exact nxt (l.length - (i + 1)) (by omega) ⟨i + 1, rfl, by omega, g0L2, g1L2, (congrArg (Value.int .i64) (by first | omega | rfl | (simp; done))), lE, notin_succ hm0 (by omega) hg4⟩
  · skip
    have ti := hg3
    exact hJ1 _ _ ⟨lE, (by rw [List.take_of_length_le (by omega)] at hm0; exact hm0)⟩
theorem C.slices_Index_int64Zint64 {va : Value} {x : Int} {l : List Int}  {H : Hp} {K : Value → Hp → Prop} (hva0 : Sl eI H va l) (k1 : l.length ≤ 9223372036854775807)
    (hk : ∀ H', Le H H' → K (.int .i64 (idxL x l)) H') : HT prg I.slices_Index_int64Zint64 [va, (.int .i64 (x))].toArray H K := by
  have lE := Le.refl H
  have hva := hva0
  refine R.slices_Index_int64Zint64 ?_
  unfold F.slices_Index_int64Zint64
  refine jn_i (fun σ' H' => Le H H' ∧ x ∉ l) (fun σ1 H1 hP => ?_) (fun J1 hJ1 => ?_)
  · skip
    obtain ⟨lE, ho0⟩ := hP
    have hva := hva0.le lE
    skip
    exact keq (K := K) (by rw [show ((idxL x l) : Int) = ((-1)) from by exact idxL_not ho0]) (hk   _    lE)
  refine ob_i (hva.len) ?_
  refine ⟨fun n' σ' H' => ∃ i : Nat, n' = l.length - i ∧ i ≤ l.length ∧ σ' 0 = va ∧ σ' 1 = (.int .i64 (x)) ∧ σ' 7 = (.int .i64 (((l).length : Int))) ∧ σ' 8 = (.int .i64 ((i : Int))) ∧ Le H H' ∧ x ∉ l.take i,
    ⟨_, 0, rfl, by omega, rfl, rfl, rfl, (congrArg (Value.int .i64) (by first | omega | rfl | (simp; done))), lE, by simp⟩, ?_⟩
  rintro n2 σ2 H2 ⟨i, rfl, hiN, g0L2, g1L2, g7L2, g8L2, lE, hm0⟩
  have hva := hva0.le lE
  try simp only [g0L2, g1L2, g7L2, g8L2]
  refine ob_i (vInt_lss _ _ _) ?_
  refine cnd_d (fun hg3 => ?_) (fun hg3 => ?_)
  · skip
    have ti := hg3
    refine ob_i (hva.ix (by omega) (by omega)) ?_
    refine ob_i (hva.ld 0 (by omega) (by omega)) ?_
    refine ob_i (vInt_eql _ _ _) ?_
    refine cnd_d (fun hg4 => ?_) (fun hg4 => ?_)
    · skip
      refine retK (K := K) (v' := (.int .i64 ((i : Int)))) rfl ?_
      skip
      exact keq (K := K) (by rw [show (((i : Int)) : Int) = (idxL x l) from by exact (idxL_at hm0 (by omega) hg4.symm).symm]) (hk   _    lE)
    · skip
      refine ob_i (vInt_add (by omega) (by omega)) ?_
      exact nxt (l.length - (i + 1)) (by omega) ⟨i + 1, rfl, by omega, g0L2, g1L2, g7L2, (congrArg (Value.int .i64) (by first | omega | rfl | (simp; done))), lE, notin_succ hm0 (by omega) (fun h => hg4 h.symm)⟩
  · skip
    have ti := hg3
    exact hJ1 _ _ ⟨lE, (by rw [List.take_of_length_le (by omega)] at hm0; exact hm0)⟩
theorem C.slices_Contains_int64Zint64 {va : Value} {x : Int} {l : List Int}  {H : Hp} {K : Value → Hp → Prop} (hva0 : Sl eI H va l) (k1 : l.length ≤ 9223372036854775807)
    (hk : ∀ H', Le H H' → K (.bool (decide (x ∈ l))) H') : HT prg I.slices_Contains_int64Zint64 [va, (.int .i64 (x))].toArray H K := by
  have lE := Le.refl H
  have hva := hva0
  refine R.slices_Contains_int64Zint64 ?_
  unfold F.slices_Contains_int64Zint64
  refine C.slices_Index_int64Zint64 hva (by first | omega | assumption) (fun   H1    le2 => ?_)
  replace hva := hva.le le2
  replace lE := lE.trans le2
  refine ob_i (vInt_geq _ _ _) ?_
  skip
  exact keq (K := K) (by rw [show decide (0 ≤ (idxL x l)) = decide (x ∈ l) from decide_eq_decide.mpr (by exact idxL_mem)]) (hk   _    lE)
theorem C.impl_bit {q : Bool}  {H : Hp} {K : Value → Hp → Prop}
    (hk : K (.int .i64 (if q = true then 1 else 0)) H) : HT prg I.impl_bit [(.bool (q))].toArray H K := by
  have lE := Le.refl H
  refine R.impl_bit ?_
  unfold F.impl_bit
  refine cnd_i (fun hg1 => ?_) (fun hg1 => ?_)
  · skip
    skip
    exact keq (K := K) (by rw [show ((if q = true then 1 else 0) : Int) = (1) from by rw [if_pos hg1]]) (hk )
  · skip
    skip
    exact keq (K := K) (by rw [show ((if q = true then 1 else 0) : Int) = (0) from by rw [if_neg (by rw [hg1]; simp)]]) (hk )
theorem C.spec_l04Around {p vc : Value} {i k r c : Int} {rnd : Bool} {l : List Int}  {H : Hp} {K : Value → Hp → Prop} (hp0 : Cel H p [(.int .i64 (r)), (.int .i64 (c)), vc]) (hvc0 : Sl eI H vc l) (hf : fieldN 1 r c l) (i0 : 0 ≤ i) (i1 : i < r) (j0 : 0 ≤ k) (j1 : k < c)
    (hk : ∀ H', Le H H' → K (.int .i64 (arF rnd r c l i k)) H') : HT prg I.spec_l04Around [p, (.int .i64 (i)), (.int .i64 (k)), (.bool (rnd))].toArray H K := by
  have lE := Le.refl H
  have hp := hp0
  have hvc := hvc0
  refine R.spec_l04Around ?_
  unfold F.spec_l04Around
  have hs := hf.1
  have hl := hf.2.1
  have q1 := hs.1
  have q2 := hs.2
  have qm := sidesF_mul hs
  refine jn_i (fun σ' H' => σ' 9 = (.int .i64 (sumF (fun a => sumF (fun b => skF rnd r c l i k (i - 1 + a) (k - 1 + b)) 3) 3)) ∧ Le H H') (fun σ1 H1 hP => ?_) (fun J1 hJ1 => ?_)
  · skip
    obtain ⟨g9L1, lE⟩ := hP
    have hp := hp0.le lE
    have hvc := hvc0.le lE
    try simp only [g9L1]
    skip
    exact keq (K := K) (by rw [show ((sumF (fun a => sumF (fun b => skF rnd r c l i k (i - 1 + a) (k - 1 + b)) 3) 3) : Int) = (arF rnd r c l i k) from by rfl]) (hk   _    lE)
  refine ob_i (vInt_sub (by omega) (by omega)) ?_
  refine ⟨fun n' σ' H' => ∃ t : Nat, n' = 3 - t ∧ t ≤ 3 ∧ σ' 0 = p ∧ σ' 1 = (.int .i64 (i)) ∧ σ' 2 = (.int .i64 (k)) ∧ σ' 3 = (.bool (rnd)) ∧ σ' 9 = (.int .i64 (sumF (fun a => sumF (fun b => skF rnd r c l i k (i - 1 + a) (k - 1 + b)) 3) t)) ∧ σ' 10 = (.int .i64 (i - 1 + (t : Int))) ∧ Le H H',
    ⟨_, 0, rfl, by omega, rfl, rfl, rfl, rfl, (congrArg (Value.int .i64) (by first | omega | rfl | (simp; done))), (congrArg (Value.int .i64) (by first | omega | rfl | (simp; done))), lE⟩, ?_⟩
  rintro n2 σ2 H2 ⟨t, rfl, htN, g0L2, g1L2, g2L2, g3L2, g9L2, g10L2, lE⟩
  have hp := hp0.le lE
  have hvc := hvc0.le lE
  try simp only [g0L2, g1L2, g2L2, g3L2, g9L2, g10L2]
  have bO := sumF_bnd (f := fun a => sumF (fun b => skF rnd r c l i k (i - 1 + a) (k - 1 + b)) 3) (a := 0) (b := 3) (fun a => by have := sumF_bnd (f := fun b => skF rnd r c l i k (i - 1 + a) (k - 1 + b)) (fun b => skF_01 hf i k _ _) 3; omega) t
  have zI := sumF_zero (fun b => skF rnd r c l i k (i - 1 + (t : Int)) (k - 1 + b))
  refine ob_i (vInt_add (by omega) (by omega)) ?_
  refine ob_i (vInt_leq _ _ _) ?_
  refine cnd_d (fun hg3 => ?_) (fun hg3 => ?_)
  · skip
    have tt := hg3
    refine jn_i (fun σ' H' => σ' 0 = p ∧ σ' 1 = (.int .i64 (i)) ∧ σ' 2 = (.int .i64 (k)) ∧ σ' 3 = (.bool (rnd)) ∧ σ' 9 = (.int .i64 (sumF (fun a => sumF (fun b => skF rnd r c l i k (i - 1 + a) (k - 1 + b)) 3) (t + 1))) ∧ σ' 10 = (.int .i64 (i - 1 + (t : Int))) ∧ Le H H') (fun σ4 H4 hP => ?_) (fun J4 hJ4 => ?_)
    · skip
      obtain ⟨g0L4, g1L4, g2L4, g3L4, g9L4, g10L4, lE⟩ := hP
      have hp := hp0.le lE
      have hvc := hvc0.le lE
      try simp only [g10L4]
      refine ob_i (vInt_add (by omega) (by omega)) ?_
      exact nxt (3 - (t + 1)) (by omega) ⟨t + 1, rfl, by omega, g0L4, g1L4, g2L4, g3L4, (g9L4.trans (congrArg (Value.int .i64) (by first | omega | rfl | (simp; done)))), (congrArg (Value.int .i64) (by first | omega | rfl | (simp; done))), lE⟩
    refine ob_i (vInt_sub (by omega) (by omega)) ?_
    refine ⟨fun n' σ' H' => ∃ u : Nat, n' = 3 - u ∧ u ≤ 3 ∧ σ' 0 = p ∧ σ' 1 = (.int .i64 (i)) ∧ σ' 2 = (.int .i64 (k)) ∧ σ' 3 = (.bool (rnd)) ∧ σ' 9 = (.int .i64 (sumF (fun a => sumF (fun b => skF rnd r c l i k (i - 1 + a) (k - 1 + b)) 3) t + sumF (fun b => skF rnd r c l i k (i - 1 + (t : Int)) (k - 1 + b)) u)) ∧ σ' 10 = (.int .i64 (i - 1 + (t : Int))) ∧ σ' 11 = (.int .i64 (k - 1 + (u : Int))) ∧ Le H H',
      ⟨_, 0, rfl, by omega, g0L2, g1L2, g2L2, g3L2, (g9L2.trans (congrArg (Value.int .i64) (by first | omega | rfl | (simp; done)))), g10L2, (congrArg (Value.int .i64) (by first | omega | rfl | (simp; done))), lE⟩, ?_⟩
    rintro n5 σ5 H5 ⟨u, rfl, huN, g0L5, g1L5, g2L5, g3L5, g9L5, g10L5, g11L5, lE⟩
    have hp := hp0.le lE
    have hvc := hvc0.le lE
    try simp only [g0L5, g1L5, g2L5, g3L5, g9L5, g10L5, g11L5]
    have bI := sumF_bnd (f := fun b => skF rnd r c l i k (i - 1 + (t : Int)) (k - 1 + b)) (fun b => skF_01 hf i k _ _) u
    have bR := roundF_lt (i := i - 1 + (t : Int)) (k := k - 1 + (u : Int)) hs
    have bV := fieldN_at hf (i := roundF r c (i - 1 + (t : Int)) (k - 1 + (u : Int))) (by omega) (by omega)
    refine ob_i (vInt_add (by omega) (by omega)) ?_
    refine ob_i (vInt_leq _ _ _) ?_
    refine cnd_d (fun hg6 => ?_) (fun hg6 => ?_)
    · skip
      have tu := hg6
      refine ob_i (vInt_eql _ _ _) ?_
      by_cases hc7 : (i - 1 + (t : Int)) = i
      · skip
        refine gop_e (decide_eq_true hc7) ?_
        refine gop_rt ?_
        refine gop_e (decide_eq_true hc7) ?_
        refine gop_rt ?_
        refine gop_e (decide_eq_true hc7) ?_
        refine gop_rt ?_
        refine ob_i (vInt_eql _ _ _) ?_
        refine ob_i (vPick_et (decide_eq_true hc7) _ _) ?_
        refine cnd_d (fun hg8 => ?_) (fun hg8 => ?_)
        · skip
          refine ob_i (vInt_add (by omega) (by omega)) ?_
          have e3 : skF rnd r c l i k (i - 1 + (t : Int)) (k - 1 + (u : Int)) = 0 := by rw [skF_eq]; first | rw [if_pos (by omega)] | (rw [if_neg (by omega)]; first | rw [if_pos (by first | (left; assumption) | (right; omega))] | rw [if_neg (by rintro (h | h) <;> first | omega | exact absurd h (by assumption))])
          have eS : sumF (fun b => skF rnd r c l i k (i - 1 + (t : Int)) (k - 1 + b)) (u + 1) = sumF (fun b => skF rnd r c l i k (i - 1 + (t : Int)) (k - 1 + b)) u + skF rnd r c l i k (i - 1 + (t : Int)) (k - 1 + (u : Int)) := rfl
          exact nxt (3 - (u + 1)) (by omega) ⟨u + 1, rfl, by omega, g0L5, g1L5, g2L5, g3L5, (g9L5.trans (congrArg (Value.int .i64) (by first | omega | rfl | (simp; done)))), g10L5, (congrArg (Value.int .i64) (by first | omega | rfl | (simp; done))), lE⟩
        · skip
          by_cases hc9 : (rnd) = true
          · skip
            refine gop_e (hc9) ?_
            refine gop_st ?_
            refine gop_e (hc9) ?_
            refine gop_st ?_
            refine gop_e (hc9) ?_
            refine gop_st ?_
            refine gop_e (hc9) ?_
            refine gop_st ?_
            refine gop_e (hc9) ?_
            refine gop_st ?_
            refine gop_e (hc9) ?_
            refine gop_st ?_
            refine gop_e (hc9) ?_
            refine gop_st ?_
            refine gop_e (hc9) ?_
            refine gop_st ?_
            refine gop_u ?_
            refine gop_u ?_
            refine gop_u ?_
            refine gop_u ?_
            refine gop_u ?_
            refine gop_u ?_
            refine gop_u ?_
            refine gop_e (hc9) ?_
            refine gop_st ?_
            refine ob_i (vPick_et (hc9) _ _) ?_
            refine cnd_t1 ?_
            refine ob_i (hp.nilC) ?_
            refine ob_i (hp.fa 2) ?_
            refine ob_i (hp.ld 2 rfl) ?_
            refine C.spec_l04Round hp (by first | omega | assumption) ?_
            refine ⟨Le.refl _, ?_⟩
            refine ob_i (hvc.ix (by omega) (by omega)) ?_
            refine ob_i (hvc.ld 0 (by omega) (by omega)) ?_
            refine ob_i (vInt_add (by omega) (by omega)) ?_
            refine ob_i (vInt_add (by omega) (by omega)) ?_
            have e3 : skF rnd r c l i k (i - 1 + (t : Int)) (k - 1 + (u : Int)) = at_ 0 l (roundF r c (i - 1 + (t : Int)) (k - 1 + (u : Int))) := by rw [skF_eq]; first | rw [if_pos (by omega)] | (rw [if_neg (by omega)]; first | rw [if_pos (by first | (left; assumption) | (right; omega))] | rw [if_neg (by rintro (h | h) <;> first | omega | exact absurd h (by assumption))])
            have eS : sumF (fun b => skF rnd r c l i k (i - 1 + (t : Int)) (k - 1 + b)) (u + 1) = sumF (fun b => skF rnd r c l i k (i - 1 + (t : Int)) (k - 1 + b)) u + skF rnd r c l i k (i - 1 + (t : Int)) (k - 1 + (u : Int)) := rfl
            exact nxt (3 - (u + 1)) (by omega) ⟨u + 1, rfl, by omega, g0L5, g1L5, g2L5, g3L5, (congrArg (Value.int .i64) (by first | omega | rfl | (simp; done))), g10L5, (congrArg (Value.int .i64) (by first | omega | rfl | (simp; done))), lE⟩
          · skip
            refine gop_e (eq_false_of_ne_true hc9) ?_
            refine gop_rf ?_
            refine gop_e (eq_false_of_ne_true hc9) ?_
            refine gop_rf ?_
            refine gop_e (eq_false_of_ne_true hc9) ?_
            refine gop_rf ?_
            refine ob_i (hp.nilC) ?_
            refine gop_e (eq_false_of_ne_true hc9) ?_
            refine gop_rf ?_
            refine ob_i (hp.fa 0) ?_
            refine gop_e (eq_false_of_ne_true hc9) ?_
            refine gop_rf ?_
            refine ob_i (hp.ld 0 rfl) ?_
            refine gop_e (eq_false_of_ne_true hc9) ?_
            refine gop_rf ?_
            refine ob_i (vInt_sub (by omega) (by omega)) ?_
            refine gop_e (eq_false_of_ne_true hc9) ?_
            refine gop_rf ?_
            refine C.spec_l00In  ?_
            refine gop_e (eq_false_of_ne_true hc9) ?_
            refine gop_rf ?_
            by_cases hc10 : 0 ≤ (i - 1 + (t : Int)) ∧ (i - 1 + (t : Int)) ≤ (r - 1)
            · skip
              refine gop_e (decide_eq_true hc10) ?_
              refine gop_rt ?_
              refine gop_e (decide_eq_true hc10) ?_
              refine gop_rt ?_
              refine gop_e (decide_eq_true hc10) ?_
              refine gop_rt ?_
              refine ob_i (hp.nilC) ?_
              refine gop_e (decide_eq_true hc10) ?_
              refine gop_rt ?_
              refine ob_i (hp.fa 1) ?_
              refine gop_e (decide_eq_true hc10) ?_
              refine gop_rt ?_
              refine ob_i (hp.ld 1 rfl) ?_
              refine gop_e (decide_eq_true hc10) ?_
              refine gop_rt ?_
              refine ob_i (vInt_sub (by omega) (by omega)) ?_
              refine gop_e (decide_eq_true hc10) ?_
              refine gop_rt ?_
              refine C.spec_l00In  ?_
              refine gop_e (eq_false_of_ne_true hc9) ?_
              refine gop_rf ?_
              refine ob_i (vPick_et (decide_eq_true hc10) _ _) ?_
              refine ob_i (vPick_ef (eq_false_of_ne_true hc9) _ _) ?_
              refine cnd_d (fun hg11 => ?_) (fun hg11 => ?_)
              · skip
                refine ob_i (hp.nilC) ?_
                refine ob_i (hp.fa 2) ?_
                refine ob_i (hp.ld 2 rfl) ?_
                refine C.spec_l04Round hp (by first | omega | assumption) ?_
                refine ⟨Le.refl _, ?_⟩
                refine ob_i (hvc.ix (by omega) (by omega)) ?_
                refine ob_i (hvc.ld 0 (by omega) (by omega)) ?_
                refine ob_i (vInt_add (by omega) (by omega)) ?_
                refine ob_i (vInt_add (by omega) (by omega)) ?_
                have e3 : skF rnd r c l i k (i - 1 + (t : Int)) (k - 1 + (u : Int)) = at_ 0 l (roundF r c (i - 1 + (t : Int)) (k - 1 + (u : Int))) := by rw [skF_eq]; first | rw [if_pos (by omega)] | (rw [if_neg (by omega)]; first | rw [if_pos (by first | (left; assumption) | (right; omega))] | rw [if_neg (by rintro (h | h) <;> first | omega | exact absurd h (by assumption))])
                have eS : sumF (fun b => skF rnd r c l i k (i - 1 + (t : Int)) (k - 1 + b)) (u + 1) = sumF (fun b => skF rnd r c l i k (i - 1 + (t : Int)) (k - 1 + b)) u + skF rnd r c l i k (i - 1 + (t : Int)) (k - 1 + (u : Int)) := rfl
                exact nxt (3 - (u + 1)) (by omega) ⟨u + 1, rfl, by omega, g0L5, g1L5, g2L5, g3L5, (congrArg (Value.int .i64) (by first | omega | rfl | (simp; done))), g10L5, (congrArg (Value.int .i64) (by first | omega | rfl | (simp; done))), lE⟩
              · skip
                refine ob_i (vInt_add (by omega) (by omega)) ?_
                have e3 : skF rnd r c l i k (i - 1 + (t : Int)) (k - 1 + (u : Int)) = 0 := by rw [skF_eq]; first | rw [if_pos (by omega)] | (rw [if_neg (by omega)]; first | rw [if_pos (by first | (left; assumption) | (right; omega))] | rw [if_neg (by rintro (h | h) <;> first | omega | exact absurd h (by assumption))])
                have eS : sumF (fun b => skF rnd r c l i k (i - 1 + (t : Int)) (k - 1 + b)) (u + 1) = sumF (fun b => skF rnd r c l i k (i - 1 + (t : Int)) (k - 1 + b)) u + skF rnd r c l i k (i - 1 + (t : Int)) (k - 1 + (u : Int)) := rfl
                exact nxt (3 - (u + 1)) (by omega) ⟨u + 1, rfl, by omega, g0L5, g1L5, g2L5, g3L5, (g9L5.trans (congrArg (Value.int .i64) (by first | omega | rfl | (simp; done)))), g10L5, (congrArg (Value.int .i64) (by first | omega | rfl | (simp; done))), lE⟩
            · skip
              refine gop_e (decide_eq_false hc10) ?_
              refine gop_sf ?_
              refine gop_e (decide_eq_false hc10) ?_
              refine gop_sf ?_
              refine gop_e (decide_eq_false hc10) ?_
              refine gop_sf ?_
              refine gop_e (decide_eq_false hc10) ?_
              refine gop_sf ?_
              refine gop_e (decide_eq_false hc10) ?_
              refine gop_sf ?_
              refine gop_e (decide_eq_false hc10) ?_
              refine gop_sf ?_
              refine gop_e (decide_eq_false hc10) ?_
              refine gop_sf ?_
              refine gop_e (eq_false_of_ne_true hc9) ?_
              refine gop_rf ?_
              refine ob_i (vPick_ef (decide_eq_false hc10) _ _) ?_
              refine ob_i (vPick_ef (eq_false_of_ne_true hc9) _ _) ?_
              refine cnd_f1 ?_
              refine ob_i (vInt_add (by omega) (by omega)) ?_
              have e3 : skF rnd r c l i k (i - 1 + (t : Int)) (k - 1 + (u : Int)) = 0 := by rw [skF_eq]; first | rw [if_pos (by omega)] | (rw [if_neg (by omega)]; first | rw [if_pos (by first | (left; assumption) | (right; omega))] | rw [if_neg (by rintro (h | h) <;> first | omega | exact absurd h (by assumption))])
              have eS : sumF (fun b => skF rnd r c l i k (i - 1 + (t : Int)) (k - 1 + b)) (u + 1) = sumF (fun b => skF rnd r c l i k (i - 1 + (t : Int)) (k - 1 + b)) u + skF rnd r c l i k (i - 1 + (t : Int)) (k - 1 + (u : Int)) := rfl
              exact nxt (3 - (u + 1)) (by omega) ⟨u + 1, rfl, by omega, g0L5, g1L5, g2L5, g3L5, (g9L5.trans (congrArg (Value.int .i64) (by first | omega | rfl | (simp; done)))), g10L5, (congrArg (Value.int .i64) (by first | omega | rfl | (simp; done))), lE⟩
      · skip
        refine gop_e (decide_eq_false hc7) ?_
        refine gop_sf ?_
        refine gop_e (decide_eq_false hc7) ?_
        refine gop_sf ?_
        refine gop_e (decide_eq_false hc7) ?_
        refine gop_sf ?_
        refine ob_i (vPick_ef (decide_eq_false hc7) _ _) ?_
        refine cnd_f1 ?_
        by_cases hc12 : (rnd) = true
        · skip
          refine gop_e (hc12) ?_
          refine gop_st ?_
          refine gop_e (hc12) ?_
          refine gop_st ?_
          refine gop_e (hc12) ?_
          refine gop_st ?_
          refine gop_e (hc12) ?_
          refine gop_st ?_
          refine gop_e (hc12) ?_
          refine gop_st ?_
          refine gop_e (hc12) ?_
          refine gop_st ?_
          refine gop_e (hc12) ?_
          refine gop_st ?_
          refine gop_e (hc12) ?_
          refine gop_st ?_
          refine gop_u ?_
          refine gop_u ?_
          refine gop_u ?_
          refine gop_u ?_
          refine gop_u ?_
          refine gop_u ?_
          refine gop_u ?_
          refine gop_e (hc12) ?_
          refine gop_st ?_
          refine ob_i (vPick_et (hc12) _ _) ?_
          refine cnd_t1 ?_
          refine ob_i (hp.nilC) ?_
          refine ob_i (hp.fa 2) ?_
          refine ob_i (hp.ld 2 rfl) ?_
          refine C.spec_l04Round hp (by first | omega | assumption) ?_
          refine ⟨Le.refl _, ?_⟩
          refine ob_i (hvc.ix (by omega) (by omega)) ?_
          refine ob_i (hvc.ld 0 (by omega) (by omega)) ?_
          refine ob_i (vInt_add (by omega) (by omega)) ?_
          refine ob_i (vInt_add (by omega) (by omega)) ?_
          have e3 : skF rnd r c l i k (i - 1 + (t : Int)) (k - 1 + (u : Int)) = at_ 0 l (roundF r c (i - 1 + (t : Int)) (k - 1 + (u : Int))) := by rw [skF_eq]; first | rw [if_pos (by omega)] | (rw [if_neg (by omega)]; first | rw [if_pos (by first | (left; assumption) | (right; omega))] | rw [if_neg (by rintro (h | h) <;> first | omega | exact absurd h (by assumption))])
          have eS : sumF (fun b => skF rnd r c l i k (i - 1 + (t : Int)) (k - 1 + b)) (u + 1) = sumF (fun b => skF rnd r c l i k (i - 1 + (t : Int)) (k - 1 + b)) u + skF rnd r c l i k (i - 1 + (t : Int)) (k - 1 + (u : Int)) := rfl
          exact nxt (3 - (u + 1)) (by omega) ⟨u + 1, rfl, by omega, g0L5, g1L5, g2L5, g3L5, (congrArg (Value.int .i64) (by first | omega | rfl | (simp; done))), g10L5, (congrArg (Value.int .i64) (by first | omega | rfl | (simp; done))), lE⟩
        · skip
          refine gop_e (eq_false_of_ne_true hc12) ?_
          refine gop_rf ?_
          refine gop_e (eq_false_of_ne_true hc12) ?_
          refine gop_rf ?_
          refine gop_e (eq_false_of_ne_true hc12) ?_
          refine gop_rf ?_
          refine ob_i (hp.nilC) ?_
          refine gop_e (eq_false_of_ne_true hc12) ?_
          refine gop_rf ?_
          refine ob_i (hp.fa 0) ?_
          refine gop_e (eq_false_of_ne_true hc12) ?_
          refine gop_rf ?_
          refine ob_i (hp.ld 0 rfl) ?_
          refine gop_e (eq_false_of_ne_true hc12) ?_
          refine gop_rf ?_
          refine ob_i (vInt_sub (by omega) (by omega)) ?_
          refine gop_e (eq_false_of_ne_true hc12) ?_
          refine gop_rf ?_
          refine C.spec_l00In  ?_
          refine gop_e (eq_false_of_ne_true hc12) ?_
          refine gop_rf ?_
          by_cases hc13 : 0 ≤ (i - 1 + (t : Int)) ∧ (i - 1 + (t : Int)) ≤ (r - 1)
          · skip
            refine gop_e (decide_eq_true hc13) ?_
            refine gop_rt ?_
            refine gop_e (decide_eq_true hc13) ?_
            refine gop_rt ?_
            refine gop_e (decide_eq_true hc13) ?_
            refine gop_rt ?_
            refine ob_i (hp.nilC) ?_
            refine gop_e (decide_eq_true hc13) ?_
            refine gop_rt ?_
            refine ob_i (hp.fa 1) ?_
            refine gop_e (decide_eq_true hc13) ?_
            refine gop_rt ?_
            refine ob_i (hp.ld 1 rfl) ?_
            refine gop_e (decide_eq_true hc13) ?_
            refine gop_rt ?_
            refine ob_i (vInt_sub (by omega) (by omega)) ?_
            refine gop_e (decide_eq_true hc13) ?_
            refine gop_rt ?_
            refine C.spec_l00In  ?_
            refine gop_e (eq_false_of_ne_true hc12) ?_
            refine gop_rf ?_
            refine ob_i (vPick_et (decide_eq_true hc13) _ _) ?_
            refine ob_i (vPick_ef (eq_false_of_ne_true hc12) _ _) ?_
            refine cnd_d (fun hg14 => ?_) (fun hg14 => ?_)
            · skip
              refine ob_i (hp.nilC) ?_
              refine ob_i (hp.fa 2) ?_
              refine ob_i (hp.ld 2 rfl) ?_
              refine C.spec_l04Round hp (by first | omega | assumption) ?_
              refine ⟨Le.refl _, ?_⟩
              refine ob_i (hvc.ix (by omega) (by omega)) ?_
              refine ob_i (hvc.ld 0 (by omega) (by omega)) ?_
              refine ob_i (vInt_add (by omega) (by omega)) ?_
              refine ob_i (vInt_add (by omega) (by omega)) ?_
              have e3 : skF rnd r c l i k (i - 1 + (t : Int)) (k - 1 + (u : Int)) = at_ 0 l (roundF r c (i - 1 + (t : Int)) (k - 1 + (u : Int))) := by rw [skF_eq]; first | rw [if_pos (by omega)] | (rw [if_neg (by omega)]; first | rw [if_pos (by first | (left; assumption) | (right; omega))] | rw [if_neg (by rintro (h | h) <;> first | omega | exact absurd h (by assumption))])
              have eS : sumF (fun b => skF rnd r c l i k (i - 1 + (t : Int)) (k - 1 + b)) (u + 1) = sumF (fun b => skF rnd r c l i k (i - 1 + (t : Int)) (k - 1 + b)) u + skF rnd r c l i k (i - 1 + (t : Int)) (k - 1 + (u : Int)) := rfl
              exact nxt (3 - (u + 1)) (by omega) ⟨u + 1, rfl, by omega, g0L5, g1L5, g2L5, g3L5, (congrArg (Value.int .i64) (by first | omega | rfl | (simp; done))), g10L5, (congrArg (Value.int .i64) (by first | omega | rfl | (simp; done))), lE⟩
            · skip
              refine ob_i (vInt_add (by omega) (by omega)) ?_
              have e3 : skF rnd r c l i k (i - 1 + (t : Int)) (k - 1 + (u : Int)) = 0 := by rw [skF_eq]; first | rw [if_pos (by omega)] | (rw [if_neg (by omega)]; first | rw [if_pos (by first | (left; assumption) | (right; omega))] | rw [if_neg (by rintro (h | h) <;> first | omega | exact absurd h (by assumption))])
              have eS : sumF (fun b => skF rnd r c l i k (i - 1 + (t : Int)) (k - 1 + b)) (u + 1) = sumF (fun b => skF rnd r c l i k (i - 1 + (t : Int)) (k - 1 + b)) u + skF rnd r c l i k (i - 1 + (t : Int)) (k - 1 + (u : Int)) := rfl
              exact nxt (3 - (u + 1)) (by omega) ⟨u + 1, rfl, by omega, g0L5, g1L5, g2L5, g3L5, (g9L5.trans (congrArg (Value.int .i64) (by first | omega | rfl | (simp; done)))), g10L5, (congrArg (Value.int .i64) (by first | omega | rfl | (simp; done))), lE⟩
          · skip
            refine gop_e (decide_eq_false hc13) ?_
            refine gop_sf ?_
            refine gop_e (decide_eq_false hc13) ?_
            refine gop_sf ?_
            refine gop_e (decide_eq_false hc13) ?_
            refine gop_sf ?_
            refine gop_e (decide_eq_false hc13) ?_
            refine gop_sf ?_
            refine gop_e (decide_eq_false hc13) ?_
            refine gop_sf ?_
            refine gop_e (decide_eq_false hc13) ?_
            refine gop_sf ?_
            refine gop_e (decide_eq_false hc13) ?_
            refine gop_sf ?_
            refine gop_e (eq_false_of_ne_true hc12) ?_
            refine gop_rf ?_
            refine ob_i (vPick_ef (decide_eq_false hc13) _ _) ?_
            refine ob_i (vPick_ef (eq_false_of_ne_true hc12) _ _) ?_
            refine cnd_f1 ?_
            refine ob_i (vInt_add (by omega) (by omega)) ?_
            have e3 : skF rnd r c l i k (i - 1 + (t : Int)) (k - 1 + (u : Int)) = 0 := by rw [skF_eq]; first | rw [if_pos (by omega)] | (rw [if_neg (by omega)]; first | rw [if_pos (by first | (left; assumption) | (right; omega))] | rw [if_neg (by rintro (h | h) <;> first | omega | exact absurd h (by assumption))])
            have eS : sumF (fun b => skF rnd r c l i k (i - 1 + (t : Int)) (k - 1 + b)) (u + 1) = sumF (fun b => skF rnd r c l i k (i - 1 + (t : Int)) (k - 1 + b)) u + skF rnd r c l i k (i - 1 + (t : Int)) (k - 1 + (u : Int)) := rfl
            exact nxt (3 - (u + 1)) (by omega) ⟨u + 1, rfl, by omega, g0L5, g1L5, g2L5, g3L5, (g9L5.trans (congrArg (Value.int .i64) (by first | omega | rfl | (simp; done)))), g10L5, (congrArg (Value.int .i64) (by first | omega | rfl | (simp; done))), lE⟩
    · skip
      have tu := hg6
      obtain rfl : u = 3 := by omega
      exact hJ4 _ _ ⟨g0L5, g1L5, g2L5, g3L5, (g9L5.trans (congrArg (Value.int .i64) (by first | omega | rfl | (simp; done)))), g10L5, lE⟩
  · skip
    have tt := hg3
    obtain rfl : t = 3 := by omega
    exact hJ1 _ _ ⟨(g9L2.trans (congrArg (Value.int .i64) (by first | omega | rfl | (simp; done)))), lE⟩
theorem C.look_any {vc : Value} {r c i k : Int} {rnd : Bool} {l : List Int} {H : Hp} {K : Value → Hp → Prop} (hc : Sl eI H vc l) (hs : sidesF r c) (hl : (l.length : Int) = r * c) (i0 : -1000 ≤ i) (i1 : i ≤ 1000) (k0 : -1000 ≤ k) (k1 : k ≤ 1000)
    (hk : ∀ H', Le H H' → K (.int .i64 (lkF rnd r c l i k)) H') : HT prg I.impl_Field_look [.agg #[.int .i64 r, .int .i64 c, vc], .int .i64 i, .int .i64 k, .bool rnd].toArray H K := by
  cases rnd with
  | true => exact C.look_round hc hs hl i0 i1 k0 k1 hk
  | false => exact C.look_flat hc hs hl hk
theorem C.impl_Field_around {vc : Value} {r c i k : Int} {rnd : Bool} {l : List Int}  {H : Hp} {K : Value → Hp → Prop} (hvc0 : Sl eI H vc l) (hf : fieldN 1 r c l) (i0 : 0 ≤ i) (i1 : i < r) (j0 : 0 ≤ k) (j1 : k < c)
    (hk : ∀ H', Le H H' → K (.int .i64 (arF rnd r c l i k)) H') : HT prg I.impl_Field_around [(.agg #[(.int .i64 (r)), (.int .i64 (c)), vc]), (.int .i64 (i)), (.int .i64 (k)), (.bool (rnd))].toArray H K := by
  have lE := Le.refl H
  have hvc := hvc0
  refine R.impl_Field_around ?_
  unfold F.impl_Field_around
  have hs := hf.1
  have hl := hf.2.1
  have q1 := hs.1
  have q2 := hs.2
  have qm := sidesF_mul hs
  have x1 := ix_lt (a := i) (b := k) (r := r) (c := c) (by omega) (by omega) (by omega) (by omega)
  have cA := fieldN_at hf (i := i * c + k) (by omega) (by omega)
  have z0 := sumF_zero (fun a => sumF (fun b => lkF rnd r c l (i - 1 + a) (k - 1 + b)) 3)
  refine nw_i (fun p1 H2 op1 nn3 le4 => ?_)
  have np1 : Nw H p1 := nn3.le lE
  replace hvc := hvc.le le4
  replace lE := lE.trans le4
  replace op1 : Cel H2 p1 [(.int .i64 (r)), (.int .i64 (c)), vc] := op1
  refine ob_i (op1.ldn rfl) ?_
  refine C.impl_Field_at hvc (by first | omega | assumption) (by first | omega | assumption) (by first | omega | assumption) (by first | omega | assumption) (by first | omega | assumption) (fun   H5    le6 => ?_)
  replace op1 := op1.le le6
  replace hvc := hvc.le le6
  replace lE := lE.trans le6
  refine ob_i (vUn_ngK (by omega) (by omega)) ?_
  refine jn_i (fun σ' H' => σ' 9 = (.int .i64 (arF rnd r c l i k)) ∧ Cel H' p1 [(.int .i64 (r)), (.int .i64 (c)), vc] ∧ Le H H') (fun σ7 H7 hP => ?_) (fun J7 hJ7 => ?_)
  · skip
    obtain ⟨g9L7, op1, lE⟩ := hP
    have hvc := hvc0.le lE
    try simp only [g9L7]
    skip
    exact hk   _    lE
  refine ob_i (vInt_sub (by omega) (by omega)) ?_
  refine ⟨fun n' σ' H' => ∃ t : Nat, n' = 3 - t ∧ t ≤ 3 ∧ σ' 1 = (.int .i64 (i)) ∧ σ' 2 = (.int .i64 (k)) ∧ σ' 3 = (.bool (rnd)) ∧ σ' 4 = p1 ∧ σ' 9 = (.int .i64 (-at_ 0 l (i * c + k) + sumF (fun a => sumF (fun b => lkF rnd r c l (i - 1 + a) (k - 1 + b)) 3) t)) ∧ σ' 10 = (.int .i64 (i - 1 + (t : Int))) ∧ Cel H' p1 [(.int .i64 (r)), (.int .i64 (c)), vc] ∧ Le H H',
    ⟨_, 0, rfl, by omega, rfl, rfl, rfl, rfl, (congrArg (Value.int .i64) (by first | omega | rfl | (simp; done))), (congrArg (Value.int .i64) (by first | omega | rfl | (simp; done))), op1, lE⟩, ?_⟩
  rintro n8 σ8 H8 ⟨t, rfl, htN, g1L8, g2L8, g3L8, g4L8, g9L8, g10L8, op1, lE⟩
  have hvc := hvc0.le lE
  try simp only [g1L8, g2L8, g3L8, g4L8, g9L8, g10L8]
  have bO := sumF_bnd (f := fun a => sumF (fun b => lkF rnd r c l (i - 1 + a) (k - 1 + b)) 3) (a := 0) (b := 3) (fun a => by have := sumF_bnd (f := fun b => lkF rnd r c l (i - 1 + a) (k - 1 + b)) (fun b => lkF_01 hf _ _) 3; omega) t
  have zI := sumF_zero (fun b => lkF rnd r c l (i - 1 + (t : Int)) (k - 1 + b))
  refine ob_i (vInt_add (by omega) (by omega)) ?_
  refine ob_i (vInt_leq _ _ _) ?_
  refine cnd_d (fun hg9 => ?_) (fun hg9 => ?_)
  · skip
    have tt := hg9
    refine jn_i (fun σ' H' => σ' 1 = (.int .i64 (i)) ∧ σ' 2 = (.int .i64 (k)) ∧ σ' 3 = (.bool (rnd)) ∧ σ' 4 = p1 ∧ σ' 9 = (.int .i64 (-at_ 0 l (i * c + k) + sumF (fun a => sumF (fun b => lkF rnd r c l (i - 1 + a) (k - 1 + b)) 3) (t + 1))) ∧ σ' 10 = (.int .i64 (i - 1 + (t : Int))) ∧ Cel H' p1 [(.int .i64 (r)), (.int .i64 (c)), vc] ∧ Le H H') (fun σ10 H10 hP => ?_) (fun J10 hJ10 => ?_)
    · skip
      obtain ⟨g1L10, g2L10, g3L10, g4L10, g9L10, g10L10, op1, lE⟩ := hP
      have hvc := hvc0.le lE
      try simp only [g10L10]
      refine ob_i (vInt_add (by omega) (by omega)) ?_
      exact nxt (3 - (t + 1)) (by omega) ⟨t + 1, rfl, by omega, g1L10, g2L10, g3L10, g4L10, (g9L10.trans (congrArg (Value.int .i64) (by first | omega | rfl | (simp; done)))), (congrArg (Value.int .i64) (by first | omega | rfl | (simp; done))), op1, lE⟩
    refine ob_i (vInt_sub (by omega) (by omega)) ?_
    refine ⟨fun n' σ' H' => ∃ u : Nat, n' = 3 - u ∧ u ≤ 3 ∧ σ' 1 = (.int .i64 (i)) ∧ σ' 2 = (.int .i64 (k)) ∧ σ' 3 = (.bool (rnd)) ∧ σ' 4 = p1 ∧ σ' 9 = (.int .i64 (-at_ 0 l (i * c + k) + sumF (fun a => sumF (fun b => lkF rnd r c l (i - 1 + a) (k - 1 + b)) 3) t + sumF (fun b => lkF rnd r c l (i - 1 + (t : Int)) (k - 1 + b)) u)) ∧ σ' 10 = (.int .i64 (i - 1 + (t : Int))) ∧ σ' 11 = (.int .i64 (k - 1 + (u : Int))) ∧ Cel H' p1 [(.int .i64 (r)), (.int .i64 (c)), vc] ∧ Le H H',
      ⟨_, 0, rfl, by omega, g1L8, g2L8, g3L8, g4L8, (g9L8.trans (congrArg (Value.int .i64) (by first | omega | rfl | (simp; done)))), g10L8, (congrArg (Value.int .i64) (by first | omega | rfl | (simp; done))), op1, lE⟩, ?_⟩
    rintro n11 σ11 H11 ⟨u, rfl, huN, g1L11, g2L11, g3L11, g4L11, g9L11, g10L11, g11L11, op1, lE⟩
    have hvc := hvc0.le lE
    try simp only [g2L11, g3L11, g4L11, g9L11, g10L11, g11L11]
    have bI := sumF_bnd (f := fun b => lkF rnd r c l (i - 1 + (t : Int)) (k - 1 + b)) (fun b => lkF_01 hf _ _) u
    have bV := lkF_01 (rnd := rnd) hf (i - 1 + (t : Int)) (k - 1 + (u : Int))
    refine ob_i (vInt_add (by omega) (by omega)) ?_
    refine ob_i (vInt_leq _ _ _) ?_
    refine cnd_d (fun hg12 => ?_) (fun hg12 => ?_)
    · skip
      have tu := hg12
      refine ob_i (op1.ldn rfl) ?_
      refine C.look_any hvc (by first | omega | assumption) (by first | omega | assumption) (by first | omega | assumption) (by first | omega | assumption) (by first | omega | assumption) (by first | omega | assumption) (fun   H13    le14 => ?_)
      replace op1 := op1.le le14
      replace hvc := hvc.le le14
      replace lE := lE.trans le14
      refine ob_i (vInt_add (by omega) (by omega)) ?_
      refine ob_i (vInt_add (by omega) (by omega)) ?_
      have eS := sumF_succ (fun b => lkF rnd r c l (i - 1 + (t : Int)) (k - 1 + b)) u
      exact nxt (3 - (u + 1)) (by omega) ⟨u + 1, rfl, by omega, g1L11, g2L11, g3L11, g4L11, (congrArg (Value.int .i64) (by first | omega | rfl | (simp; done))), g10L11, (congrArg (Value.int .i64) (by first | omega | rfl | (simp; done))), op1, lE⟩
    · skip
      have tu := hg12
      obtain rfl : u = 3 := by omega
      have eO := sumF_succ (fun a => sumF (fun b => lkF rnd r c l (i - 1 + a) (k - 1 + b)) 3) t
      exact hJ10 _ _ ⟨g1L11, g2L11, g3L11, g4L11, (g9L11.trans (congrArg (Value.int .i64) (by first | omega | rfl | (simp; done)))), g10L11, op1, lE⟩
  · skip
    have tt := hg9
    obtain rfl : t = 3 := by omega
    have eA := arF_eq (rnd := rnd) (l := l) i0 i1 j0 j1
    exact hJ7 _ _ ⟨(g9L8.trans (congrArg (Value.int .i64) (by first | omega | rfl | (simp; done)))), op1, lE⟩
theorem C.impl_Life_becomes {vb vs : Value} {x n : Int} {b : List Int} {s : List Int}  {H : Hp} {K : Value → Hp → Prop} (hvb0 : Sl eI H vb b) (hvs0 : Sl eI H vs s) (kb : b.length ≤ 9223372036854775807) (ks : s.length ≤ 9223372036854775807)
    (hk : ∀ H', Le H H' → K (.int .i64 (if x = 0 then (if n ∈ b then 1 else 0) else (if n ∈ s then 1 else 0))) H') : HT prg I.impl_Life_becomes [(.agg #[vb, vs]), (.int .i64 (x)), (.int .i64 (n))].toArray H K := by
  have lE := Le.refl H
  have hvb := hvb0
  have hvs := hvs0
  refine R.impl_Life_becomes ?_
  unfold F.impl_Life_becomes
  refine nw_i (fun p1 H2 op1 nn3 le4 => ?_)
  have np1 : Nw H p1 := nn3.le lE
  replace hvb := hvb.le le4
  replace hvs := hvs.le le4
  replace lE := lE.trans le4
  replace op1 : Cel H2 p1 [vb, vs] := op1
  refine ob_i (vInt_eql _ _ _) ?_
  refine cnd_d (fun hg5 => ?_) (fun hg5 => ?_)
  · skip
    refine ob_i (op1.fa 0) ?_
    refine ob_i (op1.ld 0 rfl) ?_
    refine C.slices_Contains_int64Zint64 hvb (by first | omega | assumption) (fun   H6    le7 => ?_)
    replace op1 := op1.le le7
    replace hvb := hvb.le le7
    replace hvs := hvs.le le7
    replace lE := lE.trans le7
    refine C.impl_bit  ?_
    skip
    exact keq (K := K) (by rw [show ((if x = 0 then (if n ∈ b then 1 else 0) else (if n ∈ s then 1 else 0)) : Int) = (if (decide (n ∈ b)) = true then 1 else 0) from by simp only [ hg5, if_true, if_false, decide_eq_true_eq]]) (hk   _    lE)
  · skip
    refine ob_i (op1.fa 1) ?_
    refine ob_i (op1.ld 1 rfl) ?_
    refine C.slices_Contains_int64Zint64 hvs (by first | omega | assumption) (fun   H8    le9 => ?_)
    replace op1 := op1.le le9
    replace hvb := hvb.le le9
    replace hvs := hvs.le le9
    replace lE := lE.trans le9
    refine C.impl_bit  ?_
    skip
    exact keq (K := K) (by rw [show ((if x = 0 then (if n ∈ b then 1 else 0) else (if n ∈ s then 1 else 0)) : Int) = (if (decide (n ∈ s)) = true then 1 else 0) from by simp only [ hg5, if_true, if_false, decide_eq_true_eq]]) (hk   _    lE)
theorem C.impl_Life_step_1 {w p g vb vs vc : Value} {i k r c : Int} {rnd : Bool} {b : List Int} {s : List Int} {l : List Int}  {H : Hp} {K : Value → Hp → Prop} (hw0 : Cel H w [vb, vs]) (hp0 : Cel H p [(.int .i64 (r)), (.int .i64 (c)), vc]) (hg0 : Cel H g [(.bool (rnd))]) (hvb0 : Sl eI H vb b) (hvs0 : Sl eI H vs s) (hvc0 : Sl eI H vc l) (hf : fieldN 1 r c l) (kb : b.length ≤ 9223372036854775807) (ks : s.length ≤ 9223372036854775807) (i0 : 0 ≤ i) (i1 : i < r) (j0 : 0 ≤ k) (j1 : k < c)
    (hk : ∀ H', Le H H' → K (.int .i64 (nxG rnd b s r c l i k)) H') : HT prg I.impl_Life_step_1 [(.int .i64 (i)), (.int .i64 (k)), w, p, g].toArray H K := by
  have lE := Le.refl H
  have hw := hw0
  have hp := hp0
  have hg := hg0
  have hvb := hvb0
  have hvs := hvs0
  have hvc := hvc0
  refine R.impl_Life_step_1 ?_
  unfold F.impl_Life_step_1
  have hs := hf.1
  have hl := hf.2.1
  have q1 := hs.1
  have q2 := hs.2
  have qm := sidesF_mul hs
  have x1 := ix_lt (a := i) (b := k) (r := r) (c := c) (by omega) (by omega) (by omega) (by omega)
  refine ob_i (hw.ldn rfl) ?_
  refine ob_i (hp.ldn rfl) ?_
  refine ob_i (hp.ldn rfl) ?_
  refine ob_i (hg.ld0 rfl) ?_
  refine C.impl_Field_at hvc (by first | omega | assumption) (by first | omega | assumption) (by first | omega | assumption) (by first | omega | assumption) (by first | omega | assumption) (fun   H1    le2 => ?_)
  replace hw := hw.le le2
  replace hp := hp.le le2
  replace hg := hg.le le2
  replace hvb := hvb.le le2
  replace hvs := hvs.le le2
  replace hvc := hvc.le le2
  replace lE := lE.trans le2
  refine ⟨le2, ?_⟩
  refine C.impl_Field_around hvc (by first | omega | assumption) (by first | omega | assumption) (by first | omega | assumption) (by first | omega | assumption) (by first | omega | assumption) (fun   H3    le4 => ?_)
  replace hw := hw.le le4
  replace hp := hp.le le4
  replace hg := hg.le le4
  replace hvb := hvb.le le4
  replace hvs := hvs.le le4
  replace hvc := hvc.le le4
  replace lE := lE.trans le4
  refine ⟨le4, ?_⟩
  refine C.impl_Life_becomes hvb hvs (by first | omega | assumption) (by first | omega | assumption) (fun   H5    le6 => ?_)
  replace hw := hw.le le6
  replace hp := hp.le le6
  replace hg := hg.le le6
  replace hvb := hvb.le le6
  replace hvs := hvs.le le6
  replace hvc := hvc.le le6
  replace lE := lE.trans le6
  refine ⟨le6, ?_⟩
  skip
  exact keq (K := K) (by rw [show ((if (at_ 0 l (i * c + k)) = 0 then (if (arF rnd r c l i k) ∈ b then 1 else 0) else (if (arF rnd r c l i k) ∈ s then 1 else 0)) : Int) = (nxG rnd b s r c l i k) from by rfl]) (hk   _    lE)
theorem C.impl_Life_step {vb vs vc : Value} {r c : Int} {rnd : Bool} {b : List Int} {s : List Int} {l : List Int}  {H : Hp} {K : Value → Hp → Prop} (hvb0 : Sl eI H vb b) (hvs0 : Sl eI H vs s) (hvc0 : Sl eI H vc l) (hf : fieldN 1 r c l) (kb : b.length ≤ 9223372036854775807) (ks : s.length ≤ 9223372036854775807)
    (hk : ∀ u1 H', Own eI H' u1 (nxL rnd b s r c l) → Nw H u1 → Le H H' → K (.agg #[(.int .i64 (r)), (.int .i64 (c)), u1]) H') : HT prg I.impl_Life_step [(.agg #[vb, vs]), (.agg #[(.int .i64 (r)), (.int .i64 (c)), vc]), (.bool (rnd))].toArray H K := by
  have lE := Le.refl H
  have hvb := hvb0
  have hvs := hvs0
  have hvc := hvc0
  refine R.impl_Life_step ?_
  unfold F.impl_Life_step
  have hs := hf.1
  have hl := hf.2.1
  have q1 := hs.1
  have q2 := hs.2
  have qm := sidesF_mul hs
  refine nw_i (fun p1 H2 op1 nn3 le4 => ?_)
  have np1 : Nw H p1 := nn3.le lE
  replace hvb := hvb.le le4
  replace hvs := hvs.le le4
  replace hvc := hvc.le le4
  replace lE := lE.trans le4
  replace op1 : Cel H2 p1 [vb, vs] := op1
  refine nw_i (fun p5 H6 op5 nn7 le8 => ?_)
  have ap1Xp5 : Apart p1 p5 := op1.apart nn7
  have np5 : Nw H p5 := nn7.le lE
  replace op1 := op1.le le8
  replace hvb := hvb.le le8
  replace hvs := hvs.le le8
  replace hvc := hvc.le le8
  replace lE := lE.trans le8
  replace op5 : Cel H6 p5 [(.int .i64 (r)), (.int .i64 (c)), vc] := op5
  refine nw_i (fun p9 H10 op9 nn11 le12 => ?_)
  have ap1Xp9 : Apart p1 p9 := op1.apart nn11
  have ap5Xp9 : Apart p5 p9 := op5.apart nn11
  have np9 : Nw H p9 := nn11.le lE
  replace op1 := op1.le le12
  replace op5 := op5.le le12
  replace hvb := hvb.le le12
  replace hvs := hvs.le le12
  replace hvc := hvc.le le12
  replace lE := lE.trans le12
  replace op9 : Cel H10 p9 [(.bool (rnd))] := op9
  refine nw_i (fun p13 H14 op13 nn15 le16 => ?_)
  have ap1Xp13 : Apart p1 p13 := op1.apart nn15
  have ap5Xp13 : Apart p5 p13 := op5.apart nn15
  have ap9Xp13 : Apart p9 p13 := op9.apart nn15
  have np13 : Nw H p13 := nn15.le lE
  replace op1 := op1.le le16
  replace op5 := op5.le le16
  replace op9 := op9.le le16
  replace hvb := hvb.le le16
  replace hvs := hvs.le le16
  replace hvc := hvc.le le16
  replace lE := lE.trans le16
  replace op13 : Cel H14 p13 [(.int .i64 (0)), (.int .i64 (0)), (.slice none 0 0)] := op13
  refine ob_i (op5.fa 0) ?_
  refine ob_i (op5.ld 0 rfl) ?_
  refine ob_i (op5.fa 1) ?_
  refine ob_i (op5.ld 1 rfl) ?_
  refine C.impl_madeField (g := nxG rnd b s r c l) (by omega) (by omega) (by omega) (by omega) (fun H21c i21 k21 Z leZ hi21 hk21 hZ => ?_) (fun u17 H18 ou17 nn19 le20 => ?_)
  · refine ⟨by kernel_rfl, ?_⟩
    replace op1 := op1.le leZ
    replace op5 := op5.le leZ
    replace op9 := op9.le leZ
    replace op13 := op13.le leZ
    replace hvb := hvb.le leZ
    replace hvs := hvs.le leZ
    replace hvc := hvc.le leZ
    replace lE := lE.trans leZ
    have lZ := Le.refl H21c
    refine C.impl_Life_step_1 op1 op5 op9 hvb hvs hvc (by first | omega | assumption) (by first | omega | assumption) (by first | omega | assumption) (by first | omega | assumption) (by first | omega | assumption) (by first | omega | assumption) (by first | omega | assumption) (fun   H22    le23 => ?_)
    replace op1 := op1.le le23
    replace op5 := op5.le le23
    replace op9 := op9.le le23
    replace op13 := op13.le le23
    replace hvb := hvb.le le23
    replace hvs := hvs.le le23
    replace hvc := hvc.le le23
    replace lE := lE.trans le23
    replace lZ := lZ.trans le23
    exact keq (K := Z) (by rw [show ((nxG rnd b s r c l (i21 : Int) (k21 : Int)) : Int) = (nxG rnd b s r c l) (i21 : Int) (k21 : Int) from rfl]) (hZ _ lZ)
  have ap1Xu17 : Apart p1 u17 := op1.apart nn19
  have ap5Xu17 : Apart p5 u17 := op5.apart nn19
  have ap9Xu17 : Apart p9 u17 := op9.apart nn19
  have ap13Xu17 : Apart p13 u17 := op13.apart nn19
  have nu17 : Nw H u17 := nn19.le lE
  replace op1 := op1.le le20
  replace op5 := op5.le le20
  replace op9 := op9.le le20
  replace op13 := op13.le le20
  replace hvb := hvb.le le20
  replace hvs := hvs.le le20
  replace hvc := hvc.le le20
  replace lE := lE.trans le20
  refine op13.stn (ws := [(.int .i64 (r)), (.int .i64 (c)), u17]) rfl rfl (oc1 rfl (oc1 rfl (oc1 ou17.one oc0))) (fun H24 op13 off25 => ?_)
  replace op1 := op1.off off25 ap1Xp13
  replace op5 := op5.off off25 ap5Xp13
  replace op9 := op9.off off25 ap9Xp13
  replace ou17 := ou17.off off25 ap13Xu17.symm
  replace hvb := hvb0.le (off25.le lE np13)
  replace hvs := hvs0.le (off25.le lE np13)
  replace hvc := hvc0.le (off25.le lE np13)
  replace lE := off25.le lE np13
  replace op13 : Cel H24 p13 [(.int .i64 (r)), (.int .i64 (c)), u17] := op13
  refine ob_i (op13.ldn rfl) ?_
  skip
  exact hk  u17 _ (Own.cast (show mkL (c) (nxG rnd b s r c l) ((r : Int).toNat * (c : Int).toNat) = nxL rnd b s r c l by first | rfl | simp) ou17) nu17  lE
theorem C.spec_l04Next {w p vb vs vc : Value} {r c : Int} {rnd : Bool} {b : List Int} {s : List Int} {l : List Int}  {H : Hp} {K : Value → Hp → Prop} (hw0 : Cel H w [vb, vs]) (hp0 : Cel H p [(.int .i64 (r)), (.int .i64 (c)), vc]) (hvb0 : Sl eI H vb b) (hvs0 : Sl eI H vs s) (hvc0 : Sl eI H vc l) (hf : fieldN 1 r c l) (kb : b.length ≤ 9223372036854775807) (ks : s.length ≤ 9223372036854775807)
    (hk : ∀ u1 H', Own eI H' u1 (nxL rnd b s r c l) → Nw H u1 → Le H H' → K (.agg #[(.int .i64 (r)), (.int .i64 (c)), u1]) H') : HT prg I.spec_l04Next [w, p, (.bool (rnd))].toArray H K := by
  have lE := Le.refl H
  have hw := hw0
  have hp := hp0
  have hvb := hvb0
  have hvs := hvs0
  have hvc := hvc0
  refine R.spec_l04Next ?_
  unfold F.spec_l04Next
  have hs := hf.1
  have hl := hf.2.1
  have q1 := hs.1
  have q2 := hs.2
  have qm := sidesF_mul hs
  refine nw_i (fun p1 H2 op1 nn3 le4 => ?_)
  have np1 : Nw H p1 := nn3.le lE
  replace hw := hw.le le4
  replace hp := hp.le le4
  replace hvb := hvb.le le4
  replace hvs := hvs.le le4
  replace hvc := hvc.le le4
  replace lE := lE.trans le4
  replace op1 : Cel H2 p1 [(.int .i64 (0)), (.int .i64 (0)), (.slice none 0 0)] := op1
  refine ob_i (hp.nilC) ?_
  refine ob_i (hp.fa 0) ?_
  refine ob_i (hp.ld 0 rfl) ?_
  refine ob_i (hp.nilC) ?_
  refine ob_i (hp.fa 1) ?_
  refine ob_i (hp.ld 1 rfl) ?_
  refine C.spec_l04New (by first | omega | assumption) (by first | omega | assumption) (by first | omega | assumption) (by first | omega | assumption) (fun  u H5 ou nn7  le6 => ?_)
  have ap1Xu : Apart p1 u := op1.apart nn7
  have nu : Nw H u := nn7.le lE
  replace op1 := op1.le le6
  replace hw := hw.le le6
  replace hp := hp.le le6
  replace hvb := hvb.le le6
  replace hvs := hvs.le le6
  replace hvc := hvc.le le6
  replace lE := lE.trans le6
  refine ⟨le6, ?_⟩
  refine nw_i (fun p8 H9 op8 nn10 le11 => ?_)
  have ap1Xp8 : Apart p1 p8 := op1.apart nn10
  have auXp8 : Apart u p8 := ou.apart nn10
  have np8 : Nw H p8 := nn10.le lE
  replace op1 := op1.le le11
  replace ou := ou.le le11
  replace hw := hw.le le11
  replace hp := hp.le le11
  replace hvb := hvb.le le11
  replace hvs := hvs.le le11
  replace hvc := hvc.le le11
  replace lE := lE.trans le11
  replace op8 : Cel H9 p8 [(.int .i64 (0)), (.int .i64 (0)), (.slice none 0 0)] := op8
  refine op8.stn (ws := [(.int .i64 (r)), (.int .i64 (c)), u]) rfl rfl (oc1 rfl (oc1 rfl (oc1 ou.one oc0))) (fun H12 op8 off13 => ?_)
  replace op1 := op1.off off13 ap1Xp8
  replace ou := ou.off off13 auXp8
  replace hw := hw0.le (off13.le lE np8)
  replace hp := hp0.le (off13.le lE np8)
  replace hvb := hvb0.le (off13.le lE np8)
  replace hvs := hvs0.le (off13.le lE np8)
  replace hvc := hvc0.le (off13.le lE np8)
  replace lE := off13.le lE np8
  replace op8 : Cel H12 p8 [(.int .i64 (r)), (.int .i64 (c)), u] := op8
  refine jn_i (fun σ' H' => σ' 6 = p1 ∧ σ' 7 = p8 ∧ Cel H' p1 [(.int .i64 (0)), (.int .i64 (0)), (.slice none 0 0)] ∧ Own eI H' u (nxL rnd b s r c l) ∧ Cel H' p8 [(.int .i64 (r)), (.int .i64 (c)), u] ∧ Le H H') (fun σ14 H14 hP => ?_) (fun J14 hJ14 => ?_)
  · skip
    obtain ⟨g6L14, g7L14, op1, ou, op8, lE⟩ := hP
    have hw := hw0.le lE
    have hp := hp0.le lE
    have hvb := hvb0.le lE
    have hvs := hvs0.le lE
    have hvc := hvc0.le lE
    try simp only [g6L14, g7L14]
    refine ob_i (op8.ldn rfl) ?_
    refine op1.stn (ws := [(.int .i64 (r)), (.int .i64 (c)), u]) rfl rfl (oc1 rfl (oc1 rfl (oc1 ou.one oc0))) (fun H15 op1 off16 => ?_)
    replace ou := ou.off off16 ap1Xu.symm
    replace op8 := op8.off off16 ap1Xp8.symm
    replace hw := hw0.le (off16.le lE np1)
    replace hp := hp0.le (off16.le lE np1)
    replace hvb := hvb0.le (off16.le lE np1)
    replace hvs := hvs0.le (off16.le lE np1)
    replace hvc := hvc0.le (off16.le lE np1)
    replace lE := off16.le lE np1
    replace op1 : Cel H15 p1 [(.int .i64 (r)), (.int .i64 (c)), u] := op1
    refine ob_i (op1.ldn rfl) ?_
    skip
    exact hk  u _ ou nu  lE
  refine ⟨fun n' σ' H' => ∃ i : Nat, n' = r.toNat - i ∧ i ≤ r.toNat ∧ σ' 0 = w ∧ σ' 1 = p ∧ σ' 2 = (.bool (rnd)) ∧ σ' 6 = p1 ∧ σ' 7 = p8 ∧ σ' 8 = (.int .i64 ((i : Int))) ∧ Cel H' p1 [(.int .i64 (0)), (.int .i64 (0)), (.slice none 0 0)] ∧ Own eI H' u (fillL c (nxG rnd b s r c l) (r.toNat * c.toNat) (i * c.toNat)) ∧ Cel H' p8 [(.int .i64 (r)), (.int .i64 (c)), u] ∧ Le H H',
    ⟨_, 0, rfl, by omega, rfl, rfl, rfl, rfl, rfl, (congrArg (Value.int .i64) (by first | omega | rfl | (simp; done))), op1, (by rw [Nat.zero_mul, fillL_zero]; exact ou), op8, lE⟩, ?_⟩
  rintro n17 σ17 H17 ⟨i, rfl, hiN, g0L17, g1L17, g2L17, g6L17, g7L17, g8L17, op1, ou, op8, lE⟩
  have hw := hw0.le lE
  have hp := hp0.le lE
  have hvb := hvb0.le lE
  have hvs := hvs0.le lE
  have hvc := hvc0.le lE
  try simp only [g0L17, g1L17, g2L17, g6L17, g7L17, g8L17]
  refine ob_i (hp.nilC) ?_
  refine ob_i (hp.fa 0) ?_
  refine ob_i (hp.ld 0 rfl) ?_
  refine ob_i (vInt_lss _ _ _) ?_
  refine cnd_d (fun hg18 => ?_) (fun hg18 => ?_)
  · skip
    have ti := hg18
    refine jn_i (fun σ' H' => σ' 0 = w ∧ σ' 1 = p ∧ σ' 2 = (.bool (rnd)) ∧ σ' 6 = p1 ∧ σ' 7 = p8 ∧ σ' 8 = (.int .i64 ((i : Int))) ∧ Cel H' p1 [(.int .i64 (0)), (.int .i64 (0)), (.slice none 0 0)] ∧ Own eI H' u (fillL c (nxG rnd b s r c l) (r.toNat * c.toNat) ((i + 1) * c.toNat)) ∧ Cel H' p8 [(.int .i64 (r)), (.int .i64 (c)), u] ∧ Le H H') (fun σ19 H19 hP => ?_) (fun J19 hJ19 => ?_)
    · skip
      obtain ⟨g0L19, g1L19, g2L19, g6L19, g7L19, g8L19, op1, ou, op8, lE⟩ := hP
      have hw := hw0.le lE
      have hp := hp0.le lE
      have hvb := hvb0.le lE
      have hvs := hvs0.le lE
      have hvc := hvc0.le lE
      try simp only [g6L19, g8L19]
      refine ob_i (vInt_add (by omega) (by omega)) ?_
      exact nxt (r.toNat - (i + 1)) (by omega) ⟨i + 1, rfl, by omega, g0L19, g1L19, g2L19, g6L19, g7L19, (congrArg (Value.int .i64) (by first | omega | rfl | (simp; done))), op1, ou, op8, lE⟩
    refine ⟨fun n' σ' H' => ∃ k : Nat, n' = c.toNat - k ∧ k ≤ c.toNat ∧ σ' 0 = w ∧ σ' 1 = p ∧ σ' 2 = (.bool (rnd)) ∧ σ' 6 = p1 ∧ σ' 7 = p8 ∧ σ' 8 = (.int .i64 ((i : Int))) ∧ σ' 9 = (.int .i64 ((k : Int))) ∧ Cel H' p1 [(.int .i64 (0)), (.int .i64 (0)), (.slice none 0 0)] ∧ Own eI H' u (fillL c (nxG rnd b s r c l) (r.toNat * c.toNat) (i * c.toNat + k)) ∧ Cel H' p8 [(.int .i64 (r)), (.int .i64 (c)), u] ∧ Le H H',
      ⟨_, 0, rfl, by omega, g0L17, g1L17, g2L17, g6L17, g7L17, g8L17, (congrArg (Value.int .i64) (by first | omega | rfl | (simp; done))), op1, ou, op8, lE⟩, ?_⟩
    rintro n20 σ20 H20 ⟨k, rfl, hkN, g0L20, g1L20, g2L20, g6L20, g7L20, g8L20, g9L20, op1, ou, op8, lE⟩
    have hw := hw0.le lE
    have hp := hp0.le lE
    have hvb := hvb0.le lE
    have hvs := hvs0.le lE
    have hvc := hvc0.le lE
    try simp only [g0L20, g1L20, g2L20, g6L20, g7L20, g8L20, g9L20]
    refine ob_i (hp.nilC) ?_
    refine ob_i (hp.fa 1) ?_
    refine ob_i (hp.ld 1 rfl) ?_
    refine ob_i (vInt_lss _ _ _) ?_
    refine cnd_d (fun hg21 => ?_) (fun hg21 => ?_)
    · skip
      have tk := hg21
      have x1 := ix_lt (a := (i : Int)) (b := (k : Int)) (r := r) (c := c) (by omega) (by omega) (by omega) (by omega)
      have x3 := fillL_len (c := c) (g := nxG rnd b s r c l) (rr := r) (cc := c) (t := i * c.toNat + k) (by omega) (by omega)
      have x4 := fieldN_at hf (i := (i : Int) * c + (k : Int)) (by omega) (by omega)
      refine C.spec_l04Around hp hvc (by first | omega | assumption) (by first | omega | assumption) (by first | omega | assumption) (by first | omega | assumption) (by first | omega | assumption) (fun   H22    le23 => ?_)
      replace op1 := op1.le le23
      replace ou := ou.le le23
      replace op8 := op8.le le23
      replace hw := hw.le le23
      replace hp := hp.le le23
      replace hvb := hvb.le le23
      replace hvs := hvs.le le23
      replace hvc := hvc.le le23
      replace lE := lE.trans le23
      refine ob_i (hp.nilC) ?_
      refine ob_i (hp.fa 1) ?_
      refine ob_i (hp.ld 1 rfl) ?_
      refine ob_i (vInt_mul (by omega) (by omega)) ?_
      refine ob_i (vInt_add (by omega) (by omega)) ?_
      refine ob_i (hp.nilC) ?_
      refine ob_i (hp.fa 2) ?_
      refine ob_i (hp.ld 2 rfl) ?_
      refine ob_i (hvc.ix (by omega) (by omega)) ?_
      refine ob_i (hvc.ld 0 (by omega) (by omega)) ?_
      refine ob_i (vInt_eql _ _ _) ?_
      by_cases hc24 : (at_ 0 (l) (((i : Int) * c) + (k : Int))) = 0
      · skip
        refine gop_e (decide_eq_true hc24) ?_
        refine gop_rt ?_
        refine gop_e (decide_eq_true hc24) ?_
        refine gop_rt ?_
        refine ob_i (hw.nilC) ?_
        refine gop_e (decide_eq_true hc24) ?_
        refine gop_rt ?_
        refine ob_i (hw.fa 0) ?_
        refine gop_e (decide_eq_true hc24) ?_
        refine gop_rt ?_
        refine ob_i (hw.ld 0 rfl) ?_
        refine gop_e (decide_eq_true hc24) ?_
        refine gop_rt ?_
        refine gop_e (decide_eq_true hc24) ?_
        refine gop_rt ?_
        refine C.spec_l04Has hvb (by first | omega | assumption) (fun   H25    le26 => ?_)
        replace op1 := op1.le le26
        replace ou := ou.le le26
        replace op8 := op8.le le26
        replace hw := hw.le le26
        replace hp := hp.le le26
        replace hvb := hvb.le le26
        replace hvs := hvs.le le26
        replace hvc := hvc.le le26
        replace lE := lE.trans le26
        refine ob_i (vPick_et (decide_eq_true hc24) _ _) ?_
        by_cases hc27 : (arF rnd r c l (i : Int) (k : Int)) ∈ b
        · skip
          refine gop_e (decide_eq_true hc27) ?_
          refine gop_st ?_
          refine gop_e (decide_eq_true hc27) ?_
          refine gop_st ?_
          refine gop_e (decide_eq_true hc27) ?_
          refine gop_st ?_
          refine gop_e (decide_eq_true hc27) ?_
          refine gop_st ?_
          refine gop_e (decide_eq_true hc27) ?_
          refine gop_st ?_
          refine gop_e (decide_eq_true hc27) ?_
          refine gop_st ?_
          refine gop_e (decide_eq_true hc27) ?_
          refine gop_st ?_
          refine gop_e (decide_eq_true hc27) ?_
          refine gop_st ?_
          refine gop_e (decide_eq_true hc27) ?_
          refine gop_st ?_
          refine gop_u ?_
          refine gop_u ?_
          refine gop_u ?_
          refine gop_u ?_
          refine gop_u ?_
          refine gop_u ?_
          refine gop_e (decide_eq_true hc27) ?_
          refine gop_st ?_
          refine ob_i (vPick_et (decide_eq_true hc27) _ _) ?_
          refine cnd_t1 ?_
          refine ob_i (op8.fa 2) ?_
          refine ob_i (op8.ld 2 rfl) ?_
          refine ob_i (ou.sl.ix (by omega) (by omega)) ?_
          refine ou.st (x := 1) (by omega) (by omega) rfl rfl (fun H28 ou off29 => ?_)
          replace op1 := op1.off off29 ap1Xu
          replace op8 := op8.off off29 auXp8.symm
          replace hw := hw0.le (off29.le lE nu)
          replace hp := hp0.le (off29.le lE nu)
          replace hvb := hvb0.le (off29.le lE nu)
          replace hvs := hvs0.le (off29.le lE nu)
          replace hvc := hvc0.le (off29.le lE nu)
          replace lE := off29.le lE nu
          refine ob_i (vInt_add (by omega) (by omega)) ?_
          have eG : nxG rnd b s r c l (i : Int) (k : Int) = 1 := by first | exact nx_b1 (by assumption) (by assumption) | exact nx_s1 (by assumption) (by assumption) | (exfalso; omega)
          replace ou : Own eI H28 u (fillL c (nxG rnd b s r c l) (r.toNat * c.toNat) (i * c.toNat + (k + 1))) := by rw [← Nat.add_assoc, ← fillL_set (c := c) (g := nxG rnd b s r c l) (i := (i : Int)) (k := (k : Int)) (by omega) (by omega) (by omega) (cast_ix (by omega)) (by omega), eG]; exact ou
          exact nxt (c.toNat - (k + 1)) (by omega) ⟨k + 1, rfl, by omega, g0L20, g1L20, g2L20, g6L20, g7L20, g8L20, (congrArg (Value.int .i64) (by first | omega | rfl | (simp; done))), op1, ou, op8, lE⟩
        · skip
          refine gop_e (decide_eq_false hc27) ?_
          refine gop_rf ?_
          refine gop_e (decide_eq_false hc27) ?_
          refine gop_rf ?_
          refine ob_i (hp.nilC) ?_
          refine gop_e (decide_eq_false hc27) ?_
          refine gop_rf ?_
          refine ob_i (hp.fa 2) ?_
          refine gop_e (decide_eq_false hc27) ?_
          refine gop_rf ?_
          refine ob_i (hp.ld 2 rfl) ?_
          refine gop_e (decide_eq_false hc27) ?_
          refine gop_rf ?_
          refine gop_e (decide_eq_false hc27) ?_
          refine gop_rf ?_
          refine ob_i (hvc.ix (by omega) (by omega)) ?_
          refine gop_e (decide_eq_false hc27) ?_
          refine gop_rf ?_
          refine ob_i (hvc.ld 0 (by omega) (by omega)) ?_
          refine gop_e (decide_eq_false hc27) ?_
          refine gop_rf ?_
          refine ob_i (vInt_eql _ _ _) ?_
          refine gop_e (decide_eq_false hc27) ?_
          refine gop_rf ?_
          by_cases hc30 : (at_ 0 (l) (((i : Int) * c) + (k : Int))) = 1
          · skip
            refine gop_e (decide_eq_true hc30) ?_
            refine gop_rt ?_
            refine gop_e (decide_eq_true hc30) ?_
            refine gop_rt ?_
            refine ob_i (hw.nilC) ?_
            refine gop_e (decide_eq_true hc30) ?_
            refine gop_rt ?_
            refine ob_i (hw.fa 1) ?_
            refine gop_e (decide_eq_true hc30) ?_
            refine gop_rt ?_
            refine ob_i (hw.ld 1 rfl) ?_
            refine gop_e (decide_eq_true hc30) ?_
            refine gop_rt ?_
            refine gop_e (decide_eq_true hc30) ?_
            refine gop_rt ?_
            refine C.spec_l04Has hvs (by first | omega | assumption) (fun   H31    le32 => ?_)
            replace op1 := op1.le le32
            replace ou := ou.le le32
            replace op8 := op8.le le32
            replace hw := hw.le le32
            replace hp := hp.le le32
            replace hvb := hvb.le le32
            replace hvs := hvs.le le32
            replace hvc := hvc.le le32
            replace lE := lE.trans le32
            refine gop_e (decide_eq_false hc27) ?_
            refine gop_rf ?_
            refine ob_i (vPick_et (decide_eq_true hc30) _ _) ?_
            refine ob_i (vPick_ef (decide_eq_false hc27) _ _) ?_
            refine cnd_d (fun hg33 => ?_) (fun hg33 => ?_)
            · skip
              refine ob_i (op8.fa 2) ?_
              refine ob_i (op8.ld 2 rfl) ?_
              refine ob_i (ou.sl.ix (by omega) (by omega)) ?_
              refine ou.st (x := 1) (by omega) (by omega) rfl rfl (fun H34 ou off35 => ?_)
              replace op1 := op1.off off35 ap1Xu
              replace op8 := op8.off off35 auXp8.symm
              replace hw := hw0.le (off35.le lE nu)
              replace hp := hp0.le (off35.le lE nu)
              replace hvb := hvb0.le (off35.le lE nu)
              replace hvs := hvs0.le (off35.le lE nu)
              replace hvc := hvc0.le (off35.le lE nu)
              replace lE := off35.le lE nu
              refine ob_i (vInt_add (by omega) (by omega)) ?_
              have eG : nxG rnd b s r c l (i : Int) (k : Int) = 1 := by first | exact nx_b1 (by assumption) (by assumption) | exact nx_s1 (by assumption) (by assumption) | (exfalso; omega)
              replace ou : Own eI H34 u (fillL c (nxG rnd b s r c l) (r.toNat * c.toNat) (i * c.toNat + (k + 1))) := by rw [← Nat.add_assoc, ← fillL_set (c := c) (g := nxG rnd b s r c l) (i := (i : Int)) (k := (k : Int)) (by omega) (by omega) (by omega) (cast_ix (by omega)) (by omega), eG]; exact ou
              exact nxt (c.toNat - (k + 1)) (by omega) ⟨k + 1, rfl, by omega, g0L20, g1L20, g2L20, g6L20, g7L20, g8L20, (congrArg (Value.int .i64) (by first | omega | rfl | (simp; done))), op1, ou, op8, lE⟩
            · skip
              refine ob_i (vInt_add (by omega) (by omega)) ?_
              have eG : nxG rnd b s r c l (i : Int) (k : Int) = 0 := by first | exact nx_b0 (by assumption) (by assumption) | exact nx_s0 (by assumption) (by assumption) | (exfalso; omega)
              replace ou : Own eI H31 u (fillL c (nxG rnd b s r c l) (r.toNat * c.toNat) (i * c.toNat + (k + 1))) := by rw [← Nat.add_assoc, ← fillL_skip (c := c) (g := nxG rnd b s r c l) (i := (i : Int)) (k := (k : Int)) (by omega) (by omega) (by omega) (cast_ix (by omega)) eG]; exact ou
              exact nxt (c.toNat - (k + 1)) (by omega) ⟨k + 1, rfl, by omega, g0L20, g1L20, g2L20, g6L20, g7L20, g8L20, (congrArg (Value.int .i64) (by first | omega | rfl | (simp; done))), op1, ou, op8, lE⟩
          · skip
            refine gop_e (decide_eq_false hc30) ?_
            refine gop_sf ?_
            refine gop_e (decide_eq_false hc30) ?_
            refine gop_sf ?_
            refine gop_e (decide_eq_false hc30) ?_
            refine gop_sf ?_
            refine gop_e (decide_eq_false hc30) ?_
            refine gop_sf ?_
            refine gop_e (decide_eq_false hc30) ?_
            refine gop_sf ?_
            refine gop_e (decide_eq_false hc30) ?_
            refine gop_sf ?_
            refine gop_e (decide_eq_false hc27) ?_
            refine gop_rf ?_
            refine ob_i (vPick_ef (decide_eq_false hc30) _ _) ?_
            refine ob_i (vPick_ef (decide_eq_false hc27) _ _) ?_
            refine cnd_f1 ?_
            refine ob_i (vInt_add (by omega) (by omega)) ?_
            have eG : nxG rnd b s r c l (i : Int) (k : Int) = 0 := by first | exact nx_b0 (by assumption) (by assumption) | exact nx_s0 (by assumption) (by assumption) | (exfalso; omega)
            replace ou : Own eI H25 u (fillL c (nxG rnd b s r c l) (r.toNat * c.toNat) (i * c.toNat + (k + 1))) := by rw [← Nat.add_assoc, ← fillL_skip (c := c) (g := nxG rnd b s r c l) (i := (i : Int)) (k := (k : Int)) (by omega) (by omega) (by omega) (cast_ix (by omega)) eG]; exact ou
            exact nxt (c.toNat - (k + 1)) (by omega) ⟨k + 1, rfl, by omega, g0L20, g1L20, g2L20, g6L20, g7L20, g8L20, (congrArg (Value.int .i64) (by first | omega | rfl | (simp; done))), op1, ou, op8, lE⟩
      · skip
        refine gop_e (decide_eq_false hc24) ?_
        refine gop_sf ?_
        refine gop_e (decide_eq_false hc24) ?_
        refine gop_sf ?_
        refine gop_e (decide_eq_false hc24) ?_
        refine gop_sf ?_
        refine gop_e (decide_eq_false hc24) ?_
        refine gop_sf ?_
        refine gop_e (decide_eq_false hc24) ?_
        refine gop_sf ?_
        refine gop_e (decide_eq_false hc24) ?_
        refine gop_sf ?_
        refine ob_i (vPick_ef (decide_eq_false hc24) _ _) ?_
        refine gop_rf ?_
        refine gop_rf ?_
        refine ob_i (hp.nilC) ?_
        refine gop_rf ?_
        refine ob_i (hp.fa 2) ?_
        refine gop_rf ?_
        refine ob_i (hp.ld 2 rfl) ?_
        refine gop_rf ?_
        refine gop_rf ?_
        refine ob_i (hvc.ix (by omega) (by omega)) ?_
        refine gop_rf ?_
        refine ob_i (hvc.ld 0 (by omega) (by omega)) ?_
        refine gop_rf ?_
        refine ob_i (vInt_eql _ _ _) ?_
        refine gop_rf ?_
        by_cases hc36 : (at_ 0 (l) (((i : Int) * c) + (k : Int))) = 1
        · skip
          refine gop_e (decide_eq_true hc36) ?_
          refine gop_rt ?_
          refine gop_e (decide_eq_true hc36) ?_
          refine gop_rt ?_
          refine ob_i (hw.nilC) ?_
          refine gop_e (decide_eq_true hc36) ?_
          refine gop_rt ?_
          refine ob_i (hw.fa 1) ?_
          refine gop_e (decide_eq_true hc36) ?_
          refine gop_rt ?_
          refine ob_i (hw.ld 1 rfl) ?_
          refine gop_e (decide_eq_true hc36) ?_
          refine gop_rt ?_
          refine gop_e (decide_eq_true hc36) ?_
          refine gop_rt ?_
          refine C.spec_l04Has hvs (by first | omega | assumption) (fun   H37    le38 => ?_)
          replace op1 := op1.le le38
          replace ou := ou.le le38
          replace op8 := op8.le le38
          replace hw := hw.le le38
          replace hp := hp.le le38
          replace hvb := hvb.le le38
          replace hvs := hvs.le le38
          replace hvc := hvc.le le38
          replace lE := lE.trans le38
          refine gop_rf ?_
          refine ob_i (vPick_et (decide_eq_true hc36) _ _) ?_
          refine ob_i (vPick_f _ _) ?_
          refine cnd_d (fun hg39 => ?_) (fun hg39 => ?_)
          · skip
            refine ob_i (op8.fa 2) ?_
            refine ob_i (op8.ld 2 rfl) ?_
            refine ob_i (ou.sl.ix (by omega) (by omega)) ?_
            refine ou.st (x := 1) (by omega) (by omega) rfl rfl (fun H40 ou off41 => ?_)
            replace op1 := op1.off off41 ap1Xu
            replace op8 := op8.off off41 auXp8.symm
            replace hw := hw0.le (off41.le lE nu)
            replace hp := hp0.le (off41.le lE nu)
            replace hvb := hvb0.le (off41.le lE nu)
            replace hvs := hvs0.le (off41.le lE nu)
            replace hvc := hvc0.le (off41.le lE nu)
            replace lE := off41.le lE nu
            refine ob_i (vInt_add (by omega) (by omega)) ?_
            have eG : nxG rnd b s r c l (i : Int) (k : Int) = 1 := by first | exact nx_b1 (by assumption) (by assumption) | exact nx_s1 (by assumption) (by assumption) | (exfalso; omega)
            replace ou : Own eI H40 u (fillL c (nxG rnd b s r c l) (r.toNat * c.toNat) (i * c.toNat + (k + 1))) := by rw [← Nat.add_assoc, ← fillL_set (c := c) (g := nxG rnd b s r c l) (i := (i : Int)) (k := (k : Int)) (by omega) (by omega) (by omega) (cast_ix (by omega)) (by omega), eG]; exact ou
            exact nxt (c.toNat - (k + 1)) (by omega) ⟨k + 1, rfl, by omega, g0L20, g1L20, g2L20, g6L20, g7L20, g8L20, (congrArg (Value.int .i64) (by first | omega | rfl | (simp; done))), op1, ou, op8, lE⟩
          · skip
            refine ob_i (vInt_add (by omega) (by omega)) ?_
            have eG : nxG rnd b s r c l (i : Int) (k : Int) = 0 := by first | exact nx_b0 (by assumption) (by assumption) | exact nx_s0 (by assumption) (by assumption) | (exfalso; omega)
            replace ou : Own eI H37 u (fillL c (nxG rnd b s r c l) (r.toNat * c.toNat) (i * c.toNat + (k + 1))) := by rw [← Nat.add_assoc, ← fillL_skip (c := c) (g := nxG rnd b s r c l) (i := (i : Int)) (k := (k : Int)) (by omega) (by omega) (by omega) (cast_ix (by omega)) eG]; exact ou
            exact nxt (c.toNat - (k + 1)) (by omega) ⟨k + 1, rfl, by omega, g0L20, g1L20, g2L20, g6L20, g7L20, g8L20, (congrArg (Value.int .i64) (by first | omega | rfl | (simp; done))), op1, ou, op8, lE⟩
        · skip
          refine gop_e (decide_eq_false hc36) ?_
          refine gop_sf ?_
          refine gop_e (decide_eq_false hc36) ?_
          refine gop_sf ?_
          refine gop_e (decide_eq_false hc36) ?_
          refine gop_sf ?_
          refine gop_e (decide_eq_false hc36) ?_
          refine gop_sf ?_
          refine gop_e (decide_eq_false hc36) ?_
          refine gop_sf ?_
          refine gop_e (decide_eq_false hc36) ?_
          refine gop_sf ?_
          refine gop_rf ?_
          refine ob_i (vPick_ef (decide_eq_false hc36) _ _) ?_
          refine ob_i (vPick_f _ _) ?_
          refine cnd_f1 ?_
          refine ob_i (vInt_add (by omega) (by omega)) ?_
          have eG : nxG rnd b s r c l (i : Int) (k : Int) = 0 := by first | exact nx_b0 (by assumption) (by assumption) | exact nx_s0 (by assumption) (by assumption) | (exfalso; omega)
          replace ou : Own eI H22 u (fillL c (nxG rnd b s r c l) (r.toNat * c.toNat) (i * c.toNat + (k + 1))) := by rw [← Nat.add_assoc, ← fillL_skip (c := c) (g := nxG rnd b s r c l) (i := (i : Int)) (k := (k : Int)) (by omega) (by omega) (by omega) (cast_ix (by omega)) eG]; exact ou
          exact nxt (c.toNat - (k + 1)) (by omega) ⟨k + 1, rfl, by omega, g0L20, g1L20, g2L20, g6L20, g7L20, g8L20, (congrArg (Value.int .i64) (by first | omega | rfl | (simp; done))), op1, ou, op8, lE⟩
    · skip
      have tk := hg21
      rw [show i * c.toNat + k = (i + 1) * c.toNat by rw [Nat.add_mul, Nat.one_mul]; omega] at ou
      exact hJ19 _ _ ⟨g0L20, g1L20, g2L20, g6L20, g7L20, g8L20, op1, ou, op8, lE⟩
  · skip
    have ti := hg18
    rw [fillL_end (by rw [show i = r.toNat by omega]; exact Nat.le_refl _)] at ou
    exact hJ14 _ _ ⟨g6L17, g7L17, op1, ou, op8, lE⟩
def runP (b s : List Int) (r c : Int) (l : List Int) (n : Int) : Prop := canP b s r c l ∧ 0 ≤ n ∧ n ≤ 512
instance (b s : List Int) (r c : Int) (l : List Int) (n : Int) : Decidable (runP b s r c l n) := by unfold runP; infer_instance
theorem runP_len {rnd : Bool} {b s : List Int} {r c : Int} {l : List Int} {n : Int} {k : Nat} : (selL (runP b s r c l n) (rnL rnd b s r c l k)).length ≤ 576 := selL_len fun h => fieldN_len (rnL_field h.1.2 k)
end Go.Proofs.Ytaflemogkogkkaa
