/- Kinds of quarters. -/
import Derived.Test.YthgjegbckkpaiaaKW
import Derived.Test.YthgjegbckkpaiaaKI
import Derived.Test.YthgjegbckkpaiaaSI
namespace Go.Proofs.Ythgjegbckkpaiaa
open HL
set_option maxRecDepth 100000
theorem C.spec_l05Square {p vc : Value} {r c : Int} {l : List Int}  {H : Hp} {K : Value → Hp → Prop} (hp0 : Cel H p [(.int .i64 (r)), (.int .i64 (c)), vc]) (hvc0 : Sl eI H vc l) (k1 : l.length ≤ 9223372036854775807)
    (hk : ∀ H', Le H H' → K (.bool (decide (sqP r c l))) H') : HT prg I.spec_l05Square [p].toArray H K := by
  have lE := Le.refl H
  have hp := hp0
  have hvc := hvc0
  refine R.spec_l05Square ?_
  unfold F.spec_l05Square
  refine C.spec_l04Plain hp hvc (by first | omega | assumption) ?_
  refine ⟨Le.refl _, ?_⟩
  by_cases hc1 : fieldN 1 r c l
  · skip
    refine gop_e (decide_eq_true hc1) ?_
    refine gop_rt ?_
    refine gop_e (decide_eq_true hc1) ?_
    refine gop_rt ?_
    refine ob_i (hp.nilC) ?_
    refine gop_e (decide_eq_true hc1) ?_
    refine gop_rt ?_
    refine ob_i (hp.fa 0) ?_
    refine gop_e (decide_eq_true hc1) ?_
    refine gop_rt ?_
    refine ob_i (hp.ld 0 rfl) ?_
    refine gop_e (decide_eq_true hc1) ?_
    refine gop_rt ?_
    refine gop_e (decide_eq_true hc1) ?_
    refine gop_rt ?_
    refine ob_i (hp.nilC) ?_
    refine gop_e (decide_eq_true hc1) ?_
    refine gop_rt ?_
    refine ob_i (hp.fa 1) ?_
    refine gop_e (decide_eq_true hc1) ?_
    refine gop_rt ?_
    refine ob_i (hp.ld 1 rfl) ?_
    refine gop_e (decide_eq_true hc1) ?_
    refine gop_rt ?_
    refine ob_i (vInt_eql _ _ _) ?_
    refine ob_i (vPick_et (decide_eq_true hc1) _ _) ?_
    by_cases hc2 : r = c
    · skip
      refine gop_e (decide_eq_true hc2) ?_
      refine gop_rt ?_
      refine gop_e (decide_eq_true hc2) ?_
      refine gop_rt ?_
      refine ob_i (hp.nilC) ?_
      refine gop_e (decide_eq_true hc2) ?_
      refine gop_rt ?_
      refine ob_i (hp.fa 0) ?_
      refine gop_e (decide_eq_true hc2) ?_
      refine gop_rt ?_
      refine ob_i (hp.ld 0 rfl) ?_
      refine gop_e (decide_eq_true hc2) ?_
      refine gop_rt ?_
      refine ob_i (vInt_eql _ _ _) ?_
      refine gop_e (decide_eq_true hc2) ?_
      refine gop_rt ?_
      by_cases hc3 : r = 4
      · skip
        refine gop_e (decide_eq_true hc3) ?_
        refine gop_st ?_
        refine gop_e (decide_eq_true hc3) ?_
        refine gop_st ?_
        refine gop_e (decide_eq_true hc3) ?_
        refine gop_st ?_
        refine gop_e (decide_eq_true hc3) ?_
        refine gop_st ?_
        refine gop_e (decide_eq_true hc3) ?_
        refine gop_st ?_
        refine gop_e (decide_eq_true hc2) ?_
        refine gop_rt ?_
        refine ob_i (vPick_et (decide_eq_true hc3) _ _) ?_
        refine gop_e (decide_eq_true hc2) ?_
        refine gop_rt ?_
        refine gop_st ?_
        refine gop_st ?_
        refine gop_st ?_
        refine gop_st ?_
        refine gop_st ?_
        refine gop_e (decide_eq_true hc2) ?_
        refine gop_rt ?_
        refine ob_i (vPick_t _ _) ?_
        refine ob_i (vPick_et (decide_eq_true hc2) _ _) ?_
        skip
        exact keq (K := K) (by rw [decide_eq_true (show (sqP r c l) from by exact ⟨by assumption, by omega⟩)]) (hk   _    lE)
      · skip
        refine gop_e (decide_eq_false hc3) ?_
        refine gop_rf ?_
        refine gop_e (decide_eq_false hc3) ?_
        refine gop_rf ?_
        refine ob_i (hp.nilC) ?_
        refine gop_e (decide_eq_false hc3) ?_
        refine gop_rf ?_
        refine ob_i (hp.fa 0) ?_
        refine gop_e (decide_eq_false hc3) ?_
        refine gop_rf ?_
        refine ob_i (hp.ld 0 rfl) ?_
        refine gop_e (decide_eq_false hc3) ?_
        refine gop_rf ?_
        refine ob_i (vInt_eql _ _ _) ?_
        refine gop_e (decide_eq_true hc2) ?_
        refine gop_rt ?_
        refine ob_i (vPick_ef (decide_eq_false hc3) _ _) ?_
        refine gop_e (decide_eq_true hc2) ?_
        refine gop_rt ?_
        by_cases hc4 : r = 8
        · skip
          refine gop_e (decide_eq_true hc4) ?_
          refine gop_st ?_
          refine gop_e (decide_eq_true hc4) ?_
          refine gop_st ?_
          refine gop_e (decide_eq_true hc4) ?_
          refine gop_st ?_
          refine gop_e (decide_eq_true hc4) ?_
          refine gop_st ?_
          refine gop_e (decide_eq_true hc4) ?_
          refine gop_st ?_
          refine gop_e (decide_eq_true hc2) ?_
          refine gop_rt ?_
          refine ob_i (vPick_et (decide_eq_true hc4) _ _) ?_
          refine ob_i (vPick_et (decide_eq_true hc2) _ _) ?_
          skip
          exact keq (K := K) (by rw [decide_eq_true (show (sqP r c l) from by exact ⟨by assumption, by omega⟩)]) (hk   _    lE)
        · skip
          refine gop_e (decide_eq_false hc4) ?_
          refine gop_rf ?_
          refine gop_e (decide_eq_false hc4) ?_
          refine gop_rf ?_
          refine ob_i (hp.nilC) ?_
          refine gop_e (decide_eq_false hc4) ?_
          refine gop_rf ?_
          refine ob_i (hp.fa 0) ?_
          refine gop_e (decide_eq_false hc4) ?_
          refine gop_rf ?_
          refine ob_i (hp.ld 0 rfl) ?_
          refine gop_e (decide_eq_false hc4) ?_
          refine gop_rf ?_
          refine ob_i (vInt_eql _ _ _) ?_
          refine gop_e (decide_eq_true hc2) ?_
          refine gop_rt ?_
          refine ob_i (vPick_ef (decide_eq_false hc4) _ _) ?_
          refine ob_i (vPick_et (decide_eq_true hc2) _ _) ?_
          skip
          exact keq (K := K) (by rw [show decide (r = 16) = decide (sqP r c l) from decide_eq_decide.mpr (by exact ⟨fun h => ⟨by assumption, by omega⟩, fun h => by have := h.2; omega⟩)]) (hk   _    lE)
    · skip
      refine gop_e (decide_eq_false hc2) ?_
      refine gop_sf ?_
      refine gop_e (decide_eq_false hc2) ?_
      refine gop_sf ?_
      refine gop_e (decide_eq_false hc2) ?_
      refine gop_sf ?_
      refine gop_e (decide_eq_false hc2) ?_
      refine gop_sf ?_
      refine gop_e (decide_eq_false hc2) ?_
      refine gop_sf ?_
      refine gop_e (decide_eq_false hc2) ?_
      refine gop_sf ?_
      refine gop_u ?_
      refine gop_u ?_
      refine gop_u ?_
      refine gop_u ?_
      refine gop_u ?_
      refine gop_e (decide_eq_false hc2) ?_
      refine gop_sf ?_
      refine gop_e (decide_eq_false hc2) ?_
      refine gop_sf ?_
      refine gop_u ?_
      refine gop_u ?_
      refine gop_u ?_
      refine gop_u ?_
      refine gop_u ?_
      refine gop_e (decide_eq_false hc2) ?_
      refine gop_sf ?_
      refine ob_i (vPick_ef (decide_eq_false hc2) _ _) ?_
      skip
      exact keq (K := K) (by rw [decide_eq_false (show ¬ (sqP r c l) from by intro h; have h1 := h.1; have h2 := h.2; first | contradiction | omega)]) (hk   _    lE)
  · skip
    refine gop_e (decide_eq_false hc1) ?_
    refine gop_sf ?_
    refine gop_e (decide_eq_false hc1) ?_
    refine gop_sf ?_
    refine gop_e (decide_eq_false hc1) ?_
    refine gop_sf ?_
    refine gop_e (decide_eq_false hc1) ?_
    refine gop_sf ?_
    refine gop_e (decide_eq_false hc1) ?_
    refine gop_sf ?_
    refine gop_e (decide_eq_false hc1) ?_
    refine gop_sf ?_
    refine gop_e (decide_eq_false hc1) ?_
    refine gop_sf ?_
    refine gop_e (decide_eq_false hc1) ?_
    refine gop_sf ?_
    refine gop_e (decide_eq_false hc1) ?_
    refine gop_sf ?_
    refine ob_i (vPick_ef (decide_eq_false hc1) _ _) ?_
    refine gop_sf ?_
    refine gop_sf ?_
    refine gop_sf ?_
    refine gop_sf ?_
    refine gop_sf ?_
    refine gop_sf ?_
    refine gop_u ?_
    refine gop_u ?_
    refine gop_u ?_
    refine gop_u ?_
    refine gop_u ?_
    refine gop_sf ?_
    refine gop_sf ?_
    refine gop_u ?_
    refine gop_u ?_
    refine gop_u ?_
    refine gop_u ?_
    refine gop_u ?_
    refine gop_sf ?_
    refine ob_i (vPick_f _ _) ?_
    skip
    exact keq (K := K) (by rw [decide_eq_false (show ¬ (sqP r c l) from by intro h; have h1 := h.1; have h2 := h.2; first | contradiction | omega)]) (hk   _    lE)
theorem C.impl_isSquare {vc : Value} {r c : Int} {l : List Int}  {H : Hp} {K : Value → Hp → Prop} (hvc0 : Sl eI H vc l) (k1 : l.length ≤ 9223372036854775807)
    (hk : ∀ H', Le H H' → K (.bool (decide (sqP r c l))) H') : HT prg I.impl_isSquare [(.agg #[(.int .i64 (r)), (.int .i64 (c)), vc])].toArray H K := by
  have lE := Le.refl H
  have hvc := hvc0
  refine R.impl_isSquare ?_
  unfold F.impl_isSquare
  refine nw_i (fun p1 H2 op1 nn3 le4 => ?_)
  have np1 : Nw H p1 := nn3.le lE
  replace hvc := hvc.le le4
  replace lE := lE.trans le4
  replace op1 : Cel H2 p1 [(.int .i64 (r)), (.int .i64 (c)), vc] := op1
  refine ob_i (op1.ldn rfl) ?_
  refine C.impl_isPlain hvc (by first | omega | assumption) (fun   H5    le6 => ?_)
  replace op1 := op1.le le6
  replace hvc := hvc.le le6
  replace lE := lE.trans le6
  by_cases hc7 : fieldN 1 r c l
  · skip
    refine gop_e (decide_eq_true hc7) ?_
    refine gop_rt ?_
    refine ob_i (op1.fa 0) ?_
    refine gop_e (decide_eq_true hc7) ?_
    refine gop_rt ?_
    refine ob_i (op1.ld 0 rfl) ?_
    refine gop_e (decide_eq_true hc7) ?_
    refine gop_rt ?_
    refine ob_i (op1.fa 1) ?_
    refine gop_e (decide_eq_true hc7) ?_
    refine gop_rt ?_
    refine ob_i (op1.ld 1 rfl) ?_
    refine gop_e (decide_eq_true hc7) ?_
    refine gop_rt ?_
    refine ob_i (vInt_eql _ _ _) ?_
    refine ob_i (vPick_et (decide_eq_true hc7) _ _) ?_
    by_cases hc8 : r = c
    · skip
      refine gop_e (decide_eq_true hc8) ?_
      refine gop_rt ?_
      refine ob_i (op1.fa 0) ?_
      refine gop_e (decide_eq_true hc8) ?_
      refine gop_rt ?_
      refine ob_i (op1.ld 0 rfl) ?_
      refine gop_e (decide_eq_true hc8) ?_
      refine gop_rt ?_
      refine ob_i (vInt_eql _ _ _) ?_
      refine gop_e (decide_eq_true hc8) ?_
      refine gop_rt ?_
      by_cases hc9 : r = 4
      · skip
        refine gop_e (decide_eq_true hc9) ?_
        refine gop_st ?_
        refine gop_e (decide_eq_true hc9) ?_
        refine gop_st ?_
        refine gop_e (decide_eq_true hc9) ?_
        refine gop_st ?_
        refine gop_e (decide_eq_true hc8) ?_
        refine gop_rt ?_
        refine ob_i (vPick_et (decide_eq_true hc9) _ _) ?_
        refine gop_e (decide_eq_true hc8) ?_
        refine gop_rt ?_
        refine gop_st ?_
        refine gop_st ?_
        refine gop_st ?_
        refine gop_e (decide_eq_true hc8) ?_
        refine gop_rt ?_
        refine ob_i (vPick_t _ _) ?_
        refine ob_i (vPick_et (decide_eq_true hc8) _ _) ?_
        skip
        exact keq (K := K) (by rw [decide_eq_true (show (sqP r c l) from by exact ⟨by assumption, by omega⟩)]) (hk   _    lE)
      · skip
        refine gop_e (decide_eq_false hc9) ?_
        refine gop_rf ?_
        refine ob_i (op1.fa 0) ?_
        refine gop_e (decide_eq_false hc9) ?_
        refine gop_rf ?_
        refine ob_i (op1.ld 0 rfl) ?_
        refine gop_e (decide_eq_false hc9) ?_
        refine gop_rf ?_
        refine ob_i (vInt_eql _ _ _) ?_
        refine gop_e (decide_eq_true hc8) ?_
        refine gop_rt ?_
        refine ob_i (vPick_ef (decide_eq_false hc9) _ _) ?_
        refine gop_e (decide_eq_true hc8) ?_
        refine gop_rt ?_
        by_cases hc10 : r = 8
        · skip
          refine gop_e (decide_eq_true hc10) ?_
          refine gop_st ?_
          refine gop_e (decide_eq_true hc10) ?_
          refine gop_st ?_
          refine gop_e (decide_eq_true hc10) ?_
          refine gop_st ?_
          refine gop_e (decide_eq_true hc8) ?_
          refine gop_rt ?_
          refine ob_i (vPick_et (decide_eq_true hc10) _ _) ?_
          refine ob_i (vPick_et (decide_eq_true hc8) _ _) ?_
          skip
          exact keq (K := K) (by rw [decide_eq_true (show (sqP r c l) from by exact ⟨by assumption, by omega⟩)]) (hk   _    lE)
        · skip
          refine gop_e (decide_eq_false hc10) ?_
          refine gop_rf ?_
          refine ob_i (op1.fa 0) ?_
          refine gop_e (decide_eq_false hc10) ?_
          refine gop_rf ?_
          refine ob_i (op1.ld 0 rfl) ?_
          refine gop_e (decide_eq_false hc10) ?_
          refine gop_rf ?_
          refine ob_i (vInt_eql _ _ _) ?_
          refine gop_e (decide_eq_true hc8) ?_
          refine gop_rt ?_
          refine ob_i (vPick_ef (decide_eq_false hc10) _ _) ?_
          refine ob_i (vPick_et (decide_eq_true hc8) _ _) ?_
          skip
          exact keq (K := K) (by rw [show decide (r = 16) = decide (sqP r c l) from decide_eq_decide.mpr (by exact ⟨fun h => ⟨by assumption, by omega⟩, fun h => by have := h.2; omega⟩)]) (hk   _    lE)
    · skip
      refine gop_e (decide_eq_false hc8) ?_
      refine gop_sf ?_
      refine gop_e (decide_eq_false hc8) ?_
      refine gop_sf ?_
      refine gop_e (decide_eq_false hc8) ?_
      refine gop_sf ?_
      refine gop_e (decide_eq_false hc8) ?_
      refine gop_sf ?_
      refine gop_u ?_
      refine gop_u ?_
      refine gop_u ?_
      refine gop_e (decide_eq_false hc8) ?_
      refine gop_sf ?_
      refine gop_e (decide_eq_false hc8) ?_
      refine gop_sf ?_
      refine gop_u ?_
      refine gop_u ?_
      refine gop_u ?_
      refine gop_e (decide_eq_false hc8) ?_
      refine gop_sf ?_
      refine ob_i (vPick_ef (decide_eq_false hc8) _ _) ?_
      skip
      exact keq (K := K) (by rw [decide_eq_false (show ¬ (sqP r c l) from by intro h; have h1 := h.1; have h2 := h.2; first | contradiction | omega)]) (hk   _    lE)
  · skip
    refine gop_e (decide_eq_false hc7) ?_
    refine gop_sf ?_
    refine gop_e (decide_eq_false hc7) ?_
    refine gop_sf ?_
    refine gop_e (decide_eq_false hc7) ?_
    refine gop_sf ?_
    refine gop_e (decide_eq_false hc7) ?_
    refine gop_sf ?_
    refine gop_e (decide_eq_false hc7) ?_
    refine gop_sf ?_
    refine ob_i (vPick_ef (decide_eq_false hc7) _ _) ?_
    refine gop_sf ?_
    refine gop_sf ?_
    refine gop_sf ?_
    refine gop_sf ?_
    refine gop_u ?_
    refine gop_u ?_
    refine gop_u ?_
    refine gop_sf ?_
    refine gop_sf ?_
    refine gop_u ?_
    refine gop_u ?_
    refine gop_u ?_
    refine gop_sf ?_
    refine ob_i (vPick_f _ _) ?_
    skip
    exact keq (K := K) (by rw [decide_eq_false (show ¬ (sqP r c l) from by intro h; have h1 := h.1; have h2 := h.2; first | contradiction | omega)]) (hk   _    lE)
theorem C.l04Same_r {p q vc vd : Value} {r c r2 c2 : Int} {l : List Int} {m : List Int}  {H : Hp} {K : Value → Hp → Prop} (hp0 : CelR H p [(.int .i64 (r)), (.int .i64 (c)), vc]) (hq0 : Cel H q [(.int .i64 (r2)), (.int .i64 (c2)), vd]) (hvc0 : Sl eI H vc l) (hvd0 : Sl eI H vd m) (k1 : l.length ≤ 9223372036854775807)
    (hk : ∀ H', Le H H' → K (.bool (decide (r = r2 ∧ c = c2 ∧ l = m))) H') : HT prg I.spec_l04Same [p, q].toArray H K := by
  have lE := Le.refl H
  have hp := hp0
  have hq := hq0
  have hvc := hvc0
  have hvd := hvd0
  refine R.spec_l04Same ?_
  unfold F.spec_l04Same
  refine ob_i (hp.nilC) ?_
  refine ob_i (hp.fa 0) ?_
  refine ob_i (hp.ld 0 rfl) ?_
  refine ob_i (hq.nilC) ?_
  refine ob_i (hq.fa 0) ?_
  refine ob_i (hq.ld 0 rfl) ?_
  refine ob_i (vInt_eql _ _ _) ?_
  by_cases hc1 : r = r2
  · skip
    refine gop_e (decide_eq_true hc1) ?_
    refine gop_rt ?_
    refine gop_e (decide_eq_true hc1) ?_
    refine gop_rt ?_
    refine ob_i (hp.nilC) ?_
    refine gop_e (decide_eq_true hc1) ?_
    refine gop_rt ?_
    refine ob_i (hp.fa 1) ?_
    refine gop_e (decide_eq_true hc1) ?_
    refine gop_rt ?_
    refine ob_i (hp.ld 1 rfl) ?_
    refine gop_e (decide_eq_true hc1) ?_
    refine gop_rt ?_
    refine gop_e (decide_eq_true hc1) ?_
    refine gop_rt ?_
    refine ob_i (hq.nilC) ?_
    refine gop_e (decide_eq_true hc1) ?_
    refine gop_rt ?_
    refine ob_i (hq.fa 1) ?_
    refine gop_e (decide_eq_true hc1) ?_
    refine gop_rt ?_
    refine ob_i (hq.ld 1 rfl) ?_
    refine gop_e (decide_eq_true hc1) ?_
    refine gop_rt ?_
    refine ob_i (vInt_eql _ _ _) ?_
    refine ob_i (vPick_et (decide_eq_true hc1) _ _) ?_
    by_cases hc2 : c = c2
    · skip
      refine gop_e (decide_eq_true hc2) ?_
      refine gop_rt ?_
      refine gop_e (decide_eq_true hc2) ?_
      refine gop_rt ?_
      refine ob_i (hp.nilC) ?_
      refine gop_e (decide_eq_true hc2) ?_
      refine gop_rt ?_
      refine ob_i (hp.fa 2) ?_
      refine gop_e (decide_eq_true hc2) ?_
      refine gop_rt ?_
      refine ob_i (hp.ld 2 rfl) ?_
      refine gop_e (decide_eq_true hc2) ?_
      refine gop_rt ?_
      refine gop_e (decide_eq_true hc2) ?_
      refine gop_rt ?_
      refine ob_i (hq.nilC) ?_
      refine gop_e (decide_eq_true hc2) ?_
      refine gop_rt ?_
      refine ob_i (hq.fa 2) ?_
      refine gop_e (decide_eq_true hc2) ?_
      refine gop_rt ?_
      refine ob_i (hq.ld 2 rfl) ?_
      refine gop_e (decide_eq_true hc2) ?_
      refine gop_rt ?_
      refine C.spec_l02Equal hvc hvd (by first | omega | assumption) ?_
      refine ⟨Le.refl _, ?_⟩
      refine ob_i (vPick_et (decide_eq_true hc2) _ _) ?_
      skip
      exact keq (K := K) (by rw [show decide (l = m) = decide (r = r2 ∧ c = c2 ∧ l = m) from decide_eq_decide.mpr (by exact ⟨fun h => ⟨by assumption, by assumption, h⟩, fun h => h.2.2⟩)]) (hk   _    lE)
    · skip
      refine gop_e (decide_eq_false hc2) ?_
      refine gop_sf ?_
      refine gop_e (decide_eq_false hc2) ?_
      refine gop_sf ?_
      refine gop_e (decide_eq_false hc2) ?_
      refine gop_sf ?_
      refine gop_e (decide_eq_false hc2) ?_
      refine gop_sf ?_
      refine gop_e (decide_eq_false hc2) ?_
      refine gop_sf ?_
      refine gop_e (decide_eq_false hc2) ?_
      refine gop_sf ?_
      refine gop_e (decide_eq_false hc2) ?_
      refine gop_sf ?_
      refine gop_e (decide_eq_false hc2) ?_
      refine gop_sf ?_
      refine gop_e (decide_eq_false hc2) ?_
      refine gop_sf ?_
      refine ob_i (vPick_ef (decide_eq_false hc2) _ _) ?_
      skip
      exact keq (K := K) (by rw [decide_eq_false (show ¬ (r = r2 ∧ c = c2 ∧ l = m) from by intro h; have h1 := h.1; have h2 := h.2.1; first | contradiction | omega)]) (hk   _    lE)
  · skip
    refine gop_e (decide_eq_false hc1) ?_
    refine gop_sf ?_
    refine gop_e (decide_eq_false hc1) ?_
    refine gop_sf ?_
    refine gop_e (decide_eq_false hc1) ?_
    refine gop_sf ?_
    refine gop_e (decide_eq_false hc1) ?_
    refine gop_sf ?_
    refine gop_e (decide_eq_false hc1) ?_
    refine gop_sf ?_
    refine gop_e (decide_eq_false hc1) ?_
    refine gop_sf ?_
    refine gop_e (decide_eq_false hc1) ?_
    refine gop_sf ?_
    refine gop_e (decide_eq_false hc1) ?_
    refine gop_sf ?_
    refine gop_e (decide_eq_false hc1) ?_
    refine gop_sf ?_
    refine ob_i (vPick_ef (decide_eq_false hc1) _ _) ?_
    refine gop_sf ?_
    refine gop_sf ?_
    refine gop_sf ?_
    refine gop_sf ?_
    refine gop_sf ?_
    refine gop_sf ?_
    refine gop_sf ?_
    refine gop_sf ?_
    refine gop_sf ?_
    refine ob_i (vPick_f _ _) ?_
    skip
    exact keq (K := K) (by rw [decide_eq_false (show ¬ (r = r2 ∧ c = c2 ∧ l = m) from by intro h; have h1 := h.1; have h2 := h.2.1; first | contradiction | omega)]) (hk   _    lE)
theorem key_set {l : List Int} {i : Nat} (h : i < l.length) : (l.take i ++ List.replicate (l.length - i) (0 : Int)).set (i : Int).toNat (at_ 0 l (i : Int)) = l.take (i + 1) ++ List.replicate (l.length - (i + 1)) 0 := by
  rw [Int.toNat_natCast, List.set_append_right _ _ (by rw [List.length_take]; omega), take_at 0 l h, List.append_assoc]
  congr 1
  rw [show i - (l.take i).length = 0 by simp; omega, show l.length - i = (l.length - (i + 1)) + 1 by omega, List.replicate_succ]; rfl
theorem C.impl_keyOf {va : Value} {l : List Int}  {H : Hp} {K : Value → Hp → Prop} (hva0 : Sl eI H va l) (hb : ∀ x ∈ l, 0 ≤ x ∧ x ≤ 255) (k2 : l.length ≤ 1000)
    (hk : ∀ H', Le H H' → K (.string (bytesS .empty (l))) H') : HT prg I.impl_keyOf [va].toArray H K := by
  have lE := Le.refl H
  have hva := hva0
  refine R.impl_keyOf ?_
  unfold F.impl_keyOf
  refine ob_i (hva.len) ?_
  refine Own.mk_ (z := (0 : Int)) (by omega) (by omega) (by omega) (by omega) (fun u H1 ou nn2 le3 => ?_)
  have nu : Nw H u := nn2.le lE
  replace hva := hva.le le3
  replace lE := lE.trans le3
  refine jn_i (fun σ' H' => σ' 3 = u ∧ Own eU H' u (l) ∧ Le H H') (fun σ4 H4 hP => ?_) (fun J4 hJ4 => ?_)
  · skip
    obtain ⟨g3L4, ou, lE⟩ := hP
    have hva := hva0.le lE
    try simp only [g3L4]
    refine ob_i (val_convBS (by kernel_rfl) ou.sl) ?_
    skip
    exact hk   _    lE
  refine ob_i (hva.len) ?_
  refine ⟨fun n' σ' H' => ∃ i : Nat, n' = l.length - i ∧ i ≤ l.length ∧ σ' 3 = u ∧ σ' 9 = va ∧ σ' 10 = (.int .i64 (((l).length : Int))) ∧ σ' 11 = (.int .i64 ((i : Int))) ∧ Own eU H' u (l.take i ++ List.replicate (l.length - i) 0) ∧ Le H H',
    ⟨_, 0, rfl, by omega, rfl, rfl, rfl, (congrArg (Value.int .i64) (by first | omega | rfl | (simp; done))), (Own.cast (by simp) ou), lE⟩, ?_⟩
  rintro n5 σ5 H5 ⟨i, rfl, hiN, g3L5, g9L5, g10L5, g11L5, ou, lE⟩
  have hva := hva0.le lE
  try simp only [g3L5, g9L5, g10L5, g11L5]
  have ll : (l.take i ++ List.replicate (l.length - i) (0 : Int)).length = l.length := by simp; omega
  refine ob_i (vInt_lss _ _ _) ?_
  refine cnd_d (fun hg6 => ?_) (fun hg6 => ?_)
  · skip
    have ti := hg6
    have bb := hb _ (at_mem 0 l (i := (i : Int)) (by omega) (by omega))
    refine ob_i (hva.ix (by omega) (by omega)) ?_
    refine ob_i (hva.ld 0 (by omega) (by omega)) ?_
    refine ob_i (vCI_u8 (by omega) (by omega)) ?_
    refine ob_i (ou.sl.ix (by omega) (by omega)) ?_
    refine ou.st (x := at_ 0 (l) ((i : Int))) (by omega) (by omega) rfl rfl (fun H7 ou off8 => ?_)
    replace hva := hva0.le (off8.le lE nu)
    replace lE := off8.le lE nu
    refine ob_i (vInt_add (by omega) (by omega)) ?_
    exact nxt (l.length - (i + 1)) (by omega) ⟨i + 1, rfl, by omega, g3L5, g9L5, g10L5, (congrArg (Value.int .i64) (by first | omega | rfl | (simp; done))), (Own.cast (key_set (by omega)) ou), lE⟩
  · skip
    have ti := hg6
    rw [show i = l.length by omega, Nat.sub_self, List.take_length, List.replicate_zero, List.append_nil] at ou
    exact hJ4 _ _ ⟨g3L5, ou, lE⟩
theorem C.impl_QuarterKinds {vc : Value} {r c : Int} {l : List Int}  {H : Hp} {K : Value → Hp → Prop} (hvc0 : Sl eI H vc l) (k1 : l.length ≤ 9223372036854775807)
    (hk : ∀ u1 H', Own eI H' u1 (selL (sqP r c l) (kndL r c l)) → Nw H u1 → Le H H' → K (.tuple #[u1, (.bool (decide (sqP r c l)))]) H') : HT prg I.impl_QuarterKinds [(.agg #[(.int .i64 (r)), (.int .i64 (c)), vc])].toArray H K := by
  have lE := Le.refl H
  have hvc := hvc0
  refine R.impl_QuarterKinds ?_
  unfold F.impl_QuarterKinds
  refine nw_i (fun p1 H2 op1 nn3 le4 => ?_)
  have np1 : Nw H p1 := nn3.le lE
  replace hvc := hvc.le le4
  replace lE := lE.trans le4
  replace op1 : Cel H2 p1 [(.int .i64 (r)), (.int .i64 (c)), vc] := op1
  refine ob_i (op1.ldn rfl) ?_
  refine C.impl_isSquare hvc (by first | omega | assumption) (fun   H5    le6 => ?_)
  replace op1 := op1.le le6
  replace hvc := hvc.le le6
  replace lE := lE.trans le6
  refine ob_nd (fun hc7 => ?_) (fun hc7 => ?_)
  · skip
    have hf := hc7.1
    have hrc := hc7.2.1
    have hr4 := hc7.2.2
    have l1 := fieldN_len hf
    have lg5 : lgN r ≤ 5 := by unfold lgN; split <;> (try split) <;> omega
    have hs := hf.1
    have hl := hf.2.1
    have q1 := hs.1
    have q2 := hs.2
    have qm := sidesF_mul hs
    have he := hf.2.2
    refine cnd_f1 ?_
    refine bS_nil (enc := eI) (fun u8 H9 ou8 nn10 kk11 le12 => ?_)
    have ap1Xu8 : Apart p1 u8 := op1.apart nn10
    have nu8 : Nw H u8 := nn10.le lE
    replace op1 := op1.le le12
    replace hvc := hvc.le le12
    replace lE := lE.trans le12
    refine jn_i (fun σ' H' => ∃ u, σ' 4 = u ∧ Cel H' p1 [(.int .i64 (r)), (.int .i64 (c)), vc] ∧ Own eI H' u (kndL r c l) ∧ Nw H u ∧ Apart p1 u ∧ Le H H') (fun σ13 H13 hP => ?_) (fun J13 hJ13 => ?_)
    · skip
      obtain ⟨u, g4L13, op1, ou, nu, ap1Xu, lE⟩ := hP
      have hvc := hvc0.le lE
      try simp only [g4L13]
      skip
      have hok : sqP r c l := by assumption
      exact keq (K := K) (by rw [decide_eq_true (show (sqP r c l) from by exact hok)]) (hk  u _ (Own.cast (show kndL r c l = selL (sqP r c l) (kndL r c l) by exact (selL_t hok).symm) ou) nu  lE)
    refine ⟨fun n' σ' H' => ∃ e : Nat, n' = lgN r - e ∧ e ≤ lgN r ∧ ∃ u, σ' 1 = p1 ∧ σ' 4 = u ∧ σ' 5 = (.int .i64 (szz e)) ∧ Cel H' p1 [(.int .i64 (r)), (.int .i64 (c)), vc] ∧ Own eI H' u (kndF r c l e) ∧ Nw H u ∧ Apart p1 u ∧ Le H H',
      ⟨_, 0, rfl, by omega, u8, rfl, rfl, rfl, op1, (Own.cast (by first | rfl | (simp; done)) ou8), nu8, ap1Xu8, lE⟩, ?_⟩
    rintro n14 σ14 H14 ⟨e, rfl, heN, u, g1L14, g4L14, g5L14, op1, ou, nu, ap1Xu, lE⟩
    have hvc := hvc0.le lE
    try simp only [g1L14, g4L14, g5L14]
    have zk := szz_ok (r := r) hr4 (e := e) (by omega)
    have zs := szz_succ e
    have kl := kndF_len (r := r) (c := c) (l := l) (n := e)
    refine ob_i (op1.fa 0) ?_
    refine ob_i (op1.ld 0 rfl) ?_
    refine ob_i (vInt_leq _ _ _) ?_
    refine cnd_d (fun hg15 => ?_) (fun hg15 => ?_)
    · skip
      have te := hg15
      obtain ⟨zm, m1, m2⟩ := zk.2.2.2 (zk.1.mp te)
      refine jn_i (fun σ' H' => ∃ u, σ' 1 = p1 ∧ σ' 4 = u ∧ σ' 5 = (.int .i64 (szz e)) ∧ Cel H' p1 [(.int .i64 (r)), (.int .i64 (c)), vc] ∧ Own eI H' u (kndF r c l (e + 1)) ∧ Nw H u ∧ Apart p1 u ∧ Le H H') (fun σ16 H16 hP => ?_) (fun J16 hJ16 => ?_)
      · skip
        obtain ⟨u, g1L16, g4L16, g5L16, op1, ou, nu, ap1Xu, lE⟩ := hP
        have hvc := hvc0.le lE
        try simp only [g5L16]
        refine ob_i (vInt_mul (by omega) (by omega)) ?_
        exact nxt (lgN r - (e + 1)) (by omega) ⟨e + 1, rfl, by omega, u, g1L16, g4L16, (congrArg (Value.int .i64) zs), op1, ou, nu, ap1Xu, lE⟩
      refine MpT.new_ (fun mp Smp H17 omp nn18 le19 => ?_)
      have ap1Xmp : Apt p1 Smp := Apt.of_nws op1.known nn18
      have auXmp : Apt u Smp := Apt.of_nws ou.known nn18
      have nmp : Nws H Smp := nn18.le lE
      replace op1 := op1.le le19
      replace ou := ou.le le19
      replace hvc := hvc.le le19
      replace lE := lE.trans le19
      refine jn_i (fun σ' H' => σ' 1 = p1 ∧ σ' 4 = u ∧ σ' 5 = (.int .i64 (szz e)) ∧ σ' 6 = mp ∧ Cel H' p1 [(.int .i64 (r)), (.int .i64 (c)), vc] ∧ Own eI H' u (kndF r c l e) ∧ MpT H' mp Smp (dsK (blkW c l (szz e) (r / szz e)) ((r / szz e).toNat * (r / szz e).toNat)) ∧ Le H H') (fun σ20 H20 hP => ?_) (fun J20 hJ20 => ?_)
      · skip
        obtain ⟨g1L20, g4L20, g5L20, g6L20, op1, ou, omp, lE⟩ := hP
        have hvc := hvc0.le lE
        try simp only [g4L20, g6L20]
        refine ob_i (omp.len (by kernel_rfl)) ?_
        refine bS_i (enc := eI) (l := [((dsK (blkW c l (szz e) (r / szz e)) ((r / szz e).toNat * (r / szz e).toNat)).length : Int)]) (by omega) rfl (by kernel_rfl) (fun u21 H22 ou21 nn23 le25 => ?_)
        have ap1Xu21 : Apart p1 u21 := op1.apart nn23
        have auXu21 : Apart u u21 := ou.apart nn23
        have ampXu21 : Apt Smp u21 := Apt.of_nw omp.known nn23
        have nu21 : Nw H u21 := nn23.le lE
        replace op1 := op1.le le25
        replace ou := ou.le le25
        replace omp := omp.le le25
        replace hvc := hvc.le le25
        replace lE := lE.trans le25
        refine apd_any ou ou21.sl (fun _ => rfl) (by omega) (by first | omega | (simp only [List.length_cons, List.length_nil, List.length_append, List.length_replicate, List.length_map, List.length_range]; omega)) (fun u29 H26 ou29 off27 hb28 => ?_)
        have ap1Xu29 : Apart p1 u29 := Apart.ap2 op1.known ap1Xu hb28
        have ampXu29 : Apt Smp u29 := Apt.ap2 omp.known auXmp.symm hb28
        have au21Xu29 : Apart u21 u29 := Apart.ap2 ou21.known auXu21.symm hb28
        have nu29 : Nw H u29 := Nw.ap2 nu lE hb28
        replace op1 := op1.off off27 ap1Xu
        replace omp := omp.off off27 auXmp.symm
        replace ou21 := ou21.off off27 auXu21.symm
        replace hvc := hvc0.le (off27.le lE nu)
        replace lE := off27.le lE nu
        exact hJ16 _ _ ⟨u29, g1L20, rfl, g5L20, op1, (Own.cast kndF_succ ou29), nu29, ap1Xu29, lE⟩
      refine ⟨fun n' σ' H' => ∃ a : Nat, n' = (r / szz e).toNat - a ∧ a ≤ (r / szz e).toNat ∧ σ' 1 = p1 ∧ σ' 4 = u ∧ σ' 5 = (.int .i64 (szz e)) ∧ σ' 6 = mp ∧ σ' 7 = (.int .i64 (szz e * (a : Int))) ∧ Cel H' p1 [(.int .i64 (r)), (.int .i64 (c)), vc] ∧ Own eI H' u (kndF r c l e) ∧ MpT H' mp Smp (dsK (blkW c l (szz e) (r / szz e)) (a * (r / szz e).toNat)) ∧ Le H H',
        ⟨_, 0, rfl, by omega, g1L14, g4L14, g5L14, rfl, (congrArg (Value.int .i64) (by rw [Int.ofNat_zero, Int.mul_zero])), op1, ou, (MpT.cast (by rw [Nat.zero_mul]; rfl) omp), lE⟩, ?_⟩
      rintro n30 σ30 H30 ⟨a, rfl, haN, g1L30, g4L30, g5L30, g6L30, g7L30, op1, ou, omp, lE⟩
      have hvc := hvc0.le lE
      try simp only [g1L30, g5L30, g6L30, g7L30]
      have ax := mul_lt_iff (a := (a : Int)) zk.2.1 zm
      have an := mul_next (z := szz e) (a := a)
      refine ob_i (op1.fa 0) ?_
      refine ob_i (op1.ld 0 rfl) ?_
      refine ob_i (vInt_lss _ _ _) ?_
      refine cnd_d (fun hg31 => ?_) (fun hg31 => ?_)
      · skip
        have ta := hg31
        have ai := mul_in (a := (a : Int)) zk.2.1 zm (by omega) (by omega)
        refine jn_i (fun σ' H' => σ' 1 = p1 ∧ σ' 4 = u ∧ σ' 5 = (.int .i64 (szz e)) ∧ σ' 6 = mp ∧ σ' 7 = (.int .i64 (szz e * (a : Int))) ∧ Cel H' p1 [(.int .i64 (r)), (.int .i64 (c)), vc] ∧ Own eI H' u (kndF r c l e) ∧ MpT H' mp Smp (dsK (blkW c l (szz e) (r / szz e)) ((a + 1) * (r / szz e).toNat)) ∧ Le H H') (fun σ32 H32 hP => ?_) (fun J32 hJ32 => ?_)
        · skip
          obtain ⟨g1L32, g4L32, g5L32, g6L32, g7L32, op1, ou, omp, lE⟩ := hP
          have hvc := hvc0.le lE
          try simp only [g5L32, g7L32]
          refine ob_i (vInt_add (by omega) (by omega)) ?_
          exact nxt ((r / szz e).toNat - (a + 1)) (by omega) ⟨a + 1, rfl, by omega, g1L32, g4L32, g5L32, g6L32, (congrArg (Value.int .i64) an), op1, ou, omp, lE⟩
        refine ⟨fun n' σ' H' => ∃ b : Nat, n' = (r / szz e).toNat - b ∧ b ≤ (r / szz e).toNat ∧ σ' 1 = p1 ∧ σ' 4 = u ∧ σ' 5 = (.int .i64 (szz e)) ∧ σ' 6 = mp ∧ σ' 7 = (.int .i64 (szz e * (a : Int))) ∧ σ' 8 = (.int .i64 (szz e * (b : Int))) ∧ Cel H' p1 [(.int .i64 (r)), (.int .i64 (c)), vc] ∧ Own eI H' u (kndF r c l e) ∧ MpT H' mp Smp (dsK (blkW c l (szz e) (r / szz e)) (a * (r / szz e).toNat + b)) ∧ Le H H',
          ⟨_, 0, rfl, by omega, g1L30, g4L30, g5L30, g6L30, g7L30, (congrArg (Value.int .i64) (by rw [Int.ofNat_zero, Int.mul_zero])), op1, ou, omp, lE⟩, ?_⟩
        rintro n33 σ33 H33 ⟨b, rfl, hbN, g1L33, g4L33, g5L33, g6L33, g7L33, g8L33, op1, ou, omp, lE⟩
        have hvc := hvc0.le lE
        try simp only [g1L33, g5L33, g6L33, g7L33, g8L33]
        have bx := mul_lt_iff (a := (b : Int)) zk.2.1 zm
        have bn := mul_next (z := szz e) (a := b)
        refine ob_i (op1.fa 1) ?_
        refine ob_i (op1.ld 1 rfl) ?_
        refine ob_i (vInt_lss _ _ _) ?_
        refine cnd_d (fun hg34 => ?_) (fun hg34 => ?_)
        · skip
          have tb := hg34
          have bi := mul_in (a := (b : Int)) zk.2.1 zm (by omega) (by omega)
          have ebl : mkL (szz e) (cutG c l (szz e * (a : Int)) (szz e * (b : Int))) ((szz e : Int).toNat * (szz e : Int).toNat) = (blkW c l (szz e) (r / szz e)) (a * (r / szz e).toNat + b) := blkW_at (by omega) (by omega)
          have blen : ((mkL (szz e) (cutG c l (szz e * (a : Int)) (szz e * (b : Int))) ((szz e : Int).toNat * (szz e : Int).toNat)).length : Int) ≤ 1000000 := by rw [ebl, blkW_len]; have := Nat.mul_le_mul (show (szz e).toNat ≤ 32 by omega) (show (szz e).toNat ≤ 32 by omega); omega
          refine ob_i (op1.ldn rfl) ?_
          refine C.impl_Field_cut hvc (by exact hf.1) (by exact hf.2.1) (by first | omega | assumption) (by first | omega | assumption) (by first | omega | assumption) (by first | omega | assumption) (by first | omega | assumption) (by first | omega | assumption) (fun  u37 H35 ou37 nn38  le36 => ?_)
          have ap1Xu37 : Apart p1 u37 := op1.apart nn38
          have auXu37 : Apart u u37 := ou.apart nn38
          have ampXu37 : Apt Smp u37 := Apt.of_nw omp.known nn38
          have nu37 : Nw H u37 := nn38.le lE
          replace op1 := op1.le le36
          replace ou := ou.le le36
          replace omp := omp.le le36
          replace hvc := hvc.le le36
          replace lE := lE.trans le36
          refine ob_i (a := u37) rfl ?_
          refine C.impl_keyOf ou37.sl (by rw [ebl]; exact blkW_in he) (by rw [ebl, blkW_len]; have := Nat.mul_le_mul (show (szz e).toNat ≤ 16 by omega) (show (szz e).toNat ≤ 16 by omega); omega) (fun   H39    le40 => ?_)
          replace op1 := op1.le le40
          replace ou := ou.le le40
          replace omp := omp.le le40
          replace ou37 := ou37.le le40
          replace hvc := hvc.le le40
          replace lE := lE.trans le40
          refine MpT.put omp (ls := dsK (blkW c l (szz e) (r / szz e)) ((a * (r / szz e).toNat + b) + 1)) (by kernel_rfl) (by rw [ebl]; exact dsK_put (fun j => blkW_in he)) (fun H41 omp off42 => ?_)
          replace op1 := op1.offS off42 ap1Xmp
          replace ou := ou.offS off42 auXmp
          replace ou37 := ou37.offS off42 ampXu37.symm
          replace hvc := hvc0.le (off42.le lE nmp)
          replace lE := off42.le lE nmp
          refine ob_i (vInt_add (by omega) (by omega)) ?_
          exact nxt ((r / szz e).toNat - (b + 1)) (by omega) ⟨b + 1, rfl, by omega, g1L33, g4L33, g5L33, g6L33, g7L33, (congrArg (Value.int .i64) bn), op1, ou, (MpT.cast (by rw [Nat.add_assoc]) omp), lE⟩
        · skip
          have tb := hg34
          rw [show a * (r / szz e).toNat + b = (a + 1) * (r / szz e).toNat by rw [Nat.add_mul, Nat.one_mul]; omega] at omp
          exact hJ32 _ _ ⟨g1L33, g4L33, g5L33, g6L33, g7L33, op1, ou, omp, lE⟩
      · skip
        have ta := hg31
        rw [show a = (r / szz e).toNat by omega] at omp
        exact hJ20 _ _ ⟨g1L30, g4L30, g5L30, g6L30, op1, ou, omp, lE⟩
    · skip
      have te := hg15
      obtain rfl : e = lgN r := by omega
      exact hJ13 _ _ ⟨u, g4L14, op1, ou, nu, ap1Xu, lE⟩
  · skip
    refine cnd_t1 ?_
    skip
    have hok : ¬ (sqP r c l) := by assumption
    exact keq (K := K) (by rw [decide_eq_false (show ¬ (sqP r c l) from by exact hok)]) (hk  (.slice none 0 0) _ (Own.cast (show [] = selL (sqP r c l) (kndL r c l) by exact (selL_f hok).symm) (Own.nil_of none)) (fun b hb => by simp [bk] at hb)  lE)
theorem C.spec_QuarterKinds {vc : Value} {r c : Int} {l : List Int}  {H : Hp} {K : Value → Hp → Prop} (hvc0 : Sl eI H vc l) (k1 : l.length ≤ 9223372036854775807)
    (hk : ∀ u1 H', Own eI H' u1 (selL (sqP r c l) (kndL r c l)) → Nw H u1 → Le H H' → K (.tuple #[u1, (.bool (decide (sqP r c l)))]) H') : HT prg I.spec_QuarterKinds [(.agg #[(.int .i64 (r)), (.int .i64 (c)), vc])].toArray H K := by
  have lE := Le.refl H
  have hvc := hvc0
  refine R.spec_QuarterKinds ?_
  unfold F.spec_QuarterKinds
  refine nw_i (fun p1 H2 op1 nn3 le4 => ?_)
  have np1 : Nw H p1 := nn3.le lE
  replace hvc := hvc.le le4
  replace lE := lE.trans le4
  replace op1 : Cel H2 p1 [(.int .i64 (r)), (.int .i64 (c)), vc] := op1
  refine C.spec_l05Square op1 hvc (by first | omega | assumption) (fun   H5    le6 => ?_)
  replace op1 := op1.le le6
  replace hvc := hvc.le le6
  replace lE := lE.trans le6
  refine ob_nd (fun hc7 => ?_) (fun hc7 => ?_)
  · skip
    have hf := hc7.1
    have hrc := hc7.2.1
    have hr4 := hc7.2.2
    have l1 := fieldN_len hf
    have lg5 : lgN r ≤ 5 := by unfold lgN; split <;> (try split) <;> omega
    have hs := hf.1
    have hl := hf.2.1
    have q1 := hs.1
    have q2 := hs.2
    have qm := sidesF_mul hs
    have he := hf.2.2
    refine cnd_f1 ?_
    refine bS_nil (enc := eI) (fun u8 H9 ou8 nn10 kk11 le12 => ?_)
    have ap1Xu8 : Apart p1 u8 := op1.apart nn10
    have nu8 : Nw H u8 := nn10.le lE
    replace op1 := op1.le le12
    replace hvc := hvc.le le12
    replace lE := lE.trans le12
    refine jn_i (fun σ' H' => ∃ u, σ' 4 = u ∧ Cel H' p1 [(.int .i64 (r)), (.int .i64 (c)), vc] ∧ Own eI H' u (kndL r c l) ∧ Nw H u ∧ Apart p1 u ∧ Le H H') (fun σ13 H13 hP => ?_) (fun J13 hJ13 => ?_)
    · skip
      obtain ⟨u, g4L13, op1, ou, nu, ap1Xu, lE⟩ := hP
      have hvc := hvc0.le lE
      try simp only [g4L13]
      skip
      have hok : sqP r c l := by assumption
      exact keq (K := K) (by rw [decide_eq_true (show (sqP r c l) from by exact hok)]) (hk  u _ (Own.cast (show kndL r c l = selL (sqP r c l) (kndL r c l) by exact (selL_t hok).symm) ou) nu  lE)
    refine ⟨fun n' σ' H' => ∃ e : Nat, n' = lgN r - e ∧ e ≤ lgN r ∧ ∃ u, σ' 1 = p1 ∧ σ' 4 = u ∧ σ' 5 = (.int .i64 (szz e)) ∧ Cel H' p1 [(.int .i64 (r)), (.int .i64 (c)), vc] ∧ Own eI H' u (kndF r c l e) ∧ Nw H u ∧ Apart p1 u ∧ Le H H',
      ⟨_, 0, rfl, by omega, u8, rfl, rfl, rfl, op1, (Own.cast (by first | rfl | (simp; done)) ou8), nu8, ap1Xu8, lE⟩, ?_⟩
    rintro n14 σ14 H14 ⟨e, rfl, heN, u, g1L14, g4L14, g5L14, op1, ou, nu, ap1Xu, lE⟩
    have hvc := hvc0.le lE
    try simp only [g1L14, g4L14, g5L14]
    have zk := szz_ok (r := r) hr4 (e := e) (by omega)
    have zs := szz_succ e
    have kl := kndF_len (r := r) (c := c) (l := l) (n := e)
    refine ob_i (op1.fa 0) ?_
    refine ob_i (op1.ld 0 rfl) ?_
    refine ob_i (vInt_leq _ _ _) ?_
    refine cnd_d (fun hg15 => ?_) (fun hg15 => ?_)
    · skip
      have te := hg15
      obtain ⟨zm, m1, m2⟩ := zk.2.2.2 (zk.1.mp te)
      refine jn_i (fun σ' H' => ∃ u, σ' 1 = p1 ∧ σ' 4 = u ∧ σ' 5 = (.int .i64 (szz e)) ∧ Cel H' p1 [(.int .i64 (r)), (.int .i64 (c)), vc] ∧ Own eI H' u (kndF r c l (e + 1)) ∧ Nw H u ∧ Apart p1 u ∧ Le H H') (fun σ16 H16 hP => ?_) (fun J16 hJ16 => ?_)
      · skip
        obtain ⟨u, g1L16, g4L16, g5L16, op1, ou, nu, ap1Xu, lE⟩ := hP
        have hvc := hvc0.le lE
        try simp only [g5L16]
        refine ob_i (vInt_mul (by omega) (by omega)) ?_
        exact nxt (lgN r - (e + 1)) (by omega) ⟨e + 1, rfl, by omega, u, g1L16, g4L16, (congrArg (Value.int .i64) zs), op1, ou, nu, ap1Xu, lE⟩
      refine bSE_fam (fun w0 Sw0 H17 ow0 nn18 le20 => ?_)
      have ap1Xw0 : Apt p1 Sw0 := Apt.of_nws op1.known nn18
      have auXw0 : Apt u Sw0 := Apt.of_nws ou.known nn18
      have nw0 : Nws H Sw0 := nn18.le lE
      replace op1 := op1.le le20
      replace ou := ou.le le20
      replace hvc := hvc.le le20
      replace lE := lE.trans le20
      refine jn_i (fun σ' H' => ∃ v, ∃ Sv, σ' 1 = p1 ∧ σ' 4 = u ∧ σ' 5 = (.int .i64 (szz e)) ∧ σ' 6 = v ∧ Cel H' p1 [(.int .i64 (r)), (.int .i64 (c)), vc] ∧ Own eI H' u (kndF r c l e) ∧ Fam H' v Sv (dsF (szz e) (blkW c l (szz e) (r / szz e)) (((r / szz e).toNat * (r / szz e).toNat))) ∧ Nws H Sv ∧ Apt p1 Sv ∧ Apt u Sv ∧ Le H H') (fun σ21 H21 hP => ?_) (fun J21 hJ21 => ?_)
      · skip
        obtain ⟨v, Sv, g1L21, g4L21, g5L21, g6L21, op1, ou, ov, nv, ap1Xv, auXv, lE⟩ := hP
        have hvc := hvc0.le lE
        try simp only [g4L21, g6L21]
        refine ob_i (ov.len) ?_
        refine bS_i (enc := eI) (l := [((dsF (szz e) (blkW c l (szz e) (r / szz e)) (((r / szz e).toNat * (r / szz e).toNat))).length : Int)]) (by omega) rfl (by kernel_rfl) (fun u22 H23 ou22 nn24 le26 => ?_)
        have ap1Xu22 : Apart p1 u22 := op1.apart nn24
        have auXu22 : Apart u u22 := ou.apart nn24
        have avXu22 : Apt Sv u22 := Apt.of_nw ov.known nn24
        have nu22 : Nw H u22 := nn24.le lE
        replace op1 := op1.le le26
        replace ou := ou.le le26
        replace ov := ov.le le26
        replace hvc := hvc.le le26
        replace lE := lE.trans le26
        refine apd_any ou ou22.sl (fun _ => rfl) (by omega) (by first | omega | (simp only [List.length_cons, List.length_nil, List.length_append, List.length_replicate, List.length_map, List.length_range]; omega)) (fun u30 H27 ou30 off28 hb29 => ?_)
        have ap1Xu30 : Apart p1 u30 := Apart.ap2 op1.known ap1Xu hb29
        have avXu30 : Apt Sv u30 := Apt.ap2 ov.known auXv.symm hb29
        have au22Xu30 : Apart u22 u30 := Apart.ap2 ou22.known auXu22.symm hb29
        have nu30 : Nw H u30 := Nw.ap2 nu lE hb29
        replace op1 := op1.off off28 ap1Xu
        replace ov := ov.off off28 auXv.symm
        replace ou22 := ou22.off off28 auXu22.symm
        replace hvc := hvc0.le (off28.le lE nu)
        replace lE := off28.le lE nu
        exact hJ16 _ _ ⟨u30, g1L21, rfl, g5L21, op1, (Own.cast (by rw [(dsF_len _ _).1]; exact kndF_succ) ou30), nu30, ap1Xu30, lE⟩
      refine ⟨fun n' σ' H' => ∃ a : Nat, n' = (r / szz e).toNat - a ∧ a ≤ (r / szz e).toNat ∧ ∃ v, ∃ Sv, σ' 1 = p1 ∧ σ' 4 = u ∧ σ' 5 = (.int .i64 (szz e)) ∧ σ' 6 = v ∧ σ' 7 = (.int .i64 (szz e * (a : Int))) ∧ Cel H' p1 [(.int .i64 (r)), (.int .i64 (c)), vc] ∧ Own eI H' u (kndF r c l e) ∧ Fam H' v Sv (dsF (szz e) (blkW c l (szz e) (r / szz e)) (a * (r / szz e).toNat)) ∧ Nws H Sv ∧ Apt p1 Sv ∧ Apt u Sv ∧ Le H H',
        ⟨_, 0, rfl, by omega, w0, _, g1L14, g4L14, g5L14, rfl, (congrArg (Value.int .i64) (by rw [Int.ofNat_zero, Int.mul_zero])), op1, ou, (Fam.cast (by rw [Nat.zero_mul]; rfl) ow0), nw0, ap1Xw0, auXw0, lE⟩, ?_⟩
      rintro n31 σ31 H31 ⟨a, rfl, haN, v, Sv, g1L31, g4L31, g5L31, g6L31, g7L31, op1, ou, ov, nv, ap1Xv, auXv, lE⟩
      have hvc := hvc0.le lE
      try simp only [g1L31, g5L31, g6L31, g7L31]
      have ax := mul_lt_iff (a := (a : Int)) zk.2.1 zm
      have an := mul_next (z := szz e) (a := a)
      refine ob_i (op1.fa 0) ?_
      refine ob_i (op1.ld 0 rfl) ?_
      refine ob_i (vInt_lss _ _ _) ?_
      refine cnd_d (fun hg32 => ?_) (fun hg32 => ?_)
      · skip
        have ta := hg32
        have ai := mul_in (a := (a : Int)) zk.2.1 zm (by omega) (by omega)
        refine jn_i (fun σ' H' => ∃ v, ∃ Sv, σ' 1 = p1 ∧ σ' 4 = u ∧ σ' 5 = (.int .i64 (szz e)) ∧ σ' 6 = v ∧ σ' 7 = (.int .i64 (szz e * (a : Int))) ∧ Cel H' p1 [(.int .i64 (r)), (.int .i64 (c)), vc] ∧ Own eI H' u (kndF r c l e) ∧ Fam H' v Sv (dsF (szz e) (blkW c l (szz e) (r / szz e)) ((a + 1) * (r / szz e).toNat)) ∧ Nws H Sv ∧ Apt p1 Sv ∧ Apt u Sv ∧ Le H H') (fun σ33 H33 hP => ?_) (fun J33 hJ33 => ?_)
        · skip
          obtain ⟨v, Sv, g1L33, g4L33, g5L33, g6L33, g7L33, op1, ou, ov, nv, ap1Xv, auXv, lE⟩ := hP
          have hvc := hvc0.le lE
          try simp only [g5L33, g7L33]
          refine ob_i (vInt_add (by omega) (by omega)) ?_
          exact nxt ((r / szz e).toNat - (a + 1)) (by omega) ⟨a + 1, rfl, by omega, v, _, g1L33, g4L33, g5L33, g6L33, (congrArg (Value.int .i64) an), op1, ou, ov, nv, ap1Xv, auXv, lE⟩
        refine ⟨fun n' σ' H' => ∃ b : Nat, n' = (r / szz e).toNat - b ∧ b ≤ (r / szz e).toNat ∧ ∃ v, ∃ Sv, σ' 1 = p1 ∧ σ' 4 = u ∧ σ' 5 = (.int .i64 (szz e)) ∧ σ' 6 = v ∧ σ' 7 = (.int .i64 (szz e * (a : Int))) ∧ σ' 8 = (.int .i64 (szz e * (b : Int))) ∧ Cel H' p1 [(.int .i64 (r)), (.int .i64 (c)), vc] ∧ Own eI H' u (kndF r c l e) ∧ Fam H' v Sv (dsF (szz e) (blkW c l (szz e) (r / szz e)) ((a * (r / szz e).toNat + b))) ∧ Nws H Sv ∧ Apt p1 Sv ∧ Apt u Sv ∧ Le H H',
          ⟨_, 0, rfl, by omega, v, _, g1L31, g4L31, g5L31, g6L31, g7L31, (congrArg (Value.int .i64) (by rw [Int.ofNat_zero, Int.mul_zero])), op1, ou, (Fam.cast (by rfl) ov), nv, ap1Xv, auXv, lE⟩, ?_⟩
        rintro n34 σ34 H34 ⟨b, rfl, hbN, v, Sv, g1L34, g4L34, g5L34, g6L34, g7L34, g8L34, op1, ou, ov, nv, ap1Xv, auXv, lE⟩
        have hvc := hvc0.le lE
        try simp only [g1L34, g5L34, g6L34, g7L34, g8L34]
        have bx := mul_lt_iff (a := (b : Int)) zk.2.1 zm
        have bn := mul_next (z := szz e) (a := b)
        have tsb : (a * (r / szz e).toNat + b) ≤ 400 := by have := Nat.mul_le_mul (show a ≤ 16 by omega) (show (r / szz e).toNat ≤ 16 by omega); omega
        have dl := dsF_len (szz e) (G := (blkW c l (szz e) (r / szz e))) (a * (r / szz e).toNat + b)
        have szb := Nat.mul_le_mul (show (szz e).toNat ≤ 32 by omega) (show (szz e).toNat ≤ 32 by omega)
        refine ob_i (op1.fa 0) ?_
        refine ob_i (op1.ld 0 rfl) ?_
        refine ob_i (vInt_lss _ _ _) ?_
        refine cnd_d (fun hg35 => ?_) (fun hg35 => ?_)
        · skip
          have tb := hg35
          have bi := mul_in (a := (b : Int)) zk.2.1 zm (by omega) (by omega)
          have ebl : mkL (szz e) (cutG c l (szz e * (a : Int)) (szz e * (b : Int))) ((szz e : Int).toNat * (szz e : Int).toNat) = (blkW c l (szz e) (r / szz e)) (a * (r / szz e).toNat + b) := blkW_at (by omega) (by omega)
          have blen : ((mkL (szz e) (cutG c l (szz e * (a : Int)) (szz e * (b : Int))) ((szz e : Int).toNat * (szz e : Int).toNat)).length : Int) ≤ 1000000 := by rw [ebl, blkW_len]; have := Nat.mul_le_mul (show (szz e).toNat ≤ 32 by omega) (show (szz e).toNat ≤ 32 by omega); omega
          refine jn_i (fun σ' H' => ∃ v, ∃ Sv, σ' 1 = p1 ∧ σ' 4 = u ∧ σ' 5 = (.int .i64 (szz e)) ∧ σ' 6 = v ∧ σ' 7 = (.int .i64 (szz e * (a : Int))) ∧ σ' 8 = (.int .i64 (szz e * (b : Int))) ∧ Cel H' p1 [(.int .i64 (r)), (.int .i64 (c)), vc] ∧ Own eI H' u (kndF r c l e) ∧ Fam H' v Sv (dsF (szz e) (blkW c l (szz e) (r / szz e)) ((a * (r / szz e).toNat + b) + 1)) ∧ Nws H Sv ∧ Apt p1 Sv ∧ Apt u Sv ∧ Le H H') (fun σ36 H36 hP => ?_) (fun J36 hJ36 => ?_)
          · skip
            obtain ⟨v, Sv, g1L36, g4L36, g5L36, g6L36, g7L36, g8L36, op1, ou, ov, nv, ap1Xv, auXv, lE⟩ := hP
            have hvc := hvc0.le lE
            try simp only [g5L36, g8L36]
            refine ob_i (vInt_add (by omega) (by omega)) ?_
            exact nxt ((r / szz e).toNat - (b + 1)) (by omega) ⟨b + 1, rfl, by omega, v, _, g1L36, g4L36, g5L36, g6L36, g7L36, (congrArg (Value.int .i64) bn), op1, ou, (Fam.cast (by rw [Nat.add_assoc]) ov), nv, ap1Xv, auXv, lE⟩
          refine C.spec_l05Cut op1 hvc (by exact hf.1) (by exact hf.2.1) (by first | omega | assumption) (by first | omega | assumption) (by first | omega | assumption) (by first | omega | assumption) (by first | omega | assumption) (by first | omega | assumption) (fun  u39 H37 ou39 nn40  le38 => ?_)
          have ap1Xu39 : Apart p1 u39 := op1.apart nn40
          have auXu39 : Apart u u39 := ou.apart nn40
          have avXu39 : Apt Sv u39 := Apt.of_nw ov.known nn40
          have nu39 : Nw H u39 := nn40.le lE
          replace op1 := op1.le le38
          replace ou := ou.le le38
          replace ov := ov.le le38
          replace hvc := hvc.le le38
          replace lE := lE.trans le38
          refine nw_i (fun p41 H42 op41 nn43 le44 => ?_)
          have ap1Xp41 : Apart p1 p41 := op1.apart nn43
          have auXp41 : Apart u p41 := ou.apart nn43
          have avXp41 : Apt Sv p41 := Apt.of_nw ov.known nn43
          have au39Xp41 : Apart u39 p41 := ou39.apart nn43
          have np41 : Nw H p41 := nn43.le lE
          replace op1 := op1.le le44
          replace ou := ou.le le44
          replace ov := ov.le le44
          replace ou39 := ou39.le le44
          replace hvc := hvc.le le44
          replace lE := lE.trans le44
          replace op41 : Cel H42 p41 [(.int .i64 (0)), (.int .i64 (0)), (.slice none 0 0)] := op41
          refine op41.stn (ws := [(.int .i64 ((szz e))), (.int .i64 ((szz e))), u39]) rfl rfl (oc1 rfl (oc1 rfl (oc1 ou39.one oc0))) (fun H45 op41 off46 => ?_)
          replace op1 := op1.off off46 ap1Xp41
          replace ou := ou.off off46 auXp41
          replace ov := ov.off off46 avXp41
          replace ou39 := ou39.off off46 au39Xp41
          replace hvc := hvc0.le (off46.le lE np41)
          replace lE := off46.le lE np41
          replace op41 : Cel H45 p41 [(.int .i64 ((szz e))), (.int .i64 ((szz e))), u39] := op41
          refine jn_i (fun σ' H' => σ' 1 = p1 ∧ σ' 4 = u ∧ σ' 5 = (.int .i64 (szz e)) ∧ σ' 6 = v ∧ σ' 7 = (.int .i64 (szz e * (a : Int))) ∧ σ' 8 = (.int .i64 (szz e * (b : Int))) ∧ σ' 9 = p41 ∧ σ' 10 = (.bool (decide (dupW (blkW c l (szz e) (r / szz e)) (a * (r / szz e).toNat + b)))) ∧ Cel H' p1 [(.int .i64 (r)), (.int .i64 (c)), vc] ∧ Own eI H' u (kndF r c l e) ∧ Fam H' v Sv (dsF (szz e) (blkW c l (szz e) (r / szz e)) ((a * (r / szz e).toNat + b))) ∧ Own eI H' u39 (mkL (szz e) (cutG c l (szz e * (a : Int)) (szz e * (b : Int))) (((szz e) : Int).toNat * ((szz e) : Int).toNat)) ∧ Cel H' p41 [(.int .i64 ((szz e))), (.int .i64 ((szz e))), u39] ∧ Le H H') (fun σ47 H47 hP => ?_) (fun J47 hJ47 => ?_)
          · skip
            obtain ⟨g1L47, g4L47, g5L47, g6L47, g7L47, g8L47, g9L47, g10L47, op1, ou, ov, ou39, op41, lE⟩ := hP
            have hvc := hvc0.le lE
            try simp only [g6L47, g9L47, g10L47]
            refine ob_nd (fun hc48 => ?_) (fun hc48 => ?_)
            · skip
              refine cnd_f1 ?_
              exact hJ36 _ _ ⟨v, _, g1L47, g4L47, g5L47, g6L47, g7L47, g8L47, op1, ou, (Fam.cast (dsF_t hc48) ov), nv, ap1Xv, auXv, lE⟩
            · skip
              refine cnd_t1 ?_
              refine ob_i (op41.ldn rfl) ?_
              refine bSE_one (enc := encFv) (x := (⟨(szz e), (szz e), u39⟩ : Fv)) rfl rfl (by omega) (by omega) rfl (fun u49 H50 ou49 nn51 le53 => ?_) rfl
              have ap1Xu49 : Apart p1 u49 := op1.apart nn51
              have auXu49 : Apart u u49 := ou.apart nn51
              have avXu49 : Apt Sv u49 := Apt.of_nw ov.known nn51
              have au39Xu49 : Apart u39 u49 := ou39.apart nn51
              have ap41Xu49 : Apart p41 u49 := op41.apart nn51
              have nu49 : Nw H u49 := nn51.le lE
              replace op1 := op1.le le53
              replace ou := ou.le le53
              replace ov := ov.le le53
              replace ou39 := ou39.le le53
              replace op41 := op41.le le53
              replace hvc := hvc.le le53
              replace lE := lE.trans le53
              refine Fam.push ov rfl (ou49.sl encFv_n) ou39 avXu39.symm (by omega) (by first | omega | (simp; omega)) (fun u58 Su58 H54 ou58 off55 hb56 hx57 oxu39 => ?_)
              have ap1Xu58 : Apt p1 Su58 := Apt.push op1.known ap1Xv ap1Xu39 hb56
              have auXu58 : Apt u Su58 := Apt.push ou.known auXv auXu39 hb56
              have ap41Xu58 : Apt p41 Su58 := Apt.push op41.known avXp41.symm au39Xp41.symm hb56
              have au49Xu58 : Apt u49 Su58 := Apt.push ou49.known avXu49.symm au39Xu49.symm hb56
              have nu58 : Nws H Su58 := Nws.push lE nv nu39 hb56
              replace op1 := op1.offS off55 ap1Xv
              replace ou := ou.offS off55 auXv
              replace op41 := op41.offS off55 avXp41.symm
              replace ou49 := ou49.offS off55 avXu49.symm
              replace hvc := hvc0.le (off55.le lE nv)
              replace lE := off55.le lE nv
              replace ou39 := oxu39.ro
              exact hJ36 _ _ ⟨u58, _, g1L47, g4L47, g5L47, rfl, g7L47, g8L47, op1, ou, (Fam.cast (by rw [ebl]; exact dsF_f hc48) ou58), nu58, ap1Xu58, auXu58, lE⟩
          refine ob_i (ov.len) ?_
          refine ⟨fun n' σ' H' => ∃ j : Nat, n' = (dsF (szz e) (blkW c l (szz e) (r / szz e)) (a * (r / szz e).toNat + b)).length - j ∧ j ≤ (dsF (szz e) (blkW c l (szz e) (r / szz e)) (a * (r / szz e).toNat + b)).length ∧ σ' 1 = p1 ∧ σ' 4 = u ∧ σ' 5 = (.int .i64 (szz e)) ∧ σ' 6 = v ∧ σ' 7 = (.int .i64 (szz e * (a : Int))) ∧ σ' 8 = (.int .i64 (szz e * (b : Int))) ∧ σ' 9 = p41 ∧ σ' 10 = (.bool (decide (exL (dsF (szz e) (blkW c l (szz e) (r / szz e)) (a * (r / szz e).toNat + b)) (mkL (szz e) (cutG c l (szz e * (a : Int)) (szz e * (b : Int))) ((szz e : Int).toNat * (szz e : Int).toNat)) j))) ∧ σ' 42 = (.int .i64 (((dsF (szz e) (blkW c l (szz e) (r / szz e)) ((a * (r / szz e).toNat + b))).length : Int))) ∧ σ' 43 = (.int .i64 ((j : Int))) ∧ Cel H' p1 [(.int .i64 (r)), (.int .i64 (c)), vc] ∧ Own eI H' u (kndF r c l e) ∧ Fam H' v Sv (dsF (szz e) (blkW c l (szz e) (r / szz e)) ((a * (r / szz e).toNat + b))) ∧ Own eI H' u39 (mkL (szz e) (cutG c l (szz e * (a : Int)) (szz e * (b : Int))) (((szz e) : Int).toNat * ((szz e) : Int).toNat)) ∧ Cel H' p41 [(.int .i64 ((szz e))), (.int .i64 ((szz e))), u39] ∧ Le H H',
            ⟨_, 0, rfl, by omega, g1L34, g4L34, g5L34, g6L34, g7L34, g8L34, rfl, (congrArg Value.bool (decide_eq_false (exL_zero _ _)).symm), rfl, (congrArg (Value.int .i64) (by first | omega | rfl | (simp; done))), op1, ou, ov, ou39, op41, lE⟩, ?_⟩
          rintro n59 σ59 H59 ⟨j, rfl, hjN, g1L59, g4L59, g5L59, g6L59, g7L59, g8L59, g9L59, g10L59, g42L59, g43L59, op1, ou, ov, ou39, op41, lE⟩
          have hvc := hvc0.le lE
          try simp only [g6L59, g9L59, g10L59, g42L59, g43L59]
          refine ob_i (vInt_lss _ _ _) ?_
          refine cnd_d (fun hg60 => ?_) (fun hg60 => ?_)
          · skip
            have tj := hg60
            by_cases hc61 : exL (dsF (szz e) (blkW c l (szz e) (r / szz e)) (a * (r / szz e).toNat + b)) (mkL (szz e) (cutG c l (szz e * (a : Int)) (szz e * (b : Int))) ((szz e : Int).toNat * (szz e : Int).toNat)) j
            · skip
              refine gop_e (decide_eq_true hc61) ?_
              refine gop_st ?_
              refine gop_e (decide_eq_true hc61) ?_
              refine gop_st ?_
              refine gop_e (decide_eq_true hc61) ?_
              refine gop_st ?_
              refine gop_e (decide_eq_true hc61) ?_
              refine gop_st ?_
              refine ob_i (vPick_et (decide_eq_true hc61) _ _) ?_
              refine ob_i (vInt_add (by omega) (by omega)) ?_
              exact nxt ((dsF (szz e) (blkW c l (szz e) (r / szz e)) (a * (r / szz e).toNat + b)).length - (j + 1)) (by omega) ⟨j + 1, rfl, by omega, g1L59, g4L59, g5L59, g6L59, g7L59, g8L59, g9L59, (congrArg Value.bool (decide_eq_true (exL_t hc61)).symm), g42L59, (congrArg (Value.int .i64) (by first | omega | rfl | (simp; done))), op1, ou, ov, ou39, op41, lE⟩
            · skip
              refine gop_e (decide_eq_false hc61) ?_
              refine gop_rf ?_
              refine gop_e (decide_eq_false hc61) ?_
              refine gop_rf ?_
              refine gop_e (decide_eq_false hc61) ?_
              refine gop_rf ?_
              obtain ⟨P62, y63, hb64a, oP62, oy63, hb64p, hb64x⟩ := ov.el (i := (j : Int)) (f := ⟨szz e, szz e, (at_ fd0 (dsF (szz e) (blkW c l (szz e) (r / szz e)) (a * (r / szz e).toNat + b)) (j : Int)).l⟩) (by omega) (by first | omega | (simp; omega)) (dsF_at (by omega) (by omega))
              have ap1XP62 : Apart p1 P62 := fun b h1 h2 => ap1Xv b h1 (hb64p b h2)
              have auXP62 : Apart u P62 := fun b h1 h2 => auXv b h1 (hb64p b h2)
              have au39XP62 : Apart u39 P62 := fun b h1 h2 => avXu39.symm b h1 (hb64p b h2)
              have ap41XP62 : Apart p41 P62 := fun b h1 h2 => avXp41.symm b h1 (hb64p b h2)
              have ap1Xy63 : Apart p1 y63 := fun b h1 h2 => ap1Xv b h1 (hb64x b h2)
              have auXy63 : Apart u y63 := fun b h1 h2 => auXv b h1 (hb64x b h2)
              have au39Xy63 : Apart u39 y63 := fun b h1 h2 => avXu39.symm b h1 (hb64x b h2)
              have ap41Xy63 : Apart p41 y63 := fun b h1 h2 => avXp41.symm b h1 (hb64x b h2)
              replace oP62 : CelR H59 P62 [(.int .i64 (szz e)), (.int .i64 (szz e)), y63] := oP62
              replace oy63 : Ro eI H59 y63 ((at_ fd0 (dsF (szz e) (blkW c l (szz e) (r / szz e)) (a * (r / szz e).toNat + b)) (j : Int)).l) := oy63
              refine ob_i (hb64a) ?_
              refine gop_e (decide_eq_false hc61) ?_
              refine gop_rf ?_
              refine C.l04Same_r oP62 op41 oy63.sl ou39.sl (by exact Nat.le_trans (dsF_ln (m := 1024) (fun j => by rw [blkW_len]; omega) (by omega) (by omega)) (by omega)) (fun   H65    le66 => ?_)
              replace op1 := op1.le le66
              replace ou := ou.le le66
              replace ov := ov.le le66
              replace ou39 := ou39.le le66
              replace op41 := op41.le le66
              replace oP62 := oP62.le le66
              replace oy63 := oy63.le le66
              replace hvc := hvc.le le66
              replace lE := lE.trans le66
              refine ob_i (vPick_ef (decide_eq_false hc61) _ _) ?_
              refine ob_i (vInt_add (by omega) (by omega)) ?_
              exact nxt ((dsF (szz e) (blkW c l (szz e) (r / szz e)) (a * (r / szz e).toNat + b)).length - (j + 1)) (by omega) ⟨j + 1, rfl, by omega, g1L59, g4L59, g5L59, g6L59, g7L59, g8L59, g9L59, (congrArg Value.bool (decide_eq_decide.mpr ⟨fun g => (exL_f hc61).mp g.2.2, fun g => ⟨rfl, rfl, (exL_f hc61).mpr g⟩⟩)), g42L59, (congrArg (Value.int .i64) (by first | omega | rfl | (simp; done))), op1, ou, ov, ou39, op41, lE⟩
          · skip
            have tj := hg60
            exact hJ47 _ _ ⟨g1L59, g4L59, g5L59, g6L59, g7L59, g8L59, g9L59, (g10L59.trans (congrArg Value.bool (decide_eq_decide.mpr (by rw [ebl]; exact exL_dup (by omega))))), op1, ou, ov, ou39, op41, lE⟩
        · skip
          have tb := hg35
          rw [show a * (r / szz e).toNat + b = (a + 1) * (r / szz e).toNat by rw [Nat.add_mul, Nat.one_mul]; omega] at ov
          exact hJ33 _ _ ⟨v, _, g1L34, g4L34, g5L34, g6L34, g7L34, op1, ou, ov, nv, ap1Xv, auXv, lE⟩
      · skip
        have ta := hg32
        rw [show a = (r / szz e).toNat by omega] at ov
        exact hJ21 _ _ ⟨v, _, g1L31, g4L31, g5L31, g6L31, op1, ou, ov, nv, ap1Xv, auXv, lE⟩
    · skip
      have te := hg15
      obtain rfl : e = lgN r := by omega
      exact hJ13 _ _ ⟨u, g4L14, op1, ou, nu, ap1Xu, lE⟩
  · skip
    refine cnd_t1 ?_
    skip
    have hok : ¬ (sqP r c l) := by assumption
    exact keq (K := K) (by rw [decide_eq_false (show ¬ (sqP r c l) from by exact hok)]) (hk  (.slice none 0 0) _ (Own.cast (show [] = selL (sqP r c l) (kndL r c l) by exact (selL_f hok).symm) (Own.nil_of none)) (fun b hb => by simp [bk] at hb)  lE)
end Go.Proofs.Ythgjegbckkpaiaa
