/- Counts ahead, inner steps. -/
import Derived.Test.YtaflemogkogkkaaUM
import Derived.Test.YtaflemogkogkkaaUA
namespace Go.Proofs.Ytaflemogkogkkaa
open HL
set_option maxRecDepth 100000
theorem caP_len {rnd : Bool} {b s : List Int} {r c : Int} {l : List Int} {n : Int} : (selL (runP b s r c l n) (caL rnd b s r c l n.toNat)).length ≤ 600 := selL_len fun h => by rw [caL_len]; have := h.2; omega
theorem C.impl_SameField {vc vd : Value} {r c r2 c2 : Int} {l : List Int} {m : List Int}  {H : Hp} {K : Value → Hp → Prop} (hvc0 : Sl eI H vc l) (hvd0 : Sl eI H vd m) (k1 : l.length ≤ 9223372036854775807)
    (hk : ∀ H', Le H H' → K (.bool (decide (r = r2 ∧ c = c2 ∧ l = m))) H') : HT prg I.impl_SameField [(.agg #[(.int .i64 (r)), (.int .i64 (c)), vc]), (.agg #[(.int .i64 (r2)), (.int .i64 (c2)), vd])].toArray H K := by
  have lE := Le.refl H
  have hvc := hvc0
  have hvd := hvd0
  refine R.impl_SameField ?_
  unfold F.impl_SameField
  refine nw_i (fun p1 H2 op1 nn3 le4 => ?_)
  have np1 : Nw H p1 := nn3.le lE
  replace hvc := hvc.le le4
  replace hvd := hvd.le le4
  replace lE := lE.trans le4
  replace op1 : Cel H2 p1 [(.int .i64 (r)), (.int .i64 (c)), vc] := op1
  refine nw_i (fun p5 H6 op5 nn7 le8 => ?_)
  have ap1Xp5 : Apart p1 p5 := op1.apart nn7
  have np5 : Nw H p5 := nn7.le lE
  replace op1 := op1.le le8
  replace hvc := hvc.le le8
  replace hvd := hvd.le le8
  replace lE := lE.trans le8
  replace op5 : Cel H6 p5 [(.int .i64 (r2)), (.int .i64 (c2)), vd] := op5
  refine ob_i (op1.fa 0) ?_
  refine ob_i (op1.ld 0 rfl) ?_
  refine ob_i (op5.fa 0) ?_
  refine ob_i (op5.ld 0 rfl) ?_
  refine ob_i (vInt_eql _ _ _) ?_
  by_cases hc9 : r = r2
  · skip
    refine gop_e (decide_eq_true hc9) ?_
    refine gop_rt ?_
    refine ob_i (op1.fa 1) ?_
    refine gop_e (decide_eq_true hc9) ?_
    refine gop_rt ?_
    refine ob_i (op1.ld 1 rfl) ?_
    refine gop_e (decide_eq_true hc9) ?_
    refine gop_rt ?_
    refine ob_i (op5.fa 1) ?_
    refine gop_e (decide_eq_true hc9) ?_
    refine gop_rt ?_
    refine ob_i (op5.ld 1 rfl) ?_
    refine gop_e (decide_eq_true hc9) ?_
    refine gop_rt ?_
    refine ob_i (vInt_eql _ _ _) ?_
    refine ob_i (vPick_et (decide_eq_true hc9) _ _) ?_
    by_cases hc10 : c = c2
    · skip
      refine gop_e (decide_eq_true hc10) ?_
      refine gop_rt ?_
      refine ob_i (op1.fa 2) ?_
      refine gop_e (decide_eq_true hc10) ?_
      refine gop_rt ?_
      refine ob_i (op1.ld 2 rfl) ?_
      refine gop_e (decide_eq_true hc10) ?_
      refine gop_rt ?_
      refine ob_i (op5.fa 2) ?_
      refine gop_e (decide_eq_true hc10) ?_
      refine gop_rt ?_
      refine ob_i (op5.ld 2 rfl) ?_
      refine gop_e (decide_eq_true hc10) ?_
      refine gop_rt ?_
      refine C.slices_Equal_int64Zint64 hvc hvd (by first | omega | assumption) ?_
      refine ob_i (vPick_et (decide_eq_true hc10) _ _) ?_
      skip
      exact keq (K := K) (by rw [show decide (l = m) = decide (r = r2 ∧ c = c2 ∧ l = m) from decide_eq_decide.mpr (by exact ⟨fun h => ⟨by assumption, by assumption, h⟩, fun h => h.2.2⟩)]) (hk   _    lE)
    · skip
      refine gop_e (decide_eq_false hc10) ?_
      refine gop_sf ?_
      refine gop_e (decide_eq_false hc10) ?_
      refine gop_sf ?_
      refine gop_e (decide_eq_false hc10) ?_
      refine gop_sf ?_
      refine gop_e (decide_eq_false hc10) ?_
      refine gop_sf ?_
      refine gop_e (decide_eq_false hc10) ?_
      refine gop_sf ?_
      refine ob_i (vPick_ef (decide_eq_false hc10) _ _) ?_
      skip
      exact keq (K := K) (by rw [decide_eq_false (show ¬ (r = r2 ∧ c = c2 ∧ l = m) from by intro h; have h1 := h.1; have h2 := h.2.1; first | contradiction | omega)]) (hk   _    lE)
  · skip
    refine gop_e (decide_eq_false hc9) ?_
    refine gop_sf ?_
    refine gop_e (decide_eq_false hc9) ?_
    refine gop_sf ?_
    refine gop_e (decide_eq_false hc9) ?_
    refine gop_sf ?_
    refine gop_e (decide_eq_false hc9) ?_
    refine gop_sf ?_
    refine gop_e (decide_eq_false hc9) ?_
    refine gop_sf ?_
    refine ob_i (vPick_ef (decide_eq_false hc9) _ _) ?_
    refine gop_sf ?_
    refine gop_sf ?_
    refine gop_sf ?_
    refine gop_sf ?_
    refine gop_sf ?_
    refine ob_i (vPick_f _ _) ?_
    skip
    exact keq (K := K) (by rw [decide_eq_false (show ¬ (r = r2 ∧ c = c2 ∧ l = m) from by intro h; have h1 := h.1; have h2 := h.2.1; first | contradiction | omega)]) (hk   _    lE)
end Go.Proofs.Ytaflemogkogkkaa
