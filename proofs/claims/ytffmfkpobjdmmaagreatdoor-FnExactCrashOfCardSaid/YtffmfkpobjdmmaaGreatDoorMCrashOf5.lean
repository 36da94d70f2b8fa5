/- Several texts in one. -/
import Derived.Test.YtffmfkpobjdmmaaGreatDoorMCrashOf4
import Derived.Test.YtffmfkpobjdmmaaGreatDoorMCrashOf2
import Derived.Test.YtffmfkpobjdmmaaGreatDoorMCrashOf1
import Derived.Test.YtffmfkpobjdmmaaGreatDoorMCrashOf0
import Derived.Test.YtffmfkpobjdmmaaGreatDoorG0
import Derived.Below
import Derived.WalkKit
import Derived.ProofKit
/- What crashes leave. -/
namespace Go.Proofs.YtffmfkpobjdmmaaGreatDoor
open HL
set_option maxRecDepth 100000
attribute [local irreducible] vStr
section
variable {r c b : Int} {l : List Int}
theorem groW_field (h : groOk r c l b) : fieldN 1 (r + 2 * b) (c + 2 * b) (groW r c l b) := mkL_field ⟨h.2.2.1, h.2.2.2⟩ (fun i k => flatF_01 h.1 _ _)
theorem metL0_field {ra ca rb cb row col : Int} {la lb : List Int} (h : metOk ra ca la rb cb lb row col) : fieldN 1 (max ra (row + rb)) (max ca (col + cb)) (metL0 ra ca la rb cb lb row col) := mkL_field ⟨h.2.2.2.2.1, h.2.2.2.2.2⟩ (fun i k => by
  have h1 := flatF_01 h.1 i k
  have h2 := flatF_01 h.2.1 (i - row) (k - col)
  unfold metG
  omega)
end
theorem C.groI_c {vc : Value} {r c b : Int} {l : List Int} {H : Hp} {K : Value → Hp → Prop} (hc : Sl eI H vc l) (k1 : l.length ≤ 9223372036854775807) (hk1 : groOk r c l b → ∀ u H', Own eI H' u (groW r c l b) → Nw H u → Le H H' → K (.tuple #[.agg #[.int .i64 (r + 2 * b), .int .i64 (c + 2 * b), u], .bool true]) H')
    (hk2 : ¬ groOk r c l b → ∀ u H', Own eI H' u [] → Nw H u → Le H H' → K (.tuple #[.agg #[.int .i64 0, .int .i64 0, u], .bool false]) H') : HT prg I.impl_GrowField [.agg #[.int .i64 r, .int .i64 c, vc], .int .i64 b].toArray H K := by
  refine C.impl_GrowField hc k1 (fun u H' o n le => ?_)
  by_cases h : groOk r c l b
  · simp only [groL, groI, h, if_true, decide_true] at o ⊢
    exact hk1 h u H' o n le
  · simp only [groL, groI, h, if_false, decide_false] at o ⊢
    exact hk2 h u H' o n le
theorem C.groS_c {vc : Value} {r c b : Int} {l : List Int} {H : Hp} {K : Value → Hp → Prop} (hc : Sl eI H vc l) (k1 : l.length ≤ 9223372036854775807) (hk1 : groOk r c l b → ∀ u H', Own eI H' u (groW r c l b) → Nw H u → Le H H' → K (.tuple #[.agg #[.int .i64 (r + 2 * b), .int .i64 (c + 2 * b), u], .bool true]) H')
    (hk2 : ¬ groOk r c l b → ∀ u H', Own eI H' u [] → Nw H u → Le H H' → K (.tuple #[.agg #[.int .i64 0, .int .i64 0, u], .bool false]) H') : HT prg I.spec_GrowField [.agg #[.int .i64 r, .int .i64 c, vc], .int .i64 b].toArray H K := by
  refine C.spec_GrowField hc k1 (fun u H' o n le => ?_)
  by_cases h : groOk r c l b
  · simp only [groL, groI, h, if_true, decide_true] at o ⊢
    exact hk1 h u H' o n le
  · simp only [groL, groI, h, if_false, decide_false] at o ⊢
    exact hk2 h u H' o n le
theorem C.impl_CrashOf {vb vs va vb2 : Value} {ra ca rb cb row col st : Int} {b : List Int} {s : List Int} {la : List Int} {lb : List Int}  {H : Hp} {K : Value → Hp → Prop} (hvb0 : Sl eI H vb b) (hvs0 : Sl eI H vs s) (hva0 : Sl eI H va la) (hvb20 : Sl eI H vb2 lb) (kb : b.length ≤ 9223372036854775807) (ks : s.length ≤ 9223372036854775807) (k1 : la.length ≤ 9223372036854775807) (k2 : lb.length ≤ 9223372036854775807)
    (hk : ∀ u1 u2 H', Own vS H' u1 (selL (lifP b s ∧ metOk ra ca la rb cb lb row col ∧ groOk (max ra (row + rb)) (max ca (col + cb)) (metL0 ra ca la rb cb lb row col) st ∧ (0 ≤ st ∧ st ≤ 8) ∧ (cenN (nmL ((max ra (row + rb)) + 2 * st) ((max ca (col + cb)) + 2 * st) (rnL false b s ((max ra (row + rb)) + 2 * st) ((max ca (col + cb)) + 2 * st) (groW (max ra (row + rb)) (max ca (col + cb)) (metL0 ra ca la rb cb lb row col) st) st.toNat) (stsL ((max ca (col + cb)) + 2 * st) (rnL false b s ((max ra (row + rb)) + 2 * st) ((max ca (col + cb)) + 2 * st) (groW (max ra (row + rb)) (max ca (col + cb)) (metL0 ra ca la rb cb lb row col) st) st.toNat) ((rnL false b s ((max ra (row + rb)) + 2 * st) ((max ca (col + cb)) + 2 * st) (groW (max ra (row + rb)) (max ca (col + cb)) (metL0 ra ca la rb cb lb row col) st) st.toNat)).length))).length ≤ 64) (cenN (nmL ((max ra (row + rb)) + 2 * st) ((max ca (col + cb)) + 2 * st) (rnL false b s ((max ra (row + rb)) + 2 * st) ((max ca (col + cb)) + 2 * st) (groW (max ra (row + rb)) (max ca (col + cb)) (metL0 ra ca la rb cb lb row col) st) st.toNat) (stsL ((max ca (col + cb)) + 2 * st) (rnL false b s ((max ra (row + rb)) + 2 * st) ((max ca (col + cb)) + 2 * st) (groW (max ra (row + rb)) (max ca (col + cb)) (metL0 ra ca la rb cb lb row col) st) st.toNat) ((rnL false b s ((max ra (row + rb)) + 2 * st) ((max ca (col + cb)) + 2 * st) (groW (max ra (row + rb)) (max ca (col + cb)) (metL0 ra ca la rb cb lb row col) st) st.toNat)).length)))) → Own eI H' u2 (selL (lifP b s ∧ metOk ra ca la rb cb lb row col ∧ groOk (max ra (row + rb)) (max ca (col + cb)) (metL0 ra ca la rb cb lb row col) st ∧ (0 ≤ st ∧ st ≤ 8) ∧ (cenN (nmL ((max ra (row + rb)) + 2 * st) ((max ca (col + cb)) + 2 * st) (rnL false b s ((max ra (row + rb)) + 2 * st) ((max ca (col + cb)) + 2 * st) (groW (max ra (row + rb)) (max ca (col + cb)) (metL0 ra ca la rb cb lb row col) st) st.toNat) (stsL ((max ca (col + cb)) + 2 * st) (rnL false b s ((max ra (row + rb)) + 2 * st) ((max ca (col + cb)) + 2 * st) (groW (max ra (row + rb)) (max ca (col + cb)) (metL0 ra ca la rb cb lb row col) st) st.toNat) ((rnL false b s ((max ra (row + rb)) + 2 * st) ((max ca (col + cb)) + 2 * st) (groW (max ra (row + rb)) (max ca (col + cb)) (metL0 ra ca la rb cb lb row col) st) st.toNat)).length))).length ≤ 64) (cenC (nmL ((max ra (row + rb)) + 2 * st) ((max ca (col + cb)) + 2 * st) (rnL false b s ((max ra (row + rb)) + 2 * st) ((max ca (col + cb)) + 2 * st) (groW (max ra (row + rb)) (max ca (col + cb)) (metL0 ra ca la rb cb lb row col) st) st.toNat) (stsL ((max ca (col + cb)) + 2 * st) (rnL false b s ((max ra (row + rb)) + 2 * st) ((max ca (col + cb)) + 2 * st) (groW (max ra (row + rb)) (max ca (col + cb)) (metL0 ra ca la rb cb lb row col) st) st.toNat) ((rnL false b s ((max ra (row + rb)) + 2 * st) ((max ca (col + cb)) + 2 * st) (groW (max ra (row + rb)) (max ca (col + cb)) (metL0 ra ca la rb cb lb row col) st) st.toNat)).length)))) → Nw H u1 → Nw H u2 → Apart u1 u2 → Le H H' → K (.tuple #[u1, u2, (.bool (decide (lifP b s ∧ metOk ra ca la rb cb lb row col ∧ groOk (max ra (row + rb)) (max ca (col + cb)) (metL0 ra ca la rb cb lb row col) st ∧ (0 ≤ st ∧ st ≤ 8) ∧ (cenN (nmL ((max ra (row + rb)) + 2 * st) ((max ca (col + cb)) + 2 * st) (rnL false b s ((max ra (row + rb)) + 2 * st) ((max ca (col + cb)) + 2 * st) (groW (max ra (row + rb)) (max ca (col + cb)) (metL0 ra ca la rb cb lb row col) st) st.toNat) (stsL ((max ca (col + cb)) + 2 * st) (rnL false b s ((max ra (row + rb)) + 2 * st) ((max ca (col + cb)) + 2 * st) (groW (max ra (row + rb)) (max ca (col + cb)) (metL0 ra ca la rb cb lb row col) st) st.toNat) ((rnL false b s ((max ra (row + rb)) + 2 * st) ((max ca (col + cb)) + 2 * st) (groW (max ra (row + rb)) (max ca (col + cb)) (metL0 ra ca la rb cb lb row col) st) st.toNat)).length))).length ≤ 64)))]) H') : HT prg I.impl_CrashOf [(.agg #[vb, vs]), (.agg #[(.int .i64 (ra)), (.int .i64 (ca)), va]), (.agg #[(.int .i64 (rb)), (.int .i64 (cb)), vb2]), (.int .i64 (row)), (.int .i64 (col)), (.int .i64 (st))].toArray H K := by
 have lE := Le.refl H
 have hvb := hvb0
 have hvs := hvs0
 have hva := hva0
 have hvb2 := hvb20
 refine R.impl_CrashOf ?_
 unfold F.impl_CrashOf
 refine nw_i (fun p1 H2 op1 nn3 le4 => ?_)
 replace hvb := hvb.le le4
 replace hvs := hvs.le le4
 replace hva := hva.le le4
 replace hvb2 := hvb2.le le4
 replace lE := lE.trans le4
 replace op1 : Cel H2 p1 [vb, vs] := op1
 refine nw_i (fun p5 H6 op5 nn7 le8 => ?_)
 replace op1 := op1.le le8
 replace hvb := hvb.le le8
 replace hvs := hvs.le le8
 replace hva := hva.le le8
 replace hvb2 := hvb2.le le8
 replace lE := lE.trans le8
 replace op5 : Cel H6 p5 [(.int .i64 (ra)), (.int .i64 (ca)), va] := op5
 refine nw_i (fun p9 H10 op9 nn11 le12 => ?_)
 replace op1 := op1.le le12
 replace op5 := op5.le le12
 replace hvb := hvb.le le12
 replace hvs := hvs.le le12
 replace hva := hva.le le12
 replace hvb2 := hvb2.le le12
 replace lE := lE.trans le12
 replace op9 : Cel H10 p9 [(.int .i64 (rb)), (.int .i64 (cb)), vb2] := op9
 refine ob_i (op5.ldn rfl) ?_
 refine ob_i (op9.ldn rfl) ?_
 refine C.impl_meet hva hvb2 (by first | omega | assumption) (by first | omega | assumption) (fun hc13  H14    le15 => ?_) (fun hc16 u19 H17 ou19 nn20  le18 => ?_)
 ·skip
  replace hvb := hvb.le le15
  replace hvs := hvs.le le15
  replace hva := hva.le le15
  replace hvb2 := hvb2.le le15
  replace lE := lE.trans le15
  refine ob_i (vExt_20 _ _) ?_
  refine ob_i (vExt_21 _ _) ?_
  refine nw_i (fun p21 H22 op21 nn23 le24 => ?_)
  have np21 : Nw H p21 := nn23.le lE
  replace hvb := hvb.le le24
  replace hvs := hvs.le le24
  replace hva := hva.le le24
  replace hvb2 := hvb2.le le24
  replace lE := lE.trans le24
  replace op21 : Cel H22 p21 [(.int .i64 (0)), (.int .i64 (0)), (.slice none 0 0)] := op21
  refine op21.stn (ws := [(.int .i64 (0)), (.int .i64 (0)), (.slice none 0 0)]) rfl rfl (oc1 rfl (oc1 rfl (oc1 rfl oc0))) (fun H25 op21 off26 => ?_)
  replace hvb := hvb0.le (off26.le lE np21)
  replace hvs := hvs0.le (off26.le lE np21)
  replace hva := hva0.le (off26.le lE np21)
  replace hvb2 := hvb20.le (off26.le lE np21)
  replace lE := off26.le lE np21
  replace op21 : Cel H25 p21 [(.int .i64 (0)), (.int .i64 (0)), (.slice none 0 0)] := op21
  refine ob_i (a := .bool true) rfl ?_
  refine gop_st ?_
  refine gop_st ?_
  refine gop_st ?_
  refine ob_i (vPick_t _ _) ?_
  refine gop_st ?_
  refine gop_st ?_
  refine gop_st ?_
  refine ob_i (vPick_t _ _) ?_
  refine cnd_t1 ?_
  skip
  have hok : ¬ (lifP b s ∧ metOk ra ca la rb cb lb row col ∧ groOk (max ra (row + rb)) (max ca (col + cb)) (metL0 ra ca la rb cb lb row col) st ∧ (0 ≤ st ∧ st ≤ 8) ∧ (cenN (nmL ((max ra (row + rb)) + 2 * st) ((max ca (col + cb)) + 2 * st) (rnL false b s ((max ra (row + rb)) + 2 * st) ((max ca (col + cb)) + 2 * st) (groW (max ra (row + rb)) (max ca (col + cb)) (metL0 ra ca la rb cb lb row col) st) st.toNat) (stsL ((max ca (col + cb)) + 2 * st) (rnL false b s ((max ra (row + rb)) + 2 * st) ((max ca (col + cb)) + 2 * st) (groW (max ra (row + rb)) (max ca (col + cb)) (metL0 ra ca la rb cb lb row col) st) st.toNat) ((rnL false b s ((max ra (row + rb)) + 2 * st) ((max ca (col + cb)) + 2 * st) (groW (max ra (row + rb)) (max ca (col + cb)) (metL0 ra ca la rb cb lb row col) st) st.toNat)).length))).length ≤ 64) := by intro h; obtain ⟨h1, h2, h3, h4, h5⟩ := h; first | exact absurd h1 (by assumption) | exact absurd h2 (by assumption) | exact absurd h3 (by assumption) | exact absurd h4 (by assumption) | exact absurd (show canP b s ra ca la from ⟨h1, h2.1⟩) (by assumption) | exact absurd h2.2.1 (by assumption) | exact absurd h2.2.2 (by assumption) | exact absurd (And.intro hrf h5) (by assumption) | omega
  exact keq (K := K) (by rw [decide_eq_false (show ¬ (lifP b s ∧ metOk ra ca la rb cb lb row col ∧ groOk (max ra (row + rb)) (max ca (col + cb)) (metL0 ra ca la rb cb lb row col) st ∧ (0 ≤ st ∧ st ≤ 8) ∧ (cenN (nmL ((max ra (row + rb)) + 2 * st) ((max ca (col + cb)) + 2 * st) (rnL false b s ((max ra (row + rb)) + 2 * st) ((max ca (col + cb)) + 2 * st) (groW (max ra (row + rb)) (max ca (col + cb)) (metL0 ra ca la rb cb lb row col) st) st.toNat) (stsL ((max ca (col + cb)) + 2 * st) (rnL false b s ((max ra (row + rb)) + 2 * st) ((max ca (col + cb)) + 2 * st) (groW (max ra (row + rb)) (max ca (col + cb)) (metL0 ra ca la rb cb lb row col) st) st.toNat) ((rnL false b s ((max ra (row + rb)) + 2 * st) ((max ca (col + cb)) + 2 * st) (groW (max ra (row + rb)) (max ca (col + cb)) (metL0 ra ca la rb cb lb row col) st) st.toNat)).length))).length ≤ 64) from by exact hok)]; try rfl) (hk  (.slice none 0 0) (.slice none 0 0) _ (Own.cast (show [] = selL (lifP b s ∧ metOk ra ca la rb cb lb row col ∧ groOk (max ra (row + rb)) (max ca (col + cb)) (metL0 ra ca la rb cb lb row col) st ∧ (0 ≤ st ∧ st ≤ 8) ∧ (cenN (nmL ((max ra (row + rb)) + 2 * st) ((max ca (col + cb)) + 2 * st) (rnL false b s ((max ra (row + rb)) + 2 * st) ((max ca (col + cb)) + 2 * st) (groW (max ra (row + rb)) (max ca (col + cb)) (metL0 ra ca la rb cb lb row col) st) st.toNat) (stsL ((max ca (col + cb)) + 2 * st) (rnL false b s ((max ra (row + rb)) + 2 * st) ((max ca (col + cb)) + 2 * st) (groW (max ra (row + rb)) (max ca (col + cb)) (metL0 ra ca la rb cb lb row col) st) st.toNat) ((rnL false b s ((max ra (row + rb)) + 2 * st) ((max ca (col + cb)) + 2 * st) (groW (max ra (row + rb)) (max ca (col + cb)) (metL0 ra ca la rb cb lb row col) st) st.toNat)).length))).length ≤ 64) (cenN (nmL ((max ra (row + rb)) + 2 * st) ((max ca (col + cb)) + 2 * st) (rnL false b s ((max ra (row + rb)) + 2 * st) ((max ca (col + cb)) + 2 * st) (groW (max ra (row + rb)) (max ca (col + cb)) (metL0 ra ca la rb cb lb row col) st) st.toNat) (stsL ((max ca (col + cb)) + 2 * st) (rnL false b s ((max ra (row + rb)) + 2 * st) ((max ca (col + cb)) + 2 * st) (groW (max ra (row + rb)) (max ca (col + cb)) (metL0 ra ca la rb cb lb row col) st) st.toNat) ((rnL false b s ((max ra (row + rb)) + 2 * st) ((max ca (col + cb)) + 2 * st) (groW (max ra (row + rb)) (max ca (col + cb)) (metL0 ra ca la rb cb lb row col) st) st.toNat)).length))) by exact (selL_f hok).symm) (Own.nil_of none)) (Own.cast (show [] = selL (lifP b s ∧ metOk ra ca la rb cb lb row col ∧ groOk (max ra (row + rb)) (max ca (col + cb)) (metL0 ra ca la rb cb lb row col) st ∧ (0 ≤ st ∧ st ≤ 8) ∧ (cenN (nmL ((max ra (row + rb)) + 2 * st) ((max ca (col + cb)) + 2 * st) (rnL false b s ((max ra (row + rb)) + 2 * st) ((max ca (col + cb)) + 2 * st) (groW (max ra (row + rb)) (max ca (col + cb)) (metL0 ra ca la rb cb lb row col) st) st.toNat) (stsL ((max ca (col + cb)) + 2 * st) (rnL false b s ((max ra (row + rb)) + 2 * st) ((max ca (col + cb)) + 2 * st) (groW (max ra (row + rb)) (max ca (col + cb)) (metL0 ra ca la rb cb lb row col) st) st.toNat) ((rnL false b s ((max ra (row + rb)) + 2 * st) ((max ca (col + cb)) + 2 * st) (groW (max ra (row + rb)) (max ca (col + cb)) (metL0 ra ca la rb cb lb row col) st) st.toNat)).length))).length ≤ 64) (cenC (nmL ((max ra (row + rb)) + 2 * st) ((max ca (col + cb)) + 2 * st) (rnL false b s ((max ra (row + rb)) + 2 * st) ((max ca (col + cb)) + 2 * st) (groW (max ra (row + rb)) (max ca (col + cb)) (metL0 ra ca la rb cb lb row col) st) st.toNat) (stsL ((max ca (col + cb)) + 2 * st) (rnL false b s ((max ra (row + rb)) + 2 * st) ((max ca (col + cb)) + 2 * st) (groW (max ra (row + rb)) (max ca (col + cb)) (metL0 ra ca la rb cb lb row col) st) st.toNat) ((rnL false b s ((max ra (row + rb)) + 2 * st) ((max ca (col + cb)) + 2 * st) (groW (max ra (row + rb)) (max ca (col + cb)) (metL0 ra ca la rb cb lb row col) st) st.toNat)).length))) by exact (selL_f hok).symm) (Own.nil_of none)) (fun b hb => by simp [bk] at hb) (fun b hb => by simp [bk] at hb) (fun b hb => by simp [bk] at hb) lE)
 ·skip
  have hmk := hc16
  have hmf := metL0_field hmk
  have lmf := fieldN_len hmf
  replace op1 := op1.le le18
  replace hvb := hvb.le le18
  replace hvs := hvs.le le18
  replace hva := hva.le le18
  replace hvb2 := hvb2.le le18
  replace lE := lE.trans le18
  refine ob_i (vExt_20 _ _) ?_
  refine ob_i (vExt_21 _ _) ?_
  refine nw_i (fun p27 H28 op27 nn29 le30 => ?_)
  have ap1Xp27 : Apart p1 p27 := op1.apart nn29
  have au19Xp27 : Apart u19 p27 := ou19.apart nn29
  have np27 : Nw H p27 := nn29.le lE
  replace op1 := op1.le le30
  replace ou19 := ou19.le le30
  replace hvb := hvb.le le30
  replace hvs := hvs.le le30
  replace hva := hva.le le30
  replace hvb2 := hvb2.le le30
  replace lE := lE.trans le30
  replace op27 : Cel H28 p27 [(.int .i64 (0)), (.int .i64 (0)), (.slice none 0 0)] := op27
  refine op27.stn (ws := [(.int .i64 (max ra (row + rb))), (.int .i64 (max ca (col + cb))), u19]) rfl rfl (oc1 rfl (oc1 rfl (oc1 ou19.one oc0))) (fun H31 op27 off32 => ?_)
  replace op1 := op1.off off32 ap1Xp27
  replace ou19 := ou19.off off32 au19Xp27
  replace hvb := hvb0.le (off32.le lE np27)
  replace hvs := hvs0.le (off32.le lE np27)
  replace hva := hva0.le (off32.le lE np27)
  replace hvb2 := hvb20.le (off32.le lE np27)
  replace lE := off32.le lE np27
  replace op27 : Cel H31 p27 [(.int .i64 (max ra (row + rb))), (.int .i64 (max ca (col + cb))), u19] := op27
  refine ob_i (a := .bool false) rfl ?_
  refine gop_rf ?_
  refine ob_i (op1.ldn rfl) ?_
  refine gop_rf ?_
  refine C.impl_ValidLife hvb hvs (by first | omega | assumption) (by first | omega | assumption) (fun   H33    le34 => ?_)
  replace op1 := op1.le le34
  replace ou19 := ou19.le le34
  replace op27 := op27.le le34
  replace hvb := hvb.le le34
  replace hvs := hvs.le le34
  replace hva := hva.le le34
  replace hvb2 := hvb2.le le34
  replace lE := lE.trans le34
  refine gop_rf ?_
  refine ob_nd (fun hc35 => ?_) (fun hc35 => ?_)
  ·skip
   refine ob_i (vPick_f _ _) ?_
   refine gop_rf ?_
   refine gop_rf ?_
   refine C.impl_within  ?_
   refine gop_rf ?_
   refine ob_nd (fun hc36 => ?_) (fun hc36 => ?_)
   ·skip
    refine ob_i (vPick_f _ _) ?_
    refine cnd_f1 ?_
    refine ob_i (op27.ldn rfl) ?_
    refine C.groI_c ou19.sl (by first | omega | assumption) (fun hc37 u40 H38 ou40 nn41  le39 => ?_) (fun hc42 u45 H43 ou45 nn46  le44 => ?_)
    ·skip
     have hgo := hc37
     have hgf := groW_field hgo
     have hrf := rnL_field (rnd := false) (b := b) (s := s) hgf st.toNat
     have lgf := fieldN_len hgf
     have lrf := fieldN_len hrf
     have ap27Xu40 : Apart p27 u40 := op27.apart nn41
     replace op1 := op1.le le39
     replace op27 := op27.le le39
     replace hvb := hvb.le le39
     replace hvs := hvs.le le39
     replace hva := hva.le le39
     replace hvb2 := hvb2.le le39
     replace lE := lE.trans le39
     refine ob_i (vExt_20 _ _) ?_
     refine ob_i (vExt_21 _ _) ?_
     refine op27.stn (ws := [(.int .i64 ((max ra (row + rb)) + 2 * st)), (.int .i64 ((max ca (col + cb)) + 2 * st)), u40]) rfl rfl (oc1 rfl (oc1 rfl (oc1 ou40.one oc0))) (fun H47 op27 off48 => ?_)
     replace op1 := op1.off off48 ap1Xp27
     replace ou40 := ou40.off off48 ap27Xu40.symm
     replace hvb := hvb0.le (off48.le lE np27)
     replace hvs := hvs0.le (off48.le lE np27)
     replace hva := hva0.le (off48.le lE np27)
     replace hvb2 := hvb20.le (off48.le lE np27)
     replace lE := off48.le lE np27
     replace op27 : Cel H47 p27 [(.int .i64 ((max ra (row + rb)) + 2 * st)), (.int .i64 ((max ca (col + cb)) + 2 * st)), u40] := op27
     refine ob_i (a := .bool false) rfl ?_
     refine cnd_f1 ?_
     refine ob_i (op1.ldn rfl) ?_
     refine ob_i (op27.ldn rfl) ?_
     refine C.impl_Life_run hvb hvs ou40.sl (by exact hgf) (by first | omega | assumption) (by first | omega | assumption) (by first | omega | assumption) (by first | omega | assumption) (fun  u51 H49 ou51 nn52  le50 => ?_)
     replace lE := lE.trans le50
     refine C.cen_c ou51.sl (by first | omega | assumption) (fun hc53 u56 u57 H54 ou56 ou57 nn58 nn59 au56Xu57 le55 => ?_) (fun hc60 u63 u64 H61 ou63 ou64 nn65 nn66 au63Xu64 le62 => ?_)
     ·skip
      have nu56 : Nw H u56 := nn58.le lE
      have nu57 : Nw H u57 := nn59.le lE
      replace lE := lE.trans le55
      refine ob_i (vExt_30 _ _ _) ?_
      refine ob_i (vExt_31 _ _ _) ?_
      refine ob_i (vExt_32 _ _ _) ?_
      skip
      have hok : lifP b s ∧ metOk ra ca la rb cb lb row col ∧ groOk (max ra (row + rb)) (max ca (col + cb)) (metL0 ra ca la rb cb lb row col) st ∧ (0 ≤ st ∧ st ≤ 8) ∧ (cenN (nmL ((max ra (row + rb)) + 2 * st) ((max ca (col + cb)) + 2 * st) (rnL false b s ((max ra (row + rb)) + 2 * st) ((max ca (col + cb)) + 2 * st) (groW (max ra (row + rb)) (max ca (col + cb)) (metL0 ra ca la rb cb lb row col) st) st.toNat) (stsL ((max ca (col + cb)) + 2 * st) (rnL false b s ((max ra (row + rb)) + 2 * st) ((max ca (col + cb)) + 2 * st) (groW (max ra (row + rb)) (max ca (col + cb)) (metL0 ra ca la rb cb lb row col) st) st.toNat) ((rnL false b s ((max ra (row + rb)) + 2 * st) ((max ca (col + cb)) + 2 * st) (groW (max ra (row + rb)) (max ca (col + cb)) (metL0 ra ca la rb cb lb row col) st) st.toNat)).length))).length ≤ 64 := by first | exact ⟨by assumption, hmk, hgo, by assumption, (by assumption : _ ∧ _).2⟩ | exact ⟨hcn.1, hmk, hgo, by assumption, by omega⟩
      exact keq (K := K) (by rw [decide_eq_true (show (lifP b s ∧ metOk ra ca la rb cb lb row col ∧ groOk (max ra (row + rb)) (max ca (col + cb)) (metL0 ra ca la rb cb lb row col) st ∧ (0 ≤ st ∧ st ≤ 8) ∧ (cenN (nmL ((max ra (row + rb)) + 2 * st) ((max ca (col + cb)) + 2 * st) (rnL false b s ((max ra (row + rb)) + 2 * st) ((max ca (col + cb)) + 2 * st) (groW (max ra (row + rb)) (max ca (col + cb)) (metL0 ra ca la rb cb lb row col) st) st.toNat) (stsL ((max ca (col + cb)) + 2 * st) (rnL false b s ((max ra (row + rb)) + 2 * st) ((max ca (col + cb)) + 2 * st) (groW (max ra (row + rb)) (max ca (col + cb)) (metL0 ra ca la rb cb lb row col) st) st.toNat) ((rnL false b s ((max ra (row + rb)) + 2 * st) ((max ca (col + cb)) + 2 * st) (groW (max ra (row + rb)) (max ca (col + cb)) (metL0 ra ca la rb cb lb row col) st) st.toNat)).length))).length ≤ 64) from by exact hok)]; try rfl) (hk  u56 u57 _ (Own.cast (show cenN (nmL (((max ra (row + rb)) + 2 * st)) (((max ca (col + cb)) + 2 * st)) (rnL false b s ((max ra (row + rb)) + 2 * st) ((max ca (col + cb)) + 2 * st) (groW (max ra (row + rb)) (max ca (col + cb)) (metL0 ra ca la rb cb lb row col) st) st.toNat) (stsL (((max ca (col + cb)) + 2 * st)) (rnL false b s ((max ra (row + rb)) + 2 * st) ((max ca (col + cb)) + 2 * st) (groW (max ra (row + rb)) (max ca (col + cb)) (metL0 ra ca la rb cb lb row col) st) st.toNat) ((rnL false b s ((max ra (row + rb)) + 2 * st) ((max ca (col + cb)) + 2 * st) (groW (max ra (row + rb)) (max ca (col + cb)) (metL0 ra ca la rb cb lb row col) st) st.toNat)).length)) = selL (lifP b s ∧ metOk ra ca la rb cb lb row col ∧ groOk (max ra (row + rb)) (max ca (col + cb)) (metL0 ra ca la rb cb lb row col) st ∧ (0 ≤ st ∧ st ≤ 8) ∧ (cenN (nmL ((max ra (row + rb)) + 2 * st) ((max ca (col + cb)) + 2 * st) (rnL false b s ((max ra (row + rb)) + 2 * st) ((max ca (col + cb)) + 2 * st) (groW (max ra (row + rb)) (max ca (col + cb)) (metL0 ra ca la rb cb lb row col) st) st.toNat) (stsL ((max ca (col + cb)) + 2 * st) (rnL false b s ((max ra (row + rb)) + 2 * st) ((max ca (col + cb)) + 2 * st) (groW (max ra (row + rb)) (max ca (col + cb)) (metL0 ra ca la rb cb lb row col) st) st.toNat) ((rnL false b s ((max ra (row + rb)) + 2 * st) ((max ca (col + cb)) + 2 * st) (groW (max ra (row + rb)) (max ca (col + cb)) (metL0 ra ca la rb cb lb row col) st) st.toNat)).length))).length ≤ 64) (cenN (nmL ((max ra (row + rb)) + 2 * st) ((max ca (col + cb)) + 2 * st) (rnL false b s ((max ra (row + rb)) + 2 * st) ((max ca (col + cb)) + 2 * st) (groW (max ra (row + rb)) (max ca (col + cb)) (metL0 ra ca la rb cb lb row col) st) st.toNat) (stsL ((max ca (col + cb)) + 2 * st) (rnL false b s ((max ra (row + rb)) + 2 * st) ((max ca (col + cb)) + 2 * st) (groW (max ra (row + rb)) (max ca (col + cb)) (metL0 ra ca la rb cb lb row col) st) st.toNat) ((rnL false b s ((max ra (row + rb)) + 2 * st) ((max ca (col + cb)) + 2 * st) (groW (max ra (row + rb)) (max ca (col + cb)) (metL0 ra ca la rb cb lb row col) st) st.toNat)).length))) by first | exact (selL_t hok).symm | exact (selL_f hok).symm) ou56) (Own.cast (show cenC (nmL (((max ra (row + rb)) + 2 * st)) (((max ca (col + cb)) + 2 * st)) (rnL false b s ((max ra (row + rb)) + 2 * st) ((max ca (col + cb)) + 2 * st) (groW (max ra (row + rb)) (max ca (col + cb)) (metL0 ra ca la rb cb lb row col) st) st.toNat) (stsL (((max ca (col + cb)) + 2 * st)) (rnL false b s ((max ra (row + rb)) + 2 * st) ((max ca (col + cb)) + 2 * st) (groW (max ra (row + rb)) (max ca (col + cb)) (metL0 ra ca la rb cb lb row col) st) st.toNat) ((rnL false b s ((max ra (row + rb)) + 2 * st) ((max ca (col + cb)) + 2 * st) (groW (max ra (row + rb)) (max ca (col + cb)) (metL0 ra ca la rb cb lb row col) st) st.toNat)).length)) = selL (lifP b s ∧ metOk ra ca la rb cb lb row col ∧ groOk (max ra (row + rb)) (max ca (col + cb)) (metL0 ra ca la rb cb lb row col) st ∧ (0 ≤ st ∧ st ≤ 8) ∧ (cenN (nmL ((max ra (row + rb)) + 2 * st) ((max ca (col + cb)) + 2 * st) (rnL false b s ((max ra (row + rb)) + 2 * st) ((max ca (col + cb)) + 2 * st) (groW (max ra (row + rb)) (max ca (col + cb)) (metL0 ra ca la rb cb lb row col) st) st.toNat) (stsL ((max ca (col + cb)) + 2 * st) (rnL false b s ((max ra (row + rb)) + 2 * st) ((max ca (col + cb)) + 2 * st) (groW (max ra (row + rb)) (max ca (col + cb)) (metL0 ra ca la rb cb lb row col) st) st.toNat) ((rnL false b s ((max ra (row + rb)) + 2 * st) ((max ca (col + cb)) + 2 * st) (groW (max ra (row + rb)) (max ca (col + cb)) (metL0 ra ca la rb cb lb row col) st) st.toNat)).length))).length ≤ 64) (cenC (nmL ((max ra (row + rb)) + 2 * st) ((max ca (col + cb)) + 2 * st) (rnL false b s ((max ra (row + rb)) + 2 * st) ((max ca (col + cb)) + 2 * st) (groW (max ra (row + rb)) (max ca (col + cb)) (metL0 ra ca la rb cb lb row col) st) st.toNat) (stsL ((max ca (col + cb)) + 2 * st) (rnL false b s ((max ra (row + rb)) + 2 * st) ((max ca (col + cb)) + 2 * st) (groW (max ra (row + rb)) (max ca (col + cb)) (metL0 ra ca la rb cb lb row col) st) st.toNat) ((rnL false b s ((max ra (row + rb)) + 2 * st) ((max ca (col + cb)) + 2 * st) (groW (max ra (row + rb)) (max ca (col + cb)) (metL0 ra ca la rb cb lb row col) st) st.toNat)).length))) by first | exact (selL_t hok).symm | exact (selL_f hok).symm) ou57) nu56 nu57 au56Xu57 lE)
     ·skip
      have nu63 : Nw H u63 := nn65.le lE
      have nu64 : Nw H u64 := nn66.le lE
      replace lE := lE.trans le62
      refine ob_i (vExt_30 _ _ _) ?_
      refine ob_i (vExt_31 _ _ _) ?_
      refine ob_i (vExt_32 _ _ _) ?_
      skip
      have hok : ¬ (lifP b s ∧ metOk ra ca la rb cb lb row col ∧ groOk (max ra (row + rb)) (max ca (col + cb)) (metL0 ra ca la rb cb lb row col) st ∧ (0 ≤ st ∧ st ≤ 8) ∧ (cenN (nmL ((max ra (row + rb)) + 2 * st) ((max ca (col + cb)) + 2 * st) (rnL false b s ((max ra (row + rb)) + 2 * st) ((max ca (col + cb)) + 2 * st) (groW (max ra (row + rb)) (max ca (col + cb)) (metL0 ra ca la rb cb lb row col) st) st.toNat) (stsL ((max ca (col + cb)) + 2 * st) (rnL false b s ((max ra (row + rb)) + 2 * st) ((max ca (col + cb)) + 2 * st) (groW (max ra (row + rb)) (max ca (col + cb)) (metL0 ra ca la rb cb lb row col) st) st.toNat) ((rnL false b s ((max ra (row + rb)) + 2 * st) ((max ca (col + cb)) + 2 * st) (groW (max ra (row + rb)) (max ca (col + cb)) (metL0 ra ca la rb cb lb row col) st) st.toNat)).length))).length ≤ 64) := by intro h; obtain ⟨h1, h2, h3, h4, h5⟩ := h; first | exact absurd h1 (by assumption) | exact absurd h2 (by assumption) | exact absurd h3 (by assumption) | exact absurd h4 (by assumption) | exact absurd (show canP b s ra ca la from ⟨h1, h2.1⟩) (by assumption) | exact absurd h2.2.1 (by assumption) | exact absurd h2.2.2 (by assumption) | exact absurd (And.intro hrf h5) (by assumption) | omega
      exact keq (K := K) (by rw [decide_eq_false (show ¬ (lifP b s ∧ metOk ra ca la rb cb lb row col ∧ groOk (max ra (row + rb)) (max ca (col + cb)) (metL0 ra ca la rb cb lb row col) st ∧ (0 ≤ st ∧ st ≤ 8) ∧ (cenN (nmL ((max ra (row + rb)) + 2 * st) ((max ca (col + cb)) + 2 * st) (rnL false b s ((max ra (row + rb)) + 2 * st) ((max ca (col + cb)) + 2 * st) (groW (max ra (row + rb)) (max ca (col + cb)) (metL0 ra ca la rb cb lb row col) st) st.toNat) (stsL ((max ca (col + cb)) + 2 * st) (rnL false b s ((max ra (row + rb)) + 2 * st) ((max ca (col + cb)) + 2 * st) (groW (max ra (row + rb)) (max ca (col + cb)) (metL0 ra ca la rb cb lb row col) st) st.toNat) ((rnL false b s ((max ra (row + rb)) + 2 * st) ((max ca (col + cb)) + 2 * st) (groW (max ra (row + rb)) (max ca (col + cb)) (metL0 ra ca la rb cb lb row col) st) st.toNat)).length))).length ≤ 64) from by exact hok)]; try rfl) (hk  u63 u64 _ (Own.cast (show [] = selL (lifP b s ∧ metOk ra ca la rb cb lb row col ∧ groOk (max ra (row + rb)) (max ca (col + cb)) (metL0 ra ca la rb cb lb row col) st ∧ (0 ≤ st ∧ st ≤ 8) ∧ (cenN (nmL ((max ra (row + rb)) + 2 * st) ((max ca (col + cb)) + 2 * st) (rnL false b s ((max ra (row + rb)) + 2 * st) ((max ca (col + cb)) + 2 * st) (groW (max ra (row + rb)) (max ca (col + cb)) (metL0 ra ca la rb cb lb row col) st) st.toNat) (stsL ((max ca (col + cb)) + 2 * st) (rnL false b s ((max ra (row + rb)) + 2 * st) ((max ca (col + cb)) + 2 * st) (groW (max ra (row + rb)) (max ca (col + cb)) (metL0 ra ca la rb cb lb row col) st) st.toNat) ((rnL false b s ((max ra (row + rb)) + 2 * st) ((max ca (col + cb)) + 2 * st) (groW (max ra (row + rb)) (max ca (col + cb)) (metL0 ra ca la rb cb lb row col) st) st.toNat)).length))).length ≤ 64) (cenN (nmL ((max ra (row + rb)) + 2 * st) ((max ca (col + cb)) + 2 * st) (rnL false b s ((max ra (row + rb)) + 2 * st) ((max ca (col + cb)) + 2 * st) (groW (max ra (row + rb)) (max ca (col + cb)) (metL0 ra ca la rb cb lb row col) st) st.toNat) (stsL ((max ca (col + cb)) + 2 * st) (rnL false b s ((max ra (row + rb)) + 2 * st) ((max ca (col + cb)) + 2 * st) (groW (max ra (row + rb)) (max ca (col + cb)) (metL0 ra ca la rb cb lb row col) st) st.toNat) ((rnL false b s ((max ra (row + rb)) + 2 * st) ((max ca (col + cb)) + 2 * st) (groW (max ra (row + rb)) (max ca (col + cb)) (metL0 ra ca la rb cb lb row col) st) st.toNat)).length))) by first | exact (selL_t hok).symm | exact (selL_f hok).symm) ou63) (Own.cast (show [] = selL (lifP b s ∧ metOk ra ca la rb cb lb row col ∧ groOk (max ra (row + rb)) (max ca (col + cb)) (metL0 ra ca la rb cb lb row col) st ∧ (0 ≤ st ∧ st ≤ 8) ∧ (cenN (nmL ((max ra (row + rb)) + 2 * st) ((max ca (col + cb)) + 2 * st) (rnL false b s ((max ra (row + rb)) + 2 * st) ((max ca (col + cb)) + 2 * st) (groW (max ra (row + rb)) (max ca (col + cb)) (metL0 ra ca la rb cb lb row col) st) st.toNat) (stsL ((max ca (col + cb)) + 2 * st) (rnL false b s ((max ra (row + rb)) + 2 * st) ((max ca (col + cb)) + 2 * st) (groW (max ra (row + rb)) (max ca (col + cb)) (metL0 ra ca la rb cb lb row col) st) st.toNat) ((rnL false b s ((max ra (row + rb)) + 2 * st) ((max ca (col + cb)) + 2 * st) (groW (max ra (row + rb)) (max ca (col + cb)) (metL0 ra ca la rb cb lb row col) st) st.toNat)).length))).length ≤ 64) (cenC (nmL ((max ra (row + rb)) + 2 * st) ((max ca (col + cb)) + 2 * st) (rnL false b s ((max ra (row + rb)) + 2 * st) ((max ca (col + cb)) + 2 * st) (groW (max ra (row + rb)) (max ca (col + cb)) (metL0 ra ca la rb cb lb row col) st) st.toNat) (stsL ((max ca (col + cb)) + 2 * st) (rnL false b s ((max ra (row + rb)) + 2 * st) ((max ca (col + cb)) + 2 * st) (groW (max ra (row + rb)) (max ca (col + cb)) (metL0 ra ca la rb cb lb row col) st) st.toNat) ((rnL false b s ((max ra (row + rb)) + 2 * st) ((max ca (col + cb)) + 2 * st) (groW (max ra (row + rb)) (max ca (col + cb)) (metL0 ra ca la rb cb lb row col) st) st.toNat)).length))) by first | exact (selL_t hok).symm | exact (selL_f hok).symm) ou64) nu63 nu64 au63Xu64 lE)
    ·skip
     replace op27 := op27.le le44
     replace hvb := hvb.le le44
     replace hvs := hvs.le le44
     replace hva := hva.le le44
     replace hvb2 := hvb2.le le44
     replace lE := lE.trans le44
     refine ob_i (vExt_20 _ _) ?_
     refine ob_i (vExt_21 _ _) ?_
     refine op27.stn (ws := [(.int .i64 (0)), (.int .i64 (0)), u45]) rfl rfl (oc1 rfl (oc1 rfl (oc1 ou45.one oc0))) (fun H67 op27 off68 => ?_)
     replace hvb := hvb0.le (off68.le lE np27)
     replace hvs := hvs0.le (off68.le lE np27)
     replace hva := hva0.le (off68.le lE np27)
     replace hvb2 := hvb20.le (off68.le lE np27)
     replace lE := off68.le lE np27
     replace op27 : Cel H67 p27 [(.int .i64 (0)), (.int .i64 (0)), u45] := op27
     refine ob_i (a := .bool true) rfl ?_
     refine cnd_t1 ?_
     skip
     have hok : ¬ (lifP b s ∧ metOk ra ca la rb cb lb row col ∧ groOk (max ra (row + rb)) (max ca (col + cb)) (metL0 ra ca la rb cb lb row col) st ∧ (0 ≤ st ∧ st ≤ 8) ∧ (cenN (nmL ((max ra (row + rb)) + 2 * st) ((max ca (col + cb)) + 2 * st) (rnL false b s ((max ra (row + rb)) + 2 * st) ((max ca (col + cb)) + 2 * st) (groW (max ra (row + rb)) (max ca (col + cb)) (metL0 ra ca la rb cb lb row col) st) st.toNat) (stsL ((max ca (col + cb)) + 2 * st) (rnL false b s ((max ra (row + rb)) + 2 * st) ((max ca (col + cb)) + 2 * st) (groW (max ra (row + rb)) (max ca (col + cb)) (metL0 ra ca la rb cb lb row col) st) st.toNat) ((rnL false b s ((max ra (row + rb)) + 2 * st) ((max ca (col + cb)) + 2 * st) (groW (max ra (row + rb)) (max ca (col + cb)) (metL0 ra ca la rb cb lb row col) st) st.toNat)).length))).length ≤ 64) := by intro h; obtain ⟨h1, h2, h3, h4, h5⟩ := h; first | exact absurd h1 (by assumption) | exact absurd h2 (by assumption) | exact absurd h3 (by assumption) | exact absurd h4 (by assumption) | exact absurd (show canP b s ra ca la from ⟨h1, h2.1⟩) (by assumption) | exact absurd h2.2.1 (by assumption) | exact absurd h2.2.2 (by assumption) | exact absurd (And.intro hrf h5) (by assumption) | omega
     exact keq (K := K) (by rw [decide_eq_false (show ¬ (lifP b s ∧ metOk ra ca la rb cb lb row col ∧ groOk (max ra (row + rb)) (max ca (col + cb)) (metL0 ra ca la rb cb lb row col) st ∧ (0 ≤ st ∧ st ≤ 8) ∧ (cenN (nmL ((max ra (row + rb)) + 2 * st) ((max ca (col + cb)) + 2 * st) (rnL false b s ((max ra (row + rb)) + 2 * st) ((max ca (col + cb)) + 2 * st) (groW (max ra (row + rb)) (max ca (col + cb)) (metL0 ra ca la rb cb lb row col) st) st.toNat) (stsL ((max ca (col + cb)) + 2 * st) (rnL false b s ((max ra (row + rb)) + 2 * st) ((max ca (col + cb)) + 2 * st) (groW (max ra (row + rb)) (max ca (col + cb)) (metL0 ra ca la rb cb lb row col) st) st.toNat) ((rnL false b s ((max ra (row + rb)) + 2 * st) ((max ca (col + cb)) + 2 * st) (groW (max ra (row + rb)) (max ca (col + cb)) (metL0 ra ca la rb cb lb row col) st) st.toNat)).length))).length ≤ 64) from by exact hok)]; try rfl) (hk  (.slice none 0 0) (.slice none 0 0) _ (Own.cast (show [] = selL (lifP b s ∧ metOk ra ca la rb cb lb row col ∧ groOk (max ra (row + rb)) (max ca (col + cb)) (metL0 ra ca la rb cb lb row col) st ∧ (0 ≤ st ∧ st ≤ 8) ∧ (cenN (nmL ((max ra (row + rb)) + 2 * st) ((max ca (col + cb)) + 2 * st) (rnL false b s ((max ra (row + rb)) + 2 * st) ((max ca (col + cb)) + 2 * st) (groW (max ra (row + rb)) (max ca (col + cb)) (metL0 ra ca la rb cb lb row col) st) st.toNat) (stsL ((max ca (col + cb)) + 2 * st) (rnL false b s ((max ra (row + rb)) + 2 * st) ((max ca (col + cb)) + 2 * st) (groW (max ra (row + rb)) (max ca (col + cb)) (metL0 ra ca la rb cb lb row col) st) st.toNat) ((rnL false b s ((max ra (row + rb)) + 2 * st) ((max ca (col + cb)) + 2 * st) (groW (max ra (row + rb)) (max ca (col + cb)) (metL0 ra ca la rb cb lb row col) st) st.toNat)).length))).length ≤ 64) (cenN (nmL ((max ra (row + rb)) + 2 * st) ((max ca (col + cb)) + 2 * st) (rnL false b s ((max ra (row + rb)) + 2 * st) ((max ca (col + cb)) + 2 * st) (groW (max ra (row + rb)) (max ca (col + cb)) (metL0 ra ca la rb cb lb row col) st) st.toNat) (stsL ((max ca (col + cb)) + 2 * st) (rnL false b s ((max ra (row + rb)) + 2 * st) ((max ca (col + cb)) + 2 * st) (groW (max ra (row + rb)) (max ca (col + cb)) (metL0 ra ca la rb cb lb row col) st) st.toNat) ((rnL false b s ((max ra (row + rb)) + 2 * st) ((max ca (col + cb)) + 2 * st) (groW (max ra (row + rb)) (max ca (col + cb)) (metL0 ra ca la rb cb lb row col) st) st.toNat)).length))) by exact (selL_f hok).symm) (Own.nil_of none)) (Own.cast (show [] = selL (lifP b s ∧ metOk ra ca la rb cb lb row col ∧ groOk (max ra (row + rb)) (max ca (col + cb)) (metL0 ra ca la rb cb lb row col) st ∧ (0 ≤ st ∧ st ≤ 8) ∧ (cenN (nmL ((max ra (row + rb)) + 2 * st) ((max ca (col + cb)) + 2 * st) (rnL false b s ((max ra (row + rb)) + 2 * st) ((max ca (col + cb)) + 2 * st) (groW (max ra (row + rb)) (max ca (col + cb)) (metL0 ra ca la rb cb lb row col) st) st.toNat) (stsL ((max ca (col + cb)) + 2 * st) (rnL false b s ((max ra (row + rb)) + 2 * st) ((max ca (col + cb)) + 2 * st) (groW (max ra (row + rb)) (max ca (col + cb)) (metL0 ra ca la rb cb lb row col) st) st.toNat) ((rnL false b s ((max ra (row + rb)) + 2 * st) ((max ca (col + cb)) + 2 * st) (groW (max ra (row + rb)) (max ca (col + cb)) (metL0 ra ca la rb cb lb row col) st) st.toNat)).length))).length ≤ 64) (cenC (nmL ((max ra (row + rb)) + 2 * st) ((max ca (col + cb)) + 2 * st) (rnL false b s ((max ra (row + rb)) + 2 * st) ((max ca (col + cb)) + 2 * st) (groW (max ra (row + rb)) (max ca (col + cb)) (metL0 ra ca la rb cb lb row col) st) st.toNat) (stsL ((max ca (col + cb)) + 2 * st) (rnL false b s ((max ra (row + rb)) + 2 * st) ((max ca (col + cb)) + 2 * st) (groW (max ra (row + rb)) (max ca (col + cb)) (metL0 ra ca la rb cb lb row col) st) st.toNat) ((rnL false b s ((max ra (row + rb)) + 2 * st) ((max ca (col + cb)) + 2 * st) (groW (max ra (row + rb)) (max ca (col + cb)) (metL0 ra ca la rb cb lb row col) st) st.toNat)).length))) by exact (selL_f hok).symm) (Own.nil_of none)) (fun b hb => by simp [bk] at hb) (fun b hb => by simp [bk] at hb) (fun b hb => by simp [bk] at hb) lE)
   ·skip
    refine ob_i (vPick_f _ _) ?_
    refine cnd_t1 ?_
    skip
    have hok : ¬ (lifP b s ∧ metOk ra ca la rb cb lb row col ∧ groOk (max ra (row + rb)) (max ca (col + cb)) (metL0 ra ca la rb cb lb row col) st ∧ (0 ≤ st ∧ st ≤ 8) ∧ (cenN (nmL ((max ra (row + rb)) + 2 * st) ((max ca (col + cb)) + 2 * st) (rnL false b s ((max ra (row + rb)) + 2 * st) ((max ca (col + cb)) + 2 * st) (groW (max ra (row + rb)) (max ca (col + cb)) (metL0 ra ca la rb cb lb row col) st) st.toNat) (stsL ((max ca (col + cb)) + 2 * st) (rnL false b s ((max ra (row + rb)) + 2 * st) ((max ca (col + cb)) + 2 * st) (groW (max ra (row + rb)) (max ca (col + cb)) (metL0 ra ca la rb cb lb row col) st) st.toNat) ((rnL false b s ((max ra (row + rb)) + 2 * st) ((max ca (col + cb)) + 2 * st) (groW (max ra (row + rb)) (max ca (col + cb)) (metL0 ra ca la rb cb lb row col) st) st.toNat)).length))).length ≤ 64) := by intro h; obtain ⟨h1, h2, h3, h4, h5⟩ := h; first | exact absurd h1 (by assumption) | exact absurd h2 (by assumption) | exact absurd h3 (by assumption) | exact absurd h4 (by assumption) | exact absurd (show canP b s ra ca la from ⟨h1, h2.1⟩) (by assumption) | exact absurd h2.2.1 (by assumption) | exact absurd h2.2.2 (by assumption) | exact absurd (And.intro hrf h5) (by assumption) | omega
    exact keq (K := K) (by rw [decide_eq_false (show ¬ (lifP b s ∧ metOk ra ca la rb cb lb row col ∧ groOk (max ra (row + rb)) (max ca (col + cb)) (metL0 ra ca la rb cb lb row col) st ∧ (0 ≤ st ∧ st ≤ 8) ∧ (cenN (nmL ((max ra (row + rb)) + 2 * st) ((max ca (col + cb)) + 2 * st) (rnL false b s ((max ra (row + rb)) + 2 * st) ((max ca (col + cb)) + 2 * st) (groW (max ra (row + rb)) (max ca (col + cb)) (metL0 ra ca la rb cb lb row col) st) st.toNat) (stsL ((max ca (col + cb)) + 2 * st) (rnL false b s ((max ra (row + rb)) + 2 * st) ((max ca (col + cb)) + 2 * st) (groW (max ra (row + rb)) (max ca (col + cb)) (metL0 ra ca la rb cb lb row col) st) st.toNat) ((rnL false b s ((max ra (row + rb)) + 2 * st) ((max ca (col + cb)) + 2 * st) (groW (max ra (row + rb)) (max ca (col + cb)) (metL0 ra ca la rb cb lb row col) st) st.toNat)).length))).length ≤ 64) from by exact hok)]; try rfl) (hk  (.slice none 0 0) (.slice none 0 0) _ (Own.cast (show [] = selL (lifP b s ∧ metOk ra ca la rb cb lb row col ∧ groOk (max ra (row + rb)) (max ca (col + cb)) (metL0 ra ca la rb cb lb row col) st ∧ (0 ≤ st ∧ st ≤ 8) ∧ (cenN (nmL ((max ra (row + rb)) + 2 * st) ((max ca (col + cb)) + 2 * st) (rnL false b s ((max ra (row + rb)) + 2 * st) ((max ca (col + cb)) + 2 * st) (groW (max ra (row + rb)) (max ca (col + cb)) (metL0 ra ca la rb cb lb row col) st) st.toNat) (stsL ((max ca (col + cb)) + 2 * st) (rnL false b s ((max ra (row + rb)) + 2 * st) ((max ca (col + cb)) + 2 * st) (groW (max ra (row + rb)) (max ca (col + cb)) (metL0 ra ca la rb cb lb row col) st) st.toNat) ((rnL false b s ((max ra (row + rb)) + 2 * st) ((max ca (col + cb)) + 2 * st) (groW (max ra (row + rb)) (max ca (col + cb)) (metL0 ra ca la rb cb lb row col) st) st.toNat)).length))).length ≤ 64) (cenN (nmL ((max ra (row + rb)) + 2 * st) ((max ca (col + cb)) + 2 * st) (rnL false b s ((max ra (row + rb)) + 2 * st) ((max ca (col + cb)) + 2 * st) (groW (max ra (row + rb)) (max ca (col + cb)) (metL0 ra ca la rb cb lb row col) st) st.toNat) (stsL ((max ca (col + cb)) + 2 * st) (rnL false b s ((max ra (row + rb)) + 2 * st) ((max ca (col + cb)) + 2 * st) (groW (max ra (row + rb)) (max ca (col + cb)) (metL0 ra ca la rb cb lb row col) st) st.toNat) ((rnL false b s ((max ra (row + rb)) + 2 * st) ((max ca (col + cb)) + 2 * st) (groW (max ra (row + rb)) (max ca (col + cb)) (metL0 ra ca la rb cb lb row col) st) st.toNat)).length))) by exact (selL_f hok).symm) (Own.nil_of none)) (Own.cast (show [] = selL (lifP b s ∧ metOk ra ca la rb cb lb row col ∧ groOk (max ra (row + rb)) (max ca (col + cb)) (metL0 ra ca la rb cb lb row col) st ∧ (0 ≤ st ∧ st ≤ 8) ∧ (cenN (nmL ((max ra (row + rb)) + 2 * st) ((max ca (col + cb)) + 2 * st) (rnL false b s ((max ra (row + rb)) + 2 * st) ((max ca (col + cb)) + 2 * st) (groW (max ra (row + rb)) (max ca (col + cb)) (metL0 ra ca la rb cb lb row col) st) st.toNat) (stsL ((max ca (col + cb)) + 2 * st) (rnL false b s ((max ra (row + rb)) + 2 * st) ((max ca (col + cb)) + 2 * st) (groW (max ra (row + rb)) (max ca (col + cb)) (metL0 ra ca la rb cb lb row col) st) st.toNat) ((rnL false b s ((max ra (row + rb)) + 2 * st) ((max ca (col + cb)) + 2 * st) (groW (max ra (row + rb)) (max ca (col + cb)) (metL0 ra ca la rb cb lb row col) st) st.toNat)).length))).length ≤ 64) (cenC (nmL ((max ra (row + rb)) + 2 * st) ((max ca (col + cb)) + 2 * st) (rnL false b s ((max ra (row + rb)) + 2 * st) ((max ca (col + cb)) + 2 * st) (groW (max ra (row + rb)) (max ca (col + cb)) (metL0 ra ca la rb cb lb row col) st) st.toNat) (stsL ((max ca (col + cb)) + 2 * st) (rnL false b s ((max ra (row + rb)) + 2 * st) ((max ca (col + cb)) + 2 * st) (groW (max ra (row + rb)) (max ca (col + cb)) (metL0 ra ca la rb cb lb row col) st) st.toNat) ((rnL false b s ((max ra (row + rb)) + 2 * st) ((max ca (col + cb)) + 2 * st) (groW (max ra (row + rb)) (max ca (col + cb)) (metL0 ra ca la rb cb lb row col) st) st.toNat)).length))) by exact (selL_f hok).symm) (Own.nil_of none)) (fun b hb => by simp [bk] at hb) (fun b hb => by simp [bk] at hb) (fun b hb => by simp [bk] at hb) lE)
  ·skip
   refine ob_i (vPick_f _ _) ?_
   refine gop_st ?_
   refine gop_st ?_
   refine gop_st ?_
   refine ob_i (vPick_t _ _) ?_
   refine cnd_t1 ?_
   skip
   have hok : ¬ (lifP b s ∧ metOk ra ca la rb cb lb row col ∧ groOk (max ra (row + rb)) (max ca (col + cb)) (metL0 ra ca la rb cb lb row col) st ∧ (0 ≤ st ∧ st ≤ 8) ∧ (cenN (nmL ((max ra (row + rb)) + 2 * st) ((max ca (col + cb)) + 2 * st) (rnL false b s ((max ra (row + rb)) + 2 * st) ((max ca (col + cb)) + 2 * st) (groW (max ra (row + rb)) (max ca (col + cb)) (metL0 ra ca la rb cb lb row col) st) st.toNat) (stsL ((max ca (col + cb)) + 2 * st) (rnL false b s ((max ra (row + rb)) + 2 * st) ((max ca (col + cb)) + 2 * st) (groW (max ra (row + rb)) (max ca (col + cb)) (metL0 ra ca la rb cb lb row col) st) st.toNat) ((rnL false b s ((max ra (row + rb)) + 2 * st) ((max ca (col + cb)) + 2 * st) (groW (max ra (row + rb)) (max ca (col + cb)) (metL0 ra ca la rb cb lb row col) st) st.toNat)).length))).length ≤ 64) := by intro h; obtain ⟨h1, h2, h3, h4, h5⟩ := h; first | exact absurd h1 (by assumption) | exact absurd h2 (by assumption) | exact absurd h3 (by assumption) | exact absurd h4 (by assumption) | exact absurd (show canP b s ra ca la from ⟨h1, h2.1⟩) (by assumption) | exact absurd h2.2.1 (by assumption) | exact absurd h2.2.2 (by assumption) | exact absurd (And.intro hrf h5) (by assumption) | omega
   exact keq (K := K) (by rw [decide_eq_false (show ¬ (lifP b s ∧ metOk ra ca la rb cb lb row col ∧ groOk (max ra (row + rb)) (max ca (col + cb)) (metL0 ra ca la rb cb lb row col) st ∧ (0 ≤ st ∧ st ≤ 8) ∧ (cenN (nmL ((max ra (row + rb)) + 2 * st) ((max ca (col + cb)) + 2 * st) (rnL false b s ((max ra (row + rb)) + 2 * st) ((max ca (col + cb)) + 2 * st) (groW (max ra (row + rb)) (max ca (col + cb)) (metL0 ra ca la rb cb lb row col) st) st.toNat) (stsL ((max ca (col + cb)) + 2 * st) (rnL false b s ((max ra (row + rb)) + 2 * st) ((max ca (col + cb)) + 2 * st) (groW (max ra (row + rb)) (max ca (col + cb)) (metL0 ra ca la rb cb lb row col) st) st.toNat) ((rnL false b s ((max ra (row + rb)) + 2 * st) ((max ca (col + cb)) + 2 * st) (groW (max ra (row + rb)) (max ca (col + cb)) (metL0 ra ca la rb cb lb row col) st) st.toNat)).length))).length ≤ 64) from by exact hok)]; try rfl) (hk  (.slice none 0 0) (.slice none 0 0) _ (Own.cast (show [] = selL (lifP b s ∧ metOk ra ca la rb cb lb row col ∧ groOk (max ra (row + rb)) (max ca (col + cb)) (metL0 ra ca la rb cb lb row col) st ∧ (0 ≤ st ∧ st ≤ 8) ∧ (cenN (nmL ((max ra (row + rb)) + 2 * st) ((max ca (col + cb)) + 2 * st) (rnL false b s ((max ra (row + rb)) + 2 * st) ((max ca (col + cb)) + 2 * st) (groW (max ra (row + rb)) (max ca (col + cb)) (metL0 ra ca la rb cb lb row col) st) st.toNat) (stsL ((max ca (col + cb)) + 2 * st) (rnL false b s ((max ra (row + rb)) + 2 * st) ((max ca (col + cb)) + 2 * st) (groW (max ra (row + rb)) (max ca (col + cb)) (metL0 ra ca la rb cb lb row col) st) st.toNat) ((rnL false b s ((max ra (row + rb)) + 2 * st) ((max ca (col + cb)) + 2 * st) (groW (max ra (row + rb)) (max ca (col + cb)) (metL0 ra ca la rb cb lb row col) st) st.toNat)).length))).length ≤ 64) (cenN (nmL ((max ra (row + rb)) + 2 * st) ((max ca (col + cb)) + 2 * st) (rnL false b s ((max ra (row + rb)) + 2 * st) ((max ca (col + cb)) + 2 * st) (groW (max ra (row + rb)) (max ca (col + cb)) (metL0 ra ca la rb cb lb row col) st) st.toNat) (stsL ((max ca (col + cb)) + 2 * st) (rnL false b s ((max ra (row + rb)) + 2 * st) ((max ca (col + cb)) + 2 * st) (groW (max ra (row + rb)) (max ca (col + cb)) (metL0 ra ca la rb cb lb row col) st) st.toNat) ((rnL false b s ((max ra (row + rb)) + 2 * st) ((max ca (col + cb)) + 2 * st) (groW (max ra (row + rb)) (max ca (col + cb)) (metL0 ra ca la rb cb lb row col) st) st.toNat)).length))) by exact (selL_f hok).symm) (Own.nil_of none)) (Own.cast (show [] = selL (lifP b s ∧ metOk ra ca la rb cb lb row col ∧ groOk (max ra (row + rb)) (max ca (col + cb)) (metL0 ra ca la rb cb lb row col) st ∧ (0 ≤ st ∧ st ≤ 8) ∧ (cenN (nmL ((max ra (row + rb)) + 2 * st) ((max ca (col + cb)) + 2 * st) (rnL false b s ((max ra (row + rb)) + 2 * st) ((max ca (col + cb)) + 2 * st) (groW (max ra (row + rb)) (max ca (col + cb)) (metL0 ra ca la rb cb lb row col) st) st.toNat) (stsL ((max ca (col + cb)) + 2 * st) (rnL false b s ((max ra (row + rb)) + 2 * st) ((max ca (col + cb)) + 2 * st) (groW (max ra (row + rb)) (max ca (col + cb)) (metL0 ra ca la rb cb lb row col) st) st.toNat) ((rnL false b s ((max ra (row + rb)) + 2 * st) ((max ca (col + cb)) + 2 * st) (groW (max ra (row + rb)) (max ca (col + cb)) (metL0 ra ca la rb cb lb row col) st) st.toNat)).length))).length ≤ 64) (cenC (nmL ((max ra (row + rb)) + 2 * st) ((max ca (col + cb)) + 2 * st) (rnL false b s ((max ra (row + rb)) + 2 * st) ((max ca (col + cb)) + 2 * st) (groW (max ra (row + rb)) (max ca (col + cb)) (metL0 ra ca la rb cb lb row col) st) st.toNat) (stsL ((max ca (col + cb)) + 2 * st) (rnL false b s ((max ra (row + rb)) + 2 * st) ((max ca (col + cb)) + 2 * st) (groW (max ra (row + rb)) (max ca (col + cb)) (metL0 ra ca la rb cb lb row col) st) st.toNat) ((rnL false b s ((max ra (row + rb)) + 2 * st) ((max ca (col + cb)) + 2 * st) (groW (max ra (row + rb)) (max ca (col + cb)) (metL0 ra ca la rb cb lb row col) st) st.toNat)).length))) by exact (selL_f hok).symm) (Own.nil_of none)) (fun b hb => by simp [bk] at hb) (fun b hb => by simp [bk] at hb) (fun b hb => by simp [bk] at hb) lE)
theorem C.spec_CrashOf {vb vs va vb2 : Value} {ra ca rb cb row col st : Int} {b : List Int} {s : List Int} {la : List Int} {lb : List Int}  {H : Hp} {K : Value → Hp → Prop} (hvb0 : Sl eI H vb b) (hvs0 : Sl eI H vs s) (hva0 : Sl eI H va la) (hvb20 : Sl eI H vb2 lb) (kb : b.length ≤ 9223372036854775807) (ks : s.length ≤ 9223372036854775807) (k1 : la.length ≤ 9223372036854775807) (k2 : lb.length ≤ 9223372036854775807)
    (hk : ∀ u1 u2 H', Own vS H' u1 (selL (lifP b s ∧ metOk ra ca la rb cb lb row col ∧ groOk (max ra (row + rb)) (max ca (col + cb)) (metL0 ra ca la rb cb lb row col) st ∧ (0 ≤ st ∧ st ≤ 8) ∧ (cenN (nmL ((max ra (row + rb)) + 2 * st) ((max ca (col + cb)) + 2 * st) (rnL false b s ((max ra (row + rb)) + 2 * st) ((max ca (col + cb)) + 2 * st) (groW (max ra (row + rb)) (max ca (col + cb)) (metL0 ra ca la rb cb lb row col) st) st.toNat) (stsL ((max ca (col + cb)) + 2 * st) (rnL false b s ((max ra (row + rb)) + 2 * st) ((max ca (col + cb)) + 2 * st) (groW (max ra (row + rb)) (max ca (col + cb)) (metL0 ra ca la rb cb lb row col) st) st.toNat) ((rnL false b s ((max ra (row + rb)) + 2 * st) ((max ca (col + cb)) + 2 * st) (groW (max ra (row + rb)) (max ca (col + cb)) (metL0 ra ca la rb cb lb row col) st) st.toNat)).length))).length ≤ 64) (cenN (nmL ((max ra (row + rb)) + 2 * st) ((max ca (col + cb)) + 2 * st) (rnL false b s ((max ra (row + rb)) + 2 * st) ((max ca (col + cb)) + 2 * st) (groW (max ra (row + rb)) (max ca (col + cb)) (metL0 ra ca la rb cb lb row col) st) st.toNat) (stsL ((max ca (col + cb)) + 2 * st) (rnL false b s ((max ra (row + rb)) + 2 * st) ((max ca (col + cb)) + 2 * st) (groW (max ra (row + rb)) (max ca (col + cb)) (metL0 ra ca la rb cb lb row col) st) st.toNat) ((rnL false b s ((max ra (row + rb)) + 2 * st) ((max ca (col + cb)) + 2 * st) (groW (max ra (row + rb)) (max ca (col + cb)) (metL0 ra ca la rb cb lb row col) st) st.toNat)).length)))) → Own eI H' u2 (selL (lifP b s ∧ metOk ra ca la rb cb lb row col ∧ groOk (max ra (row + rb)) (max ca (col + cb)) (metL0 ra ca la rb cb lb row col) st ∧ (0 ≤ st ∧ st ≤ 8) ∧ (cenN (nmL ((max ra (row + rb)) + 2 * st) ((max ca (col + cb)) + 2 * st) (rnL false b s ((max ra (row + rb)) + 2 * st) ((max ca (col + cb)) + 2 * st) (groW (max ra (row + rb)) (max ca (col + cb)) (metL0 ra ca la rb cb lb row col) st) st.toNat) (stsL ((max ca (col + cb)) + 2 * st) (rnL false b s ((max ra (row + rb)) + 2 * st) ((max ca (col + cb)) + 2 * st) (groW (max ra (row + rb)) (max ca (col + cb)) (metL0 ra ca la rb cb lb row col) st) st.toNat) ((rnL false b s ((max ra (row + rb)) + 2 * st) ((max ca (col + cb)) + 2 * st) (groW (max ra (row + rb)) (max ca (col + cb)) (metL0 ra ca la rb cb lb row col) st) st.toNat)).length))).length ≤ 64) (cenC (nmL ((max ra (row + rb)) + 2 * st) ((max ca (col + cb)) + 2 * st) (rnL false b s ((max ra (row + rb)) + 2 * st) ((max ca (col + cb)) + 2 * st) (groW (max ra (row + rb)) (max ca (col + cb)) (metL0 ra ca la rb cb lb row col) st) st.toNat) (stsL ((max ca (col + cb)) + 2 * st) (rnL false b s ((max ra (row + rb)) + 2 * st) ((max ca (col + cb)) + 2 * st) (groW (max ra (row + rb)) (max ca (col + cb)) (metL0 ra ca la rb cb lb row col) st) st.toNat) ((rnL false b s ((max ra (row + rb)) + 2 * st) ((max ca (col + cb)) + 2 * st) (groW (max ra (row + rb)) (max ca (col + cb)) (metL0 ra ca la rb cb lb row col) st) st.toNat)).length)))) → Nw H u1 → Nw H u2 → Apart u1 u2 → Le H H' → K (.tuple #[u1, u2, (.bool (decide (lifP b s ∧ metOk ra ca la rb cb lb row col ∧ groOk (max ra (row + rb)) (max ca (col + cb)) (metL0 ra ca la rb cb lb row col) st ∧ (0 ≤ st ∧ st ≤ 8) ∧ (cenN (nmL ((max ra (row + rb)) + 2 * st) ((max ca (col + cb)) + 2 * st) (rnL false b s ((max ra (row + rb)) + 2 * st) ((max ca (col + cb)) + 2 * st) (groW (max ra (row + rb)) (max ca (col + cb)) (metL0 ra ca la rb cb lb row col) st) st.toNat) (stsL ((max ca (col + cb)) + 2 * st) (rnL false b s ((max ra (row + rb)) + 2 * st) ((max ca (col + cb)) + 2 * st) (groW (max ra (row + rb)) (max ca (col + cb)) (metL0 ra ca la rb cb lb row col) st) st.toNat) ((rnL false b s ((max ra (row + rb)) + 2 * st) ((max ca (col + cb)) + 2 * st) (groW (max ra (row + rb)) (max ca (col + cb)) (metL0 ra ca la rb cb lb row col) st) st.toNat)).length))).length ≤ 64)))]) H') : HT prg I.spec_CrashOf [(.agg #[vb, vs]), (.agg #[(.int .i64 (ra)), (.int .i64 (ca)), va]), (.agg #[(.int .i64 (rb)), (.int .i64 (cb)), vb2]), (.int .i64 (row)), (.int .i64 (col)), (.int .i64 (st))].toArray H K := by
 have lE := Le.refl H
 have hvb := hvb0
 have hvs := hvs0
 have hva := hva0
 have hvb2 := hvb20
 refine R.spec_CrashOf ?_
 unfold F.spec_CrashOf
 refine nw_i (fun p1 H2 op1 nn3 le4 => ?_)
 replace hvb := hvb.le le4
 replace hvs := hvs.le le4
 replace hva := hva.le le4
 replace hvb2 := hvb2.le le4
 replace lE := lE.trans le4
 replace op1 : Cel H2 p1 [vb, vs] := op1
 refine nw_i (fun p5 H6 op5 nn7 le8 => ?_)
 replace op1 := op1.le le8
 replace hvb := hvb.le le8
 replace hvs := hvs.le le8
 replace hva := hva.le le8
 replace hvb2 := hvb2.le le8
 replace lE := lE.trans le8
 replace op5 : Cel H6 p5 [(.int .i64 (ra)), (.int .i64 (ca)), va] := op5
 refine nw_i (fun p9 H10 op9 nn11 le12 => ?_)
 replace op1 := op1.le le12
 replace op5 := op5.le le12
 replace hvb := hvb.le le12
 replace hvs := hvs.le le12
 replace hva := hva.le le12
 replace hvb2 := hvb2.le le12
 replace lE := lE.trans le12
 replace op9 : Cel H10 p9 [(.int .i64 (rb)), (.int .i64 (cb)), vb2] := op9
 refine C.spec_l04Can op1 op5 hvb hvs hva (by first | omega | assumption) (by first | omega | assumption) (by first | omega | assumption) (fun   H13    le14 => ?_)
 replace op1 := op1.le le14
 replace op5 := op5.le le14
 replace op9 := op9.le le14
 replace hvb := hvb.le le14
 replace hvs := hvs.le le14
 replace hva := hva.le le14
 replace hvb2 := hvb2.le le14
 replace lE := lE.trans le14
 refine ob_nd (fun hc15 => ?_) (fun hc15 => ?_)
 ·skip
  have hcn := hc15
  refine gop_rf ?_
  refine C.spec_l04Plain op9 hvb2 (by first | omega | assumption) ?_
  refine gop_rf ?_
  refine ob_nd (fun hc16 => ?_) (fun hc16 => ?_)
  ·skip
   have hfb := hc16
   refine ob_i (vPick_f _ _) ?_
   refine gop_rf ?_
   refine gop_rf ?_
   refine C.spec_l00In  ?_
   refine gop_rf ?_
   refine ob_nd (fun hc17 => ?_) (fun hc17 => ?_)
   ·skip
    refine ob_i (vPick_f _ _) ?_
    refine cnd_f1 ?_
    refine C.spec_l05Meet op5 op9 hva hvb2 (by exact hcn.2) (by exact hfb) (fun hc18  H19    le20 => ?_) (fun hc21 u24 H22 ou24 nn25  le23 => ?_)
    ·skip
     replace hvb := hvb.le le20
     replace hvs := hvs.le le20
     replace hva := hva.le le20
     replace hvb2 := hvb2.le le20
     replace lE := lE.trans le20
     refine ob_i (vExt_20 _ _) ?_
     refine ob_i (vExt_21 _ _) ?_
     refine nw_i (fun p26 H27 op26 nn28 le29 => ?_)
     have np26 : Nw H p26 := nn28.le lE
     replace hvb := hvb.le le29
     replace hvs := hvs.le le29
     replace hva := hva.le le29
     replace hvb2 := hvb2.le le29
     replace lE := lE.trans le29
     replace op26 : Cel H27 p26 [(.int .i64 (0)), (.int .i64 (0)), (.slice none 0 0)] := op26
     refine op26.stn (ws := [(.int .i64 (0)), (.int .i64 (0)), (.slice none 0 0)]) rfl rfl (oc1 rfl (oc1 rfl (oc1 rfl oc0))) (fun H30 op26 off31 => ?_)
     replace hvb := hvb0.le (off31.le lE np26)
     replace hvs := hvs0.le (off31.le lE np26)
     replace hva := hva0.le (off31.le lE np26)
     replace hvb2 := hvb20.le (off31.le lE np26)
     replace lE := off31.le lE np26
     replace op26 : Cel H30 p26 [(.int .i64 (0)), (.int .i64 (0)), (.slice none 0 0)] := op26
     refine ob_i (a := .bool true) rfl ?_
     refine cnd_t1 ?_
     skip
     have hok : ¬ (lifP b s ∧ metOk ra ca la rb cb lb row col ∧ groOk (max ra (row + rb)) (max ca (col + cb)) (metL0 ra ca la rb cb lb row col) st ∧ (0 ≤ st ∧ st ≤ 8) ∧ (cenN (nmL ((max ra (row + rb)) + 2 * st) ((max ca (col + cb)) + 2 * st) (rnL false b s ((max ra (row + rb)) + 2 * st) ((max ca (col + cb)) + 2 * st) (groW (max ra (row + rb)) (max ca (col + cb)) (metL0 ra ca la rb cb lb row col) st) st.toNat) (stsL ((max ca (col + cb)) + 2 * st) (rnL false b s ((max ra (row + rb)) + 2 * st) ((max ca (col + cb)) + 2 * st) (groW (max ra (row + rb)) (max ca (col + cb)) (metL0 ra ca la rb cb lb row col) st) st.toNat) ((rnL false b s ((max ra (row + rb)) + 2 * st) ((max ca (col + cb)) + 2 * st) (groW (max ra (row + rb)) (max ca (col + cb)) (metL0 ra ca la rb cb lb row col) st) st.toNat)).length))).length ≤ 64) := by intro h; obtain ⟨h1, h2, h3, h4, h5⟩ := h; first | exact absurd h1 (by assumption) | exact absurd h2 (by assumption) | exact absurd h3 (by assumption) | exact absurd h4 (by assumption) | exact absurd (show canP b s ra ca la from ⟨h1, h2.1⟩) (by assumption) | exact absurd h2.2.1 (by assumption) | exact absurd h2.2.2 (by assumption) | exact absurd (And.intro hrf h5) (by assumption) | omega
     exact keq (K := K) (by rw [decide_eq_false (show ¬ (lifP b s ∧ metOk ra ca la rb cb lb row col ∧ groOk (max ra (row + rb)) (max ca (col + cb)) (metL0 ra ca la rb cb lb row col) st ∧ (0 ≤ st ∧ st ≤ 8) ∧ (cenN (nmL ((max ra (row + rb)) + 2 * st) ((max ca (col + cb)) + 2 * st) (rnL false b s ((max ra (row + rb)) + 2 * st) ((max ca (col + cb)) + 2 * st) (groW (max ra (row + rb)) (max ca (col + cb)) (metL0 ra ca la rb cb lb row col) st) st.toNat) (stsL ((max ca (col + cb)) + 2 * st) (rnL false b s ((max ra (row + rb)) + 2 * st) ((max ca (col + cb)) + 2 * st) (groW (max ra (row + rb)) (max ca (col + cb)) (metL0 ra ca la rb cb lb row col) st) st.toNat) ((rnL false b s ((max ra (row + rb)) + 2 * st) ((max ca (col + cb)) + 2 * st) (groW (max ra (row + rb)) (max ca (col + cb)) (metL0 ra ca la rb cb lb row col) st) st.toNat)).length))).length ≤ 64) from by exact hok)]; try rfl) (hk  (.slice none 0 0) (.slice none 0 0) _ (Own.cast (show [] = selL (lifP b s ∧ metOk ra ca la rb cb lb row col ∧ groOk (max ra (row + rb)) (max ca (col + cb)) (metL0 ra ca la rb cb lb row col) st ∧ (0 ≤ st ∧ st ≤ 8) ∧ (cenN (nmL ((max ra (row + rb)) + 2 * st) ((max ca (col + cb)) + 2 * st) (rnL false b s ((max ra (row + rb)) + 2 * st) ((max ca (col + cb)) + 2 * st) (groW (max ra (row + rb)) (max ca (col + cb)) (metL0 ra ca la rb cb lb row col) st) st.toNat) (stsL ((max ca (col + cb)) + 2 * st) (rnL false b s ((max ra (row + rb)) + 2 * st) ((max ca (col + cb)) + 2 * st) (groW (max ra (row + rb)) (max ca (col + cb)) (metL0 ra ca la rb cb lb row col) st) st.toNat) ((rnL false b s ((max ra (row + rb)) + 2 * st) ((max ca (col + cb)) + 2 * st) (groW (max ra (row + rb)) (max ca (col + cb)) (metL0 ra ca la rb cb lb row col) st) st.toNat)).length))).length ≤ 64) (cenN (nmL ((max ra (row + rb)) + 2 * st) ((max ca (col + cb)) + 2 * st) (rnL false b s ((max ra (row + rb)) + 2 * st) ((max ca (col + cb)) + 2 * st) (groW (max ra (row + rb)) (max ca (col + cb)) (metL0 ra ca la rb cb lb row col) st) st.toNat) (stsL ((max ca (col + cb)) + 2 * st) (rnL false b s ((max ra (row + rb)) + 2 * st) ((max ca (col + cb)) + 2 * st) (groW (max ra (row + rb)) (max ca (col + cb)) (metL0 ra ca la rb cb lb row col) st) st.toNat) ((rnL false b s ((max ra (row + rb)) + 2 * st) ((max ca (col + cb)) + 2 * st) (groW (max ra (row + rb)) (max ca (col + cb)) (metL0 ra ca la rb cb lb row col) st) st.toNat)).length))) by exact (selL_f hok).symm) (Own.nil_of none)) (Own.cast (show [] = selL (lifP b s ∧ metOk ra ca la rb cb lb row col ∧ groOk (max ra (row + rb)) (max ca (col + cb)) (metL0 ra ca la rb cb lb row col) st ∧ (0 ≤ st ∧ st ≤ 8) ∧ (cenN (nmL ((max ra (row + rb)) + 2 * st) ((max ca (col + cb)) + 2 * st) (rnL false b s ((max ra (row + rb)) + 2 * st) ((max ca (col + cb)) + 2 * st) (groW (max ra (row + rb)) (max ca (col + cb)) (metL0 ra ca la rb cb lb row col) st) st.toNat) (stsL ((max ca (col + cb)) + 2 * st) (rnL false b s ((max ra (row + rb)) + 2 * st) ((max ca (col + cb)) + 2 * st) (groW (max ra (row + rb)) (max ca (col + cb)) (metL0 ra ca la rb cb lb row col) st) st.toNat) ((rnL false b s ((max ra (row + rb)) + 2 * st) ((max ca (col + cb)) + 2 * st) (groW (max ra (row + rb)) (max ca (col + cb)) (metL0 ra ca la rb cb lb row col) st) st.toNat)).length))).length ≤ 64) (cenC (nmL ((max ra (row + rb)) + 2 * st) ((max ca (col + cb)) + 2 * st) (rnL false b s ((max ra (row + rb)) + 2 * st) ((max ca (col + cb)) + 2 * st) (groW (max ra (row + rb)) (max ca (col + cb)) (metL0 ra ca la rb cb lb row col) st) st.toNat) (stsL ((max ca (col + cb)) + 2 * st) (rnL false b s ((max ra (row + rb)) + 2 * st) ((max ca (col + cb)) + 2 * st) (groW (max ra (row + rb)) (max ca (col + cb)) (metL0 ra ca la rb cb lb row col) st) st.toNat) ((rnL false b s ((max ra (row + rb)) + 2 * st) ((max ca (col + cb)) + 2 * st) (groW (max ra (row + rb)) (max ca (col + cb)) (metL0 ra ca la rb cb lb row col) st) st.toNat)).length))) by exact (selL_f hok).symm) (Own.nil_of none)) (fun b hb => by simp [bk] at hb) (fun b hb => by simp [bk] at hb) (fun b hb => by simp [bk] at hb) lE)
    ·skip
     have hmk : metOk ra ca la rb cb lb row col := ⟨hcn.2, hfb, hc21⟩
     have hmf := metL0_field hmk
     have lmf := fieldN_len hmf
     replace op1 := op1.le le23
     replace hvb := hvb.le le23
     replace hvs := hvs.le le23
     replace hva := hva.le le23
     replace hvb2 := hvb2.le le23
     replace lE := lE.trans le23
     refine ob_i (vExt_20 _ _) ?_
     refine ob_i (vExt_21 _ _) ?_
     refine nw_i (fun p32 H33 op32 nn34 le35 => ?_)
     have ap1Xp32 : Apart p1 p32 := op1.apart nn34
     have au24Xp32 : Apart u24 p32 := ou24.apart nn34
     have np32 : Nw H p32 := nn34.le lE
     replace op1 := op1.le le35
     replace ou24 := ou24.le le35
     replace hvb := hvb.le le35
     replace hvs := hvs.le le35
     replace hva := hva.le le35
     replace hvb2 := hvb2.le le35
     replace lE := lE.trans le35
     replace op32 : Cel H33 p32 [(.int .i64 (0)), (.int .i64 (0)), (.slice none 0 0)] := op32
     refine op32.stn (ws := [(.int .i64 (max ra (row + rb))), (.int .i64 (max ca (col + cb))), u24]) rfl rfl (oc1 rfl (oc1 rfl (oc1 ou24.one oc0))) (fun H36 op32 off37 => ?_)
     replace op1 := op1.off off37 ap1Xp32
     replace ou24 := ou24.off off37 au24Xp32
     replace hvb := hvb0.le (off37.le lE np32)
     replace hvs := hvs0.le (off37.le lE np32)
     replace hva := hva0.le (off37.le lE np32)
     replace hvb2 := hvb20.le (off37.le lE np32)
     replace lE := off37.le lE np32
     replace op32 : Cel H36 p32 [(.int .i64 (max ra (row + rb))), (.int .i64 (max ca (col + cb))), u24] := op32
     refine ob_i (a := .bool false) rfl ?_
     refine cnd_f1 ?_
     refine ob_i (op32.ldn rfl) ?_
     refine C.groS_c ou24.sl (by first | omega | assumption) (fun hc38 u41 H39 ou41 nn42  le40 => ?_) (fun hc43 u46 H44 ou46 nn47  le45 => ?_)
     ·skip
      have hgo := hc38
      have hgf := groW_field hgo
      have hrf := rnL_field (rnd := false) (b := b) (s := s) hgf st.toNat
      have lgf := fieldN_len hgf
      have lrf := fieldN_len hrf
      replace op1 := op1.le le40
      replace hvb := hvb.le le40
      replace hvs := hvs.le le40
      replace hva := hva.le le40
      replace hvb2 := hvb2.le le40
      replace lE := lE.trans le40
      refine ob_i (vExt_20 _ _) ?_
      refine ob_i (vExt_21 _ _) ?_
      refine nw_i (fun p48 H49 op48 nn50 le51 => ?_)
      have ap1Xp48 : Apart p1 p48 := op1.apart nn50
      have au41Xp48 : Apart u41 p48 := ou41.apart nn50
      have np48 : Nw H p48 := nn50.le lE
      replace op1 := op1.le le51
      replace ou41 := ou41.le le51
      replace hvb := hvb.le le51
      replace hvs := hvs.le le51
      replace hva := hva.le le51
      replace hvb2 := hvb2.le le51
      replace lE := lE.trans le51
      replace op48 : Cel H49 p48 [(.int .i64 (0)), (.int .i64 (0)), (.slice none 0 0)] := op48
      refine op48.stn (ws := [(.int .i64 ((max ra (row + rb)) + 2 * st)), (.int .i64 ((max ca (col + cb)) + 2 * st)), u41]) rfl rfl (oc1 rfl (oc1 rfl (oc1 ou41.one oc0))) (fun H52 op48 off53 => ?_)
      replace op1 := op1.off off53 ap1Xp48
      replace ou41 := ou41.off off53 au41Xp48
      replace hvb := hvb0.le (off53.le lE np48)
      replace hvs := hvs0.le (off53.le lE np48)
      replace hva := hva0.le (off53.le lE np48)
      replace hvb2 := hvb20.le (off53.le lE np48)
      replace lE := off53.le lE np48
      replace op48 : Cel H52 p48 [(.int .i64 ((max ra (row + rb)) + 2 * st)), (.int .i64 ((max ca (col + cb)) + 2 * st)), u41] := op48
      refine ob_i (a := .bool false) rfl ?_
      refine cnd_f1 ?_
      refine C.spec_l04Run op1 op48 hvb hvs ou41.sl (by exact hgf) (by first | omega | assumption) (by first | omega | assumption) (by first | omega | assumption) (by first | omega | assumption) (fun  u56 H54 ou56 nn57  le55 => ?_)
      replace hvb := hvb.le le55
      replace hvs := hvs.le le55
      replace hva := hva.le le55
      replace hvb2 := hvb2.le le55
      replace lE := lE.trans le55
      refine nw_i (fun p58 H59 op58 nn60 le61 => ?_)
      have au56Xp58 : Apart u56 p58 := ou56.apart nn60
      have np58 : Nw H p58 := nn60.le lE
      replace ou56 := ou56.le le61
      replace hvb := hvb.le le61
      replace hvs := hvs.le le61
      replace hva := hva.le le61
      replace hvb2 := hvb2.le le61
      replace lE := lE.trans le61
      replace op58 : Cel H59 p58 [(.int .i64 (0)), (.int .i64 (0)), (.slice none 0 0)] := op58
      refine op58.stn (ws := [(.int .i64 (((max ra (row + rb)) + 2 * st))), (.int .i64 (((max ca (col + cb)) + 2 * st))), u56]) rfl rfl (oc1 rfl (oc1 rfl (oc1 ou56.one oc0))) (fun H62 op58 off63 => ?_)
      replace ou56 := ou56.off off63 au56Xp58
      replace hvb := hvb0.le (off63.le lE np58)
      replace hvs := hvs0.le (off63.le lE np58)
      replace hva := hva0.le (off63.le lE np58)
      replace hvb2 := hvb20.le (off63.le lE np58)
      replace lE := off63.le lE np58
      replace op58 : Cel H62 p58 [(.int .i64 (((max ra (row + rb)) + 2 * st))), (.int .i64 (((max ca (col + cb)) + 2 * st))), u56] := op58
      refine C.spec_l05Census op58 ou56.sl (by exact hrf) (fun  u66 u67 H64 ou66 ou67 nn68 nn69 au66Xu67 le65 => ?_)
      have nu66 : Nw H u66 := nn68.le lE
      have nu67 : Nw H u67 := nn69.le lE
      replace lE := lE.trans le65
      refine ob_i (vExt_30 _ _ _) ?_
      refine ob_i (vExt_31 _ _ _) ?_
      refine ob_i (vExt_32 _ _ _) ?_
      refine ob_nd (fun hc70 => ?_) (fun hc70 => ?_)
      ·skip
       refine cnd_f1 ?_
       skip
       have hok : lifP b s ∧ metOk ra ca la rb cb lb row col ∧ groOk (max ra (row + rb)) (max ca (col + cb)) (metL0 ra ca la rb cb lb row col) st ∧ (0 ≤ st ∧ st ≤ 8) ∧ (cenN (nmL ((max ra (row + rb)) + 2 * st) ((max ca (col + cb)) + 2 * st) (rnL false b s ((max ra (row + rb)) + 2 * st) ((max ca (col + cb)) + 2 * st) (groW (max ra (row + rb)) (max ca (col + cb)) (metL0 ra ca la rb cb lb row col) st) st.toNat) (stsL ((max ca (col + cb)) + 2 * st) (rnL false b s ((max ra (row + rb)) + 2 * st) ((max ca (col + cb)) + 2 * st) (groW (max ra (row + rb)) (max ca (col + cb)) (metL0 ra ca la rb cb lb row col) st) st.toNat) ((rnL false b s ((max ra (row + rb)) + 2 * st) ((max ca (col + cb)) + 2 * st) (groW (max ra (row + rb)) (max ca (col + cb)) (metL0 ra ca la rb cb lb row col) st) st.toNat)).length))).length ≤ 64 := by first | exact ⟨by assumption, hmk, hgo, by assumption, (by assumption : _ ∧ _).2⟩ | exact ⟨hcn.1, hmk, hgo, by assumption, by omega⟩
       exact keq (K := K) (by rw [decide_eq_true (show (lifP b s ∧ metOk ra ca la rb cb lb row col ∧ groOk (max ra (row + rb)) (max ca (col + cb)) (metL0 ra ca la rb cb lb row col) st ∧ (0 ≤ st ∧ st ≤ 8) ∧ (cenN (nmL ((max ra (row + rb)) + 2 * st) ((max ca (col + cb)) + 2 * st) (rnL false b s ((max ra (row + rb)) + 2 * st) ((max ca (col + cb)) + 2 * st) (groW (max ra (row + rb)) (max ca (col + cb)) (metL0 ra ca la rb cb lb row col) st) st.toNat) (stsL ((max ca (col + cb)) + 2 * st) (rnL false b s ((max ra (row + rb)) + 2 * st) ((max ca (col + cb)) + 2 * st) (groW (max ra (row + rb)) (max ca (col + cb)) (metL0 ra ca la rb cb lb row col) st) st.toNat) ((rnL false b s ((max ra (row + rb)) + 2 * st) ((max ca (col + cb)) + 2 * st) (groW (max ra (row + rb)) (max ca (col + cb)) (metL0 ra ca la rb cb lb row col) st) st.toNat)).length))).length ≤ 64) from by exact hok)]; try rfl) (hk  u66 u67 _ (Own.cast (show cenN (nmL (((max ra (row + rb)) + 2 * st)) (((max ca (col + cb)) + 2 * st)) (rnL false b s ((max ra (row + rb)) + 2 * st) ((max ca (col + cb)) + 2 * st) (groW (max ra (row + rb)) (max ca (col + cb)) (metL0 ra ca la rb cb lb row col) st) st.toNat) (stsL (((max ca (col + cb)) + 2 * st)) (rnL false b s ((max ra (row + rb)) + 2 * st) ((max ca (col + cb)) + 2 * st) (groW (max ra (row + rb)) (max ca (col + cb)) (metL0 ra ca la rb cb lb row col) st) st.toNat) ((rnL false b s ((max ra (row + rb)) + 2 * st) ((max ca (col + cb)) + 2 * st) (groW (max ra (row + rb)) (max ca (col + cb)) (metL0 ra ca la rb cb lb row col) st) st.toNat)).length)) = selL (lifP b s ∧ metOk ra ca la rb cb lb row col ∧ groOk (max ra (row + rb)) (max ca (col + cb)) (metL0 ra ca la rb cb lb row col) st ∧ (0 ≤ st ∧ st ≤ 8) ∧ (cenN (nmL ((max ra (row + rb)) + 2 * st) ((max ca (col + cb)) + 2 * st) (rnL false b s ((max ra (row + rb)) + 2 * st) ((max ca (col + cb)) + 2 * st) (groW (max ra (row + rb)) (max ca (col + cb)) (metL0 ra ca la rb cb lb row col) st) st.toNat) (stsL ((max ca (col + cb)) + 2 * st) (rnL false b s ((max ra (row + rb)) + 2 * st) ((max ca (col + cb)) + 2 * st) (groW (max ra (row + rb)) (max ca (col + cb)) (metL0 ra ca la rb cb lb row col) st) st.toNat) ((rnL false b s ((max ra (row + rb)) + 2 * st) ((max ca (col + cb)) + 2 * st) (groW (max ra (row + rb)) (max ca (col + cb)) (metL0 ra ca la rb cb lb row col) st) st.toNat)).length))).length ≤ 64) (cenN (nmL ((max ra (row + rb)) + 2 * st) ((max ca (col + cb)) + 2 * st) (rnL false b s ((max ra (row + rb)) + 2 * st) ((max ca (col + cb)) + 2 * st) (groW (max ra (row + rb)) (max ca (col + cb)) (metL0 ra ca la rb cb lb row col) st) st.toNat) (stsL ((max ca (col + cb)) + 2 * st) (rnL false b s ((max ra (row + rb)) + 2 * st) ((max ca (col + cb)) + 2 * st) (groW (max ra (row + rb)) (max ca (col + cb)) (metL0 ra ca la rb cb lb row col) st) st.toNat) ((rnL false b s ((max ra (row + rb)) + 2 * st) ((max ca (col + cb)) + 2 * st) (groW (max ra (row + rb)) (max ca (col + cb)) (metL0 ra ca la rb cb lb row col) st) st.toNat)).length))) by first | exact (selL_t hok).symm | exact (selL_f hok).symm) ou66) (Own.cast (show cenC (nmL (((max ra (row + rb)) + 2 * st)) (((max ca (col + cb)) + 2 * st)) (rnL false b s ((max ra (row + rb)) + 2 * st) ((max ca (col + cb)) + 2 * st) (groW (max ra (row + rb)) (max ca (col + cb)) (metL0 ra ca la rb cb lb row col) st) st.toNat) (stsL (((max ca (col + cb)) + 2 * st)) (rnL false b s ((max ra (row + rb)) + 2 * st) ((max ca (col + cb)) + 2 * st) (groW (max ra (row + rb)) (max ca (col + cb)) (metL0 ra ca la rb cb lb row col) st) st.toNat) ((rnL false b s ((max ra (row + rb)) + 2 * st) ((max ca (col + cb)) + 2 * st) (groW (max ra (row + rb)) (max ca (col + cb)) (metL0 ra ca la rb cb lb row col) st) st.toNat)).length)) = selL (lifP b s ∧ metOk ra ca la rb cb lb row col ∧ groOk (max ra (row + rb)) (max ca (col + cb)) (metL0 ra ca la rb cb lb row col) st ∧ (0 ≤ st ∧ st ≤ 8) ∧ (cenN (nmL ((max ra (row + rb)) + 2 * st) ((max ca (col + cb)) + 2 * st) (rnL false b s ((max ra (row + rb)) + 2 * st) ((max ca (col + cb)) + 2 * st) (groW (max ra (row + rb)) (max ca (col + cb)) (metL0 ra ca la rb cb lb row col) st) st.toNat) (stsL ((max ca (col + cb)) + 2 * st) (rnL false b s ((max ra (row + rb)) + 2 * st) ((max ca (col + cb)) + 2 * st) (groW (max ra (row + rb)) (max ca (col + cb)) (metL0 ra ca la rb cb lb row col) st) st.toNat) ((rnL false b s ((max ra (row + rb)) + 2 * st) ((max ca (col + cb)) + 2 * st) (groW (max ra (row + rb)) (max ca (col + cb)) (metL0 ra ca la rb cb lb row col) st) st.toNat)).length))).length ≤ 64) (cenC (nmL ((max ra (row + rb)) + 2 * st) ((max ca (col + cb)) + 2 * st) (rnL false b s ((max ra (row + rb)) + 2 * st) ((max ca (col + cb)) + 2 * st) (groW (max ra (row + rb)) (max ca (col + cb)) (metL0 ra ca la rb cb lb row col) st) st.toNat) (stsL ((max ca (col + cb)) + 2 * st) (rnL false b s ((max ra (row + rb)) + 2 * st) ((max ca (col + cb)) + 2 * st) (groW (max ra (row + rb)) (max ca (col + cb)) (metL0 ra ca la rb cb lb row col) st) st.toNat) ((rnL false b s ((max ra (row + rb)) + 2 * st) ((max ca (col + cb)) + 2 * st) (groW (max ra (row + rb)) (max ca (col + cb)) (metL0 ra ca la rb cb lb row col) st) st.toNat)).length))) by first | exact (selL_t hok).symm | exact (selL_f hok).symm) ou67) nu66 nu67 au66Xu67 lE)
      ·skip
       refine cnd_t1 ?_
       skip
       have hok : ¬ (lifP b s ∧ metOk ra ca la rb cb lb row col ∧ groOk (max ra (row + rb)) (max ca (col + cb)) (metL0 ra ca la rb cb lb row col) st ∧ (0 ≤ st ∧ st ≤ 8) ∧ (cenN (nmL ((max ra (row + rb)) + 2 * st) ((max ca (col + cb)) + 2 * st) (rnL false b s ((max ra (row + rb)) + 2 * st) ((max ca (col + cb)) + 2 * st) (groW (max ra (row + rb)) (max ca (col + cb)) (metL0 ra ca la rb cb lb row col) st) st.toNat) (stsL ((max ca (col + cb)) + 2 * st) (rnL false b s ((max ra (row + rb)) + 2 * st) ((max ca (col + cb)) + 2 * st) (groW (max ra (row + rb)) (max ca (col + cb)) (metL0 ra ca la rb cb lb row col) st) st.toNat) ((rnL false b s ((max ra (row + rb)) + 2 * st) ((max ca (col + cb)) + 2 * st) (groW (max ra (row + rb)) (max ca (col + cb)) (metL0 ra ca la rb cb lb row col) st) st.toNat)).length))).length ≤ 64) := by intro h; obtain ⟨h1, h2, h3, h4, h5⟩ := h; first | exact absurd h1 (by assumption) | exact absurd h2 (by assumption) | exact absurd h3 (by assumption) | exact absurd h4 (by assumption) | exact absurd (show canP b s ra ca la from ⟨h1, h2.1⟩) (by assumption) | exact absurd h2.2.1 (by assumption) | exact absurd h2.2.2 (by assumption) | exact absurd (And.intro hrf h5) (by assumption) | omega
       exact keq (K := K) (by rw [decide_eq_false (show ¬ (lifP b s ∧ metOk ra ca la rb cb lb row col ∧ groOk (max ra (row + rb)) (max ca (col + cb)) (metL0 ra ca la rb cb lb row col) st ∧ (0 ≤ st ∧ st ≤ 8) ∧ (cenN (nmL ((max ra (row + rb)) + 2 * st) ((max ca (col + cb)) + 2 * st) (rnL false b s ((max ra (row + rb)) + 2 * st) ((max ca (col + cb)) + 2 * st) (groW (max ra (row + rb)) (max ca (col + cb)) (metL0 ra ca la rb cb lb row col) st) st.toNat) (stsL ((max ca (col + cb)) + 2 * st) (rnL false b s ((max ra (row + rb)) + 2 * st) ((max ca (col + cb)) + 2 * st) (groW (max ra (row + rb)) (max ca (col + cb)) (metL0 ra ca la rb cb lb row col) st) st.toNat) ((rnL false b s ((max ra (row + rb)) + 2 * st) ((max ca (col + cb)) + 2 * st) (groW (max ra (row + rb)) (max ca (col + cb)) (metL0 ra ca la rb cb lb row col) st) st.toNat)).length))).length ≤ 64) from by exact hok)]; try rfl) (hk  (.slice none 0 0) (.slice none 0 0) _ (Own.cast (show [] = selL (lifP b s ∧ metOk ra ca la rb cb lb row col ∧ groOk (max ra (row + rb)) (max ca (col + cb)) (metL0 ra ca la rb cb lb row col) st ∧ (0 ≤ st ∧ st ≤ 8) ∧ (cenN (nmL ((max ra (row + rb)) + 2 * st) ((max ca (col + cb)) + 2 * st) (rnL false b s ((max ra (row + rb)) + 2 * st) ((max ca (col + cb)) + 2 * st) (groW (max ra (row + rb)) (max ca (col + cb)) (metL0 ra ca la rb cb lb row col) st) st.toNat) (stsL ((max ca (col + cb)) + 2 * st) (rnL false b s ((max ra (row + rb)) + 2 * st) ((max ca (col + cb)) + 2 * st) (groW (max ra (row + rb)) (max ca (col + cb)) (metL0 ra ca la rb cb lb row col) st) st.toNat) ((rnL false b s ((max ra (row + rb)) + 2 * st) ((max ca (col + cb)) + 2 * st) (groW (max ra (row + rb)) (max ca (col + cb)) (metL0 ra ca la rb cb lb row col) st) st.toNat)).length))).length ≤ 64) (cenN (nmL ((max ra (row + rb)) + 2 * st) ((max ca (col + cb)) + 2 * st) (rnL false b s ((max ra (row + rb)) + 2 * st) ((max ca (col + cb)) + 2 * st) (groW (max ra (row + rb)) (max ca (col + cb)) (metL0 ra ca la rb cb lb row col) st) st.toNat) (stsL ((max ca (col + cb)) + 2 * st) (rnL false b s ((max ra (row + rb)) + 2 * st) ((max ca (col + cb)) + 2 * st) (groW (max ra (row + rb)) (max ca (col + cb)) (metL0 ra ca la rb cb lb row col) st) st.toNat) ((rnL false b s ((max ra (row + rb)) + 2 * st) ((max ca (col + cb)) + 2 * st) (groW (max ra (row + rb)) (max ca (col + cb)) (metL0 ra ca la rb cb lb row col) st) st.toNat)).length))) by exact (selL_f hok).symm) (Own.nil_of none)) (Own.cast (show [] = selL (lifP b s ∧ metOk ra ca la rb cb lb row col ∧ groOk (max ra (row + rb)) (max ca (col + cb)) (metL0 ra ca la rb cb lb row col) st ∧ (0 ≤ st ∧ st ≤ 8) ∧ (cenN (nmL ((max ra (row + rb)) + 2 * st) ((max ca (col + cb)) + 2 * st) (rnL false b s ((max ra (row + rb)) + 2 * st) ((max ca (col + cb)) + 2 * st) (groW (max ra (row + rb)) (max ca (col + cb)) (metL0 ra ca la rb cb lb row col) st) st.toNat) (stsL ((max ca (col + cb)) + 2 * st) (rnL false b s ((max ra (row + rb)) + 2 * st) ((max ca (col + cb)) + 2 * st) (groW (max ra (row + rb)) (max ca (col + cb)) (metL0 ra ca la rb cb lb row col) st) st.toNat) ((rnL false b s ((max ra (row + rb)) + 2 * st) ((max ca (col + cb)) + 2 * st) (groW (max ra (row + rb)) (max ca (col + cb)) (metL0 ra ca la rb cb lb row col) st) st.toNat)).length))).length ≤ 64) (cenC (nmL ((max ra (row + rb)) + 2 * st) ((max ca (col + cb)) + 2 * st) (rnL false b s ((max ra (row + rb)) + 2 * st) ((max ca (col + cb)) + 2 * st) (groW (max ra (row + rb)) (max ca (col + cb)) (metL0 ra ca la rb cb lb row col) st) st.toNat) (stsL ((max ca (col + cb)) + 2 * st) (rnL false b s ((max ra (row + rb)) + 2 * st) ((max ca (col + cb)) + 2 * st) (groW (max ra (row + rb)) (max ca (col + cb)) (metL0 ra ca la rb cb lb row col) st) st.toNat) ((rnL false b s ((max ra (row + rb)) + 2 * st) ((max ca (col + cb)) + 2 * st) (groW (max ra (row + rb)) (max ca (col + cb)) (metL0 ra ca la rb cb lb row col) st) st.toNat)).length))) by exact (selL_f hok).symm) (Own.nil_of none)) (fun b hb => by simp [bk] at hb) (fun b hb => by simp [bk] at hb) (fun b hb => by simp [bk] at hb) lE)
     ·skip
      replace hvb := hvb.le le45
      replace hvs := hvs.le le45
      replace hva := hva.le le45
      replace hvb2 := hvb2.le le45
      replace lE := lE.trans le45
      refine ob_i (vExt_20 _ _) ?_
      refine ob_i (vExt_21 _ _) ?_
      refine nw_i (fun p71 H72 op71 nn73 le74 => ?_)
      have np71 : Nw H p71 := nn73.le lE
      replace ou46 := ou46.le le74
      replace hvb := hvb.le le74
      replace hvs := hvs.le le74
      replace hva := hva.le le74
      replace hvb2 := hvb2.le le74
      replace lE := lE.trans le74
      replace op71 : Cel H72 p71 [(.int .i64 (0)), (.int .i64 (0)), (.slice none 0 0)] := op71
      refine op71.stn (ws := [(.int .i64 (0)), (.int .i64 (0)), u46]) rfl rfl (oc1 rfl (oc1 rfl (oc1 ou46.one oc0))) (fun H75 op71 off76 => ?_)
      replace hvb := hvb0.le (off76.le lE np71)
      replace hvs := hvs0.le (off76.le lE np71)
      replace hva := hva0.le (off76.le lE np71)
      replace hvb2 := hvb20.le (off76.le lE np71)
      replace lE := off76.le lE np71
      replace op71 : Cel H75 p71 [(.int .i64 (0)), (.int .i64 (0)), u46] := op71
      refine ob_i (a := .bool true) rfl ?_
      refine cnd_t1 ?_
      skip
      have hok : ¬ (lifP b s ∧ metOk ra ca la rb cb lb row col ∧ groOk (max ra (row + rb)) (max ca (col + cb)) (metL0 ra ca la rb cb lb row col) st ∧ (0 ≤ st ∧ st ≤ 8) ∧ (cenN (nmL ((max ra (row + rb)) + 2 * st) ((max ca (col + cb)) + 2 * st) (rnL false b s ((max ra (row + rb)) + 2 * st) ((max ca (col + cb)) + 2 * st) (groW (max ra (row + rb)) (max ca (col + cb)) (metL0 ra ca la rb cb lb row col) st) st.toNat) (stsL ((max ca (col + cb)) + 2 * st) (rnL false b s ((max ra (row + rb)) + 2 * st) ((max ca (col + cb)) + 2 * st) (groW (max ra (row + rb)) (max ca (col + cb)) (metL0 ra ca la rb cb lb row col) st) st.toNat) ((rnL false b s ((max ra (row + rb)) + 2 * st) ((max ca (col + cb)) + 2 * st) (groW (max ra (row + rb)) (max ca (col + cb)) (metL0 ra ca la rb cb lb row col) st) st.toNat)).length))).length ≤ 64) := by intro h; obtain ⟨h1, h2, h3, h4, h5⟩ := h; first | exact absurd h1 (by assumption) | exact absurd h2 (by assumption) | exact absurd h3 (by assumption) | exact absurd h4 (by assumption) | exact absurd (show canP b s ra ca la from ⟨h1, h2.1⟩) (by assumption) | exact absurd h2.2.1 (by assumption) | exact absurd h2.2.2 (by assumption) | exact absurd (And.intro hrf h5) (by assumption) | omega
      exact keq (K := K) (by rw [decide_eq_false (show ¬ (lifP b s ∧ metOk ra ca la rb cb lb row col ∧ groOk (max ra (row + rb)) (max ca (col + cb)) (metL0 ra ca la rb cb lb row col) st ∧ (0 ≤ st ∧ st ≤ 8) ∧ (cenN (nmL ((max ra (row + rb)) + 2 * st) ((max ca (col + cb)) + 2 * st) (rnL false b s ((max ra (row + rb)) + 2 * st) ((max ca (col + cb)) + 2 * st) (groW (max ra (row + rb)) (max ca (col + cb)) (metL0 ra ca la rb cb lb row col) st) st.toNat) (stsL ((max ca (col + cb)) + 2 * st) (rnL false b s ((max ra (row + rb)) + 2 * st) ((max ca (col + cb)) + 2 * st) (groW (max ra (row + rb)) (max ca (col + cb)) (metL0 ra ca la rb cb lb row col) st) st.toNat) ((rnL false b s ((max ra (row + rb)) + 2 * st) ((max ca (col + cb)) + 2 * st) (groW (max ra (row + rb)) (max ca (col + cb)) (metL0 ra ca la rb cb lb row col) st) st.toNat)).length))).length ≤ 64) from by exact hok)]; try rfl) (hk  (.slice none 0 0) (.slice none 0 0) _ (Own.cast (show [] = selL (lifP b s ∧ metOk ra ca la rb cb lb row col ∧ groOk (max ra (row + rb)) (max ca (col + cb)) (metL0 ra ca la rb cb lb row col) st ∧ (0 ≤ st ∧ st ≤ 8) ∧ (cenN (nmL ((max ra (row + rb)) + 2 * st) ((max ca (col + cb)) + 2 * st) (rnL false b s ((max ra (row + rb)) + 2 * st) ((max ca (col + cb)) + 2 * st) (groW (max ra (row + rb)) (max ca (col + cb)) (metL0 ra ca la rb cb lb row col) st) st.toNat) (stsL ((max ca (col + cb)) + 2 * st) (rnL false b s ((max ra (row + rb)) + 2 * st) ((max ca (col + cb)) + 2 * st) (groW (max ra (row + rb)) (max ca (col + cb)) (metL0 ra ca la rb cb lb row col) st) st.toNat) ((rnL false b s ((max ra (row + rb)) + 2 * st) ((max ca (col + cb)) + 2 * st) (groW (max ra (row + rb)) (max ca (col + cb)) (metL0 ra ca la rb cb lb row col) st) st.toNat)).length))).length ≤ 64) (cenN (nmL ((max ra (row + rb)) + 2 * st) ((max ca (col + cb)) + 2 * st) (rnL false b s ((max ra (row + rb)) + 2 * st) ((max ca (col + cb)) + 2 * st) (groW (max ra (row + rb)) (max ca (col + cb)) (metL0 ra ca la rb cb lb row col) st) st.toNat) (stsL ((max ca (col + cb)) + 2 * st) (rnL false b s ((max ra (row + rb)) + 2 * st) ((max ca (col + cb)) + 2 * st) (groW (max ra (row + rb)) (max ca (col + cb)) (metL0 ra ca la rb cb lb row col) st) st.toNat) ((rnL false b s ((max ra (row + rb)) + 2 * st) ((max ca (col + cb)) + 2 * st) (groW (max ra (row + rb)) (max ca (col + cb)) (metL0 ra ca la rb cb lb row col) st) st.toNat)).length))) by exact (selL_f hok).symm) (Own.nil_of none)) (Own.cast (show [] = selL (lifP b s ∧ metOk ra ca la rb cb lb row col ∧ groOk (max ra (row + rb)) (max ca (col + cb)) (metL0 ra ca la rb cb lb row col) st ∧ (0 ≤ st ∧ st ≤ 8) ∧ (cenN (nmL ((max ra (row + rb)) + 2 * st) ((max ca (col + cb)) + 2 * st) (rnL false b s ((max ra (row + rb)) + 2 * st) ((max ca (col + cb)) + 2 * st) (groW (max ra (row + rb)) (max ca (col + cb)) (metL0 ra ca la rb cb lb row col) st) st.toNat) (stsL ((max ca (col + cb)) + 2 * st) (rnL false b s ((max ra (row + rb)) + 2 * st) ((max ca (col + cb)) + 2 * st) (groW (max ra (row + rb)) (max ca (col + cb)) (metL0 ra ca la rb cb lb row col) st) st.toNat) ((rnL false b s ((max ra (row + rb)) + 2 * st) ((max ca (col + cb)) + 2 * st) (groW (max ra (row + rb)) (max ca (col + cb)) (metL0 ra ca la rb cb lb row col) st) st.toNat)).length))).length ≤ 64) (cenC (nmL ((max ra (row + rb)) + 2 * st) ((max ca (col + cb)) + 2 * st) (rnL false b s ((max ra (row + rb)) + 2 * st) ((max ca (col + cb)) + 2 * st) (groW (max ra (row + rb)) (max ca (col + cb)) (metL0 ra ca la rb cb lb row col) st) st.toNat) (stsL ((max ca (col + cb)) + 2 * st) (rnL false b s ((max ra (row + rb)) + 2 * st) ((max ca (col + cb)) + 2 * st) (groW (max ra (row + rb)) (max ca (col + cb)) (metL0 ra ca la rb cb lb row col) st) st.toNat) ((rnL false b s ((max ra (row + rb)) + 2 * st) ((max ca (col + cb)) + 2 * st) (groW (max ra (row + rb)) (max ca (col + cb)) (metL0 ra ca la rb cb lb row col) st) st.toNat)).length))) by exact (selL_f hok).symm) (Own.nil_of none)) (fun b hb => by simp [bk] at hb) (fun b hb => by simp [bk] at hb) (fun b hb => by simp [bk] at hb) lE)
   ·skip
    refine ob_i (vPick_f _ _) ?_
    refine cnd_t1 ?_
    skip
    have hok : ¬ (lifP b s ∧ metOk ra ca la rb cb lb row col ∧ groOk (max ra (row + rb)) (max ca (col + cb)) (metL0 ra ca la rb cb lb row col) st ∧ (0 ≤ st ∧ st ≤ 8) ∧ (cenN (nmL ((max ra (row + rb)) + 2 * st) ((max ca (col + cb)) + 2 * st) (rnL false b s ((max ra (row + rb)) + 2 * st) ((max ca (col + cb)) + 2 * st) (groW (max ra (row + rb)) (max ca (col + cb)) (metL0 ra ca la rb cb lb row col) st) st.toNat) (stsL ((max ca (col + cb)) + 2 * st) (rnL false b s ((max ra (row + rb)) + 2 * st) ((max ca (col + cb)) + 2 * st) (groW (max ra (row + rb)) (max ca (col + cb)) (metL0 ra ca la rb cb lb row col) st) st.toNat) ((rnL false b s ((max ra (row + rb)) + 2 * st) ((max ca (col + cb)) + 2 * st) (groW (max ra (row + rb)) (max ca (col + cb)) (metL0 ra ca la rb cb lb row col) st) st.toNat)).length))).length ≤ 64) := by intro h; obtain ⟨h1, h2, h3, h4, h5⟩ := h; first | exact absurd h1 (by assumption) | exact absurd h2 (by assumption) | exact absurd h3 (by assumption) | exact absurd h4 (by assumption) | exact absurd (show canP b s ra ca la from ⟨h1, h2.1⟩) (by assumption) | exact absurd h2.2.1 (by assumption) | exact absurd h2.2.2 (by assumption) | exact absurd (And.intro hrf h5) (by assumption) | omega
    exact keq (K := K) (by rw [decide_eq_false (show ¬ (lifP b s ∧ metOk ra ca la rb cb lb row col ∧ groOk (max ra (row + rb)) (max ca (col + cb)) (metL0 ra ca la rb cb lb row col) st ∧ (0 ≤ st ∧ st ≤ 8) ∧ (cenN (nmL ((max ra (row + rb)) + 2 * st) ((max ca (col + cb)) + 2 * st) (rnL false b s ((max ra (row + rb)) + 2 * st) ((max ca (col + cb)) + 2 * st) (groW (max ra (row + rb)) (max ca (col + cb)) (metL0 ra ca la rb cb lb row col) st) st.toNat) (stsL ((max ca (col + cb)) + 2 * st) (rnL false b s ((max ra (row + rb)) + 2 * st) ((max ca (col + cb)) + 2 * st) (groW (max ra (row + rb)) (max ca (col + cb)) (metL0 ra ca la rb cb lb row col) st) st.toNat) ((rnL false b s ((max ra (row + rb)) + 2 * st) ((max ca (col + cb)) + 2 * st) (groW (max ra (row + rb)) (max ca (col + cb)) (metL0 ra ca la rb cb lb row col) st) st.toNat)).length))).length ≤ 64) from by exact hok)]; try rfl) (hk  (.slice none 0 0) (.slice none 0 0) _ (Own.cast (show [] = selL (lifP b s ∧ metOk ra ca la rb cb lb row col ∧ groOk (max ra (row + rb)) (max ca (col + cb)) (metL0 ra ca la rb cb lb row col) st ∧ (0 ≤ st ∧ st ≤ 8) ∧ (cenN (nmL ((max ra (row + rb)) + 2 * st) ((max ca (col + cb)) + 2 * st) (rnL false b s ((max ra (row + rb)) + 2 * st) ((max ca (col + cb)) + 2 * st) (groW (max ra (row + rb)) (max ca (col + cb)) (metL0 ra ca la rb cb lb row col) st) st.toNat) (stsL ((max ca (col + cb)) + 2 * st) (rnL false b s ((max ra (row + rb)) + 2 * st) ((max ca (col + cb)) + 2 * st) (groW (max ra (row + rb)) (max ca (col + cb)) (metL0 ra ca la rb cb lb row col) st) st.toNat) ((rnL false b s ((max ra (row + rb)) + 2 * st) ((max ca (col + cb)) + 2 * st) (groW (max ra (row + rb)) (max ca (col + cb)) (metL0 ra ca la rb cb lb row col) st) st.toNat)).length))).length ≤ 64) (cenN (nmL ((max ra (row + rb)) + 2 * st) ((max ca (col + cb)) + 2 * st) (rnL false b s ((max ra (row + rb)) + 2 * st) ((max ca (col + cb)) + 2 * st) (groW (max ra (row + rb)) (max ca (col + cb)) (metL0 ra ca la rb cb lb row col) st) st.toNat) (stsL ((max ca (col + cb)) + 2 * st) (rnL false b s ((max ra (row + rb)) + 2 * st) ((max ca (col + cb)) + 2 * st) (groW (max ra (row + rb)) (max ca (col + cb)) (metL0 ra ca la rb cb lb row col) st) st.toNat) ((rnL false b s ((max ra (row + rb)) + 2 * st) ((max ca (col + cb)) + 2 * st) (groW (max ra (row + rb)) (max ca (col + cb)) (metL0 ra ca la rb cb lb row col) st) st.toNat)).length))) by exact (selL_f hok).symm) (Own.nil_of none)) (Own.cast (show [] = selL (lifP b s ∧ metOk ra ca la rb cb lb row col ∧ groOk (max ra (row + rb)) (max ca (col + cb)) (metL0 ra ca la rb cb lb row col) st ∧ (0 ≤ st ∧ st ≤ 8) ∧ (cenN (nmL ((max ra (row + rb)) + 2 * st) ((max ca (col + cb)) + 2 * st) (rnL false b s ((max ra (row + rb)) + 2 * st) ((max ca (col + cb)) + 2 * st) (groW (max ra (row + rb)) (max ca (col + cb)) (metL0 ra ca la rb cb lb row col) st) st.toNat) (stsL ((max ca (col + cb)) + 2 * st) (rnL false b s ((max ra (row + rb)) + 2 * st) ((max ca (col + cb)) + 2 * st) (groW (max ra (row + rb)) (max ca (col + cb)) (metL0 ra ca la rb cb lb row col) st) st.toNat) ((rnL false b s ((max ra (row + rb)) + 2 * st) ((max ca (col + cb)) + 2 * st) (groW (max ra (row + rb)) (max ca (col + cb)) (metL0 ra ca la rb cb lb row col) st) st.toNat)).length))).length ≤ 64) (cenC (nmL ((max ra (row + rb)) + 2 * st) ((max ca (col + cb)) + 2 * st) (rnL false b s ((max ra (row + rb)) + 2 * st) ((max ca (col + cb)) + 2 * st) (groW (max ra (row + rb)) (max ca (col + cb)) (metL0 ra ca la rb cb lb row col) st) st.toNat) (stsL ((max ca (col + cb)) + 2 * st) (rnL false b s ((max ra (row + rb)) + 2 * st) ((max ca (col + cb)) + 2 * st) (groW (max ra (row + rb)) (max ca (col + cb)) (metL0 ra ca la rb cb lb row col) st) st.toNat) ((rnL false b s ((max ra (row + rb)) + 2 * st) ((max ca (col + cb)) + 2 * st) (groW (max ra (row + rb)) (max ca (col + cb)) (metL0 ra ca la rb cb lb row col) st) st.toNat)).length))) by exact (selL_f hok).symm) (Own.nil_of none)) (fun b hb => by simp [bk] at hb) (fun b hb => by simp [bk] at hb) (fun b hb => by simp [bk] at hb) lE)
  ·skip
   refine ob_i (vPick_f _ _) ?_
   refine gop_st ?_
   refine gop_st ?_
   refine gop_st ?_
   refine ob_i (vPick_t _ _) ?_
   refine cnd_t1 ?_
   skip
   have hok : ¬ (lifP b s ∧ metOk ra ca la rb cb lb row col ∧ groOk (max ra (row + rb)) (max ca (col + cb)) (metL0 ra ca la rb cb lb row col) st ∧ (0 ≤ st ∧ st ≤ 8) ∧ (cenN (nmL ((max ra (row + rb)) + 2 * st) ((max ca (col + cb)) + 2 * st) (rnL false b s ((max ra (row + rb)) + 2 * st) ((max ca (col + cb)) + 2 * st) (groW (max ra (row + rb)) (max ca (col + cb)) (metL0 ra ca la rb cb lb row col) st) st.toNat) (stsL ((max ca (col + cb)) + 2 * st) (rnL false b s ((max ra (row + rb)) + 2 * st) ((max ca (col + cb)) + 2 * st) (groW (max ra (row + rb)) (max ca (col + cb)) (metL0 ra ca la rb cb lb row col) st) st.toNat) ((rnL false b s ((max ra (row + rb)) + 2 * st) ((max ca (col + cb)) + 2 * st) (groW (max ra (row + rb)) (max ca (col + cb)) (metL0 ra ca la rb cb lb row col) st) st.toNat)).length))).length ≤ 64) := by intro h; obtain ⟨h1, h2, h3, h4, h5⟩ := h; first | exact absurd h1 (by assumption) | exact absurd h2 (by assumption) | exact absurd h3 (by assumption) | exact absurd h4 (by assumption) | exact absurd (show canP b s ra ca la from ⟨h1, h2.1⟩) (by assumption) | exact absurd h2.2.1 (by assumption) | exact absurd h2.2.2 (by assumption) | exact absurd (And.intro hrf h5) (by assumption) | omega
   exact keq (K := K) (by rw [decide_eq_false (show ¬ (lifP b s ∧ metOk ra ca la rb cb lb row col ∧ groOk (max ra (row + rb)) (max ca (col + cb)) (metL0 ra ca la rb cb lb row col) st ∧ (0 ≤ st ∧ st ≤ 8) ∧ (cenN (nmL ((max ra (row + rb)) + 2 * st) ((max ca (col + cb)) + 2 * st) (rnL false b s ((max ra (row + rb)) + 2 * st) ((max ca (col + cb)) + 2 * st) (groW (max ra (row + rb)) (max ca (col + cb)) (metL0 ra ca la rb cb lb row col) st) st.toNat) (stsL ((max ca (col + cb)) + 2 * st) (rnL false b s ((max ra (row + rb)) + 2 * st) ((max ca (col + cb)) + 2 * st) (groW (max ra (row + rb)) (max ca (col + cb)) (metL0 ra ca la rb cb lb row col) st) st.toNat) ((rnL false b s ((max ra (row + rb)) + 2 * st) ((max ca (col + cb)) + 2 * st) (groW (max ra (row + rb)) (max ca (col + cb)) (metL0 ra ca la rb cb lb row col) st) st.toNat)).length))).length ≤ 64) from by exact hok)]; try rfl) (hk  (.slice none 0 0) (.slice none 0 0) _ (Own.cast (show [] = selL (lifP b s ∧ metOk ra ca la rb cb lb row col ∧ groOk (max ra (row + rb)) (max ca (col + cb)) (metL0 ra ca la rb cb lb row col) st ∧ (0 ≤ st ∧ st ≤ 8) ∧ (cenN (nmL ((max ra (row + rb)) + 2 * st) ((max ca (col + cb)) + 2 * st) (rnL false b s ((max ra (row + rb)) + 2 * st) ((max ca (col + cb)) + 2 * st) (groW (max ra (row + rb)) (max ca (col + cb)) (metL0 ra ca la rb cb lb row col) st) st.toNat) (stsL ((max ca (col + cb)) + 2 * st) (rnL false b s ((max ra (row + rb)) + 2 * st) ((max ca (col + cb)) + 2 * st) (groW (max ra (row + rb)) (max ca (col + cb)) (metL0 ra ca la rb cb lb row col) st) st.toNat) ((rnL false b s ((max ra (row + rb)) + 2 * st) ((max ca (col + cb)) + 2 * st) (groW (max ra (row + rb)) (max ca (col + cb)) (metL0 ra ca la rb cb lb row col) st) st.toNat)).length))).length ≤ 64) (cenN (nmL ((max ra (row + rb)) + 2 * st) ((max ca (col + cb)) + 2 * st) (rnL false b s ((max ra (row + rb)) + 2 * st) ((max ca (col + cb)) + 2 * st) (groW (max ra (row + rb)) (max ca (col + cb)) (metL0 ra ca la rb cb lb row col) st) st.toNat) (stsL ((max ca (col + cb)) + 2 * st) (rnL false b s ((max ra (row + rb)) + 2 * st) ((max ca (col + cb)) + 2 * st) (groW (max ra (row + rb)) (max ca (col + cb)) (metL0 ra ca la rb cb lb row col) st) st.toNat) ((rnL false b s ((max ra (row + rb)) + 2 * st) ((max ca (col + cb)) + 2 * st) (groW (max ra (row + rb)) (max ca (col + cb)) (metL0 ra ca la rb cb lb row col) st) st.toNat)).length))) by exact (selL_f hok).symm) (Own.nil_of none)) (Own.cast (show [] = selL (lifP b s ∧ metOk ra ca la rb cb lb row col ∧ groOk (max ra (row + rb)) (max ca (col + cb)) (metL0 ra ca la rb cb lb row col) st ∧ (0 ≤ st ∧ st ≤ 8) ∧ (cenN (nmL ((max ra (row + rb)) + 2 * st) ((max ca (col + cb)) + 2 * st) (rnL false b s ((max ra (row + rb)) + 2 * st) ((max ca (col + cb)) + 2 * st) (groW (max ra (row + rb)) (max ca (col + cb)) (metL0 ra ca la rb cb lb row col) st) st.toNat) (stsL ((max ca (col + cb)) + 2 * st) (rnL false b s ((max ra (row + rb)) + 2 * st) ((max ca (col + cb)) + 2 * st) (groW (max ra (row + rb)) (max ca (col + cb)) (metL0 ra ca la rb cb lb row col) st) st.toNat) ((rnL false b s ((max ra (row + rb)) + 2 * st) ((max ca (col + cb)) + 2 * st) (groW (max ra (row + rb)) (max ca (col + cb)) (metL0 ra ca la rb cb lb row col) st) st.toNat)).length))).length ≤ 64) (cenC (nmL ((max ra (row + rb)) + 2 * st) ((max ca (col + cb)) + 2 * st) (rnL false b s ((max ra (row + rb)) + 2 * st) ((max ca (col + cb)) + 2 * st) (groW (max ra (row + rb)) (max ca (col + cb)) (metL0 ra ca la rb cb lb row col) st) st.toNat) (stsL ((max ca (col + cb)) + 2 * st) (rnL false b s ((max ra (row + rb)) + 2 * st) ((max ca (col + cb)) + 2 * st) (groW (max ra (row + rb)) (max ca (col + cb)) (metL0 ra ca la rb cb lb row col) st) st.toNat) ((rnL false b s ((max ra (row + rb)) + 2 * st) ((max ca (col + cb)) + 2 * st) (groW (max ra (row + rb)) (max ca (col + cb)) (metL0 ra ca la rb cb lb row col) st) st.toNat)).length))) by exact (selL_f hok).symm) (Own.nil_of none)) (fun b hb => by simp [bk] at hb) (fun b hb => by simp [bk] at hb) (fun b hb => by simp [bk] at hb) lE)
 ·skip
  refine gop_st ?_
  refine gop_st ?_
  refine ob_i (vPick_t _ _) ?_
  refine gop_st ?_
  refine gop_st ?_
  refine gop_st ?_
  refine ob_i (vPick_t _ _) ?_
  refine cnd_t1 ?_
  skip
  have hok : ¬ (lifP b s ∧ metOk ra ca la rb cb lb row col ∧ groOk (max ra (row + rb)) (max ca (col + cb)) (metL0 ra ca la rb cb lb row col) st ∧ (0 ≤ st ∧ st ≤ 8) ∧ (cenN (nmL ((max ra (row + rb)) + 2 * st) ((max ca (col + cb)) + 2 * st) (rnL false b s ((max ra (row + rb)) + 2 * st) ((max ca (col + cb)) + 2 * st) (groW (max ra (row + rb)) (max ca (col + cb)) (metL0 ra ca la rb cb lb row col) st) st.toNat) (stsL ((max ca (col + cb)) + 2 * st) (rnL false b s ((max ra (row + rb)) + 2 * st) ((max ca (col + cb)) + 2 * st) (groW (max ra (row + rb)) (max ca (col + cb)) (metL0 ra ca la rb cb lb row col) st) st.toNat) ((rnL false b s ((max ra (row + rb)) + 2 * st) ((max ca (col + cb)) + 2 * st) (groW (max ra (row + rb)) (max ca (col + cb)) (metL0 ra ca la rb cb lb row col) st) st.toNat)).length))).length ≤ 64) := by intro h; obtain ⟨h1, h2, h3, h4, h5⟩ := h; first | exact absurd h1 (by assumption) | exact absurd h2 (by assumption) | exact absurd h3 (by assumption) | exact absurd h4 (by assumption) | exact absurd (show canP b s ra ca la from ⟨h1, h2.1⟩) (by assumption) | exact absurd h2.2.1 (by assumption) | exact absurd h2.2.2 (by assumption) | exact absurd (And.intro hrf h5) (by assumption) | omega
  exact keq (K := K) (by rw [decide_eq_false (show ¬ (lifP b s ∧ metOk ra ca la rb cb lb row col ∧ groOk (max ra (row + rb)) (max ca (col + cb)) (metL0 ra ca la rb cb lb row col) st ∧ (0 ≤ st ∧ st ≤ 8) ∧ (cenN (nmL ((max ra (row + rb)) + 2 * st) ((max ca (col + cb)) + 2 * st) (rnL false b s ((max ra (row + rb)) + 2 * st) ((max ca (col + cb)) + 2 * st) (groW (max ra (row + rb)) (max ca (col + cb)) (metL0 ra ca la rb cb lb row col) st) st.toNat) (stsL ((max ca (col + cb)) + 2 * st) (rnL false b s ((max ra (row + rb)) + 2 * st) ((max ca (col + cb)) + 2 * st) (groW (max ra (row + rb)) (max ca (col + cb)) (metL0 ra ca la rb cb lb row col) st) st.toNat) ((rnL false b s ((max ra (row + rb)) + 2 * st) ((max ca (col + cb)) + 2 * st) (groW (max ra (row + rb)) (max ca (col + cb)) (metL0 ra ca la rb cb lb row col) st) st.toNat)).length))).length ≤ 64) from by exact hok)]; try rfl) (hk  (.slice none 0 0) (.slice none 0 0) _ (Own.cast (show [] = selL (lifP b s ∧ metOk ra ca la rb cb lb row col ∧ groOk (max ra (row + rb)) (max ca (col + cb)) (metL0 ra ca la rb cb lb row col) st ∧ (0 ≤ st ∧ st ≤ 8) ∧ (cenN (nmL ((max ra (row + rb)) + 2 * st) ((max ca (col + cb)) + 2 * st) (rnL false b s ((max ra (row + rb)) + 2 * st) ((max ca (col + cb)) + 2 * st) (groW (max ra (row + rb)) (max ca (col + cb)) (metL0 ra ca la rb cb lb row col) st) st.toNat) (stsL ((max ca (col + cb)) + 2 * st) (rnL false b s ((max ra (row + rb)) + 2 * st) ((max ca (col + cb)) + 2 * st) (groW (max ra (row + rb)) (max ca (col + cb)) (metL0 ra ca la rb cb lb row col) st) st.toNat) ((rnL false b s ((max ra (row + rb)) + 2 * st) ((max ca (col + cb)) + 2 * st) (groW (max ra (row + rb)) (max ca (col + cb)) (metL0 ra ca la rb cb lb row col) st) st.toNat)).length))).length ≤ 64) (cenN (nmL ((max ra (row + rb)) + 2 * st) ((max ca (col + cb)) + 2 * st) (rnL false b s ((max ra (row + rb)) + 2 * st) ((max ca (col + cb)) + 2 * st) (groW (max ra (row + rb)) (max ca (col + cb)) (metL0 ra ca la rb cb lb row col) st) st.toNat) (stsL ((max ca (col + cb)) + 2 * st) (rnL false b s ((max ra (row + rb)) + 2 * st) ((max ca (col + cb)) + 2 * st) (groW (max ra (row + rb)) (max ca (col + cb)) (metL0 ra ca la rb cb lb row col) st) st.toNat) ((rnL false b s ((max ra (row + rb)) + 2 * st) ((max ca (col + cb)) + 2 * st) (groW (max ra (row + rb)) (max ca (col + cb)) (metL0 ra ca la rb cb lb row col) st) st.toNat)).length))) by exact (selL_f hok).symm) (Own.nil_of none)) (Own.cast (show [] = selL (lifP b s ∧ metOk ra ca la rb cb lb row col ∧ groOk (max ra (row + rb)) (max ca (col + cb)) (metL0 ra ca la rb cb lb row col) st ∧ (0 ≤ st ∧ st ≤ 8) ∧ (cenN (nmL ((max ra (row + rb)) + 2 * st) ((max ca (col + cb)) + 2 * st) (rnL false b s ((max ra (row + rb)) + 2 * st) ((max ca (col + cb)) + 2 * st) (groW (max ra (row + rb)) (max ca (col + cb)) (metL0 ra ca la rb cb lb row col) st) st.toNat) (stsL ((max ca (col + cb)) + 2 * st) (rnL false b s ((max ra (row + rb)) + 2 * st) ((max ca (col + cb)) + 2 * st) (groW (max ra (row + rb)) (max ca (col + cb)) (metL0 ra ca la rb cb lb row col) st) st.toNat) ((rnL false b s ((max ra (row + rb)) + 2 * st) ((max ca (col + cb)) + 2 * st) (groW (max ra (row + rb)) (max ca (col + cb)) (metL0 ra ca la rb cb lb row col) st) st.toNat)).length))).length ≤ 64) (cenC (nmL ((max ra (row + rb)) + 2 * st) ((max ca (col + cb)) + 2 * st) (rnL false b s ((max ra (row + rb)) + 2 * st) ((max ca (col + cb)) + 2 * st) (groW (max ra (row + rb)) (max ca (col + cb)) (metL0 ra ca la rb cb lb row col) st) st.toNat) (stsL ((max ca (col + cb)) + 2 * st) (rnL false b s ((max ra (row + rb)) + 2 * st) ((max ca (col + cb)) + 2 * st) (groW (max ra (row + rb)) (max ca (col + cb)) (metL0 ra ca la rb cb lb row col) st) st.toNat) ((rnL false b s ((max ra (row + rb)) + 2 * st) ((max ca (col + cb)) + 2 * st) (groW (max ra (row + rb)) (max ca (col + cb)) (metL0 ra ca la rb cb lb row col) st) st.toNat)).length))) by exact (selL_f hok).symm) (Own.nil_of none)) (fun b hb => by simp [bk] at hb) (fun b hb => by simp [bk] at hb) (fun b hb => by simp [bk] at hb) lE)
theorem crP_len {b s la lb : List Int} {ra ca rb cb row col st : Int} : (selL (lifP b s ∧ metOk ra ca la rb cb lb row col ∧ groOk (max ra (row + rb)) (max ca (col + cb)) (metL0 ra ca la rb cb lb row col) st ∧ (0 ≤ st ∧ st ≤ 8) ∧ (cenN (nmL ((max ra (row + rb)) + 2 * st) ((max ca (col + cb)) + 2 * st) (rnL false b s ((max ra (row + rb)) + 2 * st) ((max ca (col + cb)) + 2 * st) (groW (max ra (row + rb)) (max ca (col + cb)) (metL0 ra ca la rb cb lb row col) st) st.toNat) (stsL ((max ca (col + cb)) + 2 * st) (rnL false b s ((max ra (row + rb)) + 2 * st) ((max ca (col + cb)) + 2 * st) (groW (max ra (row + rb)) (max ca (col + cb)) (metL0 ra ca la rb cb lb row col) st) st.toNat) ((rnL false b s ((max ra (row + rb)) + 2 * st) ((max ca (col + cb)) + 2 * st) (groW (max ra (row + rb)) (max ca (col + cb)) (metL0 ra ca la rb cb lb row col) st) st.toNat)).length))).length ≤ 64) (cenN (nmL ((max ra (row + rb)) + 2 * st) ((max ca (col + cb)) + 2 * st) (rnL false b s ((max ra (row + rb)) + 2 * st) ((max ca (col + cb)) + 2 * st) (groW (max ra (row + rb)) (max ca (col + cb)) (metL0 ra ca la rb cb lb row col) st) st.toNat) (stsL ((max ca (col + cb)) + 2 * st) (rnL false b s ((max ra (row + rb)) + 2 * st) ((max ca (col + cb)) + 2 * st) (groW (max ra (row + rb)) (max ca (col + cb)) (metL0 ra ca la rb cb lb row col) st) st.toNat) ((rnL false b s ((max ra (row + rb)) + 2 * st) ((max ca (col + cb)) + 2 * st) (groW (max ra (row + rb)) (max ca (col + cb)) (metL0 ra ca la rb cb lb row col) st) st.toNat)).length)))).length ≤ 64 ∧ (selL (lifP b s ∧ metOk ra ca la rb cb lb row col ∧ groOk (max ra (row + rb)) (max ca (col + cb)) (metL0 ra ca la rb cb lb row col) st ∧ (0 ≤ st ∧ st ≤ 8) ∧ (cenN (nmL ((max ra (row + rb)) + 2 * st) ((max ca (col + cb)) + 2 * st) (rnL false b s ((max ra (row + rb)) + 2 * st) ((max ca (col + cb)) + 2 * st) (groW (max ra (row + rb)) (max ca (col + cb)) (metL0 ra ca la rb cb lb row col) st) st.toNat) (stsL ((max ca (col + cb)) + 2 * st) (rnL false b s ((max ra (row + rb)) + 2 * st) ((max ca (col + cb)) + 2 * st) (groW (max ra (row + rb)) (max ca (col + cb)) (metL0 ra ca la rb cb lb row col) st) st.toNat) ((rnL false b s ((max ra (row + rb)) + 2 * st) ((max ca (col + cb)) + 2 * st) (groW (max ra (row + rb)) (max ca (col + cb)) (metL0 ra ca la rb cb lb row col) st) st.toNat)).length))).length ≤ 64) (cenC (nmL ((max ra (row + rb)) + 2 * st) ((max ca (col + cb)) + 2 * st) (rnL false b s ((max ra (row + rb)) + 2 * st) ((max ca (col + cb)) + 2 * st) (groW (max ra (row + rb)) (max ca (col + cb)) (metL0 ra ca la rb cb lb row col) st) st.toNat) (stsL ((max ca (col + cb)) + 2 * st) (rnL false b s ((max ra (row + rb)) + 2 * st) ((max ca (col + cb)) + 2 * st) (groW (max ra (row + rb)) (max ca (col + cb)) (metL0 ra ca la rb cb lb row col) st) st.toNat) ((rnL false b s ((max ra (row + rb)) + 2 * st) ((max ca (col + cb)) + 2 * st) (groW (max ra (row + rb)) (max ca (col + cb)) (metL0 ra ca la rb cb lb row col) st) st.toNat)).length)))).length ≤ 64 :=
  ⟨selL_len fun h => h.2.2.2.2, selL_len fun h => by rw [(cen_of _).len]; exact h.2.2.2.2⟩
end Go.Proofs.YtffmfkpobjdmmaaGreatDoor
/- Lists of texts: marked, held, alike. -/
namespace Go.Proofs.YtffmfkpobjdmmaaGreatDoor
open HL
set_option maxRecDepth 100000
attribute [local irreducible] vStr
/-- A number's digits. -/
def mkD (n : Nat) : List UInt8 := if n = 0 then [] else mkD (n / 10) ++ [UInt8.ofNat (48 + n % 10)]
termination_by n
decreasing_by omega
theorem mkD_len : ∀ n : Nat, (mkD n).length ≤ n := by
  intro n
  induction n using Nat.strongRecOn with
  | _ n ih =>
    unfold mkD
    split
    · simp
    · have := ih (n / 10) (by omega)
      simp only [List.length_append, List.length_singleton]; omega
theorem mkD_step {n : Nat} (h : 0 < n) : mkD n = mkD (n / 10) ++ [UInt8.ofNat (48 + n % 10)] := by
  conv => lhs; unfold mkD
  rw [if_neg (by omega)]
theorem mkD_zero : mkD 0 = [] := by unfold mkD; rfl
theorem mkD_cons {n : Nat} {a : List UInt8} (h : 0 < n) : mkD (n / 10) ++ (btT [48 + (n : Int) % 10] ++ a) = mkD n ++ a := by
  rw [mkD_step h]
  unfold btT
  simp only [List.map_cons, List.map_nil, List.append_assoc]
  rw [show (48 + (n : Int) % 10).toNat = 48 + n % 10 by omega]
/-- The mark of a number. -/
def markT (k : Int) : List UInt8 := [109] ++ mkD k.toNat
theorem C.laws_markText {k : Int}  {H : Hp} {K : Value → Hp → Prop} (k0 : 1 ≤ k) (k1 : k ≤ 4611686018427387904)
    (hk : ∀ H', Le H H' → K (vS (markT k)) H') : HT prg I.laws_markText [(.int .i64 (k))].toArray H K := by
 have lE := Le.refl H
 refine R.laws_markText ?_
 unfold F.laws_markText
 refine ob_i (vInt_leq _ _ _) ?_
 refine cnd_d (fun hg1 => ?_) (fun hg1 => ?_)
 ·skip
  exact absurd hg1 ((by omega))
 ·skip
  refine jn_i (fun σ' H' => σ' 3 = (vS (mkD k.toNat)) ∧ Le H H') (fun σ2 H2 hP => ?_) (fun J2 hJ2 => ?_)
  ·skip
   obtain ⟨g3L2, lE⟩ := hP
   try simp only [g3L2]
   have lk := mkD_len k.toNat
   refine ob_i (vStr_add (a := ([109] : List UInt8)) (b := mkD k.toNat) (by first | omega | (simp only [List.length_append, List.length_cons, List.length_nil]; omega))) ?_
   skip
   exact keq (K := K) (by rw [show (markT k) = (([109] : List UInt8) ++ (mkD k.toNat)) from by rfl]; try rfl) (hk   _    lE)
  refine ⟨fun n' σ' H' => ∃ i : Nat, n' = k.toNat - i ∧ i ≤ k.toNat ∧ ∃ n : Nat, ∃ a : List UInt8, σ' 0 = (.int .i64 ((n : Int))) ∧ σ' 3 = (vS (a)) ∧ Le H H' ∧ n + i ≤ k.toNat ∧ mkD n ++ a = mkD k.toNat,
   ⟨_, 0, rfl, by omega, k.toNat, [], (congrArg (Value.int .i64) (by omega)), rfl, lE, (by omega), (by simp)⟩, ?_⟩
  rintro n3 σ3 H3 ⟨i, rfl, hiN, n, a, g0L3, g3L3, lE, hn, ha⟩
  try simp only [g0L3, g3L3]
  have la := congrArg List.length ha
  rw [List.length_append] at la
  have lk := mkD_len k.toNat
  have l1 : (btT ([(48 + ((n : Int) % 10))])).length = 1 := rfl
  refine ob_i (vInt_gtr _ _ _) ?_
  refine cnd_d (fun hg4 => ?_) (fun hg4 => ?_)
  ·skip
   have ti := hg4
   refine ob_i (vInt_remN (by omega) (by omega)) ?_
   refine ob_i (vInt_add (by omega) (by omega)) ?_
   refine ob_i (vCI_u8 (by omega) (by omega)) ?_
   refine bS_i (enc := eU) (l := [48 + ((n : Int) % 10)]) (by omega) rfl (by kernel_rfl) (fun u5 H6 ou5 nn7 le9 => ?_)
   replace lE := lE.trans le9
   refine ob_i (val_convT (by kernel_rfl) ou5.sl) ?_
   refine ob_i (vStr_add (a := btT ([48 + ((n : Int) % 10)])) (b := a) (by first | omega | (simp only [List.length_append, List.length_cons, List.length_nil]; omega))) ?_
   refine ob_i (vInt_quoN (by omega) (by omega) (by omega)) ?_
   exact nxt (k.toNat - (i + 1)) (by omega) ⟨i + 1, rfl, by omega, (n / 10), ((btT ([48 + ((n : Int) % 10)])) ++ a), (congrArg (Value.int .i64) (by omega)), rfl, lE, (by omega), ((mkD_cons (by omega)).trans ha)⟩
  ·skip
   have ti := hg4
   exact hJ2 _ _ ⟨(g3L3.trans (congrArg vS (by rw [← ha, show n = 0 by omega, mkD_zero, List.nil_append]))), lE⟩
/-- Marks in a row. -/
def rampT (k : Int) (m : Nat) : List (List UInt8) := (List.range m).map fun (i : Nat) => markT (k + (i : Int))
theorem rampT_len {k : Int} {m : Nat} : (rampT k m).length = m := by simp [rampT]
theorem rampT_at {k : Int} {m i : Nat} (h : i < m) : at_ [] (rampT k m) (i : Int) = markT (k + (i : Int)) := by
  rw [at_eq [] _ (by rw [rampT_len]; exact h)]; simp [rampT]
theorem rampT_set {k : Int} {l : List (List UInt8)} {i : Nat} (h : i < l.length) : (rampT k i ++ l.drop i).set i (markT (k + (i : Int))) = rampT k (i + 1) ++ l.drop (i + 1) := by
  rw [List.set_append_right _ _ (by rw [rampT_len]; exact Nat.le_refl _), rampT_len, Nat.sub_self, List.drop_eq_getElem_cons h, List.set_cons_zero]
  simp [rampT, List.range_succ]
theorem C.laws_markStringS {a : Value} {l : List (List UInt8)} {k : Int} {H : Hp} {K : Value → Hp → Prop} (ha : Own vS H a l) (hl : l.length ≤ 1000000000) (hk0 : 1 ≤ k) (hk1 : k ≤ 1000000000)
    (hk : ∀ H', Own vS H' a (rampT k l.length) → Off a H H' → K (.int .i64 (k + l.length)) H') : HT prg I.laws_markStringS [a, .int .i64 k].toArray H K := by
 refine R.laws_markStringS ?_
 unfold F.laws_markStringS
 refine jn_i (fun σ' H' => σ' 1 = .int .i64 (k + l.length) ∧ Own vS H' a (rampT k l.length) ∧ Off a H H') (fun σ1 H1 hP => ?_) (fun J1 hJ => ?_)
 ·obtain ⟨e, hf, off⟩ := hP
  rw [e]; exact hk _ hf off
 refine ⟨fun n σ H1 => ∃ i : Nat, n = l.length - i ∧ i ≤ l.length ∧ σ 0 = a ∧ σ 1 = .int .i64 (k + (i : Int)) ∧ σ 5 = .int .i64 (i : Int) ∧ Own vS H1 a (rampT k i ++ l.drop i) ∧ Off a H H1,
  ⟨_, 0, rfl, by omega, rfl, congrArg (Value.int .i64) (by simp), rfl, by simpa [rampT] using ha, Off.of_le (Le.refl H)⟩, ?_⟩
 rintro n σ H1 ⟨i, rfl, hi, g0, g1, g5, hf, off⟩
 simp only [g0, g1, g5]
 have hlen : (rampT k i ++ l.drop i).length = l.length := by rw [List.length_append, rampT_len, List.length_drop]; omega
 refine ob_i hf.len ?_
 refine ob_i (vInt_lss _ _ _) ?_
 refine cnd_d (fun hlt => ?_) (fun hge => ?_)
 ·refine C.laws_markText (by omega) (by omega) (fun H2 le => ?_)
  have hf2 := hf.le le
  refine ob_i (hf2.sl.ix (by omega) (by omega)) ?_
  refine hf2.st (x := markT (k + (i : Int))) (by omega) (by omega) rfl rfl (fun H3 hf3 off3 => ?_)
  refine ob_i (vInt_add (by omega) (by omega)) ?_
  refine ob_i (vInt_add (by omega) (by omega)) ?_
  refine nxt (l.length - (i + 1)) (by omega) ⟨i + 1, rfl, by omega, g0, congrArg (Value.int .i64) (by omega), congrArg (Value.int .i64) (by omega), ?_, (off.trans (Off.of_le le)).trans off3⟩
  rw [Int.toNat_natCast, rampT_set (by omega)] at hf3
  exact hf3
 ·obtain rfl : i = l.length := by omega
  refine hJ _ _ ⟨g1, ?_, off⟩
  simpa using hf
theorem C.laws_heldStringS {a : Value} {k : Int} {m : Nat} {H : Hp} {K : Value → Hp → Prop} (ha : Sl vS H a (rampT k m)) (hl : m ≤ 1000000000) (hk0 : 1 ≤ k) (hk1 : k ≤ 1000000000)
    (hk : ∀ H', Le H H' → K (.int .i64 (k + m)) H') : HT prg I.laws_heldStringS [a, .int .i64 k].toArray H K := by
 refine R.laws_heldStringS ?_
 unfold F.laws_heldStringS
 refine jn_i (fun σ' H' => σ' 1 = .int .i64 (k + m) ∧ Le H H') (fun σ1 H1 hP => ?_) (fun J1 hJ => ?_)
 ·obtain ⟨e, le⟩ := hP
  rw [e]; exact hk _ le
 refine ⟨fun n σ H1 => ∃ i : Nat, n = m - i ∧ i ≤ m ∧ σ 0 = a ∧ σ 1 = .int .i64 (k + (i : Int)) ∧ σ 5 = .int .i64 (i : Int) ∧ Le H H1,
  ⟨_, 0, rfl, by omega, rfl, congrArg (Value.int .i64) (by simp), rfl, Le.refl H⟩, ?_⟩
 rintro n σ H1 ⟨i, rfl, hi, g0, g1, g5, le⟩
 simp only [g0, g1, g5]
 have hs := ha.le le
 have hlen : (rampT k m).length = m := rampT_len
 refine ob_i hs.len ?_
 refine ob_i (vInt_lss _ _ _) ?_
 refine cnd_d (fun hlt => ?_) (fun hge => ?_)
 ·refine ob_i (hs.ix (by omega) (by omega)) ?_
  refine ob_i (hs.ld [] (by omega) (by omega)) ?_
  rw [rampT_at (by omega)]
  refine C.laws_markText (by omega) (by omega) (fun H2 le2 => ?_)
  refine ⟨le2, ?_⟩
  refine ob_i (vStr_neq_same _) ?_
  refine cnd_f1 ?_
  refine ob_i (vInt_add (by omega) (by omega)) ?_
  refine ob_i (vInt_add (by omega) (by omega)) ?_
  exact nxt (m - (i + 1)) (by omega) ⟨i + 1, rfl, by omega, g0, congrArg (Value.int .i64) (by omega), congrArg (Value.int .i64) (by omega), le.trans le2⟩
 ·obtain rfl : i = m := by omega
  exact hJ _ _ ⟨g1, le⟩
theorem C.laws_eqStringS {a b : Value} {l : List (List UInt8)} {H : Hp} {K : Value → Hp → Prop} (ha : Sl vS H a l) (hb : Sl vS H b l) (hl : l.length ≤ 4611686018427387904) (hk : K (.bool true) H) : HT prg I.laws_eqStringS [a, b].toArray H K := by
 refine R.laws_eqStringS ?_
 unfold F.laws_eqStringS
 refine ob_i ha.len ?_
 refine ob_i hb.len ?_
 refine ob_i (vInt_neq_same _ _) ?_
 refine cnd_f1 ?_
 refine jn_i (fun σ' H' => H' = H) (fun σ1 H1 hP => ?_) (fun J1 hJ => ?_)
 ·subst hP; exact hk
 refine ⟨fun n σ H1 => ∃ i : Nat, n = l.length - i ∧ i ≤ l.length ∧ σ 0 = a ∧ σ 1 = b ∧ σ 5 = .int .i64 (i : Int) ∧ H1 = H, ⟨_, 0, rfl, by omega, rfl, rfl, rfl, rfl⟩, ?_⟩
 rintro n σ H1 ⟨i, rfl, hi, g0, g1, g5, rfl⟩
 simp only [g0, g1, g5]
 refine ob_i ha.len ?_
 refine ob_i (vInt_lss _ _ _) ?_
 refine cnd_d (fun hlt => ?_) (fun hge => ?_)
 ·refine ob_i (ha.ix (by omega) (by omega)) ?_
  refine ob_i (ha.ld [] (by omega) (by omega)) ?_
  refine ob_i (hb.ix (by omega) (by omega)) ?_
  refine ob_i (hb.ld [] (by omega) (by omega)) ?_
  refine ob_i (vStr_neq_same _) ?_
  refine cnd_f1 ?_
  refine ob_i (vInt_add (by omega) (by omega)) ?_
  exact nxt (l.length - (i + 1)) (by omega) ⟨i + 1, rfl, by omega, g0, g1, congrArg (Value.int .i64) (by omega), rfl⟩
 ·exact hJ _ _ rfl
end Go.Proofs.YtffmfkpobjdmmaaGreatDoor
/- What the small functions of structs come to: copies, sizes, what is alike. -/
namespace Go.Proofs.YtffmfkpobjdmmaaGreatDoor
open HL
set_option maxRecDepth 100000
theorem C.laws_toLife {xa : Value} {sxa : List Int} {xb : Value} {sxb : List Int} {H : Hp} {K : Value → Hp → Prop} (hxa0 : Sl eI H xa sxa) (hxb0 : Sl eI H xb sxb) (msxa : (sxa).length ≤ 17592186044416) (msxb : (sxb).length ≤ 17592186044416)
    (hk : ∀ ua ub H', Own eI H' ua sxa → Own eI H' ub sxb → Nw H ua → Nw H ub → Apart ua ub → Le H H' → K (.agg #[ua, ub]) H') : HT prg I.laws_toLife [(.agg #[xa, xb])].toArray H K := by
 have lE := Le.refl H
 have hxa := hxa0
 have hxb := hxb0
 refine R.laws_toLife ?_
 unfold F.laws_toLife
 refine nw_i (fun p1 H2 op1 nn3 le4 => ?_)
 replace hxa := hxa.le le4
 replace hxb := hxb.le le4
 replace lE := lE.trans le4
 replace op1 : Cel H2 p1 [xa, xb] := op1
 refine nw_i (fun p5 H6 op5 nn7 le8 => ?_)
 have np5 : Nw H p5 := nn7.le lE
 replace op1 := op1.le le8
 replace hxa := hxa.le le8
 replace hxb := hxb.le le8
 replace lE := lE.trans le8
 replace op5 : Cel H6 p5 [(.slice none 0 0), (.slice none 0 0)] := op5
 refine nw_i (fun p9 H10 op9 nn11 le12 => ?_)
 have ap1Xp9 : Apart p1 p9 := op1.apart nn11
 have ap5Xp9 : Apart p5 p9 := op5.apart nn11
 have np9 : Nw H p9 := nn11.le lE
 replace op1 := op1.le le12
 replace op5 := op5.le le12
 replace hxa := hxa.le le12
 replace hxb := hxb.le le12
 replace lE := lE.trans le12
 replace op9 : Cel H10 p9 [(.slice none 0 0), (.slice none 0 0)] := op9
 refine ob_i (op1.fa 0) ?_
 refine ob_i (op1.ld 0 rfl) ?_
 refine C.laws_toInt64S hxa (by omega) (fun u13 H14 ou13 nn15 le16 => ?_)
 have ap5Xu13 : Apart p5 u13 := op5.apart nn15
 have ap9Xu13 : Apart p9 u13 := op9.apart nn15
 have nu13 : Nw H u13 := nn15.le lE
 replace op1 := op1.le le16
 replace op5 := op5.le le16
 replace op9 := op9.le le16
 replace hxa := hxa.le le16
 replace hxb := hxb.le le16
 replace lE := lE.trans le16
 refine ob_i (op9.fa 0) ?_
 refine op9.st (by simp) ou13.one ou13.cells (fun H17 op9 off18 => ?_)
 replace op1 := op1.off off18 ap1Xp9
 replace op5 := op5.off off18 ap5Xp9
 replace ou13 := ou13.off off18 ap9Xu13.symm
 replace hxa := hxa0.le (off18.le lE np9)
 replace hxb := hxb0.le (off18.le lE np9)
 replace lE := off18.le lE np9
 replace op9 : Cel H17 p9 [u13, (.slice none 0 0)] := op9
 refine ob_i (op1.fa 1) ?_
 refine ob_i (op1.ld 1 rfl) ?_
 refine C.laws_toInt64S hxb (by omega) (fun u19 H20 ou19 nn21 le22 => ?_)
 have ap5Xu19 : Apart p5 u19 := op5.apart nn21
 have ap9Xu19 : Apart p9 u19 := op9.apart nn21
 have au13Xu19 : Apart u13 u19 := ou13.apart nn21
 have nu19 : Nw H u19 := nn21.le lE
 replace op5 := op5.le le22
 replace op9 := op9.le le22
 replace ou13 := ou13.le le22
 replace hxa := hxa.le le22
 replace hxb := hxb.le le22
 replace lE := lE.trans le22
 refine ob_i (op9.fa 1) ?_
 refine op9.st (by simp) ou19.one ou19.cells (fun H23 op9 off24 => ?_)
 replace op5 := op5.off off24 ap5Xp9
 replace ou13 := ou13.off off24 ap9Xu13.symm
 replace ou19 := ou19.off off24 ap9Xu19.symm
 replace hxa := hxa0.le (off24.le lE np9)
 replace hxb := hxb0.le (off24.le lE np9)
 replace lE := off24.le lE np9
 replace op9 : Cel H23 p9 [u13, u19] := op9
 refine ob_i (op9.ldn rfl) ?_
 refine op5.stn (ws := [u13, u19]) rfl rfl (oc1 ou13.one (oc1 ou19.one oc0)) (fun H25 op5 off26 => ?_)
 replace ou13 := ou13.off off26 ap5Xu13.symm
 replace ou19 := ou19.off off26 ap5Xu19.symm
 replace hxa := hxa0.le (off26.le lE np5)
 replace hxb := hxb0.le (off26.le lE np5)
 replace lE := off26.le lE np5
 replace op5 : Cel H25 p5 [u13, u19] := op5
 refine ob_i (op5.ldn rfl) ?_
 exact hk u13 u19 _ ou13 ou19 nu13 nu19 au13Xu19 lE

theorem C.laws_szLife {xa : Value} {sxa : List Int} {xb : Value} {sxb : List Int} {k : Int} {H : Hp} {K : Value → Hp → Prop} (hxa0 : Sl eI H xa sxa) (hxb0 : Sl eI H xb sxb) (msxa : (sxa).length ≤ 9223372036854775807) (msxb : (sxb).length ≤ 9223372036854775807) (hk0 : 0 ≤ k) (hk1 : k < 9223372036854775808) (h1 : ∀ H', Le H H' → K (.int .i64 (-1)) H')
    (h2 : ∀ H', Le H H' → 0 ≤ k - (sxa).length - (sxb).length → K (.int .i64 (k - (sxa).length - (sxb).length)) H') : HT prg I.laws_szLife [(.agg #[xa, xb]), .int .i64 k].toArray H K := by
 have lE := Le.refl H
 have hxa := hxa0
 have hxb := hxb0
 refine R.laws_szLife ?_
 unfold F.laws_szLife
 refine nw_i (fun p1 H2 op1 nn3 le4 => ?_)
 replace hxa := hxa.le le4
 replace hxb := hxb.le le4
 replace lE := lE.trans le4
 replace op1 : Cel H2 p1 [xa, xb] := op1
 refine ob_i (op1.fa 0) ?_
 refine ob_i (op1.ld 0 rfl) ?_
 refine C.laws_szInt64S hxa.len (by omega) (by omega) (fun hz5 => ?_) (fun hz5 => ?_)
 ·skip
  refine ob_i (vInt_lss_t (by omega)) ?_
  refine cnd_t1 ?_
  exact h1 _ lE
 refine ob_i (vInt_lss_f (by omega)) ?_
 refine cnd_f1 ?_
 refine ob_i (op1.fa 1) ?_
 refine ob_i (op1.ld 1 rfl) ?_
 refine C.laws_szInt64S hxb.len (by omega) (by omega) (fun hz6 => ?_) (fun hz6 => ?_)
 ·skip
  refine ob_i (vInt_lss_t (by omega)) ?_
  refine cnd_t1 ?_
  exact h1 _ lE
 refine ob_i (vInt_lss_f (by omega)) ?_
 refine cnd_f1 ?_
 exact h2 _ lE (by omega)

theorem C.laws_eqLife {xa : Value} {sxa : List Int} {xb : Value} {sxb : List Int} {ya : Value} {yb : Value} {H : Hp} {K : Value → Hp → Prop} (hxa0 : Sl eI H xa sxa) (hya0 : Sl eI H ya sxa) (hxb0 : Sl eI H xb sxb) (hyb0 : Sl eI H yb sxb) (msxa : (sxa).length ≤ 9223372036854775807) (msxb : (sxb).length ≤ 9223372036854775807)
    (hk : ∀ H', Le H H' → K (.bool true) H') : HT prg I.laws_eqLife [(.agg #[xa, xb]), (.agg #[ya, yb])].toArray H K := by
 have lE := Le.refl H
 have hxa := hxa0
 have hxb := hxb0
 have hya := hya0
 have hyb := hyb0
 refine R.laws_eqLife ?_
 unfold F.laws_eqLife
 refine nw_i (fun p1 H2 op1 nn3 le4 => ?_)
 replace hxa := hxa.le le4
 replace hxb := hxb.le le4
 replace hya := hya.le le4
 replace hyb := hyb.le le4
 replace lE := lE.trans le4
 replace op1 : Cel H2 p1 [xa, xb] := op1
 refine nw_i (fun p5 H6 op5 nn7 le8 => ?_)
 replace op1 := op1.le le8
 replace hxa := hxa.le le8
 replace hxb := hxb.le le8
 replace hya := hya.le le8
 replace hyb := hyb.le le8
 replace lE := lE.trans le8
 replace op5 : Cel H6 p5 [ya, yb] := op5
 refine ob_i (op1.fa 0) ?_
 refine ob_i (op1.ld 0 rfl) ?_
 refine ob_i (op5.fa 0) ?_
 refine ob_i (op5.ld 0 rfl) ?_
 refine C.laws_eqInt64S hxa hya (by omega) ?_
 rw [decide_eq_true rfl]
 refine ob_i (a := .bool false) rfl ?_
 refine cnd_f1 ?_
 refine ob_i (op1.fa 1) ?_
 refine ob_i (op1.ld 1 rfl) ?_
 refine ob_i (op5.fa 1) ?_
 refine ob_i (op5.ld 1 rfl) ?_
 refine C.laws_eqInt64S hxb hyb (by omega) ?_
 rw [decide_eq_true rfl]
 refine ob_i (a := .bool false) rfl ?_
 refine cnd_f1 ?_
 exact hk _ lE
end Go.Proofs.YtffmfkpobjdmmaaGreatDoor
/- From a contract over a whole heap to a call's end: what the statement asks. -/
namespace Go.Proofs.YtffmfkpobjdmmaaGreatDoor.HL
open Go.RowKit
/-- All of a world's blocks. -/
def whole (W : World) : Hp := fun b => W.heap[b]?
theorem whole_sub (W : World) : Sub (whole W) W := fun _ _ h => h

theorem calls_true {P : Program} {f : FuncId} {args : Array Value} {W : World} (h : HT P f args (whole W) (fun v H' => v = .bool true ∧ Le (whole W) H')) :
    Calls P f args W (fun e W' => e = .returned (.bool true) ∧ Below W.heap.size W W') := by
  refine (h W (whole_sub W)).mono ?_
  rintro e W' ⟨v, H', rfl, hs, fr, rfl, hle⟩
  refine ⟨rfl, fr.os, fr.tape, fr.output, fr.size, fun k hk => ?_⟩
  have h1 : whole W k = some W.heap[k] := by unfold whole; exact Array.getElem?_eq_getElem hk
  have h2 := hs k _ (hle k _ h1)
  rw [h2, Array.getElem?_eq_getElem hk]

theorem addr_zero (a : Addr) : a.add 0 = a := by unfold Addr.add; simp
theorem list_of {α : Type} : ∀ (n : Nat) (Q : Nat → α → Prop), (∀ i, i < n → ∃ b, Q i b) → ∃ l : List α, l.length = n ∧ ∀ i (h : i < l.length), Q i l[i]
  | 0, _, _ => ⟨[], rfl, fun i h => absurd h (by simp)⟩
  | n + 1, Q, h => by
    obtain ⟨l, hl, hq⟩ := list_of n Q (fun i hi => h i (by omega))
    obtain ⟨b, hb⟩ := h n (by omega)
    refine ⟨l ++ [b], by simp [hl], fun i hi => ?_⟩
    by_cases e : i < l.length
    · rw [List.getElem_append_left e]; exact hq i e
    · have : i = l.length := by simp at hi; omega
      subst this
      rw [List.getElem_append_right (by omega)]
      simp only [Nat.sub_self, List.getElem_cons_zero]
      rw [hl]; exact hb
theorem arr3 {α : Type} {a : Array α} (h : a.size = 3) : ∃ x0 x1 x2, a = #[x0, x1, x2] := by
  obtain ⟨l⟩ := a
  match l, h with
  | [x0, x1, x2], _ => exact ⟨x0, x1, x2, rfl⟩
theorem arr2 {α : Type} {a : Array α} (h : a.size = 2) : ∃ x0 x1, a = #[x0, x1] := by
  obtain ⟨l⟩ := a
  match l, h with
  | [x0, x1], _ => exact ⟨x0, x1, rfl⟩
theorem int_wf {n : Int} (h : (Lit.int .i64 n).wf = true) : -9223372036854775808 ≤ n ∧ n < 9223372036854775808 := by
  unfold Lit.wf at h
  simp [IntKind.min, IntKind.max, IntKind.signed, IntKind.bits] at h
  omega
open Go.ChangeShapes Go.WideShapes Go.ChangeAt in
theorem sl_of_elems {α B : Type} {en : α → Value} {Pr : α → Prop} {enc : TypeId × Value → B} {P : Program} {W : World} {base : Nat} {sp : Nat → Bool} {held : Bool} {t e : TypeId} {fuel : Nat} {cs : List Value} {x : DataW B × List MemPlace}
    (ht : P.underlying t = some (.slice e)) (hc : P.cellsOf e = 1) (each : ∀ n v y, DataW.trod enc P W base sp held n e [v] = some y → ∃ a, v = en a ∧ Pr a)
    (h : DataW.trod enc P W base sp held fuel t cs = some x) : ∃ v l, cs = [v] ∧ Sl en (whole W) v l ∧ l.length ≤ 9223372036854775807 ∧ ∀ a ∈ l, Pr a := by
  rcases DataW.trod_slice ht h with ⟨h0, _⟩ | ⟨a, len, cap, elems, rest, n, _, rfl, _, _, hl, hm, hlen, hel, _, _⟩
  · exact ⟨_, [], h0, Sl.nil 0 none, by simp, by simp⟩
  · have one : ∀ i, i < len → ∃ b, W.cell? (a.add i) = some (en b) ∧ Pr b := by
      intro i hi
      have h1 := hel i hi
      rw [hc, Nat.mul_one] at h1
      have h2 : elems[i]? = some (elems[i]'(by omega)) := List.getElem?_eq_getElem _
      rw [h2, Option.bind_eq_some_iff] at h1
      obtain ⟨cs', hcs, hy⟩ := h1
      have h3 : ∃ v, W.cell? (a.add i) = some v ∧ cs' = [v] := by
        unfold World.cells? at hcs
        split at hcs
        · simp only [List.range_succ, List.range_zero, List.nil_append, List.mapM_cons, List.mapM_nil, addr_zero] at hcs
          cases hw : W.cell? (a.add i) with
          | none => simp [hw] at hcs
          | some v => simp [hw] at hcs; exact ⟨v, rfl, hcs.symm⟩
        · simp at hcs
      obtain ⟨v, hv, rfl⟩ := h3
      obtain ⟨b, rfl, hb⟩ := each n v _ hy
      exact ⟨b, hv, hb⟩
    obtain ⟨l, hll, hlc⟩ := list_of len (fun i b => W.cell? (a.add i) = some (en b) ∧ Pr b) one
    refine ⟨_, l, rfl, ⟨some a, cap, by rw [hll], by omega, fun i hi => ⟨a, rfl, (hlc i hi).1⟩⟩, ?_, ?_⟩
    · have : maxLen = 9223372036854775807 := by decide
      omega
    · intro b hb
      obtain ⟨i, hi, rfl⟩ := List.getElem_of_mem hb
      exact (hlc i hi).2
open Go.ChangeShapes Go.WideShapes Go.ChangeAt in
theorem sl_of_ints {B : Type} {enc : TypeId × Value → B} {P : Program} {W : World} {base : Nat} {sp : Nat → Bool} {held : Bool} {t e : TypeId} {fuel : Nat} {cs : List Value} {x : DataW B × List MemPlace}
    (ht : P.underlying t = some (.slice e)) (he : P.underlying e = some (.int .i64)) (hc : P.cellsOf e = 1) (h : DataW.trod enc P W base sp held fuel t cs = some x) :
    ∃ v l, cs = [v] ∧ Sl eI (whole W) v l ∧ l.length ≤ 9223372036854775807 ∧ ∀ a ∈ l, -9223372036854775808 ≤ a ∧ a < 9223372036854775808 :=
  sl_of_elems ht hc (fun n v y hy => by obtain ⟨m, hm, _, hw⟩ := DataW.trod_int he hy; exact ⟨m, by simpa using hm, int_wf hw⟩) h
end Go.Proofs.YtffmfkpobjdmmaaGreatDoor.HL
