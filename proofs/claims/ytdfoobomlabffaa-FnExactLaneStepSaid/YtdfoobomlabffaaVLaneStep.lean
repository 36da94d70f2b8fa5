/- Laws, each by its two sides: its function returns true, and what was known before stays. -/
import Derived.Test.YtdfoobomlabffaaWL
import Derived.Test.YtdfoobomlabffaaSG
namespace Go.Proofs.Ytdfoobomlabffaa
open HL
set_option maxRecDepth 100000
theorem L.FnExactLaneStep {p : Value} {sp : List Int} {q : Int} {r : Nat} {s : Int} {H : Hp} {K : Value → Hp → Prop} (hp0 : Sl eI H p sp) (wq0 : -9223372036854775808 ≤ q) (wq1 : q < 9223372036854775808) (ws0 : -9223372036854775808 ≤ s) (ws1 : s < 9223372036854775808) (msp : (sp).length ≤ 9223372036854775807) (hk : ∀ H', Le H H' → K (.bool true) H') :
    HT prg I.laws_FnExactLaneStep [p, (.int .i64 (q)), (.float .f32 r), (.int .i64 (s))].toArray H K := by
  have hR := @lnP_len sp q r s
  have lE := Le.refl H
  have hp := hp0
  refine R.laws_FnExactLaneStep ?_
  unfold F.laws_FnExactLaneStep
  refine ob_i (hp.len) ?_
  refine ob_i (vInt_gtr _ _ _) ?_
  refine cnd_d (fun hg1 => ?_) (fun hg1 => ?_)
  · skip
    exact hk _ lE
  have : (sp).length ≤ 1048576 := by omega
  clear hg1
  refine C.laws_toInt64S hp (by omega) (fun u2 H3 ou2 nn4 le5 => ?_)
  have nu2 : Nw H u2 := nn4.le lE
  replace hp := hp.le le5
  replace lE := lE.trans le5
  refine C.spec_LaneStep ou2.sl (by omega)  (fun g8 H6 og8 nn9  le7 => ?_)
  have au2Xg8 : Apart u2 g8 := ou2.apart nn9
  have ng8 : Nw H g8 := nn9.le lE
  replace ou2 := ou2.le le7
  replace hp := hp.le le7
  replace lE := lE.trans le7
  refine ob_i (vExt_30 _ _ _) ?_
  refine ob_i (vExt_31 _ _ _) ?_
  refine ob_i (vExt_32 _ _ _) ?_
  refine C.laws_toInt64S hp (by omega) (fun u10 H11 ou10 nn12 le13 => ?_)
  have au2Xu10 : Apart u2 u10 := ou2.apart nn12
  have ag8Xu10 : Apart g8 u10 := og8.apart nn12
  have nu10 : Nw H u10 := nn12.le lE
  replace ou2 := ou2.le le13
  replace og8 := og8.le le13
  replace hp := hp.le le13
  replace lE := lE.trans le13
  refine C.impl_LaneStep ou10.sl (by omega)  (fun g16 H14 og16 nn17  le15 => ?_)
  have au2Xg16 : Apart u2 g16 := ou2.apart nn17
  have ag8Xg16 : Apart g8 g16 := og8.apart nn17
  have au10Xg16 : Apart u10 g16 := ou10.apart nn17
  have ng16 : Nw H g16 := nn17.le lE
  replace ou2 := ou2.le le15
  replace og8 := og8.le le15
  replace ou10 := ou10.le le15
  replace hp := hp.le le15
  replace lE := lE.trans le15
  refine ob_i (vExt_30 _ _ _) ?_
  refine ob_i (vExt_31 _ _ _) ?_
  refine ob_i (vExt_32 _ _ _) ?_
  refine C.laws_eqInt64S og16.sl og8.sl (by omega) ?_
  rw [decide_eq_true rfl]
  refine ob_i (a := .bool false) rfl ?_
  refine gop_rf ?_
  refine gop_rf ?_
  refine gop_rf ?_
  refine ob_i (vInt_neq_same _ _) ?_
  refine ob_i (vPick_f _ _) ?_
  refine gop_rf ?_
  refine gop_rf ?_
  refine gop_rf ?_
  refine ob_i (vBool_neq_same _) ?_
  refine ob_i (vPick_f _ _) ?_
  refine cnd_f1 ?_
  refine C.laws_toInt64S hp (by omega) (fun u18 H19 ou18 nn20 le21 => ?_)
  have au2Xu18 : Apart u2 u18 := ou2.apart nn20
  have ag8Xu18 : Apart g8 u18 := og8.apart nn20
  have au10Xu18 : Apart u10 u18 := ou10.apart nn20
  have ag16Xu18 : Apart g16 u18 := og16.apart nn20
  have nu18 : Nw H u18 := nn20.le lE
  replace ou2 := ou2.le le21
  replace og8 := og8.le le21
  replace ou10 := ou10.le le21
  replace og16 := og16.le le21
  replace hp := hp.le le21
  replace lE := lE.trans le21
  refine C.laws_eqInt64S ou10.sl ou18.sl (by omega) ?_
  rw [decide_eq_true rfl]
  refine ob_i (a := .bool false) rfl ?_
  refine cnd_f1 ?_
  refine C.laws_markInt64S ou10 (by omega) (by omega) (by omega) (fun H22 ou10 off23 => ?_)
  replace ou2 := ou2.off off23 au2Xu10
  replace og8 := og8.off off23 ag8Xu10
  replace og16 := og16.off off23 au10Xg16.symm
  replace ou18 := ou18.off off23 au10Xu18.symm
  replace hp := hp0.le (off23.le lE nu10)
  replace lE := off23.le lE nu10
  refine ob_i (vInt_lss_f (by omega)) ?_
  refine gop_rf ?_
  refine gop_rf ?_
  refine gop_rf ?_
  refine C.laws_eqInt64S og16.sl og8.sl (by omega) ?_
  rw [decide_eq_true rfl]
  refine gop_rf ?_
  refine ob_i (a := .bool false) rfl ?_
  refine ob_i (vPick_f _ _) ?_
  refine gop_rf ?_
  refine gop_rf ?_
  refine gop_rf ?_
  refine ob_i (vInt_neq_same _ _) ?_
  refine ob_i (vPick_f _ _) ?_
  refine gop_rf ?_
  refine gop_rf ?_
  refine gop_rf ?_
  refine ob_i (vBool_neq_same _) ?_
  refine ob_i (vPick_f _ _) ?_
  refine cnd_f1 ?_
  refine C.laws_markInt64S og16 (by omega) (by omega) (by omega) (fun H24 og16 off25 => ?_)
  replace ou2 := ou2.off off25 au2Xg16
  replace og8 := og8.off off25 ag8Xg16
  replace ou10 := ou10.off off25 au10Xg16
  replace ou18 := ou18.off off25 ag16Xu18.symm
  replace hp := hp0.le (off25.le lE ng16)
  replace lE := off25.le lE ng16
  refine C.laws_heldInt64S og16.sl (by omega) (by omega) (by omega) ?_
  refine ob_i (vInt_lss_f (by omega)) ?_
  refine cnd_f1 ?_
  refine ob_i (vInt_neq_same _ _) ?_
  refine cnd_f1 ?_
  refine C.laws_toInt64S hp (by omega) (fun u26 H27 ou26 nn28 le29 => ?_)
  have au2Xu26 : Apart u2 u26 := ou2.apart nn28
  have ag8Xu26 : Apart g8 u26 := og8.apart nn28
  have au10Xu26 : Apart u10 u26 := ou10.apart nn28
  have ag16Xu26 : Apart g16 u26 := og16.apart nn28
  have au18Xu26 : Apart u18 u26 := ou18.apart nn28
  have nu26 : Nw H u26 := nn28.le lE
  replace ou2 := ou2.le le29
  replace og8 := og8.le le29
  replace ou10 := ou10.le le29
  replace og16 := og16.le le29
  replace ou18 := ou18.le le29
  replace hp := hp.le le29
  replace lE := lE.trans le29
  refine C.impl_LaneStep ou26.sl (by omega)  (fun g32 H30 og32 nn33  le31 => ?_)
  have au2Xg32 : Apart u2 g32 := ou2.apart nn33
  have ag8Xg32 : Apart g8 g32 := og8.apart nn33
  have au10Xg32 : Apart u10 g32 := ou10.apart nn33
  have ag16Xg32 : Apart g16 g32 := og16.apart nn33
  have au18Xg32 : Apart u18 g32 := ou18.apart nn33
  have au26Xg32 : Apart u26 g32 := ou26.apart nn33
  have ng32 : Nw H g32 := nn33.le lE
  replace ou2 := ou2.le le31
  replace og8 := og8.le le31
  replace ou10 := ou10.le le31
  replace og16 := og16.le le31
  replace ou18 := ou18.le le31
  replace ou26 := ou26.le le31
  replace hp := hp.le le31
  replace lE := lE.trans le31
  refine ob_i (vExt_30 _ _ _) ?_
  refine ob_i (vExt_31 _ _ _) ?_
  refine ob_i (vExt_32 _ _ _) ?_
  refine C.laws_eqInt64S og32.sl og8.sl (by omega) ?_
  rw [decide_eq_true rfl]
  refine ob_i (a := .bool false) rfl ?_
  refine gop_rf ?_
  refine gop_rf ?_
  refine gop_rf ?_
  refine ob_i (vInt_neq_same _ _) ?_
  refine ob_i (vPick_f _ _) ?_
  refine gop_rf ?_
  refine gop_rf ?_
  refine gop_rf ?_
  refine ob_i (vBool_neq_same _) ?_
  refine ob_i (vPick_f _ _) ?_
  refine cnd_f1 ?_
  refine C.laws_heldInt64S og16.sl (by omega) (by omega) (by omega) ?_
  refine ob_i (vInt_lss_f (by omega)) ?_
  refine cnd_f1 ?_
  refine ob_i (vInt_neq_same _ _) ?_
  refine cnd_f1 ?_
  exact hk _ lE
end Go.Proofs.Ytdfoobomlabffaa
