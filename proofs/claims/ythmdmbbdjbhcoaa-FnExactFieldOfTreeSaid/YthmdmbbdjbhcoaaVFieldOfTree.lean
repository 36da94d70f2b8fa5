/- Laws, each by its two sides: its function returns true, and what was known before stays. -/
import Derived.Test.YthmdmbbdjbhcoaaMFieldOfTree1
import Derived.Test.YthmdmbbdjbhcoaaMFieldOfTree0
namespace Go.Proofs.Ythmdmbbdjbhcoaa
open HL
set_option maxRecDepth 100000
theorem L.FnExactFieldOfTree {p : Value} {sp : List Int} {H : Hp} {K : Value → Hp → Prop} (hp0 : Sl eI H p sp) (msp : (sp).length ≤ 9223372036854775807) (hk : ∀ H', Le H H' → K (.bool true) H') :
    HT prg I.laws_FnExactFieldOfTree [p].toArray H K := by
 have hR := @tfP_len sp
 have lE := Le.refl H
 have hp := hp0
 refine R.laws_FnExactFieldOfTree ?_
 unfold F.laws_FnExactFieldOfTree
 refine ob_i (hp.len) ?_
 refine ob_i (vInt_gtr _ _ _) ?_
 refine cnd_d (fun hg1 => ?_) (fun hg1 => ?_)
 ·skip
  exact hk _ lE
 have : (sp).length ≤ 1048576 := by omega
 clear hg1
 refine C.laws_toInt64S hp (by omega) (fun u2 H3 ou2 nn4 le5 => ?_)
 replace hp := hp.le le5
 replace lE := lE.trans le5
 refine C.spec_FieldOfTree ou2.sl (by omega)  (fun g8 H6 og8 nn9  le7 => ?_)
 replace hp := hp.le le7
 replace lE := lE.trans le7
 refine ob_i (vExt_20 _ _) ?_
 refine ob_i (vExt_21 _ _) ?_
 refine nw_i (fun p10 H11 op10 nn12 le13 => ?_)
 have ag8Xp10 : Apart g8 p10 := og8.apart nn12
 have np10 : Nw H p10 := nn12.le lE
 replace og8 := og8.le le13
 replace hp := hp.le le13
 replace lE := lE.trans le13
 replace op10 : Cel H11 p10 [(.int .i64 (0)), (.int .i64 (0)), (.slice none 0 0)] := op10
 refine op10.stn (ws := [(.int .i64 (selI (tfP sp) (szz (lvT sp (topT sp))))), (.int .i64 (selI (tfP sp) (szz (lvT sp (topT sp))))), g8]) rfl rfl (oc1 rfl (oc1 rfl (oc1 og8.one oc0))) (fun H14 op10 off15 => ?_)
 replace og8 := og8.off off15 ag8Xp10
 replace hp := hp0.le (off15.le lE np10)
 replace lE := off15.le lE np10
 replace op10 : Cel H14 p10 [(.int .i64 (selI (tfP sp) (szz (lvT sp (topT sp))))), (.int .i64 (selI (tfP sp) (szz (lvT sp (topT sp))))), g8] := op10
 refine C.laws_toInt64S hp (by omega) (fun u16 H17 ou16 nn18 le19 => ?_)
 have ag8Xu16 : Apart g8 u16 := og8.apart nn18
 have ap10Xu16 : Apart p10 u16 := op10.apart nn18
 have nu16 : Nw H u16 := nn18.le lE
 replace og8 := og8.le le19
 replace op10 := op10.le le19
 replace hp := hp.le le19
 replace lE := lE.trans le19
 refine C.impl_FieldOfTree ou16.sl (by omega)  (fun g22 H20 og22 nn23  le21 => ?_)
 have ag8Xg22 : Apart g8 g22 := og8.apart nn23
 have ap10Xg22 : Apart p10 g22 := op10.apart nn23
 have au16Xg22 : Apart u16 g22 := ou16.apart nn23
 have ng22 : Nw H g22 := nn23.le lE
 replace og8 := og8.le le21
 replace op10 := op10.le le21
 replace ou16 := ou16.le le21
 replace hp := hp.le le21
 replace lE := lE.trans le21
 refine ob_i (vExt_20 _ _) ?_
 refine ob_i (vExt_21 _ _) ?_
 refine nw_i (fun p24 H25 op24 nn26 le27 => ?_)
 have ag8Xp24 : Apart g8 p24 := og8.apart nn26
 have ap10Xp24 : Apart p10 p24 := op10.apart nn26
 have au16Xp24 : Apart u16 p24 := ou16.apart nn26
 have ag22Xp24 : Apart g22 p24 := og22.apart nn26
 have np24 : Nw H p24 := nn26.le lE
 replace og8 := og8.le le27
 replace op10 := op10.le le27
 replace ou16 := ou16.le le27
 replace og22 := og22.le le27
 replace hp := hp.le le27
 replace lE := lE.trans le27
 replace op24 : Cel H25 p24 [(.int .i64 (0)), (.int .i64 (0)), (.slice none 0 0)] := op24
 refine op24.stn (ws := [(.int .i64 (selI (tfP sp) (szz (lvT sp (topT sp))))), (.int .i64 (selI (tfP sp) (szz (lvT sp (topT sp))))), g22]) rfl rfl (oc1 rfl (oc1 rfl (oc1 og22.one oc0))) (fun H28 op24 off29 => ?_)
 replace og8 := og8.off off29 ag8Xp24
 replace op10 := op10.off off29 ap10Xp24
 replace ou16 := ou16.off off29 au16Xp24
 replace og22 := og22.off off29 ag22Xp24
 replace hp := hp0.le (off29.le lE np24)
 replace lE := off29.le lE np24
 replace op24 : Cel H28 p24 [(.int .i64 (selI (tfP sp) (szz (lvT sp (topT sp))))), (.int .i64 (selI (tfP sp) (szz (lvT sp (topT sp))))), g22] := op24
 refine ob_i (op24.ldn rfl) ?_
 refine ob_i (op10.ldn rfl) ?_
 refine C.laws_eqField og22.sl og8.sl (by omega) (fun H30 le31 => ?_)
 replace og8 := og8.le le31
 replace op10 := op10.le le31
 replace ou16 := ou16.le le31
 replace og22 := og22.le le31
 replace op24 := op24.le le31
 replace hp := hp.le le31
 replace lE := lE.trans le31
 refine ob_i (a := .bool false) rfl ?_
 refine gop_rf ?_
 refine gop_rf ?_
 refine gop_rf ?_
 refine ob_i (vBool_neq_same _) ?_
 refine ob_i (vPick_f _ _) ?_
 refine cnd_f1 ?_
 refine C.laws_toInt64S hp (by omega) (fun u32 H33 ou32 nn34 le35 => ?_)
 replace og8 := og8.le le35
 replace op10 := op10.le le35
 replace ou16 := ou16.le le35
 replace og22 := og22.le le35
 replace op24 := op24.le le35
 replace hp := hp.le le35
 replace lE := lE.trans le35
 refine C.laws_eqInt64S ou16.sl ou32.sl (by omega) ?_
 rw [decide_eq_true rfl]
 refine ob_i (a := .bool false) rfl ?_
 refine cnd_f1 ?_
 refine C.laws_markInt64S ou16 (by omega) (by omega) (by omega) (fun H36 ou16 off37 => ?_)
 replace og8 := og8.off off37 ag8Xu16
 replace op10 := op10.off off37 ap10Xu16
 replace og22 := og22.off off37 au16Xg22.symm
 replace op24 := op24.off off37 au16Xp24.symm
 replace hp := hp0.le (off37.le lE nu16)
 replace lE := off37.le lE nu16
 refine ob_i (vInt_lss_f (by omega)) ?_
 refine gop_rf ?_
 refine ob_i (op24.ldn rfl) ?_
 refine gop_rf ?_
 refine ob_i (op10.ldn rfl) ?_
 refine gop_rf ?_
 refine C.laws_eqField og22.sl og8.sl (by omega) (fun H38 le39 => ?_)
 replace og8 := og8.le le39
 replace op10 := op10.le le39
 replace og22 := og22.le le39
 replace op24 := op24.le le39
 replace hp := hp.le le39
 replace lE := lE.trans le39
 refine gop_rf ?_
 refine ob_i (a := .bool false) rfl ?_
 refine ob_i (vPick_f _ _) ?_
 refine gop_rf ?_
 refine gop_rf ?_
 refine gop_rf ?_
 refine ob_i (vBool_neq_same _) ?_
 refine ob_i (vPick_f _ _) ?_
 refine cnd_f1 ?_
 refine ob_i (op24.ldn rfl) ?_
 refine R.laws_markField ?_
 unfold F.laws_markField
 refine nw_i (fun p40 H41 op40 nn42 le43 => ?_)
 replace og8 := og8.le le43
 replace op10 := op10.le le43
 replace og22 := og22.le le43
 replace op24 := op24.le le43
 replace hp := hp.le le43
 replace lE := lE.trans le43
 replace op40 : Cel H41 p40 [(.int .i64 (selI (tfP sp) (szz (lvT sp (topT sp))))), (.int .i64 (selI (tfP sp) (szz (lvT sp (topT sp))))), g22] := op40
 refine ob_i (op40.fa 2) ?_
 refine ob_i (op40.ld 2 rfl) ?_
 refine C.laws_markInt64S og22 (by omega) (by omega) (by omega) (fun H44 og22 off45 => ?_)
 replace og8 := og8.off off45 ag8Xg22
 replace op10 := op10.off off45 ap10Xg22
 replace op24 := op24.off off45 ag22Xp24.symm
 replace hp := hp0.le (off45.le lE ng22)
 replace lE := off45.le lE ng22
 refine ob_i (op24.ldn rfl) ?_
 refine R.laws_heldField ?_
 unfold F.laws_heldField
 refine nw_i (fun p46 H47 op46 nn48 le49 => ?_)
 replace og8 := og8.le le49
 replace op10 := op10.le le49
 replace og22 := og22.le le49
 replace op24 := op24.le le49
 replace hp := hp.le le49
 replace lE := lE.trans le49
 replace op46 : Cel H47 p46 [(.int .i64 (selI (tfP sp) (szz (lvT sp (topT sp))))), (.int .i64 (selI (tfP sp) (szz (lvT sp (topT sp))))), g22] := op46
 refine ob_i (op46.fa 2) ?_
 refine ob_i (op46.ld 2 rfl) ?_
 refine C.laws_heldInt64S og22.sl (by omega) (by omega) (by omega) ?_
 refine ob_i (vInt_lss_f (by omega)) ?_
 refine cnd_f1 ?_
 refine ob_i (vInt_lss_f (by omega)) ?_
 refine cnd_f1 ?_
 refine ob_i (vInt_neq_same _ _) ?_
 refine cnd_f1 ?_
 refine C.laws_toInt64S hp (by omega) (fun u50 H51 ou50 nn52 le53 => ?_)
 replace og8 := og8.le le53
 replace op10 := op10.le le53
 replace og22 := og22.le le53
 replace op24 := op24.le le53
 replace hp := hp.le le53
 replace lE := lE.trans le53
 refine C.impl_FieldOfTree ou50.sl (by omega)  (fun g56 H54 og56 nn57  le55 => ?_)
 replace og8 := og8.le le55
 replace op10 := op10.le le55
 replace og22 := og22.le le55
 replace op24 := op24.le le55
 replace hp := hp.le le55
 replace lE := lE.trans le55
 refine ob_i (vExt_20 _ _) ?_
 refine ob_i (vExt_21 _ _) ?_
 refine nw_i (fun p58 H59 op58 nn60 le61 => ?_)
 have ag8Xp58 : Apart g8 p58 := og8.apart nn60
 have ap10Xp58 : Apart p10 p58 := op10.apart nn60
 have ag22Xp58 : Apart g22 p58 := og22.apart nn60
 have ap24Xp58 : Apart p24 p58 := op24.apart nn60
 have ag56Xp58 : Apart g56 p58 := og56.apart nn60
 have np58 : Nw H p58 := nn60.le lE
 replace og8 := og8.le le61
 replace op10 := op10.le le61
 replace og22 := og22.le le61
 replace op24 := op24.le le61
 replace og56 := og56.le le61
 replace hp := hp.le le61
 replace lE := lE.trans le61
 replace op58 : Cel H59 p58 [(.int .i64 (0)), (.int .i64 (0)), (.slice none 0 0)] := op58
 refine op58.stn (ws := [(.int .i64 (selI (tfP sp) (szz (lvT sp (topT sp))))), (.int .i64 (selI (tfP sp) (szz (lvT sp (topT sp))))), g56]) rfl rfl (oc1 rfl (oc1 rfl (oc1 og56.one oc0))) (fun H62 op58 off63 => ?_)
 replace og8 := og8.off off63 ag8Xp58
 replace op10 := op10.off off63 ap10Xp58
 replace og22 := og22.off off63 ag22Xp58
 replace op24 := op24.off off63 ap24Xp58
 replace og56 := og56.off off63 ag56Xp58
 replace hp := hp0.le (off63.le lE np58)
 replace lE := off63.le lE np58
 replace op58 : Cel H62 p58 [(.int .i64 (selI (tfP sp) (szz (lvT sp (topT sp))))), (.int .i64 (selI (tfP sp) (szz (lvT sp (topT sp))))), g56] := op58
 refine ob_i (op58.ldn rfl) ?_
 refine ob_i (op10.ldn rfl) ?_
 refine C.laws_eqField og56.sl og8.sl (by omega) (fun H64 le65 => ?_)
 replace og22 := og22.le le65
 replace op24 := op24.le le65
 replace lE := lE.trans le65
 refine ob_i (a := .bool false) rfl ?_
 refine gop_rf ?_
 refine gop_rf ?_
 refine gop_rf ?_
 refine ob_i (vBool_neq_same _) ?_
 refine ob_i (vPick_f _ _) ?_
 refine cnd_f1 ?_
 refine ob_i (op24.ldn rfl) ?_
 refine R.laws_heldField ?_
 unfold F.laws_heldField
 refine nw_i (fun p66 H67 op66 nn68 le69 => ?_)
 replace og22 := og22.le le69
 replace lE := lE.trans le69
 replace op66 : Cel H67 p66 [(.int .i64 (selI (tfP sp) (szz (lvT sp (topT sp))))), (.int .i64 (selI (tfP sp) (szz (lvT sp (topT sp))))), g22] := op66
 refine ob_i (op66.fa 2) ?_
 refine ob_i (op66.ld 2 rfl) ?_
 refine C.laws_heldInt64S og22.sl (by omega) (by omega) (by omega) ?_
 refine ob_i (vInt_lss_f (by omega)) ?_
 refine cnd_f1 ?_
 refine ob_i (vInt_lss_f (by omega)) ?_
 refine cnd_f1 ?_
 refine ob_i (vInt_neq_same _ _) ?_
 refine cnd_f1 ?_
 exact hk _ lE
end Go.Proofs.Ythmdmbbdjbhcoaa
