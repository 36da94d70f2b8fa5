/- Laws, each by its two sides: its function returns true, and what was known before stays. -/
import Derived.Test.YtdfoobomlabffaaSQ
import Derived.Test.YtdfoobomlabffaaSR
namespace Go.Proofs.Ytdfoobomlabffaa
open HL
set_option maxRecDepth 100000
--@ L.FnExactDenseBlocks needs laws_FnExactDenseBlocks
theorem L.FnExactDenseBlocks {pa : Int} {pb : Int} {pc : Int} {pd : Value} {spd : List Int} {pe : Value} {spe : List Bool} {q : Int} {r : Int} {H : Hp} {K : Value → Hp → Prop} (hpd0 : Sl eI H pd spd) (hpe0 : Sl eB H pe spe) (wq0 : -9223372036854775808 ≤ q) (wq1 : q < 9223372036854775808) (wr0 : -9223372036854775808 ≤ r) (wr1 : r < 9223372036854775808) (mspd : (spd).length ≤ 9223372036854775807) (mspe : (spe).length ≤ 9223372036854775807) (hk : ∀ H', Le H H' → K (.bool true) H') :
    HT prg I.laws_FnExactDenseBlocks [(.agg #[(.int .i64 (pa)), (.int .i64 (pb)), (.int .i64 (pc)), pd, pe]), (.int .i64 (q)), (.int .i64 (r))].toArray H K := by
  have hR := @denL_len pa pb pc spd spe q r
  have lE := Le.refl H
  have hpd := hpd0
  have hpe := hpe0
  refine R.laws_FnExactDenseBlocks ?_
  unfold F.laws_FnExactDenseBlocks
  refine nw_i (fun p1 H2 op1 nn3 le4 => ?_)
  have np1 : Nw H p1 := nn3.le lE
  replace hpd := hpd.le le4
  replace hpe := hpe.le le4
  replace lE := lE.trans le4
  replace op1 : Cel H2 p1 [(.int .i64 (pa)), (.int .i64 (pb)), (.int .i64 (pc)), pd, pe] := op1
  refine ob_i (op1.ldn rfl) ?_
  refine C.laws_szGas hpd hpe (by omega) (by omega) (by omega) (by omega) (fun H6 le7 => ?_) (fun H6 le7 hz5 => ?_)
  · skip
    replace op1 := op1.le le7
    replace hpd := hpd.le le7
    replace hpe := hpe.le le7
    replace lE := lE.trans le7
    refine ob_i (vInt_lss_t (by omega)) ?_
    refine cnd_t1 ?_
    exact hk _ lE
  replace op1 := op1.le le7
  replace hpd := hpd.le le7
  replace hpe := hpe.le le7
  replace lE := lE.trans le7
  refine ob_i (vInt_lss_f (by omega)) ?_
  refine cnd_f1 ?_
  refine ob_i (op1.ldn rfl) ?_
  refine C.laws_toGas hpd hpe (by omega) (by omega) (fun u8 u9 H10 ou8 ou9 nn12 nn13 au8Xu9 le11 => ?_)
  have ap1Xu8 : Apart p1 u8 := op1.apart nn12
  have nu8 : Nw H u8 := nn12.le lE
  have ap1Xu9 : Apart p1 u9 := op1.apart nn13
  have nu9 : Nw H u9 := nn13.le lE
  replace op1 := op1.le le11
  replace hpd := hpd.le le11
  replace hpe := hpe.le le11
  replace lE := lE.trans le11
  refine C.spec_DenseBlocks ou8.sl ou9.sl (by omega) (by omega)  (fun g16 H14 og16 nn17  le15 => ?_)
  have ap1Xg16 : Apart p1 g16 := op1.apart nn17
  have au8Xg16 : Apart u8 g16 := ou8.apart nn17
  have au9Xg16 : Apart u9 g16 := ou9.apart nn17
  have ng16 : Nw H g16 := nn17.le lE
  replace op1 := op1.le le15
  replace ou8 := ou8.le le15
  replace ou9 := ou9.le le15
  replace hpd := hpd.le le15
  replace hpe := hpe.le le15
  replace lE := lE.trans le15
  refine ob_i (vExt_20 _ _) ?_
  refine ob_i (vExt_21 _ _) ?_
  refine ob_i (op1.ldn rfl) ?_
  refine C.laws_toGas hpd hpe (by omega) (by omega) (fun u18 u19 H20 ou18 ou19 nn22 nn23 au18Xu19 le21 => ?_)
  have ap1Xu18 : Apart p1 u18 := op1.apart nn22
  have au8Xu18 : Apart u8 u18 := ou8.apart nn22
  have au9Xu18 : Apart u9 u18 := ou9.apart nn22
  have ag16Xu18 : Apart g16 u18 := og16.apart nn22
  have nu18 : Nw H u18 := nn22.le lE
  have ap1Xu19 : Apart p1 u19 := op1.apart nn23
  have au8Xu19 : Apart u8 u19 := ou8.apart nn23
  have au9Xu19 : Apart u9 u19 := ou9.apart nn23
  have ag16Xu19 : Apart g16 u19 := og16.apart nn23
  have nu19 : Nw H u19 := nn23.le lE
  replace op1 := op1.le le21
  replace ou8 := ou8.le le21
  replace ou9 := ou9.le le21
  replace og16 := og16.le le21
  replace hpd := hpd.le le21
  replace hpe := hpe.le le21
  replace lE := lE.trans le21
  refine nw_i (fun p24 H25 op24 nn26 le27 => ?_)
  have ap1Xp24 : Apart p1 p24 := op1.apart nn26
  have au8Xp24 : Apart u8 p24 := ou8.apart nn26
  have au9Xp24 : Apart u9 p24 := ou9.apart nn26
  have ag16Xp24 : Apart g16 p24 := og16.apart nn26
  have au18Xp24 : Apart u18 p24 := ou18.apart nn26
  have au19Xp24 : Apart u19 p24 := ou19.apart nn26
  have np24 : Nw H p24 := nn26.le lE
  replace op1 := op1.le le27
  replace ou8 := ou8.le le27
  replace ou9 := ou9.le le27
  replace og16 := og16.le le27
  replace ou18 := ou18.le le27
  replace ou19 := ou19.le le27
  replace hpd := hpd.le le27
  replace hpe := hpe.le le27
  replace lE := lE.trans le27
  replace op24 : Cel H25 p24 [(.int .i64 (0)), (.int .i64 (0)), (.int .i64 (0)), (.slice none 0 0), (.slice none 0 0)] := op24
  refine op24.stn (ws := [(.int .i64 (pa)), (.int .i64 (pb)), (.int .i64 (pc)), u18, u19]) rfl rfl (oc1 rfl (oc1 rfl (oc1 rfl (oc1 ou18.one (oc1 ou19.one oc0))))) (fun H28 op24 off29 => ?_)
  replace op1 := op1.off off29 ap1Xp24
  replace ou8 := ou8.off off29 au8Xp24
  replace ou9 := ou9.off off29 au9Xp24
  replace og16 := og16.off off29 ag16Xp24
  replace ou18 := ou18.off off29 au18Xp24
  replace ou19 := ou19.off off29 au19Xp24
  replace hpd := hpd0.le (off29.le lE np24)
  replace hpe := hpe0.le (off29.le lE np24)
  replace lE := off29.le lE np24
  replace op24 : Cel H28 p24 [(.int .i64 (pa)), (.int .i64 (pb)), (.int .i64 (pc)), u18, u19] := op24
  refine ob_i (op24.ldn rfl) ?_
  refine C.impl_DenseBlocks ou18.sl ou19.sl (by omega) (by omega)  (fun g32 H30 og32 nn33  le31 => ?_)
  have ap1Xg32 : Apart p1 g32 := op1.apart nn33
  have au8Xg32 : Apart u8 g32 := ou8.apart nn33
  have au9Xg32 : Apart u9 g32 := ou9.apart nn33
  have ag16Xg32 : Apart g16 g32 := og16.apart nn33
  have au18Xg32 : Apart u18 g32 := ou18.apart nn33
  have au19Xg32 : Apart u19 g32 := ou19.apart nn33
  have ap24Xg32 : Apart p24 g32 := op24.apart nn33
  have ng32 : Nw H g32 := nn33.le lE
  replace op1 := op1.le le31
  replace ou8 := ou8.le le31
  replace ou9 := ou9.le le31
  replace og16 := og16.le le31
  replace ou18 := ou18.le le31
  replace ou19 := ou19.le le31
  replace op24 := op24.le le31
  replace hpd := hpd.le le31
  replace hpe := hpe.le le31
  replace lE := lE.trans le31
  refine ob_i (vExt_20 _ _) ?_
  refine ob_i (vExt_21 _ _) ?_
  refine C.laws_eqInt64S og32.sl og16.sl (by omega) ?_
  rw [decide_eq_true rfl]
  refine ob_i (a := .bool false) rfl ?_
  refine gop_rf ?_
  refine gop_rf ?_
  refine gop_rf ?_
  refine ob_i (vBool_neq_same _) ?_
  refine ob_i (vPick_f _ _) ?_
  refine cnd_f1 ?_
  refine ob_i (op24.ldn rfl) ?_
  refine ob_i (op1.ldn rfl) ?_
  refine C.laws_toGas hpd hpe (by omega) (by omega) (fun u34 u35 H36 ou34 ou35 nn38 nn39 au34Xu35 le37 => ?_)
  have ap1Xu34 : Apart p1 u34 := op1.apart nn38
  have au8Xu34 : Apart u8 u34 := ou8.apart nn38
  have au9Xu34 : Apart u9 u34 := ou9.apart nn38
  have ag16Xu34 : Apart g16 u34 := og16.apart nn38
  have au18Xu34 : Apart u18 u34 := ou18.apart nn38
  have au19Xu34 : Apart u19 u34 := ou19.apart nn38
  have ap24Xu34 : Apart p24 u34 := op24.apart nn38
  have ag32Xu34 : Apart g32 u34 := og32.apart nn38
  have nu34 : Nw H u34 := nn38.le lE
  have ap1Xu35 : Apart p1 u35 := op1.apart nn39
  have au8Xu35 : Apart u8 u35 := ou8.apart nn39
  have au9Xu35 : Apart u9 u35 := ou9.apart nn39
  have ag16Xu35 : Apart g16 u35 := og16.apart nn39
  have au18Xu35 : Apart u18 u35 := ou18.apart nn39
  have au19Xu35 : Apart u19 u35 := ou19.apart nn39
  have ap24Xu35 : Apart p24 u35 := op24.apart nn39
  have ag32Xu35 : Apart g32 u35 := og32.apart nn39
  have nu35 : Nw H u35 := nn39.le lE
  replace op1 := op1.le le37
  replace ou8 := ou8.le le37
  replace ou9 := ou9.le le37
  replace og16 := og16.le le37
  replace ou18 := ou18.le le37
  replace ou19 := ou19.le le37
  replace op24 := op24.le le37
  replace og32 := og32.le le37
  replace hpd := hpd.le le37
  replace hpe := hpe.le le37
  replace lE := lE.trans le37
  refine ⟨le37, ?_⟩
  refine C.laws_eqGas ou18.sl ou34.sl ou19.sl ou35.sl (by omega) (by omega) (fun H40 le41 => ?_)
  replace op1 := op1.le le41
  replace ou8 := ou8.le le41
  replace ou9 := ou9.le le41
  replace og16 := og16.le le41
  replace ou18 := ou18.le le41
  replace ou19 := ou19.le le41
  replace op24 := op24.le le41
  replace og32 := og32.le le41
  replace ou34 := ou34.le le41
  replace ou35 := ou35.le le41
  replace hpd := hpd.le le41
  replace hpe := hpe.le le41
  replace lE := lE.trans le41
  refine ⟨le41, ?_⟩
  refine ob_i (a := .bool false) rfl ?_
  refine cnd_f1 ?_
  refine ob_i (op24.ldn rfl) ?_
  refine R.laws_markGas ?_
  unfold F.laws_markGas
  refine nw_i (fun p42 H43 op42 nn44 le45 => ?_)
  have ap1Xp42 : Apart p1 p42 := op1.apart nn44
  have au8Xp42 : Apart u8 p42 := ou8.apart nn44
  have au9Xp42 : Apart u9 p42 := ou9.apart nn44
  have ag16Xp42 : Apart g16 p42 := og16.apart nn44
  have au18Xp42 : Apart u18 p42 := ou18.apart nn44
  have au19Xp42 : Apart u19 p42 := ou19.apart nn44
  have ap24Xp42 : Apart p24 p42 := op24.apart nn44
  have ag32Xp42 : Apart g32 p42 := og32.apart nn44
  have au34Xp42 : Apart u34 p42 := ou34.apart nn44
  have au35Xp42 : Apart u35 p42 := ou35.apart nn44
  have np42 : Nw H p42 := nn44.le lE
  replace op1 := op1.le le45
  replace ou8 := ou8.le le45
  replace ou9 := ou9.le le45
  replace og16 := og16.le le45
  replace ou18 := ou18.le le45
  replace ou19 := ou19.le le45
  replace op24 := op24.le le45
  replace og32 := og32.le le45
  replace ou34 := ou34.le le45
  replace ou35 := ou35.le le45
  replace hpd := hpd.le le45
  replace hpe := hpe.le le45
  replace lE := lE.trans le45
  replace op42 : Cel H43 p42 [(.int .i64 (pa)), (.int .i64 (pb)), (.int .i64 (pc)), u18, u19] := op42
  refine ob_i (op42.fa 3) ?_
  refine ob_i (op42.ld 3 rfl) ?_
  refine C.laws_markInt64S ou18 (by omega) (by omega) (by omega) (fun H46 ou18 off47 => ?_)
  replace op1 := op1.off off47 ap1Xu18
  replace ou8 := ou8.off off47 au8Xu18
  replace ou9 := ou9.off off47 au9Xu18
  replace og16 := og16.off off47 ag16Xu18
  replace ou19 := ou19.off off47 au18Xu19.symm
  replace op24 := op24.off off47 au18Xp24.symm
  replace og32 := og32.off off47 au18Xg32.symm
  replace ou34 := ou34.off off47 au18Xu34.symm
  replace ou35 := ou35.off off47 au18Xu35.symm
  replace op42 := op42.off off47 au18Xp42.symm
  replace hpd := hpd0.le (off47.le lE nu18)
  replace hpe := hpe0.le (off47.le lE nu18)
  replace lE := off47.le lE nu18
  refine ob_i (op42.fa 4) ?_
  refine ob_i (op42.ld 4 rfl) ?_
  refine C.laws_markBoolS ou19 (by omega) (by omega) (by omega) (fun H48 ou19 off49 => ?_)
  replace op1 := op1.off off49 ap1Xu19
  replace ou8 := ou8.off off49 au8Xu19
  replace ou9 := ou9.off off49 au9Xu19
  replace og16 := og16.off off49 ag16Xu19
  replace ou18 := ou18.off off49 au18Xu19
  replace op24 := op24.off off49 au19Xp24.symm
  replace og32 := og32.off off49 au19Xg32.symm
  replace ou34 := ou34.off off49 au19Xu34.symm
  replace ou35 := ou35.off off49 au19Xu35.symm
  replace op42 := op42.off off49 au19Xp42.symm
  replace hpd := hpd0.le (off49.le lE nu19)
  replace hpe := hpe0.le (off49.le lE nu19)
  replace lE := off49.le lE nu19
  refine ob_i (vInt_lss_f (by omega)) ?_
  refine gop_rf ?_
  refine gop_rf ?_
  refine gop_rf ?_
  refine C.laws_eqInt64S og32.sl og16.sl (by omega) ?_
  rw [decide_eq_true rfl]
  refine gop_rf ?_
  refine ob_i (a := .bool false) rfl ?_
  refine ob_i (vPick_f _ _) ?_
  refine gop_rf ?_
  refine gop_rf ?_
  refine gop_rf ?_
  refine ob_i (vBool_neq_same _) ?_
  refine ob_i (vPick_f _ _) ?_
  refine cnd_f1 ?_
  refine C.laws_markInt64S og32 (by omega) (by omega) (by omega) (fun H50 og32 off51 => ?_)
  replace op1 := op1.off off51 ap1Xg32
  replace ou8 := ou8.off off51 au8Xg32
  replace ou9 := ou9.off off51 au9Xg32
  replace og16 := og16.off off51 ag16Xg32
  replace ou18 := ou18.off off51 au18Xg32
  replace ou19 := ou19.off off51 au19Xg32
  replace op24 := op24.off off51 ap24Xg32
  replace ou34 := ou34.off off51 ag32Xu34.symm
  replace ou35 := ou35.off off51 ag32Xu35.symm
  replace op42 := op42.off off51 ag32Xp42.symm
  replace hpd := hpd0.le (off51.le lE ng32)
  replace hpe := hpe0.le (off51.le lE ng32)
  replace lE := off51.le lE ng32
  refine C.laws_heldInt64S og32.sl (by omega) (by omega) (by omega) ?_
  refine ob_i (vInt_lss_f (by omega)) ?_
  refine cnd_f1 ?_
  refine ob_i (vInt_neq_same _ _) ?_
  refine cnd_f1 ?_
  refine ob_i (op1.ldn rfl) ?_
  refine C.laws_toGas hpd hpe (by omega) (by omega) (fun u52 u53 H54 ou52 ou53 nn56 nn57 au52Xu53 le55 => ?_)
  have ap1Xu52 : Apart p1 u52 := op1.apart nn56
  have au8Xu52 : Apart u8 u52 := ou8.apart nn56
  have au9Xu52 : Apart u9 u52 := ou9.apart nn56
  have ag16Xu52 : Apart g16 u52 := og16.apart nn56
  have au18Xu52 : Apart u18 u52 := ou18.apart nn56
  have au19Xu52 : Apart u19 u52 := ou19.apart nn56
  have ap24Xu52 : Apart p24 u52 := op24.apart nn56
  have ag32Xu52 : Apart g32 u52 := og32.apart nn56
  have au34Xu52 : Apart u34 u52 := ou34.apart nn56
  have au35Xu52 : Apart u35 u52 := ou35.apart nn56
  have ap42Xu52 : Apart p42 u52 := op42.apart nn56
  have nu52 : Nw H u52 := nn56.le lE
  have ap1Xu53 : Apart p1 u53 := op1.apart nn57
  have au8Xu53 : Apart u8 u53 := ou8.apart nn57
  have au9Xu53 : Apart u9 u53 := ou9.apart nn57
  have ag16Xu53 : Apart g16 u53 := og16.apart nn57
  have au18Xu53 : Apart u18 u53 := ou18.apart nn57
  have au19Xu53 : Apart u19 u53 := ou19.apart nn57
  have ap24Xu53 : Apart p24 u53 := op24.apart nn57
  have ag32Xu53 : Apart g32 u53 := og32.apart nn57
  have au34Xu53 : Apart u34 u53 := ou34.apart nn57
  have au35Xu53 : Apart u35 u53 := ou35.apart nn57
  have ap42Xu53 : Apart p42 u53 := op42.apart nn57
  have nu53 : Nw H u53 := nn57.le lE
  replace op1 := op1.le le55
  replace ou8 := ou8.le le55
  replace ou9 := ou9.le le55
  replace og16 := og16.le le55
  replace ou18 := ou18.le le55
  replace ou19 := ou19.le le55
  replace op24 := op24.le le55
  replace og32 := og32.le le55
  replace ou34 := ou34.le le55
  replace ou35 := ou35.le le55
  replace op42 := op42.le le55
  replace hpd := hpd.le le55
  replace hpe := hpe.le le55
  replace lE := lE.trans le55
  refine C.impl_DenseBlocks ou52.sl ou53.sl (by omega) (by omega)  (fun g60 H58 og60 nn61  le59 => ?_)
  have ap1Xg60 : Apart p1 g60 := op1.apart nn61
  have au8Xg60 : Apart u8 g60 := ou8.apart nn61
  have au9Xg60 : Apart u9 g60 := ou9.apart nn61
  have ag16Xg60 : Apart g16 g60 := og16.apart nn61
  have au18Xg60 : Apart u18 g60 := ou18.apart nn61
  have au19Xg60 : Apart u19 g60 := ou19.apart nn61
  have ap24Xg60 : Apart p24 g60 := op24.apart nn61
  have ag32Xg60 : Apart g32 g60 := og32.apart nn61
  have au34Xg60 : Apart u34 g60 := ou34.apart nn61
  have au35Xg60 : Apart u35 g60 := ou35.apart nn61
  have ap42Xg60 : Apart p42 g60 := op42.apart nn61
  have au52Xg60 : Apart u52 g60 := ou52.apart nn61
  have au53Xg60 : Apart u53 g60 := ou53.apart nn61
  have ng60 : Nw H g60 := nn61.le lE
  replace op1 := op1.le le59
  replace ou8 := ou8.le le59
  replace ou9 := ou9.le le59
  replace og16 := og16.le le59
  replace ou18 := ou18.le le59
  replace ou19 := ou19.le le59
  replace op24 := op24.le le59
  replace og32 := og32.le le59
  replace ou34 := ou34.le le59
  replace ou35 := ou35.le le59
  replace op42 := op42.le le59
  replace ou52 := ou52.le le59
  replace ou53 := ou53.le le59
  replace hpd := hpd.le le59
  replace hpe := hpe.le le59
  replace lE := lE.trans le59
  refine ob_i (vExt_20 _ _) ?_
  refine ob_i (vExt_21 _ _) ?_
  refine C.laws_eqInt64S og60.sl og16.sl (by omega) ?_
  rw [decide_eq_true rfl]
  refine ob_i (a := .bool false) rfl ?_
  refine gop_rf ?_
  refine gop_rf ?_
  refine gop_rf ?_
  refine ob_i (vBool_neq_same _) ?_
  refine ob_i (vPick_f _ _) ?_
  refine cnd_f1 ?_
  refine C.laws_heldInt64S og32.sl (by omega) (by omega) (by omega) ?_
  refine ob_i (vInt_lss_f (by omega)) ?_
  refine cnd_f1 ?_
  refine ob_i (vInt_neq_same _ _) ?_
  refine cnd_f1 ?_
  exact hk _ lE
end Go.Proofs.Ytdfoobomlabffaa
