/- Laws, each by its two sides: its function returns true, and what was known before stays. -/
import Derived.Test.YthocjpfibegjcaaGreatDoorMCensusOf3
import Derived.Test.YthocjpfibegjcaaGreatDoorMCensusOf0
namespace Go.Proofs.YthocjpfibegjcaaGreatDoor
open HL
set_option maxRecDepth 100000
theorem L.FnExactCensusOf {pa : Int} {pb : Int} {pc : Value} {spc : List Int} {H : Hp} {K : Value → Hp → Prop} (hpc0 : Sl eI H pc spc) (mspc : (spc).length ≤ 9223372036854775807) (hk : ∀ H', Le H H' → K (.bool true) H') :
    HT prg I.laws_FnExactCensusOf [(.agg #[(.int .i64 (pa)), (.int .i64 (pb)), pc])].toArray H K := by
  have hR := @cenP_len pa pb spc
  have lE := Le.refl H
  have hpc := hpc0
  refine R.laws_FnExactCensusOf ?_
  unfold F.laws_FnExactCensusOf
  refine nw_i (fun p1 H2 op1 nn3 le4 => ?_)
  have np1 : Nw H p1 := nn3.le lE
  replace hpc := hpc.le le4
  replace lE := lE.trans le4
  replace op1 : Cel H2 p1 [(.int .i64 (pa)), (.int .i64 (pb)), pc] := op1
  refine ob_i (op1.ldn rfl) ?_
  refine C.laws_szField hpc (by omega) (by omega) (by omega) (fun H6 le7 => ?_) (fun H6 le7 hz5 => ?_)
  · skip
    replace op1 := op1.le le7
    replace hpc := hpc.le le7
    replace lE := lE.trans le7
    refine ob_i (vInt_lss_t (by omega)) ?_
    refine cnd_t1 ?_
    exact hk _ lE
  replace op1 := op1.le le7
  replace hpc := hpc.le le7
  replace lE := lE.trans le7
  refine ob_i (vInt_lss_f (by omega)) ?_
  refine cnd_f1 ?_
  refine ob_i (op1.ldn rfl) ?_
  refine C.laws_toField hpc (by omega) (fun u8 H9 ou8 nn11  le10 => ?_)
  have ap1Xu8 : Apart p1 u8 := op1.apart nn11
  have nu8 : Nw H u8 := nn11.le lE
  replace op1 := op1.le le10
  replace hpc := hpc.le le10
  replace lE := lE.trans le10
  refine C.spec_CensusOf ou8.sl (by omega)  (fun g14 g16 H12 og14 og16 nn15 nn17 ag14Xg16 le13 => ?_)
  have ap1Xg14 : Apart p1 g14 := op1.apart nn15
  have au8Xg14 : Apart u8 g14 := ou8.apart nn15
  have ng14 : Nw H g14 := nn15.le lE
  have ap1Xg16 : Apart p1 g16 := op1.apart nn17
  have au8Xg16 : Apart u8 g16 := ou8.apart nn17
  have ng16 : Nw H g16 := nn17.le lE
  replace op1 := op1.le le13
  replace ou8 := ou8.le le13
  replace hpc := hpc.le le13
  replace lE := lE.trans le13
  refine ob_i (vExt_30 _ _ _) ?_
  refine ob_i (vExt_31 _ _ _) ?_
  refine ob_i (vExt_32 _ _ _) ?_
  refine ob_i (op1.ldn rfl) ?_
  refine C.laws_toField hpc (by omega) (fun u18 H19 ou18 nn21  le20 => ?_)
  have ap1Xu18 : Apart p1 u18 := op1.apart nn21
  have au8Xu18 : Apart u8 u18 := ou8.apart nn21
  have ag14Xu18 : Apart g14 u18 := og14.apart nn21
  have ag16Xu18 : Apart g16 u18 := og16.apart nn21
  have nu18 : Nw H u18 := nn21.le lE
  replace op1 := op1.le le20
  replace ou8 := ou8.le le20
  replace og14 := og14.le le20
  replace og16 := og16.le le20
  replace hpc := hpc.le le20
  replace lE := lE.trans le20
  refine nw_i (fun p22 H23 op22 nn24 le25 => ?_)
  have ap1Xp22 : Apart p1 p22 := op1.apart nn24
  have au8Xp22 : Apart u8 p22 := ou8.apart nn24
  have ag14Xp22 : Apart g14 p22 := og14.apart nn24
  have ag16Xp22 : Apart g16 p22 := og16.apart nn24
  have au18Xp22 : Apart u18 p22 := ou18.apart nn24
  have np22 : Nw H p22 := nn24.le lE
  replace op1 := op1.le le25
  replace ou8 := ou8.le le25
  replace og14 := og14.le le25
  replace og16 := og16.le le25
  replace ou18 := ou18.le le25
  replace hpc := hpc.le le25
  replace lE := lE.trans le25
  replace op22 : Cel H23 p22 [(.int .i64 (0)), (.int .i64 (0)), (.slice none 0 0)] := op22
  refine op22.stn (ws := [(.int .i64 (pa)), (.int .i64 (pb)), u18]) rfl rfl (oc1 rfl (oc1 rfl (oc1 ou18.one oc0))) (fun H26 op22 off27 => ?_)
  replace op1 := op1.off off27 ap1Xp22
  replace ou8 := ou8.off off27 au8Xp22
  replace og14 := og14.off off27 ag14Xp22
  replace og16 := og16.off off27 ag16Xp22
  replace ou18 := ou18.off off27 au18Xp22
  replace hpc := hpc0.le (off27.le lE np22)
  replace lE := off27.le lE np22
  replace op22 : Cel H26 p22 [(.int .i64 (pa)), (.int .i64 (pb)), u18] := op22
  refine ob_i (op22.ldn rfl) ?_
  refine C.impl_CensusOf ou18.sl (by omega)  (fun g30 g32 H28 og30 og32 nn31 nn33 ag30Xg32 le29 => ?_)
  have ap1Xg30 : Apart p1 g30 := op1.apart nn31
  have au8Xg30 : Apart u8 g30 := ou8.apart nn31
  have ag14Xg30 : Apart g14 g30 := og14.apart nn31
  have ag16Xg30 : Apart g16 g30 := og16.apart nn31
  have au18Xg30 : Apart u18 g30 := ou18.apart nn31
  have ap22Xg30 : Apart p22 g30 := op22.apart nn31
  have ng30 : Nw H g30 := nn31.le lE
  have ap1Xg32 : Apart p1 g32 := op1.apart nn33
  have au8Xg32 : Apart u8 g32 := ou8.apart nn33
  have ag14Xg32 : Apart g14 g32 := og14.apart nn33
  have ag16Xg32 : Apart g16 g32 := og16.apart nn33
  have au18Xg32 : Apart u18 g32 := ou18.apart nn33
  have ap22Xg32 : Apart p22 g32 := op22.apart nn33
  have ng32 : Nw H g32 := nn33.le lE
  replace op1 := op1.le le29
  replace ou8 := ou8.le le29
  replace og14 := og14.le le29
  replace og16 := og16.le le29
  replace ou18 := ou18.le le29
  replace op22 := op22.le le29
  replace hpc := hpc.le le29
  replace lE := lE.trans le29
  refine ob_i (vExt_30 _ _ _) ?_
  refine ob_i (vExt_31 _ _ _) ?_
  refine ob_i (vExt_32 _ _ _) ?_
  refine C.laws_eqStringS og30.sl og14.sl (by omega) ?_
  refine ob_i (a := .bool false) rfl ?_
  refine gop_rf ?_
  refine gop_rf ?_
  refine gop_rf ?_
  refine C.laws_eqInt64S og32.sl og16.sl (by omega) ?_
  rw [decide_eq_true rfl]
  refine gop_rf ?_
  refine ob_i (a := .bool false) rfl ?_
  refine ob_i (vPick_f _ _) ?_
  refine gop_rf ?_
  refine gop_rf ?_
  refine gop_rf ?_
  refine ob_i (vBool_neq_same _) ?_
  refine ob_i (vPick_f _ _) ?_
  refine cnd_f1 ?_
  refine ob_i (op22.ldn rfl) ?_
  refine ob_i (op1.ldn rfl) ?_
  refine C.laws_toField hpc (by omega) (fun u34 H35 ou34 nn37  le36 => ?_)
  have ap1Xu34 : Apart p1 u34 := op1.apart nn37
  have au8Xu34 : Apart u8 u34 := ou8.apart nn37
  have ag14Xu34 : Apart g14 u34 := og14.apart nn37
  have ag16Xu34 : Apart g16 u34 := og16.apart nn37
  have au18Xu34 : Apart u18 u34 := ou18.apart nn37
  have ap22Xu34 : Apart p22 u34 := op22.apart nn37
  have ag30Xu34 : Apart g30 u34 := og30.apart nn37
  have ag32Xu34 : Apart g32 u34 := og32.apart nn37
  have nu34 : Nw H u34 := nn37.le lE
  replace op1 := op1.le le36
  replace ou8 := ou8.le le36
  replace og14 := og14.le le36
  replace og16 := og16.le le36
  replace ou18 := ou18.le le36
  replace op22 := op22.le le36
  replace og30 := og30.le le36
  replace og32 := og32.le le36
  replace hpc := hpc.le le36
  replace lE := lE.trans le36
  refine ⟨le36, ?_⟩
  refine C.laws_eqField ou18.sl ou34.sl (by omega) (fun H38 le39 => ?_)
  replace op1 := op1.le le39
  replace ou8 := ou8.le le39
  replace og14 := og14.le le39
  replace og16 := og16.le le39
  replace ou18 := ou18.le le39
  replace op22 := op22.le le39
  replace og30 := og30.le le39
  replace og32 := og32.le le39
  replace ou34 := ou34.le le39
  replace hpc := hpc.le le39
  replace lE := lE.trans le39
  refine ⟨le39, ?_⟩
  refine ob_i (a := .bool false) rfl ?_
  refine cnd_f1 ?_
  refine ob_i (op22.ldn rfl) ?_
  refine R.laws_markField ?_
  unfold F.laws_markField
  refine nw_i (fun p40 H41 op40 nn42 le43 => ?_)
  have ap1Xp40 : Apart p1 p40 := op1.apart nn42
  have au8Xp40 : Apart u8 p40 := ou8.apart nn42
  have ag14Xp40 : Apart g14 p40 := og14.apart nn42
  have ag16Xp40 : Apart g16 p40 := og16.apart nn42
  have au18Xp40 : Apart u18 p40 := ou18.apart nn42
  have ap22Xp40 : Apart p22 p40 := op22.apart nn42
  have ag30Xp40 : Apart g30 p40 := og30.apart nn42
  have ag32Xp40 : Apart g32 p40 := og32.apart nn42
  have au34Xp40 : Apart u34 p40 := ou34.apart nn42
  have np40 : Nw H p40 := nn42.le lE
  replace op1 := op1.le le43
  replace ou8 := ou8.le le43
  replace og14 := og14.le le43
  replace og16 := og16.le le43
  replace ou18 := ou18.le le43
  replace op22 := op22.le le43
  replace og30 := og30.le le43
  replace og32 := og32.le le43
  replace ou34 := ou34.le le43
  replace hpc := hpc.le le43
  replace lE := lE.trans le43
  replace op40 : Cel H41 p40 [(.int .i64 (pa)), (.int .i64 (pb)), u18] := op40
  refine ob_i (op40.fa 2) ?_
  refine ob_i (op40.ld 2 rfl) ?_
  refine C.laws_markInt64S ou18 (by omega) (by omega) (by omega) (fun H44 ou18 off45 => ?_)
  replace op1 := op1.off off45 ap1Xu18
  replace ou8 := ou8.off off45 au8Xu18
  replace og14 := og14.off off45 ag14Xu18
  replace og16 := og16.off off45 ag16Xu18
  replace op22 := op22.off off45 au18Xp22.symm
  replace og30 := og30.off off45 au18Xg30.symm
  replace og32 := og32.off off45 au18Xg32.symm
  replace ou34 := ou34.off off45 au18Xu34.symm
  replace op40 := op40.off off45 au18Xp40.symm
  replace hpc := hpc0.le (off45.le lE nu18)
  replace lE := off45.le lE nu18
  refine ob_i (vInt_lss_f (by omega)) ?_
  refine gop_rf ?_
  refine gop_rf ?_
  refine gop_rf ?_
  refine C.laws_eqStringS og30.sl og14.sl (by omega) ?_
  refine gop_rf ?_
  refine ob_i (a := .bool false) rfl ?_
  refine ob_i (vPick_f _ _) ?_
  refine gop_rf ?_
  refine gop_rf ?_
  refine gop_rf ?_
  refine C.laws_eqInt64S og32.sl og16.sl (by omega) ?_
  rw [decide_eq_true rfl]
  refine gop_rf ?_
  refine ob_i (a := .bool false) rfl ?_
  refine ob_i (vPick_f _ _) ?_
  refine gop_rf ?_
  refine gop_rf ?_
  refine gop_rf ?_
  refine ob_i (vBool_neq_same _) ?_
  refine ob_i (vPick_f _ _) ?_
  refine cnd_f1 ?_
  refine C.laws_markStringS og30 (by omega) (by omega) (by omega) (fun H46 og30 off47 => ?_)
  replace op1 := op1.off off47 ap1Xg30
  replace ou8 := ou8.off off47 au8Xg30
  replace og14 := og14.off off47 ag14Xg30
  replace og16 := og16.off off47 ag16Xg30
  replace ou18 := ou18.off off47 au18Xg30
  replace op22 := op22.off off47 ap22Xg30
  replace og32 := og32.off off47 ag30Xg32.symm
  replace ou34 := ou34.off off47 ag30Xu34.symm
  replace op40 := op40.off off47 ag30Xp40.symm
  replace hpc := hpc0.le (off47.le lE ng30)
  replace lE := off47.le lE ng30
  refine C.laws_markInt64S og32 (by omega) (by omega) (by omega) (fun H48 og32 off49 => ?_)
  replace op1 := op1.off off49 ap1Xg32
  replace ou8 := ou8.off off49 au8Xg32
  replace og14 := og14.off off49 ag14Xg32
  replace og16 := og16.off off49 ag16Xg32
  replace ou18 := ou18.off off49 au18Xg32
  replace op22 := op22.off off49 ap22Xg32
  replace og30 := og30.off off49 ag30Xg32
  replace ou34 := ou34.off off49 ag32Xu34.symm
  replace op40 := op40.off off49 ag32Xp40.symm
  replace hpc := hpc0.le (off49.le lE ng32)
  replace lE := off49.le lE ng32
  refine C.laws_heldStringS og30.sl (by omega) (by omega) (by omega) (fun H50 le51 => ?_)
  replace op1 := op1.le le51
  replace ou8 := ou8.le le51
  replace og14 := og14.le le51
  replace og16 := og16.le le51
  replace ou18 := ou18.le le51
  replace op22 := op22.le le51
  replace og30 := og30.le le51
  replace og32 := og32.le le51
  replace ou34 := ou34.le le51
  replace op40 := op40.le le51
  replace hpc := hpc.le le51
  replace lE := lE.trans le51
  refine ob_i (vInt_lss_f (by omega)) ?_
  refine cnd_f1 ?_
  refine C.laws_heldInt64S og32.sl (by omega) (by omega) (by omega) ?_
  refine ob_i (vInt_lss_f (by omega)) ?_
  refine cnd_f1 ?_
  refine ob_i (vInt_neq_same _ _) ?_
  refine cnd_f1 ?_
  refine ob_i (op1.ldn rfl) ?_
  refine C.laws_toField hpc (by omega) (fun u52 H53 ou52 nn55  le54 => ?_)
  have ap1Xu52 : Apart p1 u52 := op1.apart nn55
  have au8Xu52 : Apart u8 u52 := ou8.apart nn55
  have ag14Xu52 : Apart g14 u52 := og14.apart nn55
  have ag16Xu52 : Apart g16 u52 := og16.apart nn55
  have au18Xu52 : Apart u18 u52 := ou18.apart nn55
  have ap22Xu52 : Apart p22 u52 := op22.apart nn55
  have ag30Xu52 : Apart g30 u52 := og30.apart nn55
  have ag32Xu52 : Apart g32 u52 := og32.apart nn55
  have au34Xu52 : Apart u34 u52 := ou34.apart nn55
  have ap40Xu52 : Apart p40 u52 := op40.apart nn55
  have nu52 : Nw H u52 := nn55.le lE
  replace op1 := op1.le le54
  replace ou8 := ou8.le le54
  replace og14 := og14.le le54
  replace og16 := og16.le le54
  replace ou18 := ou18.le le54
  replace op22 := op22.le le54
  replace og30 := og30.le le54
  replace og32 := og32.le le54
  replace ou34 := ou34.le le54
  replace op40 := op40.le le54
  replace hpc := hpc.le le54
  replace lE := lE.trans le54
  refine C.impl_CensusOf ou52.sl (by omega)  (fun g58 g60 H56 og58 og60 nn59 nn61 ag58Xg60 le57 => ?_)
  have ap1Xg58 : Apart p1 g58 := op1.apart nn59
  have au8Xg58 : Apart u8 g58 := ou8.apart nn59
  have ag14Xg58 : Apart g14 g58 := og14.apart nn59
  have ag16Xg58 : Apart g16 g58 := og16.apart nn59
  have au18Xg58 : Apart u18 g58 := ou18.apart nn59
  have ap22Xg58 : Apart p22 g58 := op22.apart nn59
  have ag30Xg58 : Apart g30 g58 := og30.apart nn59
  have ag32Xg58 : Apart g32 g58 := og32.apart nn59
  have au34Xg58 : Apart u34 g58 := ou34.apart nn59
  have ap40Xg58 : Apart p40 g58 := op40.apart nn59
  have au52Xg58 : Apart u52 g58 := ou52.apart nn59
  have ng58 : Nw H g58 := nn59.le lE
  have ap1Xg60 : Apart p1 g60 := op1.apart nn61
  have au8Xg60 : Apart u8 g60 := ou8.apart nn61
  have ag14Xg60 : Apart g14 g60 := og14.apart nn61
  have ag16Xg60 : Apart g16 g60 := og16.apart nn61
  have au18Xg60 : Apart u18 g60 := ou18.apart nn61
  have ap22Xg60 : Apart p22 g60 := op22.apart nn61
  have ag30Xg60 : Apart g30 g60 := og30.apart nn61
  have ag32Xg60 : Apart g32 g60 := og32.apart nn61
  have au34Xg60 : Apart u34 g60 := ou34.apart nn61
  have ap40Xg60 : Apart p40 g60 := op40.apart nn61
  have au52Xg60 : Apart u52 g60 := ou52.apart nn61
  have ng60 : Nw H g60 := nn61.le lE
  replace op1 := op1.le le57
  replace ou8 := ou8.le le57
  replace og14 := og14.le le57
  replace og16 := og16.le le57
  replace ou18 := ou18.le le57
  replace op22 := op22.le le57
  replace og30 := og30.le le57
  replace og32 := og32.le le57
  replace ou34 := ou34.le le57
  replace op40 := op40.le le57
  replace ou52 := ou52.le le57
  replace hpc := hpc.le le57
  replace lE := lE.trans le57
  refine ob_i (vExt_30 _ _ _) ?_
  refine ob_i (vExt_31 _ _ _) ?_
  refine ob_i (vExt_32 _ _ _) ?_
  refine C.laws_eqStringS og58.sl og14.sl (by omega) ?_
  refine ob_i (a := .bool false) rfl ?_
  refine gop_rf ?_
  refine gop_rf ?_
  refine gop_rf ?_
  refine C.laws_eqInt64S og60.sl og16.sl (by omega) ?_
  rw [decide_eq_true rfl]
  refine gop_rf ?_
  refine ob_i (a := .bool false) rfl ?_
  refine ob_i (vPick_f _ _) ?_
  refine gop_rf ?_
  refine gop_rf ?_
  refine gop_rf ?_
  refine ob_i (vBool_neq_same _) ?_
  refine ob_i (vPick_f _ _) ?_
  refine cnd_f1 ?_
  refine C.laws_heldStringS og30.sl (by omega) (by omega) (by omega) (fun H62 le63 => ?_)
  replace op1 := op1.le le63
  replace ou8 := ou8.le le63
  replace og14 := og14.le le63
  replace og16 := og16.le le63
  replace ou18 := ou18.le le63
  replace op22 := op22.le le63
  replace og30 := og30.le le63
  replace og32 := og32.le le63
  replace ou34 := ou34.le le63
  replace op40 := op40.le le63
  replace ou52 := ou52.le le63
  replace og58 := og58.le le63
  replace og60 := og60.le le63
  replace hpc := hpc.le le63
  replace lE := lE.trans le63
  refine ob_i (vInt_lss_f (by omega)) ?_
  refine cnd_f1 ?_
  refine C.laws_heldInt64S og32.sl (by omega) (by omega) (by omega) ?_
  refine ob_i (vInt_lss_f (by omega)) ?_
  refine cnd_f1 ?_
  refine ob_i (vInt_neq_same _ _) ?_
  refine cnd_f1 ?_
  exact hk _ lE
end Go.Proofs.YthocjpfibegjcaaGreatDoor
