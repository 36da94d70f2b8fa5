/- Laws, each by its two sides: its function returns true, and what was known before stays. -/
import Derived.Test.YtejbicikffhggaaUY
import Derived.Test.YtejbicikffhggaaPK
import Derived.Test.YtejbicikffhggaaQH
import Derived.Test.YtejbicikffhggaaQI
import Derived.Test.YtejbicikffhggaaSE
namespace Go.Proofs.Ytejbicikffhggaa
open HL
set_option maxRecDepth 100000
theorem L.FnExactPartsOf {pa : Int} {pb : Int} {pc : Value} {spc : List Int} {H : Hp} {K : Value → Hp → Prop} (hpc0 : Sl eI H pc spc) (mspc : (spc).length ≤ 9223372036854775807) (hk : ∀ H', Le H H' → K (.bool true) H') :
    HT prg I.laws_FnExactPartsOf [(.agg #[(.int .i64 (pa)), (.int .i64 (pb)), pc])].toArray H K := by
  have hR0 := (@prtP_len pa pb spc).2.2.2
  have hR := And.intro (@prtP_len pa pb spc).1 (And.intro (@prtP_len pa pb spc).2.1 (@prtP_len pa pb spc).2.2.1)
  have lE := Le.refl H
  have hpc := hpc0
  refine R.laws_FnExactPartsOf ?_
  unfold F.laws_FnExactPartsOf
  refine nw_i (fun p1 H2 op1 nn3 le4 => ?_)
  have np1 : Nw H p1 := nn3.le lE
  replace hpc := hpc.le le4
  replace lE := lE.trans le4
  replace op1 : Cel H2 p1 [(.int .i64 (pa)), (.int .i64 (pb)), pc] := op1
  refine ob_i (op1.ldn rfl) ?_
  refine C.laws_szField hpc (by omega) (by omega) (by omega) (fun H6 le7 => ?_) (fun H6 le7 hz5 => ?_)
  · skip
    replace op1 := op1.le le7
    replace hpc := hpc.le le7
    replace lE := lE.trans le7
    refine ob_i (vInt_lss_t (by omega)) ?_
    refine cnd_t1 ?_
    exact hk _ lE
  replace op1 := op1.le le7
  replace hpc := hpc.le le7
  replace lE := lE.trans le7
  refine ob_i (vInt_lss_f (by omega)) ?_
  refine cnd_f1 ?_
  refine ob_i (op1.ldn rfl) ?_
  refine C.laws_toField hpc (by omega) (fun u8 H9 ou8 nn11  le10 => ?_)
  have ap1Xu8 : Apart p1 u8 := op1.apart nn11
  have nu8 : Nw H u8 := nn11.le lE
  replace op1 := op1.le le10
  replace hpc := hpc.le le10
  replace lE := lE.trans le10
  refine C.spec_PartsOf ou8.sl (by omega)  (fun g14 Sg14 g16 H12 og14 og16 nn15 nn17 ag14Xg16 le13 => ?_)
  have ap1Xg14 : Apt p1 Sg14 := Apt.of_nws op1.known nn15
  have au8Xg14 : Apt u8 Sg14 := Apt.of_nws ou8.known nn15
  have ng14 : Nws H Sg14 := nn15.le lE
  have ap1Xg16 : Apart p1 g16 := op1.apart nn17
  have au8Xg16 : Apart u8 g16 := ou8.apart nn17
  have ng16 : Nw H g16 := nn17.le lE
  replace op1 := op1.le le13
  replace ou8 := ou8.le le13
  replace hpc := hpc.le le13
  replace lE := lE.trans le13
  refine ob_i (vExt_30 _ _ _) ?_
  refine ob_i (vExt_31 _ _ _) ?_
  refine ob_i (vExt_32 _ _ _) ?_
  refine ob_i (op1.ldn rfl) ?_
  refine C.laws_toField hpc (by omega) (fun u18 H19 ou18 nn21  le20 => ?_)
  have ap1Xu18 : Apart p1 u18 := op1.apart nn21
  have au8Xu18 : Apart u8 u18 := ou8.apart nn21
  have ag14Xu18 : Apt Sg14 u18 := Apt.of_nw og14.known nn21
  have ag16Xu18 : Apart g16 u18 := og16.apart nn21
  have nu18 : Nw H u18 := nn21.le lE
  replace op1 := op1.le le20
  replace ou8 := ou8.le le20
  replace og14 := og14.le le20
  replace og16 := og16.le le20
  replace hpc := hpc.le le20
  replace lE := lE.trans le20
  refine nw_i (fun p22 H23 op22 nn24 le25 => ?_)
  have ap1Xp22 : Apart p1 p22 := op1.apart nn24
  have au8Xp22 : Apart u8 p22 := ou8.apart nn24
  have ag14Xp22 : Apt Sg14 p22 := Apt.of_nw og14.known nn24
  have ag16Xp22 : Apart g16 p22 := og16.apart nn24
  have au18Xp22 : Apart u18 p22 := ou18.apart nn24
  have np22 : Nw H p22 := nn24.le lE
  replace op1 := op1.le le25
  replace ou8 := ou8.le le25
  replace og14 := og14.le le25
  replace og16 := og16.le le25
  replace ou18 := ou18.le le25
  replace hpc := hpc.le le25
  replace lE := lE.trans le25
  replace op22 : Cel H23 p22 [(.int .i64 (0)), (.int .i64 (0)), (.slice none 0 0)] := op22
  refine op22.stn (ws := [(.int .i64 (pa)), (.int .i64 (pb)), u18]) rfl rfl (oc1 rfl (oc1 rfl (oc1 ou18.one oc0))) (fun H26 op22 off27 => ?_)
  replace op1 := op1.off off27 ap1Xp22
  replace ou8 := ou8.off off27 au8Xp22
  replace og14 := og14.off off27 ag14Xp22
  replace og16 := og16.off off27 ag16Xp22
  replace ou18 := ou18.off off27 au18Xp22
  replace hpc := hpc0.le (off27.le lE np22)
  replace lE := off27.le lE np22
  replace op22 : Cel H26 p22 [(.int .i64 (pa)), (.int .i64 (pb)), u18] := op22
  refine ob_i (op22.ldn rfl) ?_
  refine C.impl_PartsOf ou18.sl (by omega)  (fun g30 Sg30 g32 H28 og30 og32 nn31 nn33 ag30Xg32 le29 => ?_)
  have ap1Xg30 : Apt p1 Sg30 := Apt.of_nws op1.known nn31
  have au8Xg30 : Apt u8 Sg30 := Apt.of_nws ou8.known nn31
  have ag14Xg30 : Apt Sg14 Sg30 := Apt.of_nws og14.known nn31
  have ag16Xg30 : Apt g16 Sg30 := Apt.of_nws og16.known nn31
  have au18Xg30 : Apt u18 Sg30 := Apt.of_nws ou18.known nn31
  have ap22Xg30 : Apt p22 Sg30 := Apt.of_nws op22.known nn31
  have ng30 : Nws H Sg30 := nn31.le lE
  have ap1Xg32 : Apart p1 g32 := op1.apart nn33
  have au8Xg32 : Apart u8 g32 := ou8.apart nn33
  have ag14Xg32 : Apt Sg14 g32 := Apt.of_nw og14.known nn33
  have ag16Xg32 : Apart g16 g32 := og16.apart nn33
  have au18Xg32 : Apart u18 g32 := ou18.apart nn33
  have ap22Xg32 : Apart p22 g32 := op22.apart nn33
  have ng32 : Nw H g32 := nn33.le lE
  replace op1 := op1.le le29
  replace ou8 := ou8.le le29
  replace og14 := og14.le le29
  replace og16 := og16.le le29
  replace ou18 := ou18.le le29
  replace op22 := op22.le le29
  replace hpc := hpc.le le29
  replace lE := lE.trans le29
  refine ob_i (vExt_30 _ _ _) ?_
  refine ob_i (vExt_31 _ _ _) ?_
  refine ob_i (vExt_32 _ _ _) ?_
  refine C.laws_eqFieldS og30.sl og14.sl (by omega) (by first | assumption | exact hR.2.2) (fun H34 le35 => ?_)
  replace op1 := op1.le le35
  replace ou8 := ou8.le le35
  replace og14 := og14.le le35
  replace og16 := og16.le le35
  replace ou18 := ou18.le le35
  replace op22 := op22.le le35
  replace og30 := og30.le le35
  replace og32 := og32.le le35
  replace hpc := hpc.le le35
  replace lE := lE.trans le35
  refine ob_i (a := .bool false) rfl ?_
  refine gop_rf ?_
  refine gop_rf ?_
  refine gop_rf ?_
  refine C.laws_eqInt64S og32.sl og16.sl (by omega) ?_
  rw [decide_eq_true rfl]
  refine gop_rf ?_
  refine ob_i (a := .bool false) rfl ?_
  refine ob_i (vPick_f _ _) ?_
  refine gop_rf ?_
  refine gop_rf ?_
  refine gop_rf ?_
  refine ob_i (vBool_neq_same _) ?_
  refine ob_i (vPick_f _ _) ?_
  refine cnd_f1 ?_
  refine ob_i (op22.ldn rfl) ?_
  refine ob_i (op1.ldn rfl) ?_
  refine C.laws_toField hpc (by omega) (fun u36 H37 ou36 nn39  le38 => ?_)
  have ap1Xu36 : Apart p1 u36 := op1.apart nn39
  have au8Xu36 : Apart u8 u36 := ou8.apart nn39
  have ag14Xu36 : Apt Sg14 u36 := Apt.of_nw og14.known nn39
  have ag16Xu36 : Apart g16 u36 := og16.apart nn39
  have au18Xu36 : Apart u18 u36 := ou18.apart nn39
  have ap22Xu36 : Apart p22 u36 := op22.apart nn39
  have ag30Xu36 : Apt Sg30 u36 := Apt.of_nw og30.known nn39
  have ag32Xu36 : Apart g32 u36 := og32.apart nn39
  have nu36 : Nw H u36 := nn39.le lE
  replace op1 := op1.le le38
  replace ou8 := ou8.le le38
  replace og14 := og14.le le38
  replace og16 := og16.le le38
  replace ou18 := ou18.le le38
  replace op22 := op22.le le38
  replace og30 := og30.le le38
  replace og32 := og32.le le38
  replace hpc := hpc.le le38
  replace lE := lE.trans le38
  refine ⟨le38, ?_⟩
  refine C.laws_eqField ou18.sl ou36.sl (by omega) (fun H40 le41 => ?_)
  replace op1 := op1.le le41
  replace ou8 := ou8.le le41
  replace og14 := og14.le le41
  replace og16 := og16.le le41
  replace ou18 := ou18.le le41
  replace op22 := op22.le le41
  replace og30 := og30.le le41
  replace og32 := og32.le le41
  replace ou36 := ou36.le le41
  replace hpc := hpc.le le41
  replace lE := lE.trans le41
  refine ⟨le41, ?_⟩
  refine ob_i (a := .bool false) rfl ?_
  refine cnd_f1 ?_
  refine ob_i (op22.ldn rfl) ?_
  refine R.laws_markField ?_
  unfold F.laws_markField
  refine nw_i (fun p42 H43 op42 nn44 le45 => ?_)
  have ap1Xp42 : Apart p1 p42 := op1.apart nn44
  have au8Xp42 : Apart u8 p42 := ou8.apart nn44
  have ag14Xp42 : Apt Sg14 p42 := Apt.of_nw og14.known nn44
  have ag16Xp42 : Apart g16 p42 := og16.apart nn44
  have au18Xp42 : Apart u18 p42 := ou18.apart nn44
  have ap22Xp42 : Apart p22 p42 := op22.apart nn44
  have ag30Xp42 : Apt Sg30 p42 := Apt.of_nw og30.known nn44
  have ag32Xp42 : Apart g32 p42 := og32.apart nn44
  have au36Xp42 : Apart u36 p42 := ou36.apart nn44
  have np42 : Nw H p42 := nn44.le lE
  replace op1 := op1.le le45
  replace ou8 := ou8.le le45
  replace og14 := og14.le le45
  replace og16 := og16.le le45
  replace ou18 := ou18.le le45
  replace op22 := op22.le le45
  replace og30 := og30.le le45
  replace og32 := og32.le le45
  replace ou36 := ou36.le le45
  replace hpc := hpc.le le45
  replace lE := lE.trans le45
  replace op42 : Cel H43 p42 [(.int .i64 (pa)), (.int .i64 (pb)), u18] := op42
  refine ob_i (op42.fa 2) ?_
  refine ob_i (op42.ld 2 rfl) ?_
  refine C.laws_markInt64S ou18 (by omega) (by omega) (by omega) (fun H46 ou18 off47 => ?_)
  replace op1 := op1.off off47 ap1Xu18
  replace ou8 := ou8.off off47 au8Xu18
  replace og14 := og14.off off47 ag14Xu18
  replace og16 := og16.off off47 ag16Xu18
  replace op22 := op22.off off47 au18Xp22.symm
  replace og30 := og30.off off47 au18Xg30.symm
  replace og32 := og32.off off47 au18Xg32.symm
  replace ou36 := ou36.off off47 au18Xu36.symm
  replace op42 := op42.off off47 au18Xp42.symm
  replace hpc := hpc0.le (off47.le lE nu18)
  replace lE := off47.le lE nu18
  refine ob_i (vInt_lss_f (by omega)) ?_
  refine gop_rf ?_
  refine gop_rf ?_
  refine gop_rf ?_
  refine C.laws_eqFieldS og30.sl og14.sl (by omega) (by first | assumption | exact hR.2.2) (fun H48 le49 => ?_)
  replace op1 := op1.le le49
  replace ou8 := ou8.le le49
  replace og14 := og14.le le49
  replace og16 := og16.le le49
  replace ou18 := ou18.le le49
  replace op22 := op22.le le49
  replace og30 := og30.le le49
  replace og32 := og32.le le49
  replace ou36 := ou36.le le49
  replace op42 := op42.le le49
  replace hpc := hpc.le le49
  replace lE := lE.trans le49
  refine gop_rf ?_
  refine ob_i (a := .bool false) rfl ?_
  refine ob_i (vPick_f _ _) ?_
  refine gop_rf ?_
  refine gop_rf ?_
  refine gop_rf ?_
  refine C.laws_eqInt64S og32.sl og16.sl (by omega) ?_
  rw [decide_eq_true rfl]
  refine gop_rf ?_
  refine ob_i (a := .bool false) rfl ?_
  refine ob_i (vPick_f _ _) ?_
  refine gop_rf ?_
  refine gop_rf ?_
  refine gop_rf ?_
  refine ob_i (vBool_neq_same _) ?_
  refine ob_i (vPick_f _ _) ?_
  refine cnd_f1 ?_
  refine C.laws_markFieldS og30 (by omega) (by omega) (by omega) (by omega) (fun H50 og30 off51 => ?_)
  replace op1 := op1.offS off51 ap1Xg30
  replace ou8 := ou8.offS off51 au8Xg30
  replace og14 := og14.offS off51 ag14Xg30
  replace og16 := og16.offS off51 ag16Xg30
  replace ou18 := ou18.offS off51 au18Xg30
  replace op22 := op22.offS off51 ap22Xg30
  replace og32 := og32.offS off51 ag30Xg32.symm
  replace ou36 := ou36.offS off51 ag30Xu36.symm
  replace op42 := op42.offS off51 ag30Xp42.symm
  replace hpc := hpc0.le (off51.le lE ng30)
  replace lE := off51.le lE ng30
  refine C.laws_markInt64S og32 (by omega) (by omega) (by omega) (fun H52 og32 off53 => ?_)
  replace op1 := op1.off off53 ap1Xg32
  replace ou8 := ou8.off off53 au8Xg32
  replace og14 := og14.off off53 ag14Xg32
  replace og16 := og16.off off53 ag16Xg32
  replace ou18 := ou18.off off53 au18Xg32
  replace op22 := op22.off off53 ap22Xg32
  replace og30 := og30.off off53 ag30Xg32
  replace ou36 := ou36.off off53 ag32Xu36.symm
  replace op42 := op42.off off53 ag32Xp42.symm
  replace hpc := hpc0.le (off53.le lE ng32)
  replace lE := off53.le lE ng32
  refine C.laws_heldFieldS og30.sl (by omega) (by omega) (by omega) (by omega) ?_
  refine ob_i (vInt_lss_f (by omega)) ?_
  refine cnd_f1 ?_
  refine C.laws_heldInt64S og32.sl (by omega) (by omega) (by omega) ?_
  refine ob_i (vInt_lss_f (by omega)) ?_
  refine cnd_f1 ?_
  refine ob_i (vInt_neq_same _ _) ?_
  refine cnd_f1 ?_
  refine ob_i (op1.ldn rfl) ?_
  refine C.laws_toField hpc (by omega) (fun u54 H55 ou54 nn57  le56 => ?_)
  have ap1Xu54 : Apart p1 u54 := op1.apart nn57
  have au8Xu54 : Apart u8 u54 := ou8.apart nn57
  have ag14Xu54 : Apt Sg14 u54 := Apt.of_nw og14.known nn57
  have ag16Xu54 : Apart g16 u54 := og16.apart nn57
  have au18Xu54 : Apart u18 u54 := ou18.apart nn57
  have ap22Xu54 : Apart p22 u54 := op22.apart nn57
  have ag30Xu54 : Apt Sg30 u54 := Apt.of_nw og30.known nn57
  have ag32Xu54 : Apart g32 u54 := og32.apart nn57
  have au36Xu54 : Apart u36 u54 := ou36.apart nn57
  have ap42Xu54 : Apart p42 u54 := op42.apart nn57
  have nu54 : Nw H u54 := nn57.le lE
  replace op1 := op1.le le56
  replace ou8 := ou8.le le56
  replace og14 := og14.le le56
  replace og16 := og16.le le56
  replace ou18 := ou18.le le56
  replace op22 := op22.le le56
  replace og30 := og30.le le56
  replace og32 := og32.le le56
  replace ou36 := ou36.le le56
  replace op42 := op42.le le56
  replace hpc := hpc.le le56
  replace lE := lE.trans le56
  refine C.impl_PartsOf ou54.sl (by omega)  (fun g60 Sg60 g62 H58 og60 og62 nn61 nn63 ag60Xg62 le59 => ?_)
  have ap1Xg60 : Apt p1 Sg60 := Apt.of_nws op1.known nn61
  have au8Xg60 : Apt u8 Sg60 := Apt.of_nws ou8.known nn61
  have ag14Xg60 : Apt Sg14 Sg60 := Apt.of_nws og14.known nn61
  have ag16Xg60 : Apt g16 Sg60 := Apt.of_nws og16.known nn61
  have au18Xg60 : Apt u18 Sg60 := Apt.of_nws ou18.known nn61
  have ap22Xg60 : Apt p22 Sg60 := Apt.of_nws op22.known nn61
  have ag30Xg60 : Apt Sg30 Sg60 := Apt.of_nws og30.known nn61
  have ag32Xg60 : Apt g32 Sg60 := Apt.of_nws og32.known nn61
  have au36Xg60 : Apt u36 Sg60 := Apt.of_nws ou36.known nn61
  have ap42Xg60 : Apt p42 Sg60 := Apt.of_nws op42.known nn61
  have au54Xg60 : Apt u54 Sg60 := Apt.of_nws ou54.known nn61
  have ng60 : Nws H Sg60 := nn61.le lE
  have ap1Xg62 : Apart p1 g62 := op1.apart nn63
  have au8Xg62 : Apart u8 g62 := ou8.apart nn63
  have ag14Xg62 : Apt Sg14 g62 := Apt.of_nw og14.known nn63
  have ag16Xg62 : Apart g16 g62 := og16.apart nn63
  have au18Xg62 : Apart u18 g62 := ou18.apart nn63
  have ap22Xg62 : Apart p22 g62 := op22.apart nn63
  have ag30Xg62 : Apt Sg30 g62 := Apt.of_nw og30.known nn63
  have ag32Xg62 : Apart g32 g62 := og32.apart nn63
  have au36Xg62 : Apart u36 g62 := ou36.apart nn63
  have ap42Xg62 : Apart p42 g62 := op42.apart nn63
  have au54Xg62 : Apart u54 g62 := ou54.apart nn63
  have ng62 : Nw H g62 := nn63.le lE
  replace op1 := op1.le le59
  replace ou8 := ou8.le le59
  replace og14 := og14.le le59
  replace og16 := og16.le le59
  replace ou18 := ou18.le le59
  replace op22 := op22.le le59
  replace og30 := og30.le le59
  replace og32 := og32.le le59
  replace ou36 := ou36.le le59
  replace op42 := op42.le le59
  replace ou54 := ou54.le le59
  replace hpc := hpc.le le59
  replace lE := lE.trans le59
  refine ob_i (vExt_30 _ _ _) ?_
  refine ob_i (vExt_31 _ _ _) ?_
  refine ob_i (vExt_32 _ _ _) ?_
  refine C.laws_eqFieldS og60.sl og14.sl (by omega) (by first | assumption | exact hR.2.2) (fun H64 le65 => ?_)
  replace op1 := op1.le le65
  replace ou8 := ou8.le le65
  replace og14 := og14.le le65
  replace og16 := og16.le le65
  replace ou18 := ou18.le le65
  replace op22 := op22.le le65
  replace og30 := og30.le le65
  replace og32 := og32.le le65
  replace ou36 := ou36.le le65
  replace op42 := op42.le le65
  replace ou54 := ou54.le le65
  replace og60 := og60.le le65
  replace og62 := og62.le le65
  replace hpc := hpc.le le65
  replace lE := lE.trans le65
  refine ob_i (a := .bool false) rfl ?_
  refine gop_rf ?_
  refine gop_rf ?_
  refine gop_rf ?_
  refine C.laws_eqInt64S og62.sl og16.sl (by omega) ?_
  rw [decide_eq_true rfl]
  refine gop_rf ?_
  refine ob_i (a := .bool false) rfl ?_
  refine ob_i (vPick_f _ _) ?_
  refine gop_rf ?_
  refine gop_rf ?_
  refine gop_rf ?_
  refine ob_i (vBool_neq_same _) ?_
  refine ob_i (vPick_f _ _) ?_
  refine cnd_f1 ?_
  refine C.laws_heldFieldS og30.sl (by omega) (by omega) (by omega) (by omega) ?_
  refine ob_i (vInt_lss_f (by omega)) ?_
  refine cnd_f1 ?_
  refine C.laws_heldInt64S og32.sl (by omega) (by omega) (by omega) ?_
  refine ob_i (vInt_lss_f (by omega)) ?_
  refine cnd_f1 ?_
  refine ob_i (vInt_neq_same _ _) ?_
  refine cnd_f1 ?_
  exact hk _ lE
end Go.Proofs.Ytejbicikffhggaa
