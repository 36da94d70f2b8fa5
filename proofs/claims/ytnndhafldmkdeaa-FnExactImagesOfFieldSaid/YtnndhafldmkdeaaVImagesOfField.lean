/- Laws, each by its two sides: its function returns true, and what was known before stays. -/
import Derived.Test.YtnndhafldmkdeaaUK
import Derived.Test.YtnndhafldmkdeaaQH
import Derived.Test.YtnndhafldmkdeaaSE
namespace Go.Proofs.Ytnndhafldmkdeaa
open HL
set_option maxRecDepth 100000
theorem L.FnExactImagesOfField {pa : Int} {pb : Int} {pc : Value} {spc : List Int} {H : Hp} {K : Value → Hp → Prop} (hpc0 : Sl eI H pc spc) (mspc : (spc).length ≤ 9223372036854775807) (hk : ∀ H', Le H H' → K (.bool true) H') :
    HT prg I.laws_FnExactImagesOfField [(.agg #[(.int .i64 (pa)), (.int .i64 (pb)), pc])].toArray H K := by
  have hR := @imgP_len pa pb spc
  have lE := Le.refl H
  have hpc := hpc0
  refine R.laws_FnExactImagesOfField ?_
  unfold F.laws_FnExactImagesOfField
  refine nw_i (fun p1 H2 op1 nn3 le4 => ?_)
  have np1 : Nw H p1 := nn3.le lE
  replace hpc := hpc.le le4
  replace lE := lE.trans le4
  replace op1 : Cel H2 p1 [(.int .i64 (pa)), (.int .i64 (pb)), pc] := op1
  refine ob_i (op1.ldn rfl) ?_
  refine C.laws_szField hpc (by omega) (by omega) (by omega) (fun H6 le7 => ?_) (fun H6 le7 hz5 => ?_)
  · skip
    replace op1 := op1.le le7
    replace hpc := hpc.le le7
    replace lE := lE.trans le7
    refine ob_i (vInt_lss_t (by omega)) ?_
    refine cnd_t1 ?_
    exact hk _ lE
  replace op1 := op1.le le7
  replace hpc := hpc.le le7
  replace lE := lE.trans le7
  refine ob_i (vInt_lss_f (by omega)) ?_
  refine cnd_f1 ?_
  refine ob_i (op1.ldn rfl) ?_
  refine C.laws_toField hpc (by omega) (fun u8 H9 ou8 nn11  le10 => ?_)
  have ap1Xu8 : Apart p1 u8 := op1.apart nn11
  have nu8 : Nw H u8 := nn11.le lE
  replace op1 := op1.le le10
  replace hpc := hpc.le le10
  replace lE := lE.trans le10
  refine C.spec_ImagesOfField ou8.sl (by omega)  (fun g14 Sg14 H12 og14 nn15  le13 => ?_)
  have ap1Xg14 : Apt p1 Sg14 := Apt.of_nws op1.known nn15
  have au8Xg14 : Apt u8 Sg14 := Apt.of_nws ou8.known nn15
  have ng14 : Nws H Sg14 := nn15.le lE
  replace op1 := op1.le le13
  replace ou8 := ou8.le le13
  replace hpc := hpc.le le13
  replace lE := lE.trans le13
  refine ob_i (vExt_20 _ _) ?_
  refine ob_i (vExt_21 _ _) ?_
  refine ob_i (op1.ldn rfl) ?_
  refine C.laws_toField hpc (by omega) (fun u16 H17 ou16 nn19  le18 => ?_)
  have ap1Xu16 : Apart p1 u16 := op1.apart nn19
  have au8Xu16 : Apart u8 u16 := ou8.apart nn19
  have ag14Xu16 : Apt Sg14 u16 := Apt.of_nw og14.known nn19
  have nu16 : Nw H u16 := nn19.le lE
  replace op1 := op1.le le18
  replace ou8 := ou8.le le18
  replace og14 := og14.le le18
  replace hpc := hpc.le le18
  replace lE := lE.trans le18
  refine nw_i (fun p20 H21 op20 nn22 le23 => ?_)
  have ap1Xp20 : Apart p1 p20 := op1.apart nn22
  have au8Xp20 : Apart u8 p20 := ou8.apart nn22
  have ag14Xp20 : Apt Sg14 p20 := Apt.of_nw og14.known nn22
  have au16Xp20 : Apart u16 p20 := ou16.apart nn22
  have np20 : Nw H p20 := nn22.le lE
  replace op1 := op1.le le23
  replace ou8 := ou8.le le23
  replace og14 := og14.le le23
  replace ou16 := ou16.le le23
  replace hpc := hpc.le le23
  replace lE := lE.trans le23
  replace op20 : Cel H21 p20 [(.int .i64 (0)), (.int .i64 (0)), (.slice none 0 0)] := op20
  refine op20.stn (ws := [(.int .i64 (pa)), (.int .i64 (pb)), u16]) rfl rfl (oc1 rfl (oc1 rfl (oc1 ou16.one oc0))) (fun H24 op20 off25 => ?_)
  replace op1 := op1.off off25 ap1Xp20
  replace ou8 := ou8.off off25 au8Xp20
  replace og14 := og14.off off25 ag14Xp20
  replace ou16 := ou16.off off25 au16Xp20
  replace hpc := hpc0.le (off25.le lE np20)
  replace lE := off25.le lE np20
  replace op20 : Cel H24 p20 [(.int .i64 (pa)), (.int .i64 (pb)), u16] := op20
  refine ob_i (op20.ldn rfl) ?_
  refine C.impl_ImagesOfField ou16.sl (by omega)  (fun g28 Sg28 H26 og28 nn29  le27 => ?_)
  have ap1Xg28 : Apt p1 Sg28 := Apt.of_nws op1.known nn29
  have au8Xg28 : Apt u8 Sg28 := Apt.of_nws ou8.known nn29
  have ag14Xg28 : Apt Sg14 Sg28 := Apt.of_nws og14.known nn29
  have au16Xg28 : Apt u16 Sg28 := Apt.of_nws ou16.known nn29
  have ap20Xg28 : Apt p20 Sg28 := Apt.of_nws op20.known nn29
  have ng28 : Nws H Sg28 := nn29.le lE
  replace op1 := op1.le le27
  replace ou8 := ou8.le le27
  replace og14 := og14.le le27
  replace ou16 := ou16.le le27
  replace op20 := op20.le le27
  replace hpc := hpc.le le27
  replace lE := lE.trans le27
  refine ob_i (vExt_20 _ _) ?_
  refine ob_i (vExt_21 _ _) ?_
  refine C.laws_eqFieldS og28.sl og14.sl (by omega) (by first | assumption | exact hR.2.2) (fun H30 le31 => ?_)
  replace op1 := op1.le le31
  replace ou8 := ou8.le le31
  replace og14 := og14.le le31
  replace ou16 := ou16.le le31
  replace op20 := op20.le le31
  replace og28 := og28.le le31
  replace hpc := hpc.le le31
  replace lE := lE.trans le31
  refine ob_i (a := .bool false) rfl ?_
  refine gop_rf ?_
  refine gop_rf ?_
  refine gop_rf ?_
  refine ob_i (vBool_neq_same _) ?_
  refine ob_i (vPick_f _ _) ?_
  refine cnd_f1 ?_
  refine ob_i (op20.ldn rfl) ?_
  refine ob_i (op1.ldn rfl) ?_
  refine C.laws_toField hpc (by omega) (fun u32 H33 ou32 nn35  le34 => ?_)
  have ap1Xu32 : Apart p1 u32 := op1.apart nn35
  have au8Xu32 : Apart u8 u32 := ou8.apart nn35
  have ag14Xu32 : Apt Sg14 u32 := Apt.of_nw og14.known nn35
  have au16Xu32 : Apart u16 u32 := ou16.apart nn35
  have ap20Xu32 : Apart p20 u32 := op20.apart nn35
  have ag28Xu32 : Apt Sg28 u32 := Apt.of_nw og28.known nn35
  have nu32 : Nw H u32 := nn35.le lE
  replace op1 := op1.le le34
  replace ou8 := ou8.le le34
  replace og14 := og14.le le34
  replace ou16 := ou16.le le34
  replace op20 := op20.le le34
  replace og28 := og28.le le34
  replace hpc := hpc.le le34
  replace lE := lE.trans le34
  refine ⟨le34, ?_⟩
  refine C.laws_eqField ou16.sl ou32.sl (by omega) (fun H36 le37 => ?_)
  replace op1 := op1.le le37
  replace ou8 := ou8.le le37
  replace og14 := og14.le le37
  replace ou16 := ou16.le le37
  replace op20 := op20.le le37
  replace og28 := og28.le le37
  replace ou32 := ou32.le le37
  replace hpc := hpc.le le37
  replace lE := lE.trans le37
  refine ⟨le37, ?_⟩
  refine ob_i (a := .bool false) rfl ?_
  refine cnd_f1 ?_
  refine ob_i (op20.ldn rfl) ?_
  refine R.laws_markField ?_
  unfold F.laws_markField
  refine nw_i (fun p38 H39 op38 nn40 le41 => ?_)
  have ap1Xp38 : Apart p1 p38 := op1.apart nn40
  have au8Xp38 : Apart u8 p38 := ou8.apart nn40
  have ag14Xp38 : Apt Sg14 p38 := Apt.of_nw og14.known nn40
  have au16Xp38 : Apart u16 p38 := ou16.apart nn40
  have ap20Xp38 : Apart p20 p38 := op20.apart nn40
  have ag28Xp38 : Apt Sg28 p38 := Apt.of_nw og28.known nn40
  have au32Xp38 : Apart u32 p38 := ou32.apart nn40
  have np38 : Nw H p38 := nn40.le lE
  replace op1 := op1.le le41
  replace ou8 := ou8.le le41
  replace og14 := og14.le le41
  replace ou16 := ou16.le le41
  replace op20 := op20.le le41
  replace og28 := og28.le le41
  replace ou32 := ou32.le le41
  replace hpc := hpc.le le41
  replace lE := lE.trans le41
  replace op38 : Cel H39 p38 [(.int .i64 (pa)), (.int .i64 (pb)), u16] := op38
  refine ob_i (op38.fa 2) ?_
  refine ob_i (op38.ld 2 rfl) ?_
  refine C.laws_markInt64S ou16 (by omega) (by omega) (by omega) (fun H42 ou16 off43 => ?_)
  replace op1 := op1.off off43 ap1Xu16
  replace ou8 := ou8.off off43 au8Xu16
  replace og14 := og14.off off43 ag14Xu16
  replace op20 := op20.off off43 au16Xp20.symm
  replace og28 := og28.off off43 au16Xg28.symm
  replace ou32 := ou32.off off43 au16Xu32.symm
  replace op38 := op38.off off43 au16Xp38.symm
  replace hpc := hpc0.le (off43.le lE nu16)
  replace lE := off43.le lE nu16
  refine ob_i (vInt_lss_f (by omega)) ?_
  refine gop_rf ?_
  refine gop_rf ?_
  refine gop_rf ?_
  refine C.laws_eqFieldS og28.sl og14.sl (by omega) (by first | assumption | exact hR.2.2) (fun H44 le45 => ?_)
  replace op1 := op1.le le45
  replace ou8 := ou8.le le45
  replace og14 := og14.le le45
  replace ou16 := ou16.le le45
  replace op20 := op20.le le45
  replace og28 := og28.le le45
  replace ou32 := ou32.le le45
  replace op38 := op38.le le45
  replace hpc := hpc.le le45
  replace lE := lE.trans le45
  refine gop_rf ?_
  refine ob_i (a := .bool false) rfl ?_
  refine ob_i (vPick_f _ _) ?_
  refine gop_rf ?_
  refine gop_rf ?_
  refine gop_rf ?_
  refine ob_i (vBool_neq_same _) ?_
  refine ob_i (vPick_f _ _) ?_
  refine cnd_f1 ?_
  refine C.laws_markFieldS og28 (by omega) (by omega) (by omega) (by omega) (fun H46 og28 off47 => ?_)
  replace op1 := op1.offS off47 ap1Xg28
  replace ou8 := ou8.offS off47 au8Xg28
  replace og14 := og14.offS off47 ag14Xg28
  replace ou16 := ou16.offS off47 au16Xg28
  replace op20 := op20.offS off47 ap20Xg28
  replace ou32 := ou32.offS off47 ag28Xu32.symm
  replace op38 := op38.offS off47 ag28Xp38.symm
  replace hpc := hpc0.le (off47.le lE ng28)
  replace lE := off47.le lE ng28
  refine C.laws_heldFieldS og28.sl (by omega) (by omega) (by omega) (by omega) ?_
  refine ob_i (vInt_lss_f (by omega)) ?_
  refine cnd_f1 ?_
  refine ob_i (vInt_neq_same _ _) ?_
  refine cnd_f1 ?_
  refine ob_i (op1.ldn rfl) ?_
  refine C.laws_toField hpc (by omega) (fun u48 H49 ou48 nn51  le50 => ?_)
  have ap1Xu48 : Apart p1 u48 := op1.apart nn51
  have au8Xu48 : Apart u8 u48 := ou8.apart nn51
  have ag14Xu48 : Apt Sg14 u48 := Apt.of_nw og14.known nn51
  have au16Xu48 : Apart u16 u48 := ou16.apart nn51
  have ap20Xu48 : Apart p20 u48 := op20.apart nn51
  have ag28Xu48 : Apt Sg28 u48 := Apt.of_nw og28.known nn51
  have au32Xu48 : Apart u32 u48 := ou32.apart nn51
  have ap38Xu48 : Apart p38 u48 := op38.apart nn51
  have nu48 : Nw H u48 := nn51.le lE
  replace op1 := op1.le le50
  replace ou8 := ou8.le le50
  replace og14 := og14.le le50
  replace ou16 := ou16.le le50
  replace op20 := op20.le le50
  replace og28 := og28.le le50
  replace ou32 := ou32.le le50
  replace op38 := op38.le le50
  replace hpc := hpc.le le50
  replace lE := lE.trans le50
  refine C.impl_ImagesOfField ou48.sl (by omega)  (fun g54 Sg54 H52 og54 nn55  le53 => ?_)
  have ap1Xg54 : Apt p1 Sg54 := Apt.of_nws op1.known nn55
  have au8Xg54 : Apt u8 Sg54 := Apt.of_nws ou8.known nn55
  have ag14Xg54 : Apt Sg14 Sg54 := Apt.of_nws og14.known nn55
  have au16Xg54 : Apt u16 Sg54 := Apt.of_nws ou16.known nn55
  have ap20Xg54 : Apt p20 Sg54 := Apt.of_nws op20.known nn55
  have ag28Xg54 : Apt Sg28 Sg54 := Apt.of_nws og28.known nn55
  have au32Xg54 : Apt u32 Sg54 := Apt.of_nws ou32.known nn55
  have ap38Xg54 : Apt p38 Sg54 := Apt.of_nws op38.known nn55
  have au48Xg54 : Apt u48 Sg54 := Apt.of_nws ou48.known nn55
  have ng54 : Nws H Sg54 := nn55.le lE
  replace op1 := op1.le le53
  replace ou8 := ou8.le le53
  replace og14 := og14.le le53
  replace ou16 := ou16.le le53
  replace op20 := op20.le le53
  replace og28 := og28.le le53
  replace ou32 := ou32.le le53
  replace op38 := op38.le le53
  replace ou48 := ou48.le le53
  replace hpc := hpc.le le53
  replace lE := lE.trans le53
  refine ob_i (vExt_20 _ _) ?_
  refine ob_i (vExt_21 _ _) ?_
  refine C.laws_eqFieldS og54.sl og14.sl (by omega) (by first | assumption | exact hR.2.2) (fun H56 le57 => ?_)
  replace op1 := op1.le le57
  replace ou8 := ou8.le le57
  replace og14 := og14.le le57
  replace ou16 := ou16.le le57
  replace op20 := op20.le le57
  replace og28 := og28.le le57
  replace ou32 := ou32.le le57
  replace op38 := op38.le le57
  replace ou48 := ou48.le le57
  replace og54 := og54.le le57
  replace hpc := hpc.le le57
  replace lE := lE.trans le57
  refine ob_i (a := .bool false) rfl ?_
  refine gop_rf ?_
  refine gop_rf ?_
  refine gop_rf ?_
  refine ob_i (vBool_neq_same _) ?_
  refine ob_i (vPick_f _ _) ?_
  refine cnd_f1 ?_
  refine C.laws_heldFieldS og28.sl (by omega) (by omega) (by omega) (by omega) ?_
  refine ob_i (vInt_lss_f (by omega)) ?_
  refine cnd_f1 ?_
  refine ob_i (vInt_neq_same _ _) ?_
  refine cnd_f1 ?_
  exact hk _ lE
end Go.Proofs.Ytnndhafldmkdeaa
