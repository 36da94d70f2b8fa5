/- Laws, each by its two sides: its function returns true, and what was known before stays. -/
import Derived.Test.YtnndhafldmkdeaaTE
import Derived.Test.YtnndhafldmkdeaaQH
import Derived.Test.YtnndhafldmkdeaaSE
namespace Go.Proofs.Ytnndhafldmkdeaa
open HL
set_option maxRecDepth 100000
theorem L.FnExactTrimField {pa : Int} {pb : Int} {pc : Value} {spc : List Int} {H : Hp} {K : Value → Hp → Prop} (hpc0 : Sl eI H pc spc) (mspc : (spc).length ≤ 9223372036854775807) (hk : ∀ H', Le H H' → K (.bool true) H') :
    HT prg I.laws_FnExactTrimField [(.agg #[(.int .i64 (pa)), (.int .i64 (pb)), pc])].toArray H K := by
  have hR := @trimL_len pa pb spc
  have lE := Le.refl H
  have hpc := hpc0
  refine R.laws_FnExactTrimField ?_
  unfold F.laws_FnExactTrimField
  refine nw_i (fun p1 H2 op1 nn3 le4 => ?_)
  have np1 : Nw H p1 := nn3.le lE
  replace hpc := hpc.le le4
  replace lE := lE.trans le4
  replace op1 : Cel H2 p1 [(.int .i64 (pa)), (.int .i64 (pb)), pc] := op1
  refine ob_i (op1.ldn rfl) ?_
  refine C.laws_szField hpc (by omega) (by omega) (by omega) (fun H6 le7 => ?_) (fun H6 le7 hz5 => ?_)
  · skip
    replace op1 := op1.le le7
    replace hpc := hpc.le le7
    replace lE := lE.trans le7
    refine ob_i (vInt_lss_t (by omega)) ?_
    refine cnd_t1 ?_
    exact hk _ lE
  replace op1 := op1.le le7
  replace hpc := hpc.le le7
  replace lE := lE.trans le7
  refine ob_i (vInt_lss_f (by omega)) ?_
  refine cnd_f1 ?_
  refine ob_i (op1.ldn rfl) ?_
  refine C.laws_toField hpc (by omega) (fun u8 H9 ou8 nn11  le10 => ?_)
  have ap1Xu8 : Apart p1 u8 := op1.apart nn11
  have nu8 : Nw H u8 := nn11.le lE
  replace op1 := op1.le le10
  replace hpc := hpc.le le10
  replace lE := lE.trans le10
  refine C.spec_TrimField ou8.sl (by omega)  (fun g14 H12 og14 nn15  le13 => ?_)
  have ap1Xg14 : Apart p1 g14 := op1.apart nn15
  have au8Xg14 : Apart u8 g14 := ou8.apart nn15
  have ng14 : Nw H g14 := nn15.le lE
  replace op1 := op1.le le13
  replace ou8 := ou8.le le13
  replace hpc := hpc.le le13
  replace lE := lE.trans le13
  refine ob_i (vExt_40 _ _ _ _) ?_
  refine ob_i (vExt_41 _ _ _ _) ?_
  refine ob_i (vExt_42 _ _ _ _) ?_
  refine ob_i (vExt_43 _ _ _ _) ?_
  refine nw_i (fun p16 H17 op16 nn18 le19 => ?_)
  have ap1Xp16 : Apart p1 p16 := op1.apart nn18
  have au8Xp16 : Apart u8 p16 := ou8.apart nn18
  have ag14Xp16 : Apart g14 p16 := og14.apart nn18
  have np16 : Nw H p16 := nn18.le lE
  replace op1 := op1.le le19
  replace ou8 := ou8.le le19
  replace og14 := og14.le le19
  replace hpc := hpc.le le19
  replace lE := lE.trans le19
  replace op16 : Cel H17 p16 [(.int .i64 (0)), (.int .i64 (0)), (.slice none 0 0)] := op16
  refine op16.stn (ws := [(.int .i64 (trimI (trR pa pb spc) pa pb spc)), (.int .i64 (trimI (trC pa pb spc) pa pb spc)), g14]) rfl rfl (oc1 rfl (oc1 rfl (oc1 og14.one oc0))) (fun H20 op16 off21 => ?_)
  replace op1 := op1.off off21 ap1Xp16
  replace ou8 := ou8.off off21 au8Xp16
  replace og14 := og14.off off21 ag14Xp16
  replace hpc := hpc0.le (off21.le lE np16)
  replace lE := off21.le lE np16
  replace op16 : Cel H20 p16 [(.int .i64 (trimI (trR pa pb spc) pa pb spc)), (.int .i64 (trimI (trC pa pb spc) pa pb spc)), g14] := op16
  refine ob_i (op1.ldn rfl) ?_
  refine C.laws_toField hpc (by omega) (fun u22 H23 ou22 nn25  le24 => ?_)
  have ap1Xu22 : Apart p1 u22 := op1.apart nn25
  have au8Xu22 : Apart u8 u22 := ou8.apart nn25
  have ag14Xu22 : Apart g14 u22 := og14.apart nn25
  have ap16Xu22 : Apart p16 u22 := op16.apart nn25
  have nu22 : Nw H u22 := nn25.le lE
  replace op1 := op1.le le24
  replace ou8 := ou8.le le24
  replace og14 := og14.le le24
  replace op16 := op16.le le24
  replace hpc := hpc.le le24
  replace lE := lE.trans le24
  refine nw_i (fun p26 H27 op26 nn28 le29 => ?_)
  have ap1Xp26 : Apart p1 p26 := op1.apart nn28
  have au8Xp26 : Apart u8 p26 := ou8.apart nn28
  have ag14Xp26 : Apart g14 p26 := og14.apart nn28
  have ap16Xp26 : Apart p16 p26 := op16.apart nn28
  have au22Xp26 : Apart u22 p26 := ou22.apart nn28
  have np26 : Nw H p26 := nn28.le lE
  replace op1 := op1.le le29
  replace ou8 := ou8.le le29
  replace og14 := og14.le le29
  replace op16 := op16.le le29
  replace ou22 := ou22.le le29
  replace hpc := hpc.le le29
  replace lE := lE.trans le29
  replace op26 : Cel H27 p26 [(.int .i64 (0)), (.int .i64 (0)), (.slice none 0 0)] := op26
  refine op26.stn (ws := [(.int .i64 (pa)), (.int .i64 (pb)), u22]) rfl rfl (oc1 rfl (oc1 rfl (oc1 ou22.one oc0))) (fun H30 op26 off31 => ?_)
  replace op1 := op1.off off31 ap1Xp26
  replace ou8 := ou8.off off31 au8Xp26
  replace og14 := og14.off off31 ag14Xp26
  replace op16 := op16.off off31 ap16Xp26
  replace ou22 := ou22.off off31 au22Xp26
  replace hpc := hpc0.le (off31.le lE np26)
  replace lE := off31.le lE np26
  replace op26 : Cel H30 p26 [(.int .i64 (pa)), (.int .i64 (pb)), u22] := op26
  refine ob_i (op26.ldn rfl) ?_
  refine C.impl_TrimField ou22.sl (by omega)  (fun g34 H32 og34 nn35  le33 => ?_)
  have ap1Xg34 : Apart p1 g34 := op1.apart nn35
  have au8Xg34 : Apart u8 g34 := ou8.apart nn35
  have ag14Xg34 : Apart g14 g34 := og14.apart nn35
  have ap16Xg34 : Apart p16 g34 := op16.apart nn35
  have au22Xg34 : Apart u22 g34 := ou22.apart nn35
  have ap26Xg34 : Apart p26 g34 := op26.apart nn35
  have ng34 : Nw H g34 := nn35.le lE
  replace op1 := op1.le le33
  replace ou8 := ou8.le le33
  replace og14 := og14.le le33
  replace op16 := op16.le le33
  replace ou22 := ou22.le le33
  replace op26 := op26.le le33
  replace hpc := hpc.le le33
  replace lE := lE.trans le33
  refine ob_i (vExt_40 _ _ _ _) ?_
  refine ob_i (vExt_41 _ _ _ _) ?_
  refine ob_i (vExt_42 _ _ _ _) ?_
  refine ob_i (vExt_43 _ _ _ _) ?_
  refine nw_i (fun p36 H37 op36 nn38 le39 => ?_)
  have ap1Xp36 : Apart p1 p36 := op1.apart nn38
  have au8Xp36 : Apart u8 p36 := ou8.apart nn38
  have ag14Xp36 : Apart g14 p36 := og14.apart nn38
  have ap16Xp36 : Apart p16 p36 := op16.apart nn38
  have au22Xp36 : Apart u22 p36 := ou22.apart nn38
  have ap26Xp36 : Apart p26 p36 := op26.apart nn38
  have ag34Xp36 : Apart g34 p36 := og34.apart nn38
  have np36 : Nw H p36 := nn38.le lE
  replace op1 := op1.le le39
  replace ou8 := ou8.le le39
  replace og14 := og14.le le39
  replace op16 := op16.le le39
  replace ou22 := ou22.le le39
  replace op26 := op26.le le39
  replace og34 := og34.le le39
  replace hpc := hpc.le le39
  replace lE := lE.trans le39
  replace op36 : Cel H37 p36 [(.int .i64 (0)), (.int .i64 (0)), (.slice none 0 0)] := op36
  refine op36.stn (ws := [(.int .i64 (trimI (trR pa pb spc) pa pb spc)), (.int .i64 (trimI (trC pa pb spc) pa pb spc)), g34]) rfl rfl (oc1 rfl (oc1 rfl (oc1 og34.one oc0))) (fun H40 op36 off41 => ?_)
  replace op1 := op1.off off41 ap1Xp36
  replace ou8 := ou8.off off41 au8Xp36
  replace og14 := og14.off off41 ag14Xp36
  replace op16 := op16.off off41 ap16Xp36
  replace ou22 := ou22.off off41 au22Xp36
  replace op26 := op26.off off41 ap26Xp36
  replace og34 := og34.off off41 ag34Xp36
  replace hpc := hpc0.le (off41.le lE np36)
  replace lE := off41.le lE np36
  replace op36 : Cel H40 p36 [(.int .i64 (trimI (trR pa pb spc) pa pb spc)), (.int .i64 (trimI (trC pa pb spc) pa pb spc)), g34] := op36
  refine ob_i (op36.ldn rfl) ?_
  refine ob_i (op16.ldn rfl) ?_
  refine C.laws_eqField og34.sl og14.sl (by omega) (fun H42 le43 => ?_)
  replace op1 := op1.le le43
  replace ou8 := ou8.le le43
  replace og14 := og14.le le43
  replace op16 := op16.le le43
  replace ou22 := ou22.le le43
  replace op26 := op26.le le43
  replace og34 := og34.le le43
  replace op36 := op36.le le43
  replace hpc := hpc.le le43
  replace lE := lE.trans le43
  refine ob_i (a := .bool false) rfl ?_
  refine gop_rf ?_
  refine gop_rf ?_
  refine gop_rf ?_
  refine ob_i (vInt_neq_same _ _) ?_
  refine ob_i (vPick_f _ _) ?_
  refine gop_rf ?_
  refine gop_rf ?_
  refine gop_rf ?_
  refine ob_i (vInt_neq_same _ _) ?_
  refine ob_i (vPick_f _ _) ?_
  refine gop_rf ?_
  refine gop_rf ?_
  refine gop_rf ?_
  refine ob_i (vBool_neq_same _) ?_
  refine ob_i (vPick_f _ _) ?_
  refine cnd_f1 ?_
  refine ob_i (op26.ldn rfl) ?_
  refine ob_i (op1.ldn rfl) ?_
  refine C.laws_toField hpc (by omega) (fun u44 H45 ou44 nn47  le46 => ?_)
  have ap1Xu44 : Apart p1 u44 := op1.apart nn47
  have au8Xu44 : Apart u8 u44 := ou8.apart nn47
  have ag14Xu44 : Apart g14 u44 := og14.apart nn47
  have ap16Xu44 : Apart p16 u44 := op16.apart nn47
  have au22Xu44 : Apart u22 u44 := ou22.apart nn47
  have ap26Xu44 : Apart p26 u44 := op26.apart nn47
  have ag34Xu44 : Apart g34 u44 := og34.apart nn47
  have ap36Xu44 : Apart p36 u44 := op36.apart nn47
  have nu44 : Nw H u44 := nn47.le lE
  replace op1 := op1.le le46
  replace ou8 := ou8.le le46
  replace og14 := og14.le le46
  replace op16 := op16.le le46
  replace ou22 := ou22.le le46
  replace op26 := op26.le le46
  replace og34 := og34.le le46
  replace op36 := op36.le le46
  replace hpc := hpc.le le46
  replace lE := lE.trans le46
  refine ⟨le46, ?_⟩
  refine C.laws_eqField ou22.sl ou44.sl (by omega) (fun H48 le49 => ?_)
  replace op1 := op1.le le49
  replace ou8 := ou8.le le49
  replace og14 := og14.le le49
  replace op16 := op16.le le49
  replace ou22 := ou22.le le49
  replace op26 := op26.le le49
  replace og34 := og34.le le49
  replace op36 := op36.le le49
  replace ou44 := ou44.le le49
  replace hpc := hpc.le le49
  replace lE := lE.trans le49
  refine ⟨le49, ?_⟩
  refine ob_i (a := .bool false) rfl ?_
  refine cnd_f1 ?_
  refine ob_i (op26.ldn rfl) ?_
  refine R.laws_markField ?_
  unfold F.laws_markField
  refine nw_i (fun p50 H51 op50 nn52 le53 => ?_)
  have ap1Xp50 : Apart p1 p50 := op1.apart nn52
  have au8Xp50 : Apart u8 p50 := ou8.apart nn52
  have ag14Xp50 : Apart g14 p50 := og14.apart nn52
  have ap16Xp50 : Apart p16 p50 := op16.apart nn52
  have au22Xp50 : Apart u22 p50 := ou22.apart nn52
  have ap26Xp50 : Apart p26 p50 := op26.apart nn52
  have ag34Xp50 : Apart g34 p50 := og34.apart nn52
  have ap36Xp50 : Apart p36 p50 := op36.apart nn52
  have au44Xp50 : Apart u44 p50 := ou44.apart nn52
  have np50 : Nw H p50 := nn52.le lE
  replace op1 := op1.le le53
  replace ou8 := ou8.le le53
  replace og14 := og14.le le53
  replace op16 := op16.le le53
  replace ou22 := ou22.le le53
  replace op26 := op26.le le53
  replace og34 := og34.le le53
  replace op36 := op36.le le53
  replace ou44 := ou44.le le53
  replace hpc := hpc.le le53
  replace lE := lE.trans le53
  replace op50 : Cel H51 p50 [(.int .i64 (pa)), (.int .i64 (pb)), u22] := op50
  refine ob_i (op50.fa 2) ?_
  refine ob_i (op50.ld 2 rfl) ?_
  refine C.laws_markInt64S ou22 (by omega) (by omega) (by omega) (fun H54 ou22 off55 => ?_)
  replace op1 := op1.off off55 ap1Xu22
  replace ou8 := ou8.off off55 au8Xu22
  replace og14 := og14.off off55 ag14Xu22
  replace op16 := op16.off off55 ap16Xu22
  replace op26 := op26.off off55 au22Xp26.symm
  replace og34 := og34.off off55 au22Xg34.symm
  replace op36 := op36.off off55 au22Xp36.symm
  replace ou44 := ou44.off off55 au22Xu44.symm
  replace op50 := op50.off off55 au22Xp50.symm
  replace hpc := hpc0.le (off55.le lE nu22)
  replace lE := off55.le lE nu22
  refine ob_i (vInt_lss_f (by omega)) ?_
  refine gop_rf ?_
  refine ob_i (op36.ldn rfl) ?_
  refine gop_rf ?_
  refine ob_i (op16.ldn rfl) ?_
  refine gop_rf ?_
  refine C.laws_eqField og34.sl og14.sl (by omega) (fun H56 le57 => ?_)
  replace op1 := op1.le le57
  replace ou8 := ou8.le le57
  replace og14 := og14.le le57
  replace op16 := op16.le le57
  replace ou22 := ou22.le le57
  replace op26 := op26.le le57
  replace og34 := og34.le le57
  replace op36 := op36.le le57
  replace ou44 := ou44.le le57
  replace op50 := op50.le le57
  replace hpc := hpc.le le57
  replace lE := lE.trans le57
  refine gop_rf ?_
  refine ob_i (a := .bool false) rfl ?_
  refine ob_i (vPick_f _ _) ?_
  refine gop_rf ?_
  refine gop_rf ?_
  refine gop_rf ?_
  refine ob_i (vInt_neq_same _ _) ?_
  refine ob_i (vPick_f _ _) ?_
  refine gop_rf ?_
  refine gop_rf ?_
  refine gop_rf ?_
  refine ob_i (vInt_neq_same _ _) ?_
  refine ob_i (vPick_f _ _) ?_
  refine gop_rf ?_
  refine gop_rf ?_
  refine gop_rf ?_
  refine ob_i (vBool_neq_same _) ?_
  refine ob_i (vPick_f _ _) ?_
  refine cnd_f1 ?_
  refine ob_i (op36.ldn rfl) ?_
  refine R.laws_markField ?_
  unfold F.laws_markField
  refine nw_i (fun p58 H59 op58 nn60 le61 => ?_)
  have ap1Xp58 : Apart p1 p58 := op1.apart nn60
  have au8Xp58 : Apart u8 p58 := ou8.apart nn60
  have ag14Xp58 : Apart g14 p58 := og14.apart nn60
  have ap16Xp58 : Apart p16 p58 := op16.apart nn60
  have au22Xp58 : Apart u22 p58 := ou22.apart nn60
  have ap26Xp58 : Apart p26 p58 := op26.apart nn60
  have ag34Xp58 : Apart g34 p58 := og34.apart nn60
  have ap36Xp58 : Apart p36 p58 := op36.apart nn60
  have au44Xp58 : Apart u44 p58 := ou44.apart nn60
  have ap50Xp58 : Apart p50 p58 := op50.apart nn60
  have np58 : Nw H p58 := nn60.le lE
  replace op1 := op1.le le61
  replace ou8 := ou8.le le61
  replace og14 := og14.le le61
  replace op16 := op16.le le61
  replace ou22 := ou22.le le61
  replace op26 := op26.le le61
  replace og34 := og34.le le61
  replace op36 := op36.le le61
  replace ou44 := ou44.le le61
  replace op50 := op50.le le61
  replace hpc := hpc.le le61
  replace lE := lE.trans le61
  replace op58 : Cel H59 p58 [(.int .i64 (trimI (trR pa pb spc) pa pb spc)), (.int .i64 (trimI (trC pa pb spc) pa pb spc)), g34] := op58
  refine ob_i (op58.fa 2) ?_
  refine ob_i (op58.ld 2 rfl) ?_
  refine C.laws_markInt64S og34 (by omega) (by omega) (by omega) (fun H62 og34 off63 => ?_)
  replace op1 := op1.off off63 ap1Xg34
  replace ou8 := ou8.off off63 au8Xg34
  replace og14 := og14.off off63 ag14Xg34
  replace op16 := op16.off off63 ap16Xg34
  replace ou22 := ou22.off off63 au22Xg34
  replace op26 := op26.off off63 ap26Xg34
  replace op36 := op36.off off63 ag34Xp36.symm
  replace ou44 := ou44.off off63 ag34Xu44.symm
  replace op50 := op50.off off63 ag34Xp50.symm
  replace op58 := op58.off off63 ag34Xp58.symm
  replace hpc := hpc0.le (off63.le lE ng34)
  replace lE := off63.le lE ng34
  refine ob_i (op36.ldn rfl) ?_
  refine R.laws_heldField ?_
  unfold F.laws_heldField
  refine nw_i (fun p64 H65 op64 nn66 le67 => ?_)
  have ap1Xp64 : Apart p1 p64 := op1.apart nn66
  have au8Xp64 : Apart u8 p64 := ou8.apart nn66
  have ag14Xp64 : Apart g14 p64 := og14.apart nn66
  have ap16Xp64 : Apart p16 p64 := op16.apart nn66
  have au22Xp64 : Apart u22 p64 := ou22.apart nn66
  have ap26Xp64 : Apart p26 p64 := op26.apart nn66
  have ag34Xp64 : Apart g34 p64 := og34.apart nn66
  have ap36Xp64 : Apart p36 p64 := op36.apart nn66
  have au44Xp64 : Apart u44 p64 := ou44.apart nn66
  have ap50Xp64 : Apart p50 p64 := op50.apart nn66
  have ap58Xp64 : Apart p58 p64 := op58.apart nn66
  have np64 : Nw H p64 := nn66.le lE
  replace op1 := op1.le le67
  replace ou8 := ou8.le le67
  replace og14 := og14.le le67
  replace op16 := op16.le le67
  replace ou22 := ou22.le le67
  replace op26 := op26.le le67
  replace og34 := og34.le le67
  replace op36 := op36.le le67
  replace ou44 := ou44.le le67
  replace op50 := op50.le le67
  replace op58 := op58.le le67
  replace hpc := hpc.le le67
  replace lE := lE.trans le67
  replace op64 : Cel H65 p64 [(.int .i64 (trimI (trR pa pb spc) pa pb spc)), (.int .i64 (trimI (trC pa pb spc) pa pb spc)), g34] := op64
  refine ob_i (op64.fa 2) ?_
  refine ob_i (op64.ld 2 rfl) ?_
  refine C.laws_heldInt64S og34.sl (by omega) (by omega) (by omega) ?_
  refine ob_i (vInt_lss_f (by omega)) ?_
  refine cnd_f1 ?_
  refine ob_i (vInt_lss_f (by omega)) ?_
  refine cnd_f1 ?_
  refine ob_i (vInt_neq_same _ _) ?_
  refine cnd_f1 ?_
  refine ob_i (op1.ldn rfl) ?_
  refine C.laws_toField hpc (by omega) (fun u68 H69 ou68 nn71  le70 => ?_)
  have ap1Xu68 : Apart p1 u68 := op1.apart nn71
  have au8Xu68 : Apart u8 u68 := ou8.apart nn71
  have ag14Xu68 : Apart g14 u68 := og14.apart nn71
  have ap16Xu68 : Apart p16 u68 := op16.apart nn71
  have au22Xu68 : Apart u22 u68 := ou22.apart nn71
  have ap26Xu68 : Apart p26 u68 := op26.apart nn71
  have ag34Xu68 : Apart g34 u68 := og34.apart nn71
  have ap36Xu68 : Apart p36 u68 := op36.apart nn71
  have au44Xu68 : Apart u44 u68 := ou44.apart nn71
  have ap50Xu68 : Apart p50 u68 := op50.apart nn71
  have ap58Xu68 : Apart p58 u68 := op58.apart nn71
  have ap64Xu68 : Apart p64 u68 := op64.apart nn71
  have nu68 : Nw H u68 := nn71.le lE
  replace op1 := op1.le le70
  replace ou8 := ou8.le le70
  replace og14 := og14.le le70
  replace op16 := op16.le le70
  replace ou22 := ou22.le le70
  replace op26 := op26.le le70
  replace og34 := og34.le le70
  replace op36 := op36.le le70
  replace ou44 := ou44.le le70
  replace op50 := op50.le le70
  replace op58 := op58.le le70
  replace op64 := op64.le le70
  replace hpc := hpc.le le70
  replace lE := lE.trans le70
  refine C.impl_TrimField ou68.sl (by omega)  (fun g74 H72 og74 nn75  le73 => ?_)
  have ap1Xg74 : Apart p1 g74 := op1.apart nn75
  have au8Xg74 : Apart u8 g74 := ou8.apart nn75
  have ag14Xg74 : Apart g14 g74 := og14.apart nn75
  have ap16Xg74 : Apart p16 g74 := op16.apart nn75
  have au22Xg74 : Apart u22 g74 := ou22.apart nn75
  have ap26Xg74 : Apart p26 g74 := op26.apart nn75
  have ag34Xg74 : Apart g34 g74 := og34.apart nn75
  have ap36Xg74 : Apart p36 g74 := op36.apart nn75
  have au44Xg74 : Apart u44 g74 := ou44.apart nn75
  have ap50Xg74 : Apart p50 g74 := op50.apart nn75
  have ap58Xg74 : Apart p58 g74 := op58.apart nn75
  have ap64Xg74 : Apart p64 g74 := op64.apart nn75
  have au68Xg74 : Apart u68 g74 := ou68.apart nn75
  have ng74 : Nw H g74 := nn75.le lE
  replace op1 := op1.le le73
  replace ou8 := ou8.le le73
  replace og14 := og14.le le73
  replace op16 := op16.le le73
  replace ou22 := ou22.le le73
  replace op26 := op26.le le73
  replace og34 := og34.le le73
  replace op36 := op36.le le73
  replace ou44 := ou44.le le73
  replace op50 := op50.le le73
  replace op58 := op58.le le73
  replace op64 := op64.le le73
  replace ou68 := ou68.le le73
  replace hpc := hpc.le le73
  replace lE := lE.trans le73
  refine ob_i (vExt_40 _ _ _ _) ?_
  refine ob_i (vExt_41 _ _ _ _) ?_
  refine ob_i (vExt_42 _ _ _ _) ?_
  refine ob_i (vExt_43 _ _ _ _) ?_
  refine nw_i (fun p76 H77 op76 nn78 le79 => ?_)
  have ap1Xp76 : Apart p1 p76 := op1.apart nn78
  have au8Xp76 : Apart u8 p76 := ou8.apart nn78
  have ag14Xp76 : Apart g14 p76 := og14.apart nn78
  have ap16Xp76 : Apart p16 p76 := op16.apart nn78
  have au22Xp76 : Apart u22 p76 := ou22.apart nn78
  have ap26Xp76 : Apart p26 p76 := op26.apart nn78
  have ag34Xp76 : Apart g34 p76 := og34.apart nn78
  have ap36Xp76 : Apart p36 p76 := op36.apart nn78
  have au44Xp76 : Apart u44 p76 := ou44.apart nn78
  have ap50Xp76 : Apart p50 p76 := op50.apart nn78
  have ap58Xp76 : Apart p58 p76 := op58.apart nn78
  have ap64Xp76 : Apart p64 p76 := op64.apart nn78
  have au68Xp76 : Apart u68 p76 := ou68.apart nn78
  have ag74Xp76 : Apart g74 p76 := og74.apart nn78
  have np76 : Nw H p76 := nn78.le lE
  replace op1 := op1.le le79
  replace ou8 := ou8.le le79
  replace og14 := og14.le le79
  replace op16 := op16.le le79
  replace ou22 := ou22.le le79
  replace op26 := op26.le le79
  replace og34 := og34.le le79
  replace op36 := op36.le le79
  replace ou44 := ou44.le le79
  replace op50 := op50.le le79
  replace op58 := op58.le le79
  replace op64 := op64.le le79
  replace ou68 := ou68.le le79
  replace og74 := og74.le le79
  replace hpc := hpc.le le79
  replace lE := lE.trans le79
  replace op76 : Cel H77 p76 [(.int .i64 (0)), (.int .i64 (0)), (.slice none 0 0)] := op76
  refine op76.stn (ws := [(.int .i64 (trimI (trR pa pb spc) pa pb spc)), (.int .i64 (trimI (trC pa pb spc) pa pb spc)), g74]) rfl rfl (oc1 rfl (oc1 rfl (oc1 og74.one oc0))) (fun H80 op76 off81 => ?_)
  replace op1 := op1.off off81 ap1Xp76
  replace ou8 := ou8.off off81 au8Xp76
  replace og14 := og14.off off81 ag14Xp76
  replace op16 := op16.off off81 ap16Xp76
  replace ou22 := ou22.off off81 au22Xp76
  replace op26 := op26.off off81 ap26Xp76
  replace og34 := og34.off off81 ag34Xp76
  replace op36 := op36.off off81 ap36Xp76
  replace ou44 := ou44.off off81 au44Xp76
  replace op50 := op50.off off81 ap50Xp76
  replace op58 := op58.off off81 ap58Xp76
  replace op64 := op64.off off81 ap64Xp76
  replace ou68 := ou68.off off81 au68Xp76
  replace og74 := og74.off off81 ag74Xp76
  replace hpc := hpc0.le (off81.le lE np76)
  replace lE := off81.le lE np76
  replace op76 : Cel H80 p76 [(.int .i64 (trimI (trR pa pb spc) pa pb spc)), (.int .i64 (trimI (trC pa pb spc) pa pb spc)), g74] := op76
  refine ob_i (op76.ldn rfl) ?_
  refine ob_i (op16.ldn rfl) ?_
  refine C.laws_eqField og74.sl og14.sl (by omega) (fun H82 le83 => ?_)
  replace op1 := op1.le le83
  replace ou8 := ou8.le le83
  replace og14 := og14.le le83
  replace op16 := op16.le le83
  replace ou22 := ou22.le le83
  replace op26 := op26.le le83
  replace og34 := og34.le le83
  replace op36 := op36.le le83
  replace ou44 := ou44.le le83
  replace op50 := op50.le le83
  replace op58 := op58.le le83
  replace op64 := op64.le le83
  replace ou68 := ou68.le le83
  replace og74 := og74.le le83
  replace op76 := op76.le le83
  replace hpc := hpc.le le83
  replace lE := lE.trans le83
  refine ob_i (a := .bool false) rfl ?_
  refine gop_rf ?_
  refine gop_rf ?_
  refine gop_rf ?_
  refine ob_i (vInt_neq_same _ _) ?_
  refine ob_i (vPick_f _ _) ?_
  refine gop_rf ?_
  refine gop_rf ?_
  refine gop_rf ?_
  refine ob_i (vInt_neq_same _ _) ?_
  refine ob_i (vPick_f _ _) ?_
  refine gop_rf ?_
  refine gop_rf ?_
  refine gop_rf ?_
  refine ob_i (vBool_neq_same _) ?_
  refine ob_i (vPick_f _ _) ?_
  refine cnd_f1 ?_
  refine ob_i (op36.ldn rfl) ?_
  refine R.laws_heldField ?_
  unfold F.laws_heldField
  refine nw_i (fun p84 H85 op84 nn86 le87 => ?_)
  have ap1Xp84 : Apart p1 p84 := op1.apart nn86
  have au8Xp84 : Apart u8 p84 := ou8.apart nn86
  have ag14Xp84 : Apart g14 p84 := og14.apart nn86
  have ap16Xp84 : Apart p16 p84 := op16.apart nn86
  have au22Xp84 : Apart u22 p84 := ou22.apart nn86
  have ap26Xp84 : Apart p26 p84 := op26.apart nn86
  have ag34Xp84 : Apart g34 p84 := og34.apart nn86
  have ap36Xp84 : Apart p36 p84 := op36.apart nn86
  have au44Xp84 : Apart u44 p84 := ou44.apart nn86
  have ap50Xp84 : Apart p50 p84 := op50.apart nn86
  have ap58Xp84 : Apart p58 p84 := op58.apart nn86
  have ap64Xp84 : Apart p64 p84 := op64.apart nn86
  have au68Xp84 : Apart u68 p84 := ou68.apart nn86
  have ag74Xp84 : Apart g74 p84 := og74.apart nn86
  have ap76Xp84 : Apart p76 p84 := op76.apart nn86
  have np84 : Nw H p84 := nn86.le lE
  replace op1 := op1.le le87
  replace ou8 := ou8.le le87
  replace og14 := og14.le le87
  replace op16 := op16.le le87
  replace ou22 := ou22.le le87
  replace op26 := op26.le le87
  replace og34 := og34.le le87
  replace op36 := op36.le le87
  replace ou44 := ou44.le le87
  replace op50 := op50.le le87
  replace op58 := op58.le le87
  replace op64 := op64.le le87
  replace ou68 := ou68.le le87
  replace og74 := og74.le le87
  replace op76 := op76.le le87
  replace hpc := hpc.le le87
  replace lE := lE.trans le87
  replace op84 : Cel H85 p84 [(.int .i64 (trimI (trR pa pb spc) pa pb spc)), (.int .i64 (trimI (trC pa pb spc) pa pb spc)), g34] := op84
  refine ob_i (op84.fa 2) ?_
  refine ob_i (op84.ld 2 rfl) ?_
  refine C.laws_heldInt64S og34.sl (by omega) (by omega) (by omega) ?_
  refine ob_i (vInt_lss_f (by omega)) ?_
  refine cnd_f1 ?_
  refine ob_i (vInt_lss_f (by omega)) ?_
  refine cnd_f1 ?_
  refine ob_i (vInt_neq_same _ _) ?_
  refine cnd_f1 ?_
  exact hk _ lE
end Go.Proofs.Ytnndhafldmkdeaa
