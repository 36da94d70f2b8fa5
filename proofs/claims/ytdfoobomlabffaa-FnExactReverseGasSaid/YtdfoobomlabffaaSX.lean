/- Laws, each by its two sides: its function returns true, and what was known before stays. -/
import Derived.Test.YtdfoobomlabffaaSW
namespace Go.Proofs.Ytdfoobomlabffaa
open HL
set_option maxRecDepth 100000
--@ L.FnExactReverseGas needs laws_FnExactReverseGas
theorem L.FnExactReverseGas {pa : Int} {pb : Int} {pc : Int} {pd : Value} {spd : List Int} {pe : Value} {spe : List Bool} {H : Hp} {K : Value → Hp → Prop} (hpd0 : Sl eI H pd spd) (hpe0 : Sl eB H pe spe) (mspd : (spd).length ≤ 9223372036854775807) (mspe : (spe).length ≤ 9223372036854775807) (hk : ∀ H', Le H H' → K (.bool true) H') :
    HT prg I.laws_FnExactReverseGas [(.agg #[(.int .i64 (pa)), (.int .i64 (pb)), (.int .i64 (pc)), pd, pe])].toArray H K := by
  have hR1 := @revL_len pa pb pc spd spe
  have hR2 := @revM_len pa pb pc spd spe
  have lE := Le.refl H
  have hpd := hpd0
  have hpe := hpe0
  refine R.laws_FnExactReverseGas ?_
  unfold F.laws_FnExactReverseGas
  refine nw_i (fun p1 H2 op1 nn3 le4 => ?_)
  have np1 : Nw H p1 := nn3.le lE
  replace hpd := hpd.le le4
  replace hpe := hpe.le le4
  replace lE := lE.trans le4
  replace op1 : Cel H2 p1 [(.int .i64 (pa)), (.int .i64 (pb)), (.int .i64 (pc)), pd, pe] := op1
  refine ob_i (op1.ldn rfl) ?_
  refine C.laws_szGas hpd hpe (by omega) (by omega) (by omega) (by omega) (fun H6 le7 => ?_) (fun H6 le7 hz5 => ?_)
  · skip
    replace op1 := op1.le le7
    replace hpd := hpd.le le7
    replace hpe := hpe.le le7
    replace lE := lE.trans le7
    refine ob_i (vInt_lss_t (by omega)) ?_
    refine cnd_t1 ?_
    exact hk _ lE
  replace op1 := op1.le le7
  replace hpd := hpd.le le7
  replace hpe := hpe.le le7
  replace lE := lE.trans le7
  refine ob_i (vInt_lss_f (by omega)) ?_
  refine cnd_f1 ?_
  refine ob_i (op1.ldn rfl) ?_
  refine C.laws_toGas hpd hpe (by omega) (by omega) (fun u8 u9 H10 ou8 ou9 nn12 nn13 au8Xu9 le11 => ?_)
  have ap1Xu8 : Apart p1 u8 := op1.apart nn12
  have nu8 : Nw H u8 := nn12.le lE
  have ap1Xu9 : Apart p1 u9 := op1.apart nn13
  have nu9 : Nw H u9 := nn13.le lE
  replace op1 := op1.le le11
  replace hpd := hpd.le le11
  replace hpe := hpe.le le11
  replace lE := lE.trans le11
  refine C.spec_ReverseGas ou8.sl ou9.sl (by omega) (by omega)  (fun g16 g18 H14 og16 og18 nn17 nn19 ag16Xg18 le15 => ?_)
  have ap1Xg16 : Apart p1 g16 := op1.apart nn17
  have au8Xg16 : Apart u8 g16 := ou8.apart nn17
  have au9Xg16 : Apart u9 g16 := ou9.apart nn17
  have ng16 : Nw H g16 := nn17.le lE
  have ap1Xg18 : Apart p1 g18 := op1.apart nn19
  have au8Xg18 : Apart u8 g18 := ou8.apart nn19
  have au9Xg18 : Apart u9 g18 := ou9.apart nn19
  have ng18 : Nw H g18 := nn19.le lE
  replace op1 := op1.le le15
  replace ou8 := ou8.le le15
  replace ou9 := ou9.le le15
  replace hpd := hpd.le le15
  replace hpe := hpe.le le15
  replace lE := lE.trans le15
  refine ob_i (vExt_20 _ _) ?_
  refine ob_i (vExt_21 _ _) ?_
  refine nw_i (fun p20 H21 op20 nn22 le23 => ?_)
  have ap1Xp20 : Apart p1 p20 := op1.apart nn22
  have au8Xp20 : Apart u8 p20 := ou8.apart nn22
  have au9Xp20 : Apart u9 p20 := ou9.apart nn22
  have ag16Xp20 : Apart g16 p20 := og16.apart nn22
  have ag18Xp20 : Apart g18 p20 := og18.apart nn22
  have np20 : Nw H p20 := nn22.le lE
  replace op1 := op1.le le23
  replace ou8 := ou8.le le23
  replace ou9 := ou9.le le23
  replace og16 := og16.le le23
  replace og18 := og18.le le23
  replace hpd := hpd.le le23
  replace hpe := hpe.le le23
  replace lE := lE.trans le23
  replace op20 : Cel H21 p20 [(.int .i64 (0)), (.int .i64 (0)), (.int .i64 (0)), (.slice none 0 0), (.slice none 0 0)] := op20
  refine op20.stn (ws := [(.int .i64 (revI pa pa pb pc spd spe)), (.int .i64 (revI pb pa pb pc spd spe)), (.int .i64 (revI pc pa pb pc spd spe)), g16, g18]) rfl rfl (oc1 rfl (oc1 rfl (oc1 rfl (oc1 og16.one (oc1 og18.one oc0))))) (fun H24 op20 off25 => ?_)
  replace op1 := op1.off off25 ap1Xp20
  replace ou8 := ou8.off off25 au8Xp20
  replace ou9 := ou9.off off25 au9Xp20
  replace og16 := og16.off off25 ag16Xp20
  replace og18 := og18.off off25 ag18Xp20
  replace hpd := hpd0.le (off25.le lE np20)
  replace hpe := hpe0.le (off25.le lE np20)
  replace lE := off25.le lE np20
  replace op20 : Cel H24 p20 [(.int .i64 (revI pa pa pb pc spd spe)), (.int .i64 (revI pb pa pb pc spd spe)), (.int .i64 (revI pc pa pb pc spd spe)), g16, g18] := op20
  refine ob_i (op1.ldn rfl) ?_
  refine C.laws_toGas hpd hpe (by omega) (by omega) (fun u26 u27 H28 ou26 ou27 nn30 nn31 au26Xu27 le29 => ?_)
  have ap1Xu26 : Apart p1 u26 := op1.apart nn30
  have au8Xu26 : Apart u8 u26 := ou8.apart nn30
  have au9Xu26 : Apart u9 u26 := ou9.apart nn30
  have ag16Xu26 : Apart g16 u26 := og16.apart nn30
  have ag18Xu26 : Apart g18 u26 := og18.apart nn30
  have ap20Xu26 : Apart p20 u26 := op20.apart nn30
  have nu26 : Nw H u26 := nn30.le lE
  have ap1Xu27 : Apart p1 u27 := op1.apart nn31
  have au8Xu27 : Apart u8 u27 := ou8.apart nn31
  have au9Xu27 : Apart u9 u27 := ou9.apart nn31
  have ag16Xu27 : Apart g16 u27 := og16.apart nn31
  have ag18Xu27 : Apart g18 u27 := og18.apart nn31
  have ap20Xu27 : Apart p20 u27 := op20.apart nn31
  have nu27 : Nw H u27 := nn31.le lE
  replace op1 := op1.le le29
  replace ou8 := ou8.le le29
  replace ou9 := ou9.le le29
  replace og16 := og16.le le29
  replace og18 := og18.le le29
  replace op20 := op20.le le29
  replace hpd := hpd.le le29
  replace hpe := hpe.le le29
  replace lE := lE.trans le29
  refine nw_i (fun p32 H33 op32 nn34 le35 => ?_)
  have ap1Xp32 : Apart p1 p32 := op1.apart nn34
  have au8Xp32 : Apart u8 p32 := ou8.apart nn34
  have au9Xp32 : Apart u9 p32 := ou9.apart nn34
  have ag16Xp32 : Apart g16 p32 := og16.apart nn34
  have ag18Xp32 : Apart g18 p32 := og18.apart nn34
  have ap20Xp32 : Apart p20 p32 := op20.apart nn34
  have au26Xp32 : Apart u26 p32 := ou26.apart nn34
  have au27Xp32 : Apart u27 p32 := ou27.apart nn34
  have np32 : Nw H p32 := nn34.le lE
  replace op1 := op1.le le35
  replace ou8 := ou8.le le35
  replace ou9 := ou9.le le35
  replace og16 := og16.le le35
  replace og18 := og18.le le35
  replace op20 := op20.le le35
  replace ou26 := ou26.le le35
  replace ou27 := ou27.le le35
  replace hpd := hpd.le le35
  replace hpe := hpe.le le35
  replace lE := lE.trans le35
  replace op32 : Cel H33 p32 [(.int .i64 (0)), (.int .i64 (0)), (.int .i64 (0)), (.slice none 0 0), (.slice none 0 0)] := op32
  refine op32.stn (ws := [(.int .i64 (pa)), (.int .i64 (pb)), (.int .i64 (pc)), u26, u27]) rfl rfl (oc1 rfl (oc1 rfl (oc1 rfl (oc1 ou26.one (oc1 ou27.one oc0))))) (fun H36 op32 off37 => ?_)
  replace op1 := op1.off off37 ap1Xp32
  replace ou8 := ou8.off off37 au8Xp32
  replace ou9 := ou9.off off37 au9Xp32
  replace og16 := og16.off off37 ag16Xp32
  replace og18 := og18.off off37 ag18Xp32
  replace op20 := op20.off off37 ap20Xp32
  replace ou26 := ou26.off off37 au26Xp32
  replace ou27 := ou27.off off37 au27Xp32
  replace hpd := hpd0.le (off37.le lE np32)
  replace hpe := hpe0.le (off37.le lE np32)
  replace lE := off37.le lE np32
  replace op32 : Cel H36 p32 [(.int .i64 (pa)), (.int .i64 (pb)), (.int .i64 (pc)), u26, u27] := op32
  refine ob_i (op32.ldn rfl) ?_
  refine C.impl_ReverseGas ou26.sl ou27.sl (by omega) (by omega)  (fun g40 g42 H38 og40 og42 nn41 nn43 ag40Xg42 le39 => ?_)
  have ap1Xg40 : Apart p1 g40 := op1.apart nn41
  have au8Xg40 : Apart u8 g40 := ou8.apart nn41
  have au9Xg40 : Apart u9 g40 := ou9.apart nn41
  have ag16Xg40 : Apart g16 g40 := og16.apart nn41
  have ag18Xg40 : Apart g18 g40 := og18.apart nn41
  have ap20Xg40 : Apart p20 g40 := op20.apart nn41
  have au26Xg40 : Apart u26 g40 := ou26.apart nn41
  have au27Xg40 : Apart u27 g40 := ou27.apart nn41
  have ap32Xg40 : Apart p32 g40 := op32.apart nn41
  have ng40 : Nw H g40 := nn41.le lE
  have ap1Xg42 : Apart p1 g42 := op1.apart nn43
  have au8Xg42 : Apart u8 g42 := ou8.apart nn43
  have au9Xg42 : Apart u9 g42 := ou9.apart nn43
  have ag16Xg42 : Apart g16 g42 := og16.apart nn43
  have ag18Xg42 : Apart g18 g42 := og18.apart nn43
  have ap20Xg42 : Apart p20 g42 := op20.apart nn43
  have au26Xg42 : Apart u26 g42 := ou26.apart nn43
  have au27Xg42 : Apart u27 g42 := ou27.apart nn43
  have ap32Xg42 : Apart p32 g42 := op32.apart nn43
  have ng42 : Nw H g42 := nn43.le lE
  replace op1 := op1.le le39
  replace ou8 := ou8.le le39
  replace ou9 := ou9.le le39
  replace og16 := og16.le le39
  replace og18 := og18.le le39
  replace op20 := op20.le le39
  replace ou26 := ou26.le le39
  replace ou27 := ou27.le le39
  replace op32 := op32.le le39
  replace hpd := hpd.le le39
  replace hpe := hpe.le le39
  replace lE := lE.trans le39
  refine ob_i (vExt_20 _ _) ?_
  refine ob_i (vExt_21 _ _) ?_
  refine nw_i (fun p44 H45 op44 nn46 le47 => ?_)
  have ap1Xp44 : Apart p1 p44 := op1.apart nn46
  have au8Xp44 : Apart u8 p44 := ou8.apart nn46
  have au9Xp44 : Apart u9 p44 := ou9.apart nn46
  have ag16Xp44 : Apart g16 p44 := og16.apart nn46
  have ag18Xp44 : Apart g18 p44 := og18.apart nn46
  have ap20Xp44 : Apart p20 p44 := op20.apart nn46
  have au26Xp44 : Apart u26 p44 := ou26.apart nn46
  have au27Xp44 : Apart u27 p44 := ou27.apart nn46
  have ap32Xp44 : Apart p32 p44 := op32.apart nn46
  have ag40Xp44 : Apart g40 p44 := og40.apart nn46
  have ag42Xp44 : Apart g42 p44 := og42.apart nn46
  have np44 : Nw H p44 := nn46.le lE
  replace op1 := op1.le le47
  replace ou8 := ou8.le le47
  replace ou9 := ou9.le le47
  replace og16 := og16.le le47
  replace og18 := og18.le le47
  replace op20 := op20.le le47
  replace ou26 := ou26.le le47
  replace ou27 := ou27.le le47
  replace op32 := op32.le le47
  replace og40 := og40.le le47
  replace og42 := og42.le le47
  replace hpd := hpd.le le47
  replace hpe := hpe.le le47
  replace lE := lE.trans le47
  replace op44 : Cel H45 p44 [(.int .i64 (0)), (.int .i64 (0)), (.int .i64 (0)), (.slice none 0 0), (.slice none 0 0)] := op44
  refine op44.stn (ws := [(.int .i64 (revI pa pa pb pc spd spe)), (.int .i64 (revI pb pa pb pc spd spe)), (.int .i64 (revI pc pa pb pc spd spe)), g40, g42]) rfl rfl (oc1 rfl (oc1 rfl (oc1 rfl (oc1 og40.one (oc1 og42.one oc0))))) (fun H48 op44 off49 => ?_)
  replace op1 := op1.off off49 ap1Xp44
  replace ou8 := ou8.off off49 au8Xp44
  replace ou9 := ou9.off off49 au9Xp44
  replace og16 := og16.off off49 ag16Xp44
  replace og18 := og18.off off49 ag18Xp44
  replace op20 := op20.off off49 ap20Xp44
  replace ou26 := ou26.off off49 au26Xp44
  replace ou27 := ou27.off off49 au27Xp44
  replace op32 := op32.off off49 ap32Xp44
  replace og40 := og40.off off49 ag40Xp44
  replace og42 := og42.off off49 ag42Xp44
  replace hpd := hpd0.le (off49.le lE np44)
  replace hpe := hpe0.le (off49.le lE np44)
  replace lE := off49.le lE np44
  replace op44 : Cel H48 p44 [(.int .i64 (revI pa pa pb pc spd spe)), (.int .i64 (revI pb pa pb pc spd spe)), (.int .i64 (revI pc pa pb pc spd spe)), g40, g42] := op44
  refine ob_i (op44.ldn rfl) ?_
  refine ob_i (op20.ldn rfl) ?_
  refine C.laws_eqGas og40.sl og16.sl og42.sl og18.sl (by omega) (by omega) (fun H50 le51 => ?_)
  replace op1 := op1.le le51
  replace ou8 := ou8.le le51
  replace ou9 := ou9.le le51
  replace og16 := og16.le le51
  replace og18 := og18.le le51
  replace op20 := op20.le le51
  replace ou26 := ou26.le le51
  replace ou27 := ou27.le le51
  replace op32 := op32.le le51
  replace og40 := og40.le le51
  replace og42 := og42.le le51
  replace op44 := op44.le le51
  replace hpd := hpd.le le51
  replace hpe := hpe.le le51
  replace lE := lE.trans le51
  refine ob_i (a := .bool false) rfl ?_
  refine gop_rf ?_
  refine gop_rf ?_
  refine gop_rf ?_
  refine ob_i (vBool_neq_same _) ?_
  refine ob_i (vPick_f _ _) ?_
  refine cnd_f1 ?_
  refine ob_i (op32.ldn rfl) ?_
  refine ob_i (op1.ldn rfl) ?_
  refine C.laws_toGas hpd hpe (by omega) (by omega) (fun u52 u53 H54 ou52 ou53 nn56 nn57 au52Xu53 le55 => ?_)
  have ap1Xu52 : Apart p1 u52 := op1.apart nn56
  have au8Xu52 : Apart u8 u52 := ou8.apart nn56
  have au9Xu52 : Apart u9 u52 := ou9.apart nn56
  have ag16Xu52 : Apart g16 u52 := og16.apart nn56
  have ag18Xu52 : Apart g18 u52 := og18.apart nn56
  have ap20Xu52 : Apart p20 u52 := op20.apart nn56
  have au26Xu52 : Apart u26 u52 := ou26.apart nn56
  have au27Xu52 : Apart u27 u52 := ou27.apart nn56
  have ap32Xu52 : Apart p32 u52 := op32.apart nn56
  have ag40Xu52 : Apart g40 u52 := og40.apart nn56
  have ag42Xu52 : Apart g42 u52 := og42.apart nn56
  have ap44Xu52 : Apart p44 u52 := op44.apart nn56
  have nu52 : Nw H u52 := nn56.le lE
  have ap1Xu53 : Apart p1 u53 := op1.apart nn57
  have au8Xu53 : Apart u8 u53 := ou8.apart nn57
  have au9Xu53 : Apart u9 u53 := ou9.apart nn57
  have ag16Xu53 : Apart g16 u53 := og16.apart nn57
  have ag18Xu53 : Apart g18 u53 := og18.apart nn57
  have ap20Xu53 : Apart p20 u53 := op20.apart nn57
  have au26Xu53 : Apart u26 u53 := ou26.apart nn57
  have au27Xu53 : Apart u27 u53 := ou27.apart nn57
  have ap32Xu53 : Apart p32 u53 := op32.apart nn57
  have ag40Xu53 : Apart g40 u53 := og40.apart nn57
  have ag42Xu53 : Apart g42 u53 := og42.apart nn57
  have ap44Xu53 : Apart p44 u53 := op44.apart nn57
  have nu53 : Nw H u53 := nn57.le lE
  replace op1 := op1.le le55
  replace ou8 := ou8.le le55
  replace ou9 := ou9.le le55
  replace og16 := og16.le le55
  replace og18 := og18.le le55
  replace op20 := op20.le le55
  replace ou26 := ou26.le le55
  replace ou27 := ou27.le le55
  replace op32 := op32.le le55
  replace og40 := og40.le le55
  replace og42 := og42.le le55
  replace op44 := op44.le le55
  replace hpd := hpd.le le55
  replace hpe := hpe.le le55
  replace lE := lE.trans le55
  refine ⟨le55, ?_⟩
  refine C.laws_eqGas ou26.sl ou52.sl ou27.sl ou53.sl (by omega) (by omega) (fun H58 le59 => ?_)
  replace op1 := op1.le le59
  replace ou8 := ou8.le le59
  replace ou9 := ou9.le le59
  replace og16 := og16.le le59
  replace og18 := og18.le le59
  replace op20 := op20.le le59
  replace ou26 := ou26.le le59
  replace ou27 := ou27.le le59
  replace op32 := op32.le le59
  replace og40 := og40.le le59
  replace og42 := og42.le le59
  replace op44 := op44.le le59
  replace ou52 := ou52.le le59
  replace ou53 := ou53.le le59
  replace hpd := hpd.le le59
  replace hpe := hpe.le le59
  replace lE := lE.trans le59
  refine ⟨le59, ?_⟩
  refine ob_i (a := .bool false) rfl ?_
  refine cnd_f1 ?_
  refine ob_i (op32.ldn rfl) ?_
  refine R.laws_markGas ?_
  unfold F.laws_markGas
  refine nw_i (fun p60 H61 op60 nn62 le63 => ?_)
  have ap1Xp60 : Apart p1 p60 := op1.apart nn62
  have au8Xp60 : Apart u8 p60 := ou8.apart nn62
  have au9Xp60 : Apart u9 p60 := ou9.apart nn62
  have ag16Xp60 : Apart g16 p60 := og16.apart nn62
  have ag18Xp60 : Apart g18 p60 := og18.apart nn62
  have ap20Xp60 : Apart p20 p60 := op20.apart nn62
  have au26Xp60 : Apart u26 p60 := ou26.apart nn62
  have au27Xp60 : Apart u27 p60 := ou27.apart nn62
  have ap32Xp60 : Apart p32 p60 := op32.apart nn62
  have ag40Xp60 : Apart g40 p60 := og40.apart nn62
  have ag42Xp60 : Apart g42 p60 := og42.apart nn62
  have ap44Xp60 : Apart p44 p60 := op44.apart nn62
  have au52Xp60 : Apart u52 p60 := ou52.apart nn62
  have au53Xp60 : Apart u53 p60 := ou53.apart nn62
  have np60 : Nw H p60 := nn62.le lE
  replace op1 := op1.le le63
  replace ou8 := ou8.le le63
  replace ou9 := ou9.le le63
  replace og16 := og16.le le63
  replace og18 := og18.le le63
  replace op20 := op20.le le63
  replace ou26 := ou26.le le63
  replace ou27 := ou27.le le63
  replace op32 := op32.le le63
  replace og40 := og40.le le63
  replace og42 := og42.le le63
  replace op44 := op44.le le63
  replace ou52 := ou52.le le63
  replace ou53 := ou53.le le63
  replace hpd := hpd.le le63
  replace hpe := hpe.le le63
  replace lE := lE.trans le63
  replace op60 : Cel H61 p60 [(.int .i64 (pa)), (.int .i64 (pb)), (.int .i64 (pc)), u26, u27] := op60
  refine ob_i (op60.fa 3) ?_
  refine ob_i (op60.ld 3 rfl) ?_
  refine C.laws_markInt64S ou26 (by omega) (by omega) (by omega) (fun H64 ou26 off65 => ?_)
  replace op1 := op1.off off65 ap1Xu26
  replace ou8 := ou8.off off65 au8Xu26
  replace ou9 := ou9.off off65 au9Xu26
  replace og16 := og16.off off65 ag16Xu26
  replace og18 := og18.off off65 ag18Xu26
  replace op20 := op20.off off65 ap20Xu26
  replace ou27 := ou27.off off65 au26Xu27.symm
  replace op32 := op32.off off65 au26Xp32.symm
  replace og40 := og40.off off65 au26Xg40.symm
  replace og42 := og42.off off65 au26Xg42.symm
  replace op44 := op44.off off65 au26Xp44.symm
  replace ou52 := ou52.off off65 au26Xu52.symm
  replace ou53 := ou53.off off65 au26Xu53.symm
  replace op60 := op60.off off65 au26Xp60.symm
  replace hpd := hpd0.le (off65.le lE nu26)
  replace hpe := hpe0.le (off65.le lE nu26)
  replace lE := off65.le lE nu26
  refine ob_i (op60.fa 4) ?_
  refine ob_i (op60.ld 4 rfl) ?_
  refine C.laws_markBoolS ou27 (by omega) (by omega) (by omega) (fun H66 ou27 off67 => ?_)
  replace op1 := op1.off off67 ap1Xu27
  replace ou8 := ou8.off off67 au8Xu27
  replace ou9 := ou9.off off67 au9Xu27
  replace og16 := og16.off off67 ag16Xu27
  replace og18 := og18.off off67 ag18Xu27
  replace op20 := op20.off off67 ap20Xu27
  replace ou26 := ou26.off off67 au26Xu27
  replace op32 := op32.off off67 au27Xp32.symm
  replace og40 := og40.off off67 au27Xg40.symm
  replace og42 := og42.off off67 au27Xg42.symm
  replace op44 := op44.off off67 au27Xp44.symm
  replace ou52 := ou52.off off67 au27Xu52.symm
  replace ou53 := ou53.off off67 au27Xu53.symm
  replace op60 := op60.off off67 au27Xp60.symm
  replace hpd := hpd0.le (off67.le lE nu27)
  replace hpe := hpe0.le (off67.le lE nu27)
  replace lE := off67.le lE nu27
  refine ob_i (vInt_lss_f (by omega)) ?_
  refine gop_rf ?_
  refine ob_i (op44.ldn rfl) ?_
  refine gop_rf ?_
  refine ob_i (op20.ldn rfl) ?_
  refine gop_rf ?_
  refine C.laws_eqGas og40.sl og16.sl og42.sl og18.sl (by omega) (by omega) (fun H68 le69 => ?_)
  replace op1 := op1.le le69
  replace ou8 := ou8.le le69
  replace ou9 := ou9.le le69
  replace og16 := og16.le le69
  replace og18 := og18.le le69
  replace op20 := op20.le le69
  replace ou26 := ou26.le le69
  replace ou27 := ou27.le le69
  replace op32 := op32.le le69
  replace og40 := og40.le le69
  replace og42 := og42.le le69
  replace op44 := op44.le le69
  replace ou52 := ou52.le le69
  replace ou53 := ou53.le le69
  replace op60 := op60.le le69
  replace hpd := hpd.le le69
  replace hpe := hpe.le le69
  replace lE := lE.trans le69
  refine gop_rf ?_
  refine ob_i (a := .bool false) rfl ?_
  refine ob_i (vPick_f _ _) ?_
  refine gop_rf ?_
  refine gop_rf ?_
  refine gop_rf ?_
  refine ob_i (vBool_neq_same _) ?_
  refine ob_i (vPick_f _ _) ?_
  refine cnd_f1 ?_
  refine ob_i (op44.ldn rfl) ?_
  refine R.laws_markGas ?_
  unfold F.laws_markGas
  refine nw_i (fun p70 H71 op70 nn72 le73 => ?_)
  have ap1Xp70 : Apart p1 p70 := op1.apart nn72
  have au8Xp70 : Apart u8 p70 := ou8.apart nn72
  have au9Xp70 : Apart u9 p70 := ou9.apart nn72
  have ag16Xp70 : Apart g16 p70 := og16.apart nn72
  have ag18Xp70 : Apart g18 p70 := og18.apart nn72
  have ap20Xp70 : Apart p20 p70 := op20.apart nn72
  have au26Xp70 : Apart u26 p70 := ou26.apart nn72
  have au27Xp70 : Apart u27 p70 := ou27.apart nn72
  have ap32Xp70 : Apart p32 p70 := op32.apart nn72
  have ag40Xp70 : Apart g40 p70 := og40.apart nn72
  have ag42Xp70 : Apart g42 p70 := og42.apart nn72
  have ap44Xp70 : Apart p44 p70 := op44.apart nn72
  have au52Xp70 : Apart u52 p70 := ou52.apart nn72
  have au53Xp70 : Apart u53 p70 := ou53.apart nn72
  have ap60Xp70 : Apart p60 p70 := op60.apart nn72
  have np70 : Nw H p70 := nn72.le lE
  replace op1 := op1.le le73
  replace ou8 := ou8.le le73
  replace ou9 := ou9.le le73
  replace og16 := og16.le le73
  replace og18 := og18.le le73
  replace op20 := op20.le le73
  replace ou26 := ou26.le le73
  replace ou27 := ou27.le le73
  replace op32 := op32.le le73
  replace og40 := og40.le le73
  replace og42 := og42.le le73
  replace op44 := op44.le le73
  replace ou52 := ou52.le le73
  replace ou53 := ou53.le le73
  replace op60 := op60.le le73
  replace hpd := hpd.le le73
  replace hpe := hpe.le le73
  replace lE := lE.trans le73
  replace op70 : Cel H71 p70 [(.int .i64 (revI pa pa pb pc spd spe)), (.int .i64 (revI pb pa pb pc spd spe)), (.int .i64 (revI pc pa pb pc spd spe)), g40, g42] := op70
  refine ob_i (op70.fa 3) ?_
  refine ob_i (op70.ld 3 rfl) ?_
  refine C.laws_markInt64S og40 (by omega) (by omega) (by omega) (fun H74 og40 off75 => ?_)
  replace op1 := op1.off off75 ap1Xg40
  replace ou8 := ou8.off off75 au8Xg40
  replace ou9 := ou9.off off75 au9Xg40
  replace og16 := og16.off off75 ag16Xg40
  replace og18 := og18.off off75 ag18Xg40
  replace op20 := op20.off off75 ap20Xg40
  replace ou26 := ou26.off off75 au26Xg40
  replace ou27 := ou27.off off75 au27Xg40
  replace op32 := op32.off off75 ap32Xg40
  replace og42 := og42.off off75 ag40Xg42.symm
  replace op44 := op44.off off75 ag40Xp44.symm
  replace ou52 := ou52.off off75 ag40Xu52.symm
  replace ou53 := ou53.off off75 ag40Xu53.symm
  replace op60 := op60.off off75 ag40Xp60.symm
  replace op70 := op70.off off75 ag40Xp70.symm
  replace hpd := hpd0.le (off75.le lE ng40)
  replace hpe := hpe0.le (off75.le lE ng40)
  replace lE := off75.le lE ng40
  refine ob_i (op70.fa 4) ?_
  refine ob_i (op70.ld 4 rfl) ?_
  refine C.laws_markBoolS og42 (by omega) (by omega) (by omega) (fun H76 og42 off77 => ?_)
  replace op1 := op1.off off77 ap1Xg42
  replace ou8 := ou8.off off77 au8Xg42
  replace ou9 := ou9.off off77 au9Xg42
  replace og16 := og16.off off77 ag16Xg42
  replace og18 := og18.off off77 ag18Xg42
  replace op20 := op20.off off77 ap20Xg42
  replace ou26 := ou26.off off77 au26Xg42
  replace ou27 := ou27.off off77 au27Xg42
  replace op32 := op32.off off77 ap32Xg42
  replace og40 := og40.off off77 ag40Xg42
  replace op44 := op44.off off77 ag42Xp44.symm
  replace ou52 := ou52.off off77 ag42Xu52.symm
  replace ou53 := ou53.off off77 ag42Xu53.symm
  replace op60 := op60.off off77 ag42Xp60.symm
  replace op70 := op70.off off77 ag42Xp70.symm
  replace hpd := hpd0.le (off77.le lE ng42)
  replace hpe := hpe0.le (off77.le lE ng42)
  replace lE := off77.le lE ng42
  refine ob_i (op44.ldn rfl) ?_
  refine R.laws_heldGas ?_
  unfold F.laws_heldGas
  refine nw_i (fun p78 H79 op78 nn80 le81 => ?_)
  have ap1Xp78 : Apart p1 p78 := op1.apart nn80
  have au8Xp78 : Apart u8 p78 := ou8.apart nn80
  have au9Xp78 : Apart u9 p78 := ou9.apart nn80
  have ag16Xp78 : Apart g16 p78 := og16.apart nn80
  have ag18Xp78 : Apart g18 p78 := og18.apart nn80
  have ap20Xp78 : Apart p20 p78 := op20.apart nn80
  have au26Xp78 : Apart u26 p78 := ou26.apart nn80
  have au27Xp78 : Apart u27 p78 := ou27.apart nn80
  have ap32Xp78 : Apart p32 p78 := op32.apart nn80
  have ag40Xp78 : Apart g40 p78 := og40.apart nn80
  have ag42Xp78 : Apart g42 p78 := og42.apart nn80
  have ap44Xp78 : Apart p44 p78 := op44.apart nn80
  have au52Xp78 : Apart u52 p78 := ou52.apart nn80
  have au53Xp78 : Apart u53 p78 := ou53.apart nn80
  have ap60Xp78 : Apart p60 p78 := op60.apart nn80
  have ap70Xp78 : Apart p70 p78 := op70.apart nn80
  have np78 : Nw H p78 := nn80.le lE
  replace op1 := op1.le le81
  replace ou8 := ou8.le le81
  replace ou9 := ou9.le le81
  replace og16 := og16.le le81
  replace og18 := og18.le le81
  replace op20 := op20.le le81
  replace ou26 := ou26.le le81
  replace ou27 := ou27.le le81
  replace op32 := op32.le le81
  replace og40 := og40.le le81
  replace og42 := og42.le le81
  replace op44 := op44.le le81
  replace ou52 := ou52.le le81
  replace ou53 := ou53.le le81
  replace op60 := op60.le le81
  replace op70 := op70.le le81
  replace hpd := hpd.le le81
  replace hpe := hpe.le le81
  replace lE := lE.trans le81
  replace op78 : Cel H79 p78 [(.int .i64 (revI pa pa pb pc spd spe)), (.int .i64 (revI pb pa pb pc spd spe)), (.int .i64 (revI pc pa pb pc spd spe)), g40, g42] := op78
  refine ob_i (op78.fa 3) ?_
  refine ob_i (op78.ld 3 rfl) ?_
  refine C.laws_heldInt64S og40.sl (by omega) (by omega) (by omega) ?_
  refine ob_i (vInt_lss_f (by omega)) ?_
  refine cnd_f1 ?_
  refine ob_i (op78.fa 4) ?_
  refine ob_i (op78.ld 4 rfl) ?_
  refine C.laws_heldBoolS og42.sl (by omega) (by omega) (by omega) ?_
  refine ob_i (vInt_lss_f (by omega)) ?_
  refine cnd_f1 ?_
  refine ob_i (vInt_lss_f (by omega)) ?_
  refine cnd_f1 ?_
  refine ob_i (vInt_neq_same _ _) ?_
  refine cnd_f1 ?_
  refine ob_i (op1.ldn rfl) ?_
  refine C.laws_toGas hpd hpe (by omega) (by omega) (fun u82 u83 H84 ou82 ou83 nn86 nn87 au82Xu83 le85 => ?_)
  have ap1Xu82 : Apart p1 u82 := op1.apart nn86
  have au8Xu82 : Apart u8 u82 := ou8.apart nn86
  have au9Xu82 : Apart u9 u82 := ou9.apart nn86
  have ag16Xu82 : Apart g16 u82 := og16.apart nn86
  have ag18Xu82 : Apart g18 u82 := og18.apart nn86
  have ap20Xu82 : Apart p20 u82 := op20.apart nn86
  have au26Xu82 : Apart u26 u82 := ou26.apart nn86
  have au27Xu82 : Apart u27 u82 := ou27.apart nn86
  have ap32Xu82 : Apart p32 u82 := op32.apart nn86
  have ag40Xu82 : Apart g40 u82 := og40.apart nn86
  have ag42Xu82 : Apart g42 u82 := og42.apart nn86
  have ap44Xu82 : Apart p44 u82 := op44.apart nn86
  have au52Xu82 : Apart u52 u82 := ou52.apart nn86
  have au53Xu82 : Apart u53 u82 := ou53.apart nn86
  have ap60Xu82 : Apart p60 u82 := op60.apart nn86
  have ap70Xu82 : Apart p70 u82 := op70.apart nn86
  have ap78Xu82 : Apart p78 u82 := op78.apart nn86
  have nu82 : Nw H u82 := nn86.le lE
  have ap1Xu83 : Apart p1 u83 := op1.apart nn87
  have au8Xu83 : Apart u8 u83 := ou8.apart nn87
  have au9Xu83 : Apart u9 u83 := ou9.apart nn87
  have ag16Xu83 : Apart g16 u83 := og16.apart nn87
  have ag18Xu83 : Apart g18 u83 := og18.apart nn87
  have ap20Xu83 : Apart p20 u83 := op20.apart nn87
  have au26Xu83 : Apart u26 u83 := ou26.apart nn87
  have au27Xu83 : Apart u27 u83 := ou27.apart nn87
  have ap32Xu83 : Apart p32 u83 := op32.apart nn87
  have ag40Xu83 : Apart g40 u83 := og40.apart nn87
  have ag42Xu83 : Apart g42 u83 := og42.apart nn87
  have ap44Xu83 : Apart p44 u83 := op44.apart nn87
  have au52Xu83 : Apart u52 u83 := ou52.apart nn87
  have au53Xu83 : Apart u53 u83 := ou53.apart nn87
  have ap60Xu83 : Apart p60 u83 := op60.apart nn87
  have ap70Xu83 : Apart p70 u83 := op70.apart nn87
  have ap78Xu83 : Apart p78 u83 := op78.apart nn87
  have nu83 : Nw H u83 := nn87.le lE
  replace op1 := op1.le le85
  replace ou8 := ou8.le le85
  replace ou9 := ou9.le le85
  replace og16 := og16.le le85
  replace og18 := og18.le le85
  replace op20 := op20.le le85
  replace ou26 := ou26.le le85
  replace ou27 := ou27.le le85
  replace op32 := op32.le le85
  replace og40 := og40.le le85
  replace og42 := og42.le le85
  replace op44 := op44.le le85
  replace ou52 := ou52.le le85
  replace ou53 := ou53.le le85
  replace op60 := op60.le le85
  replace op70 := op70.le le85
  replace op78 := op78.le le85
  replace hpd := hpd.le le85
  replace hpe := hpe.le le85
  replace lE := lE.trans le85
  refine C.impl_ReverseGas ou82.sl ou83.sl (by omega) (by omega)  (fun g90 g92 H88 og90 og92 nn91 nn93 ag90Xg92 le89 => ?_)
  have ap1Xg90 : Apart p1 g90 := op1.apart nn91
  have au8Xg90 : Apart u8 g90 := ou8.apart nn91
  have au9Xg90 : Apart u9 g90 := ou9.apart nn91
  have ag16Xg90 : Apart g16 g90 := og16.apart nn91
  have ag18Xg90 : Apart g18 g90 := og18.apart nn91
  have ap20Xg90 : Apart p20 g90 := op20.apart nn91
  have au26Xg90 : Apart u26 g90 := ou26.apart nn91
  have au27Xg90 : Apart u27 g90 := ou27.apart nn91
  have ap32Xg90 : Apart p32 g90 := op32.apart nn91
  have ag40Xg90 : Apart g40 g90 := og40.apart nn91
  have ag42Xg90 : Apart g42 g90 := og42.apart nn91
  have ap44Xg90 : Apart p44 g90 := op44.apart nn91
  have au52Xg90 : Apart u52 g90 := ou52.apart nn91
  have au53Xg90 : Apart u53 g90 := ou53.apart nn91
  have ap60Xg90 : Apart p60 g90 := op60.apart nn91
  have ap70Xg90 : Apart p70 g90 := op70.apart nn91
  have ap78Xg90 : Apart p78 g90 := op78.apart nn91
  have au82Xg90 : Apart u82 g90 := ou82.apart nn91
  have au83Xg90 : Apart u83 g90 := ou83.apart nn91
  have ng90 : Nw H g90 := nn91.le lE
  have ap1Xg92 : Apart p1 g92 := op1.apart nn93
  have au8Xg92 : Apart u8 g92 := ou8.apart nn93
  have au9Xg92 : Apart u9 g92 := ou9.apart nn93
  have ag16Xg92 : Apart g16 g92 := og16.apart nn93
  have ag18Xg92 : Apart g18 g92 := og18.apart nn93
  have ap20Xg92 : Apart p20 g92 := op20.apart nn93
  have au26Xg92 : Apart u26 g92 := ou26.apart nn93
  have au27Xg92 : Apart u27 g92 := ou27.apart nn93
  have ap32Xg92 : Apart p32 g92 := op32.apart nn93
  have ag40Xg92 : Apart g40 g92 := og40.apart nn93
  have ag42Xg92 : Apart g42 g92 := og42.apart nn93
  have ap44Xg92 : Apart p44 g92 := op44.apart nn93
  have au52Xg92 : Apart u52 g92 := ou52.apart nn93
  have au53Xg92 : Apart u53 g92 := ou53.apart nn93
  have ap60Xg92 : Apart p60 g92 := op60.apart nn93
  have ap70Xg92 : Apart p70 g92 := op70.apart nn93
  have ap78Xg92 : Apart p78 g92 := op78.apart nn93
  have au82Xg92 : Apart u82 g92 := ou82.apart nn93
  have au83Xg92 : Apart u83 g92 := ou83.apart nn93
  have ng92 : Nw H g92 := nn93.le lE
  replace op1 := op1.le le89
  replace ou8 := ou8.le le89
  replace ou9 := ou9.le le89
  replace og16 := og16.le le89
  replace og18 := og18.le le89
  replace op20 := op20.le le89
  replace ou26 := ou26.le le89
  replace ou27 := ou27.le le89
  replace op32 := op32.le le89
  replace og40 := og40.le le89
  replace og42 := og42.le le89
  replace op44 := op44.le le89
  replace ou52 := ou52.le le89
  replace ou53 := ou53.le le89
  replace op60 := op60.le le89
  replace op70 := op70.le le89
  replace op78 := op78.le le89
  replace ou82 := ou82.le le89
  replace ou83 := ou83.le le89
  replace hpd := hpd.le le89
  replace hpe := hpe.le le89
  replace lE := lE.trans le89
  refine ob_i (vExt_20 _ _) ?_
  refine ob_i (vExt_21 _ _) ?_
  refine nw_i (fun p94 H95 op94 nn96 le97 => ?_)
  have ap1Xp94 : Apart p1 p94 := op1.apart nn96
  have au8Xp94 : Apart u8 p94 := ou8.apart nn96
  have au9Xp94 : Apart u9 p94 := ou9.apart nn96
  have ag16Xp94 : Apart g16 p94 := og16.apart nn96
  have ag18Xp94 : Apart g18 p94 := og18.apart nn96
  have ap20Xp94 : Apart p20 p94 := op20.apart nn96
  have au26Xp94 : Apart u26 p94 := ou26.apart nn96
  have au27Xp94 : Apart u27 p94 := ou27.apart nn96
  have ap32Xp94 : Apart p32 p94 := op32.apart nn96
  have ag40Xp94 : Apart g40 p94 := og40.apart nn96
  have ag42Xp94 : Apart g42 p94 := og42.apart nn96
  have ap44Xp94 : Apart p44 p94 := op44.apart nn96
  have au52Xp94 : Apart u52 p94 := ou52.apart nn96
  have au53Xp94 : Apart u53 p94 := ou53.apart nn96
  have ap60Xp94 : Apart p60 p94 := op60.apart nn96
  have ap70Xp94 : Apart p70 p94 := op70.apart nn96
  have ap78Xp94 : Apart p78 p94 := op78.apart nn96
  have au82Xp94 : Apart u82 p94 := ou82.apart nn96
  have au83Xp94 : Apart u83 p94 := ou83.apart nn96
  have ag90Xp94 : Apart g90 p94 := og90.apart nn96
  have ag92Xp94 : Apart g92 p94 := og92.apart nn96
  have np94 : Nw H p94 := nn96.le lE
  replace op1 := op1.le le97
  replace ou8 := ou8.le le97
  replace ou9 := ou9.le le97
  replace og16 := og16.le le97
  replace og18 := og18.le le97
  replace op20 := op20.le le97
  replace ou26 := ou26.le le97
  replace ou27 := ou27.le le97
  replace op32 := op32.le le97
  replace og40 := og40.le le97
  replace og42 := og42.le le97
  replace op44 := op44.le le97
  replace ou52 := ou52.le le97
  replace ou53 := ou53.le le97
  replace op60 := op60.le le97
  replace op70 := op70.le le97
  replace op78 := op78.le le97
  replace ou82 := ou82.le le97
  replace ou83 := ou83.le le97
  replace og90 := og90.le le97
  replace og92 := og92.le le97
  replace hpd := hpd.le le97
  replace hpe := hpe.le le97
  replace lE := lE.trans le97
  replace op94 : Cel H95 p94 [(.int .i64 (0)), (.int .i64 (0)), (.int .i64 (0)), (.slice none 0 0), (.slice none 0 0)] := op94
  refine op94.stn (ws := [(.int .i64 (revI pa pa pb pc spd spe)), (.int .i64 (revI pb pa pb pc spd spe)), (.int .i64 (revI pc pa pb pc spd spe)), g90, g92]) rfl rfl (oc1 rfl (oc1 rfl (oc1 rfl (oc1 og90.one (oc1 og92.one oc0))))) (fun H98 op94 off99 => ?_)
  replace op1 := op1.off off99 ap1Xp94
  replace ou8 := ou8.off off99 au8Xp94
  replace ou9 := ou9.off off99 au9Xp94
  replace og16 := og16.off off99 ag16Xp94
  replace og18 := og18.off off99 ag18Xp94
  replace op20 := op20.off off99 ap20Xp94
  replace ou26 := ou26.off off99 au26Xp94
  replace ou27 := ou27.off off99 au27Xp94
  replace op32 := op32.off off99 ap32Xp94
  replace og40 := og40.off off99 ag40Xp94
  replace og42 := og42.off off99 ag42Xp94
  replace op44 := op44.off off99 ap44Xp94
  replace ou52 := ou52.off off99 au52Xp94
  replace ou53 := ou53.off off99 au53Xp94
  replace op60 := op60.off off99 ap60Xp94
  replace op70 := op70.off off99 ap70Xp94
  replace op78 := op78.off off99 ap78Xp94
  replace ou82 := ou82.off off99 au82Xp94
  replace ou83 := ou83.off off99 au83Xp94
  replace og90 := og90.off off99 ag90Xp94
  replace og92 := og92.off off99 ag92Xp94
  replace hpd := hpd0.le (off99.le lE np94)
  replace hpe := hpe0.le (off99.le lE np94)
  replace lE := off99.le lE np94
  replace op94 : Cel H98 p94 [(.int .i64 (revI pa pa pb pc spd spe)), (.int .i64 (revI pb pa pb pc spd spe)), (.int .i64 (revI pc pa pb pc spd spe)), g90, g92] := op94
  refine ob_i (op94.ldn rfl) ?_
  refine ob_i (op20.ldn rfl) ?_
  refine C.laws_eqGas og90.sl og16.sl og92.sl og18.sl (by omega) (by omega) (fun H100 le101 => ?_)
  replace op1 := op1.le le101
  replace ou8 := ou8.le le101
  replace ou9 := ou9.le le101
  replace og16 := og16.le le101
  replace og18 := og18.le le101
  replace op20 := op20.le le101
  replace ou26 := ou26.le le101
  replace ou27 := ou27.le le101
  replace op32 := op32.le le101
  replace og40 := og40.le le101
  replace og42 := og42.le le101
  replace op44 := op44.le le101
  replace ou52 := ou52.le le101
  replace ou53 := ou53.le le101
  replace op60 := op60.le le101
  replace op70 := op70.le le101
  replace op78 := op78.le le101
  replace ou82 := ou82.le le101
  replace ou83 := ou83.le le101
  replace og90 := og90.le le101
  replace og92 := og92.le le101
  replace op94 := op94.le le101
  replace hpd := hpd.le le101
  replace hpe := hpe.le le101
  replace lE := lE.trans le101
  refine ob_i (a := .bool false) rfl ?_
  refine gop_rf ?_
  refine gop_rf ?_
  refine gop_rf ?_
  refine ob_i (vBool_neq_same _) ?_
  refine ob_i (vPick_f _ _) ?_
  refine cnd_f1 ?_
  refine ob_i (op44.ldn rfl) ?_
  refine R.laws_heldGas ?_
  unfold F.laws_heldGas
  refine nw_i (fun p102 H103 op102 nn104 le105 => ?_)
  have ap1Xp102 : Apart p1 p102 := op1.apart nn104
  have au8Xp102 : Apart u8 p102 := ou8.apart nn104
  have au9Xp102 : Apart u9 p102 := ou9.apart nn104
  have ag16Xp102 : Apart g16 p102 := og16.apart nn104
  have ag18Xp102 : Apart g18 p102 := og18.apart nn104
  have ap20Xp102 : Apart p20 p102 := op20.apart nn104
  have au26Xp102 : Apart u26 p102 := ou26.apart nn104
  have au27Xp102 : Apart u27 p102 := ou27.apart nn104
  have ap32Xp102 : Apart p32 p102 := op32.apart nn104
  have ag40Xp102 : Apart g40 p102 := og40.apart nn104
  have ag42Xp102 : Apart g42 p102 := og42.apart nn104
  have ap44Xp102 : Apart p44 p102 := op44.apart nn104
  have au52Xp102 : Apart u52 p102 := ou52.apart nn104
  have au53Xp102 : Apart u53 p102 := ou53.apart nn104
  have ap60Xp102 : Apart p60 p102 := op60.apart nn104
  have ap70Xp102 : Apart p70 p102 := op70.apart nn104
  have ap78Xp102 : Apart p78 p102 := op78.apart nn104
  have au82Xp102 : Apart u82 p102 := ou82.apart nn104
  have au83Xp102 : Apart u83 p102 := ou83.apart nn104
  have ag90Xp102 : Apart g90 p102 := og90.apart nn104
  have ag92Xp102 : Apart g92 p102 := og92.apart nn104
  have ap94Xp102 : Apart p94 p102 := op94.apart nn104
  have np102 : Nw H p102 := nn104.le lE
  replace op1 := op1.le le105
  replace ou8 := ou8.le le105
  replace ou9 := ou9.le le105
  replace og16 := og16.le le105
  replace og18 := og18.le le105
  replace op20 := op20.le le105
  replace ou26 := ou26.le le105
  replace ou27 := ou27.le le105
  replace op32 := op32.le le105
  replace og40 := og40.le le105
  replace og42 := og42.le le105
  replace op44 := op44.le le105
  replace ou52 := ou52.le le105
  replace ou53 := ou53.le le105
  replace op60 := op60.le le105
  replace op70 := op70.le le105
  replace op78 := op78.le le105
  replace ou82 := ou82.le le105
  replace ou83 := ou83.le le105
  replace og90 := og90.le le105
  replace og92 := og92.le le105
  replace op94 := op94.le le105
  replace hpd := hpd.le le105
  replace hpe := hpe.le le105
  replace lE := lE.trans le105
  replace op102 : Cel H103 p102 [(.int .i64 (revI pa pa pb pc spd spe)), (.int .i64 (revI pb pa pb pc spd spe)), (.int .i64 (revI pc pa pb pc spd spe)), g40, g42] := op102
  refine ob_i (op102.fa 3) ?_
  refine ob_i (op102.ld 3 rfl) ?_
  refine C.laws_heldInt64S og40.sl (by omega) (by omega) (by omega) ?_
  refine ob_i (vInt_lss_f (by omega)) ?_
  refine cnd_f1 ?_
  refine ob_i (op102.fa 4) ?_
  refine ob_i (op102.ld 4 rfl) ?_
  refine C.laws_heldBoolS og42.sl (by omega) (by omega) (by omega) ?_
  refine ob_i (vInt_lss_f (by omega)) ?_
  refine cnd_f1 ?_
  refine ob_i (vInt_lss_f (by omega)) ?_
  refine cnd_f1 ?_
  refine ob_i (vInt_neq_same _ _) ?_
  refine cnd_f1 ?_
  exact hk _ lE
end Go.Proofs.Ytdfoobomlabffaa
