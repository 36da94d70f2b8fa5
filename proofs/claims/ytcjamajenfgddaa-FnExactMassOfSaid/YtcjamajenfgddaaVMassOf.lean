/- Laws, each by its two sides: its function returns true, and what was known before stays. -/
import Derived.Test.YtcjamajenfgddaaFW
import Derived.Test.YtcjamajenfgddaaSE
namespace Go.Proofs.Ytcjamajenfgddaa
open HL
set_option maxRecDepth 100000
theorem L.FnExactMassOf {pa : Int} {pb : Int} {pc : Value} {spc : List Nat} {pd : Value} {spd : List Bool} {H : Hp} {K : Value → Hp → Prop} (hpc0 : Sl eF H pc spc) (hpd0 : Sl eB H pd spd) (mspc : (spc).length ≤ 9223372036854775807) (mspd : (spd).length ≤ 9223372036854775807) (fspc : ∀ x ∈ spc, x < 4294967296) (hk : ∀ H', Le H H' → K (.bool true) H') :
    HT prg I.laws_FnExactMassOf [(.agg #[(.int .i64 (pa)), (.int .i64 (pb)), pc, pd])].toArray H K := by
  have hn0 := @selF_nn (masP pa pb spc spd) _ (sumO spc (pa * pb).toNat) (fun h => h.2)
  have lE := Le.refl H
  have hpc := hpc0
  have hpd := hpd0
  refine R.laws_FnExactMassOf ?_
  unfold F.laws_FnExactMassOf
  refine nw_i (fun p1 H2 op1 nn3 le4 => ?_)
  have np1 : Nw H p1 := nn3.le lE
  replace hpc := hpc.le le4
  replace hpd := hpd.le le4
  replace lE := lE.trans le4
  replace op1 : Cel H2 p1 [(.int .i64 (pa)), (.int .i64 (pb)), pc, pd] := op1
  refine ob_i (op1.ldn rfl) ?_
  refine C.laws_szFlow hpc hpd (by omega) (by omega) (by omega) (by omega) (fun H6 le7 => ?_) (fun H6 le7 hz5 => ?_)
  · skip
    replace op1 := op1.le le7
    replace hpc := hpc.le le7
    replace hpd := hpd.le le7
    replace lE := lE.trans le7
    refine ob_i (vInt_lss_t (by omega)) ?_
    refine cnd_t1 ?_
    exact hk _ lE
  replace op1 := op1.le le7
  replace hpc := hpc.le le7
  replace hpd := hpd.le le7
  replace lE := lE.trans le7
  refine ob_i (vInt_lss_f (by omega)) ?_
  refine cnd_f1 ?_
  refine ob_i (op1.ldn rfl) ?_
  refine C.laws_toFlow hpc hpd (by omega) (by omega) (fun u8 u9 H10 ou8 ou9 nn12 nn13 au8Xu9 le11 => ?_)
  have ap1Xu8 : Apart p1 u8 := op1.apart nn12
  have nu8 : Nw H u8 := nn12.le lE
  have ap1Xu9 : Apart p1 u9 := op1.apart nn13
  have nu9 : Nw H u9 := nn13.le lE
  replace op1 := op1.le le11
  replace hpc := hpc.le le11
  replace hpd := hpd.le le11
  replace lE := lE.trans le11
  refine C.spec_MassOf ou8.sl ou9.sl (by omega) (by omega)  (fun  H14    le15 => ?_)
  replace op1 := op1.le le15
  replace ou8 := ou8.le le15
  replace ou9 := ou9.le le15
  replace hpc := hpc.le le15
  replace hpd := hpd.le le15
  replace lE := lE.trans le15
  refine ob_i (vExt_20 _ _) ?_
  refine ob_i (vExt_21 _ _) ?_
  refine ob_i (op1.ldn rfl) ?_
  refine C.laws_toFlow hpc hpd (by omega) (by omega) (fun u16 u17 H18 ou16 ou17 nn20 nn21 au16Xu17 le19 => ?_)
  have ap1Xu16 : Apart p1 u16 := op1.apart nn20
  have au8Xu16 : Apart u8 u16 := ou8.apart nn20
  have au9Xu16 : Apart u9 u16 := ou9.apart nn20
  have nu16 : Nw H u16 := nn20.le lE
  have ap1Xu17 : Apart p1 u17 := op1.apart nn21
  have au8Xu17 : Apart u8 u17 := ou8.apart nn21
  have au9Xu17 : Apart u9 u17 := ou9.apart nn21
  have nu17 : Nw H u17 := nn21.le lE
  replace op1 := op1.le le19
  replace ou8 := ou8.le le19
  replace ou9 := ou9.le le19
  replace hpc := hpc.le le19
  replace hpd := hpd.le le19
  replace lE := lE.trans le19
  refine nw_i (fun p22 H23 op22 nn24 le25 => ?_)
  have ap1Xp22 : Apart p1 p22 := op1.apart nn24
  have au8Xp22 : Apart u8 p22 := ou8.apart nn24
  have au9Xp22 : Apart u9 p22 := ou9.apart nn24
  have au16Xp22 : Apart u16 p22 := ou16.apart nn24
  have au17Xp22 : Apart u17 p22 := ou17.apart nn24
  have np22 : Nw H p22 := nn24.le lE
  replace op1 := op1.le le25
  replace ou8 := ou8.le le25
  replace ou9 := ou9.le le25
  replace ou16 := ou16.le le25
  replace ou17 := ou17.le le25
  replace hpc := hpc.le le25
  replace hpd := hpd.le le25
  replace lE := lE.trans le25
  replace op22 : Cel H23 p22 [(.int .i64 (0)), (.int .i64 (0)), (.slice none 0 0), (.slice none 0 0)] := op22
  refine op22.stn (ws := [(.int .i64 (pa)), (.int .i64 (pb)), u16, u17]) rfl rfl (oc1 rfl (oc1 rfl (oc1 ou16.one (oc1 ou17.one oc0)))) (fun H26 op22 off27 => ?_)
  replace op1 := op1.off off27 ap1Xp22
  replace ou8 := ou8.off off27 au8Xp22
  replace ou9 := ou9.off off27 au9Xp22
  replace ou16 := ou16.off off27 au16Xp22
  replace ou17 := ou17.off off27 au17Xp22
  replace hpc := hpc0.le (off27.le lE np22)
  replace hpd := hpd0.le (off27.le lE np22)
  replace lE := off27.le lE np22
  replace op22 : Cel H26 p22 [(.int .i64 (pa)), (.int .i64 (pb)), u16, u17] := op22
  refine ob_i (op22.ldn rfl) ?_
  refine C.impl_MassOf ou16.sl ou17.sl (by omega) (by omega)  (fun  H28    le29 => ?_)
  replace op1 := op1.le le29
  replace ou8 := ou8.le le29
  replace ou9 := ou9.le le29
  replace ou16 := ou16.le le29
  replace ou17 := ou17.le le29
  replace op22 := op22.le le29
  replace hpc := hpc.le le29
  replace hpd := hpd.le le29
  replace lE := lE.trans le29
  refine ob_i (vExt_20 _ _) ?_
  refine ob_i (vExt_21 _ _) ?_
  refine fC_n (by assumption) (fun hw30 => ?_)
  refine fC_n (by assumption) (fun hw31 => ?_)
  refine C.laws_sameFloat (.inl ⟨by assumption, rfl⟩) ?_
  refine ob_i (a := .bool false) rfl ?_
  refine gop_rf ?_
  refine gop_rf ?_
  refine gop_rf ?_
  refine ob_i (vBool_neq_same _) ?_
  refine ob_i (vPick_f _ _) ?_
  refine cnd_f1 ?_
  refine ob_i (op22.ldn rfl) ?_
  refine ob_i (op1.ldn rfl) ?_
  refine C.laws_toFlow hpc hpd (by omega) (by omega) (fun u32 u33 H34 ou32 ou33 nn36 nn37 au32Xu33 le35 => ?_)
  have ap1Xu32 : Apart p1 u32 := op1.apart nn36
  have au8Xu32 : Apart u8 u32 := ou8.apart nn36
  have au9Xu32 : Apart u9 u32 := ou9.apart nn36
  have au16Xu32 : Apart u16 u32 := ou16.apart nn36
  have au17Xu32 : Apart u17 u32 := ou17.apart nn36
  have ap22Xu32 : Apart p22 u32 := op22.apart nn36
  have nu32 : Nw H u32 := nn36.le lE
  have ap1Xu33 : Apart p1 u33 := op1.apart nn37
  have au8Xu33 : Apart u8 u33 := ou8.apart nn37
  have au9Xu33 : Apart u9 u33 := ou9.apart nn37
  have au16Xu33 : Apart u16 u33 := ou16.apart nn37
  have au17Xu33 : Apart u17 u33 := ou17.apart nn37
  have ap22Xu33 : Apart p22 u33 := op22.apart nn37
  have nu33 : Nw H u33 := nn37.le lE
  replace op1 := op1.le le35
  replace ou8 := ou8.le le35
  replace ou9 := ou9.le le35
  replace ou16 := ou16.le le35
  replace ou17 := ou17.le le35
  replace op22 := op22.le le35
  replace hpc := hpc.le le35
  replace hpd := hpd.le le35
  replace lE := lE.trans le35
  refine ⟨le35, ?_⟩
  refine C.laws_eqFlow ou16.sl ou32.sl ou17.sl ou33.sl (by omega) (by omega) (fun H38 le39 => ?_)
  replace op1 := op1.le le39
  replace ou8 := ou8.le le39
  replace ou9 := ou9.le le39
  replace ou16 := ou16.le le39
  replace ou17 := ou17.le le39
  replace op22 := op22.le le39
  replace ou32 := ou32.le le39
  replace ou33 := ou33.le le39
  replace hpc := hpc.le le39
  replace hpd := hpd.le le39
  replace lE := lE.trans le39
  refine ⟨le39, ?_⟩
  refine ob_i (a := .bool false) rfl ?_
  refine cnd_f1 ?_
  exact hk _ lE
end Go.Proofs.Ytcjamajenfgddaa
