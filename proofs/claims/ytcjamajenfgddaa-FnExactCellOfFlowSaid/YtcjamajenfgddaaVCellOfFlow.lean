/- Laws, each by its two sides: its function returns true, and what was known before stays. -/
import Derived.Test.YtcjamajenfgddaaFW
import Derived.Test.YtcjamajenfgddaaSE
namespace Go.Proofs.Ytcjamajenfgddaa
open HL
set_option maxRecDepth 100000
theorem L.FnExactCellOfFlow {pa : Int} {pb : Int} {pc : Value} {spc : List Nat} {pd : Value} {spd : List Bool} {q : Int} {r : Int} {H : Hp} {K : Value → Hp → Prop} (hpc0 : Sl eF H pc spc) (hpd0 : Sl eB H pd spd) (wq0 : -9223372036854775808 ≤ q) (wq1 : q < 9223372036854775808) (wr0 : -9223372036854775808 ≤ r) (wr1 : r < 9223372036854775808) (mspc : (spc).length ≤ 9223372036854775807) (mspd : (spd).length ≤ 9223372036854775807) (fspc : ∀ x ∈ spc, x < 4294967296) (hk : ∀ H', Le H H' → K (.bool true) H') :
    HT prg I.laws_FnExactCellOfFlow [(.agg #[(.int .i64 (pa)), (.int .i64 (pb)), pc, pd]), (.int .i64 (q)), (.int .i64 (r))].toArray H K := by
  have hn0 := @selF_nn (celP pa pb spc spd q r) _ (massO (cellL spc (q * pb + r)) 9) (fun h => h.2.2.1)
  have hn1 := @selF_nn (celP pa pb spc spd q r) _ (speedO downs (cellL spc (q * pb + r))) (fun h => h.2.2.2.1)
  have hn2 := @selF_nn (celP pa pb spc spd q r) _ (speedO rights (cellL spc (q * pb + r))) (fun h => h.2.2.2.2)
  have lE := Le.refl H
  have hpc := hpc0
  have hpd := hpd0
  refine R.laws_FnExactCellOfFlow ?_
  unfold F.laws_FnExactCellOfFlow
  refine nw_i (fun p1 H2 op1 nn3 le4 => ?_)
  have np1 : Nw H p1 := nn3.le lE
  replace hpc := hpc.le le4
  replace hpd := hpd.le le4
  replace lE := lE.trans le4
  replace op1 : Cel H2 p1 [(.int .i64 (pa)), (.int .i64 (pb)), pc, pd] := op1
  refine ob_i (op1.ldn rfl) ?_
  refine C.laws_szFlow hpc hpd (by omega) (by omega) (by omega) (by omega) (fun H6 le7 => ?_) (fun H6 le7 hz5 => ?_)
  · skip
    replace op1 := op1.le le7
    replace hpc := hpc.le le7
    replace hpd := hpd.le le7
    replace lE := lE.trans le7
    refine ob_i (vInt_lss_t (by omega)) ?_
    refine cnd_t1 ?_
    exact hk _ lE
  replace op1 := op1.le le7
  replace hpc := hpc.le le7
  replace hpd := hpd.le le7
  replace lE := lE.trans le7
  refine ob_i (vInt_lss_f (by omega)) ?_
  refine cnd_f1 ?_
  refine ob_i (op1.ldn rfl) ?_
  refine C.laws_toFlow hpc hpd (by omega) (by omega) (fun u8 u9 H10 ou8 ou9 nn12 nn13 au8Xu9 le11 => ?_)
  have ap1Xu8 : Apart p1 u8 := op1.apart nn12
  have nu8 : Nw H u8 := nn12.le lE
  have ap1Xu9 : Apart p1 u9 := op1.apart nn13
  have nu9 : Nw H u9 := nn13.le lE
  replace op1 := op1.le le11
  replace hpc := hpc.le le11
  replace hpd := hpd.le le11
  replace lE := lE.trans le11
  refine C.spec_CellOfFlow ou8.sl ou9.sl (by omega) (by omega)  (fun  H14    le15 => ?_)
  replace op1 := op1.le le15
  replace ou8 := ou8.le le15
  replace ou9 := ou9.le le15
  replace hpc := hpc.le le15
  replace hpd := hpd.le le15
  replace lE := lE.trans le15
  refine ob_i (vExt_40 _ _ _ _) ?_
  refine ob_i (vExt_41 _ _ _ _) ?_
  refine ob_i (vExt_42 _ _ _ _) ?_
  refine ob_i (vExt_43 _ _ _ _) ?_
  refine ob_i (op1.ldn rfl) ?_
  refine C.laws_toFlow hpc hpd (by omega) (by omega) (fun u16 u17 H18 ou16 ou17 nn20 nn21 au16Xu17 le19 => ?_)
  have ap1Xu16 : Apart p1 u16 := op1.apart nn20
  have au8Xu16 : Apart u8 u16 := ou8.apart nn20
  have au9Xu16 : Apart u9 u16 := ou9.apart nn20
  have nu16 : Nw H u16 := nn20.le lE
  have ap1Xu17 : Apart p1 u17 := op1.apart nn21
  have au8Xu17 : Apart u8 u17 := ou8.apart nn21
  have au9Xu17 : Apart u9 u17 := ou9.apart nn21
  have nu17 : Nw H u17 := nn21.le lE
  replace op1 := op1.le le19
  replace ou8 := ou8.le le19
  replace ou9 := ou9.le le19
  replace hpc := hpc.le le19
  replace hpd := hpd.le le19
  replace lE := lE.trans le19
  refine nw_i (fun p22 H23 op22 nn24 le25 => ?_)
  have ap1Xp22 : Apart p1 p22 := op1.apart nn24
  have au8Xp22 : Apart u8 p22 := ou8.apart nn24
  have au9Xp22 : Apart u9 p22 := ou9.apart nn24
  have au16Xp22 : Apart u16 p22 := ou16.apart nn24
  have au17Xp22 : Apart u17 p22 := ou17.apart nn24
  have np22 : Nw H p22 := nn24.le lE
  replace op1 := op1.le le25
  replace ou8 := ou8.le le25
  replace ou9 := ou9.le le25
  replace ou16 := ou16.le le25
  replace ou17 := ou17.le le25
  replace hpc := hpc.le le25
  replace hpd := hpd.le le25
  replace lE := lE.trans le25
  replace op22 : Cel H23 p22 [(.int .i64 (0)), (.int .i64 (0)), (.slice none 0 0), (.slice none 0 0)] := op22
  refine op22.stn (ws := [(.int .i64 (pa)), (.int .i64 (pb)), u16, u17]) rfl rfl (oc1 rfl (oc1 rfl (oc1 ou16.one (oc1 ou17.one oc0)))) (fun H26 op22 off27 => ?_)
  replace op1 := op1.off off27 ap1Xp22
  replace ou8 := ou8.off off27 au8Xp22
  replace ou9 := ou9.off off27 au9Xp22
  replace ou16 := ou16.off off27 au16Xp22
  replace ou17 := ou17.off off27 au17Xp22
  replace hpc := hpc0.le (off27.le lE np22)
  replace hpd := hpd0.le (off27.le lE np22)
  replace lE := off27.le lE np22
  replace op22 : Cel H26 p22 [(.int .i64 (pa)), (.int .i64 (pb)), u16, u17] := op22
  refine ob_i (op22.ldn rfl) ?_
  refine C.impl_CellOfFlow ou16.sl ou17.sl (by omega) (by omega)  (fun  H28    le29 => ?_)
  replace op1 := op1.le le29
  replace ou8 := ou8.le le29
  replace ou9 := ou9.le le29
  replace ou16 := ou16.le le29
  replace ou17 := ou17.le le29
  replace op22 := op22.le le29
  replace hpc := hpc.le le29
  replace hpd := hpd.le le29
  replace lE := lE.trans le29
  refine ob_i (vExt_40 _ _ _ _) ?_
  refine ob_i (vExt_41 _ _ _ _) ?_
  refine ob_i (vExt_42 _ _ _ _) ?_
  refine ob_i (vExt_43 _ _ _ _) ?_
  refine fC_n (by assumption) (fun hw30 => ?_)
  refine fC_n (by assumption) (fun hw31 => ?_)
  refine C.laws_sameFloat (.inl ⟨by assumption, rfl⟩) ?_
  refine ob_i (a := .bool false) rfl ?_
  refine gop_rf ?_
  refine gop_rf ?_
  refine fC_n (by assumption) (fun hw32 => ?_)
  refine gop_rf ?_
  refine gop_rf ?_
  refine fC_n (by assumption) (fun hw33 => ?_)
  refine gop_rf ?_
  refine C.laws_sameFloat (.inl ⟨by assumption, rfl⟩) ?_
  refine gop_rf ?_
  refine ob_i (a := .bool false) rfl ?_
  refine ob_i (vPick_f _ _) ?_
  refine gop_rf ?_
  refine gop_rf ?_
  refine fC_n (by assumption) (fun hw34 => ?_)
  refine gop_rf ?_
  refine gop_rf ?_
  refine fC_n (by assumption) (fun hw35 => ?_)
  refine gop_rf ?_
  refine C.laws_sameFloat (.inl ⟨by assumption, rfl⟩) ?_
  refine gop_rf ?_
  refine ob_i (a := .bool false) rfl ?_
  refine ob_i (vPick_f _ _) ?_
  refine gop_rf ?_
  refine gop_rf ?_
  refine gop_rf ?_
  refine ob_i (vBool_neq_same _) ?_
  refine ob_i (vPick_f _ _) ?_
  refine cnd_f1 ?_
  refine ob_i (op22.ldn rfl) ?_
  refine ob_i (op1.ldn rfl) ?_
  refine C.laws_toFlow hpc hpd (by omega) (by omega) (fun u36 u37 H38 ou36 ou37 nn40 nn41 au36Xu37 le39 => ?_)
  have ap1Xu36 : Apart p1 u36 := op1.apart nn40
  have au8Xu36 : Apart u8 u36 := ou8.apart nn40
  have au9Xu36 : Apart u9 u36 := ou9.apart nn40
  have au16Xu36 : Apart u16 u36 := ou16.apart nn40
  have au17Xu36 : Apart u17 u36 := ou17.apart nn40
  have ap22Xu36 : Apart p22 u36 := op22.apart nn40
  have nu36 : Nw H u36 := nn40.le lE
  have ap1Xu37 : Apart p1 u37 := op1.apart nn41
  have au8Xu37 : Apart u8 u37 := ou8.apart nn41
  have au9Xu37 : Apart u9 u37 := ou9.apart nn41
  have au16Xu37 : Apart u16 u37 := ou16.apart nn41
  have au17Xu37 : Apart u17 u37 := ou17.apart nn41
  have ap22Xu37 : Apart p22 u37 := op22.apart nn41
  have nu37 : Nw H u37 := nn41.le lE
  replace op1 := op1.le le39
  replace ou8 := ou8.le le39
  replace ou9 := ou9.le le39
  replace ou16 := ou16.le le39
  replace ou17 := ou17.le le39
  replace op22 := op22.le le39
  replace hpc := hpc.le le39
  replace hpd := hpd.le le39
  replace lE := lE.trans le39
  refine ⟨le39, ?_⟩
  refine C.laws_eqFlow ou16.sl ou36.sl ou17.sl ou37.sl (by omega) (by omega) (fun H42 le43 => ?_)
  replace op1 := op1.le le43
  replace ou8 := ou8.le le43
  replace ou9 := ou9.le le43
  replace ou16 := ou16.le le43
  replace ou17 := ou17.le le43
  replace op22 := op22.le le43
  replace ou36 := ou36.le le43
  replace ou37 := ou37.le le43
  replace hpc := hpc.le le43
  replace hpd := hpd.le le43
  replace lE := lE.trans le43
  refine ⟨le43, ?_⟩
  refine ob_i (a := .bool false) rfl ?_
  refine cnd_f1 ?_
  exact hk _ lE
end Go.Proofs.Ytcjamajenfgddaa
