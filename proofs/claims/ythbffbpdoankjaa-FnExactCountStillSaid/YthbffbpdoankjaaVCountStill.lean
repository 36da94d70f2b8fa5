/- Laws, each by its two sides: its function returns true, and what was known before stays. -/
import Derived.Test.YthbffbpdoankjaaUC
import Derived.Test.YthbffbpdoankjaaQH
import Derived.Test.YthbffbpdoankjaaQI
import Derived.Test.YthbffbpdoankjaaSE
namespace Go.Proofs.Ythbffbpdoankjaa
open HL
set_option maxRecDepth 100000
theorem L.FnExactCountStill {pa : Value} {spa : List Int} {pb : Value} {spb : List Int} {q : Int} {r : Int} {H : Hp} {K : Value → Hp → Prop} (hpa0 : Sl eI H pa spa) (hpb0 : Sl eI H pb spb) (wq0 : -9223372036854775808 ≤ q) (wq1 : q < 9223372036854775808) (wr0 : -9223372036854775808 ≤ r) (wr1 : r < 9223372036854775808) (mspa : (spa).length ≤ 9223372036854775807) (mspb : (spb).length ≤ 9223372036854775807) (hk : ∀ H', Le H H' → K (.bool true) H') :
    HT prg I.laws_FnExactCountStill [(.agg #[pa, pb]), (.int .i64 (q)), (.int .i64 (r))].toArray H K := by
  have lE := Le.refl H
  have hpa := hpa0
  have hpb := hpb0
  refine R.laws_FnExactCountStill ?_
  unfold F.laws_FnExactCountStill
  refine nw_i (fun p1 H2 op1 nn3 le4 => ?_)
  have np1 : Nw H p1 := nn3.le lE
  replace hpa := hpa.le le4
  replace hpb := hpb.le le4
  replace lE := lE.trans le4
  replace op1 : Cel H2 p1 [pa, pb] := op1
  refine ob_i (op1.ldn rfl) ?_
  refine C.laws_szLife hpa hpb (by omega) (by omega) (by omega) (by omega) (fun H6 le7 => ?_) (fun H6 le7 hz5 => ?_)
  · skip
    replace op1 := op1.le le7
    replace hpa := hpa.le le7
    replace hpb := hpb.le le7
    replace lE := lE.trans le7
    refine ob_i (vInt_lss_t (by omega)) ?_
    refine cnd_t1 ?_
    exact hk _ lE
  replace op1 := op1.le le7
  replace hpa := hpa.le le7
  replace hpb := hpb.le le7
  replace lE := lE.trans le7
  refine ob_i (vInt_lss_f (by omega)) ?_
  refine cnd_f1 ?_
  refine ob_i (op1.ldn rfl) ?_
  refine C.laws_toLife hpa hpb (by omega) (by omega) (fun u8 u9 H10 ou8 ou9 nn12 nn13 au8Xu9 le11 => ?_)
  have ap1Xu8 : Apart p1 u8 := op1.apart nn12
  have nu8 : Nw H u8 := nn12.le lE
  have ap1Xu9 : Apart p1 u9 := op1.apart nn13
  have nu9 : Nw H u9 := nn13.le lE
  replace op1 := op1.le le11
  replace hpa := hpa.le le11
  replace hpb := hpb.le le11
  replace lE := lE.trans le11
  refine C.spec_CountStill ou8.sl ou9.sl (by omega) (by omega)  (fun  H14    le15 => ?_)
  replace op1 := op1.le le15
  replace ou8 := ou8.le le15
  replace ou9 := ou9.le le15
  replace hpa := hpa.le le15
  replace hpb := hpb.le le15
  replace lE := lE.trans le15
  refine ob_i (vExt_20 _ _) ?_
  refine ob_i (vExt_21 _ _) ?_
  refine ob_i (op1.ldn rfl) ?_
  refine C.laws_toLife hpa hpb (by omega) (by omega) (fun u16 u17 H18 ou16 ou17 nn20 nn21 au16Xu17 le19 => ?_)
  have ap1Xu16 : Apart p1 u16 := op1.apart nn20
  have au8Xu16 : Apart u8 u16 := ou8.apart nn20
  have au9Xu16 : Apart u9 u16 := ou9.apart nn20
  have nu16 : Nw H u16 := nn20.le lE
  have ap1Xu17 : Apart p1 u17 := op1.apart nn21
  have au8Xu17 : Apart u8 u17 := ou8.apart nn21
  have au9Xu17 : Apart u9 u17 := ou9.apart nn21
  have nu17 : Nw H u17 := nn21.le lE
  replace op1 := op1.le le19
  replace ou8 := ou8.le le19
  replace ou9 := ou9.le le19
  replace hpa := hpa.le le19
  replace hpb := hpb.le le19
  replace lE := lE.trans le19
  refine nw_i (fun p22 H23 op22 nn24 le25 => ?_)
  have ap1Xp22 : Apart p1 p22 := op1.apart nn24
  have au8Xp22 : Apart u8 p22 := ou8.apart nn24
  have au9Xp22 : Apart u9 p22 := ou9.apart nn24
  have au16Xp22 : Apart u16 p22 := ou16.apart nn24
  have au17Xp22 : Apart u17 p22 := ou17.apart nn24
  have np22 : Nw H p22 := nn24.le lE
  replace op1 := op1.le le25
  replace ou8 := ou8.le le25
  replace ou9 := ou9.le le25
  replace ou16 := ou16.le le25
  replace ou17 := ou17.le le25
  replace hpa := hpa.le le25
  replace hpb := hpb.le le25
  replace lE := lE.trans le25
  replace op22 : Cel H23 p22 [(.slice none 0 0), (.slice none 0 0)] := op22
  refine op22.stn (ws := [u16, u17]) rfl rfl (oc1 ou16.one (oc1 ou17.one oc0)) (fun H26 op22 off27 => ?_)
  replace op1 := op1.off off27 ap1Xp22
  replace ou8 := ou8.off off27 au8Xp22
  replace ou9 := ou9.off off27 au9Xp22
  replace ou16 := ou16.off off27 au16Xp22
  replace ou17 := ou17.off off27 au17Xp22
  replace hpa := hpa0.le (off27.le lE np22)
  replace hpb := hpb0.le (off27.le lE np22)
  replace lE := off27.le lE np22
  replace op22 : Cel H26 p22 [u16, u17] := op22
  refine ob_i (op22.ldn rfl) ?_
  refine C.impl_CountStill ou16.sl ou17.sl (by omega) (by omega)  (fun  H28    le29 => ?_)
  replace op1 := op1.le le29
  replace ou8 := ou8.le le29
  replace ou9 := ou9.le le29
  replace ou16 := ou16.le le29
  replace ou17 := ou17.le le29
  replace op22 := op22.le le29
  replace hpa := hpa.le le29
  replace hpb := hpb.le le29
  replace lE := lE.trans le29
  refine ob_i (vExt_20 _ _) ?_
  refine ob_i (vExt_21 _ _) ?_
  refine ob_i (vInt_neq_same _ _) ?_
  refine gop_rf ?_
  refine gop_rf ?_
  refine gop_rf ?_
  refine ob_i (vBool_neq_same _) ?_
  refine ob_i (vPick_f _ _) ?_
  refine cnd_f1 ?_
  refine ob_i (op22.ldn rfl) ?_
  refine ob_i (op1.ldn rfl) ?_
  refine C.laws_toLife hpa hpb (by omega) (by omega) (fun u30 u31 H32 ou30 ou31 nn34 nn35 au30Xu31 le33 => ?_)
  have ap1Xu30 : Apart p1 u30 := op1.apart nn34
  have au8Xu30 : Apart u8 u30 := ou8.apart nn34
  have au9Xu30 : Apart u9 u30 := ou9.apart nn34
  have au16Xu30 : Apart u16 u30 := ou16.apart nn34
  have au17Xu30 : Apart u17 u30 := ou17.apart nn34
  have ap22Xu30 : Apart p22 u30 := op22.apart nn34
  have nu30 : Nw H u30 := nn34.le lE
  have ap1Xu31 : Apart p1 u31 := op1.apart nn35
  have au8Xu31 : Apart u8 u31 := ou8.apart nn35
  have au9Xu31 : Apart u9 u31 := ou9.apart nn35
  have au16Xu31 : Apart u16 u31 := ou16.apart nn35
  have au17Xu31 : Apart u17 u31 := ou17.apart nn35
  have ap22Xu31 : Apart p22 u31 := op22.apart nn35
  have nu31 : Nw H u31 := nn35.le lE
  replace op1 := op1.le le33
  replace ou8 := ou8.le le33
  replace ou9 := ou9.le le33
  replace ou16 := ou16.le le33
  replace ou17 := ou17.le le33
  replace op22 := op22.le le33
  replace hpa := hpa.le le33
  replace hpb := hpb.le le33
  replace lE := lE.trans le33
  refine ⟨le33, ?_⟩
  refine C.laws_eqLife ou16.sl ou30.sl ou17.sl ou31.sl (by omega) (by omega) (fun H36 le37 => ?_)
  replace op1 := op1.le le37
  replace ou8 := ou8.le le37
  replace ou9 := ou9.le le37
  replace ou16 := ou16.le le37
  replace ou17 := ou17.le le37
  replace op22 := op22.le le37
  replace ou30 := ou30.le le37
  replace ou31 := ou31.le le37
  replace hpa := hpa.le le37
  replace hpb := hpb.le le37
  replace lE := lE.trans le37
  refine ⟨le37, ?_⟩
  refine ob_i (a := .bool false) rfl ?_
  refine cnd_f1 ?_
  exact hk _ lE
end Go.Proofs.Ythbffbpdoankjaa
