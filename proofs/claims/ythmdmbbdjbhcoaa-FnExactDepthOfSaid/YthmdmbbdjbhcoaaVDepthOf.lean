/- Laws, each by its two sides: its function returns true, and what was known before stays. -/
import Derived.Test.YthmdmbbdjbhcoaaMDepthOf1
import Derived.Test.YthmdmbbdjbhcoaaMDepthOf0
namespace Go.Proofs.Ythmdmbbdjbhcoaa
open HL
set_option maxRecDepth 100000
theorem L.FnExactDepthOf {pa : Int} {pb : Int} {pc : Value} {spc : List Int} {q : Int} {H : Hp} {K : Value → Hp → Prop} (hpc0 : Sl eI H pc spc) (wq0 : -9223372036854775808 ≤ q) (wq1 : q < 9223372036854775808) (mspc : (spc).length ≤ 9223372036854775807) (hk : ∀ H', Le H H' → K (.bool true) H') :
    HT prg I.laws_FnExactDepthOf [(.agg #[(.int .i64 (pa)), (.int .i64 (pb)), pc]), (.int .i64 (q))].toArray H K := by
 have lE := Le.refl H
 have hpc := hpc0
 refine R.laws_FnExactDepthOf ?_
 unfold F.laws_FnExactDepthOf
 refine nw_i (fun p1 H2 op1 nn3 le4 => ?_)
 replace hpc := hpc.le le4
 replace lE := lE.trans le4
 replace op1 : Cel H2 p1 [(.int .i64 (pa)), (.int .i64 (pb)), pc] := op1
 refine ob_i (op1.ldn rfl) ?_
 refine C.laws_szRule hpc (by omega) (by omega) (by omega) (fun H6 le7 => ?_) (fun H6 le7 hz5 => ?_)
 ·skip
  replace lE := lE.trans le7
  refine ob_i (vInt_lss_t (by omega)) ?_
  refine cnd_t1 ?_
  exact hk _ lE
 replace op1 := op1.le le7
 replace hpc := hpc.le le7
 replace lE := lE.trans le7
 refine ob_i (vInt_lss_f (by omega)) ?_
 refine cnd_f1 ?_
 refine ob_i (op1.ldn rfl) ?_
 refine C.laws_toRule hpc (by omega) (fun u8 H9 ou8 nn11  le10 => ?_)
 replace op1 := op1.le le10
 replace hpc := hpc.le le10
 replace lE := lE.trans le10
 refine C.spec_DepthOf ou8.sl (by omega)  (fun  H12    le13 => ?_)
 replace op1 := op1.le le13
 replace hpc := hpc.le le13
 replace lE := lE.trans le13
 refine ob_i (vExt_20 _ _) ?_
 refine ob_i (vExt_21 _ _) ?_
 refine ob_i (op1.ldn rfl) ?_
 refine C.laws_toRule hpc (by omega) (fun u14 H15 ou14 nn17  le16 => ?_)
 replace op1 := op1.le le16
 replace hpc := hpc.le le16
 replace lE := lE.trans le16
 refine nw_i (fun p18 H19 op18 nn20 le21 => ?_)
 have ap1Xp18 : Apart p1 p18 := op1.apart nn20
 have au14Xp18 : Apart u14 p18 := ou14.apart nn20
 have np18 : Nw H p18 := nn20.le lE
 replace op1 := op1.le le21
 replace ou14 := ou14.le le21
 replace hpc := hpc.le le21
 replace lE := lE.trans le21
 replace op18 : Cel H19 p18 [(.int .i64 (0)), (.int .i64 (0)), (.slice none 0 0)] := op18
 refine op18.stn (ws := [(.int .i64 (pa)), (.int .i64 (pb)), u14]) rfl rfl (oc1 rfl (oc1 rfl (oc1 ou14.one oc0))) (fun H22 op18 off23 => ?_)
 replace op1 := op1.off off23 ap1Xp18
 replace ou14 := ou14.off off23 au14Xp18
 replace hpc := hpc0.le (off23.le lE np18)
 replace lE := off23.le lE np18
 replace op18 : Cel H22 p18 [(.int .i64 (pa)), (.int .i64 (pb)), u14] := op18
 refine ob_i (op18.ldn rfl) ?_
 refine C.impl_DepthOf ou14.sl (by omega)  (fun  H24    le25 => ?_)
 replace op1 := op1.le le25
 replace ou14 := ou14.le le25
 replace op18 := op18.le le25
 replace hpc := hpc.le le25
 replace lE := lE.trans le25
 refine ob_i (vExt_20 _ _) ?_
 refine ob_i (vExt_21 _ _) ?_
 refine ob_i (vInt_neq_same _ _) ?_
 refine gop_rf ?_
 refine gop_rf ?_
 refine gop_rf ?_
 refine ob_i (vBool_neq_same _) ?_
 refine ob_i (vPick_f _ _) ?_
 refine cnd_f1 ?_
 refine ob_i (op18.ldn rfl) ?_
 refine ob_i (op1.ldn rfl) ?_
 refine C.laws_toRule hpc (by omega) (fun u26 H27 ou26 nn29  le28 => ?_)
 replace ou14 := ou14.le le28
 replace lE := lE.trans le28
 refine ⟨le28, ?_⟩
 refine C.laws_eqRule ou14.sl ou26.sl (by omega) (fun H30 le31 => ?_)
 replace lE := lE.trans le31
 refine ⟨le31, ?_⟩
 refine ob_i (a := .bool false) rfl ?_
 refine cnd_f1 ?_
 exact hk _ lE
end Go.Proofs.Ythmdmbbdjbhcoaa
