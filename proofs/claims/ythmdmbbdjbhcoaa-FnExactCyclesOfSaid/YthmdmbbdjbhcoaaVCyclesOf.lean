/- Laws, each by its two sides: its function returns true, and what was known before stays. -/
import Derived.Test.YthmdmbbdjbhcoaaMCyclesOf1
import Derived.Test.YthmdmbbdjbhcoaaMCyclesOf0
namespace Go.Proofs.Ythmdmbbdjbhcoaa
open HL
set_option maxRecDepth 100000
theorem L.FnExactCyclesOf {pa : Int} {pb : Int} {pc : Value} {spc : List Int} {q : Int} {H : Hp} {K : Value → Hp → Prop} (hpc0 : Sl eI H pc spc) (wq0 : -9223372036854775808 ≤ q) (wq1 : q < 9223372036854775808) (mspc : (spc).length ≤ 9223372036854775807) (hk : ∀ H', Le H H' → K (.bool true) H') :
    HT prg I.laws_FnExactCyclesOf [(.agg #[(.int .i64 (pa)), (.int .i64 (pb)), pc]), (.int .i64 (q))].toArray H K := by
 have hR := @csP_len pa pb q spc
 have lE := Le.refl H
 have hpc := hpc0
 refine R.laws_FnExactCyclesOf ?_
 unfold F.laws_FnExactCyclesOf
 refine nw_i (fun p1 H2 op1 nn3 le4 => ?_)
 replace hpc := hpc.le le4
 replace lE := lE.trans le4
 replace op1 : Cel H2 p1 [(.int .i64 (pa)), (.int .i64 (pb)), pc] := op1
 refine ob_i (op1.ldn rfl) ?_
 refine C.laws_szRule hpc (by omega) (by omega) (by omega) (fun H6 le7 => ?_) (fun H6 le7 hz5 => ?_)
 ·skip
  replace lE := lE.trans le7
  refine ob_i (vInt_lss_t (by omega)) ?_
  refine cnd_t1 ?_
  exact hk _ lE
 replace op1 := op1.le le7
 replace hpc := hpc.le le7
 replace lE := lE.trans le7
 refine ob_i (vInt_lss_f (by omega)) ?_
 refine cnd_f1 ?_
 refine ob_i (op1.ldn rfl) ?_
 refine C.laws_toRule hpc (by omega) (fun u8 H9 ou8 nn11  le10 => ?_)
 replace op1 := op1.le le10
 replace hpc := hpc.le le10
 replace lE := lE.trans le10
 refine C.spec_CyclesOf ou8.sl (by omega)  (fun g14 H12 og14 nn15  le13 => ?_)
 replace op1 := op1.le le13
 replace hpc := hpc.le le13
 replace lE := lE.trans le13
 refine ob_i (vExt_30 _ _ _) ?_
 refine ob_i (vExt_31 _ _ _) ?_
 refine ob_i (vExt_32 _ _ _) ?_
 refine ob_i (op1.ldn rfl) ?_
 refine C.laws_toRule hpc (by omega) (fun u16 H17 ou16 nn19  le18 => ?_)
 have ap1Xu16 : Apart p1 u16 := op1.apart nn19
 have ag14Xu16 : Apart g14 u16 := og14.apart nn19
 have nu16 : Nw H u16 := nn19.le lE
 replace op1 := op1.le le18
 replace og14 := og14.le le18
 replace hpc := hpc.le le18
 replace lE := lE.trans le18
 refine nw_i (fun p20 H21 op20 nn22 le23 => ?_)
 have ap1Xp20 : Apart p1 p20 := op1.apart nn22
 have ag14Xp20 : Apart g14 p20 := og14.apart nn22
 have au16Xp20 : Apart u16 p20 := ou16.apart nn22
 have np20 : Nw H p20 := nn22.le lE
 replace op1 := op1.le le23
 replace og14 := og14.le le23
 replace ou16 := ou16.le le23
 replace hpc := hpc.le le23
 replace lE := lE.trans le23
 replace op20 : Cel H21 p20 [(.int .i64 (0)), (.int .i64 (0)), (.slice none 0 0)] := op20
 refine op20.stn (ws := [(.int .i64 (pa)), (.int .i64 (pb)), u16]) rfl rfl (oc1 rfl (oc1 rfl (oc1 ou16.one oc0))) (fun H24 op20 off25 => ?_)
 replace op1 := op1.off off25 ap1Xp20
 replace og14 := og14.off off25 ag14Xp20
 replace ou16 := ou16.off off25 au16Xp20
 replace hpc := hpc0.le (off25.le lE np20)
 replace lE := off25.le lE np20
 replace op20 : Cel H24 p20 [(.int .i64 (pa)), (.int .i64 (pb)), u16] := op20
 refine ob_i (op20.ldn rfl) ?_
 refine C.impl_CyclesOf ou16.sl (by omega)  (fun g28 H26 og28 nn29  le27 => ?_)
 have ap1Xg28 : Apart p1 g28 := op1.apart nn29
 have ag14Xg28 : Apart g14 g28 := og14.apart nn29
 have au16Xg28 : Apart u16 g28 := ou16.apart nn29
 have ng28 : Nw H g28 := nn29.le lE
 replace op1 := op1.le le27
 replace og14 := og14.le le27
 replace ou16 := ou16.le le27
 replace op20 := op20.le le27
 replace hpc := hpc.le le27
 replace lE := lE.trans le27
 refine ob_i (vExt_30 _ _ _) ?_
 refine ob_i (vExt_31 _ _ _) ?_
 refine ob_i (vExt_32 _ _ _) ?_
 refine C.laws_eqInt64S og28.sl og14.sl (by omega) ?_
 rw [decide_eq_true rfl]
 refine ob_i (a := .bool false) rfl ?_
 refine gop_rf ?_
 refine gop_rf ?_
 refine gop_rf ?_
 refine ob_i (vInt_neq_same _ _) ?_
 refine ob_i (vPick_f _ _) ?_
 refine gop_rf ?_
 refine gop_rf ?_
 refine gop_rf ?_
 refine ob_i (vBool_neq_same _) ?_
 refine ob_i (vPick_f _ _) ?_
 refine cnd_f1 ?_
 refine ob_i (op20.ldn rfl) ?_
 refine ob_i (op1.ldn rfl) ?_
 refine C.laws_toRule hpc (by omega) (fun u30 H31 ou30 nn33  le32 => ?_)
 replace op1 := op1.le le32
 replace og14 := og14.le le32
 replace ou16 := ou16.le le32
 replace op20 := op20.le le32
 replace og28 := og28.le le32
 replace hpc := hpc.le le32
 replace lE := lE.trans le32
 refine ⟨le32, ?_⟩
 refine C.laws_eqRule ou16.sl ou30.sl (by omega) (fun H34 le35 => ?_)
 replace op1 := op1.le le35
 replace og14 := og14.le le35
 replace ou16 := ou16.le le35
 replace op20 := op20.le le35
 replace og28 := og28.le le35
 replace hpc := hpc.le le35
 replace lE := lE.trans le35
 refine ⟨le35, ?_⟩
 refine ob_i (a := .bool false) rfl ?_
 refine cnd_f1 ?_
 refine ob_i (op20.ldn rfl) ?_
 refine R.laws_markRule ?_
 unfold F.laws_markRule
 refine nw_i (fun p36 H37 op36 nn38 le39 => ?_)
 replace op1 := op1.le le39
 replace og14 := og14.le le39
 replace ou16 := ou16.le le39
 replace og28 := og28.le le39
 replace hpc := hpc.le le39
 replace lE := lE.trans le39
 replace op36 : Cel H37 p36 [(.int .i64 (pa)), (.int .i64 (pb)), u16] := op36
 refine ob_i (op36.fa 2) ?_
 refine ob_i (op36.ld 2 rfl) ?_
 refine C.laws_markInt64S ou16 (by omega) (by omega) (by omega) (fun H40 ou16 off41 => ?_)
 replace op1 := op1.off off41 ap1Xu16
 replace og14 := og14.off off41 ag14Xu16
 replace og28 := og28.off off41 au16Xg28.symm
 replace hpc := hpc0.le (off41.le lE nu16)
 replace lE := off41.le lE nu16
 refine ob_i (vInt_lss_f (by omega)) ?_
 refine gop_rf ?_
 refine gop_rf ?_
 refine gop_rf ?_
 refine C.laws_eqInt64S og28.sl og14.sl (by omega) ?_
 rw [decide_eq_true rfl]
 refine gop_rf ?_
 refine ob_i (a := .bool false) rfl ?_
 refine ob_i (vPick_f _ _) ?_
 refine gop_rf ?_
 refine gop_rf ?_
 refine gop_rf ?_
 refine ob_i (vInt_neq_same _ _) ?_
 refine ob_i (vPick_f _ _) ?_
 refine gop_rf ?_
 refine gop_rf ?_
 refine gop_rf ?_
 refine ob_i (vBool_neq_same _) ?_
 refine ob_i (vPick_f _ _) ?_
 refine cnd_f1 ?_
 refine C.laws_markInt64S og28 (by omega) (by omega) (by omega) (fun H42 og28 off43 => ?_)
 replace op1 := op1.off off43 ap1Xg28
 replace og14 := og14.off off43 ag14Xg28
 replace hpc := hpc0.le (off43.le lE ng28)
 replace lE := off43.le lE ng28
 refine C.laws_heldInt64S og28.sl (by omega) (by omega) (by omega) ?_
 refine ob_i (vInt_lss_f (by omega)) ?_
 refine cnd_f1 ?_
 refine ob_i (vInt_neq_same _ _) ?_
 refine cnd_f1 ?_
 refine ob_i (op1.ldn rfl) ?_
 refine C.laws_toRule hpc (by omega) (fun u44 H45 ou44 nn47  le46 => ?_)
 replace og14 := og14.le le46
 replace og28 := og28.le le46
 replace lE := lE.trans le46
 refine C.impl_CyclesOf ou44.sl (by omega)  (fun g50 H48 og50 nn51  le49 => ?_)
 replace og14 := og14.le le49
 replace og28 := og28.le le49
 replace lE := lE.trans le49
 refine ob_i (vExt_30 _ _ _) ?_
 refine ob_i (vExt_31 _ _ _) ?_
 refine ob_i (vExt_32 _ _ _) ?_
 refine C.laws_eqInt64S og50.sl og14.sl (by omega) ?_
 rw [decide_eq_true rfl]
 refine ob_i (a := .bool false) rfl ?_
 refine gop_rf ?_
 refine gop_rf ?_
 refine gop_rf ?_
 refine ob_i (vInt_neq_same _ _) ?_
 refine ob_i (vPick_f _ _) ?_
 refine gop_rf ?_
 refine gop_rf ?_
 refine gop_rf ?_
 refine ob_i (vBool_neq_same _) ?_
 refine ob_i (vPick_f _ _) ?_
 refine cnd_f1 ?_
 refine C.laws_heldInt64S og28.sl (by omega) (by omega) (by omega) ?_
 refine ob_i (vInt_lss_f (by omega)) ?_
 refine cnd_f1 ?_
 refine ob_i (vInt_neq_same _ _) ?_
 refine cnd_f1 ?_
 exact hk _ lE
end Go.Proofs.Ythmdmbbdjbhcoaa
