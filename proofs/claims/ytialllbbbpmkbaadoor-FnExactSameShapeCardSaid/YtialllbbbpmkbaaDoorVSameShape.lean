/- Laws, each by its two sides: its function returns true, and what was known before stays. -/
import Derived.Test.YtialllbbbpmkbaaDoorMSameShape2
import Derived.Test.YtialllbbbpmkbaaDoorMSameShape0
namespace Go.Proofs.YtialllbbbpmkbaaDoor
open HL
set_option maxRecDepth 100000
theorem L.FnExactSameShape {pa : Int} {pb : Int} {pc : Value} {spc : List Int} {qa : Int} {qb : Int} {qc : Value} {sqc : List Int} {H : Hp} {K : Value → Hp → Prop} (hpc0 : Sl eI H pc spc) (hqc0 : Sl eI H qc sqc) (mspc : (spc).length ≤ 9223372036854775807) (msqc : (sqc).length ≤ 9223372036854775807) (hk : ∀ H', Le H H' → K (.bool true) H') :
    HT prg I.laws_FnExactSameShape [(.agg #[(.int .i64 (pa)), (.int .i64 (pb)), pc]), (.agg #[(.int .i64 (qa)), (.int .i64 (qb)), qc])].toArray H K := by
  have lE := Le.refl H
  have hpc := hpc0
  have hqc := hqc0
  refine R.laws_FnExactSameShape ?_
  unfold F.laws_FnExactSameShape
  refine nw_i (fun p1 H2 op1 nn3 le4 => ?_)
  have np1 : Nw H p1 := nn3.le lE
  replace hpc := hpc.le le4
  replace hqc := hqc.le le4
  replace lE := lE.trans le4
  replace op1 : Cel H2 p1 [(.int .i64 (pa)), (.int .i64 (pb)), pc] := op1
  refine nw_i (fun p5 H6 op5 nn7 le8 => ?_)
  have ap1Xp5 : Apart p1 p5 := op1.apart nn7
  have np5 : Nw H p5 := nn7.le lE
  replace op1 := op1.le le8
  replace hpc := hpc.le le8
  replace hqc := hqc.le le8
  replace lE := lE.trans le8
  replace op5 : Cel H6 p5 [(.int .i64 (qa)), (.int .i64 (qb)), qc] := op5
  refine ob_i (op1.ldn rfl) ?_
  refine C.laws_szField hpc (by omega) (by omega) (by omega) (fun H10 le11 => ?_) (fun H10 le11 hz9 => ?_)
  · skip
    replace op1 := op1.le le11
    replace op5 := op5.le le11
    replace hpc := hpc.le le11
    replace hqc := hqc.le le11
    replace lE := lE.trans le11
    refine ob_i (vInt_lss_t (by omega)) ?_
    refine cnd_t1 ?_
    exact hk _ lE
  replace op1 := op1.le le11
  replace op5 := op5.le le11
  replace hpc := hpc.le le11
  replace hqc := hqc.le le11
  replace lE := lE.trans le11
  refine ob_i (vInt_lss_f (by omega)) ?_
  refine cnd_f1 ?_
  refine ob_i (op5.ldn rfl) ?_
  refine C.laws_szField hqc (by omega) (by omega) (by omega) (fun H13 le14 => ?_) (fun H13 le14 hz12 => ?_)
  · skip
    replace op1 := op1.le le14
    replace op5 := op5.le le14
    replace hpc := hpc.le le14
    replace hqc := hqc.le le14
    replace lE := lE.trans le14
    refine ob_i (vInt_lss_t (by omega)) ?_
    refine cnd_t1 ?_
    exact hk _ lE
  replace op1 := op1.le le14
  replace op5 := op5.le le14
  replace hpc := hpc.le le14
  replace hqc := hqc.le le14
  replace lE := lE.trans le14
  refine ob_i (vInt_lss_f (by omega)) ?_
  refine cnd_f1 ?_
  refine ob_i (op1.ldn rfl) ?_
  refine ob_i (op5.ldn rfl) ?_
  refine C.laws_toField hpc (by omega) (fun u15 H16 ou15 nn18  le17 => ?_)
  have ap1Xu15 : Apart p1 u15 := op1.apart nn18
  have ap5Xu15 : Apart p5 u15 := op5.apart nn18
  have nu15 : Nw H u15 := nn18.le lE
  replace op1 := op1.le le17
  replace op5 := op5.le le17
  replace hpc := hpc.le le17
  replace hqc := hqc.le le17
  replace lE := lE.trans le17
  refine ⟨le17, ?_⟩
  refine C.laws_toField hqc (by omega) (fun u19 H20 ou19 nn22  le21 => ?_)
  have ap1Xu19 : Apart p1 u19 := op1.apart nn22
  have ap5Xu19 : Apart p5 u19 := op5.apart nn22
  have au15Xu19 : Apart u15 u19 := ou15.apart nn22
  have nu19 : Nw H u19 := nn22.le lE
  replace op1 := op1.le le21
  replace op5 := op5.le le21
  replace ou15 := ou15.le le21
  replace hpc := hpc.le le21
  replace hqc := hqc.le le21
  replace lE := lE.trans le21
  refine ⟨le21, ?_⟩
  refine C.spec_SameShape ou15.sl ou19.sl (by omega) (by omega)  (fun  H23    le24 => ?_)
  replace op1 := op1.le le24
  replace op5 := op5.le le24
  replace ou15 := ou15.le le24
  replace ou19 := ou19.le le24
  replace hpc := hpc.le le24
  replace hqc := hqc.le le24
  replace lE := lE.trans le24
  refine ⟨le24, ?_⟩
  refine ob_i (vExt_20 _ _) ?_
  refine ob_i (vExt_21 _ _) ?_
  refine ob_i (op1.ldn rfl) ?_
  refine C.laws_toField hpc (by omega) (fun u25 H26 ou25 nn28  le27 => ?_)
  have ap1Xu25 : Apart p1 u25 := op1.apart nn28
  have ap5Xu25 : Apart p5 u25 := op5.apart nn28
  have au15Xu25 : Apart u15 u25 := ou15.apart nn28
  have au19Xu25 : Apart u19 u25 := ou19.apart nn28
  have nu25 : Nw H u25 := nn28.le lE
  replace op1 := op1.le le27
  replace op5 := op5.le le27
  replace ou15 := ou15.le le27
  replace ou19 := ou19.le le27
  replace hpc := hpc.le le27
  replace hqc := hqc.le le27
  replace lE := lE.trans le27
  refine nw_i (fun p29 H30 op29 nn31 le32 => ?_)
  have ap1Xp29 : Apart p1 p29 := op1.apart nn31
  have ap5Xp29 : Apart p5 p29 := op5.apart nn31
  have au15Xp29 : Apart u15 p29 := ou15.apart nn31
  have au19Xp29 : Apart u19 p29 := ou19.apart nn31
  have au25Xp29 : Apart u25 p29 := ou25.apart nn31
  have np29 : Nw H p29 := nn31.le lE
  replace op1 := op1.le le32
  replace op5 := op5.le le32
  replace ou15 := ou15.le le32
  replace ou19 := ou19.le le32
  replace ou25 := ou25.le le32
  replace hpc := hpc.le le32
  replace hqc := hqc.le le32
  replace lE := lE.trans le32
  replace op29 : Cel H30 p29 [(.int .i64 (0)), (.int .i64 (0)), (.slice none 0 0)] := op29
  refine op29.stn (ws := [(.int .i64 (pa)), (.int .i64 (pb)), u25]) rfl rfl (oc1 rfl (oc1 rfl (oc1 ou25.one oc0))) (fun H33 op29 off34 => ?_)
  replace op1 := op1.off off34 ap1Xp29
  replace op5 := op5.off off34 ap5Xp29
  replace ou15 := ou15.off off34 au15Xp29
  replace ou19 := ou19.off off34 au19Xp29
  replace ou25 := ou25.off off34 au25Xp29
  replace hpc := hpc0.le (off34.le lE np29)
  replace hqc := hqc0.le (off34.le lE np29)
  replace lE := off34.le lE np29
  replace op29 : Cel H33 p29 [(.int .i64 (pa)), (.int .i64 (pb)), u25] := op29
  refine ob_i (op5.ldn rfl) ?_
  refine C.laws_toField hqc (by omega) (fun u35 H36 ou35 nn38  le37 => ?_)
  have ap1Xu35 : Apart p1 u35 := op1.apart nn38
  have ap5Xu35 : Apart p5 u35 := op5.apart nn38
  have au15Xu35 : Apart u15 u35 := ou15.apart nn38
  have au19Xu35 : Apart u19 u35 := ou19.apart nn38
  have au25Xu35 : Apart u25 u35 := ou25.apart nn38
  have ap29Xu35 : Apart p29 u35 := op29.apart nn38
  have nu35 : Nw H u35 := nn38.le lE
  replace op1 := op1.le le37
  replace op5 := op5.le le37
  replace ou15 := ou15.le le37
  replace ou19 := ou19.le le37
  replace ou25 := ou25.le le37
  replace op29 := op29.le le37
  replace hpc := hpc.le le37
  replace hqc := hqc.le le37
  replace lE := lE.trans le37
  refine nw_i (fun p39 H40 op39 nn41 le42 => ?_)
  have ap1Xp39 : Apart p1 p39 := op1.apart nn41
  have ap5Xp39 : Apart p5 p39 := op5.apart nn41
  have au15Xp39 : Apart u15 p39 := ou15.apart nn41
  have au19Xp39 : Apart u19 p39 := ou19.apart nn41
  have au25Xp39 : Apart u25 p39 := ou25.apart nn41
  have ap29Xp39 : Apart p29 p39 := op29.apart nn41
  have au35Xp39 : Apart u35 p39 := ou35.apart nn41
  have np39 : Nw H p39 := nn41.le lE
  replace op1 := op1.le le42
  replace op5 := op5.le le42
  replace ou15 := ou15.le le42
  replace ou19 := ou19.le le42
  replace ou25 := ou25.le le42
  replace op29 := op29.le le42
  replace ou35 := ou35.le le42
  replace hpc := hpc.le le42
  replace hqc := hqc.le le42
  replace lE := lE.trans le42
  replace op39 : Cel H40 p39 [(.int .i64 (0)), (.int .i64 (0)), (.slice none 0 0)] := op39
  refine op39.stn (ws := [(.int .i64 (qa)), (.int .i64 (qb)), u35]) rfl rfl (oc1 rfl (oc1 rfl (oc1 ou35.one oc0))) (fun H43 op39 off44 => ?_)
  replace op1 := op1.off off44 ap1Xp39
  replace op5 := op5.off off44 ap5Xp39
  replace ou15 := ou15.off off44 au15Xp39
  replace ou19 := ou19.off off44 au19Xp39
  replace ou25 := ou25.off off44 au25Xp39
  replace op29 := op29.off off44 ap29Xp39
  replace ou35 := ou35.off off44 au35Xp39
  replace hpc := hpc0.le (off44.le lE np39)
  replace hqc := hqc0.le (off44.le lE np39)
  replace lE := off44.le lE np39
  replace op39 : Cel H43 p39 [(.int .i64 (qa)), (.int .i64 (qb)), u35] := op39
  refine ob_i (op29.ldn rfl) ?_
  refine ob_i (op39.ldn rfl) ?_
  refine C.impl_SameShape ou25.sl ou35.sl (by omega) (by omega)  (fun  H45    le46 => ?_)
  replace op1 := op1.le le46
  replace op5 := op5.le le46
  replace ou15 := ou15.le le46
  replace ou19 := ou19.le le46
  replace ou25 := ou25.le le46
  replace op29 := op29.le le46
  replace ou35 := ou35.le le46
  replace op39 := op39.le le46
  replace hpc := hpc.le le46
  replace hqc := hqc.le le46
  replace lE := lE.trans le46
  refine ob_i (vExt_20 _ _) ?_
  refine ob_i (vExt_21 _ _) ?_
  refine ob_i (vBool_neq_same _) ?_
  refine gop_rf ?_
  refine gop_rf ?_
  refine gop_rf ?_
  refine ob_i (vBool_neq_same _) ?_
  refine ob_i (vPick_f _ _) ?_
  refine cnd_f1 ?_
  refine ob_i (op29.ldn rfl) ?_
  refine ob_i (op1.ldn rfl) ?_
  refine C.laws_toField hpc (by omega) (fun u47 H48 ou47 nn50  le49 => ?_)
  have ap1Xu47 : Apart p1 u47 := op1.apart nn50
  have ap5Xu47 : Apart p5 u47 := op5.apart nn50
  have au15Xu47 : Apart u15 u47 := ou15.apart nn50
  have au19Xu47 : Apart u19 u47 := ou19.apart nn50
  have au25Xu47 : Apart u25 u47 := ou25.apart nn50
  have ap29Xu47 : Apart p29 u47 := op29.apart nn50
  have au35Xu47 : Apart u35 u47 := ou35.apart nn50
  have ap39Xu47 : Apart p39 u47 := op39.apart nn50
  have nu47 : Nw H u47 := nn50.le lE
  replace op1 := op1.le le49
  replace op5 := op5.le le49
  replace ou15 := ou15.le le49
  replace ou19 := ou19.le le49
  replace ou25 := ou25.le le49
  replace op29 := op29.le le49
  replace ou35 := ou35.le le49
  replace op39 := op39.le le49
  replace hpc := hpc.le le49
  replace hqc := hqc.le le49
  replace lE := lE.trans le49
  refine ⟨le49, ?_⟩
  refine C.laws_eqField ou25.sl ou47.sl (by omega) (fun H51 le52 => ?_)
  replace op1 := op1.le le52
  replace op5 := op5.le le52
  replace ou15 := ou15.le le52
  replace ou19 := ou19.le le52
  replace ou25 := ou25.le le52
  replace op29 := op29.le le52
  replace ou35 := ou35.le le52
  replace op39 := op39.le le52
  replace ou47 := ou47.le le52
  replace hpc := hpc.le le52
  replace hqc := hqc.le le52
  replace lE := lE.trans le52
  refine ⟨le52, ?_⟩
  refine ob_i (a := .bool false) rfl ?_
  refine cnd_f1 ?_
  refine ob_i (op39.ldn rfl) ?_
  refine ob_i (op5.ldn rfl) ?_
  refine C.laws_toField hqc (by omega) (fun u53 H54 ou53 nn56  le55 => ?_)
  have ap1Xu53 : Apart p1 u53 := op1.apart nn56
  have ap5Xu53 : Apart p5 u53 := op5.apart nn56
  have au15Xu53 : Apart u15 u53 := ou15.apart nn56
  have au19Xu53 : Apart u19 u53 := ou19.apart nn56
  have au25Xu53 : Apart u25 u53 := ou25.apart nn56
  have ap29Xu53 : Apart p29 u53 := op29.apart nn56
  have au35Xu53 : Apart u35 u53 := ou35.apart nn56
  have ap39Xu53 : Apart p39 u53 := op39.apart nn56
  have au47Xu53 : Apart u47 u53 := ou47.apart nn56
  have nu53 : Nw H u53 := nn56.le lE
  replace op1 := op1.le le55
  replace op5 := op5.le le55
  replace ou15 := ou15.le le55
  replace ou19 := ou19.le le55
  replace ou25 := ou25.le le55
  replace op29 := op29.le le55
  replace ou35 := ou35.le le55
  replace op39 := op39.le le55
  replace ou47 := ou47.le le55
  replace hpc := hpc.le le55
  replace hqc := hqc.le le55
  replace lE := lE.trans le55
  refine ⟨le55, ?_⟩
  refine C.laws_eqField ou35.sl ou53.sl (by omega) (fun H57 le58 => ?_)
  replace op1 := op1.le le58
  replace op5 := op5.le le58
  replace ou15 := ou15.le le58
  replace ou19 := ou19.le le58
  replace ou25 := ou25.le le58
  replace op29 := op29.le le58
  replace ou35 := ou35.le le58
  replace op39 := op39.le le58
  replace ou47 := ou47.le le58
  replace ou53 := ou53.le le58
  replace hpc := hpc.le le58
  replace hqc := hqc.le le58
  replace lE := lE.trans le58
  refine ⟨le58, ?_⟩
  refine ob_i (a := .bool false) rfl ?_
  refine cnd_f1 ?_
  exact hk _ lE
end Go.Proofs.YtialllbbbpmkbaaDoor
