/- Laws, each by its two sides: its function returns true, and what was known before stays. -/
import Derived.Test.YtcjamajenfgddaaFE
import Derived.Test.YtcjamajenfgddaaSE
namespace Go.Proofs.Ytcjamajenfgddaa
open HL
set_option maxRecDepth 100000
theorem L.FnExactSameFlow {pa : Int} {pb : Int} {pc : Value} {spc : List Nat} {pd : Value} {spd : List Bool} {qa : Int} {qb : Int} {qc : Value} {sqc : List Nat} {qd : Value} {sqd : List Bool} {H : Hp} {K : Value → Hp → Prop} (hpc0 : Sl eF H pc spc) (hpd0 : Sl eB H pd spd) (hqc0 : Sl eF H qc sqc) (hqd0 : Sl eB H qd sqd) (mspc : (spc).length ≤ 9223372036854775807) (mspd : (spd).length ≤ 9223372036854775807) (msqc : (sqc).length ≤ 9223372036854775807) (msqd : (sqd).length ≤ 9223372036854775807) (fspc : ∀ x ∈ spc, x < 4294967296) (fsqc : ∀ x ∈ sqc, x < 4294967296) (hk : ∀ H', Le H H' → K (.bool true) H') :
    HT prg I.laws_FnExactSameFlow [(.agg #[(.int .i64 (pa)), (.int .i64 (pb)), pc, pd]), (.agg #[(.int .i64 (qa)), (.int .i64 (qb)), qc, qd])].toArray H K := by
  have lE := Le.refl H
  have hpc := hpc0
  have hpd := hpd0
  have hqc := hqc0
  have hqd := hqd0
  refine R.laws_FnExactSameFlow ?_
  unfold F.laws_FnExactSameFlow
  refine nw_i (fun p1 H2 op1 nn3 le4 => ?_)
  have np1 : Nw H p1 := nn3.le lE
  replace hpc := hpc.le le4
  replace hpd := hpd.le le4
  replace hqc := hqc.le le4
  replace hqd := hqd.le le4
  replace lE := lE.trans le4
  replace op1 : Cel H2 p1 [(.int .i64 (pa)), (.int .i64 (pb)), pc, pd] := op1
  refine nw_i (fun p5 H6 op5 nn7 le8 => ?_)
  have ap1Xp5 : Apart p1 p5 := op1.apart nn7
  have np5 : Nw H p5 := nn7.le lE
  replace op1 := op1.le le8
  replace hpc := hpc.le le8
  replace hpd := hpd.le le8
  replace hqc := hqc.le le8
  replace hqd := hqd.le le8
  replace lE := lE.trans le8
  replace op5 : Cel H6 p5 [(.int .i64 (qa)), (.int .i64 (qb)), qc, qd] := op5
  refine ob_i (op1.ldn rfl) ?_
  refine C.laws_szFlow hpc hpd (by omega) (by omega) (by omega) (by omega) (fun H10 le11 => ?_) (fun H10 le11 hz9 => ?_)
  · skip
    replace op1 := op1.le le11
    replace op5 := op5.le le11
    replace hpc := hpc.le le11
    replace hpd := hpd.le le11
    replace hqc := hqc.le le11
    replace hqd := hqd.le le11
    replace lE := lE.trans le11
    refine ob_i (vInt_lss_t (by omega)) ?_
    refine cnd_t1 ?_
    exact hk _ lE
  replace op1 := op1.le le11
  replace op5 := op5.le le11
  replace hpc := hpc.le le11
  replace hpd := hpd.le le11
  replace hqc := hqc.le le11
  replace hqd := hqd.le le11
  replace lE := lE.trans le11
  refine ob_i (vInt_lss_f (by omega)) ?_
  refine cnd_f1 ?_
  refine ob_i (op5.ldn rfl) ?_
  refine C.laws_szFlow hqc hqd (by omega) (by omega) (by omega) (by omega) (fun H13 le14 => ?_) (fun H13 le14 hz12 => ?_)
  · skip
    replace op1 := op1.le le14
    replace op5 := op5.le le14
    replace hpc := hpc.le le14
    replace hpd := hpd.le le14
    replace hqc := hqc.le le14
    replace hqd := hqd.le le14
    replace lE := lE.trans le14
    refine ob_i (vInt_lss_t (by omega)) ?_
    refine cnd_t1 ?_
    exact hk _ lE
  replace op1 := op1.le le14
  replace op5 := op5.le le14
  replace hpc := hpc.le le14
  replace hpd := hpd.le le14
  replace hqc := hqc.le le14
  replace hqd := hqd.le le14
  replace lE := lE.trans le14
  refine ob_i (vInt_lss_f (by omega)) ?_
  refine cnd_f1 ?_
  refine ob_i (op1.ldn rfl) ?_
  refine ob_i (op5.ldn rfl) ?_
  refine C.laws_toFlow hpc hpd (by omega) (by omega) (fun u15 u16 H17 ou15 ou16 nn19 nn20 au15Xu16 le18 => ?_)
  have ap1Xu15 : Apart p1 u15 := op1.apart nn19
  have ap5Xu15 : Apart p5 u15 := op5.apart nn19
  have nu15 : Nw H u15 := nn19.le lE
  have ap1Xu16 : Apart p1 u16 := op1.apart nn20
  have ap5Xu16 : Apart p5 u16 := op5.apart nn20
  have nu16 : Nw H u16 := nn20.le lE
  replace op1 := op1.le le18
  replace op5 := op5.le le18
  replace hpc := hpc.le le18
  replace hpd := hpd.le le18
  replace hqc := hqc.le le18
  replace hqd := hqd.le le18
  replace lE := lE.trans le18
  refine ⟨le18, ?_⟩
  refine C.laws_toFlow hqc hqd (by omega) (by omega) (fun u21 u22 H23 ou21 ou22 nn25 nn26 au21Xu22 le24 => ?_)
  have ap1Xu21 : Apart p1 u21 := op1.apart nn25
  have ap5Xu21 : Apart p5 u21 := op5.apart nn25
  have au15Xu21 : Apart u15 u21 := ou15.apart nn25
  have au16Xu21 : Apart u16 u21 := ou16.apart nn25
  have nu21 : Nw H u21 := nn25.le lE
  have ap1Xu22 : Apart p1 u22 := op1.apart nn26
  have ap5Xu22 : Apart p5 u22 := op5.apart nn26
  have au15Xu22 : Apart u15 u22 := ou15.apart nn26
  have au16Xu22 : Apart u16 u22 := ou16.apart nn26
  have nu22 : Nw H u22 := nn26.le lE
  replace op1 := op1.le le24
  replace op5 := op5.le le24
  replace ou15 := ou15.le le24
  replace ou16 := ou16.le le24
  replace hpc := hpc.le le24
  replace hpd := hpd.le le24
  replace hqc := hqc.le le24
  replace hqd := hqd.le le24
  replace lE := lE.trans le24
  refine ⟨le24, ?_⟩
  refine C.spec_SameFlow ou15.sl ou16.sl ou21.sl ou22.sl (by omega) (by omega) (by omega) (by omega) fspc fsqc (fun  H27    le28 => ?_)
  replace op1 := op1.le le28
  replace op5 := op5.le le28
  replace ou15 := ou15.le le28
  replace ou16 := ou16.le le28
  replace ou21 := ou21.le le28
  replace ou22 := ou22.le le28
  replace hpc := hpc.le le28
  replace hpd := hpd.le le28
  replace hqc := hqc.le le28
  replace hqd := hqd.le le28
  replace lE := lE.trans le28
  refine ⟨le28, ?_⟩
  refine ob_i (op1.ldn rfl) ?_
  refine C.laws_toFlow hpc hpd (by omega) (by omega) (fun u29 u30 H31 ou29 ou30 nn33 nn34 au29Xu30 le32 => ?_)
  have ap1Xu29 : Apart p1 u29 := op1.apart nn33
  have ap5Xu29 : Apart p5 u29 := op5.apart nn33
  have au15Xu29 : Apart u15 u29 := ou15.apart nn33
  have au16Xu29 : Apart u16 u29 := ou16.apart nn33
  have au21Xu29 : Apart u21 u29 := ou21.apart nn33
  have au22Xu29 : Apart u22 u29 := ou22.apart nn33
  have nu29 : Nw H u29 := nn33.le lE
  have ap1Xu30 : Apart p1 u30 := op1.apart nn34
  have ap5Xu30 : Apart p5 u30 := op5.apart nn34
  have au15Xu30 : Apart u15 u30 := ou15.apart nn34
  have au16Xu30 : Apart u16 u30 := ou16.apart nn34
  have au21Xu30 : Apart u21 u30 := ou21.apart nn34
  have au22Xu30 : Apart u22 u30 := ou22.apart nn34
  have nu30 : Nw H u30 := nn34.le lE
  replace op1 := op1.le le32
  replace op5 := op5.le le32
  replace ou15 := ou15.le le32
  replace ou16 := ou16.le le32
  replace ou21 := ou21.le le32
  replace ou22 := ou22.le le32
  replace hpc := hpc.le le32
  replace hpd := hpd.le le32
  replace hqc := hqc.le le32
  replace hqd := hqd.le le32
  replace lE := lE.trans le32
  refine nw_i (fun p35 H36 op35 nn37 le38 => ?_)
  have ap1Xp35 : Apart p1 p35 := op1.apart nn37
  have ap5Xp35 : Apart p5 p35 := op5.apart nn37
  have au15Xp35 : Apart u15 p35 := ou15.apart nn37
  have au16Xp35 : Apart u16 p35 := ou16.apart nn37
  have au21Xp35 : Apart u21 p35 := ou21.apart nn37
  have au22Xp35 : Apart u22 p35 := ou22.apart nn37
  have au29Xp35 : Apart u29 p35 := ou29.apart nn37
  have au30Xp35 : Apart u30 p35 := ou30.apart nn37
  have np35 : Nw H p35 := nn37.le lE
  replace op1 := op1.le le38
  replace op5 := op5.le le38
  replace ou15 := ou15.le le38
  replace ou16 := ou16.le le38
  replace ou21 := ou21.le le38
  replace ou22 := ou22.le le38
  replace ou29 := ou29.le le38
  replace ou30 := ou30.le le38
  replace hpc := hpc.le le38
  replace hpd := hpd.le le38
  replace hqc := hqc.le le38
  replace hqd := hqd.le le38
  replace lE := lE.trans le38
  replace op35 : Cel H36 p35 [(.int .i64 (0)), (.int .i64 (0)), (.slice none 0 0), (.slice none 0 0)] := op35
  refine op35.stn (ws := [(.int .i64 (pa)), (.int .i64 (pb)), u29, u30]) rfl rfl (oc1 rfl (oc1 rfl (oc1 ou29.one (oc1 ou30.one oc0)))) (fun H39 op35 off40 => ?_)
  replace op1 := op1.off off40 ap1Xp35
  replace op5 := op5.off off40 ap5Xp35
  replace ou15 := ou15.off off40 au15Xp35
  replace ou16 := ou16.off off40 au16Xp35
  replace ou21 := ou21.off off40 au21Xp35
  replace ou22 := ou22.off off40 au22Xp35
  replace ou29 := ou29.off off40 au29Xp35
  replace ou30 := ou30.off off40 au30Xp35
  replace hpc := hpc0.le (off40.le lE np35)
  replace hpd := hpd0.le (off40.le lE np35)
  replace hqc := hqc0.le (off40.le lE np35)
  replace hqd := hqd0.le (off40.le lE np35)
  replace lE := off40.le lE np35
  replace op35 : Cel H39 p35 [(.int .i64 (pa)), (.int .i64 (pb)), u29, u30] := op35
  refine ob_i (op5.ldn rfl) ?_
  refine C.laws_toFlow hqc hqd (by omega) (by omega) (fun u41 u42 H43 ou41 ou42 nn45 nn46 au41Xu42 le44 => ?_)
  have ap1Xu41 : Apart p1 u41 := op1.apart nn45
  have ap5Xu41 : Apart p5 u41 := op5.apart nn45
  have au15Xu41 : Apart u15 u41 := ou15.apart nn45
  have au16Xu41 : Apart u16 u41 := ou16.apart nn45
  have au21Xu41 : Apart u21 u41 := ou21.apart nn45
  have au22Xu41 : Apart u22 u41 := ou22.apart nn45
  have au29Xu41 : Apart u29 u41 := ou29.apart nn45
  have au30Xu41 : Apart u30 u41 := ou30.apart nn45
  have ap35Xu41 : Apart p35 u41 := op35.apart nn45
  have nu41 : Nw H u41 := nn45.le lE
  have ap1Xu42 : Apart p1 u42 := op1.apart nn46
  have ap5Xu42 : Apart p5 u42 := op5.apart nn46
  have au15Xu42 : Apart u15 u42 := ou15.apart nn46
  have au16Xu42 : Apart u16 u42 := ou16.apart nn46
  have au21Xu42 : Apart u21 u42 := ou21.apart nn46
  have au22Xu42 : Apart u22 u42 := ou22.apart nn46
  have au29Xu42 : Apart u29 u42 := ou29.apart nn46
  have au30Xu42 : Apart u30 u42 := ou30.apart nn46
  have ap35Xu42 : Apart p35 u42 := op35.apart nn46
  have nu42 : Nw H u42 := nn46.le lE
  replace op1 := op1.le le44
  replace op5 := op5.le le44
  replace ou15 := ou15.le le44
  replace ou16 := ou16.le le44
  replace ou21 := ou21.le le44
  replace ou22 := ou22.le le44
  replace ou29 := ou29.le le44
  replace ou30 := ou30.le le44
  replace op35 := op35.le le44
  replace hpc := hpc.le le44
  replace hpd := hpd.le le44
  replace hqc := hqc.le le44
  replace hqd := hqd.le le44
  replace lE := lE.trans le44
  refine nw_i (fun p47 H48 op47 nn49 le50 => ?_)
  have ap1Xp47 : Apart p1 p47 := op1.apart nn49
  have ap5Xp47 : Apart p5 p47 := op5.apart nn49
  have au15Xp47 : Apart u15 p47 := ou15.apart nn49
  have au16Xp47 : Apart u16 p47 := ou16.apart nn49
  have au21Xp47 : Apart u21 p47 := ou21.apart nn49
  have au22Xp47 : Apart u22 p47 := ou22.apart nn49
  have au29Xp47 : Apart u29 p47 := ou29.apart nn49
  have au30Xp47 : Apart u30 p47 := ou30.apart nn49
  have ap35Xp47 : Apart p35 p47 := op35.apart nn49
  have au41Xp47 : Apart u41 p47 := ou41.apart nn49
  have au42Xp47 : Apart u42 p47 := ou42.apart nn49
  have np47 : Nw H p47 := nn49.le lE
  replace op1 := op1.le le50
  replace op5 := op5.le le50
  replace ou15 := ou15.le le50
  replace ou16 := ou16.le le50
  replace ou21 := ou21.le le50
  replace ou22 := ou22.le le50
  replace ou29 := ou29.le le50
  replace ou30 := ou30.le le50
  replace op35 := op35.le le50
  replace ou41 := ou41.le le50
  replace ou42 := ou42.le le50
  replace hpc := hpc.le le50
  replace hpd := hpd.le le50
  replace hqc := hqc.le le50
  replace hqd := hqd.le le50
  replace lE := lE.trans le50
  replace op47 : Cel H48 p47 [(.int .i64 (0)), (.int .i64 (0)), (.slice none 0 0), (.slice none 0 0)] := op47
  refine op47.stn (ws := [(.int .i64 (qa)), (.int .i64 (qb)), u41, u42]) rfl rfl (oc1 rfl (oc1 rfl (oc1 ou41.one (oc1 ou42.one oc0)))) (fun H51 op47 off52 => ?_)
  replace op1 := op1.off off52 ap1Xp47
  replace op5 := op5.off off52 ap5Xp47
  replace ou15 := ou15.off off52 au15Xp47
  replace ou16 := ou16.off off52 au16Xp47
  replace ou21 := ou21.off off52 au21Xp47
  replace ou22 := ou22.off off52 au22Xp47
  replace ou29 := ou29.off off52 au29Xp47
  replace ou30 := ou30.off off52 au30Xp47
  replace op35 := op35.off off52 ap35Xp47
  replace ou41 := ou41.off off52 au41Xp47
  replace ou42 := ou42.off off52 au42Xp47
  replace hpc := hpc0.le (off52.le lE np47)
  replace hpd := hpd0.le (off52.le lE np47)
  replace hqc := hqc0.le (off52.le lE np47)
  replace hqd := hqd0.le (off52.le lE np47)
  replace lE := off52.le lE np47
  replace op47 : Cel H51 p47 [(.int .i64 (qa)), (.int .i64 (qb)), u41, u42] := op47
  refine ob_i (op35.ldn rfl) ?_
  refine ob_i (op47.ldn rfl) ?_
  refine C.impl_SameFlow ou29.sl ou30.sl ou41.sl ou42.sl (by omega) (by omega) (by omega) (by omega) fspc fsqc (fun  H53    le54 => ?_)
  replace op1 := op1.le le54
  replace op5 := op5.le le54
  replace ou15 := ou15.le le54
  replace ou16 := ou16.le le54
  replace ou21 := ou21.le le54
  replace ou22 := ou22.le le54
  replace ou29 := ou29.le le54
  replace ou30 := ou30.le le54
  replace op35 := op35.le le54
  replace ou41 := ou41.le le54
  replace ou42 := ou42.le le54
  replace op47 := op47.le le54
  replace hpc := hpc.le le54
  replace hpd := hpd.le le54
  replace hqc := hqc.le le54
  replace hqd := hqd.le le54
  replace lE := lE.trans le54
  refine ob_i (vBool_neq_same _) ?_
  refine cnd_f1 ?_
  refine ob_i (op35.ldn rfl) ?_
  refine ob_i (op1.ldn rfl) ?_
  refine C.laws_toFlow hpc hpd (by omega) (by omega) (fun u55 u56 H57 ou55 ou56 nn59 nn60 au55Xu56 le58 => ?_)
  have ap1Xu55 : Apart p1 u55 := op1.apart nn59
  have ap5Xu55 : Apart p5 u55 := op5.apart nn59
  have au15Xu55 : Apart u15 u55 := ou15.apart nn59
  have au16Xu55 : Apart u16 u55 := ou16.apart nn59
  have au21Xu55 : Apart u21 u55 := ou21.apart nn59
  have au22Xu55 : Apart u22 u55 := ou22.apart nn59
  have au29Xu55 : Apart u29 u55 := ou29.apart nn59
  have au30Xu55 : Apart u30 u55 := ou30.apart nn59
  have ap35Xu55 : Apart p35 u55 := op35.apart nn59
  have au41Xu55 : Apart u41 u55 := ou41.apart nn59
  have au42Xu55 : Apart u42 u55 := ou42.apart nn59
  have ap47Xu55 : Apart p47 u55 := op47.apart nn59
  have nu55 : Nw H u55 := nn59.le lE
  have ap1Xu56 : Apart p1 u56 := op1.apart nn60
  have ap5Xu56 : Apart p5 u56 := op5.apart nn60
  have au15Xu56 : Apart u15 u56 := ou15.apart nn60
  have au16Xu56 : Apart u16 u56 := ou16.apart nn60
  have au21Xu56 : Apart u21 u56 := ou21.apart nn60
  have au22Xu56 : Apart u22 u56 := ou22.apart nn60
  have au29Xu56 : Apart u29 u56 := ou29.apart nn60
  have au30Xu56 : Apart u30 u56 := ou30.apart nn60
  have ap35Xu56 : Apart p35 u56 := op35.apart nn60
  have au41Xu56 : Apart u41 u56 := ou41.apart nn60
  have au42Xu56 : Apart u42 u56 := ou42.apart nn60
  have ap47Xu56 : Apart p47 u56 := op47.apart nn60
  have nu56 : Nw H u56 := nn60.le lE
  replace op1 := op1.le le58
  replace op5 := op5.le le58
  replace ou15 := ou15.le le58
  replace ou16 := ou16.le le58
  replace ou21 := ou21.le le58
  replace ou22 := ou22.le le58
  replace ou29 := ou29.le le58
  replace ou30 := ou30.le le58
  replace op35 := op35.le le58
  replace ou41 := ou41.le le58
  replace ou42 := ou42.le le58
  replace op47 := op47.le le58
  replace hpc := hpc.le le58
  replace hpd := hpd.le le58
  replace hqc := hqc.le le58
  replace hqd := hqd.le le58
  replace lE := lE.trans le58
  refine ⟨le58, ?_⟩
  refine C.laws_eqFlow ou29.sl ou55.sl ou30.sl ou56.sl (by omega) (by omega) (fun H61 le62 => ?_)
  replace op1 := op1.le le62
  replace op5 := op5.le le62
  replace ou15 := ou15.le le62
  replace ou16 := ou16.le le62
  replace ou21 := ou21.le le62
  replace ou22 := ou22.le le62
  replace ou29 := ou29.le le62
  replace ou30 := ou30.le le62
  replace op35 := op35.le le62
  replace ou41 := ou41.le le62
  replace ou42 := ou42.le le62
  replace op47 := op47.le le62
  replace ou55 := ou55.le le62
  replace ou56 := ou56.le le62
  replace hpc := hpc.le le62
  replace hpd := hpd.le le62
  replace hqc := hqc.le le62
  replace hqd := hqd.le le62
  replace lE := lE.trans le62
  refine ⟨le62, ?_⟩
  refine ob_i (a := .bool false) rfl ?_
  refine cnd_f1 ?_
  refine ob_i (op47.ldn rfl) ?_
  refine ob_i (op5.ldn rfl) ?_
  refine C.laws_toFlow hqc hqd (by omega) (by omega) (fun u63 u64 H65 ou63 ou64 nn67 nn68 au63Xu64 le66 => ?_)
  have ap1Xu63 : Apart p1 u63 := op1.apart nn67
  have ap5Xu63 : Apart p5 u63 := op5.apart nn67
  have au15Xu63 : Apart u15 u63 := ou15.apart nn67
  have au16Xu63 : Apart u16 u63 := ou16.apart nn67
  have au21Xu63 : Apart u21 u63 := ou21.apart nn67
  have au22Xu63 : Apart u22 u63 := ou22.apart nn67
  have au29Xu63 : Apart u29 u63 := ou29.apart nn67
  have au30Xu63 : Apart u30 u63 := ou30.apart nn67
  have ap35Xu63 : Apart p35 u63 := op35.apart nn67
  have au41Xu63 : Apart u41 u63 := ou41.apart nn67
  have au42Xu63 : Apart u42 u63 := ou42.apart nn67
  have ap47Xu63 : Apart p47 u63 := op47.apart nn67
  have au55Xu63 : Apart u55 u63 := ou55.apart nn67
  have au56Xu63 : Apart u56 u63 := ou56.apart nn67
  have nu63 : Nw H u63 := nn67.le lE
  have ap1Xu64 : Apart p1 u64 := op1.apart nn68
  have ap5Xu64 : Apart p5 u64 := op5.apart nn68
  have au15Xu64 : Apart u15 u64 := ou15.apart nn68
  have au16Xu64 : Apart u16 u64 := ou16.apart nn68
  have au21Xu64 : Apart u21 u64 := ou21.apart nn68
  have au22Xu64 : Apart u22 u64 := ou22.apart nn68
  have au29Xu64 : Apart u29 u64 := ou29.apart nn68
  have au30Xu64 : Apart u30 u64 := ou30.apart nn68
  have ap35Xu64 : Apart p35 u64 := op35.apart nn68
  have au41Xu64 : Apart u41 u64 := ou41.apart nn68
  have au42Xu64 : Apart u42 u64 := ou42.apart nn68
  have ap47Xu64 : Apart p47 u64 := op47.apart nn68
  have au55Xu64 : Apart u55 u64 := ou55.apart nn68
  have au56Xu64 : Apart u56 u64 := ou56.apart nn68
  have nu64 : Nw H u64 := nn68.le lE
  replace op1 := op1.le le66
  replace op5 := op5.le le66
  replace ou15 := ou15.le le66
  replace ou16 := ou16.le le66
  replace ou21 := ou21.le le66
  replace ou22 := ou22.le le66
  replace ou29 := ou29.le le66
  replace ou30 := ou30.le le66
  replace op35 := op35.le le66
  replace ou41 := ou41.le le66
  replace ou42 := ou42.le le66
  replace op47 := op47.le le66
  replace ou55 := ou55.le le66
  replace ou56 := ou56.le le66
  replace hpc := hpc.le le66
  replace hpd := hpd.le le66
  replace hqc := hqc.le le66
  replace hqd := hqd.le le66
  replace lE := lE.trans le66
  refine ⟨le66, ?_⟩
  refine C.laws_eqFlow ou41.sl ou63.sl ou42.sl ou64.sl (by omega) (by omega) (fun H69 le70 => ?_)
  replace op1 := op1.le le70
  replace op5 := op5.le le70
  replace ou15 := ou15.le le70
  replace ou16 := ou16.le le70
  replace ou21 := ou21.le le70
  replace ou22 := ou22.le le70
  replace ou29 := ou29.le le70
  replace ou30 := ou30.le le70
  replace op35 := op35.le le70
  replace ou41 := ou41.le le70
  replace ou42 := ou42.le le70
  replace op47 := op47.le le70
  replace ou55 := ou55.le le70
  replace ou56 := ou56.le le70
  replace ou63 := ou63.le le70
  replace ou64 := ou64.le le70
  replace hpc := hpc.le le70
  replace hpd := hpd.le le70
  replace hqc := hqc.le le70
  replace hqd := hqd.le le70
  replace lE := lE.trans le70
  refine ⟨le70, ?_⟩
  refine ob_i (a := .bool false) rfl ?_
  refine cnd_f1 ?_
  exact hk _ lE
end Go.Proofs.Ytcjamajenfgddaa
