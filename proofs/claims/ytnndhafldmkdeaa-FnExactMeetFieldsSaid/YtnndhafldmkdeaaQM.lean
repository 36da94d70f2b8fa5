/- Laws, each by its two sides: its function returns true, and what was known before stays. -/
import Derived.Test.YtnndhafldmkdeaaTF
import Derived.Test.YtnndhafldmkdeaaQH
import Derived.Test.YtnndhafldmkdeaaSE
namespace Go.Proofs.Ytnndhafldmkdeaa
open HL
set_option maxRecDepth 100000
theorem L.FnExactMeetFields {pa : Int} {pb : Int} {pc : Value} {spc : List Int} {qa : Int} {qb : Int} {qc : Value} {sqc : List Int} {r : Int} {s : Int} {H : Hp} {K : Value → Hp → Prop} (hpc0 : Sl eI H pc spc) (hqc0 : Sl eI H qc sqc) (wr0 : -9223372036854775808 ≤ r) (wr1 : r < 9223372036854775808) (ws0 : -9223372036854775808 ≤ s) (ws1 : s < 9223372036854775808) (mspc : (spc).length ≤ 9223372036854775807) (msqc : (sqc).length ≤ 9223372036854775807) (hk : ∀ H', Le H H' → K (.bool true) H') :
    HT prg I.laws_FnExactMeetFields [(.agg #[(.int .i64 (pa)), (.int .i64 (pb)), pc]), (.agg #[(.int .i64 (qa)), (.int .i64 (qb)), qc]), (.int .i64 (r)), (.int .i64 (s))].toArray H K := by
  have hR := @metL_len pa pb spc qa qb sqc r s
  have lE := Le.refl H
  have hpc := hpc0
  have hqc := hqc0
  refine R.laws_FnExactMeetFields ?_
  unfold F.laws_FnExactMeetFields
  refine nw_i (fun p1 H2 op1 nn3 le4 => ?_)
  have np1 : Nw H p1 := nn3.le lE
  replace hpc := hpc.le le4
  replace hqc := hqc.le le4
  replace lE := lE.trans le4
  replace op1 : Cel H2 p1 [(.int .i64 (pa)), (.int .i64 (pb)), pc] := op1
  refine nw_i (fun p5 H6 op5 nn7 le8 => ?_)
  have ap1Xp5 : Apart p1 p5 := op1.apart nn7
  have np5 : Nw H p5 := nn7.le lE
  replace op1 := op1.le le8
  replace hpc := hpc.le le8
  replace hqc := hqc.le le8
  replace lE := lE.trans le8
  replace op5 : Cel H6 p5 [(.int .i64 (qa)), (.int .i64 (qb)), qc] := op5
  refine ob_i (op1.ldn rfl) ?_
  refine C.laws_szField hpc (by omega) (by omega) (by omega) (fun H10 le11 => ?_) (fun H10 le11 hz9 => ?_)
  · skip
    replace op1 := op1.le le11
    replace op5 := op5.le le11
    replace hpc := hpc.le le11
    replace hqc := hqc.le le11
    replace lE := lE.trans le11
    refine ob_i (vInt_lss_t (by omega)) ?_
    refine cnd_t1 ?_
    exact hk _ lE
  replace op1 := op1.le le11
  replace op5 := op5.le le11
  replace hpc := hpc.le le11
  replace hqc := hqc.le le11
  replace lE := lE.trans le11
  refine ob_i (vInt_lss_f (by omega)) ?_
  refine cnd_f1 ?_
  refine ob_i (op5.ldn rfl) ?_
  refine C.laws_szField hqc (by omega) (by omega) (by omega) (fun H13 le14 => ?_) (fun H13 le14 hz12 => ?_)
  · skip
    replace op1 := op1.le le14
    replace op5 := op5.le le14
    replace hpc := hpc.le le14
    replace hqc := hqc.le le14
    replace lE := lE.trans le14
    refine ob_i (vInt_lss_t (by omega)) ?_
    refine cnd_t1 ?_
    exact hk _ lE
  replace op1 := op1.le le14
  replace op5 := op5.le le14
  replace hpc := hpc.le le14
  replace hqc := hqc.le le14
  replace lE := lE.trans le14
  refine ob_i (vInt_lss_f (by omega)) ?_
  refine cnd_f1 ?_
  refine ob_i (op1.ldn rfl) ?_
  refine ob_i (op5.ldn rfl) ?_
  refine C.laws_toField hpc (by omega) (fun u15 H16 ou15 nn18  le17 => ?_)
  have ap1Xu15 : Apart p1 u15 := op1.apart nn18
  have ap5Xu15 : Apart p5 u15 := op5.apart nn18
  have nu15 : Nw H u15 := nn18.le lE
  replace op1 := op1.le le17
  replace op5 := op5.le le17
  replace hpc := hpc.le le17
  replace hqc := hqc.le le17
  replace lE := lE.trans le17
  refine ⟨le17, ?_⟩
  refine C.laws_toField hqc (by omega) (fun u19 H20 ou19 nn22  le21 => ?_)
  have ap1Xu19 : Apart p1 u19 := op1.apart nn22
  have ap5Xu19 : Apart p5 u19 := op5.apart nn22
  have au15Xu19 : Apart u15 u19 := ou15.apart nn22
  have nu19 : Nw H u19 := nn22.le lE
  replace op1 := op1.le le21
  replace op5 := op5.le le21
  replace ou15 := ou15.le le21
  replace hpc := hpc.le le21
  replace hqc := hqc.le le21
  replace lE := lE.trans le21
  refine ⟨le21, ?_⟩
  refine C.spec_MeetFields ou15.sl ou19.sl (by omega) (by omega)  (fun g25 H23 og25 nn26  le24 => ?_)
  have ap1Xg25 : Apart p1 g25 := op1.apart nn26
  have ap5Xg25 : Apart p5 g25 := op5.apart nn26
  have au15Xg25 : Apart u15 g25 := ou15.apart nn26
  have au19Xg25 : Apart u19 g25 := ou19.apart nn26
  have ng25 : Nw H g25 := nn26.le lE
  replace op1 := op1.le le24
  replace op5 := op5.le le24
  replace ou15 := ou15.le le24
  replace ou19 := ou19.le le24
  replace hpc := hpc.le le24
  replace hqc := hqc.le le24
  replace lE := lE.trans le24
  refine ⟨le24, ?_⟩
  refine ob_i (vExt_20 _ _) ?_
  refine ob_i (vExt_21 _ _) ?_
  refine nw_i (fun p27 H28 op27 nn29 le30 => ?_)
  have ap1Xp27 : Apart p1 p27 := op1.apart nn29
  have ap5Xp27 : Apart p5 p27 := op5.apart nn29
  have au15Xp27 : Apart u15 p27 := ou15.apart nn29
  have au19Xp27 : Apart u19 p27 := ou19.apart nn29
  have ag25Xp27 : Apart g25 p27 := og25.apart nn29
  have np27 : Nw H p27 := nn29.le lE
  replace op1 := op1.le le30
  replace op5 := op5.le le30
  replace ou15 := ou15.le le30
  replace ou19 := ou19.le le30
  replace og25 := og25.le le30
  replace hpc := hpc.le le30
  replace hqc := hqc.le le30
  replace lE := lE.trans le30
  replace op27 : Cel H28 p27 [(.int .i64 (0)), (.int .i64 (0)), (.slice none 0 0)] := op27
  refine op27.stn (ws := [(.int .i64 (metI (max pa (r + qa)) pa pb spc qa qb sqc r s)), (.int .i64 (metI (max pb (s + qb)) pa pb spc qa qb sqc r s)), g25]) rfl rfl (oc1 rfl (oc1 rfl (oc1 og25.one oc0))) (fun H31 op27 off32 => ?_)
  replace op1 := op1.off off32 ap1Xp27
  replace op5 := op5.off off32 ap5Xp27
  replace ou15 := ou15.off off32 au15Xp27
  replace ou19 := ou19.off off32 au19Xp27
  replace og25 := og25.off off32 ag25Xp27
  replace hpc := hpc0.le (off32.le lE np27)
  replace hqc := hqc0.le (off32.le lE np27)
  replace lE := off32.le lE np27
  replace op27 : Cel H31 p27 [(.int .i64 (metI (max pa (r + qa)) pa pb spc qa qb sqc r s)), (.int .i64 (metI (max pb (s + qb)) pa pb spc qa qb sqc r s)), g25] := op27
  refine ob_i (op1.ldn rfl) ?_
  refine C.laws_toField hpc (by omega) (fun u33 H34 ou33 nn36  le35 => ?_)
  have ap1Xu33 : Apart p1 u33 := op1.apart nn36
  have ap5Xu33 : Apart p5 u33 := op5.apart nn36
  have au15Xu33 : Apart u15 u33 := ou15.apart nn36
  have au19Xu33 : Apart u19 u33 := ou19.apart nn36
  have ag25Xu33 : Apart g25 u33 := og25.apart nn36
  have ap27Xu33 : Apart p27 u33 := op27.apart nn36
  have nu33 : Nw H u33 := nn36.le lE
  replace op1 := op1.le le35
  replace op5 := op5.le le35
  replace ou15 := ou15.le le35
  replace ou19 := ou19.le le35
  replace og25 := og25.le le35
  replace op27 := op27.le le35
  replace hpc := hpc.le le35
  replace hqc := hqc.le le35
  replace lE := lE.trans le35
  refine nw_i (fun p37 H38 op37 nn39 le40 => ?_)
  have ap1Xp37 : Apart p1 p37 := op1.apart nn39
  have ap5Xp37 : Apart p5 p37 := op5.apart nn39
  have au15Xp37 : Apart u15 p37 := ou15.apart nn39
  have au19Xp37 : Apart u19 p37 := ou19.apart nn39
  have ag25Xp37 : Apart g25 p37 := og25.apart nn39
  have ap27Xp37 : Apart p27 p37 := op27.apart nn39
  have au33Xp37 : Apart u33 p37 := ou33.apart nn39
  have np37 : Nw H p37 := nn39.le lE
  replace op1 := op1.le le40
  replace op5 := op5.le le40
  replace ou15 := ou15.le le40
  replace ou19 := ou19.le le40
  replace og25 := og25.le le40
  replace op27 := op27.le le40
  replace ou33 := ou33.le le40
  replace hpc := hpc.le le40
  replace hqc := hqc.le le40
  replace lE := lE.trans le40
  replace op37 : Cel H38 p37 [(.int .i64 (0)), (.int .i64 (0)), (.slice none 0 0)] := op37
  refine op37.stn (ws := [(.int .i64 (pa)), (.int .i64 (pb)), u33]) rfl rfl (oc1 rfl (oc1 rfl (oc1 ou33.one oc0))) (fun H41 op37 off42 => ?_)
  replace op1 := op1.off off42 ap1Xp37
  replace op5 := op5.off off42 ap5Xp37
  replace ou15 := ou15.off off42 au15Xp37
  replace ou19 := ou19.off off42 au19Xp37
  replace og25 := og25.off off42 ag25Xp37
  replace op27 := op27.off off42 ap27Xp37
  replace ou33 := ou33.off off42 au33Xp37
  replace hpc := hpc0.le (off42.le lE np37)
  replace hqc := hqc0.le (off42.le lE np37)
  replace lE := off42.le lE np37
  replace op37 : Cel H41 p37 [(.int .i64 (pa)), (.int .i64 (pb)), u33] := op37
  refine ob_i (op5.ldn rfl) ?_
  refine C.laws_toField hqc (by omega) (fun u43 H44 ou43 nn46  le45 => ?_)
  have ap1Xu43 : Apart p1 u43 := op1.apart nn46
  have ap5Xu43 : Apart p5 u43 := op5.apart nn46
  have au15Xu43 : Apart u15 u43 := ou15.apart nn46
  have au19Xu43 : Apart u19 u43 := ou19.apart nn46
  have ag25Xu43 : Apart g25 u43 := og25.apart nn46
  have ap27Xu43 : Apart p27 u43 := op27.apart nn46
  have au33Xu43 : Apart u33 u43 := ou33.apart nn46
  have ap37Xu43 : Apart p37 u43 := op37.apart nn46
  have nu43 : Nw H u43 := nn46.le lE
  replace op1 := op1.le le45
  replace op5 := op5.le le45
  replace ou15 := ou15.le le45
  replace ou19 := ou19.le le45
  replace og25 := og25.le le45
  replace op27 := op27.le le45
  replace ou33 := ou33.le le45
  replace op37 := op37.le le45
  replace hpc := hpc.le le45
  replace hqc := hqc.le le45
  replace lE := lE.trans le45
  refine nw_i (fun p47 H48 op47 nn49 le50 => ?_)
  have ap1Xp47 : Apart p1 p47 := op1.apart nn49
  have ap5Xp47 : Apart p5 p47 := op5.apart nn49
  have au15Xp47 : Apart u15 p47 := ou15.apart nn49
  have au19Xp47 : Apart u19 p47 := ou19.apart nn49
  have ag25Xp47 : Apart g25 p47 := og25.apart nn49
  have ap27Xp47 : Apart p27 p47 := op27.apart nn49
  have au33Xp47 : Apart u33 p47 := ou33.apart nn49
  have ap37Xp47 : Apart p37 p47 := op37.apart nn49
  have au43Xp47 : Apart u43 p47 := ou43.apart nn49
  have np47 : Nw H p47 := nn49.le lE
  replace op1 := op1.le le50
  replace op5 := op5.le le50
  replace ou15 := ou15.le le50
  replace ou19 := ou19.le le50
  replace og25 := og25.le le50
  replace op27 := op27.le le50
  replace ou33 := ou33.le le50
  replace op37 := op37.le le50
  replace ou43 := ou43.le le50
  replace hpc := hpc.le le50
  replace hqc := hqc.le le50
  replace lE := lE.trans le50
  replace op47 : Cel H48 p47 [(.int .i64 (0)), (.int .i64 (0)), (.slice none 0 0)] := op47
  refine op47.stn (ws := [(.int .i64 (qa)), (.int .i64 (qb)), u43]) rfl rfl (oc1 rfl (oc1 rfl (oc1 ou43.one oc0))) (fun H51 op47 off52 => ?_)
  replace op1 := op1.off off52 ap1Xp47
  replace op5 := op5.off off52 ap5Xp47
  replace ou15 := ou15.off off52 au15Xp47
  replace ou19 := ou19.off off52 au19Xp47
  replace og25 := og25.off off52 ag25Xp47
  replace op27 := op27.off off52 ap27Xp47
  replace ou33 := ou33.off off52 au33Xp47
  replace op37 := op37.off off52 ap37Xp47
  replace ou43 := ou43.off off52 au43Xp47
  replace hpc := hpc0.le (off52.le lE np47)
  replace hqc := hqc0.le (off52.le lE np47)
  replace lE := off52.le lE np47
  replace op47 : Cel H51 p47 [(.int .i64 (qa)), (.int .i64 (qb)), u43] := op47
  refine ob_i (op37.ldn rfl) ?_
  refine ob_i (op47.ldn rfl) ?_
  refine C.impl_MeetFields ou33.sl ou43.sl (by omega) (by omega)  (fun g55 H53 og55 nn56  le54 => ?_)
  have ap1Xg55 : Apart p1 g55 := op1.apart nn56
  have ap5Xg55 : Apart p5 g55 := op5.apart nn56
  have au15Xg55 : Apart u15 g55 := ou15.apart nn56
  have au19Xg55 : Apart u19 g55 := ou19.apart nn56
  have ag25Xg55 : Apart g25 g55 := og25.apart nn56
  have ap27Xg55 : Apart p27 g55 := op27.apart nn56
  have au33Xg55 : Apart u33 g55 := ou33.apart nn56
  have ap37Xg55 : Apart p37 g55 := op37.apart nn56
  have au43Xg55 : Apart u43 g55 := ou43.apart nn56
  have ap47Xg55 : Apart p47 g55 := op47.apart nn56
  have ng55 : Nw H g55 := nn56.le lE
  replace op1 := op1.le le54
  replace op5 := op5.le le54
  replace ou15 := ou15.le le54
  replace ou19 := ou19.le le54
  replace og25 := og25.le le54
  replace op27 := op27.le le54
  replace ou33 := ou33.le le54
  replace op37 := op37.le le54
  replace ou43 := ou43.le le54
  replace op47 := op47.le le54
  replace hpc := hpc.le le54
  replace hqc := hqc.le le54
  replace lE := lE.trans le54
  refine ob_i (vExt_20 _ _) ?_
  refine ob_i (vExt_21 _ _) ?_
  refine nw_i (fun p57 H58 op57 nn59 le60 => ?_)
  have ap1Xp57 : Apart p1 p57 := op1.apart nn59
  have ap5Xp57 : Apart p5 p57 := op5.apart nn59
  have au15Xp57 : Apart u15 p57 := ou15.apart nn59
  have au19Xp57 : Apart u19 p57 := ou19.apart nn59
  have ag25Xp57 : Apart g25 p57 := og25.apart nn59
  have ap27Xp57 : Apart p27 p57 := op27.apart nn59
  have au33Xp57 : Apart u33 p57 := ou33.apart nn59
  have ap37Xp57 : Apart p37 p57 := op37.apart nn59
  have au43Xp57 : Apart u43 p57 := ou43.apart nn59
  have ap47Xp57 : Apart p47 p57 := op47.apart nn59
  have ag55Xp57 : Apart g55 p57 := og55.apart nn59
  have np57 : Nw H p57 := nn59.le lE
  replace op1 := op1.le le60
  replace op5 := op5.le le60
  replace ou15 := ou15.le le60
  replace ou19 := ou19.le le60
  replace og25 := og25.le le60
  replace op27 := op27.le le60
  replace ou33 := ou33.le le60
  replace op37 := op37.le le60
  replace ou43 := ou43.le le60
  replace op47 := op47.le le60
  replace og55 := og55.le le60
  replace hpc := hpc.le le60
  replace hqc := hqc.le le60
  replace lE := lE.trans le60
  replace op57 : Cel H58 p57 [(.int .i64 (0)), (.int .i64 (0)), (.slice none 0 0)] := op57
  refine op57.stn (ws := [(.int .i64 (metI (max pa (r + qa)) pa pb spc qa qb sqc r s)), (.int .i64 (metI (max pb (s + qb)) pa pb spc qa qb sqc r s)), g55]) rfl rfl (oc1 rfl (oc1 rfl (oc1 og55.one oc0))) (fun H61 op57 off62 => ?_)
  replace op1 := op1.off off62 ap1Xp57
  replace op5 := op5.off off62 ap5Xp57
  replace ou15 := ou15.off off62 au15Xp57
  replace ou19 := ou19.off off62 au19Xp57
  replace og25 := og25.off off62 ag25Xp57
  replace op27 := op27.off off62 ap27Xp57
  replace ou33 := ou33.off off62 au33Xp57
  replace op37 := op37.off off62 ap37Xp57
  replace ou43 := ou43.off off62 au43Xp57
  replace op47 := op47.off off62 ap47Xp57
  replace og55 := og55.off off62 ag55Xp57
  replace hpc := hpc0.le (off62.le lE np57)
  replace hqc := hqc0.le (off62.le lE np57)
  replace lE := off62.le lE np57
  replace op57 : Cel H61 p57 [(.int .i64 (metI (max pa (r + qa)) pa pb spc qa qb sqc r s)), (.int .i64 (metI (max pb (s + qb)) pa pb spc qa qb sqc r s)), g55] := op57
  refine ob_i (op57.ldn rfl) ?_
  refine ob_i (op27.ldn rfl) ?_
  refine C.laws_eqField og55.sl og25.sl (by omega) (fun H63 le64 => ?_)
  replace op1 := op1.le le64
  replace op5 := op5.le le64
  replace ou15 := ou15.le le64
  replace ou19 := ou19.le le64
  replace og25 := og25.le le64
  replace op27 := op27.le le64
  replace ou33 := ou33.le le64
  replace op37 := op37.le le64
  replace ou43 := ou43.le le64
  replace op47 := op47.le le64
  replace og55 := og55.le le64
  replace op57 := op57.le le64
  replace hpc := hpc.le le64
  replace hqc := hqc.le le64
  replace lE := lE.trans le64
  refine ob_i (a := .bool false) rfl ?_
  refine gop_rf ?_
  refine gop_rf ?_
  refine gop_rf ?_
  refine ob_i (vBool_neq_same _) ?_
  refine ob_i (vPick_f _ _) ?_
  refine cnd_f1 ?_
  refine ob_i (op37.ldn rfl) ?_
  refine ob_i (op1.ldn rfl) ?_
  refine C.laws_toField hpc (by omega) (fun u65 H66 ou65 nn68  le67 => ?_)
  have ap1Xu65 : Apart p1 u65 := op1.apart nn68
  have ap5Xu65 : Apart p5 u65 := op5.apart nn68
  have au15Xu65 : Apart u15 u65 := ou15.apart nn68
  have au19Xu65 : Apart u19 u65 := ou19.apart nn68
  have ag25Xu65 : Apart g25 u65 := og25.apart nn68
  have ap27Xu65 : Apart p27 u65 := op27.apart nn68
  have au33Xu65 : Apart u33 u65 := ou33.apart nn68
  have ap37Xu65 : Apart p37 u65 := op37.apart nn68
  have au43Xu65 : Apart u43 u65 := ou43.apart nn68
  have ap47Xu65 : Apart p47 u65 := op47.apart nn68
  have ag55Xu65 : Apart g55 u65 := og55.apart nn68
  have ap57Xu65 : Apart p57 u65 := op57.apart nn68
  have nu65 : Nw H u65 := nn68.le lE
  replace op1 := op1.le le67
  replace op5 := op5.le le67
  replace ou15 := ou15.le le67
  replace ou19 := ou19.le le67
  replace og25 := og25.le le67
  replace op27 := op27.le le67
  replace ou33 := ou33.le le67
  replace op37 := op37.le le67
  replace ou43 := ou43.le le67
  replace op47 := op47.le le67
  replace og55 := og55.le le67
  replace op57 := op57.le le67
  replace hpc := hpc.le le67
  replace hqc := hqc.le le67
  replace lE := lE.trans le67
  refine ⟨le67, ?_⟩
  refine C.laws_eqField ou33.sl ou65.sl (by omega) (fun H69 le70 => ?_)
  replace op1 := op1.le le70
  replace op5 := op5.le le70
  replace ou15 := ou15.le le70
  replace ou19 := ou19.le le70
  replace og25 := og25.le le70
  replace op27 := op27.le le70
  replace ou33 := ou33.le le70
  replace op37 := op37.le le70
  replace ou43 := ou43.le le70
  replace op47 := op47.le le70
  replace og55 := og55.le le70
  replace op57 := op57.le le70
  replace ou65 := ou65.le le70
  replace hpc := hpc.le le70
  replace hqc := hqc.le le70
  replace lE := lE.trans le70
  refine ⟨le70, ?_⟩
  refine ob_i (a := .bool false) rfl ?_
  refine cnd_f1 ?_
  refine ob_i (op47.ldn rfl) ?_
  refine ob_i (op5.ldn rfl) ?_
  refine C.laws_toField hqc (by omega) (fun u71 H72 ou71 nn74  le73 => ?_)
  have ap1Xu71 : Apart p1 u71 := op1.apart nn74
  have ap5Xu71 : Apart p5 u71 := op5.apart nn74
  have au15Xu71 : Apart u15 u71 := ou15.apart nn74
  have au19Xu71 : Apart u19 u71 := ou19.apart nn74
  have ag25Xu71 : Apart g25 u71 := og25.apart nn74
  have ap27Xu71 : Apart p27 u71 := op27.apart nn74
  have au33Xu71 : Apart u33 u71 := ou33.apart nn74
  have ap37Xu71 : Apart p37 u71 := op37.apart nn74
  have au43Xu71 : Apart u43 u71 := ou43.apart nn74
  have ap47Xu71 : Apart p47 u71 := op47.apart nn74
  have ag55Xu71 : Apart g55 u71 := og55.apart nn74
  have ap57Xu71 : Apart p57 u71 := op57.apart nn74
  have au65Xu71 : Apart u65 u71 := ou65.apart nn74
  have nu71 : Nw H u71 := nn74.le lE
  replace op1 := op1.le le73
  replace op5 := op5.le le73
  replace ou15 := ou15.le le73
  replace ou19 := ou19.le le73
  replace og25 := og25.le le73
  replace op27 := op27.le le73
  replace ou33 := ou33.le le73
  replace op37 := op37.le le73
  replace ou43 := ou43.le le73
  replace op47 := op47.le le73
  replace og55 := og55.le le73
  replace op57 := op57.le le73
  replace ou65 := ou65.le le73
  replace hpc := hpc.le le73
  replace hqc := hqc.le le73
  replace lE := lE.trans le73
  refine ⟨le73, ?_⟩
  refine C.laws_eqField ou43.sl ou71.sl (by omega) (fun H75 le76 => ?_)
  replace op1 := op1.le le76
  replace op5 := op5.le le76
  replace ou15 := ou15.le le76
  replace ou19 := ou19.le le76
  replace og25 := og25.le le76
  replace op27 := op27.le le76
  replace ou33 := ou33.le le76
  replace op37 := op37.le le76
  replace ou43 := ou43.le le76
  replace op47 := op47.le le76
  replace og55 := og55.le le76
  replace op57 := op57.le le76
  replace ou65 := ou65.le le76
  replace ou71 := ou71.le le76
  replace hpc := hpc.le le76
  replace hqc := hqc.le le76
  replace lE := lE.trans le76
  refine ⟨le76, ?_⟩
  refine ob_i (a := .bool false) rfl ?_
  refine cnd_f1 ?_
  refine ob_i (op37.ldn rfl) ?_
  refine R.laws_markField ?_
  unfold F.laws_markField
  refine nw_i (fun p77 H78 op77 nn79 le80 => ?_)
  have ap1Xp77 : Apart p1 p77 := op1.apart nn79
  have ap5Xp77 : Apart p5 p77 := op5.apart nn79
  have au15Xp77 : Apart u15 p77 := ou15.apart nn79
  have au19Xp77 : Apart u19 p77 := ou19.apart nn79
  have ag25Xp77 : Apart g25 p77 := og25.apart nn79
  have ap27Xp77 : Apart p27 p77 := op27.apart nn79
  have au33Xp77 : Apart u33 p77 := ou33.apart nn79
  have ap37Xp77 : Apart p37 p77 := op37.apart nn79
  have au43Xp77 : Apart u43 p77 := ou43.apart nn79
  have ap47Xp77 : Apart p47 p77 := op47.apart nn79
  have ag55Xp77 : Apart g55 p77 := og55.apart nn79
  have ap57Xp77 : Apart p57 p77 := op57.apart nn79
  have au65Xp77 : Apart u65 p77 := ou65.apart nn79
  have au71Xp77 : Apart u71 p77 := ou71.apart nn79
  have np77 : Nw H p77 := nn79.le lE
  replace op1 := op1.le le80
  replace op5 := op5.le le80
  replace ou15 := ou15.le le80
  replace ou19 := ou19.le le80
  replace og25 := og25.le le80
  replace op27 := op27.le le80
  replace ou33 := ou33.le le80
  replace op37 := op37.le le80
  replace ou43 := ou43.le le80
  replace op47 := op47.le le80
  replace og55 := og55.le le80
  replace op57 := op57.le le80
  replace ou65 := ou65.le le80
  replace ou71 := ou71.le le80
  replace hpc := hpc.le le80
  replace hqc := hqc.le le80
  replace lE := lE.trans le80
  replace op77 : Cel H78 p77 [(.int .i64 (pa)), (.int .i64 (pb)), u33] := op77
  refine ob_i (op77.fa 2) ?_
  refine ob_i (op77.ld 2 rfl) ?_
  refine C.laws_markInt64S ou33 (by omega) (by omega) (by omega) (fun H81 ou33 off82 => ?_)
  replace op1 := op1.off off82 ap1Xu33
  replace op5 := op5.off off82 ap5Xu33
  replace ou15 := ou15.off off82 au15Xu33
  replace ou19 := ou19.off off82 au19Xu33
  replace og25 := og25.off off82 ag25Xu33
  replace op27 := op27.off off82 ap27Xu33
  replace op37 := op37.off off82 au33Xp37.symm
  replace ou43 := ou43.off off82 au33Xu43.symm
  replace op47 := op47.off off82 au33Xp47.symm
  replace og55 := og55.off off82 au33Xg55.symm
  replace op57 := op57.off off82 au33Xp57.symm
  replace ou65 := ou65.off off82 au33Xu65.symm
  replace ou71 := ou71.off off82 au33Xu71.symm
  replace op77 := op77.off off82 au33Xp77.symm
  replace hpc := hpc0.le (off82.le lE nu33)
  replace hqc := hqc0.le (off82.le lE nu33)
  replace lE := off82.le lE nu33
  refine ob_i (op47.ldn rfl) ?_
  refine R.laws_markField ?_
  unfold F.laws_markField
  refine nw_i (fun p83 H84 op83 nn85 le86 => ?_)
  have ap1Xp83 : Apart p1 p83 := op1.apart nn85
  have ap5Xp83 : Apart p5 p83 := op5.apart nn85
  have au15Xp83 : Apart u15 p83 := ou15.apart nn85
  have au19Xp83 : Apart u19 p83 := ou19.apart nn85
  have ag25Xp83 : Apart g25 p83 := og25.apart nn85
  have ap27Xp83 : Apart p27 p83 := op27.apart nn85
  have au33Xp83 : Apart u33 p83 := ou33.apart nn85
  have ap37Xp83 : Apart p37 p83 := op37.apart nn85
  have au43Xp83 : Apart u43 p83 := ou43.apart nn85
  have ap47Xp83 : Apart p47 p83 := op47.apart nn85
  have ag55Xp83 : Apart g55 p83 := og55.apart nn85
  have ap57Xp83 : Apart p57 p83 := op57.apart nn85
  have au65Xp83 : Apart u65 p83 := ou65.apart nn85
  have au71Xp83 : Apart u71 p83 := ou71.apart nn85
  have ap77Xp83 : Apart p77 p83 := op77.apart nn85
  have np83 : Nw H p83 := nn85.le lE
  replace op1 := op1.le le86
  replace op5 := op5.le le86
  replace ou15 := ou15.le le86
  replace ou19 := ou19.le le86
  replace og25 := og25.le le86
  replace op27 := op27.le le86
  replace ou33 := ou33.le le86
  replace op37 := op37.le le86
  replace ou43 := ou43.le le86
  replace op47 := op47.le le86
  replace og55 := og55.le le86
  replace op57 := op57.le le86
  replace ou65 := ou65.le le86
  replace ou71 := ou71.le le86
  replace op77 := op77.le le86
  replace hpc := hpc.le le86
  replace hqc := hqc.le le86
  replace lE := lE.trans le86
  replace op83 : Cel H84 p83 [(.int .i64 (qa)), (.int .i64 (qb)), u43] := op83
  refine ob_i (op83.fa 2) ?_
  refine ob_i (op83.ld 2 rfl) ?_
  refine C.laws_markInt64S ou43 (by omega) (by omega) (by omega) (fun H87 ou43 off88 => ?_)
  replace op1 := op1.off off88 ap1Xu43
  replace op5 := op5.off off88 ap5Xu43
  replace ou15 := ou15.off off88 au15Xu43
  replace ou19 := ou19.off off88 au19Xu43
  replace og25 := og25.off off88 ag25Xu43
  replace op27 := op27.off off88 ap27Xu43
  replace ou33 := ou33.off off88 au33Xu43
  replace op37 := op37.off off88 ap37Xu43
  replace op47 := op47.off off88 au43Xp47.symm
  replace og55 := og55.off off88 au43Xg55.symm
  replace op57 := op57.off off88 au43Xp57.symm
  replace ou65 := ou65.off off88 au43Xu65.symm
  replace ou71 := ou71.off off88 au43Xu71.symm
  replace op77 := op77.off off88 au43Xp77.symm
  replace op83 := op83.off off88 au43Xp83.symm
  replace hpc := hpc0.le (off88.le lE nu43)
  replace hqc := hqc0.le (off88.le lE nu43)
  replace lE := off88.le lE nu43
  refine ob_i (vInt_lss_f (by omega)) ?_
  refine gop_rf ?_
  refine ob_i (op57.ldn rfl) ?_
  refine gop_rf ?_
  refine ob_i (op27.ldn rfl) ?_
  refine gop_rf ?_
  refine C.laws_eqField og55.sl og25.sl (by omega) (fun H89 le90 => ?_)
  replace op1 := op1.le le90
  replace op5 := op5.le le90
  replace ou15 := ou15.le le90
  replace ou19 := ou19.le le90
  replace og25 := og25.le le90
  replace op27 := op27.le le90
  replace ou33 := ou33.le le90
  replace op37 := op37.le le90
  replace ou43 := ou43.le le90
  replace op47 := op47.le le90
  replace og55 := og55.le le90
  replace op57 := op57.le le90
  replace ou65 := ou65.le le90
  replace ou71 := ou71.le le90
  replace op77 := op77.le le90
  replace op83 := op83.le le90
  replace hpc := hpc.le le90
  replace hqc := hqc.le le90
  replace lE := lE.trans le90
  refine gop_rf ?_
  refine ob_i (a := .bool false) rfl ?_
  refine ob_i (vPick_f _ _) ?_
  refine gop_rf ?_
  refine gop_rf ?_
  refine gop_rf ?_
  refine ob_i (vBool_neq_same _) ?_
  refine ob_i (vPick_f _ _) ?_
  refine cnd_f1 ?_
  refine ob_i (op57.ldn rfl) ?_
  refine R.laws_markField ?_
  unfold F.laws_markField
  refine nw_i (fun p91 H92 op91 nn93 le94 => ?_)
  have ap1Xp91 : Apart p1 p91 := op1.apart nn93
  have ap5Xp91 : Apart p5 p91 := op5.apart nn93
  have au15Xp91 : Apart u15 p91 := ou15.apart nn93
  have au19Xp91 : Apart u19 p91 := ou19.apart nn93
  have ag25Xp91 : Apart g25 p91 := og25.apart nn93
  have ap27Xp91 : Apart p27 p91 := op27.apart nn93
  have au33Xp91 : Apart u33 p91 := ou33.apart nn93
  have ap37Xp91 : Apart p37 p91 := op37.apart nn93
  have au43Xp91 : Apart u43 p91 := ou43.apart nn93
  have ap47Xp91 : Apart p47 p91 := op47.apart nn93
  have ag55Xp91 : Apart g55 p91 := og55.apart nn93
  have ap57Xp91 : Apart p57 p91 := op57.apart nn93
  have au65Xp91 : Apart u65 p91 := ou65.apart nn93
  have au71Xp91 : Apart u71 p91 := ou71.apart nn93
  have ap77Xp91 : Apart p77 p91 := op77.apart nn93
  have ap83Xp91 : Apart p83 p91 := op83.apart nn93
  have np91 : Nw H p91 := nn93.le lE
  replace op1 := op1.le le94
  replace op5 := op5.le le94
  replace ou15 := ou15.le le94
  replace ou19 := ou19.le le94
  replace og25 := og25.le le94
  replace op27 := op27.le le94
  replace ou33 := ou33.le le94
  replace op37 := op37.le le94
  replace ou43 := ou43.le le94
  replace op47 := op47.le le94
  replace og55 := og55.le le94
  replace op57 := op57.le le94
  replace ou65 := ou65.le le94
  replace ou71 := ou71.le le94
  replace op77 := op77.le le94
  replace op83 := op83.le le94
  replace hpc := hpc.le le94
  replace hqc := hqc.le le94
  replace lE := lE.trans le94
  replace op91 : Cel H92 p91 [(.int .i64 (metI (max pa (r + qa)) pa pb spc qa qb sqc r s)), (.int .i64 (metI (max pb (s + qb)) pa pb spc qa qb sqc r s)), g55] := op91
  refine ob_i (op91.fa 2) ?_
  refine ob_i (op91.ld 2 rfl) ?_
  refine C.laws_markInt64S og55 (by omega) (by omega) (by omega) (fun H95 og55 off96 => ?_)
  replace op1 := op1.off off96 ap1Xg55
  replace op5 := op5.off off96 ap5Xg55
  replace ou15 := ou15.off off96 au15Xg55
  replace ou19 := ou19.off off96 au19Xg55
  replace og25 := og25.off off96 ag25Xg55
  replace op27 := op27.off off96 ap27Xg55
  replace ou33 := ou33.off off96 au33Xg55
  replace op37 := op37.off off96 ap37Xg55
  replace ou43 := ou43.off off96 au43Xg55
  replace op47 := op47.off off96 ap47Xg55
  replace op57 := op57.off off96 ag55Xp57.symm
  replace ou65 := ou65.off off96 ag55Xu65.symm
  replace ou71 := ou71.off off96 ag55Xu71.symm
  replace op77 := op77.off off96 ag55Xp77.symm
  replace op83 := op83.off off96 ag55Xp83.symm
  replace op91 := op91.off off96 ag55Xp91.symm
  replace hpc := hpc0.le (off96.le lE ng55)
  replace hqc := hqc0.le (off96.le lE ng55)
  replace lE := off96.le lE ng55
  refine ob_i (op57.ldn rfl) ?_
  refine R.laws_heldField ?_
  unfold F.laws_heldField
  refine nw_i (fun p97 H98 op97 nn99 le100 => ?_)
  have ap1Xp97 : Apart p1 p97 := op1.apart nn99
  have ap5Xp97 : Apart p5 p97 := op5.apart nn99
  have au15Xp97 : Apart u15 p97 := ou15.apart nn99
  have au19Xp97 : Apart u19 p97 := ou19.apart nn99
  have ag25Xp97 : Apart g25 p97 := og25.apart nn99
  have ap27Xp97 : Apart p27 p97 := op27.apart nn99
  have au33Xp97 : Apart u33 p97 := ou33.apart nn99
  have ap37Xp97 : Apart p37 p97 := op37.apart nn99
  have au43Xp97 : Apart u43 p97 := ou43.apart nn99
  have ap47Xp97 : Apart p47 p97 := op47.apart nn99
  have ag55Xp97 : Apart g55 p97 := og55.apart nn99
  have ap57Xp97 : Apart p57 p97 := op57.apart nn99
  have au65Xp97 : Apart u65 p97 := ou65.apart nn99
  have au71Xp97 : Apart u71 p97 := ou71.apart nn99
  have ap77Xp97 : Apart p77 p97 := op77.apart nn99
  have ap83Xp97 : Apart p83 p97 := op83.apart nn99
  have ap91Xp97 : Apart p91 p97 := op91.apart nn99
  have np97 : Nw H p97 := nn99.le lE
  replace op1 := op1.le le100
  replace op5 := op5.le le100
  replace ou15 := ou15.le le100
  replace ou19 := ou19.le le100
  replace og25 := og25.le le100
  replace op27 := op27.le le100
  replace ou33 := ou33.le le100
  replace op37 := op37.le le100
  replace ou43 := ou43.le le100
  replace op47 := op47.le le100
  replace og55 := og55.le le100
  replace op57 := op57.le le100
  replace ou65 := ou65.le le100
  replace ou71 := ou71.le le100
  replace op77 := op77.le le100
  replace op83 := op83.le le100
  replace op91 := op91.le le100
  replace hpc := hpc.le le100
  replace hqc := hqc.le le100
  replace lE := lE.trans le100
  replace op97 : Cel H98 p97 [(.int .i64 (metI (max pa (r + qa)) pa pb spc qa qb sqc r s)), (.int .i64 (metI (max pb (s + qb)) pa pb spc qa qb sqc r s)), g55] := op97
  refine ob_i (op97.fa 2) ?_
  refine ob_i (op97.ld 2 rfl) ?_
  refine C.laws_heldInt64S og55.sl (by omega) (by omega) (by omega) ?_
  refine ob_i (vInt_lss_f (by omega)) ?_
  refine cnd_f1 ?_
  refine ob_i (vInt_lss_f (by omega)) ?_
  refine cnd_f1 ?_
  refine ob_i (vInt_neq_same _ _) ?_
  refine cnd_f1 ?_
  refine ob_i (op1.ldn rfl) ?_
  refine ob_i (op5.ldn rfl) ?_
  refine C.laws_toField hpc (by omega) (fun u101 H102 ou101 nn104  le103 => ?_)
  have ap1Xu101 : Apart p1 u101 := op1.apart nn104
  have ap5Xu101 : Apart p5 u101 := op5.apart nn104
  have au15Xu101 : Apart u15 u101 := ou15.apart nn104
  have au19Xu101 : Apart u19 u101 := ou19.apart nn104
  have ag25Xu101 : Apart g25 u101 := og25.apart nn104
  have ap27Xu101 : Apart p27 u101 := op27.apart nn104
  have au33Xu101 : Apart u33 u101 := ou33.apart nn104
  have ap37Xu101 : Apart p37 u101 := op37.apart nn104
  have au43Xu101 : Apart u43 u101 := ou43.apart nn104
  have ap47Xu101 : Apart p47 u101 := op47.apart nn104
  have ag55Xu101 : Apart g55 u101 := og55.apart nn104
  have ap57Xu101 : Apart p57 u101 := op57.apart nn104
  have au65Xu101 : Apart u65 u101 := ou65.apart nn104
  have au71Xu101 : Apart u71 u101 := ou71.apart nn104
  have ap77Xu101 : Apart p77 u101 := op77.apart nn104
  have ap83Xu101 : Apart p83 u101 := op83.apart nn104
  have ap91Xu101 : Apart p91 u101 := op91.apart nn104
  have ap97Xu101 : Apart p97 u101 := op97.apart nn104
  have nu101 : Nw H u101 := nn104.le lE
  replace op1 := op1.le le103
  replace op5 := op5.le le103
  replace ou15 := ou15.le le103
  replace ou19 := ou19.le le103
  replace og25 := og25.le le103
  replace op27 := op27.le le103
  replace ou33 := ou33.le le103
  replace op37 := op37.le le103
  replace ou43 := ou43.le le103
  replace op47 := op47.le le103
  replace og55 := og55.le le103
  replace op57 := op57.le le103
  replace ou65 := ou65.le le103
  replace ou71 := ou71.le le103
  replace op77 := op77.le le103
  replace op83 := op83.le le103
  replace op91 := op91.le le103
  replace op97 := op97.le le103
  replace hpc := hpc.le le103
  replace hqc := hqc.le le103
  replace lE := lE.trans le103
  refine ⟨le103, ?_⟩
  refine C.laws_toField hqc (by omega) (fun u105 H106 ou105 nn108  le107 => ?_)
  have ap1Xu105 : Apart p1 u105 := op1.apart nn108
  have ap5Xu105 : Apart p5 u105 := op5.apart nn108
  have au15Xu105 : Apart u15 u105 := ou15.apart nn108
  have au19Xu105 : Apart u19 u105 := ou19.apart nn108
  have ag25Xu105 : Apart g25 u105 := og25.apart nn108
  have ap27Xu105 : Apart p27 u105 := op27.apart nn108
  have au33Xu105 : Apart u33 u105 := ou33.apart nn108
  have ap37Xu105 : Apart p37 u105 := op37.apart nn108
  have au43Xu105 : Apart u43 u105 := ou43.apart nn108
  have ap47Xu105 : Apart p47 u105 := op47.apart nn108
  have ag55Xu105 : Apart g55 u105 := og55.apart nn108
  have ap57Xu105 : Apart p57 u105 := op57.apart nn108
  have au65Xu105 : Apart u65 u105 := ou65.apart nn108
  have au71Xu105 : Apart u71 u105 := ou71.apart nn108
  have ap77Xu105 : Apart p77 u105 := op77.apart nn108
  have ap83Xu105 : Apart p83 u105 := op83.apart nn108
  have ap91Xu105 : Apart p91 u105 := op91.apart nn108
  have ap97Xu105 : Apart p97 u105 := op97.apart nn108
  have au101Xu105 : Apart u101 u105 := ou101.apart nn108
  have nu105 : Nw H u105 := nn108.le lE
  replace op1 := op1.le le107
  replace op5 := op5.le le107
  replace ou15 := ou15.le le107
  replace ou19 := ou19.le le107
  replace og25 := og25.le le107
  replace op27 := op27.le le107
  replace ou33 := ou33.le le107
  replace op37 := op37.le le107
  replace ou43 := ou43.le le107
  replace op47 := op47.le le107
  replace og55 := og55.le le107
  replace op57 := op57.le le107
  replace ou65 := ou65.le le107
  replace ou71 := ou71.le le107
  replace op77 := op77.le le107
  replace op83 := op83.le le107
  replace op91 := op91.le le107
  replace op97 := op97.le le107
  replace ou101 := ou101.le le107
  replace hpc := hpc.le le107
  replace hqc := hqc.le le107
  replace lE := lE.trans le107
  refine ⟨le107, ?_⟩
  refine C.impl_MeetFields ou101.sl ou105.sl (by omega) (by omega)  (fun g111 H109 og111 nn112  le110 => ?_)
  have ap1Xg111 : Apart p1 g111 := op1.apart nn112
  have ap5Xg111 : Apart p5 g111 := op5.apart nn112
  have au15Xg111 : Apart u15 g111 := ou15.apart nn112
  have au19Xg111 : Apart u19 g111 := ou19.apart nn112
  have ag25Xg111 : Apart g25 g111 := og25.apart nn112
  have ap27Xg111 : Apart p27 g111 := op27.apart nn112
  have au33Xg111 : Apart u33 g111 := ou33.apart nn112
  have ap37Xg111 : Apart p37 g111 := op37.apart nn112
  have au43Xg111 : Apart u43 g111 := ou43.apart nn112
  have ap47Xg111 : Apart p47 g111 := op47.apart nn112
  have ag55Xg111 : Apart g55 g111 := og55.apart nn112
  have ap57Xg111 : Apart p57 g111 := op57.apart nn112
  have au65Xg111 : Apart u65 g111 := ou65.apart nn112
  have au71Xg111 : Apart u71 g111 := ou71.apart nn112
  have ap77Xg111 : Apart p77 g111 := op77.apart nn112
  have ap83Xg111 : Apart p83 g111 := op83.apart nn112
  have ap91Xg111 : Apart p91 g111 := op91.apart nn112
  have ap97Xg111 : Apart p97 g111 := op97.apart nn112
  have au101Xg111 : Apart u101 g111 := ou101.apart nn112
  have au105Xg111 : Apart u105 g111 := ou105.apart nn112
  have ng111 : Nw H g111 := nn112.le lE
  replace op1 := op1.le le110
  replace op5 := op5.le le110
  replace ou15 := ou15.le le110
  replace ou19 := ou19.le le110
  replace og25 := og25.le le110
  replace op27 := op27.le le110
  replace ou33 := ou33.le le110
  replace op37 := op37.le le110
  replace ou43 := ou43.le le110
  replace op47 := op47.le le110
  replace og55 := og55.le le110
  replace op57 := op57.le le110
  replace ou65 := ou65.le le110
  replace ou71 := ou71.le le110
  replace op77 := op77.le le110
  replace op83 := op83.le le110
  replace op91 := op91.le le110
  replace op97 := op97.le le110
  replace ou101 := ou101.le le110
  replace ou105 := ou105.le le110
  replace hpc := hpc.le le110
  replace hqc := hqc.le le110
  replace lE := lE.trans le110
  refine ⟨le110, ?_⟩
  refine ob_i (vExt_20 _ _) ?_
  refine ob_i (vExt_21 _ _) ?_
  refine nw_i (fun p113 H114 op113 nn115 le116 => ?_)
  have ap1Xp113 : Apart p1 p113 := op1.apart nn115
  have ap5Xp113 : Apart p5 p113 := op5.apart nn115
  have au15Xp113 : Apart u15 p113 := ou15.apart nn115
  have au19Xp113 : Apart u19 p113 := ou19.apart nn115
  have ag25Xp113 : Apart g25 p113 := og25.apart nn115
  have ap27Xp113 : Apart p27 p113 := op27.apart nn115
  have au33Xp113 : Apart u33 p113 := ou33.apart nn115
  have ap37Xp113 : Apart p37 p113 := op37.apart nn115
  have au43Xp113 : Apart u43 p113 := ou43.apart nn115
  have ap47Xp113 : Apart p47 p113 := op47.apart nn115
  have ag55Xp113 : Apart g55 p113 := og55.apart nn115
  have ap57Xp113 : Apart p57 p113 := op57.apart nn115
  have au65Xp113 : Apart u65 p113 := ou65.apart nn115
  have au71Xp113 : Apart u71 p113 := ou71.apart nn115
  have ap77Xp113 : Apart p77 p113 := op77.apart nn115
  have ap83Xp113 : Apart p83 p113 := op83.apart nn115
  have ap91Xp113 : Apart p91 p113 := op91.apart nn115
  have ap97Xp113 : Apart p97 p113 := op97.apart nn115
  have au101Xp113 : Apart u101 p113 := ou101.apart nn115
  have au105Xp113 : Apart u105 p113 := ou105.apart nn115
  have ag111Xp113 : Apart g111 p113 := og111.apart nn115
  have np113 : Nw H p113 := nn115.le lE
  replace op1 := op1.le le116
  replace op5 := op5.le le116
  replace ou15 := ou15.le le116
  replace ou19 := ou19.le le116
  replace og25 := og25.le le116
  replace op27 := op27.le le116
  replace ou33 := ou33.le le116
  replace op37 := op37.le le116
  replace ou43 := ou43.le le116
  replace op47 := op47.le le116
  replace og55 := og55.le le116
  replace op57 := op57.le le116
  replace ou65 := ou65.le le116
  replace ou71 := ou71.le le116
  replace op77 := op77.le le116
  replace op83 := op83.le le116
  replace op91 := op91.le le116
  replace op97 := op97.le le116
  replace ou101 := ou101.le le116
  replace ou105 := ou105.le le116
  replace og111 := og111.le le116
  replace hpc := hpc.le le116
  replace hqc := hqc.le le116
  replace lE := lE.trans le116
  replace op113 : Cel H114 p113 [(.int .i64 (0)), (.int .i64 (0)), (.slice none 0 0)] := op113
  refine op113.stn (ws := [(.int .i64 (metI (max pa (r + qa)) pa pb spc qa qb sqc r s)), (.int .i64 (metI (max pb (s + qb)) pa pb spc qa qb sqc r s)), g111]) rfl rfl (oc1 rfl (oc1 rfl (oc1 og111.one oc0))) (fun H117 op113 off118 => ?_)
  replace op1 := op1.off off118 ap1Xp113
  replace op5 := op5.off off118 ap5Xp113
  replace ou15 := ou15.off off118 au15Xp113
  replace ou19 := ou19.off off118 au19Xp113
  replace og25 := og25.off off118 ag25Xp113
  replace op27 := op27.off off118 ap27Xp113
  replace ou33 := ou33.off off118 au33Xp113
  replace op37 := op37.off off118 ap37Xp113
  replace ou43 := ou43.off off118 au43Xp113
  replace op47 := op47.off off118 ap47Xp113
  replace og55 := og55.off off118 ag55Xp113
  replace op57 := op57.off off118 ap57Xp113
  replace ou65 := ou65.off off118 au65Xp113
  replace ou71 := ou71.off off118 au71Xp113
  replace op77 := op77.off off118 ap77Xp113
  replace op83 := op83.off off118 ap83Xp113
  replace op91 := op91.off off118 ap91Xp113
  replace op97 := op97.off off118 ap97Xp113
  replace ou101 := ou101.off off118 au101Xp113
  replace ou105 := ou105.off off118 au105Xp113
  replace og111 := og111.off off118 ag111Xp113
  replace hpc := hpc0.le (off118.le lE np113)
  replace hqc := hqc0.le (off118.le lE np113)
  replace lE := off118.le lE np113
  replace op113 : Cel H117 p113 [(.int .i64 (metI (max pa (r + qa)) pa pb spc qa qb sqc r s)), (.int .i64 (metI (max pb (s + qb)) pa pb spc qa qb sqc r s)), g111] := op113
  refine ob_i (op113.ldn rfl) ?_
  refine ob_i (op27.ldn rfl) ?_
  refine C.laws_eqField og111.sl og25.sl (by omega) (fun H119 le120 => ?_)
  replace op1 := op1.le le120
  replace op5 := op5.le le120
  replace ou15 := ou15.le le120
  replace ou19 := ou19.le le120
  replace og25 := og25.le le120
  replace op27 := op27.le le120
  replace ou33 := ou33.le le120
  replace op37 := op37.le le120
  replace ou43 := ou43.le le120
  replace op47 := op47.le le120
  replace og55 := og55.le le120
  replace op57 := op57.le le120
  replace ou65 := ou65.le le120
  replace ou71 := ou71.le le120
  replace op77 := op77.le le120
  replace op83 := op83.le le120
  replace op91 := op91.le le120
  replace op97 := op97.le le120
  replace ou101 := ou101.le le120
  replace ou105 := ou105.le le120
  replace og111 := og111.le le120
  replace op113 := op113.le le120
  replace hpc := hpc.le le120
  replace hqc := hqc.le le120
  replace lE := lE.trans le120
  refine ob_i (a := .bool false) rfl ?_
  refine gop_rf ?_
  refine gop_rf ?_
  refine gop_rf ?_
  refine ob_i (vBool_neq_same _) ?_
  refine ob_i (vPick_f _ _) ?_
  refine cnd_f1 ?_
  refine ob_i (op57.ldn rfl) ?_
  refine R.laws_heldField ?_
  unfold F.laws_heldField
  refine nw_i (fun p121 H122 op121 nn123 le124 => ?_)
  have ap1Xp121 : Apart p1 p121 := op1.apart nn123
  have ap5Xp121 : Apart p5 p121 := op5.apart nn123
  have au15Xp121 : Apart u15 p121 := ou15.apart nn123
  have au19Xp121 : Apart u19 p121 := ou19.apart nn123
  have ag25Xp121 : Apart g25 p121 := og25.apart nn123
  have ap27Xp121 : Apart p27 p121 := op27.apart nn123
  have au33Xp121 : Apart u33 p121 := ou33.apart nn123
  have ap37Xp121 : Apart p37 p121 := op37.apart nn123
  have au43Xp121 : Apart u43 p121 := ou43.apart nn123
  have ap47Xp121 : Apart p47 p121 := op47.apart nn123
  have ag55Xp121 : Apart g55 p121 := og55.apart nn123
  have ap57Xp121 : Apart p57 p121 := op57.apart nn123
  have au65Xp121 : Apart u65 p121 := ou65.apart nn123
  have au71Xp121 : Apart u71 p121 := ou71.apart nn123
  have ap77Xp121 : Apart p77 p121 := op77.apart nn123
  have ap83Xp121 : Apart p83 p121 := op83.apart nn123
  have ap91Xp121 : Apart p91 p121 := op91.apart nn123
  have ap97Xp121 : Apart p97 p121 := op97.apart nn123
  have au101Xp121 : Apart u101 p121 := ou101.apart nn123
  have au105Xp121 : Apart u105 p121 := ou105.apart nn123
  have ag111Xp121 : Apart g111 p121 := og111.apart nn123
  have ap113Xp121 : Apart p113 p121 := op113.apart nn123
  have np121 : Nw H p121 := nn123.le lE
  replace op1 := op1.le le124
  replace op5 := op5.le le124
  replace ou15 := ou15.le le124
  replace ou19 := ou19.le le124
  replace og25 := og25.le le124
  replace op27 := op27.le le124
  replace ou33 := ou33.le le124
  replace op37 := op37.le le124
  replace ou43 := ou43.le le124
  replace op47 := op47.le le124
  replace og55 := og55.le le124
  replace op57 := op57.le le124
  replace ou65 := ou65.le le124
  replace ou71 := ou71.le le124
  replace op77 := op77.le le124
  replace op83 := op83.le le124
  replace op91 := op91.le le124
  replace op97 := op97.le le124
  replace ou101 := ou101.le le124
  replace ou105 := ou105.le le124
  replace og111 := og111.le le124
  replace op113 := op113.le le124
  replace hpc := hpc.le le124
  replace hqc := hqc.le le124
  replace lE := lE.trans le124
  replace op121 : Cel H122 p121 [(.int .i64 (metI (max pa (r + qa)) pa pb spc qa qb sqc r s)), (.int .i64 (metI (max pb (s + qb)) pa pb spc qa qb sqc r s)), g55] := op121
  refine ob_i (op121.fa 2) ?_
  refine ob_i (op121.ld 2 rfl) ?_
  refine C.laws_heldInt64S og55.sl (by omega) (by omega) (by omega) ?_
  refine ob_i (vInt_lss_f (by omega)) ?_
  refine cnd_f1 ?_
  refine ob_i (vInt_lss_f (by omega)) ?_
  refine cnd_f1 ?_
  refine ob_i (vInt_neq_same _ _) ?_
  refine cnd_f1 ?_
  exact hk _ lE
end Go.Proofs.Ytnndhafldmkdeaa
