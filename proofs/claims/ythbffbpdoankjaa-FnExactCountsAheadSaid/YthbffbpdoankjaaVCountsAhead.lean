/- Laws, each by its two sides: its function returns true, and what was known before stays. -/
import Derived.Test.YthbffbpdoankjaaUB
import Derived.Test.YthbffbpdoankjaaQH
import Derived.Test.YthbffbpdoankjaaQI
import Derived.Test.YthbffbpdoankjaaSE
namespace Go.Proofs.Ythbffbpdoankjaa
open HL
set_option maxRecDepth 100000
theorem L.FnExactCountsAhead {pa : Value} {spa : List Int} {pb : Value} {spb : List Int} {qa : Int} {qb : Int} {qc : Value} {sqc : List Int} {r : Bool} {s : Int} {H : Hp} {K : Value → Hp → Prop} (hpa0 : Sl eI H pa spa) (hpb0 : Sl eI H pb spb) (hqc0 : Sl eI H qc sqc) (ws0 : -9223372036854775808 ≤ s) (ws1 : s < 9223372036854775808) (mspa : (spa).length ≤ 9223372036854775807) (mspb : (spb).length ≤ 9223372036854775807) (msqc : (sqc).length ≤ 9223372036854775807) (hk : ∀ H', Le H H' → K (.bool true) H') :
    HT prg I.laws_FnExactCountsAhead [(.agg #[pa, pb]), (.agg #[(.int .i64 (qa)), (.int .i64 (qb)), qc]), (.bool r), (.int .i64 (s))].toArray H K := by
  have hR := @caP_len r spa spb qa qb sqc s
  have lE := Le.refl H
  have hpa := hpa0
  have hpb := hpb0
  have hqc := hqc0
  refine R.laws_FnExactCountsAhead ?_
  unfold F.laws_FnExactCountsAhead
  refine nw_i (fun p1 H2 op1 nn3 le4 => ?_)
  have np1 : Nw H p1 := nn3.le lE
  replace hpa := hpa.le le4
  replace hpb := hpb.le le4
  replace hqc := hqc.le le4
  replace lE := lE.trans le4
  replace op1 : Cel H2 p1 [pa, pb] := op1
  refine nw_i (fun p5 H6 op5 nn7 le8 => ?_)
  have ap1Xp5 : Apart p1 p5 := op1.apart nn7
  have np5 : Nw H p5 := nn7.le lE
  replace op1 := op1.le le8
  replace hpa := hpa.le le8
  replace hpb := hpb.le le8
  replace hqc := hqc.le le8
  replace lE := lE.trans le8
  replace op5 : Cel H6 p5 [(.int .i64 (qa)), (.int .i64 (qb)), qc] := op5
  refine ob_i (op1.ldn rfl) ?_
  refine C.laws_szLife hpa hpb (by omega) (by omega) (by omega) (by omega) (fun H10 le11 => ?_) (fun H10 le11 hz9 => ?_)
  · skip
    replace op1 := op1.le le11
    replace op5 := op5.le le11
    replace hpa := hpa.le le11
    replace hpb := hpb.le le11
    replace hqc := hqc.le le11
    replace lE := lE.trans le11
    refine ob_i (vInt_lss_t (by omega)) ?_
    refine cnd_t1 ?_
    exact hk _ lE
  replace op1 := op1.le le11
  replace op5 := op5.le le11
  replace hpa := hpa.le le11
  replace hpb := hpb.le le11
  replace hqc := hqc.le le11
  replace lE := lE.trans le11
  refine ob_i (vInt_lss_f (by omega)) ?_
  refine cnd_f1 ?_
  refine ob_i (op5.ldn rfl) ?_
  refine C.laws_szField hqc (by omega) (by omega) (by omega) (fun H13 le14 => ?_) (fun H13 le14 hz12 => ?_)
  · skip
    replace op1 := op1.le le14
    replace op5 := op5.le le14
    replace hpa := hpa.le le14
    replace hpb := hpb.le le14
    replace hqc := hqc.le le14
    replace lE := lE.trans le14
    refine ob_i (vInt_lss_t (by omega)) ?_
    refine cnd_t1 ?_
    exact hk _ lE
  replace op1 := op1.le le14
  replace op5 := op5.le le14
  replace hpa := hpa.le le14
  replace hpb := hpb.le le14
  replace hqc := hqc.le le14
  replace lE := lE.trans le14
  refine ob_i (vInt_lss_f (by omega)) ?_
  refine cnd_f1 ?_
  refine ob_i (op1.ldn rfl) ?_
  refine ob_i (op5.ldn rfl) ?_
  refine C.laws_toLife hpa hpb (by omega) (by omega) (fun u15 u16 H17 ou15 ou16 nn19 nn20 au15Xu16 le18 => ?_)
  have ap1Xu15 : Apart p1 u15 := op1.apart nn19
  have ap5Xu15 : Apart p5 u15 := op5.apart nn19
  have nu15 : Nw H u15 := nn19.le lE
  have ap1Xu16 : Apart p1 u16 := op1.apart nn20
  have ap5Xu16 : Apart p5 u16 := op5.apart nn20
  have nu16 : Nw H u16 := nn20.le lE
  replace op1 := op1.le le18
  replace op5 := op5.le le18
  replace hpa := hpa.le le18
  replace hpb := hpb.le le18
  replace hqc := hqc.le le18
  replace lE := lE.trans le18
  refine ⟨le18, ?_⟩
  refine C.laws_toField hqc (by omega) (fun u21 H22 ou21 nn24  le23 => ?_)
  have ap1Xu21 : Apart p1 u21 := op1.apart nn24
  have ap5Xu21 : Apart p5 u21 := op5.apart nn24
  have au15Xu21 : Apart u15 u21 := ou15.apart nn24
  have au16Xu21 : Apart u16 u21 := ou16.apart nn24
  have nu21 : Nw H u21 := nn24.le lE
  replace op1 := op1.le le23
  replace op5 := op5.le le23
  replace ou15 := ou15.le le23
  replace ou16 := ou16.le le23
  replace hpa := hpa.le le23
  replace hpb := hpb.le le23
  replace hqc := hqc.le le23
  replace lE := lE.trans le23
  refine ⟨le23, ?_⟩
  refine C.spec_CountsAhead ou15.sl ou16.sl ou21.sl (by omega) (by omega) (by omega)  (fun g27 H25 og27 nn28  le26 => ?_)
  have ap1Xg27 : Apart p1 g27 := op1.apart nn28
  have ap5Xg27 : Apart p5 g27 := op5.apart nn28
  have au15Xg27 : Apart u15 g27 := ou15.apart nn28
  have au16Xg27 : Apart u16 g27 := ou16.apart nn28
  have au21Xg27 : Apart u21 g27 := ou21.apart nn28
  have ng27 : Nw H g27 := nn28.le lE
  replace op1 := op1.le le26
  replace op5 := op5.le le26
  replace ou15 := ou15.le le26
  replace ou16 := ou16.le le26
  replace ou21 := ou21.le le26
  replace hpa := hpa.le le26
  replace hpb := hpb.le le26
  replace hqc := hqc.le le26
  replace lE := lE.trans le26
  refine ⟨le26, ?_⟩
  refine ob_i (vExt_20 _ _) ?_
  refine ob_i (vExt_21 _ _) ?_
  refine ob_i (op1.ldn rfl) ?_
  refine C.laws_toLife hpa hpb (by omega) (by omega) (fun u29 u30 H31 ou29 ou30 nn33 nn34 au29Xu30 le32 => ?_)
  have ap1Xu29 : Apart p1 u29 := op1.apart nn33
  have ap5Xu29 : Apart p5 u29 := op5.apart nn33
  have au15Xu29 : Apart u15 u29 := ou15.apart nn33
  have au16Xu29 : Apart u16 u29 := ou16.apart nn33
  have au21Xu29 : Apart u21 u29 := ou21.apart nn33
  have ag27Xu29 : Apart g27 u29 := og27.apart nn33
  have nu29 : Nw H u29 := nn33.le lE
  have ap1Xu30 : Apart p1 u30 := op1.apart nn34
  have ap5Xu30 : Apart p5 u30 := op5.apart nn34
  have au15Xu30 : Apart u15 u30 := ou15.apart nn34
  have au16Xu30 : Apart u16 u30 := ou16.apart nn34
  have au21Xu30 : Apart u21 u30 := ou21.apart nn34
  have ag27Xu30 : Apart g27 u30 := og27.apart nn34
  have nu30 : Nw H u30 := nn34.le lE
  replace op1 := op1.le le32
  replace op5 := op5.le le32
  replace ou15 := ou15.le le32
  replace ou16 := ou16.le le32
  replace ou21 := ou21.le le32
  replace og27 := og27.le le32
  replace hpa := hpa.le le32
  replace hpb := hpb.le le32
  replace hqc := hqc.le le32
  replace lE := lE.trans le32
  refine nw_i (fun p35 H36 op35 nn37 le38 => ?_)
  have ap1Xp35 : Apart p1 p35 := op1.apart nn37
  have ap5Xp35 : Apart p5 p35 := op5.apart nn37
  have au15Xp35 : Apart u15 p35 := ou15.apart nn37
  have au16Xp35 : Apart u16 p35 := ou16.apart nn37
  have au21Xp35 : Apart u21 p35 := ou21.apart nn37
  have ag27Xp35 : Apart g27 p35 := og27.apart nn37
  have au29Xp35 : Apart u29 p35 := ou29.apart nn37
  have au30Xp35 : Apart u30 p35 := ou30.apart nn37
  have np35 : Nw H p35 := nn37.le lE
  replace op1 := op1.le le38
  replace op5 := op5.le le38
  replace ou15 := ou15.le le38
  replace ou16 := ou16.le le38
  replace ou21 := ou21.le le38
  replace og27 := og27.le le38
  replace ou29 := ou29.le le38
  replace ou30 := ou30.le le38
  replace hpa := hpa.le le38
  replace hpb := hpb.le le38
  replace hqc := hqc.le le38
  replace lE := lE.trans le38
  replace op35 : Cel H36 p35 [(.slice none 0 0), (.slice none 0 0)] := op35
  refine op35.stn (ws := [u29, u30]) rfl rfl (oc1 ou29.one (oc1 ou30.one oc0)) (fun H39 op35 off40 => ?_)
  replace op1 := op1.off off40 ap1Xp35
  replace op5 := op5.off off40 ap5Xp35
  replace ou15 := ou15.off off40 au15Xp35
  replace ou16 := ou16.off off40 au16Xp35
  replace ou21 := ou21.off off40 au21Xp35
  replace og27 := og27.off off40 ag27Xp35
  replace ou29 := ou29.off off40 au29Xp35
  replace ou30 := ou30.off off40 au30Xp35
  replace hpa := hpa0.le (off40.le lE np35)
  replace hpb := hpb0.le (off40.le lE np35)
  replace hqc := hqc0.le (off40.le lE np35)
  replace lE := off40.le lE np35
  replace op35 : Cel H39 p35 [u29, u30] := op35
  refine ob_i (op5.ldn rfl) ?_
  refine C.laws_toField hqc (by omega) (fun u41 H42 ou41 nn44  le43 => ?_)
  have ap1Xu41 : Apart p1 u41 := op1.apart nn44
  have ap5Xu41 : Apart p5 u41 := op5.apart nn44
  have au15Xu41 : Apart u15 u41 := ou15.apart nn44
  have au16Xu41 : Apart u16 u41 := ou16.apart nn44
  have au21Xu41 : Apart u21 u41 := ou21.apart nn44
  have ag27Xu41 : Apart g27 u41 := og27.apart nn44
  have au29Xu41 : Apart u29 u41 := ou29.apart nn44
  have au30Xu41 : Apart u30 u41 := ou30.apart nn44
  have ap35Xu41 : Apart p35 u41 := op35.apart nn44
  have nu41 : Nw H u41 := nn44.le lE
  replace op1 := op1.le le43
  replace op5 := op5.le le43
  replace ou15 := ou15.le le43
  replace ou16 := ou16.le le43
  replace ou21 := ou21.le le43
  replace og27 := og27.le le43
  replace ou29 := ou29.le le43
  replace ou30 := ou30.le le43
  replace op35 := op35.le le43
  replace hpa := hpa.le le43
  replace hpb := hpb.le le43
  replace hqc := hqc.le le43
  replace lE := lE.trans le43
  refine nw_i (fun p45 H46 op45 nn47 le48 => ?_)
  have ap1Xp45 : Apart p1 p45 := op1.apart nn47
  have ap5Xp45 : Apart p5 p45 := op5.apart nn47
  have au15Xp45 : Apart u15 p45 := ou15.apart nn47
  have au16Xp45 : Apart u16 p45 := ou16.apart nn47
  have au21Xp45 : Apart u21 p45 := ou21.apart nn47
  have ag27Xp45 : Apart g27 p45 := og27.apart nn47
  have au29Xp45 : Apart u29 p45 := ou29.apart nn47
  have au30Xp45 : Apart u30 p45 := ou30.apart nn47
  have ap35Xp45 : Apart p35 p45 := op35.apart nn47
  have au41Xp45 : Apart u41 p45 := ou41.apart nn47
  have np45 : Nw H p45 := nn47.le lE
  replace op1 := op1.le le48
  replace op5 := op5.le le48
  replace ou15 := ou15.le le48
  replace ou16 := ou16.le le48
  replace ou21 := ou21.le le48
  replace og27 := og27.le le48
  replace ou29 := ou29.le le48
  replace ou30 := ou30.le le48
  replace op35 := op35.le le48
  replace ou41 := ou41.le le48
  replace hpa := hpa.le le48
  replace hpb := hpb.le le48
  replace hqc := hqc.le le48
  replace lE := lE.trans le48
  replace op45 : Cel H46 p45 [(.int .i64 (0)), (.int .i64 (0)), (.slice none 0 0)] := op45
  refine op45.stn (ws := [(.int .i64 (qa)), (.int .i64 (qb)), u41]) rfl rfl (oc1 rfl (oc1 rfl (oc1 ou41.one oc0))) (fun H49 op45 off50 => ?_)
  replace op1 := op1.off off50 ap1Xp45
  replace op5 := op5.off off50 ap5Xp45
  replace ou15 := ou15.off off50 au15Xp45
  replace ou16 := ou16.off off50 au16Xp45
  replace ou21 := ou21.off off50 au21Xp45
  replace og27 := og27.off off50 ag27Xp45
  replace ou29 := ou29.off off50 au29Xp45
  replace ou30 := ou30.off off50 au30Xp45
  replace op35 := op35.off off50 ap35Xp45
  replace ou41 := ou41.off off50 au41Xp45
  replace hpa := hpa0.le (off50.le lE np45)
  replace hpb := hpb0.le (off50.le lE np45)
  replace hqc := hqc0.le (off50.le lE np45)
  replace lE := off50.le lE np45
  replace op45 : Cel H49 p45 [(.int .i64 (qa)), (.int .i64 (qb)), u41] := op45
  refine ob_i (op35.ldn rfl) ?_
  refine ob_i (op45.ldn rfl) ?_
  refine C.impl_CountsAhead ou29.sl ou30.sl ou41.sl (by omega) (by omega) (by omega)  (fun g53 H51 og53 nn54  le52 => ?_)
  have ap1Xg53 : Apart p1 g53 := op1.apart nn54
  have ap5Xg53 : Apart p5 g53 := op5.apart nn54
  have au15Xg53 : Apart u15 g53 := ou15.apart nn54
  have au16Xg53 : Apart u16 g53 := ou16.apart nn54
  have au21Xg53 : Apart u21 g53 := ou21.apart nn54
  have ag27Xg53 : Apart g27 g53 := og27.apart nn54
  have au29Xg53 : Apart u29 g53 := ou29.apart nn54
  have au30Xg53 : Apart u30 g53 := ou30.apart nn54
  have ap35Xg53 : Apart p35 g53 := op35.apart nn54
  have au41Xg53 : Apart u41 g53 := ou41.apart nn54
  have ap45Xg53 : Apart p45 g53 := op45.apart nn54
  have ng53 : Nw H g53 := nn54.le lE
  replace op1 := op1.le le52
  replace op5 := op5.le le52
  replace ou15 := ou15.le le52
  replace ou16 := ou16.le le52
  replace ou21 := ou21.le le52
  replace og27 := og27.le le52
  replace ou29 := ou29.le le52
  replace ou30 := ou30.le le52
  replace op35 := op35.le le52
  replace ou41 := ou41.le le52
  replace op45 := op45.le le52
  replace hpa := hpa.le le52
  replace hpb := hpb.le le52
  replace hqc := hqc.le le52
  replace lE := lE.trans le52
  refine ob_i (vExt_20 _ _) ?_
  refine ob_i (vExt_21 _ _) ?_
  refine C.laws_eqInt64S og53.sl og27.sl (by omega) ?_
  rw [decide_eq_true rfl]
  refine ob_i (a := .bool false) rfl ?_
  refine gop_rf ?_
  refine gop_rf ?_
  refine gop_rf ?_
  refine ob_i (vBool_neq_same _) ?_
  refine ob_i (vPick_f _ _) ?_
  refine cnd_f1 ?_
  refine ob_i (op35.ldn rfl) ?_
  refine ob_i (op1.ldn rfl) ?_
  refine C.laws_toLife hpa hpb (by omega) (by omega) (fun u55 u56 H57 ou55 ou56 nn59 nn60 au55Xu56 le58 => ?_)
  have ap1Xu55 : Apart p1 u55 := op1.apart nn59
  have ap5Xu55 : Apart p5 u55 := op5.apart nn59
  have au15Xu55 : Apart u15 u55 := ou15.apart nn59
  have au16Xu55 : Apart u16 u55 := ou16.apart nn59
  have au21Xu55 : Apart u21 u55 := ou21.apart nn59
  have ag27Xu55 : Apart g27 u55 := og27.apart nn59
  have au29Xu55 : Apart u29 u55 := ou29.apart nn59
  have au30Xu55 : Apart u30 u55 := ou30.apart nn59
  have ap35Xu55 : Apart p35 u55 := op35.apart nn59
  have au41Xu55 : Apart u41 u55 := ou41.apart nn59
  have ap45Xu55 : Apart p45 u55 := op45.apart nn59
  have ag53Xu55 : Apart g53 u55 := og53.apart nn59
  have nu55 : Nw H u55 := nn59.le lE
  have ap1Xu56 : Apart p1 u56 := op1.apart nn60
  have ap5Xu56 : Apart p5 u56 := op5.apart nn60
  have au15Xu56 : Apart u15 u56 := ou15.apart nn60
  have au16Xu56 : Apart u16 u56 := ou16.apart nn60
  have au21Xu56 : Apart u21 u56 := ou21.apart nn60
  have ag27Xu56 : Apart g27 u56 := og27.apart nn60
  have au29Xu56 : Apart u29 u56 := ou29.apart nn60
  have au30Xu56 : Apart u30 u56 := ou30.apart nn60
  have ap35Xu56 : Apart p35 u56 := op35.apart nn60
  have au41Xu56 : Apart u41 u56 := ou41.apart nn60
  have ap45Xu56 : Apart p45 u56 := op45.apart nn60
  have ag53Xu56 : Apart g53 u56 := og53.apart nn60
  have nu56 : Nw H u56 := nn60.le lE
  replace op1 := op1.le le58
  replace op5 := op5.le le58
  replace ou15 := ou15.le le58
  replace ou16 := ou16.le le58
  replace ou21 := ou21.le le58
  replace og27 := og27.le le58
  replace ou29 := ou29.le le58
  replace ou30 := ou30.le le58
  replace op35 := op35.le le58
  replace ou41 := ou41.le le58
  replace op45 := op45.le le58
  replace og53 := og53.le le58
  replace hpa := hpa.le le58
  replace hpb := hpb.le le58
  replace hqc := hqc.le le58
  replace lE := lE.trans le58
  refine ⟨le58, ?_⟩
  refine C.laws_eqLife ou29.sl ou55.sl ou30.sl ou56.sl (by omega) (by omega) (fun H61 le62 => ?_)
  replace op1 := op1.le le62
  replace op5 := op5.le le62
  replace ou15 := ou15.le le62
  replace ou16 := ou16.le le62
  replace ou21 := ou21.le le62
  replace og27 := og27.le le62
  replace ou29 := ou29.le le62
  replace ou30 := ou30.le le62
  replace op35 := op35.le le62
  replace ou41 := ou41.le le62
  replace op45 := op45.le le62
  replace og53 := og53.le le62
  replace ou55 := ou55.le le62
  replace ou56 := ou56.le le62
  replace hpa := hpa.le le62
  replace hpb := hpb.le le62
  replace hqc := hqc.le le62
  replace lE := lE.trans le62
  refine ⟨le62, ?_⟩
  refine ob_i (a := .bool false) rfl ?_
  refine cnd_f1 ?_
  refine ob_i (op45.ldn rfl) ?_
  refine ob_i (op5.ldn rfl) ?_
  refine C.laws_toField hqc (by omega) (fun u63 H64 ou63 nn66  le65 => ?_)
  have ap1Xu63 : Apart p1 u63 := op1.apart nn66
  have ap5Xu63 : Apart p5 u63 := op5.apart nn66
  have au15Xu63 : Apart u15 u63 := ou15.apart nn66
  have au16Xu63 : Apart u16 u63 := ou16.apart nn66
  have au21Xu63 : Apart u21 u63 := ou21.apart nn66
  have ag27Xu63 : Apart g27 u63 := og27.apart nn66
  have au29Xu63 : Apart u29 u63 := ou29.apart nn66
  have au30Xu63 : Apart u30 u63 := ou30.apart nn66
  have ap35Xu63 : Apart p35 u63 := op35.apart nn66
  have au41Xu63 : Apart u41 u63 := ou41.apart nn66
  have ap45Xu63 : Apart p45 u63 := op45.apart nn66
  have ag53Xu63 : Apart g53 u63 := og53.apart nn66
  have au55Xu63 : Apart u55 u63 := ou55.apart nn66
  have au56Xu63 : Apart u56 u63 := ou56.apart nn66
  have nu63 : Nw H u63 := nn66.le lE
  replace op1 := op1.le le65
  replace op5 := op5.le le65
  replace ou15 := ou15.le le65
  replace ou16 := ou16.le le65
  replace ou21 := ou21.le le65
  replace og27 := og27.le le65
  replace ou29 := ou29.le le65
  replace ou30 := ou30.le le65
  replace op35 := op35.le le65
  replace ou41 := ou41.le le65
  replace op45 := op45.le le65
  replace og53 := og53.le le65
  replace ou55 := ou55.le le65
  replace ou56 := ou56.le le65
  replace hpa := hpa.le le65
  replace hpb := hpb.le le65
  replace hqc := hqc.le le65
  replace lE := lE.trans le65
  refine ⟨le65, ?_⟩
  refine C.laws_eqField ou41.sl ou63.sl (by omega) (fun H67 le68 => ?_)
  replace op1 := op1.le le68
  replace op5 := op5.le le68
  replace ou15 := ou15.le le68
  replace ou16 := ou16.le le68
  replace ou21 := ou21.le le68
  replace og27 := og27.le le68
  replace ou29 := ou29.le le68
  replace ou30 := ou30.le le68
  replace op35 := op35.le le68
  replace ou41 := ou41.le le68
  replace op45 := op45.le le68
  replace og53 := og53.le le68
  replace ou55 := ou55.le le68
  replace ou56 := ou56.le le68
  replace ou63 := ou63.le le68
  replace hpa := hpa.le le68
  replace hpb := hpb.le le68
  replace hqc := hqc.le le68
  replace lE := lE.trans le68
  refine ⟨le68, ?_⟩
  refine ob_i (a := .bool false) rfl ?_
  refine cnd_f1 ?_
  refine ob_i (op35.ldn rfl) ?_
  refine R.laws_markLife ?_
  unfold F.laws_markLife
  refine nw_i (fun p69 H70 op69 nn71 le72 => ?_)
  have ap1Xp69 : Apart p1 p69 := op1.apart nn71
  have ap5Xp69 : Apart p5 p69 := op5.apart nn71
  have au15Xp69 : Apart u15 p69 := ou15.apart nn71
  have au16Xp69 : Apart u16 p69 := ou16.apart nn71
  have au21Xp69 : Apart u21 p69 := ou21.apart nn71
  have ag27Xp69 : Apart g27 p69 := og27.apart nn71
  have au29Xp69 : Apart u29 p69 := ou29.apart nn71
  have au30Xp69 : Apart u30 p69 := ou30.apart nn71
  have ap35Xp69 : Apart p35 p69 := op35.apart nn71
  have au41Xp69 : Apart u41 p69 := ou41.apart nn71
  have ap45Xp69 : Apart p45 p69 := op45.apart nn71
  have ag53Xp69 : Apart g53 p69 := og53.apart nn71
  have au55Xp69 : Apart u55 p69 := ou55.apart nn71
  have au56Xp69 : Apart u56 p69 := ou56.apart nn71
  have au63Xp69 : Apart u63 p69 := ou63.apart nn71
  have np69 : Nw H p69 := nn71.le lE
  replace op1 := op1.le le72
  replace op5 := op5.le le72
  replace ou15 := ou15.le le72
  replace ou16 := ou16.le le72
  replace ou21 := ou21.le le72
  replace og27 := og27.le le72
  replace ou29 := ou29.le le72
  replace ou30 := ou30.le le72
  replace op35 := op35.le le72
  replace ou41 := ou41.le le72
  replace op45 := op45.le le72
  replace og53 := og53.le le72
  replace ou55 := ou55.le le72
  replace ou56 := ou56.le le72
  replace ou63 := ou63.le le72
  replace hpa := hpa.le le72
  replace hpb := hpb.le le72
  replace hqc := hqc.le le72
  replace lE := lE.trans le72
  replace op69 : Cel H70 p69 [u29, u30] := op69
  refine ob_i (op69.fa 0) ?_
  refine ob_i (op69.ld 0 rfl) ?_
  refine C.laws_markInt64S ou29 (by omega) (by omega) (by omega) (fun H73 ou29 off74 => ?_)
  replace op1 := op1.off off74 ap1Xu29
  replace op5 := op5.off off74 ap5Xu29
  replace ou15 := ou15.off off74 au15Xu29
  replace ou16 := ou16.off off74 au16Xu29
  replace ou21 := ou21.off off74 au21Xu29
  replace og27 := og27.off off74 ag27Xu29
  replace ou30 := ou30.off off74 au29Xu30.symm
  replace op35 := op35.off off74 au29Xp35.symm
  replace ou41 := ou41.off off74 au29Xu41.symm
  replace op45 := op45.off off74 au29Xp45.symm
  replace og53 := og53.off off74 au29Xg53.symm
  replace ou55 := ou55.off off74 au29Xu55.symm
  replace ou56 := ou56.off off74 au29Xu56.symm
  replace ou63 := ou63.off off74 au29Xu63.symm
  replace op69 := op69.off off74 au29Xp69.symm
  replace hpa := hpa0.le (off74.le lE nu29)
  replace hpb := hpb0.le (off74.le lE nu29)
  replace hqc := hqc0.le (off74.le lE nu29)
  replace lE := off74.le lE nu29
  refine ob_i (op69.fa 1) ?_
  refine ob_i (op69.ld 1 rfl) ?_
  refine C.laws_markInt64S ou30 (by omega) (by omega) (by omega) (fun H75 ou30 off76 => ?_)
  replace op1 := op1.off off76 ap1Xu30
  replace op5 := op5.off off76 ap5Xu30
  replace ou15 := ou15.off off76 au15Xu30
  replace ou16 := ou16.off off76 au16Xu30
  replace ou21 := ou21.off off76 au21Xu30
  replace og27 := og27.off off76 ag27Xu30
  replace ou29 := ou29.off off76 au29Xu30
  replace op35 := op35.off off76 au30Xp35.symm
  replace ou41 := ou41.off off76 au30Xu41.symm
  replace op45 := op45.off off76 au30Xp45.symm
  replace og53 := og53.off off76 au30Xg53.symm
  replace ou55 := ou55.off off76 au30Xu55.symm
  replace ou56 := ou56.off off76 au30Xu56.symm
  replace ou63 := ou63.off off76 au30Xu63.symm
  replace op69 := op69.off off76 au30Xp69.symm
  replace hpa := hpa0.le (off76.le lE nu30)
  replace hpb := hpb0.le (off76.le lE nu30)
  replace hqc := hqc0.le (off76.le lE nu30)
  replace lE := off76.le lE nu30
  refine ob_i (op45.ldn rfl) ?_
  refine R.laws_markField ?_
  unfold F.laws_markField
  refine nw_i (fun p77 H78 op77 nn79 le80 => ?_)
  have ap1Xp77 : Apart p1 p77 := op1.apart nn79
  have ap5Xp77 : Apart p5 p77 := op5.apart nn79
  have au15Xp77 : Apart u15 p77 := ou15.apart nn79
  have au16Xp77 : Apart u16 p77 := ou16.apart nn79
  have au21Xp77 : Apart u21 p77 := ou21.apart nn79
  have ag27Xp77 : Apart g27 p77 := og27.apart nn79
  have au29Xp77 : Apart u29 p77 := ou29.apart nn79
  have au30Xp77 : Apart u30 p77 := ou30.apart nn79
  have ap35Xp77 : Apart p35 p77 := op35.apart nn79
  have au41Xp77 : Apart u41 p77 := ou41.apart nn79
  have ap45Xp77 : Apart p45 p77 := op45.apart nn79
  have ag53Xp77 : Apart g53 p77 := og53.apart nn79
  have au55Xp77 : Apart u55 p77 := ou55.apart nn79
  have au56Xp77 : Apart u56 p77 := ou56.apart nn79
  have au63Xp77 : Apart u63 p77 := ou63.apart nn79
  have ap69Xp77 : Apart p69 p77 := op69.apart nn79
  have np77 : Nw H p77 := nn79.le lE
  replace op1 := op1.le le80
  replace op5 := op5.le le80
  replace ou15 := ou15.le le80
  replace ou16 := ou16.le le80
  replace ou21 := ou21.le le80
  replace og27 := og27.le le80
  replace ou29 := ou29.le le80
  replace ou30 := ou30.le le80
  replace op35 := op35.le le80
  replace ou41 := ou41.le le80
  replace op45 := op45.le le80
  replace og53 := og53.le le80
  replace ou55 := ou55.le le80
  replace ou56 := ou56.le le80
  replace ou63 := ou63.le le80
  replace op69 := op69.le le80
  replace hpa := hpa.le le80
  replace hpb := hpb.le le80
  replace hqc := hqc.le le80
  replace lE := lE.trans le80
  replace op77 : Cel H78 p77 [(.int .i64 (qa)), (.int .i64 (qb)), u41] := op77
  refine ob_i (op77.fa 2) ?_
  refine ob_i (op77.ld 2 rfl) ?_
  refine C.laws_markInt64S ou41 (by omega) (by omega) (by omega) (fun H81 ou41 off82 => ?_)
  replace op1 := op1.off off82 ap1Xu41
  replace op5 := op5.off off82 ap5Xu41
  replace ou15 := ou15.off off82 au15Xu41
  replace ou16 := ou16.off off82 au16Xu41
  replace ou21 := ou21.off off82 au21Xu41
  replace og27 := og27.off off82 ag27Xu41
  replace ou29 := ou29.off off82 au29Xu41
  replace ou30 := ou30.off off82 au30Xu41
  replace op35 := op35.off off82 ap35Xu41
  replace op45 := op45.off off82 au41Xp45.symm
  replace og53 := og53.off off82 au41Xg53.symm
  replace ou55 := ou55.off off82 au41Xu55.symm
  replace ou56 := ou56.off off82 au41Xu56.symm
  replace ou63 := ou63.off off82 au41Xu63.symm
  replace op69 := op69.off off82 au41Xp69.symm
  replace op77 := op77.off off82 au41Xp77.symm
  replace hpa := hpa0.le (off82.le lE nu41)
  replace hpb := hpb0.le (off82.le lE nu41)
  replace hqc := hqc0.le (off82.le lE nu41)
  replace lE := off82.le lE nu41
  refine ob_i (vInt_lss_f (by omega)) ?_
  refine gop_rf ?_
  refine gop_rf ?_
  refine gop_rf ?_
  refine C.laws_eqInt64S og53.sl og27.sl (by omega) ?_
  rw [decide_eq_true rfl]
  refine gop_rf ?_
  refine ob_i (a := .bool false) rfl ?_
  refine ob_i (vPick_f _ _) ?_
  refine gop_rf ?_
  refine gop_rf ?_
  refine gop_rf ?_
  refine ob_i (vBool_neq_same _) ?_
  refine ob_i (vPick_f _ _) ?_
  refine cnd_f1 ?_
  refine C.laws_markInt64S og53 (by omega) (by omega) (by omega) (fun H83 og53 off84 => ?_)
  replace op1 := op1.off off84 ap1Xg53
  replace op5 := op5.off off84 ap5Xg53
  replace ou15 := ou15.off off84 au15Xg53
  replace ou16 := ou16.off off84 au16Xg53
  replace ou21 := ou21.off off84 au21Xg53
  replace og27 := og27.off off84 ag27Xg53
  replace ou29 := ou29.off off84 au29Xg53
  replace ou30 := ou30.off off84 au30Xg53
  replace op35 := op35.off off84 ap35Xg53
  replace ou41 := ou41.off off84 au41Xg53
  replace op45 := op45.off off84 ap45Xg53
  replace ou55 := ou55.off off84 ag53Xu55.symm
  replace ou56 := ou56.off off84 ag53Xu56.symm
  replace ou63 := ou63.off off84 ag53Xu63.symm
  replace op69 := op69.off off84 ag53Xp69.symm
  replace op77 := op77.off off84 ag53Xp77.symm
  replace hpa := hpa0.le (off84.le lE ng53)
  replace hpb := hpb0.le (off84.le lE ng53)
  replace hqc := hqc0.le (off84.le lE ng53)
  replace lE := off84.le lE ng53
  refine C.laws_heldInt64S og53.sl (by omega) (by omega) (by omega) ?_
  refine ob_i (vInt_lss_f (by omega)) ?_
  refine cnd_f1 ?_
  refine ob_i (vInt_neq_same _ _) ?_
  refine cnd_f1 ?_
  refine ob_i (op1.ldn rfl) ?_
  refine ob_i (op5.ldn rfl) ?_
  refine C.laws_toLife hpa hpb (by omega) (by omega) (fun u85 u86 H87 ou85 ou86 nn89 nn90 au85Xu86 le88 => ?_)
  have ap1Xu85 : Apart p1 u85 := op1.apart nn89
  have ap5Xu85 : Apart p5 u85 := op5.apart nn89
  have au15Xu85 : Apart u15 u85 := ou15.apart nn89
  have au16Xu85 : Apart u16 u85 := ou16.apart nn89
  have au21Xu85 : Apart u21 u85 := ou21.apart nn89
  have ag27Xu85 : Apart g27 u85 := og27.apart nn89
  have au29Xu85 : Apart u29 u85 := ou29.apart nn89
  have au30Xu85 : Apart u30 u85 := ou30.apart nn89
  have ap35Xu85 : Apart p35 u85 := op35.apart nn89
  have au41Xu85 : Apart u41 u85 := ou41.apart nn89
  have ap45Xu85 : Apart p45 u85 := op45.apart nn89
  have ag53Xu85 : Apart g53 u85 := og53.apart nn89
  have au55Xu85 : Apart u55 u85 := ou55.apart nn89
  have au56Xu85 : Apart u56 u85 := ou56.apart nn89
  have au63Xu85 : Apart u63 u85 := ou63.apart nn89
  have ap69Xu85 : Apart p69 u85 := op69.apart nn89
  have ap77Xu85 : Apart p77 u85 := op77.apart nn89
  have nu85 : Nw H u85 := nn89.le lE
  have ap1Xu86 : Apart p1 u86 := op1.apart nn90
  have ap5Xu86 : Apart p5 u86 := op5.apart nn90
  have au15Xu86 : Apart u15 u86 := ou15.apart nn90
  have au16Xu86 : Apart u16 u86 := ou16.apart nn90
  have au21Xu86 : Apart u21 u86 := ou21.apart nn90
  have ag27Xu86 : Apart g27 u86 := og27.apart nn90
  have au29Xu86 : Apart u29 u86 := ou29.apart nn90
  have au30Xu86 : Apart u30 u86 := ou30.apart nn90
  have ap35Xu86 : Apart p35 u86 := op35.apart nn90
  have au41Xu86 : Apart u41 u86 := ou41.apart nn90
  have ap45Xu86 : Apart p45 u86 := op45.apart nn90
  have ag53Xu86 : Apart g53 u86 := og53.apart nn90
  have au55Xu86 : Apart u55 u86 := ou55.apart nn90
  have au56Xu86 : Apart u56 u86 := ou56.apart nn90
  have au63Xu86 : Apart u63 u86 := ou63.apart nn90
  have ap69Xu86 : Apart p69 u86 := op69.apart nn90
  have ap77Xu86 : Apart p77 u86 := op77.apart nn90
  have nu86 : Nw H u86 := nn90.le lE
  replace op1 := op1.le le88
  replace op5 := op5.le le88
  replace ou15 := ou15.le le88
  replace ou16 := ou16.le le88
  replace ou21 := ou21.le le88
  replace og27 := og27.le le88
  replace ou29 := ou29.le le88
  replace ou30 := ou30.le le88
  replace op35 := op35.le le88
  replace ou41 := ou41.le le88
  replace op45 := op45.le le88
  replace og53 := og53.le le88
  replace ou55 := ou55.le le88
  replace ou56 := ou56.le le88
  replace ou63 := ou63.le le88
  replace op69 := op69.le le88
  replace op77 := op77.le le88
  replace hpa := hpa.le le88
  replace hpb := hpb.le le88
  replace hqc := hqc.le le88
  replace lE := lE.trans le88
  refine ⟨le88, ?_⟩
  refine C.laws_toField hqc (by omega) (fun u91 H92 ou91 nn94  le93 => ?_)
  have ap1Xu91 : Apart p1 u91 := op1.apart nn94
  have ap5Xu91 : Apart p5 u91 := op5.apart nn94
  have au15Xu91 : Apart u15 u91 := ou15.apart nn94
  have au16Xu91 : Apart u16 u91 := ou16.apart nn94
  have au21Xu91 : Apart u21 u91 := ou21.apart nn94
  have ag27Xu91 : Apart g27 u91 := og27.apart nn94
  have au29Xu91 : Apart u29 u91 := ou29.apart nn94
  have au30Xu91 : Apart u30 u91 := ou30.apart nn94
  have ap35Xu91 : Apart p35 u91 := op35.apart nn94
  have au41Xu91 : Apart u41 u91 := ou41.apart nn94
  have ap45Xu91 : Apart p45 u91 := op45.apart nn94
  have ag53Xu91 : Apart g53 u91 := og53.apart nn94
  have au55Xu91 : Apart u55 u91 := ou55.apart nn94
  have au56Xu91 : Apart u56 u91 := ou56.apart nn94
  have au63Xu91 : Apart u63 u91 := ou63.apart nn94
  have ap69Xu91 : Apart p69 u91 := op69.apart nn94
  have ap77Xu91 : Apart p77 u91 := op77.apart nn94
  have au85Xu91 : Apart u85 u91 := ou85.apart nn94
  have au86Xu91 : Apart u86 u91 := ou86.apart nn94
  have nu91 : Nw H u91 := nn94.le lE
  replace op1 := op1.le le93
  replace op5 := op5.le le93
  replace ou15 := ou15.le le93
  replace ou16 := ou16.le le93
  replace ou21 := ou21.le le93
  replace og27 := og27.le le93
  replace ou29 := ou29.le le93
  replace ou30 := ou30.le le93
  replace op35 := op35.le le93
  replace ou41 := ou41.le le93
  replace op45 := op45.le le93
  replace og53 := og53.le le93
  replace ou55 := ou55.le le93
  replace ou56 := ou56.le le93
  replace ou63 := ou63.le le93
  replace op69 := op69.le le93
  replace op77 := op77.le le93
  replace ou85 := ou85.le le93
  replace ou86 := ou86.le le93
  replace hpa := hpa.le le93
  replace hpb := hpb.le le93
  replace hqc := hqc.le le93
  replace lE := lE.trans le93
  refine ⟨le93, ?_⟩
  refine C.impl_CountsAhead ou85.sl ou86.sl ou91.sl (by omega) (by omega) (by omega)  (fun g97 H95 og97 nn98  le96 => ?_)
  have ap1Xg97 : Apart p1 g97 := op1.apart nn98
  have ap5Xg97 : Apart p5 g97 := op5.apart nn98
  have au15Xg97 : Apart u15 g97 := ou15.apart nn98
  have au16Xg97 : Apart u16 g97 := ou16.apart nn98
  have au21Xg97 : Apart u21 g97 := ou21.apart nn98
  have ag27Xg97 : Apart g27 g97 := og27.apart nn98
  have au29Xg97 : Apart u29 g97 := ou29.apart nn98
  have au30Xg97 : Apart u30 g97 := ou30.apart nn98
  have ap35Xg97 : Apart p35 g97 := op35.apart nn98
  have au41Xg97 : Apart u41 g97 := ou41.apart nn98
  have ap45Xg97 : Apart p45 g97 := op45.apart nn98
  have ag53Xg97 : Apart g53 g97 := og53.apart nn98
  have au55Xg97 : Apart u55 g97 := ou55.apart nn98
  have au56Xg97 : Apart u56 g97 := ou56.apart nn98
  have au63Xg97 : Apart u63 g97 := ou63.apart nn98
  have ap69Xg97 : Apart p69 g97 := op69.apart nn98
  have ap77Xg97 : Apart p77 g97 := op77.apart nn98
  have au85Xg97 : Apart u85 g97 := ou85.apart nn98
  have au86Xg97 : Apart u86 g97 := ou86.apart nn98
  have au91Xg97 : Apart u91 g97 := ou91.apart nn98
  have ng97 : Nw H g97 := nn98.le lE
  replace op1 := op1.le le96
  replace op5 := op5.le le96
  replace ou15 := ou15.le le96
  replace ou16 := ou16.le le96
  replace ou21 := ou21.le le96
  replace og27 := og27.le le96
  replace ou29 := ou29.le le96
  replace ou30 := ou30.le le96
  replace op35 := op35.le le96
  replace ou41 := ou41.le le96
  replace op45 := op45.le le96
  replace og53 := og53.le le96
  replace ou55 := ou55.le le96
  replace ou56 := ou56.le le96
  replace ou63 := ou63.le le96
  replace op69 := op69.le le96
  replace op77 := op77.le le96
  replace ou85 := ou85.le le96
  replace ou86 := ou86.le le96
  replace ou91 := ou91.le le96
  replace hpa := hpa.le le96
  replace hpb := hpb.le le96
  replace hqc := hqc.le le96
  replace lE := lE.trans le96
  refine ⟨le96, ?_⟩
  refine ob_i (vExt_20 _ _) ?_
  refine ob_i (vExt_21 _ _) ?_
  refine C.laws_eqInt64S og97.sl og27.sl (by omega) ?_
  rw [decide_eq_true rfl]
  refine ob_i (a := .bool false) rfl ?_
  refine gop_rf ?_
  refine gop_rf ?_
  refine gop_rf ?_
  refine ob_i (vBool_neq_same _) ?_
  refine ob_i (vPick_f _ _) ?_
  refine cnd_f1 ?_
  refine C.laws_heldInt64S og53.sl (by omega) (by omega) (by omega) ?_
  refine ob_i (vInt_lss_f (by omega)) ?_
  refine cnd_f1 ?_
  refine ob_i (vInt_neq_same _ _) ?_
  refine cnd_f1 ?_
  exact hk _ lE
end Go.Proofs.Ythbffbpdoankjaa
