/- Laws, each by its two sides: its function returns true, and what was known before stays. -/
import Derived.Test.YthbffbpdoankjaaUJ
import Derived.Test.YthbffbpdoankjaaQH
import Derived.Test.YthbffbpdoankjaaQI
import Derived.Test.YthbffbpdoankjaaSE
namespace Go.Proofs.Ythbffbpdoankjaa
open HL
set_option maxRecDepth 100000
theorem L.FnExactInnerLife {pa : Value} {spa : List Int} {pb : Value} {spb : List Int} {qa : Int} {qb : Int} {qc : Value} {sqc : List Int} {H : Hp} {K : Value → Hp → Prop} (hpa0 : Sl eI H pa spa) (hpb0 : Sl eI H pb spb) (hqc0 : Sl eI H qc sqc) (mspa : (spa).length ≤ 9223372036854775807) (mspb : (spb).length ≤ 9223372036854775807) (msqc : (sqc).length ≤ 9223372036854775807) (hk : ∀ H', Le H H' → K (.bool true) H') :
    HT prg I.laws_FnExactInnerLife [(.agg #[pa, pb]), (.agg #[(.int .i64 (qa)), (.int .i64 (qb)), qc])].toArray H K := by
  have hR := @inf_len spa spb qa qb sqc
  have lE := Le.refl H
  have hpa := hpa0
  have hpb := hpb0
  have hqc := hqc0
  refine R.laws_FnExactInnerLife ?_
  unfold F.laws_FnExactInnerLife
  refine nw_i (fun p1 H2 op1 nn3 le4 => ?_)
  have np1 : Nw H p1 := nn3.le lE
  replace hpa := hpa.le le4
  replace hpb := hpb.le le4
  replace hqc := hqc.le le4
  replace lE := lE.trans le4
  replace op1 : Cel H2 p1 [pa, pb] := op1
  refine nw_i (fun p5 H6 op5 nn7 le8 => ?_)
  have ap1Xp5 : Apart p1 p5 := op1.apart nn7
  have np5 : Nw H p5 := nn7.le lE
  replace op1 := op1.le le8
  replace hpa := hpa.le le8
  replace hpb := hpb.le le8
  replace hqc := hqc.le le8
  replace lE := lE.trans le8
  replace op5 : Cel H6 p5 [(.int .i64 (qa)), (.int .i64 (qb)), qc] := op5
  refine ob_i (op1.ldn rfl) ?_
  refine C.laws_szLife hpa hpb (by omega) (by omega) (by omega) (by omega) (fun H10 le11 => ?_) (fun H10 le11 hz9 => ?_)
  · skip
    replace op1 := op1.le le11
    replace op5 := op5.le le11
    replace hpa := hpa.le le11
    replace hpb := hpb.le le11
    replace hqc := hqc.le le11
    replace lE := lE.trans le11
    refine ob_i (vInt_lss_t (by omega)) ?_
    refine cnd_t1 ?_
    exact hk _ lE
  replace op1 := op1.le le11
  replace op5 := op5.le le11
  replace hpa := hpa.le le11
  replace hpb := hpb.le le11
  replace hqc := hqc.le le11
  replace lE := lE.trans le11
  refine ob_i (vInt_lss_f (by omega)) ?_
  refine cnd_f1 ?_
  refine ob_i (op5.ldn rfl) ?_
  refine C.laws_szField hqc (by omega) (by omega) (by omega) (fun H13 le14 => ?_) (fun H13 le14 hz12 => ?_)
  · skip
    replace op1 := op1.le le14
    replace op5 := op5.le le14
    replace hpa := hpa.le le14
    replace hpb := hpb.le le14
    replace hqc := hqc.le le14
    replace lE := lE.trans le14
    refine ob_i (vInt_lss_t (by omega)) ?_
    refine cnd_t1 ?_
    exact hk _ lE
  replace op1 := op1.le le14
  replace op5 := op5.le le14
  replace hpa := hpa.le le14
  replace hpb := hpb.le le14
  replace hqc := hqc.le le14
  replace lE := lE.trans le14
  refine ob_i (vInt_lss_f (by omega)) ?_
  refine cnd_f1 ?_
  refine ob_i (op1.ldn rfl) ?_
  refine ob_i (op5.ldn rfl) ?_
  refine C.laws_toLife hpa hpb (by omega) (by omega) (fun u15 u16 H17 ou15 ou16 nn19 nn20 au15Xu16 le18 => ?_)
  have ap1Xu15 : Apart p1 u15 := op1.apart nn19
  have ap5Xu15 : Apart p5 u15 := op5.apart nn19
  have nu15 : Nw H u15 := nn19.le lE
  have ap1Xu16 : Apart p1 u16 := op1.apart nn20
  have ap5Xu16 : Apart p5 u16 := op5.apart nn20
  have nu16 : Nw H u16 := nn20.le lE
  replace op1 := op1.le le18
  replace op5 := op5.le le18
  replace hpa := hpa.le le18
  replace hpb := hpb.le le18
  replace hqc := hqc.le le18
  replace lE := lE.trans le18
  refine ⟨le18, ?_⟩
  refine C.laws_toField hqc (by omega) (fun u21 H22 ou21 nn24  le23 => ?_)
  have ap1Xu21 : Apart p1 u21 := op1.apart nn24
  have ap5Xu21 : Apart p5 u21 := op5.apart nn24
  have au15Xu21 : Apart u15 u21 := ou15.apart nn24
  have au16Xu21 : Apart u16 u21 := ou16.apart nn24
  have nu21 : Nw H u21 := nn24.le lE
  replace op1 := op1.le le23
  replace op5 := op5.le le23
  replace ou15 := ou15.le le23
  replace ou16 := ou16.le le23
  replace hpa := hpa.le le23
  replace hpb := hpb.le le23
  replace hqc := hqc.le le23
  replace lE := lE.trans le23
  refine ⟨le23, ?_⟩
  refine C.spec_InnerLife ou15.sl ou16.sl ou21.sl (by omega) (by omega) (by omega)  (fun g27 H25 og27 nn28  le26 => ?_)
  have ap1Xg27 : Apart p1 g27 := op1.apart nn28
  have ap5Xg27 : Apart p5 g27 := op5.apart nn28
  have au15Xg27 : Apart u15 g27 := ou15.apart nn28
  have au16Xg27 : Apart u16 g27 := ou16.apart nn28
  have au21Xg27 : Apart u21 g27 := ou21.apart nn28
  have ng27 : Nw H g27 := nn28.le lE
  replace op1 := op1.le le26
  replace op5 := op5.le le26
  replace ou15 := ou15.le le26
  replace ou16 := ou16.le le26
  replace ou21 := ou21.le le26
  replace hpa := hpa.le le26
  replace hpb := hpb.le le26
  replace hqc := hqc.le le26
  replace lE := lE.trans le26
  refine ⟨le26, ?_⟩
  refine ob_i (vExt_20 _ _) ?_
  refine ob_i (vExt_21 _ _) ?_
  refine nw_i (fun p29 H30 op29 nn31 le32 => ?_)
  have ap1Xp29 : Apart p1 p29 := op1.apart nn31
  have ap5Xp29 : Apart p5 p29 := op5.apart nn31
  have au15Xp29 : Apart u15 p29 := ou15.apart nn31
  have au16Xp29 : Apart u16 p29 := ou16.apart nn31
  have au21Xp29 : Apart u21 p29 := ou21.apart nn31
  have ag27Xp29 : Apart g27 p29 := og27.apart nn31
  have np29 : Nw H p29 := nn31.le lE
  replace op1 := op1.le le32
  replace op5 := op5.le le32
  replace ou15 := ou15.le le32
  replace ou16 := ou16.le le32
  replace ou21 := ou21.le le32
  replace og27 := og27.le le32
  replace hpa := hpa.le le32
  replace hpb := hpb.le le32
  replace hqc := hqc.le le32
  replace lE := lE.trans le32
  replace op29 : Cel H30 p29 [(.int .i64 (0)), (.int .i64 (0)), (.slice none 0 0)] := op29
  refine op29.stn (ws := [(.int .i64 (selI (inP spa spb qa qb sqc) (qa / 2))), (.int .i64 (selI (inP spa spb qa qb sqc) (qb / 2))), g27]) rfl rfl (oc1 rfl (oc1 rfl (oc1 og27.one oc0))) (fun H33 op29 off34 => ?_)
  replace op1 := op1.off off34 ap1Xp29
  replace op5 := op5.off off34 ap5Xp29
  replace ou15 := ou15.off off34 au15Xp29
  replace ou16 := ou16.off off34 au16Xp29
  replace ou21 := ou21.off off34 au21Xp29
  replace og27 := og27.off off34 ag27Xp29
  replace hpa := hpa0.le (off34.le lE np29)
  replace hpb := hpb0.le (off34.le lE np29)
  replace hqc := hqc0.le (off34.le lE np29)
  replace lE := off34.le lE np29
  replace op29 : Cel H33 p29 [(.int .i64 (selI (inP spa spb qa qb sqc) (qa / 2))), (.int .i64 (selI (inP spa spb qa qb sqc) (qb / 2))), g27] := op29
  refine ob_i (op1.ldn rfl) ?_
  refine C.laws_toLife hpa hpb (by omega) (by omega) (fun u35 u36 H37 ou35 ou36 nn39 nn40 au35Xu36 le38 => ?_)
  have ap1Xu35 : Apart p1 u35 := op1.apart nn39
  have ap5Xu35 : Apart p5 u35 := op5.apart nn39
  have au15Xu35 : Apart u15 u35 := ou15.apart nn39
  have au16Xu35 : Apart u16 u35 := ou16.apart nn39
  have au21Xu35 : Apart u21 u35 := ou21.apart nn39
  have ag27Xu35 : Apart g27 u35 := og27.apart nn39
  have ap29Xu35 : Apart p29 u35 := op29.apart nn39
  have nu35 : Nw H u35 := nn39.le lE
  have ap1Xu36 : Apart p1 u36 := op1.apart nn40
  have ap5Xu36 : Apart p5 u36 := op5.apart nn40
  have au15Xu36 : Apart u15 u36 := ou15.apart nn40
  have au16Xu36 : Apart u16 u36 := ou16.apart nn40
  have au21Xu36 : Apart u21 u36 := ou21.apart nn40
  have ag27Xu36 : Apart g27 u36 := og27.apart nn40
  have ap29Xu36 : Apart p29 u36 := op29.apart nn40
  have nu36 : Nw H u36 := nn40.le lE
  replace op1 := op1.le le38
  replace op5 := op5.le le38
  replace ou15 := ou15.le le38
  replace ou16 := ou16.le le38
  replace ou21 := ou21.le le38
  replace og27 := og27.le le38
  replace op29 := op29.le le38
  replace hpa := hpa.le le38
  replace hpb := hpb.le le38
  replace hqc := hqc.le le38
  replace lE := lE.trans le38
  refine nw_i (fun p41 H42 op41 nn43 le44 => ?_)
  have ap1Xp41 : Apart p1 p41 := op1.apart nn43
  have ap5Xp41 : Apart p5 p41 := op5.apart nn43
  have au15Xp41 : Apart u15 p41 := ou15.apart nn43
  have au16Xp41 : Apart u16 p41 := ou16.apart nn43
  have au21Xp41 : Apart u21 p41 := ou21.apart nn43
  have ag27Xp41 : Apart g27 p41 := og27.apart nn43
  have ap29Xp41 : Apart p29 p41 := op29.apart nn43
  have au35Xp41 : Apart u35 p41 := ou35.apart nn43
  have au36Xp41 : Apart u36 p41 := ou36.apart nn43
  have np41 : Nw H p41 := nn43.le lE
  replace op1 := op1.le le44
  replace op5 := op5.le le44
  replace ou15 := ou15.le le44
  replace ou16 := ou16.le le44
  replace ou21 := ou21.le le44
  replace og27 := og27.le le44
  replace op29 := op29.le le44
  replace ou35 := ou35.le le44
  replace ou36 := ou36.le le44
  replace hpa := hpa.le le44
  replace hpb := hpb.le le44
  replace hqc := hqc.le le44
  replace lE := lE.trans le44
  replace op41 : Cel H42 p41 [(.slice none 0 0), (.slice none 0 0)] := op41
  refine op41.stn (ws := [u35, u36]) rfl rfl (oc1 ou35.one (oc1 ou36.one oc0)) (fun H45 op41 off46 => ?_)
  replace op1 := op1.off off46 ap1Xp41
  replace op5 := op5.off off46 ap5Xp41
  replace ou15 := ou15.off off46 au15Xp41
  replace ou16 := ou16.off off46 au16Xp41
  replace ou21 := ou21.off off46 au21Xp41
  replace og27 := og27.off off46 ag27Xp41
  replace op29 := op29.off off46 ap29Xp41
  replace ou35 := ou35.off off46 au35Xp41
  replace ou36 := ou36.off off46 au36Xp41
  replace hpa := hpa0.le (off46.le lE np41)
  replace hpb := hpb0.le (off46.le lE np41)
  replace hqc := hqc0.le (off46.le lE np41)
  replace lE := off46.le lE np41
  replace op41 : Cel H45 p41 [u35, u36] := op41
  refine ob_i (op5.ldn rfl) ?_
  refine C.laws_toField hqc (by omega) (fun u47 H48 ou47 nn50  le49 => ?_)
  have ap1Xu47 : Apart p1 u47 := op1.apart nn50
  have ap5Xu47 : Apart p5 u47 := op5.apart nn50
  have au15Xu47 : Apart u15 u47 := ou15.apart nn50
  have au16Xu47 : Apart u16 u47 := ou16.apart nn50
  have au21Xu47 : Apart u21 u47 := ou21.apart nn50
  have ag27Xu47 : Apart g27 u47 := og27.apart nn50
  have ap29Xu47 : Apart p29 u47 := op29.apart nn50
  have au35Xu47 : Apart u35 u47 := ou35.apart nn50
  have au36Xu47 : Apart u36 u47 := ou36.apart nn50
  have ap41Xu47 : Apart p41 u47 := op41.apart nn50
  have nu47 : Nw H u47 := nn50.le lE
  replace op1 := op1.le le49
  replace op5 := op5.le le49
  replace ou15 := ou15.le le49
  replace ou16 := ou16.le le49
  replace ou21 := ou21.le le49
  replace og27 := og27.le le49
  replace op29 := op29.le le49
  replace ou35 := ou35.le le49
  replace ou36 := ou36.le le49
  replace op41 := op41.le le49
  replace hpa := hpa.le le49
  replace hpb := hpb.le le49
  replace hqc := hqc.le le49
  replace lE := lE.trans le49
  refine nw_i (fun p51 H52 op51 nn53 le54 => ?_)
  have ap1Xp51 : Apart p1 p51 := op1.apart nn53
  have ap5Xp51 : Apart p5 p51 := op5.apart nn53
  have au15Xp51 : Apart u15 p51 := ou15.apart nn53
  have au16Xp51 : Apart u16 p51 := ou16.apart nn53
  have au21Xp51 : Apart u21 p51 := ou21.apart nn53
  have ag27Xp51 : Apart g27 p51 := og27.apart nn53
  have ap29Xp51 : Apart p29 p51 := op29.apart nn53
  have au35Xp51 : Apart u35 p51 := ou35.apart nn53
  have au36Xp51 : Apart u36 p51 := ou36.apart nn53
  have ap41Xp51 : Apart p41 p51 := op41.apart nn53
  have au47Xp51 : Apart u47 p51 := ou47.apart nn53
  have np51 : Nw H p51 := nn53.le lE
  replace op1 := op1.le le54
  replace op5 := op5.le le54
  replace ou15 := ou15.le le54
  replace ou16 := ou16.le le54
  replace ou21 := ou21.le le54
  replace og27 := og27.le le54
  replace op29 := op29.le le54
  replace ou35 := ou35.le le54
  replace ou36 := ou36.le le54
  replace op41 := op41.le le54
  replace ou47 := ou47.le le54
  replace hpa := hpa.le le54
  replace hpb := hpb.le le54
  replace hqc := hqc.le le54
  replace lE := lE.trans le54
  replace op51 : Cel H52 p51 [(.int .i64 (0)), (.int .i64 (0)), (.slice none 0 0)] := op51
  refine op51.stn (ws := [(.int .i64 (qa)), (.int .i64 (qb)), u47]) rfl rfl (oc1 rfl (oc1 rfl (oc1 ou47.one oc0))) (fun H55 op51 off56 => ?_)
  replace op1 := op1.off off56 ap1Xp51
  replace op5 := op5.off off56 ap5Xp51
  replace ou15 := ou15.off off56 au15Xp51
  replace ou16 := ou16.off off56 au16Xp51
  replace ou21 := ou21.off off56 au21Xp51
  replace og27 := og27.off off56 ag27Xp51
  replace op29 := op29.off off56 ap29Xp51
  replace ou35 := ou35.off off56 au35Xp51
  replace ou36 := ou36.off off56 au36Xp51
  replace op41 := op41.off off56 ap41Xp51
  replace ou47 := ou47.off off56 au47Xp51
  replace hpa := hpa0.le (off56.le lE np51)
  replace hpb := hpb0.le (off56.le lE np51)
  replace hqc := hqc0.le (off56.le lE np51)
  replace lE := off56.le lE np51
  replace op51 : Cel H55 p51 [(.int .i64 (qa)), (.int .i64 (qb)), u47] := op51
  refine ob_i (op41.ldn rfl) ?_
  refine ob_i (op51.ldn rfl) ?_
  refine C.impl_InnerLife ou35.sl ou36.sl ou47.sl (by omega) (by omega) (by omega)  (fun g59 H57 og59 nn60  le58 => ?_)
  have ap1Xg59 : Apart p1 g59 := op1.apart nn60
  have ap5Xg59 : Apart p5 g59 := op5.apart nn60
  have au15Xg59 : Apart u15 g59 := ou15.apart nn60
  have au16Xg59 : Apart u16 g59 := ou16.apart nn60
  have au21Xg59 : Apart u21 g59 := ou21.apart nn60
  have ag27Xg59 : Apart g27 g59 := og27.apart nn60
  have ap29Xg59 : Apart p29 g59 := op29.apart nn60
  have au35Xg59 : Apart u35 g59 := ou35.apart nn60
  have au36Xg59 : Apart u36 g59 := ou36.apart nn60
  have ap41Xg59 : Apart p41 g59 := op41.apart nn60
  have au47Xg59 : Apart u47 g59 := ou47.apart nn60
  have ap51Xg59 : Apart p51 g59 := op51.apart nn60
  have ng59 : Nw H g59 := nn60.le lE
  replace op1 := op1.le le58
  replace op5 := op5.le le58
  replace ou15 := ou15.le le58
  replace ou16 := ou16.le le58
  replace ou21 := ou21.le le58
  replace og27 := og27.le le58
  replace op29 := op29.le le58
  replace ou35 := ou35.le le58
  replace ou36 := ou36.le le58
  replace op41 := op41.le le58
  replace ou47 := ou47.le le58
  replace op51 := op51.le le58
  replace hpa := hpa.le le58
  replace hpb := hpb.le le58
  replace hqc := hqc.le le58
  replace lE := lE.trans le58
  refine ob_i (vExt_20 _ _) ?_
  refine ob_i (vExt_21 _ _) ?_
  refine nw_i (fun p61 H62 op61 nn63 le64 => ?_)
  have ap1Xp61 : Apart p1 p61 := op1.apart nn63
  have ap5Xp61 : Apart p5 p61 := op5.apart nn63
  have au15Xp61 : Apart u15 p61 := ou15.apart nn63
  have au16Xp61 : Apart u16 p61 := ou16.apart nn63
  have au21Xp61 : Apart u21 p61 := ou21.apart nn63
  have ag27Xp61 : Apart g27 p61 := og27.apart nn63
  have ap29Xp61 : Apart p29 p61 := op29.apart nn63
  have au35Xp61 : Apart u35 p61 := ou35.apart nn63
  have au36Xp61 : Apart u36 p61 := ou36.apart nn63
  have ap41Xp61 : Apart p41 p61 := op41.apart nn63
  have au47Xp61 : Apart u47 p61 := ou47.apart nn63
  have ap51Xp61 : Apart p51 p61 := op51.apart nn63
  have ag59Xp61 : Apart g59 p61 := og59.apart nn63
  have np61 : Nw H p61 := nn63.le lE
  replace op1 := op1.le le64
  replace op5 := op5.le le64
  replace ou15 := ou15.le le64
  replace ou16 := ou16.le le64
  replace ou21 := ou21.le le64
  replace og27 := og27.le le64
  replace op29 := op29.le le64
  replace ou35 := ou35.le le64
  replace ou36 := ou36.le le64
  replace op41 := op41.le le64
  replace ou47 := ou47.le le64
  replace op51 := op51.le le64
  replace og59 := og59.le le64
  replace hpa := hpa.le le64
  replace hpb := hpb.le le64
  replace hqc := hqc.le le64
  replace lE := lE.trans le64
  replace op61 : Cel H62 p61 [(.int .i64 (0)), (.int .i64 (0)), (.slice none 0 0)] := op61
  refine op61.stn (ws := [(.int .i64 (selI (inP spa spb qa qb sqc) (qa / 2))), (.int .i64 (selI (inP spa spb qa qb sqc) (qb / 2))), g59]) rfl rfl (oc1 rfl (oc1 rfl (oc1 og59.one oc0))) (fun H65 op61 off66 => ?_)
  replace op1 := op1.off off66 ap1Xp61
  replace op5 := op5.off off66 ap5Xp61
  replace ou15 := ou15.off off66 au15Xp61
  replace ou16 := ou16.off off66 au16Xp61
  replace ou21 := ou21.off off66 au21Xp61
  replace og27 := og27.off off66 ag27Xp61
  replace op29 := op29.off off66 ap29Xp61
  replace ou35 := ou35.off off66 au35Xp61
  replace ou36 := ou36.off off66 au36Xp61
  replace op41 := op41.off off66 ap41Xp61
  replace ou47 := ou47.off off66 au47Xp61
  replace op51 := op51.off off66 ap51Xp61
  replace og59 := og59.off off66 ag59Xp61
  replace hpa := hpa0.le (off66.le lE np61)
  replace hpb := hpb0.le (off66.le lE np61)
  replace hqc := hqc0.le (off66.le lE np61)
  replace lE := off66.le lE np61
  replace op61 : Cel H65 p61 [(.int .i64 (selI (inP spa spb qa qb sqc) (qa / 2))), (.int .i64 (selI (inP spa spb qa qb sqc) (qb / 2))), g59] := op61
  refine ob_i (op61.ldn rfl) ?_
  refine ob_i (op29.ldn rfl) ?_
  refine C.laws_eqField og59.sl og27.sl (by omega) (fun H67 le68 => ?_)
  replace op1 := op1.le le68
  replace op5 := op5.le le68
  replace ou15 := ou15.le le68
  replace ou16 := ou16.le le68
  replace ou21 := ou21.le le68
  replace og27 := og27.le le68
  replace op29 := op29.le le68
  replace ou35 := ou35.le le68
  replace ou36 := ou36.le le68
  replace op41 := op41.le le68
  replace ou47 := ou47.le le68
  replace op51 := op51.le le68
  replace og59 := og59.le le68
  replace op61 := op61.le le68
  replace hpa := hpa.le le68
  replace hpb := hpb.le le68
  replace hqc := hqc.le le68
  replace lE := lE.trans le68
  refine ob_i (a := .bool false) rfl ?_
  refine gop_rf ?_
  refine gop_rf ?_
  refine gop_rf ?_
  refine ob_i (vBool_neq_same _) ?_
  refine ob_i (vPick_f _ _) ?_
  refine cnd_f1 ?_
  refine ob_i (op41.ldn rfl) ?_
  refine ob_i (op1.ldn rfl) ?_
  refine C.laws_toLife hpa hpb (by omega) (by omega) (fun u69 u70 H71 ou69 ou70 nn73 nn74 au69Xu70 le72 => ?_)
  have ap1Xu69 : Apart p1 u69 := op1.apart nn73
  have ap5Xu69 : Apart p5 u69 := op5.apart nn73
  have au15Xu69 : Apart u15 u69 := ou15.apart nn73
  have au16Xu69 : Apart u16 u69 := ou16.apart nn73
  have au21Xu69 : Apart u21 u69 := ou21.apart nn73
  have ag27Xu69 : Apart g27 u69 := og27.apart nn73
  have ap29Xu69 : Apart p29 u69 := op29.apart nn73
  have au35Xu69 : Apart u35 u69 := ou35.apart nn73
  have au36Xu69 : Apart u36 u69 := ou36.apart nn73
  have ap41Xu69 : Apart p41 u69 := op41.apart nn73
  have au47Xu69 : Apart u47 u69 := ou47.apart nn73
  have ap51Xu69 : Apart p51 u69 := op51.apart nn73
  have ag59Xu69 : Apart g59 u69 := og59.apart nn73
  have ap61Xu69 : Apart p61 u69 := op61.apart nn73
  have nu69 : Nw H u69 := nn73.le lE
  have ap1Xu70 : Apart p1 u70 := op1.apart nn74
  have ap5Xu70 : Apart p5 u70 := op5.apart nn74
  have au15Xu70 : Apart u15 u70 := ou15.apart nn74
  have au16Xu70 : Apart u16 u70 := ou16.apart nn74
  have au21Xu70 : Apart u21 u70 := ou21.apart nn74
  have ag27Xu70 : Apart g27 u70 := og27.apart nn74
  have ap29Xu70 : Apart p29 u70 := op29.apart nn74
  have au35Xu70 : Apart u35 u70 := ou35.apart nn74
  have au36Xu70 : Apart u36 u70 := ou36.apart nn74
  have ap41Xu70 : Apart p41 u70 := op41.apart nn74
  have au47Xu70 : Apart u47 u70 := ou47.apart nn74
  have ap51Xu70 : Apart p51 u70 := op51.apart nn74
  have ag59Xu70 : Apart g59 u70 := og59.apart nn74
  have ap61Xu70 : Apart p61 u70 := op61.apart nn74
  have nu70 : Nw H u70 := nn74.le lE
  replace op1 := op1.le le72
  replace op5 := op5.le le72
  replace ou15 := ou15.le le72
  replace ou16 := ou16.le le72
  replace ou21 := ou21.le le72
  replace og27 := og27.le le72
  replace op29 := op29.le le72
  replace ou35 := ou35.le le72
  replace ou36 := ou36.le le72
  replace op41 := op41.le le72
  replace ou47 := ou47.le le72
  replace op51 := op51.le le72
  replace og59 := og59.le le72
  replace op61 := op61.le le72
  replace hpa := hpa.le le72
  replace hpb := hpb.le le72
  replace hqc := hqc.le le72
  replace lE := lE.trans le72
  refine ⟨le72, ?_⟩
  refine C.laws_eqLife ou35.sl ou69.sl ou36.sl ou70.sl (by omega) (by omega) (fun H75 le76 => ?_)
  replace op1 := op1.le le76
  replace op5 := op5.le le76
  replace ou15 := ou15.le le76
  replace ou16 := ou16.le le76
  replace ou21 := ou21.le le76
  replace og27 := og27.le le76
  replace op29 := op29.le le76
  replace ou35 := ou35.le le76
  replace ou36 := ou36.le le76
  replace op41 := op41.le le76
  replace ou47 := ou47.le le76
  replace op51 := op51.le le76
  replace og59 := og59.le le76
  replace op61 := op61.le le76
  replace ou69 := ou69.le le76
  replace ou70 := ou70.le le76
  replace hpa := hpa.le le76
  replace hpb := hpb.le le76
  replace hqc := hqc.le le76
  replace lE := lE.trans le76
  refine ⟨le76, ?_⟩
  refine ob_i (a := .bool false) rfl ?_
  refine cnd_f1 ?_
  refine ob_i (op51.ldn rfl) ?_
  refine ob_i (op5.ldn rfl) ?_
  refine C.laws_toField hqc (by omega) (fun u77 H78 ou77 nn80  le79 => ?_)
  have ap1Xu77 : Apart p1 u77 := op1.apart nn80
  have ap5Xu77 : Apart p5 u77 := op5.apart nn80
  have au15Xu77 : Apart u15 u77 := ou15.apart nn80
  have au16Xu77 : Apart u16 u77 := ou16.apart nn80
  have au21Xu77 : Apart u21 u77 := ou21.apart nn80
  have ag27Xu77 : Apart g27 u77 := og27.apart nn80
  have ap29Xu77 : Apart p29 u77 := op29.apart nn80
  have au35Xu77 : Apart u35 u77 := ou35.apart nn80
  have au36Xu77 : Apart u36 u77 := ou36.apart nn80
  have ap41Xu77 : Apart p41 u77 := op41.apart nn80
  have au47Xu77 : Apart u47 u77 := ou47.apart nn80
  have ap51Xu77 : Apart p51 u77 := op51.apart nn80
  have ag59Xu77 : Apart g59 u77 := og59.apart nn80
  have ap61Xu77 : Apart p61 u77 := op61.apart nn80
  have au69Xu77 : Apart u69 u77 := ou69.apart nn80
  have au70Xu77 : Apart u70 u77 := ou70.apart nn80
  have nu77 : Nw H u77 := nn80.le lE
  replace op1 := op1.le le79
  replace op5 := op5.le le79
  replace ou15 := ou15.le le79
  replace ou16 := ou16.le le79
  replace ou21 := ou21.le le79
  replace og27 := og27.le le79
  replace op29 := op29.le le79
  replace ou35 := ou35.le le79
  replace ou36 := ou36.le le79
  replace op41 := op41.le le79
  replace ou47 := ou47.le le79
  replace op51 := op51.le le79
  replace og59 := og59.le le79
  replace op61 := op61.le le79
  replace ou69 := ou69.le le79
  replace ou70 := ou70.le le79
  replace hpa := hpa.le le79
  replace hpb := hpb.le le79
  replace hqc := hqc.le le79
  replace lE := lE.trans le79
  refine ⟨le79, ?_⟩
  refine C.laws_eqField ou47.sl ou77.sl (by omega) (fun H81 le82 => ?_)
  replace op1 := op1.le le82
  replace op5 := op5.le le82
  replace ou15 := ou15.le le82
  replace ou16 := ou16.le le82
  replace ou21 := ou21.le le82
  replace og27 := og27.le le82
  replace op29 := op29.le le82
  replace ou35 := ou35.le le82
  replace ou36 := ou36.le le82
  replace op41 := op41.le le82
  replace ou47 := ou47.le le82
  replace op51 := op51.le le82
  replace og59 := og59.le le82
  replace op61 := op61.le le82
  replace ou69 := ou69.le le82
  replace ou70 := ou70.le le82
  replace ou77 := ou77.le le82
  replace hpa := hpa.le le82
  replace hpb := hpb.le le82
  replace hqc := hqc.le le82
  replace lE := lE.trans le82
  refine ⟨le82, ?_⟩
  refine ob_i (a := .bool false) rfl ?_
  refine cnd_f1 ?_
  refine ob_i (op41.ldn rfl) ?_
  refine R.laws_markLife ?_
  unfold F.laws_markLife
  refine nw_i (fun p83 H84 op83 nn85 le86 => ?_)
  have ap1Xp83 : Apart p1 p83 := op1.apart nn85
  have ap5Xp83 : Apart p5 p83 := op5.apart nn85
  have au15Xp83 : Apart u15 p83 := ou15.apart nn85
  have au16Xp83 : Apart u16 p83 := ou16.apart nn85
  have au21Xp83 : Apart u21 p83 := ou21.apart nn85
  have ag27Xp83 : Apart g27 p83 := og27.apart nn85
  have ap29Xp83 : Apart p29 p83 := op29.apart nn85
  have au35Xp83 : Apart u35 p83 := ou35.apart nn85
  have au36Xp83 : Apart u36 p83 := ou36.apart nn85
  have ap41Xp83 : Apart p41 p83 := op41.apart nn85
  have au47Xp83 : Apart u47 p83 := ou47.apart nn85
  have ap51Xp83 : Apart p51 p83 := op51.apart nn85
  have ag59Xp83 : Apart g59 p83 := og59.apart nn85
  have ap61Xp83 : Apart p61 p83 := op61.apart nn85
  have au69Xp83 : Apart u69 p83 := ou69.apart nn85
  have au70Xp83 : Apart u70 p83 := ou70.apart nn85
  have au77Xp83 : Apart u77 p83 := ou77.apart nn85
  have np83 : Nw H p83 := nn85.le lE
  replace op1 := op1.le le86
  replace op5 := op5.le le86
  replace ou15 := ou15.le le86
  replace ou16 := ou16.le le86
  replace ou21 := ou21.le le86
  replace og27 := og27.le le86
  replace op29 := op29.le le86
  replace ou35 := ou35.le le86
  replace ou36 := ou36.le le86
  replace op41 := op41.le le86
  replace ou47 := ou47.le le86
  replace op51 := op51.le le86
  replace og59 := og59.le le86
  replace op61 := op61.le le86
  replace ou69 := ou69.le le86
  replace ou70 := ou70.le le86
  replace ou77 := ou77.le le86
  replace hpa := hpa.le le86
  replace hpb := hpb.le le86
  replace hqc := hqc.le le86
  replace lE := lE.trans le86
  replace op83 : Cel H84 p83 [u35, u36] := op83
  refine ob_i (op83.fa 0) ?_
  refine ob_i (op83.ld 0 rfl) ?_
  refine C.laws_markInt64S ou35 (by omega) (by omega) (by omega) (fun H87 ou35 off88 => ?_)
  replace op1 := op1.off off88 ap1Xu35
  replace op5 := op5.off off88 ap5Xu35
  replace ou15 := ou15.off off88 au15Xu35
  replace ou16 := ou16.off off88 au16Xu35
  replace ou21 := ou21.off off88 au21Xu35
  replace og27 := og27.off off88 ag27Xu35
  replace op29 := op29.off off88 ap29Xu35
  replace ou36 := ou36.off off88 au35Xu36.symm
  replace op41 := op41.off off88 au35Xp41.symm
  replace ou47 := ou47.off off88 au35Xu47.symm
  replace op51 := op51.off off88 au35Xp51.symm
  replace og59 := og59.off off88 au35Xg59.symm
  replace op61 := op61.off off88 au35Xp61.symm
  replace ou69 := ou69.off off88 au35Xu69.symm
  replace ou70 := ou70.off off88 au35Xu70.symm
  replace ou77 := ou77.off off88 au35Xu77.symm
  replace op83 := op83.off off88 au35Xp83.symm
  replace hpa := hpa0.le (off88.le lE nu35)
  replace hpb := hpb0.le (off88.le lE nu35)
  replace hqc := hqc0.le (off88.le lE nu35)
  replace lE := off88.le lE nu35
  refine ob_i (op83.fa 1) ?_
  refine ob_i (op83.ld 1 rfl) ?_
  refine C.laws_markInt64S ou36 (by omega) (by omega) (by omega) (fun H89 ou36 off90 => ?_)
  replace op1 := op1.off off90 ap1Xu36
  replace op5 := op5.off off90 ap5Xu36
  replace ou15 := ou15.off off90 au15Xu36
  replace ou16 := ou16.off off90 au16Xu36
  replace ou21 := ou21.off off90 au21Xu36
  replace og27 := og27.off off90 ag27Xu36
  replace op29 := op29.off off90 ap29Xu36
  replace ou35 := ou35.off off90 au35Xu36
  replace op41 := op41.off off90 au36Xp41.symm
  replace ou47 := ou47.off off90 au36Xu47.symm
  replace op51 := op51.off off90 au36Xp51.symm
  replace og59 := og59.off off90 au36Xg59.symm
  replace op61 := op61.off off90 au36Xp61.symm
  replace ou69 := ou69.off off90 au36Xu69.symm
  replace ou70 := ou70.off off90 au36Xu70.symm
  replace ou77 := ou77.off off90 au36Xu77.symm
  replace op83 := op83.off off90 au36Xp83.symm
  replace hpa := hpa0.le (off90.le lE nu36)
  replace hpb := hpb0.le (off90.le lE nu36)
  replace hqc := hqc0.le (off90.le lE nu36)
  replace lE := off90.le lE nu36
  refine ob_i (op51.ldn rfl) ?_
  refine R.laws_markField ?_
  unfold F.laws_markField
  refine nw_i (fun p91 H92 op91 nn93 le94 => ?_)
  have ap1Xp91 : Apart p1 p91 := op1.apart nn93
  have ap5Xp91 : Apart p5 p91 := op5.apart nn93
  have au15Xp91 : Apart u15 p91 := ou15.apart nn93
  have au16Xp91 : Apart u16 p91 := ou16.apart nn93
  have au21Xp91 : Apart u21 p91 := ou21.apart nn93
  have ag27Xp91 : Apart g27 p91 := og27.apart nn93
  have ap29Xp91 : Apart p29 p91 := op29.apart nn93
  have au35Xp91 : Apart u35 p91 := ou35.apart nn93
  have au36Xp91 : Apart u36 p91 := ou36.apart nn93
  have ap41Xp91 : Apart p41 p91 := op41.apart nn93
  have au47Xp91 : Apart u47 p91 := ou47.apart nn93
  have ap51Xp91 : Apart p51 p91 := op51.apart nn93
  have ag59Xp91 : Apart g59 p91 := og59.apart nn93
  have ap61Xp91 : Apart p61 p91 := op61.apart nn93
  have au69Xp91 : Apart u69 p91 := ou69.apart nn93
  have au70Xp91 : Apart u70 p91 := ou70.apart nn93
  have au77Xp91 : Apart u77 p91 := ou77.apart nn93
  have ap83Xp91 : Apart p83 p91 := op83.apart nn93
  have np91 : Nw H p91 := nn93.le lE
  replace op1 := op1.le le94
  replace op5 := op5.le le94
  replace ou15 := ou15.le le94
  replace ou16 := ou16.le le94
  replace ou21 := ou21.le le94
  replace og27 := og27.le le94
  replace op29 := op29.le le94
  replace ou35 := ou35.le le94
  replace ou36 := ou36.le le94
  replace op41 := op41.le le94
  replace ou47 := ou47.le le94
  replace op51 := op51.le le94
  replace og59 := og59.le le94
  replace op61 := op61.le le94
  replace ou69 := ou69.le le94
  replace ou70 := ou70.le le94
  replace ou77 := ou77.le le94
  replace op83 := op83.le le94
  replace hpa := hpa.le le94
  replace hpb := hpb.le le94
  replace hqc := hqc.le le94
  replace lE := lE.trans le94
  replace op91 : Cel H92 p91 [(.int .i64 (qa)), (.int .i64 (qb)), u47] := op91
  refine ob_i (op91.fa 2) ?_
  refine ob_i (op91.ld 2 rfl) ?_
  refine C.laws_markInt64S ou47 (by omega) (by omega) (by omega) (fun H95 ou47 off96 => ?_)
  replace op1 := op1.off off96 ap1Xu47
  replace op5 := op5.off off96 ap5Xu47
  replace ou15 := ou15.off off96 au15Xu47
  replace ou16 := ou16.off off96 au16Xu47
  replace ou21 := ou21.off off96 au21Xu47
  replace og27 := og27.off off96 ag27Xu47
  replace op29 := op29.off off96 ap29Xu47
  replace ou35 := ou35.off off96 au35Xu47
  replace ou36 := ou36.off off96 au36Xu47
  replace op41 := op41.off off96 ap41Xu47
  replace op51 := op51.off off96 au47Xp51.symm
  replace og59 := og59.off off96 au47Xg59.symm
  replace op61 := op61.off off96 au47Xp61.symm
  replace ou69 := ou69.off off96 au47Xu69.symm
  replace ou70 := ou70.off off96 au47Xu70.symm
  replace ou77 := ou77.off off96 au47Xu77.symm
  replace op83 := op83.off off96 au47Xp83.symm
  replace op91 := op91.off off96 au47Xp91.symm
  replace hpa := hpa0.le (off96.le lE nu47)
  replace hpb := hpb0.le (off96.le lE nu47)
  replace hqc := hqc0.le (off96.le lE nu47)
  replace lE := off96.le lE nu47
  refine ob_i (vInt_lss_f (by omega)) ?_
  refine gop_rf ?_
  refine ob_i (op61.ldn rfl) ?_
  refine gop_rf ?_
  refine ob_i (op29.ldn rfl) ?_
  refine gop_rf ?_
  refine C.laws_eqField og59.sl og27.sl (by omega) (fun H97 le98 => ?_)
  replace op1 := op1.le le98
  replace op5 := op5.le le98
  replace ou15 := ou15.le le98
  replace ou16 := ou16.le le98
  replace ou21 := ou21.le le98
  replace og27 := og27.le le98
  replace op29 := op29.le le98
  replace ou35 := ou35.le le98
  replace ou36 := ou36.le le98
  replace op41 := op41.le le98
  replace ou47 := ou47.le le98
  replace op51 := op51.le le98
  replace og59 := og59.le le98
  replace op61 := op61.le le98
  replace ou69 := ou69.le le98
  replace ou70 := ou70.le le98
  replace ou77 := ou77.le le98
  replace op83 := op83.le le98
  replace op91 := op91.le le98
  replace hpa := hpa.le le98
  replace hpb := hpb.le le98
  replace hqc := hqc.le le98
  replace lE := lE.trans le98
  refine gop_rf ?_
  refine ob_i (a := .bool false) rfl ?_
  refine ob_i (vPick_f _ _) ?_
  refine gop_rf ?_
  refine gop_rf ?_
  refine gop_rf ?_
  refine ob_i (vBool_neq_same _) ?_
  refine ob_i (vPick_f _ _) ?_
  refine cnd_f1 ?_
  refine ob_i (op61.ldn rfl) ?_
  refine R.laws_markField ?_
  unfold F.laws_markField
  refine nw_i (fun p99 H100 op99 nn101 le102 => ?_)
  have ap1Xp99 : Apart p1 p99 := op1.apart nn101
  have ap5Xp99 : Apart p5 p99 := op5.apart nn101
  have au15Xp99 : Apart u15 p99 := ou15.apart nn101
  have au16Xp99 : Apart u16 p99 := ou16.apart nn101
  have au21Xp99 : Apart u21 p99 := ou21.apart nn101
  have ag27Xp99 : Apart g27 p99 := og27.apart nn101
  have ap29Xp99 : Apart p29 p99 := op29.apart nn101
  have au35Xp99 : Apart u35 p99 := ou35.apart nn101
  have au36Xp99 : Apart u36 p99 := ou36.apart nn101
  have ap41Xp99 : Apart p41 p99 := op41.apart nn101
  have au47Xp99 : Apart u47 p99 := ou47.apart nn101
  have ap51Xp99 : Apart p51 p99 := op51.apart nn101
  have ag59Xp99 : Apart g59 p99 := og59.apart nn101
  have ap61Xp99 : Apart p61 p99 := op61.apart nn101
  have au69Xp99 : Apart u69 p99 := ou69.apart nn101
  have au70Xp99 : Apart u70 p99 := ou70.apart nn101
  have au77Xp99 : Apart u77 p99 := ou77.apart nn101
  have ap83Xp99 : Apart p83 p99 := op83.apart nn101
  have ap91Xp99 : Apart p91 p99 := op91.apart nn101
  have np99 : Nw H p99 := nn101.le lE
  replace op1 := op1.le le102
  replace op5 := op5.le le102
  replace ou15 := ou15.le le102
  replace ou16 := ou16.le le102
  replace ou21 := ou21.le le102
  replace og27 := og27.le le102
  replace op29 := op29.le le102
  replace ou35 := ou35.le le102
  replace ou36 := ou36.le le102
  replace op41 := op41.le le102
  replace ou47 := ou47.le le102
  replace op51 := op51.le le102
  replace og59 := og59.le le102
  replace op61 := op61.le le102
  replace ou69 := ou69.le le102
  replace ou70 := ou70.le le102
  replace ou77 := ou77.le le102
  replace op83 := op83.le le102
  replace op91 := op91.le le102
  replace hpa := hpa.le le102
  replace hpb := hpb.le le102
  replace hqc := hqc.le le102
  replace lE := lE.trans le102
  replace op99 : Cel H100 p99 [(.int .i64 (selI (inP spa spb qa qb sqc) (qa / 2))), (.int .i64 (selI (inP spa spb qa qb sqc) (qb / 2))), g59] := op99
  refine ob_i (op99.fa 2) ?_
  refine ob_i (op99.ld 2 rfl) ?_
  refine C.laws_markInt64S og59 (by omega) (by omega) (by omega) (fun H103 og59 off104 => ?_)
  replace op1 := op1.off off104 ap1Xg59
  replace op5 := op5.off off104 ap5Xg59
  replace ou15 := ou15.off off104 au15Xg59
  replace ou16 := ou16.off off104 au16Xg59
  replace ou21 := ou21.off off104 au21Xg59
  replace og27 := og27.off off104 ag27Xg59
  replace op29 := op29.off off104 ap29Xg59
  replace ou35 := ou35.off off104 au35Xg59
  replace ou36 := ou36.off off104 au36Xg59
  replace op41 := op41.off off104 ap41Xg59
  replace ou47 := ou47.off off104 au47Xg59
  replace op51 := op51.off off104 ap51Xg59
  replace op61 := op61.off off104 ag59Xp61.symm
  replace ou69 := ou69.off off104 ag59Xu69.symm
  replace ou70 := ou70.off off104 ag59Xu70.symm
  replace ou77 := ou77.off off104 ag59Xu77.symm
  replace op83 := op83.off off104 ag59Xp83.symm
  replace op91 := op91.off off104 ag59Xp91.symm
  replace op99 := op99.off off104 ag59Xp99.symm
  replace hpa := hpa0.le (off104.le lE ng59)
  replace hpb := hpb0.le (off104.le lE ng59)
  replace hqc := hqc0.le (off104.le lE ng59)
  replace lE := off104.le lE ng59
  refine ob_i (op61.ldn rfl) ?_
  refine R.laws_heldField ?_
  unfold F.laws_heldField
  refine nw_i (fun p105 H106 op105 nn107 le108 => ?_)
  have ap1Xp105 : Apart p1 p105 := op1.apart nn107
  have ap5Xp105 : Apart p5 p105 := op5.apart nn107
  have au15Xp105 : Apart u15 p105 := ou15.apart nn107
  have au16Xp105 : Apart u16 p105 := ou16.apart nn107
  have au21Xp105 : Apart u21 p105 := ou21.apart nn107
  have ag27Xp105 : Apart g27 p105 := og27.apart nn107
  have ap29Xp105 : Apart p29 p105 := op29.apart nn107
  have au35Xp105 : Apart u35 p105 := ou35.apart nn107
  have au36Xp105 : Apart u36 p105 := ou36.apart nn107
  have ap41Xp105 : Apart p41 p105 := op41.apart nn107
  have au47Xp105 : Apart u47 p105 := ou47.apart nn107
  have ap51Xp105 : Apart p51 p105 := op51.apart nn107
  have ag59Xp105 : Apart g59 p105 := og59.apart nn107
  have ap61Xp105 : Apart p61 p105 := op61.apart nn107
  have au69Xp105 : Apart u69 p105 := ou69.apart nn107
  have au70Xp105 : Apart u70 p105 := ou70.apart nn107
  have au77Xp105 : Apart u77 p105 := ou77.apart nn107
  have ap83Xp105 : Apart p83 p105 := op83.apart nn107
  have ap91Xp105 : Apart p91 p105 := op91.apart nn107
  have ap99Xp105 : Apart p99 p105 := op99.apart nn107
  have np105 : Nw H p105 := nn107.le lE
  replace op1 := op1.le le108
  replace op5 := op5.le le108
  replace ou15 := ou15.le le108
  replace ou16 := ou16.le le108
  replace ou21 := ou21.le le108
  replace og27 := og27.le le108
  replace op29 := op29.le le108
  replace ou35 := ou35.le le108
  replace ou36 := ou36.le le108
  replace op41 := op41.le le108
  replace ou47 := ou47.le le108
  replace op51 := op51.le le108
  replace og59 := og59.le le108
  replace op61 := op61.le le108
  replace ou69 := ou69.le le108
  replace ou70 := ou70.le le108
  replace ou77 := ou77.le le108
  replace op83 := op83.le le108
  replace op91 := op91.le le108
  replace op99 := op99.le le108
  replace hpa := hpa.le le108
  replace hpb := hpb.le le108
  replace hqc := hqc.le le108
  replace lE := lE.trans le108
  replace op105 : Cel H106 p105 [(.int .i64 (selI (inP spa spb qa qb sqc) (qa / 2))), (.int .i64 (selI (inP spa spb qa qb sqc) (qb / 2))), g59] := op105
  refine ob_i (op105.fa 2) ?_
  refine ob_i (op105.ld 2 rfl) ?_
  refine C.laws_heldInt64S og59.sl (by omega) (by omega) (by omega) ?_
  refine ob_i (vInt_lss_f (by omega)) ?_
  refine cnd_f1 ?_
  refine ob_i (vInt_lss_f (by omega)) ?_
  refine cnd_f1 ?_
  refine ob_i (vInt_neq_same _ _) ?_
  refine cnd_f1 ?_
  refine ob_i (op1.ldn rfl) ?_
  refine ob_i (op5.ldn rfl) ?_
  refine C.laws_toLife hpa hpb (by omega) (by omega) (fun u109 u110 H111 ou109 ou110 nn113 nn114 au109Xu110 le112 => ?_)
  have ap1Xu109 : Apart p1 u109 := op1.apart nn113
  have ap5Xu109 : Apart p5 u109 := op5.apart nn113
  have au15Xu109 : Apart u15 u109 := ou15.apart nn113
  have au16Xu109 : Apart u16 u109 := ou16.apart nn113
  have au21Xu109 : Apart u21 u109 := ou21.apart nn113
  have ag27Xu109 : Apart g27 u109 := og27.apart nn113
  have ap29Xu109 : Apart p29 u109 := op29.apart nn113
  have au35Xu109 : Apart u35 u109 := ou35.apart nn113
  have au36Xu109 : Apart u36 u109 := ou36.apart nn113
  have ap41Xu109 : Apart p41 u109 := op41.apart nn113
  have au47Xu109 : Apart u47 u109 := ou47.apart nn113
  have ap51Xu109 : Apart p51 u109 := op51.apart nn113
  have ag59Xu109 : Apart g59 u109 := og59.apart nn113
  have ap61Xu109 : Apart p61 u109 := op61.apart nn113
  have au69Xu109 : Apart u69 u109 := ou69.apart nn113
  have au70Xu109 : Apart u70 u109 := ou70.apart nn113
  have au77Xu109 : Apart u77 u109 := ou77.apart nn113
  have ap83Xu109 : Apart p83 u109 := op83.apart nn113
  have ap91Xu109 : Apart p91 u109 := op91.apart nn113
  have ap99Xu109 : Apart p99 u109 := op99.apart nn113
  have ap105Xu109 : Apart p105 u109 := op105.apart nn113
  have nu109 : Nw H u109 := nn113.le lE
  have ap1Xu110 : Apart p1 u110 := op1.apart nn114
  have ap5Xu110 : Apart p5 u110 := op5.apart nn114
  have au15Xu110 : Apart u15 u110 := ou15.apart nn114
  have au16Xu110 : Apart u16 u110 := ou16.apart nn114
  have au21Xu110 : Apart u21 u110 := ou21.apart nn114
  have ag27Xu110 : Apart g27 u110 := og27.apart nn114
  have ap29Xu110 : Apart p29 u110 := op29.apart nn114
  have au35Xu110 : Apart u35 u110 := ou35.apart nn114
  have au36Xu110 : Apart u36 u110 := ou36.apart nn114
  have ap41Xu110 : Apart p41 u110 := op41.apart nn114
  have au47Xu110 : Apart u47 u110 := ou47.apart nn114
  have ap51Xu110 : Apart p51 u110 := op51.apart nn114
  have ag59Xu110 : Apart g59 u110 := og59.apart nn114
  have ap61Xu110 : Apart p61 u110 := op61.apart nn114
  have au69Xu110 : Apart u69 u110 := ou69.apart nn114
  have au70Xu110 : Apart u70 u110 := ou70.apart nn114
  have au77Xu110 : Apart u77 u110 := ou77.apart nn114
  have ap83Xu110 : Apart p83 u110 := op83.apart nn114
  have ap91Xu110 : Apart p91 u110 := op91.apart nn114
  have ap99Xu110 : Apart p99 u110 := op99.apart nn114
  have ap105Xu110 : Apart p105 u110 := op105.apart nn114
  have nu110 : Nw H u110 := nn114.le lE
  replace op1 := op1.le le112
  replace op5 := op5.le le112
  replace ou15 := ou15.le le112
  replace ou16 := ou16.le le112
  replace ou21 := ou21.le le112
  replace og27 := og27.le le112
  replace op29 := op29.le le112
  replace ou35 := ou35.le le112
  replace ou36 := ou36.le le112
  replace op41 := op41.le le112
  replace ou47 := ou47.le le112
  replace op51 := op51.le le112
  replace og59 := og59.le le112
  replace op61 := op61.le le112
  replace ou69 := ou69.le le112
  replace ou70 := ou70.le le112
  replace ou77 := ou77.le le112
  replace op83 := op83.le le112
  replace op91 := op91.le le112
  replace op99 := op99.le le112
  replace op105 := op105.le le112
  replace hpa := hpa.le le112
  replace hpb := hpb.le le112
  replace hqc := hqc.le le112
  replace lE := lE.trans le112
  refine ⟨le112, ?_⟩
  refine C.laws_toField hqc (by omega) (fun u115 H116 ou115 nn118  le117 => ?_)
  have ap1Xu115 : Apart p1 u115 := op1.apart nn118
  have ap5Xu115 : Apart p5 u115 := op5.apart nn118
  have au15Xu115 : Apart u15 u115 := ou15.apart nn118
  have au16Xu115 : Apart u16 u115 := ou16.apart nn118
  have au21Xu115 : Apart u21 u115 := ou21.apart nn118
  have ag27Xu115 : Apart g27 u115 := og27.apart nn118
  have ap29Xu115 : Apart p29 u115 := op29.apart nn118
  have au35Xu115 : Apart u35 u115 := ou35.apart nn118
  have au36Xu115 : Apart u36 u115 := ou36.apart nn118
  have ap41Xu115 : Apart p41 u115 := op41.apart nn118
  have au47Xu115 : Apart u47 u115 := ou47.apart nn118
  have ap51Xu115 : Apart p51 u115 := op51.apart nn118
  have ag59Xu115 : Apart g59 u115 := og59.apart nn118
  have ap61Xu115 : Apart p61 u115 := op61.apart nn118
  have au69Xu115 : Apart u69 u115 := ou69.apart nn118
  have au70Xu115 : Apart u70 u115 := ou70.apart nn118
  have au77Xu115 : Apart u77 u115 := ou77.apart nn118
  have ap83Xu115 : Apart p83 u115 := op83.apart nn118
  have ap91Xu115 : Apart p91 u115 := op91.apart nn118
  have ap99Xu115 : Apart p99 u115 := op99.apart nn118
  have ap105Xu115 : Apart p105 u115 := op105.apart nn118
  have au109Xu115 : Apart u109 u115 := ou109.apart nn118
  have au110Xu115 : Apart u110 u115 := ou110.apart nn118
  have nu115 : Nw H u115 := nn118.le lE
  replace op1 := op1.le le117
  replace op5 := op5.le le117
  replace ou15 := ou15.le le117
  replace ou16 := ou16.le le117
  replace ou21 := ou21.le le117
  replace og27 := og27.le le117
  replace op29 := op29.le le117
  replace ou35 := ou35.le le117
  replace ou36 := ou36.le le117
  replace op41 := op41.le le117
  replace ou47 := ou47.le le117
  replace op51 := op51.le le117
  replace og59 := og59.le le117
  replace op61 := op61.le le117
  replace ou69 := ou69.le le117
  replace ou70 := ou70.le le117
  replace ou77 := ou77.le le117
  replace op83 := op83.le le117
  replace op91 := op91.le le117
  replace op99 := op99.le le117
  replace op105 := op105.le le117
  replace ou109 := ou109.le le117
  replace ou110 := ou110.le le117
  replace hpa := hpa.le le117
  replace hpb := hpb.le le117
  replace hqc := hqc.le le117
  replace lE := lE.trans le117
  refine ⟨le117, ?_⟩
  refine C.impl_InnerLife ou109.sl ou110.sl ou115.sl (by omega) (by omega) (by omega)  (fun g121 H119 og121 nn122  le120 => ?_)
  have ap1Xg121 : Apart p1 g121 := op1.apart nn122
  have ap5Xg121 : Apart p5 g121 := op5.apart nn122
  have au15Xg121 : Apart u15 g121 := ou15.apart nn122
  have au16Xg121 : Apart u16 g121 := ou16.apart nn122
  have au21Xg121 : Apart u21 g121 := ou21.apart nn122
  have ag27Xg121 : Apart g27 g121 := og27.apart nn122
  have ap29Xg121 : Apart p29 g121 := op29.apart nn122
  have au35Xg121 : Apart u35 g121 := ou35.apart nn122
  have au36Xg121 : Apart u36 g121 := ou36.apart nn122
  have ap41Xg121 : Apart p41 g121 := op41.apart nn122
  have au47Xg121 : Apart u47 g121 := ou47.apart nn122
  have ap51Xg121 : Apart p51 g121 := op51.apart nn122
  have ag59Xg121 : Apart g59 g121 := og59.apart nn122
  have ap61Xg121 : Apart p61 g121 := op61.apart nn122
  have au69Xg121 : Apart u69 g121 := ou69.apart nn122
  have au70Xg121 : Apart u70 g121 := ou70.apart nn122
  have au77Xg121 : Apart u77 g121 := ou77.apart nn122
  have ap83Xg121 : Apart p83 g121 := op83.apart nn122
  have ap91Xg121 : Apart p91 g121 := op91.apart nn122
  have ap99Xg121 : Apart p99 g121 := op99.apart nn122
  have ap105Xg121 : Apart p105 g121 := op105.apart nn122
  have au109Xg121 : Apart u109 g121 := ou109.apart nn122
  have au110Xg121 : Apart u110 g121 := ou110.apart nn122
  have au115Xg121 : Apart u115 g121 := ou115.apart nn122
  have ng121 : Nw H g121 := nn122.le lE
  replace op1 := op1.le le120
  replace op5 := op5.le le120
  replace ou15 := ou15.le le120
  replace ou16 := ou16.le le120
  replace ou21 := ou21.le le120
  replace og27 := og27.le le120
  replace op29 := op29.le le120
  replace ou35 := ou35.le le120
  replace ou36 := ou36.le le120
  replace op41 := op41.le le120
  replace ou47 := ou47.le le120
  replace op51 := op51.le le120
  replace og59 := og59.le le120
  replace op61 := op61.le le120
  replace ou69 := ou69.le le120
  replace ou70 := ou70.le le120
  replace ou77 := ou77.le le120
  replace op83 := op83.le le120
  replace op91 := op91.le le120
  replace op99 := op99.le le120
  replace op105 := op105.le le120
  replace ou109 := ou109.le le120
  replace ou110 := ou110.le le120
  replace ou115 := ou115.le le120
  replace hpa := hpa.le le120
  replace hpb := hpb.le le120
  replace hqc := hqc.le le120
  replace lE := lE.trans le120
  refine ⟨le120, ?_⟩
  refine ob_i (vExt_20 _ _) ?_
  refine ob_i (vExt_21 _ _) ?_
  refine nw_i (fun p123 H124 op123 nn125 le126 => ?_)
  have ap1Xp123 : Apart p1 p123 := op1.apart nn125
  have ap5Xp123 : Apart p5 p123 := op5.apart nn125
  have au15Xp123 : Apart u15 p123 := ou15.apart nn125
  have au16Xp123 : Apart u16 p123 := ou16.apart nn125
  have au21Xp123 : Apart u21 p123 := ou21.apart nn125
  have ag27Xp123 : Apart g27 p123 := og27.apart nn125
  have ap29Xp123 : Apart p29 p123 := op29.apart nn125
  have au35Xp123 : Apart u35 p123 := ou35.apart nn125
  have au36Xp123 : Apart u36 p123 := ou36.apart nn125
  have ap41Xp123 : Apart p41 p123 := op41.apart nn125
  have au47Xp123 : Apart u47 p123 := ou47.apart nn125
  have ap51Xp123 : Apart p51 p123 := op51.apart nn125
  have ag59Xp123 : Apart g59 p123 := og59.apart nn125
  have ap61Xp123 : Apart p61 p123 := op61.apart nn125
  have au69Xp123 : Apart u69 p123 := ou69.apart nn125
  have au70Xp123 : Apart u70 p123 := ou70.apart nn125
  have au77Xp123 : Apart u77 p123 := ou77.apart nn125
  have ap83Xp123 : Apart p83 p123 := op83.apart nn125
  have ap91Xp123 : Apart p91 p123 := op91.apart nn125
  have ap99Xp123 : Apart p99 p123 := op99.apart nn125
  have ap105Xp123 : Apart p105 p123 := op105.apart nn125
  have au109Xp123 : Apart u109 p123 := ou109.apart nn125
  have au110Xp123 : Apart u110 p123 := ou110.apart nn125
  have au115Xp123 : Apart u115 p123 := ou115.apart nn125
  have ag121Xp123 : Apart g121 p123 := og121.apart nn125
  have np123 : Nw H p123 := nn125.le lE
  replace op1 := op1.le le126
  replace op5 := op5.le le126
  replace ou15 := ou15.le le126
  replace ou16 := ou16.le le126
  replace ou21 := ou21.le le126
  replace og27 := og27.le le126
  replace op29 := op29.le le126
  replace ou35 := ou35.le le126
  replace ou36 := ou36.le le126
  replace op41 := op41.le le126
  replace ou47 := ou47.le le126
  replace op51 := op51.le le126
  replace og59 := og59.le le126
  replace op61 := op61.le le126
  replace ou69 := ou69.le le126
  replace ou70 := ou70.le le126
  replace ou77 := ou77.le le126
  replace op83 := op83.le le126
  replace op91 := op91.le le126
  replace op99 := op99.le le126
  replace op105 := op105.le le126
  replace ou109 := ou109.le le126
  replace ou110 := ou110.le le126
  replace ou115 := ou115.le le126
  replace og121 := og121.le le126
  replace hpa := hpa.le le126
  replace hpb := hpb.le le126
  replace hqc := hqc.le le126
  replace lE := lE.trans le126
  replace op123 : Cel H124 p123 [(.int .i64 (0)), (.int .i64 (0)), (.slice none 0 0)] := op123
  refine op123.stn (ws := [(.int .i64 (selI (inP spa spb qa qb sqc) (qa / 2))), (.int .i64 (selI (inP spa spb qa qb sqc) (qb / 2))), g121]) rfl rfl (oc1 rfl (oc1 rfl (oc1 og121.one oc0))) (fun H127 op123 off128 => ?_)
  replace op1 := op1.off off128 ap1Xp123
  replace op5 := op5.off off128 ap5Xp123
  replace ou15 := ou15.off off128 au15Xp123
  replace ou16 := ou16.off off128 au16Xp123
  replace ou21 := ou21.off off128 au21Xp123
  replace og27 := og27.off off128 ag27Xp123
  replace op29 := op29.off off128 ap29Xp123
  replace ou35 := ou35.off off128 au35Xp123
  replace ou36 := ou36.off off128 au36Xp123
  replace op41 := op41.off off128 ap41Xp123
  replace ou47 := ou47.off off128 au47Xp123
  replace op51 := op51.off off128 ap51Xp123
  replace og59 := og59.off off128 ag59Xp123
  replace op61 := op61.off off128 ap61Xp123
  replace ou69 := ou69.off off128 au69Xp123
  replace ou70 := ou70.off off128 au70Xp123
  replace ou77 := ou77.off off128 au77Xp123
  replace op83 := op83.off off128 ap83Xp123
  replace op91 := op91.off off128 ap91Xp123
  replace op99 := op99.off off128 ap99Xp123
  replace op105 := op105.off off128 ap105Xp123
  replace ou109 := ou109.off off128 au109Xp123
  replace ou110 := ou110.off off128 au110Xp123
  replace ou115 := ou115.off off128 au115Xp123
  replace og121 := og121.off off128 ag121Xp123
  replace hpa := hpa0.le (off128.le lE np123)
  replace hpb := hpb0.le (off128.le lE np123)
  replace hqc := hqc0.le (off128.le lE np123)
  replace lE := off128.le lE np123
  replace op123 : Cel H127 p123 [(.int .i64 (selI (inP spa spb qa qb sqc) (qa / 2))), (.int .i64 (selI (inP spa spb qa qb sqc) (qb / 2))), g121] := op123
  refine ob_i (op123.ldn rfl) ?_
  refine ob_i (op29.ldn rfl) ?_
  refine C.laws_eqField og121.sl og27.sl (by omega) (fun H129 le130 => ?_)
  replace op1 := op1.le le130
  replace op5 := op5.le le130
  replace ou15 := ou15.le le130
  replace ou16 := ou16.le le130
  replace ou21 := ou21.le le130
  replace og27 := og27.le le130
  replace op29 := op29.le le130
  replace ou35 := ou35.le le130
  replace ou36 := ou36.le le130
  replace op41 := op41.le le130
  replace ou47 := ou47.le le130
  replace op51 := op51.le le130
  replace og59 := og59.le le130
  replace op61 := op61.le le130
  replace ou69 := ou69.le le130
  replace ou70 := ou70.le le130
  replace ou77 := ou77.le le130
  replace op83 := op83.le le130
  replace op91 := op91.le le130
  replace op99 := op99.le le130
  replace op105 := op105.le le130
  replace ou109 := ou109.le le130
  replace ou110 := ou110.le le130
  replace ou115 := ou115.le le130
  replace og121 := og121.le le130
  replace op123 := op123.le le130
  replace hpa := hpa.le le130
  replace hpb := hpb.le le130
  replace hqc := hqc.le le130
  replace lE := lE.trans le130
  refine ob_i (a := .bool false) rfl ?_
  refine gop_rf ?_
  refine gop_rf ?_
  refine gop_rf ?_
  refine ob_i (vBool_neq_same _) ?_
  refine ob_i (vPick_f _ _) ?_
  refine cnd_f1 ?_
  refine ob_i (op61.ldn rfl) ?_
  refine R.laws_heldField ?_
  unfold F.laws_heldField
  refine nw_i (fun p131 H132 op131 nn133 le134 => ?_)
  have ap1Xp131 : Apart p1 p131 := op1.apart nn133
  have ap5Xp131 : Apart p5 p131 := op5.apart nn133
  have au15Xp131 : Apart u15 p131 := ou15.apart nn133
  have au16Xp131 : Apart u16 p131 := ou16.apart nn133
  have au21Xp131 : Apart u21 p131 := ou21.apart nn133
  have ag27Xp131 : Apart g27 p131 := og27.apart nn133
  have ap29Xp131 : Apart p29 p131 := op29.apart nn133
  have au35Xp131 : Apart u35 p131 := ou35.apart nn133
  have au36Xp131 : Apart u36 p131 := ou36.apart nn133
  have ap41Xp131 : Apart p41 p131 := op41.apart nn133
  have au47Xp131 : Apart u47 p131 := ou47.apart nn133
  have ap51Xp131 : Apart p51 p131 := op51.apart nn133
  have ag59Xp131 : Apart g59 p131 := og59.apart nn133
  have ap61Xp131 : Apart p61 p131 := op61.apart nn133
  have au69Xp131 : Apart u69 p131 := ou69.apart nn133
  have au70Xp131 : Apart u70 p131 := ou70.apart nn133
  have au77Xp131 : Apart u77 p131 := ou77.apart nn133
  have ap83Xp131 : Apart p83 p131 := op83.apart nn133
  have ap91Xp131 : Apart p91 p131 := op91.apart nn133
  have ap99Xp131 : Apart p99 p131 := op99.apart nn133
  have ap105Xp131 : Apart p105 p131 := op105.apart nn133
  have au109Xp131 : Apart u109 p131 := ou109.apart nn133
  have au110Xp131 : Apart u110 p131 := ou110.apart nn133
  have au115Xp131 : Apart u115 p131 := ou115.apart nn133
  have ag121Xp131 : Apart g121 p131 := og121.apart nn133
  have ap123Xp131 : Apart p123 p131 := op123.apart nn133
  have np131 : Nw H p131 := nn133.le lE
  replace op1 := op1.le le134
  replace op5 := op5.le le134
  replace ou15 := ou15.le le134
  replace ou16 := ou16.le le134
  replace ou21 := ou21.le le134
  replace og27 := og27.le le134
  replace op29 := op29.le le134
  replace ou35 := ou35.le le134
  replace ou36 := ou36.le le134
  replace op41 := op41.le le134
  replace ou47 := ou47.le le134
  replace op51 := op51.le le134
  replace og59 := og59.le le134
  replace op61 := op61.le le134
  replace ou69 := ou69.le le134
  replace ou70 := ou70.le le134
  replace ou77 := ou77.le le134
  replace op83 := op83.le le134
  replace op91 := op91.le le134
  replace op99 := op99.le le134
  replace op105 := op105.le le134
  replace ou109 := ou109.le le134
  replace ou110 := ou110.le le134
  replace ou115 := ou115.le le134
  replace og121 := og121.le le134
  replace op123 := op123.le le134
  replace hpa := hpa.le le134
  replace hpb := hpb.le le134
  replace hqc := hqc.le le134
  replace lE := lE.trans le134
  replace op131 : Cel H132 p131 [(.int .i64 (selI (inP spa spb qa qb sqc) (qa / 2))), (.int .i64 (selI (inP spa spb qa qb sqc) (qb / 2))), g59] := op131
  refine ob_i (op131.fa 2) ?_
  refine ob_i (op131.ld 2 rfl) ?_
  refine C.laws_heldInt64S og59.sl (by omega) (by omega) (by omega) ?_
  refine ob_i (vInt_lss_f (by omega)) ?_
  refine cnd_f1 ?_
  refine ob_i (vInt_lss_f (by omega)) ?_
  refine cnd_f1 ?_
  refine ob_i (vInt_neq_same _ _) ?_
  refine cnd_f1 ?_
  exact hk _ lE
end Go.Proofs.Ythbffbpdoankjaa
