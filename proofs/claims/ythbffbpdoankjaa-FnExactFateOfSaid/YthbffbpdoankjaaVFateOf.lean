/- Laws, each by its two sides: its function returns true, and what was known before stays. -/
import Derived.Test.YthbffbpdoankjaaUV
import Derived.Test.YthbffbpdoankjaaQH
import Derived.Test.YthbffbpdoankjaaQI
import Derived.Test.YthbffbpdoankjaaSE
namespace Go.Proofs.Ythbffbpdoankjaa
open HL
set_option maxRecDepth 100000
theorem L.FnExactFateOf {pa : Value} {spa : List Int} {pb : Value} {spb : List Int} {qa : Int} {qb : Int} {qc : Value} {sqc : List Int} {r : Int} {H : Hp} {K : Value → Hp → Prop} (hpa0 : Sl eI H pa spa) (hpb0 : Sl eI H pb spb) (hqc0 : Sl eI H qc sqc) (wr0 : -9223372036854775808 ≤ r) (wr1 : r < 9223372036854775808) (mspa : (spa).length ≤ 9223372036854775807) (mspb : (spb).length ≤ 9223372036854775807) (msqc : (sqc).length ≤ 9223372036854775807) (hk : ∀ H', Le H H' → K (.bool true) H') :
    HT prg I.laws_FnExactFateOf [(.agg #[pa, pb]), (.agg #[(.int .i64 (qa)), (.int .i64 (qb)), qc]), (.int .i64 (r))].toArray H K := by
  have lE := Le.refl H
  have hpa := hpa0
  have hpb := hpb0
  have hqc := hqc0
  refine R.laws_FnExactFateOf ?_
  unfold F.laws_FnExactFateOf
  refine nw_i (fun p1 H2 op1 nn3 le4 => ?_)
  have np1 : Nw H p1 := nn3.le lE
  replace hpa := hpa.le le4
  replace hpb := hpb.le le4
  replace hqc := hqc.le le4
  replace lE := lE.trans le4
  replace op1 : Cel H2 p1 [pa, pb] := op1
  refine nw_i (fun p5 H6 op5 nn7 le8 => ?_)
  have ap1Xp5 : Apart p1 p5 := op1.apart nn7
  have np5 : Nw H p5 := nn7.le lE
  replace op1 := op1.le le8
  replace hpa := hpa.le le8
  replace hpb := hpb.le le8
  replace hqc := hqc.le le8
  replace lE := lE.trans le8
  replace op5 : Cel H6 p5 [(.int .i64 (qa)), (.int .i64 (qb)), qc] := op5
  refine ob_i (op1.ldn rfl) ?_
  refine C.laws_szLife hpa hpb (by omega) (by omega) (by omega) (by omega) (fun H10 le11 => ?_) (fun H10 le11 hz9 => ?_)
  · skip
    replace op1 := op1.le le11
    replace op5 := op5.le le11
    replace hpa := hpa.le le11
    replace hpb := hpb.le le11
    replace hqc := hqc.le le11
    replace lE := lE.trans le11
    refine ob_i (vInt_lss_t (by omega)) ?_
    refine cnd_t1 ?_
    exact hk _ lE
  replace op1 := op1.le le11
  replace op5 := op5.le le11
  replace hpa := hpa.le le11
  replace hpb := hpb.le le11
  replace hqc := hqc.le le11
  replace lE := lE.trans le11
  refine ob_i (vInt_lss_f (by omega)) ?_
  refine cnd_f1 ?_
  refine ob_i (op5.ldn rfl) ?_
  refine C.laws_szField hqc (by omega) (by omega) (by omega) (fun H13 le14 => ?_) (fun H13 le14 hz12 => ?_)
  · skip
    replace op1 := op1.le le14
    replace op5 := op5.le le14
    replace hpa := hpa.le le14
    replace hpb := hpb.le le14
    replace hqc := hqc.le le14
    replace lE := lE.trans le14
    refine ob_i (vInt_lss_t (by omega)) ?_
    refine cnd_t1 ?_
    exact hk _ lE
  replace op1 := op1.le le14
  replace op5 := op5.le le14
  replace hpa := hpa.le le14
  replace hpb := hpb.le le14
  replace hqc := hqc.le le14
  replace lE := lE.trans le14
  refine ob_i (vInt_lss_f (by omega)) ?_
  refine cnd_f1 ?_
  refine ob_i (op1.ldn rfl) ?_
  refine ob_i (op5.ldn rfl) ?_
  refine C.laws_toLife hpa hpb (by omega) (by omega) (fun u15 u16 H17 ou15 ou16 nn19 nn20 au15Xu16 le18 => ?_)
  have ap1Xu15 : Apart p1 u15 := op1.apart nn19
  have ap5Xu15 : Apart p5 u15 := op5.apart nn19
  have nu15 : Nw H u15 := nn19.le lE
  have ap1Xu16 : Apart p1 u16 := op1.apart nn20
  have ap5Xu16 : Apart p5 u16 := op5.apart nn20
  have nu16 : Nw H u16 := nn20.le lE
  replace op1 := op1.le le18
  replace op5 := op5.le le18
  replace hpa := hpa.le le18
  replace hpb := hpb.le le18
  replace hqc := hqc.le le18
  replace lE := lE.trans le18
  refine ⟨le18, ?_⟩
  refine C.laws_toField hqc (by omega) (fun u21 H22 ou21 nn24  le23 => ?_)
  have ap1Xu21 : Apart p1 u21 := op1.apart nn24
  have ap5Xu21 : Apart p5 u21 := op5.apart nn24
  have au15Xu21 : Apart u15 u21 := ou15.apart nn24
  have au16Xu21 : Apart u16 u21 := ou16.apart nn24
  have nu21 : Nw H u21 := nn24.le lE
  replace op1 := op1.le le23
  replace op5 := op5.le le23
  replace ou15 := ou15.le le23
  replace ou16 := ou16.le le23
  replace hpa := hpa.le le23
  replace hpb := hpb.le le23
  replace hqc := hqc.le le23
  replace lE := lE.trans le23
  refine ⟨le23, ?_⟩
  refine C.spec_FateOf ou15.sl ou16.sl ou21.sl (by omega) (by omega) (by omega)  (fun  H25    le26 => ?_)
  replace op1 := op1.le le26
  replace op5 := op5.le le26
  replace ou15 := ou15.le le26
  replace ou16 := ou16.le le26
  replace ou21 := ou21.le le26
  replace hpa := hpa.le le26
  replace hpb := hpb.le le26
  replace hqc := hqc.le le26
  replace lE := lE.trans le26
  refine ⟨le26, ?_⟩
  refine ob_i (vExt_30 _ _ _) ?_
  refine ob_i (vExt_31 _ _ _) ?_
  refine ob_i (vExt_32 _ _ _) ?_
  refine ob_i (op1.ldn rfl) ?_
  refine C.laws_toLife hpa hpb (by omega) (by omega) (fun u27 u28 H29 ou27 ou28 nn31 nn32 au27Xu28 le30 => ?_)
  have ap1Xu27 : Apart p1 u27 := op1.apart nn31
  have ap5Xu27 : Apart p5 u27 := op5.apart nn31
  have au15Xu27 : Apart u15 u27 := ou15.apart nn31
  have au16Xu27 : Apart u16 u27 := ou16.apart nn31
  have au21Xu27 : Apart u21 u27 := ou21.apart nn31
  have nu27 : Nw H u27 := nn31.le lE
  have ap1Xu28 : Apart p1 u28 := op1.apart nn32
  have ap5Xu28 : Apart p5 u28 := op5.apart nn32
  have au15Xu28 : Apart u15 u28 := ou15.apart nn32
  have au16Xu28 : Apart u16 u28 := ou16.apart nn32
  have au21Xu28 : Apart u21 u28 := ou21.apart nn32
  have nu28 : Nw H u28 := nn32.le lE
  replace op1 := op1.le le30
  replace op5 := op5.le le30
  replace ou15 := ou15.le le30
  replace ou16 := ou16.le le30
  replace ou21 := ou21.le le30
  replace hpa := hpa.le le30
  replace hpb := hpb.le le30
  replace hqc := hqc.le le30
  replace lE := lE.trans le30
  refine nw_i (fun p33 H34 op33 nn35 le36 => ?_)
  have ap1Xp33 : Apart p1 p33 := op1.apart nn35
  have ap5Xp33 : Apart p5 p33 := op5.apart nn35
  have au15Xp33 : Apart u15 p33 := ou15.apart nn35
  have au16Xp33 : Apart u16 p33 := ou16.apart nn35
  have au21Xp33 : Apart u21 p33 := ou21.apart nn35
  have au27Xp33 : Apart u27 p33 := ou27.apart nn35
  have au28Xp33 : Apart u28 p33 := ou28.apart nn35
  have np33 : Nw H p33 := nn35.le lE
  replace op1 := op1.le le36
  replace op5 := op5.le le36
  replace ou15 := ou15.le le36
  replace ou16 := ou16.le le36
  replace ou21 := ou21.le le36
  replace ou27 := ou27.le le36
  replace ou28 := ou28.le le36
  replace hpa := hpa.le le36
  replace hpb := hpb.le le36
  replace hqc := hqc.le le36
  replace lE := lE.trans le36
  replace op33 : Cel H34 p33 [(.slice none 0 0), (.slice none 0 0)] := op33
  refine op33.stn (ws := [u27, u28]) rfl rfl (oc1 ou27.one (oc1 ou28.one oc0)) (fun H37 op33 off38 => ?_)
  replace op1 := op1.off off38 ap1Xp33
  replace op5 := op5.off off38 ap5Xp33
  replace ou15 := ou15.off off38 au15Xp33
  replace ou16 := ou16.off off38 au16Xp33
  replace ou21 := ou21.off off38 au21Xp33
  replace ou27 := ou27.off off38 au27Xp33
  replace ou28 := ou28.off off38 au28Xp33
  replace hpa := hpa0.le (off38.le lE np33)
  replace hpb := hpb0.le (off38.le lE np33)
  replace hqc := hqc0.le (off38.le lE np33)
  replace lE := off38.le lE np33
  replace op33 : Cel H37 p33 [u27, u28] := op33
  refine ob_i (op5.ldn rfl) ?_
  refine C.laws_toField hqc (by omega) (fun u39 H40 ou39 nn42  le41 => ?_)
  have ap1Xu39 : Apart p1 u39 := op1.apart nn42
  have ap5Xu39 : Apart p5 u39 := op5.apart nn42
  have au15Xu39 : Apart u15 u39 := ou15.apart nn42
  have au16Xu39 : Apart u16 u39 := ou16.apart nn42
  have au21Xu39 : Apart u21 u39 := ou21.apart nn42
  have au27Xu39 : Apart u27 u39 := ou27.apart nn42
  have au28Xu39 : Apart u28 u39 := ou28.apart nn42
  have ap33Xu39 : Apart p33 u39 := op33.apart nn42
  have nu39 : Nw H u39 := nn42.le lE
  replace op1 := op1.le le41
  replace op5 := op5.le le41
  replace ou15 := ou15.le le41
  replace ou16 := ou16.le le41
  replace ou21 := ou21.le le41
  replace ou27 := ou27.le le41
  replace ou28 := ou28.le le41
  replace op33 := op33.le le41
  replace hpa := hpa.le le41
  replace hpb := hpb.le le41
  replace hqc := hqc.le le41
  replace lE := lE.trans le41
  refine nw_i (fun p43 H44 op43 nn45 le46 => ?_)
  have ap1Xp43 : Apart p1 p43 := op1.apart nn45
  have ap5Xp43 : Apart p5 p43 := op5.apart nn45
  have au15Xp43 : Apart u15 p43 := ou15.apart nn45
  have au16Xp43 : Apart u16 p43 := ou16.apart nn45
  have au21Xp43 : Apart u21 p43 := ou21.apart nn45
  have au27Xp43 : Apart u27 p43 := ou27.apart nn45
  have au28Xp43 : Apart u28 p43 := ou28.apart nn45
  have ap33Xp43 : Apart p33 p43 := op33.apart nn45
  have au39Xp43 : Apart u39 p43 := ou39.apart nn45
  have np43 : Nw H p43 := nn45.le lE
  replace op1 := op1.le le46
  replace op5 := op5.le le46
  replace ou15 := ou15.le le46
  replace ou16 := ou16.le le46
  replace ou21 := ou21.le le46
  replace ou27 := ou27.le le46
  replace ou28 := ou28.le le46
  replace op33 := op33.le le46
  replace ou39 := ou39.le le46
  replace hpa := hpa.le le46
  replace hpb := hpb.le le46
  replace hqc := hqc.le le46
  replace lE := lE.trans le46
  replace op43 : Cel H44 p43 [(.int .i64 (0)), (.int .i64 (0)), (.slice none 0 0)] := op43
  refine op43.stn (ws := [(.int .i64 (qa)), (.int .i64 (qb)), u39]) rfl rfl (oc1 rfl (oc1 rfl (oc1 ou39.one oc0))) (fun H47 op43 off48 => ?_)
  replace op1 := op1.off off48 ap1Xp43
  replace op5 := op5.off off48 ap5Xp43
  replace ou15 := ou15.off off48 au15Xp43
  replace ou16 := ou16.off off48 au16Xp43
  replace ou21 := ou21.off off48 au21Xp43
  replace ou27 := ou27.off off48 au27Xp43
  replace ou28 := ou28.off off48 au28Xp43
  replace op33 := op33.off off48 ap33Xp43
  replace ou39 := ou39.off off48 au39Xp43
  replace hpa := hpa0.le (off48.le lE np43)
  replace hpb := hpb0.le (off48.le lE np43)
  replace hqc := hqc0.le (off48.le lE np43)
  replace lE := off48.le lE np43
  replace op43 : Cel H47 p43 [(.int .i64 (qa)), (.int .i64 (qb)), u39] := op43
  refine ob_i (op33.ldn rfl) ?_
  refine ob_i (op43.ldn rfl) ?_
  refine C.impl_FateOf ou27.sl ou28.sl ou39.sl (by omega) (by omega) (by omega)  (fun  H49    le50 => ?_)
  replace op1 := op1.le le50
  replace op5 := op5.le le50
  replace ou15 := ou15.le le50
  replace ou16 := ou16.le le50
  replace ou21 := ou21.le le50
  replace ou27 := ou27.le le50
  replace ou28 := ou28.le le50
  replace op33 := op33.le le50
  replace ou39 := ou39.le le50
  replace op43 := op43.le le50
  replace hpa := hpa.le le50
  replace hpb := hpb.le le50
  replace hqc := hqc.le le50
  replace lE := lE.trans le50
  refine ob_i (vExt_30 _ _ _) ?_
  refine ob_i (vExt_31 _ _ _) ?_
  refine ob_i (vExt_32 _ _ _) ?_
  refine ob_i (vInt_neq_same _ _) ?_
  refine gop_rf ?_
  refine gop_rf ?_
  refine gop_rf ?_
  refine ob_i (vInt_neq_same _ _) ?_
  refine ob_i (vPick_f _ _) ?_
  refine gop_rf ?_
  refine gop_rf ?_
  refine gop_rf ?_
  refine ob_i (vBool_neq_same _) ?_
  refine ob_i (vPick_f _ _) ?_
  refine cnd_f1 ?_
  refine ob_i (op33.ldn rfl) ?_
  refine ob_i (op1.ldn rfl) ?_
  refine C.laws_toLife hpa hpb (by omega) (by omega) (fun u51 u52 H53 ou51 ou52 nn55 nn56 au51Xu52 le54 => ?_)
  have ap1Xu51 : Apart p1 u51 := op1.apart nn55
  have ap5Xu51 : Apart p5 u51 := op5.apart nn55
  have au15Xu51 : Apart u15 u51 := ou15.apart nn55
  have au16Xu51 : Apart u16 u51 := ou16.apart nn55
  have au21Xu51 : Apart u21 u51 := ou21.apart nn55
  have au27Xu51 : Apart u27 u51 := ou27.apart nn55
  have au28Xu51 : Apart u28 u51 := ou28.apart nn55
  have ap33Xu51 : Apart p33 u51 := op33.apart nn55
  have au39Xu51 : Apart u39 u51 := ou39.apart nn55
  have ap43Xu51 : Apart p43 u51 := op43.apart nn55
  have nu51 : Nw H u51 := nn55.le lE
  have ap1Xu52 : Apart p1 u52 := op1.apart nn56
  have ap5Xu52 : Apart p5 u52 := op5.apart nn56
  have au15Xu52 : Apart u15 u52 := ou15.apart nn56
  have au16Xu52 : Apart u16 u52 := ou16.apart nn56
  have au21Xu52 : Apart u21 u52 := ou21.apart nn56
  have au27Xu52 : Apart u27 u52 := ou27.apart nn56
  have au28Xu52 : Apart u28 u52 := ou28.apart nn56
  have ap33Xu52 : Apart p33 u52 := op33.apart nn56
  have au39Xu52 : Apart u39 u52 := ou39.apart nn56
  have ap43Xu52 : Apart p43 u52 := op43.apart nn56
  have nu52 : Nw H u52 := nn56.le lE
  replace op1 := op1.le le54
  replace op5 := op5.le le54
  replace ou15 := ou15.le le54
  replace ou16 := ou16.le le54
  replace ou21 := ou21.le le54
  replace ou27 := ou27.le le54
  replace ou28 := ou28.le le54
  replace op33 := op33.le le54
  replace ou39 := ou39.le le54
  replace op43 := op43.le le54
  replace hpa := hpa.le le54
  replace hpb := hpb.le le54
  replace hqc := hqc.le le54
  replace lE := lE.trans le54
  refine ⟨le54, ?_⟩
  refine C.laws_eqLife ou27.sl ou51.sl ou28.sl ou52.sl (by omega) (by omega) (fun H57 le58 => ?_)
  replace op1 := op1.le le58
  replace op5 := op5.le le58
  replace ou15 := ou15.le le58
  replace ou16 := ou16.le le58
  replace ou21 := ou21.le le58
  replace ou27 := ou27.le le58
  replace ou28 := ou28.le le58
  replace op33 := op33.le le58
  replace ou39 := ou39.le le58
  replace op43 := op43.le le58
  replace ou51 := ou51.le le58
  replace ou52 := ou52.le le58
  replace hpa := hpa.le le58
  replace hpb := hpb.le le58
  replace hqc := hqc.le le58
  replace lE := lE.trans le58
  refine ⟨le58, ?_⟩
  refine ob_i (a := .bool false) rfl ?_
  refine cnd_f1 ?_
  refine ob_i (op43.ldn rfl) ?_
  refine ob_i (op5.ldn rfl) ?_
  refine C.laws_toField hqc (by omega) (fun u59 H60 ou59 nn62  le61 => ?_)
  have ap1Xu59 : Apart p1 u59 := op1.apart nn62
  have ap5Xu59 : Apart p5 u59 := op5.apart nn62
  have au15Xu59 : Apart u15 u59 := ou15.apart nn62
  have au16Xu59 : Apart u16 u59 := ou16.apart nn62
  have au21Xu59 : Apart u21 u59 := ou21.apart nn62
  have au27Xu59 : Apart u27 u59 := ou27.apart nn62
  have au28Xu59 : Apart u28 u59 := ou28.apart nn62
  have ap33Xu59 : Apart p33 u59 := op33.apart nn62
  have au39Xu59 : Apart u39 u59 := ou39.apart nn62
  have ap43Xu59 : Apart p43 u59 := op43.apart nn62
  have au51Xu59 : Apart u51 u59 := ou51.apart nn62
  have au52Xu59 : Apart u52 u59 := ou52.apart nn62
  have nu59 : Nw H u59 := nn62.le lE
  replace op1 := op1.le le61
  replace op5 := op5.le le61
  replace ou15 := ou15.le le61
  replace ou16 := ou16.le le61
  replace ou21 := ou21.le le61
  replace ou27 := ou27.le le61
  replace ou28 := ou28.le le61
  replace op33 := op33.le le61
  replace ou39 := ou39.le le61
  replace op43 := op43.le le61
  replace ou51 := ou51.le le61
  replace ou52 := ou52.le le61
  replace hpa := hpa.le le61
  replace hpb := hpb.le le61
  replace hqc := hqc.le le61
  replace lE := lE.trans le61
  refine ⟨le61, ?_⟩
  refine C.laws_eqField ou39.sl ou59.sl (by omega) (fun H63 le64 => ?_)
  replace op1 := op1.le le64
  replace op5 := op5.le le64
  replace ou15 := ou15.le le64
  replace ou16 := ou16.le le64
  replace ou21 := ou21.le le64
  replace ou27 := ou27.le le64
  replace ou28 := ou28.le le64
  replace op33 := op33.le le64
  replace ou39 := ou39.le le64
  replace op43 := op43.le le64
  replace ou51 := ou51.le le64
  replace ou52 := ou52.le le64
  replace ou59 := ou59.le le64
  replace hpa := hpa.le le64
  replace hpb := hpb.le le64
  replace hqc := hqc.le le64
  replace lE := lE.trans le64
  refine ⟨le64, ?_⟩
  refine ob_i (a := .bool false) rfl ?_
  refine cnd_f1 ?_
  exact hk _ lE
end Go.Proofs.Ythbffbpdoankjaa
