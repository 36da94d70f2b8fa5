/- Laws, each by its two sides: its function returns true, and what was known before stays. -/
import Derived.Test.YtffmfkpobjdmmaaGreatDoorMCrashOf5
import Derived.Test.YtffmfkpobjdmmaaGreatDoorMCrashOf2
namespace Go.Proofs.YtffmfkpobjdmmaaGreatDoor
open HL
set_option maxRecDepth 100000
theorem L.FnExactCrashOf {pa : Value} {spa : List Int} {pb : Value} {spb : List Int} {qa : Int} {qb : Int} {qc : Value} {sqc : List Int} {ra : Int} {rb : Int} {rc : Value} {src : List Int} {s : Int} {t : Int} {w : Int} {H : Hp} {K : Value → Hp → Prop} (hpa0 : Sl eI H pa spa) (hpb0 : Sl eI H pb spb) (hqc0 : Sl eI H qc sqc) (hrc0 : Sl eI H rc src) (ws0 : -9223372036854775808 ≤ s) (ws1 : s < 9223372036854775808) (wt0 : -9223372036854775808 ≤ t) (wt1 : t < 9223372036854775808) (ww0 : -9223372036854775808 ≤ w) (ww1 : w < 9223372036854775808) (mspa : (spa).length ≤ 9223372036854775807) (mspb : (spb).length ≤ 9223372036854775807) (msqc : (sqc).length ≤ 9223372036854775807) (msrc : (src).length ≤ 9223372036854775807) (hk : ∀ H', Le H H' → K (.bool true) H') :
    HT prg I.laws_FnExactCrashOf [(.agg #[pa, pb]), (.agg #[(.int .i64 (qa)), (.int .i64 (qb)), qc]), (.agg #[(.int .i64 (ra)), (.int .i64 (rb)), rc]), (.int .i64 (s)), (.int .i64 (t)), (.int .i64 (w))].toArray H K := by
 have hR := @crP_len spa spb sqc src qa qb ra rb s t w
 have lE := Le.refl H
 have hpa := hpa0
 have hpb := hpb0
 have hqc := hqc0
 have hrc := hrc0
 refine R.laws_FnExactCrashOf ?_
 unfold F.laws_FnExactCrashOf
 refine nw_i (fun p1 H2 op1 nn3 le4 => ?_)
 replace hpa := hpa.le le4
 replace hpb := hpb.le le4
 replace hqc := hqc.le le4
 replace hrc := hrc.le le4
 replace lE := lE.trans le4
 replace op1 : Cel H2 p1 [pa, pb] := op1
 refine nw_i (fun p5 H6 op5 nn7 le8 => ?_)
 replace op1 := op1.le le8
 replace hpa := hpa.le le8
 replace hpb := hpb.le le8
 replace hqc := hqc.le le8
 replace hrc := hrc.le le8
 replace lE := lE.trans le8
 replace op5 : Cel H6 p5 [(.int .i64 (qa)), (.int .i64 (qb)), qc] := op5
 refine nw_i (fun p9 H10 op9 nn11 le12 => ?_)
 replace op1 := op1.le le12
 replace op5 := op5.le le12
 replace hpa := hpa.le le12
 replace hpb := hpb.le le12
 replace hqc := hqc.le le12
 replace hrc := hrc.le le12
 replace lE := lE.trans le12
 replace op9 : Cel H10 p9 [(.int .i64 (ra)), (.int .i64 (rb)), rc] := op9
 refine ob_i (op1.ldn rfl) ?_
 refine C.laws_szLife hpa hpb (by omega) (by omega) (by omega) (by omega) (fun H14 le15 => ?_) (fun H14 le15 hz13 => ?_)
 ·skip
  replace lE := lE.trans le15
  refine ob_i (vInt_lss_t (by omega)) ?_
  refine cnd_t1 ?_
  exact hk _ lE
 replace op1 := op1.le le15
 replace op5 := op5.le le15
 replace op9 := op9.le le15
 replace hpa := hpa.le le15
 replace hpb := hpb.le le15
 replace hqc := hqc.le le15
 replace hrc := hrc.le le15
 replace lE := lE.trans le15
 refine ob_i (vInt_lss_f (by omega)) ?_
 refine cnd_f1 ?_
 refine ob_i (op5.ldn rfl) ?_
 refine C.laws_szField hqc (by omega) (by omega) (by omega) (fun H17 le18 => ?_) (fun H17 le18 hz16 => ?_)
 ·skip
  replace lE := lE.trans le18
  refine ob_i (vInt_lss_t (by omega)) ?_
  refine cnd_t1 ?_
  exact hk _ lE
 replace op1 := op1.le le18
 replace op5 := op5.le le18
 replace op9 := op9.le le18
 replace hpa := hpa.le le18
 replace hpb := hpb.le le18
 replace hqc := hqc.le le18
 replace hrc := hrc.le le18
 replace lE := lE.trans le18
 refine ob_i (vInt_lss_f (by omega)) ?_
 refine cnd_f1 ?_
 refine ob_i (op9.ldn rfl) ?_
 refine C.laws_szField hrc (by omega) (by omega) (by omega) (fun H20 le21 => ?_) (fun H20 le21 hz19 => ?_)
 ·skip
  replace lE := lE.trans le21
  refine ob_i (vInt_lss_t (by omega)) ?_
  refine cnd_t1 ?_
  exact hk _ lE
 replace op1 := op1.le le21
 replace op5 := op5.le le21
 replace op9 := op9.le le21
 replace hpa := hpa.le le21
 replace hpb := hpb.le le21
 replace hqc := hqc.le le21
 replace hrc := hrc.le le21
 replace lE := lE.trans le21
 refine ob_i (vInt_lss_f (by omega)) ?_
 refine cnd_f1 ?_
 refine ob_i (op1.ldn rfl) ?_
 refine ob_i (op5.ldn rfl) ?_
 refine ob_i (op9.ldn rfl) ?_
 refine C.laws_toLife hpa hpb (by omega) (by omega) (fun u22 u23 H24 ou22 ou23 nn26 nn27 au22Xu23 le25 => ?_)
 replace op1 := op1.le le25
 replace op5 := op5.le le25
 replace op9 := op9.le le25
 replace hpa := hpa.le le25
 replace hpb := hpb.le le25
 replace hqc := hqc.le le25
 replace hrc := hrc.le le25
 replace lE := lE.trans le25
 refine ⟨le25, ?_⟩
 refine C.laws_toField hqc (by omega) (fun u28 H29 ou28 nn31  le30 => ?_)
 replace op1 := op1.le le30
 replace op5 := op5.le le30
 replace op9 := op9.le le30
 replace ou22 := ou22.le le30
 replace ou23 := ou23.le le30
 replace hpa := hpa.le le30
 replace hpb := hpb.le le30
 replace hqc := hqc.le le30
 replace hrc := hrc.le le30
 replace lE := lE.trans le30
 refine ⟨le30, ?_⟩
 refine C.laws_toField hrc (by omega) (fun u32 H33 ou32 nn35  le34 => ?_)
 replace op1 := op1.le le34
 replace op5 := op5.le le34
 replace op9 := op9.le le34
 replace ou22 := ou22.le le34
 replace ou23 := ou23.le le34
 replace ou28 := ou28.le le34
 replace hpa := hpa.le le34
 replace hpb := hpb.le le34
 replace hqc := hqc.le le34
 replace hrc := hrc.le le34
 replace lE := lE.trans le34
 refine ⟨le34, ?_⟩
 refine C.spec_CrashOf ou22.sl ou23.sl ou28.sl ou32.sl (by omega) (by omega) (by omega) (by omega)  (fun g38 g40 H36 og38 og40 nn39 nn41 ag38Xg40 le37 => ?_)
 replace op1 := op1.le le37
 replace op5 := op5.le le37
 replace op9 := op9.le le37
 replace hpa := hpa.le le37
 replace hpb := hpb.le le37
 replace hqc := hqc.le le37
 replace hrc := hrc.le le37
 replace lE := lE.trans le37
 refine ⟨le37, ?_⟩
 refine ob_i (vExt_30 _ _ _) ?_
 refine ob_i (vExt_31 _ _ _) ?_
 refine ob_i (vExt_32 _ _ _) ?_
 refine ob_i (op1.ldn rfl) ?_
 refine C.laws_toLife hpa hpb (by omega) (by omega) (fun u42 u43 H44 ou42 ou43 nn46 nn47 au42Xu43 le45 => ?_)
 have ap1Xu42 : Apart p1 u42 := op1.apart nn46
 have ap5Xu42 : Apart p5 u42 := op5.apart nn46
 have ap9Xu42 : Apart p9 u42 := op9.apart nn46
 have ag38Xu42 : Apart g38 u42 := og38.apart nn46
 have ag40Xu42 : Apart g40 u42 := og40.apart nn46
 have nu42 : Nw H u42 := nn46.le lE
 have ap1Xu43 : Apart p1 u43 := op1.apart nn47
 have ap5Xu43 : Apart p5 u43 := op5.apart nn47
 have ap9Xu43 : Apart p9 u43 := op9.apart nn47
 have ag38Xu43 : Apart g38 u43 := og38.apart nn47
 have ag40Xu43 : Apart g40 u43 := og40.apart nn47
 have nu43 : Nw H u43 := nn47.le lE
 replace op1 := op1.le le45
 replace op5 := op5.le le45
 replace op9 := op9.le le45
 replace og38 := og38.le le45
 replace og40 := og40.le le45
 replace hpa := hpa.le le45
 replace hpb := hpb.le le45
 replace hqc := hqc.le le45
 replace hrc := hrc.le le45
 replace lE := lE.trans le45
 refine nw_i (fun p48 H49 op48 nn50 le51 => ?_)
 have ap1Xp48 : Apart p1 p48 := op1.apart nn50
 have ap5Xp48 : Apart p5 p48 := op5.apart nn50
 have ap9Xp48 : Apart p9 p48 := op9.apart nn50
 have ag38Xp48 : Apart g38 p48 := og38.apart nn50
 have ag40Xp48 : Apart g40 p48 := og40.apart nn50
 have au42Xp48 : Apart u42 p48 := ou42.apart nn50
 have au43Xp48 : Apart u43 p48 := ou43.apart nn50
 have np48 : Nw H p48 := nn50.le lE
 replace op1 := op1.le le51
 replace op5 := op5.le le51
 replace op9 := op9.le le51
 replace og38 := og38.le le51
 replace og40 := og40.le le51
 replace ou42 := ou42.le le51
 replace ou43 := ou43.le le51
 replace hpa := hpa.le le51
 replace hpb := hpb.le le51
 replace hqc := hqc.le le51
 replace hrc := hrc.le le51
 replace lE := lE.trans le51
 replace op48 : Cel H49 p48 [(.slice none 0 0), (.slice none 0 0)] := op48
 refine op48.stn (ws := [u42, u43]) rfl rfl (oc1 ou42.one (oc1 ou43.one oc0)) (fun H52 op48 off53 => ?_)
 replace op1 := op1.off off53 ap1Xp48
 replace op5 := op5.off off53 ap5Xp48
 replace op9 := op9.off off53 ap9Xp48
 replace og38 := og38.off off53 ag38Xp48
 replace og40 := og40.off off53 ag40Xp48
 replace ou42 := ou42.off off53 au42Xp48
 replace ou43 := ou43.off off53 au43Xp48
 replace hpa := hpa0.le (off53.le lE np48)
 replace hpb := hpb0.le (off53.le lE np48)
 replace hqc := hqc0.le (off53.le lE np48)
 replace hrc := hrc0.le (off53.le lE np48)
 replace lE := off53.le lE np48
 replace op48 : Cel H52 p48 [u42, u43] := op48
 refine ob_i (op5.ldn rfl) ?_
 refine C.laws_toField hqc (by omega) (fun u54 H55 ou54 nn57  le56 => ?_)
 have ap1Xu54 : Apart p1 u54 := op1.apart nn57
 have ap5Xu54 : Apart p5 u54 := op5.apart nn57
 have ap9Xu54 : Apart p9 u54 := op9.apart nn57
 have ag38Xu54 : Apart g38 u54 := og38.apart nn57
 have ag40Xu54 : Apart g40 u54 := og40.apart nn57
 have au42Xu54 : Apart u42 u54 := ou42.apart nn57
 have au43Xu54 : Apart u43 u54 := ou43.apart nn57
 have nu54 : Nw H u54 := nn57.le lE
 replace op1 := op1.le le56
 replace op5 := op5.le le56
 replace op9 := op9.le le56
 replace og38 := og38.le le56
 replace og40 := og40.le le56
 replace ou42 := ou42.le le56
 replace ou43 := ou43.le le56
 replace op48 := op48.le le56
 replace hpa := hpa.le le56
 replace hpb := hpb.le le56
 replace hqc := hqc.le le56
 replace hrc := hrc.le le56
 replace lE := lE.trans le56
 refine nw_i (fun p58 H59 op58 nn60 le61 => ?_)
 have ap1Xp58 : Apart p1 p58 := op1.apart nn60
 have ap5Xp58 : Apart p5 p58 := op5.apart nn60
 have ap9Xp58 : Apart p9 p58 := op9.apart nn60
 have ag38Xp58 : Apart g38 p58 := og38.apart nn60
 have ag40Xp58 : Apart g40 p58 := og40.apart nn60
 have au42Xp58 : Apart u42 p58 := ou42.apart nn60
 have au43Xp58 : Apart u43 p58 := ou43.apart nn60
 have ap48Xp58 : Apart p48 p58 := op48.apart nn60
 have au54Xp58 : Apart u54 p58 := ou54.apart nn60
 have np58 : Nw H p58 := nn60.le lE
 replace op1 := op1.le le61
 replace op5 := op5.le le61
 replace op9 := op9.le le61
 replace og38 := og38.le le61
 replace og40 := og40.le le61
 replace ou42 := ou42.le le61
 replace ou43 := ou43.le le61
 replace op48 := op48.le le61
 replace ou54 := ou54.le le61
 replace hpa := hpa.le le61
 replace hpb := hpb.le le61
 replace hqc := hqc.le le61
 replace hrc := hrc.le le61
 replace lE := lE.trans le61
 replace op58 : Cel H59 p58 [(.int .i64 (0)), (.int .i64 (0)), (.slice none 0 0)] := op58
 refine op58.stn (ws := [(.int .i64 (qa)), (.int .i64 (qb)), u54]) rfl rfl (oc1 rfl (oc1 rfl (oc1 ou54.one oc0))) (fun H62 op58 off63 => ?_)
 replace op1 := op1.off off63 ap1Xp58
 replace op5 := op5.off off63 ap5Xp58
 replace op9 := op9.off off63 ap9Xp58
 replace og38 := og38.off off63 ag38Xp58
 replace og40 := og40.off off63 ag40Xp58
 replace ou42 := ou42.off off63 au42Xp58
 replace ou43 := ou43.off off63 au43Xp58
 replace op48 := op48.off off63 ap48Xp58
 replace ou54 := ou54.off off63 au54Xp58
 replace hpa := hpa0.le (off63.le lE np58)
 replace hpb := hpb0.le (off63.le lE np58)
 replace hqc := hqc0.le (off63.le lE np58)
 replace hrc := hrc0.le (off63.le lE np58)
 replace lE := off63.le lE np58
 replace op58 : Cel H62 p58 [(.int .i64 (qa)), (.int .i64 (qb)), u54] := op58
 refine ob_i (op9.ldn rfl) ?_
 refine C.laws_toField hrc (by omega) (fun u64 H65 ou64 nn67  le66 => ?_)
 have ap1Xu64 : Apart p1 u64 := op1.apart nn67
 have ap5Xu64 : Apart p5 u64 := op5.apart nn67
 have ap9Xu64 : Apart p9 u64 := op9.apart nn67
 have ag38Xu64 : Apart g38 u64 := og38.apart nn67
 have ag40Xu64 : Apart g40 u64 := og40.apart nn67
 have au42Xu64 : Apart u42 u64 := ou42.apart nn67
 have au43Xu64 : Apart u43 u64 := ou43.apart nn67
 have au54Xu64 : Apart u54 u64 := ou54.apart nn67
 have nu64 : Nw H u64 := nn67.le lE
 replace op1 := op1.le le66
 replace op5 := op5.le le66
 replace op9 := op9.le le66
 replace og38 := og38.le le66
 replace og40 := og40.le le66
 replace ou42 := ou42.le le66
 replace ou43 := ou43.le le66
 replace op48 := op48.le le66
 replace ou54 := ou54.le le66
 replace op58 := op58.le le66
 replace hpa := hpa.le le66
 replace hpb := hpb.le le66
 replace hqc := hqc.le le66
 replace hrc := hrc.le le66
 replace lE := lE.trans le66
 refine nw_i (fun p68 H69 op68 nn70 le71 => ?_)
 have ap1Xp68 : Apart p1 p68 := op1.apart nn70
 have ap5Xp68 : Apart p5 p68 := op5.apart nn70
 have ap9Xp68 : Apart p9 p68 := op9.apart nn70
 have ag38Xp68 : Apart g38 p68 := og38.apart nn70
 have ag40Xp68 : Apart g40 p68 := og40.apart nn70
 have au42Xp68 : Apart u42 p68 := ou42.apart nn70
 have au43Xp68 : Apart u43 p68 := ou43.apart nn70
 have ap48Xp68 : Apart p48 p68 := op48.apart nn70
 have au54Xp68 : Apart u54 p68 := ou54.apart nn70
 have ap58Xp68 : Apart p58 p68 := op58.apart nn70
 have au64Xp68 : Apart u64 p68 := ou64.apart nn70
 have np68 : Nw H p68 := nn70.le lE
 replace op1 := op1.le le71
 replace op5 := op5.le le71
 replace op9 := op9.le le71
 replace og38 := og38.le le71
 replace og40 := og40.le le71
 replace ou42 := ou42.le le71
 replace ou43 := ou43.le le71
 replace op48 := op48.le le71
 replace ou54 := ou54.le le71
 replace op58 := op58.le le71
 replace ou64 := ou64.le le71
 replace hpa := hpa.le le71
 replace hpb := hpb.le le71
 replace hqc := hqc.le le71
 replace hrc := hrc.le le71
 replace lE := lE.trans le71
 replace op68 : Cel H69 p68 [(.int .i64 (0)), (.int .i64 (0)), (.slice none 0 0)] := op68
 refine op68.stn (ws := [(.int .i64 (ra)), (.int .i64 (rb)), u64]) rfl rfl (oc1 rfl (oc1 rfl (oc1 ou64.one oc0))) (fun H72 op68 off73 => ?_)
 replace op1 := op1.off off73 ap1Xp68
 replace op5 := op5.off off73 ap5Xp68
 replace op9 := op9.off off73 ap9Xp68
 replace og38 := og38.off off73 ag38Xp68
 replace og40 := og40.off off73 ag40Xp68
 replace ou42 := ou42.off off73 au42Xp68
 replace ou43 := ou43.off off73 au43Xp68
 replace op48 := op48.off off73 ap48Xp68
 replace ou54 := ou54.off off73 au54Xp68
 replace op58 := op58.off off73 ap58Xp68
 replace ou64 := ou64.off off73 au64Xp68
 replace hpa := hpa0.le (off73.le lE np68)
 replace hpb := hpb0.le (off73.le lE np68)
 replace hqc := hqc0.le (off73.le lE np68)
 replace hrc := hrc0.le (off73.le lE np68)
 replace lE := off73.le lE np68
 replace op68 : Cel H72 p68 [(.int .i64 (ra)), (.int .i64 (rb)), u64] := op68
 refine ob_i (op48.ldn rfl) ?_
 refine ob_i (op58.ldn rfl) ?_
 refine ob_i (op68.ldn rfl) ?_
 refine C.impl_CrashOf ou42.sl ou43.sl ou54.sl ou64.sl (by omega) (by omega) (by omega) (by omega)  (fun g76 g78 H74 og76 og78 nn77 nn79 ag76Xg78 le75 => ?_)
 have ap1Xg76 : Apart p1 g76 := op1.apart nn77
 have ap5Xg76 : Apart p5 g76 := op5.apart nn77
 have ap9Xg76 : Apart p9 g76 := op9.apart nn77
 have ag38Xg76 : Apart g38 g76 := og38.apart nn77
 have ag40Xg76 : Apart g40 g76 := og40.apart nn77
 have au42Xg76 : Apart u42 g76 := ou42.apart nn77
 have au43Xg76 : Apart u43 g76 := ou43.apart nn77
 have au54Xg76 : Apart u54 g76 := ou54.apart nn77
 have au64Xg76 : Apart u64 g76 := ou64.apart nn77
 have ng76 : Nw H g76 := nn77.le lE
 have ap1Xg78 : Apart p1 g78 := op1.apart nn79
 have ap5Xg78 : Apart p5 g78 := op5.apart nn79
 have ap9Xg78 : Apart p9 g78 := op9.apart nn79
 have ag38Xg78 : Apart g38 g78 := og38.apart nn79
 have ag40Xg78 : Apart g40 g78 := og40.apart nn79
 have au42Xg78 : Apart u42 g78 := ou42.apart nn79
 have au43Xg78 : Apart u43 g78 := ou43.apart nn79
 have au54Xg78 : Apart u54 g78 := ou54.apart nn79
 have au64Xg78 : Apart u64 g78 := ou64.apart nn79
 have ng78 : Nw H g78 := nn79.le lE
 replace op1 := op1.le le75
 replace op5 := op5.le le75
 replace op9 := op9.le le75
 replace og38 := og38.le le75
 replace og40 := og40.le le75
 replace ou42 := ou42.le le75
 replace ou43 := ou43.le le75
 replace op48 := op48.le le75
 replace ou54 := ou54.le le75
 replace op58 := op58.le le75
 replace ou64 := ou64.le le75
 replace op68 := op68.le le75
 replace hpa := hpa.le le75
 replace hpb := hpb.le le75
 replace hqc := hqc.le le75
 replace hrc := hrc.le le75
 replace lE := lE.trans le75
 refine ob_i (vExt_30 _ _ _) ?_
 refine ob_i (vExt_31 _ _ _) ?_
 refine ob_i (vExt_32 _ _ _) ?_
 refine C.laws_eqStringS og76.sl og38.sl (by omega) ?_
 refine ob_i (a := .bool false) rfl ?_
 refine gop_rf ?_
 refine gop_rf ?_
 refine gop_rf ?_
 refine C.laws_eqInt64S og78.sl og40.sl (by omega) ?_
 rw [decide_eq_true rfl]
 refine gop_rf ?_
 refine ob_i (a := .bool false) rfl ?_
 refine ob_i (vPick_f _ _) ?_
 refine gop_rf ?_
 refine gop_rf ?_
 refine gop_rf ?_
 refine ob_i (vBool_neq_same _) ?_
 refine ob_i (vPick_f _ _) ?_
 refine cnd_f1 ?_
 refine ob_i (op48.ldn rfl) ?_
 refine ob_i (op1.ldn rfl) ?_
 refine C.laws_toLife hpa hpb (by omega) (by omega) (fun u80 u81 H82 ou80 ou81 nn84 nn85 au80Xu81 le83 => ?_)
 replace op1 := op1.le le83
 replace op5 := op5.le le83
 replace op9 := op9.le le83
 replace og38 := og38.le le83
 replace og40 := og40.le le83
 replace ou42 := ou42.le le83
 replace ou43 := ou43.le le83
 replace op48 := op48.le le83
 replace ou54 := ou54.le le83
 replace op58 := op58.le le83
 replace ou64 := ou64.le le83
 replace op68 := op68.le le83
 replace og76 := og76.le le83
 replace og78 := og78.le le83
 replace hpa := hpa.le le83
 replace hpb := hpb.le le83
 replace hqc := hqc.le le83
 replace hrc := hrc.le le83
 replace lE := lE.trans le83
 refine ⟨le83, ?_⟩
 refine C.laws_eqLife ou42.sl ou80.sl ou43.sl ou81.sl (by omega) (by omega) (fun H86 le87 => ?_)
 replace op1 := op1.le le87
 replace op5 := op5.le le87
 replace op9 := op9.le le87
 replace og38 := og38.le le87
 replace og40 := og40.le le87
 replace ou42 := ou42.le le87
 replace ou43 := ou43.le le87
 replace op48 := op48.le le87
 replace ou54 := ou54.le le87
 replace op58 := op58.le le87
 replace ou64 := ou64.le le87
 replace op68 := op68.le le87
 replace og76 := og76.le le87
 replace og78 := og78.le le87
 replace hpa := hpa.le le87
 replace hpb := hpb.le le87
 replace hqc := hqc.le le87
 replace hrc := hrc.le le87
 replace lE := lE.trans le87
 refine ⟨le87, ?_⟩
 refine ob_i (a := .bool false) rfl ?_
 refine cnd_f1 ?_
 refine ob_i (op58.ldn rfl) ?_
 refine ob_i (op5.ldn rfl) ?_
 refine C.laws_toField hqc (by omega) (fun u88 H89 ou88 nn91  le90 => ?_)
 replace op1 := op1.le le90
 replace op5 := op5.le le90
 replace op9 := op9.le le90
 replace og38 := og38.le le90
 replace og40 := og40.le le90
 replace ou42 := ou42.le le90
 replace ou43 := ou43.le le90
 replace op48 := op48.le le90
 replace ou54 := ou54.le le90
 replace op58 := op58.le le90
 replace ou64 := ou64.le le90
 replace op68 := op68.le le90
 replace og76 := og76.le le90
 replace og78 := og78.le le90
 replace hpa := hpa.le le90
 replace hpb := hpb.le le90
 replace hqc := hqc.le le90
 replace hrc := hrc.le le90
 replace lE := lE.trans le90
 refine ⟨le90, ?_⟩
 refine C.laws_eqField ou54.sl ou88.sl (by omega) (fun H92 le93 => ?_)
 replace op1 := op1.le le93
 replace op5 := op5.le le93
 replace op9 := op9.le le93
 replace og38 := og38.le le93
 replace og40 := og40.le le93
 replace ou42 := ou42.le le93
 replace ou43 := ou43.le le93
 replace op48 := op48.le le93
 replace ou54 := ou54.le le93
 replace op58 := op58.le le93
 replace ou64 := ou64.le le93
 replace op68 := op68.le le93
 replace og76 := og76.le le93
 replace og78 := og78.le le93
 replace hpa := hpa.le le93
 replace hpb := hpb.le le93
 replace hqc := hqc.le le93
 replace hrc := hrc.le le93
 replace lE := lE.trans le93
 refine ⟨le93, ?_⟩
 refine ob_i (a := .bool false) rfl ?_
 refine cnd_f1 ?_
 refine ob_i (op68.ldn rfl) ?_
 refine ob_i (op9.ldn rfl) ?_
 refine C.laws_toField hrc (by omega) (fun u94 H95 ou94 nn97  le96 => ?_)
 replace op1 := op1.le le96
 replace op5 := op5.le le96
 replace op9 := op9.le le96
 replace og38 := og38.le le96
 replace og40 := og40.le le96
 replace ou42 := ou42.le le96
 replace ou43 := ou43.le le96
 replace op48 := op48.le le96
 replace ou54 := ou54.le le96
 replace op58 := op58.le le96
 replace ou64 := ou64.le le96
 replace op68 := op68.le le96
 replace og76 := og76.le le96
 replace og78 := og78.le le96
 replace hpa := hpa.le le96
 replace hpb := hpb.le le96
 replace hqc := hqc.le le96
 replace hrc := hrc.le le96
 replace lE := lE.trans le96
 refine ⟨le96, ?_⟩
 refine C.laws_eqField ou64.sl ou94.sl (by omega) (fun H98 le99 => ?_)
 replace op1 := op1.le le99
 replace op5 := op5.le le99
 replace op9 := op9.le le99
 replace og38 := og38.le le99
 replace og40 := og40.le le99
 replace ou42 := ou42.le le99
 replace ou43 := ou43.le le99
 replace op48 := op48.le le99
 replace ou54 := ou54.le le99
 replace op58 := op58.le le99
 replace ou64 := ou64.le le99
 replace op68 := op68.le le99
 replace og76 := og76.le le99
 replace og78 := og78.le le99
 replace hpa := hpa.le le99
 replace hpb := hpb.le le99
 replace hqc := hqc.le le99
 replace hrc := hrc.le le99
 replace lE := lE.trans le99
 refine ⟨le99, ?_⟩
 refine ob_i (a := .bool false) rfl ?_
 refine cnd_f1 ?_
 refine ob_i (op48.ldn rfl) ?_
 refine R.laws_markLife ?_
 unfold F.laws_markLife
 refine nw_i (fun p100 H101 op100 nn102 le103 => ?_)
 have au42Xp100 : Apart u42 p100 := ou42.apart nn102
 replace op1 := op1.le le103
 replace op5 := op5.le le103
 replace op9 := op9.le le103
 replace og38 := og38.le le103
 replace og40 := og40.le le103
 replace ou42 := ou42.le le103
 replace ou43 := ou43.le le103
 replace ou54 := ou54.le le103
 replace op58 := op58.le le103
 replace ou64 := ou64.le le103
 replace op68 := op68.le le103
 replace og76 := og76.le le103
 replace og78 := og78.le le103
 replace hpa := hpa.le le103
 replace hpb := hpb.le le103
 replace hqc := hqc.le le103
 replace hrc := hrc.le le103
 replace lE := lE.trans le103
 replace op100 : Cel H101 p100 [u42, u43] := op100
 refine ob_i (op100.fa 0) ?_
 refine ob_i (op100.ld 0 rfl) ?_
 refine C.laws_markInt64S ou42 (by omega) (by omega) (by omega) (fun H104 ou42 off105 => ?_)
 replace op1 := op1.off off105 ap1Xu42
 replace op5 := op5.off off105 ap5Xu42
 replace op9 := op9.off off105 ap9Xu42
 replace og38 := og38.off off105 ag38Xu42
 replace og40 := og40.off off105 ag40Xu42
 replace ou43 := ou43.off off105 au42Xu43.symm
 replace ou54 := ou54.off off105 au42Xu54.symm
 replace op58 := op58.off off105 au42Xp58.symm
 replace ou64 := ou64.off off105 au42Xu64.symm
 replace op68 := op68.off off105 au42Xp68.symm
 replace og76 := og76.off off105 au42Xg76.symm
 replace og78 := og78.off off105 au42Xg78.symm
 replace op100 := op100.off off105 au42Xp100.symm
 replace hpa := hpa0.le (off105.le lE nu42)
 replace hpb := hpb0.le (off105.le lE nu42)
 replace hqc := hqc0.le (off105.le lE nu42)
 replace hrc := hrc0.le (off105.le lE nu42)
 replace lE := off105.le lE nu42
 refine ob_i (op100.fa 1) ?_
 refine ob_i (op100.ld 1 rfl) ?_
 refine C.laws_markInt64S ou43 (by omega) (by omega) (by omega) (fun H106 ou43 off107 => ?_)
 replace op1 := op1.off off107 ap1Xu43
 replace op5 := op5.off off107 ap5Xu43
 replace op9 := op9.off off107 ap9Xu43
 replace og38 := og38.off off107 ag38Xu43
 replace og40 := og40.off off107 ag40Xu43
 replace ou54 := ou54.off off107 au43Xu54.symm
 replace op58 := op58.off off107 au43Xp58.symm
 replace ou64 := ou64.off off107 au43Xu64.symm
 replace op68 := op68.off off107 au43Xp68.symm
 replace og76 := og76.off off107 au43Xg76.symm
 replace og78 := og78.off off107 au43Xg78.symm
 replace hpa := hpa0.le (off107.le lE nu43)
 replace hpb := hpb0.le (off107.le lE nu43)
 replace hqc := hqc0.le (off107.le lE nu43)
 replace hrc := hrc0.le (off107.le lE nu43)
 replace lE := off107.le lE nu43
 refine ob_i (op58.ldn rfl) ?_
 refine R.laws_markField ?_
 unfold F.laws_markField
 refine nw_i (fun p108 H109 op108 nn110 le111 => ?_)
 replace op1 := op1.le le111
 replace op5 := op5.le le111
 replace op9 := op9.le le111
 replace og38 := og38.le le111
 replace og40 := og40.le le111
 replace ou54 := ou54.le le111
 replace ou64 := ou64.le le111
 replace op68 := op68.le le111
 replace og76 := og76.le le111
 replace og78 := og78.le le111
 replace hpa := hpa.le le111
 replace hpb := hpb.le le111
 replace hqc := hqc.le le111
 replace hrc := hrc.le le111
 replace lE := lE.trans le111
 replace op108 : Cel H109 p108 [(.int .i64 (qa)), (.int .i64 (qb)), u54] := op108
 refine ob_i (op108.fa 2) ?_
 refine ob_i (op108.ld 2 rfl) ?_
 refine C.laws_markInt64S ou54 (by omega) (by omega) (by omega) (fun H112 ou54 off113 => ?_)
 replace op1 := op1.off off113 ap1Xu54
 replace op5 := op5.off off113 ap5Xu54
 replace op9 := op9.off off113 ap9Xu54
 replace og38 := og38.off off113 ag38Xu54
 replace og40 := og40.off off113 ag40Xu54
 replace ou64 := ou64.off off113 au54Xu64.symm
 replace op68 := op68.off off113 au54Xp68.symm
 replace og76 := og76.off off113 au54Xg76.symm
 replace og78 := og78.off off113 au54Xg78.symm
 replace hpa := hpa0.le (off113.le lE nu54)
 replace hpb := hpb0.le (off113.le lE nu54)
 replace hqc := hqc0.le (off113.le lE nu54)
 replace hrc := hrc0.le (off113.le lE nu54)
 replace lE := off113.le lE nu54
 refine ob_i (op68.ldn rfl) ?_
 refine R.laws_markField ?_
 unfold F.laws_markField
 refine nw_i (fun p114 H115 op114 nn116 le117 => ?_)
 replace op1 := op1.le le117
 replace op5 := op5.le le117
 replace op9 := op9.le le117
 replace og38 := og38.le le117
 replace og40 := og40.le le117
 replace ou64 := ou64.le le117
 replace og76 := og76.le le117
 replace og78 := og78.le le117
 replace hpa := hpa.le le117
 replace hpb := hpb.le le117
 replace hqc := hqc.le le117
 replace hrc := hrc.le le117
 replace lE := lE.trans le117
 replace op114 : Cel H115 p114 [(.int .i64 (ra)), (.int .i64 (rb)), u64] := op114
 refine ob_i (op114.fa 2) ?_
 refine ob_i (op114.ld 2 rfl) ?_
 refine C.laws_markInt64S ou64 (by omega) (by omega) (by omega) (fun H118 ou64 off119 => ?_)
 replace op1 := op1.off off119 ap1Xu64
 replace op5 := op5.off off119 ap5Xu64
 replace op9 := op9.off off119 ap9Xu64
 replace og38 := og38.off off119 ag38Xu64
 replace og40 := og40.off off119 ag40Xu64
 replace og76 := og76.off off119 au64Xg76.symm
 replace og78 := og78.off off119 au64Xg78.symm
 replace hpa := hpa0.le (off119.le lE nu64)
 replace hpb := hpb0.le (off119.le lE nu64)
 replace hqc := hqc0.le (off119.le lE nu64)
 replace hrc := hrc0.le (off119.le lE nu64)
 replace lE := off119.le lE nu64
 refine ob_i (vInt_lss_f (by omega)) ?_
 refine gop_rf ?_
 refine gop_rf ?_
 refine gop_rf ?_
 refine C.laws_eqStringS og76.sl og38.sl (by omega) ?_
 refine gop_rf ?_
 refine ob_i (a := .bool false) rfl ?_
 refine ob_i (vPick_f _ _) ?_
 refine gop_rf ?_
 refine gop_rf ?_
 refine gop_rf ?_
 refine C.laws_eqInt64S og78.sl og40.sl (by omega) ?_
 rw [decide_eq_true rfl]
 refine gop_rf ?_
 refine ob_i (a := .bool false) rfl ?_
 refine ob_i (vPick_f _ _) ?_
 refine gop_rf ?_
 refine gop_rf ?_
 refine gop_rf ?_
 refine ob_i (vBool_neq_same _) ?_
 refine ob_i (vPick_f _ _) ?_
 refine cnd_f1 ?_
 refine C.laws_markStringS og76 (by omega) (by omega) (by omega) (fun H120 og76 off121 => ?_)
 replace op1 := op1.off off121 ap1Xg76
 replace op5 := op5.off off121 ap5Xg76
 replace op9 := op9.off off121 ap9Xg76
 replace og38 := og38.off off121 ag38Xg76
 replace og40 := og40.off off121 ag40Xg76
 replace og78 := og78.off off121 ag76Xg78.symm
 replace hpa := hpa0.le (off121.le lE ng76)
 replace hpb := hpb0.le (off121.le lE ng76)
 replace hqc := hqc0.le (off121.le lE ng76)
 replace hrc := hrc0.le (off121.le lE ng76)
 replace lE := off121.le lE ng76
 refine C.laws_markInt64S og78 (by omega) (by omega) (by omega) (fun H122 og78 off123 => ?_)
 replace op1 := op1.off off123 ap1Xg78
 replace op5 := op5.off off123 ap5Xg78
 replace op9 := op9.off off123 ap9Xg78
 replace og38 := og38.off off123 ag38Xg78
 replace og40 := og40.off off123 ag40Xg78
 replace og76 := og76.off off123 ag76Xg78
 replace hpa := hpa0.le (off123.le lE ng78)
 replace hpb := hpb0.le (off123.le lE ng78)
 replace hqc := hqc0.le (off123.le lE ng78)
 replace hrc := hrc0.le (off123.le lE ng78)
 replace lE := off123.le lE ng78
 refine C.laws_heldStringS og76.sl (by omega) (by omega) (by omega) (fun H124 le125 => ?_)
 replace op1 := op1.le le125
 replace op5 := op5.le le125
 replace op9 := op9.le le125
 replace og38 := og38.le le125
 replace og40 := og40.le le125
 replace og76 := og76.le le125
 replace og78 := og78.le le125
 replace hpa := hpa.le le125
 replace hpb := hpb.le le125
 replace hqc := hqc.le le125
 replace hrc := hrc.le le125
 replace lE := lE.trans le125
 refine ob_i (vInt_lss_f (by omega)) ?_
 refine cnd_f1 ?_
 refine C.laws_heldInt64S og78.sl (by omega) (by omega) (by omega) ?_
 refine ob_i (vInt_lss_f (by omega)) ?_
 refine cnd_f1 ?_
 refine ob_i (vInt_neq_same _ _) ?_
 refine cnd_f1 ?_
 refine ob_i (op1.ldn rfl) ?_
 refine ob_i (op5.ldn rfl) ?_
 refine ob_i (op9.ldn rfl) ?_
 refine C.laws_toLife hpa hpb (by omega) (by omega) (fun u126 u127 H128 ou126 ou127 nn130 nn131 au126Xu127 le129 => ?_)
 replace og38 := og38.le le129
 replace og40 := og40.le le129
 replace og76 := og76.le le129
 replace og78 := og78.le le129
 replace hqc := hqc.le le129
 replace hrc := hrc.le le129
 replace lE := lE.trans le129
 refine ⟨le129, ?_⟩
 refine C.laws_toField hqc (by omega) (fun u132 H133 ou132 nn135  le134 => ?_)
 replace og38 := og38.le le134
 replace og40 := og40.le le134
 replace og76 := og76.le le134
 replace og78 := og78.le le134
 replace ou126 := ou126.le le134
 replace ou127 := ou127.le le134
 replace hrc := hrc.le le134
 replace lE := lE.trans le134
 refine ⟨le134, ?_⟩
 refine C.laws_toField hrc (by omega) (fun u136 H137 ou136 nn139  le138 => ?_)
 replace og38 := og38.le le138
 replace og40 := og40.le le138
 replace og76 := og76.le le138
 replace og78 := og78.le le138
 replace ou126 := ou126.le le138
 replace ou127 := ou127.le le138
 replace ou132 := ou132.le le138
 replace lE := lE.trans le138
 refine ⟨le138, ?_⟩
 refine C.impl_CrashOf ou126.sl ou127.sl ou132.sl ou136.sl (by omega) (by omega) (by omega) (by omega)  (fun g142 g144 H140 og142 og144 nn143 nn145 ag142Xg144 le141 => ?_)
 replace og38 := og38.le le141
 replace og40 := og40.le le141
 replace og76 := og76.le le141
 replace og78 := og78.le le141
 replace lE := lE.trans le141
 refine ⟨le141, ?_⟩
 refine ob_i (vExt_30 _ _ _) ?_
 refine ob_i (vExt_31 _ _ _) ?_
 refine ob_i (vExt_32 _ _ _) ?_
 refine C.laws_eqStringS og142.sl og38.sl (by omega) ?_
 refine ob_i (a := .bool false) rfl ?_
 refine gop_rf ?_
 refine gop_rf ?_
 refine gop_rf ?_
 refine C.laws_eqInt64S og144.sl og40.sl (by omega) ?_
 rw [decide_eq_true rfl]
 refine gop_rf ?_
 refine ob_i (a := .bool false) rfl ?_
 refine ob_i (vPick_f _ _) ?_
 refine gop_rf ?_
 refine gop_rf ?_
 refine gop_rf ?_
 refine ob_i (vBool_neq_same _) ?_
 refine ob_i (vPick_f _ _) ?_
 refine cnd_f1 ?_
 refine C.laws_heldStringS og76.sl (by omega) (by omega) (by omega) (fun H146 le147 => ?_)
 replace og78 := og78.le le147
 replace lE := lE.trans le147
 refine ob_i (vInt_lss_f (by omega)) ?_
 refine cnd_f1 ?_
 refine C.laws_heldInt64S og78.sl (by omega) (by omega) (by omega) ?_
 refine ob_i (vInt_lss_f (by omega)) ?_
 refine cnd_f1 ?_
 refine ob_i (vInt_neq_same _ _) ?_
 refine cnd_f1 ?_
 exact hk _ lE
end Go.Proofs.YtffmfkpobjdmmaaGreatDoor
