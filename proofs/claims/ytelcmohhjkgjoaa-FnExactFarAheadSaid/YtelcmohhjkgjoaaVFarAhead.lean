/- Laws, each by its two sides: its function returns true, and what was known before stays. -/
import Derived.Test.YtelcmohhjkgjoaaRF
import Derived.Test.YtelcmohhjkgjoaaQR
import Derived.Test.YtelcmohhjkgjoaaSE
namespace Go.Proofs.Ytelcmohhjkgjoaa
open HL
set_option maxRecDepth 100000
theorem L.FnExactFarAhead {pa : Int} {pb : Int} {pc : Value} {spc : List Int} {q : Value} {sq : List Int} {r : Int} {H : Hp} {K : Value → Hp → Prop} (hpc0 : Sl eI H pc spc) (hq0 : Sl eI H q sq) (wr0 : -9223372036854775808 ≤ r) (wr1 : r < 9223372036854775808) (mspc : (spc).length ≤ 9223372036854775807) (msq : (sq).length ≤ 9223372036854775807) (hk : ∀ H', Le H H' → K (.bool true) H') :
    HT prg I.laws_FnExactFarAhead [(.agg #[(.int .i64 (pa)), (.int .i64 (pb)), pc]), q, (.int .i64 (r))].toArray H K := by
  have hR := @farP_len pa pb spc sq r
  have lE := Le.refl H
  have hpc := hpc0
  have hq := hq0
  refine R.laws_FnExactFarAhead ?_
  unfold F.laws_FnExactFarAhead
  refine nw_i (fun p1 H2 op1 nn3 le4 => ?_)
  have np1 : Nw H p1 := nn3.le lE
  replace hpc := hpc.le le4
  replace hq := hq.le le4
  replace lE := lE.trans le4
  replace op1 : Cel H2 p1 [(.int .i64 (pa)), (.int .i64 (pb)), pc] := op1
  refine ob_i (hq.len) ?_
  refine ob_i (vInt_gtr _ _ _) ?_
  refine cnd_d (fun hg5 => ?_) (fun hg5 => ?_)
  · skip
    exact hk _ lE
  have : (sq).length ≤ 1048576 := by omega
  clear hg5
  refine ob_i (op1.ldn rfl) ?_
  refine C.laws_szRule hpc (by omega) (by omega) (by omega) (fun H7 le8 => ?_) (fun H7 le8 hz6 => ?_)
  · skip
    replace op1 := op1.le le8
    replace hpc := hpc.le le8
    replace hq := hq.le le8
    replace lE := lE.trans le8
    refine ob_i (vInt_lss_t (by omega)) ?_
    refine cnd_t1 ?_
    exact hk _ lE
  replace op1 := op1.le le8
  replace hpc := hpc.le le8
  replace hq := hq.le le8
  replace lE := lE.trans le8
  refine ob_i (vInt_lss_f (by omega)) ?_
  refine cnd_f1 ?_
  refine ob_i (op1.ldn rfl) ?_
  refine C.laws_toRule hpc (by omega) (fun u9 H10 ou9 nn12  le11 => ?_)
  have ap1Xu9 : Apart p1 u9 := op1.apart nn12
  have nu9 : Nw H u9 := nn12.le lE
  replace op1 := op1.le le11
  replace hpc := hpc.le le11
  replace hq := hq.le le11
  replace lE := lE.trans le11
  refine C.laws_toInt64S hq (by omega) (fun u13 H14 ou13 nn15 le16 => ?_)
  have ap1Xu13 : Apart p1 u13 := op1.apart nn15
  have au9Xu13 : Apart u9 u13 := ou9.apart nn15
  have nu13 : Nw H u13 := nn15.le lE
  replace op1 := op1.le le16
  replace ou9 := ou9.le le16
  replace hpc := hpc.le le16
  replace hq := hq.le le16
  replace lE := lE.trans le16
  refine C.spec_FarAhead ou9.sl ou13.sl (by omega) (by omega)  (fun g19 H17 og19 nn20  le18 => ?_)
  have ap1Xg19 : Apart p1 g19 := op1.apart nn20
  have au9Xg19 : Apart u9 g19 := ou9.apart nn20
  have au13Xg19 : Apart u13 g19 := ou13.apart nn20
  have ng19 : Nw H g19 := nn20.le lE
  replace op1 := op1.le le18
  replace ou9 := ou9.le le18
  replace ou13 := ou13.le le18
  replace hpc := hpc.le le18
  replace hq := hq.le le18
  replace lE := lE.trans le18
  refine ob_i (vExt_20 _ _) ?_
  refine ob_i (vExt_21 _ _) ?_
  refine ob_i (op1.ldn rfl) ?_
  refine C.laws_toRule hpc (by omega) (fun u21 H22 ou21 nn24  le23 => ?_)
  have ap1Xu21 : Apart p1 u21 := op1.apart nn24
  have au9Xu21 : Apart u9 u21 := ou9.apart nn24
  have au13Xu21 : Apart u13 u21 := ou13.apart nn24
  have ag19Xu21 : Apart g19 u21 := og19.apart nn24
  have nu21 : Nw H u21 := nn24.le lE
  replace op1 := op1.le le23
  replace ou9 := ou9.le le23
  replace ou13 := ou13.le le23
  replace og19 := og19.le le23
  replace hpc := hpc.le le23
  replace hq := hq.le le23
  replace lE := lE.trans le23
  refine nw_i (fun p25 H26 op25 nn27 le28 => ?_)
  have ap1Xp25 : Apart p1 p25 := op1.apart nn27
  have au9Xp25 : Apart u9 p25 := ou9.apart nn27
  have au13Xp25 : Apart u13 p25 := ou13.apart nn27
  have ag19Xp25 : Apart g19 p25 := og19.apart nn27
  have au21Xp25 : Apart u21 p25 := ou21.apart nn27
  have np25 : Nw H p25 := nn27.le lE
  replace op1 := op1.le le28
  replace ou9 := ou9.le le28
  replace ou13 := ou13.le le28
  replace og19 := og19.le le28
  replace ou21 := ou21.le le28
  replace hpc := hpc.le le28
  replace hq := hq.le le28
  replace lE := lE.trans le28
  replace op25 : Cel H26 p25 [(.int .i64 (0)), (.int .i64 (0)), (.slice none 0 0)] := op25
  refine op25.stn (ws := [(.int .i64 (pa)), (.int .i64 (pb)), u21]) rfl rfl (oc1 rfl (oc1 rfl (oc1 ou21.one oc0))) (fun H29 op25 off30 => ?_)
  replace op1 := op1.off off30 ap1Xp25
  replace ou9 := ou9.off off30 au9Xp25
  replace ou13 := ou13.off off30 au13Xp25
  replace og19 := og19.off off30 ag19Xp25
  replace ou21 := ou21.off off30 au21Xp25
  replace hpc := hpc0.le (off30.le lE np25)
  replace hq := hq0.le (off30.le lE np25)
  replace lE := off30.le lE np25
  replace op25 : Cel H29 p25 [(.int .i64 (pa)), (.int .i64 (pb)), u21] := op25
  refine C.laws_toInt64S hq (by omega) (fun u31 H32 ou31 nn33 le34 => ?_)
  have ap1Xu31 : Apart p1 u31 := op1.apart nn33
  have au9Xu31 : Apart u9 u31 := ou9.apart nn33
  have au13Xu31 : Apart u13 u31 := ou13.apart nn33
  have ag19Xu31 : Apart g19 u31 := og19.apart nn33
  have au21Xu31 : Apart u21 u31 := ou21.apart nn33
  have ap25Xu31 : Apart p25 u31 := op25.apart nn33
  have nu31 : Nw H u31 := nn33.le lE
  replace op1 := op1.le le34
  replace ou9 := ou9.le le34
  replace ou13 := ou13.le le34
  replace og19 := og19.le le34
  replace ou21 := ou21.le le34
  replace op25 := op25.le le34
  replace hpc := hpc.le le34
  replace hq := hq.le le34
  replace lE := lE.trans le34
  refine ob_i (op25.ldn rfl) ?_
  refine C.impl_FarAhead ou21.sl ou31.sl (by omega) (by omega)  (fun g37 H35 og37 nn38  le36 => ?_)
  have ap1Xg37 : Apart p1 g37 := op1.apart nn38
  have au9Xg37 : Apart u9 g37 := ou9.apart nn38
  have au13Xg37 : Apart u13 g37 := ou13.apart nn38
  have ag19Xg37 : Apart g19 g37 := og19.apart nn38
  have au21Xg37 : Apart u21 g37 := ou21.apart nn38
  have ap25Xg37 : Apart p25 g37 := op25.apart nn38
  have au31Xg37 : Apart u31 g37 := ou31.apart nn38
  have ng37 : Nw H g37 := nn38.le lE
  replace op1 := op1.le le36
  replace ou9 := ou9.le le36
  replace ou13 := ou13.le le36
  replace og19 := og19.le le36
  replace ou21 := ou21.le le36
  replace op25 := op25.le le36
  replace ou31 := ou31.le le36
  replace hpc := hpc.le le36
  replace hq := hq.le le36
  replace lE := lE.trans le36
  refine ob_i (vExt_20 _ _) ?_
  refine ob_i (vExt_21 _ _) ?_
  refine C.laws_eqInt64S og37.sl og19.sl (by omega) ?_
  rw [decide_eq_true rfl]
  refine ob_i (a := .bool false) rfl ?_
  refine gop_rf ?_
  refine gop_rf ?_
  refine gop_rf ?_
  refine ob_i (vBool_neq_same _) ?_
  refine ob_i (vPick_f _ _) ?_
  refine cnd_f1 ?_
  refine ob_i (op25.ldn rfl) ?_
  refine ob_i (op1.ldn rfl) ?_
  refine C.laws_toRule hpc (by omega) (fun u39 H40 ou39 nn42  le41 => ?_)
  have ap1Xu39 : Apart p1 u39 := op1.apart nn42
  have au9Xu39 : Apart u9 u39 := ou9.apart nn42
  have au13Xu39 : Apart u13 u39 := ou13.apart nn42
  have ag19Xu39 : Apart g19 u39 := og19.apart nn42
  have au21Xu39 : Apart u21 u39 := ou21.apart nn42
  have ap25Xu39 : Apart p25 u39 := op25.apart nn42
  have au31Xu39 : Apart u31 u39 := ou31.apart nn42
  have ag37Xu39 : Apart g37 u39 := og37.apart nn42
  have nu39 : Nw H u39 := nn42.le lE
  replace op1 := op1.le le41
  replace ou9 := ou9.le le41
  replace ou13 := ou13.le le41
  replace og19 := og19.le le41
  replace ou21 := ou21.le le41
  replace op25 := op25.le le41
  replace ou31 := ou31.le le41
  replace og37 := og37.le le41
  replace hpc := hpc.le le41
  replace hq := hq.le le41
  replace lE := lE.trans le41
  refine ⟨le41, ?_⟩
  refine C.laws_eqRule ou21.sl ou39.sl (by omega) (fun H43 le44 => ?_)
  replace op1 := op1.le le44
  replace ou9 := ou9.le le44
  replace ou13 := ou13.le le44
  replace og19 := og19.le le44
  replace ou21 := ou21.le le44
  replace op25 := op25.le le44
  replace ou31 := ou31.le le44
  replace og37 := og37.le le44
  replace ou39 := ou39.le le44
  replace hpc := hpc.le le44
  replace hq := hq.le le44
  replace lE := lE.trans le44
  refine ⟨le44, ?_⟩
  refine ob_i (a := .bool false) rfl ?_
  refine cnd_f1 ?_
  refine C.laws_toInt64S hq (by omega) (fun u45 H46 ou45 nn47 le48 => ?_)
  have ap1Xu45 : Apart p1 u45 := op1.apart nn47
  have au9Xu45 : Apart u9 u45 := ou9.apart nn47
  have au13Xu45 : Apart u13 u45 := ou13.apart nn47
  have ag19Xu45 : Apart g19 u45 := og19.apart nn47
  have au21Xu45 : Apart u21 u45 := ou21.apart nn47
  have ap25Xu45 : Apart p25 u45 := op25.apart nn47
  have au31Xu45 : Apart u31 u45 := ou31.apart nn47
  have ag37Xu45 : Apart g37 u45 := og37.apart nn47
  have au39Xu45 : Apart u39 u45 := ou39.apart nn47
  have nu45 : Nw H u45 := nn47.le lE
  replace op1 := op1.le le48
  replace ou9 := ou9.le le48
  replace ou13 := ou13.le le48
  replace og19 := og19.le le48
  replace ou21 := ou21.le le48
  replace op25 := op25.le le48
  replace ou31 := ou31.le le48
  replace og37 := og37.le le48
  replace ou39 := ou39.le le48
  replace hpc := hpc.le le48
  replace hq := hq.le le48
  replace lE := lE.trans le48
  refine C.laws_eqInt64S ou31.sl ou45.sl (by omega) ?_
  rw [decide_eq_true rfl]
  refine ob_i (a := .bool false) rfl ?_
  refine cnd_f1 ?_
  refine ob_i (op25.ldn rfl) ?_
  refine R.laws_markRule ?_
  unfold F.laws_markRule
  refine nw_i (fun p49 H50 op49 nn51 le52 => ?_)
  have ap1Xp49 : Apart p1 p49 := op1.apart nn51
  have au9Xp49 : Apart u9 p49 := ou9.apart nn51
  have au13Xp49 : Apart u13 p49 := ou13.apart nn51
  have ag19Xp49 : Apart g19 p49 := og19.apart nn51
  have au21Xp49 : Apart u21 p49 := ou21.apart nn51
  have ap25Xp49 : Apart p25 p49 := op25.apart nn51
  have au31Xp49 : Apart u31 p49 := ou31.apart nn51
  have ag37Xp49 : Apart g37 p49 := og37.apart nn51
  have au39Xp49 : Apart u39 p49 := ou39.apart nn51
  have au45Xp49 : Apart u45 p49 := ou45.apart nn51
  have np49 : Nw H p49 := nn51.le lE
  replace op1 := op1.le le52
  replace ou9 := ou9.le le52
  replace ou13 := ou13.le le52
  replace og19 := og19.le le52
  replace ou21 := ou21.le le52
  replace op25 := op25.le le52
  replace ou31 := ou31.le le52
  replace og37 := og37.le le52
  replace ou39 := ou39.le le52
  replace ou45 := ou45.le le52
  replace hpc := hpc.le le52
  replace hq := hq.le le52
  replace lE := lE.trans le52
  replace op49 : Cel H50 p49 [(.int .i64 (pa)), (.int .i64 (pb)), u21] := op49
  refine ob_i (op49.fa 2) ?_
  refine ob_i (op49.ld 2 rfl) ?_
  refine C.laws_markInt64S ou21 (by omega) (by omega) (by omega) (fun H53 ou21 off54 => ?_)
  replace op1 := op1.off off54 ap1Xu21
  replace ou9 := ou9.off off54 au9Xu21
  replace ou13 := ou13.off off54 au13Xu21
  replace og19 := og19.off off54 ag19Xu21
  replace op25 := op25.off off54 au21Xp25.symm
  replace ou31 := ou31.off off54 au21Xu31.symm
  replace og37 := og37.off off54 au21Xg37.symm
  replace ou39 := ou39.off off54 au21Xu39.symm
  replace ou45 := ou45.off off54 au21Xu45.symm
  replace op49 := op49.off off54 au21Xp49.symm
  replace hpc := hpc0.le (off54.le lE nu21)
  replace hq := hq0.le (off54.le lE nu21)
  replace lE := off54.le lE nu21
  refine C.laws_markInt64S ou31 (by omega) (by omega) (by omega) (fun H55 ou31 off56 => ?_)
  replace op1 := op1.off off56 ap1Xu31
  replace ou9 := ou9.off off56 au9Xu31
  replace ou13 := ou13.off off56 au13Xu31
  replace og19 := og19.off off56 ag19Xu31
  replace ou21 := ou21.off off56 au21Xu31
  replace op25 := op25.off off56 ap25Xu31
  replace og37 := og37.off off56 au31Xg37.symm
  replace ou39 := ou39.off off56 au31Xu39.symm
  replace ou45 := ou45.off off56 au31Xu45.symm
  replace op49 := op49.off off56 au31Xp49.symm
  replace hpc := hpc0.le (off56.le lE nu31)
  replace hq := hq0.le (off56.le lE nu31)
  replace lE := off56.le lE nu31
  refine ob_i (vInt_lss_f (by omega)) ?_
  refine gop_rf ?_
  refine gop_rf ?_
  refine gop_rf ?_
  refine C.laws_eqInt64S og37.sl og19.sl (by omega) ?_
  rw [decide_eq_true rfl]
  refine gop_rf ?_
  refine ob_i (a := .bool false) rfl ?_
  refine ob_i (vPick_f _ _) ?_
  refine gop_rf ?_
  refine gop_rf ?_
  refine gop_rf ?_
  refine ob_i (vBool_neq_same _) ?_
  refine ob_i (vPick_f _ _) ?_
  refine cnd_f1 ?_
  refine C.laws_markInt64S og37 (by omega) (by omega) (by omega) (fun H57 og37 off58 => ?_)
  replace op1 := op1.off off58 ap1Xg37
  replace ou9 := ou9.off off58 au9Xg37
  replace ou13 := ou13.off off58 au13Xg37
  replace og19 := og19.off off58 ag19Xg37
  replace ou21 := ou21.off off58 au21Xg37
  replace op25 := op25.off off58 ap25Xg37
  replace ou31 := ou31.off off58 au31Xg37
  replace ou39 := ou39.off off58 ag37Xu39.symm
  replace ou45 := ou45.off off58 ag37Xu45.symm
  replace op49 := op49.off off58 ag37Xp49.symm
  replace hpc := hpc0.le (off58.le lE ng37)
  replace hq := hq0.le (off58.le lE ng37)
  replace lE := off58.le lE ng37
  refine C.laws_heldInt64S og37.sl (by omega) (by omega) (by omega) ?_
  refine ob_i (vInt_lss_f (by omega)) ?_
  refine cnd_f1 ?_
  refine ob_i (vInt_neq_same _ _) ?_
  refine cnd_f1 ?_
  refine ob_i (op1.ldn rfl) ?_
  refine C.laws_toRule hpc (by omega) (fun u59 H60 ou59 nn62  le61 => ?_)
  have ap1Xu59 : Apart p1 u59 := op1.apart nn62
  have au9Xu59 : Apart u9 u59 := ou9.apart nn62
  have au13Xu59 : Apart u13 u59 := ou13.apart nn62
  have ag19Xu59 : Apart g19 u59 := og19.apart nn62
  have au21Xu59 : Apart u21 u59 := ou21.apart nn62
  have ap25Xu59 : Apart p25 u59 := op25.apart nn62
  have au31Xu59 : Apart u31 u59 := ou31.apart nn62
  have ag37Xu59 : Apart g37 u59 := og37.apart nn62
  have au39Xu59 : Apart u39 u59 := ou39.apart nn62
  have au45Xu59 : Apart u45 u59 := ou45.apart nn62
  have ap49Xu59 : Apart p49 u59 := op49.apart nn62
  have nu59 : Nw H u59 := nn62.le lE
  replace op1 := op1.le le61
  replace ou9 := ou9.le le61
  replace ou13 := ou13.le le61
  replace og19 := og19.le le61
  replace ou21 := ou21.le le61
  replace op25 := op25.le le61
  replace ou31 := ou31.le le61
  replace og37 := og37.le le61
  replace ou39 := ou39.le le61
  replace ou45 := ou45.le le61
  replace op49 := op49.le le61
  replace hpc := hpc.le le61
  replace hq := hq.le le61
  replace lE := lE.trans le61
  refine C.laws_toInt64S hq (by omega) (fun u63 H64 ou63 nn65 le66 => ?_)
  have ap1Xu63 : Apart p1 u63 := op1.apart nn65
  have au9Xu63 : Apart u9 u63 := ou9.apart nn65
  have au13Xu63 : Apart u13 u63 := ou13.apart nn65
  have ag19Xu63 : Apart g19 u63 := og19.apart nn65
  have au21Xu63 : Apart u21 u63 := ou21.apart nn65
  have ap25Xu63 : Apart p25 u63 := op25.apart nn65
  have au31Xu63 : Apart u31 u63 := ou31.apart nn65
  have ag37Xu63 : Apart g37 u63 := og37.apart nn65
  have au39Xu63 : Apart u39 u63 := ou39.apart nn65
  have au45Xu63 : Apart u45 u63 := ou45.apart nn65
  have ap49Xu63 : Apart p49 u63 := op49.apart nn65
  have au59Xu63 : Apart u59 u63 := ou59.apart nn65
  have nu63 : Nw H u63 := nn65.le lE
  replace op1 := op1.le le66
  replace ou9 := ou9.le le66
  replace ou13 := ou13.le le66
  replace og19 := og19.le le66
  replace ou21 := ou21.le le66
  replace op25 := op25.le le66
  replace ou31 := ou31.le le66
  replace og37 := og37.le le66
  replace ou39 := ou39.le le66
  replace ou45 := ou45.le le66
  replace op49 := op49.le le66
  replace ou59 := ou59.le le66
  replace hpc := hpc.le le66
  replace hq := hq.le le66
  replace lE := lE.trans le66
  refine C.impl_FarAhead ou59.sl ou63.sl (by omega) (by omega)  (fun g69 H67 og69 nn70  le68 => ?_)
  have ap1Xg69 : Apart p1 g69 := op1.apart nn70
  have au9Xg69 : Apart u9 g69 := ou9.apart nn70
  have au13Xg69 : Apart u13 g69 := ou13.apart nn70
  have ag19Xg69 : Apart g19 g69 := og19.apart nn70
  have au21Xg69 : Apart u21 g69 := ou21.apart nn70
  have ap25Xg69 : Apart p25 g69 := op25.apart nn70
  have au31Xg69 : Apart u31 g69 := ou31.apart nn70
  have ag37Xg69 : Apart g37 g69 := og37.apart nn70
  have au39Xg69 : Apart u39 g69 := ou39.apart nn70
  have au45Xg69 : Apart u45 g69 := ou45.apart nn70
  have ap49Xg69 : Apart p49 g69 := op49.apart nn70
  have au59Xg69 : Apart u59 g69 := ou59.apart nn70
  have au63Xg69 : Apart u63 g69 := ou63.apart nn70
  have ng69 : Nw H g69 := nn70.le lE
  replace op1 := op1.le le68
  replace ou9 := ou9.le le68
  replace ou13 := ou13.le le68
  replace og19 := og19.le le68
  replace ou21 := ou21.le le68
  replace op25 := op25.le le68
  replace ou31 := ou31.le le68
  replace og37 := og37.le le68
  replace ou39 := ou39.le le68
  replace ou45 := ou45.le le68
  replace op49 := op49.le le68
  replace ou59 := ou59.le le68
  replace ou63 := ou63.le le68
  replace hpc := hpc.le le68
  replace hq := hq.le le68
  replace lE := lE.trans le68
  refine ob_i (vExt_20 _ _) ?_
  refine ob_i (vExt_21 _ _) ?_
  refine C.laws_eqInt64S og69.sl og19.sl (by omega) ?_
  rw [decide_eq_true rfl]
  refine ob_i (a := .bool false) rfl ?_
  refine gop_rf ?_
  refine gop_rf ?_
  refine gop_rf ?_
  refine ob_i (vBool_neq_same _) ?_
  refine ob_i (vPick_f _ _) ?_
  refine cnd_f1 ?_
  refine C.laws_heldInt64S og37.sl (by omega) (by omega) (by omega) ?_
  refine ob_i (vInt_lss_f (by omega)) ?_
  refine cnd_f1 ?_
  refine ob_i (vInt_neq_same _ _) ?_
  refine cnd_f1 ?_
  exact hk _ lE
end Go.Proofs.Ytelcmohhjkgjoaa
