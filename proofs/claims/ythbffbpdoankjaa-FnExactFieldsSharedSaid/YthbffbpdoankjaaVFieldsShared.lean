/- Laws, each by its two sides: its function returns true, and what was known before stays. -/
import Derived.Test.YthbffbpdoankjaaUS
import Derived.Test.YthbffbpdoankjaaKM
import Derived.Test.YthbffbpdoankjaaQH
import Derived.Test.YthbffbpdoankjaaQI
import Derived.Test.YthbffbpdoankjaaSE
namespace Go.Proofs.Ythbffbpdoankjaa
open HL
set_option maxRecDepth 100000
theorem L.FnExactFieldsShared {pa : Value} {spa : List Int} {pb : Value} {spb : List Int} {q : Value} {sq : List FdL} {r : Bool} {s : Int} {t : Int} {H : Hp} {K : Value → Hp → Prop} (hpa0 : Sl eI H pa spa) (hpb0 : Sl eI H pb spb) (hq0 : FamS H q sq) (ws0 : -9223372036854775808 ≤ s) (ws1 : s < 9223372036854775808) (wt0 : -9223372036854775808 ≤ t) (wt1 : t < 9223372036854775808) (mspa : (spa).length ≤ 9223372036854775807) (mspb : (spb).length ≤ 9223372036854775807) (msq : (sq).length ≤ 9223372036854775807) (fmsq : ∀ f ∈ sq, f.l.length ≤ 9223372036854775807) (hk : ∀ H', Le H H' → K (.bool true) H') :
    HT prg I.laws_FnExactFieldsShared [(.agg #[pa, pb]), q, (.bool r), (.int .i64 (s)), (.int .i64 (t))].toArray H K := by
  have hR := @fsP_len r spa spb sq s t
  have lE := Le.refl H
  have hpa := hpa0
  have hpb := hpb0
  have hq := hq0
  refine R.laws_FnExactFieldsShared ?_
  unfold F.laws_FnExactFieldsShared
  refine nw_i (fun p1 H2 op1 nn3 le4 => ?_)
  have np1 : Nw H p1 := nn3.le lE
  replace hpa := hpa.le le4
  replace hpb := hpb.le le4
  replace hq := hq.le le4
  replace lE := lE.trans le4
  replace op1 : Cel H2 p1 [pa, pb] := op1
  refine ob_i (op1.ldn rfl) ?_
  refine C.laws_szLife hpa hpb (by omega) (by omega) (by omega) (by omega) (fun H6 le7 => ?_) (fun H6 le7 hz5 => ?_)
  · skip
    replace op1 := op1.le le7
    replace hpa := hpa.le le7
    replace hpb := hpb.le le7
    replace hq := hq.le le7
    replace lE := lE.trans le7
    refine ob_i (vInt_lss_t (by omega)) ?_
    refine cnd_t1 ?_
    exact hk _ lE
  replace op1 := op1.le le7
  replace hpa := hpa.le le7
  replace hpb := hpb.le le7
  replace hq := hq.le le7
  replace lE := lE.trans le7
  refine ob_i (vInt_lss_f (by omega)) ?_
  refine cnd_f1 ?_
  refine C.laws_szFieldS hq (by omega) fmsq (by omega) (by omega) (fun H9 le10 => ?_) (fun H9 le10 hz8 => ?_)
  · skip
    replace op1 := op1.le le10
    replace hpa := hpa.le le10
    replace hpb := hpb.le le10
    replace hq := hq.le le10
    replace lE := lE.trans le10
    refine ob_i (vInt_lss_t (by omega)) ?_
    refine cnd_t1 ?_
    exact hk _ lE
  have hcs : ∀ f ∈ sq, f.l.length ≤ 1000000000 := fun f hf => by have := csz_mem f hf; omega
  have hfz := fsz_csz sq
  replace op1 := op1.le le10
  replace hpa := hpa.le le10
  replace hpb := hpb.le le10
  replace hq := hq.le le10
  replace lE := lE.trans le10
  refine ob_i (vInt_lss_f (by omega)) ?_
  refine cnd_f1 ?_
  refine ob_i (op1.ldn rfl) ?_
  refine C.laws_toLife hpa hpb (by omega) (by omega) (fun u11 u12 H13 ou11 ou12 nn15 nn16 au11Xu12 le14 => ?_)
  have ap1Xu11 : Apart p1 u11 := op1.apart nn15
  have nu11 : Nw H u11 := nn15.le lE
  have ap1Xu12 : Apart p1 u12 := op1.apart nn16
  have nu12 : Nw H u12 := nn16.le lE
  replace op1 := op1.le le14
  replace hpa := hpa.le le14
  replace hpb := hpb.le le14
  replace hq := hq.le le14
  replace lE := lE.trans le14
  refine C.laws_toFieldS hq (by omega) hcs (fun u17 Su17 H18 ou17 nn19 le20 => ?_)
  have ap1Xu17 : Apt p1 Su17 := Apt.of_nws op1.known nn19
  have au11Xu17 : Apt u11 Su17 := Apt.of_nws ou11.known nn19
  have au12Xu17 : Apt u12 Su17 := Apt.of_nws ou12.known nn19
  have nu17 : Nws H Su17 := nn19.le lE
  replace op1 := op1.le le20
  replace ou11 := ou11.le le20
  replace ou12 := ou12.le le20
  replace hpa := hpa.le le20
  replace hpb := hpb.le le20
  replace hq := hq.le le20
  replace lE := lE.trans le20
  refine C.spec_FieldsShared ou11.sl ou12.sl ou17.sl  (by omega) (by omega) (fun f hf => by have := hcs f hf; omega) (by omega) (fun g23 Sg23 H21 og23 nn24  le22 => ?_)
  have ap1Xg23 : Apt p1 Sg23 := Apt.of_nws op1.known nn24
  have au11Xg23 : Apt u11 Sg23 := Apt.of_nws ou11.known nn24
  have au12Xg23 : Apt u12 Sg23 := Apt.of_nws ou12.known nn24
  have au17Xg23 : Apt Su17 Sg23 := Apt.of_nws ou17.known nn24
  have ng23 : Nws H Sg23 := nn24.le lE
  replace op1 := op1.le le22
  replace ou11 := ou11.le le22
  replace ou12 := ou12.le le22
  replace ou17 := ou17.le le22
  replace hpa := hpa.le le22
  replace hpb := hpb.le le22
  replace hq := hq.le le22
  replace lE := lE.trans le22
  refine ob_i (vExt_20 _ _) ?_
  refine ob_i (vExt_21 _ _) ?_
  refine ob_i (op1.ldn rfl) ?_
  refine C.laws_toLife hpa hpb (by omega) (by omega) (fun u25 u26 H27 ou25 ou26 nn29 nn30 au25Xu26 le28 => ?_)
  have ap1Xu25 : Apart p1 u25 := op1.apart nn29
  have au11Xu25 : Apart u11 u25 := ou11.apart nn29
  have au12Xu25 : Apart u12 u25 := ou12.apart nn29
  have au17Xu25 : Apt Su17 u25 := Apt.of_nw ou17.known nn29
  have ag23Xu25 : Apt Sg23 u25 := Apt.of_nw og23.known nn29
  have nu25 : Nw H u25 := nn29.le lE
  have ap1Xu26 : Apart p1 u26 := op1.apart nn30
  have au11Xu26 : Apart u11 u26 := ou11.apart nn30
  have au12Xu26 : Apart u12 u26 := ou12.apart nn30
  have au17Xu26 : Apt Su17 u26 := Apt.of_nw ou17.known nn30
  have ag23Xu26 : Apt Sg23 u26 := Apt.of_nw og23.known nn30
  have nu26 : Nw H u26 := nn30.le lE
  replace op1 := op1.le le28
  replace ou11 := ou11.le le28
  replace ou12 := ou12.le le28
  replace ou17 := ou17.le le28
  replace og23 := og23.le le28
  replace hpa := hpa.le le28
  replace hpb := hpb.le le28
  replace hq := hq.le le28
  replace lE := lE.trans le28
  refine nw_i (fun p31 H32 op31 nn33 le34 => ?_)
  have ap1Xp31 : Apart p1 p31 := op1.apart nn33
  have au11Xp31 : Apart u11 p31 := ou11.apart nn33
  have au12Xp31 : Apart u12 p31 := ou12.apart nn33
  have au17Xp31 : Apt Su17 p31 := Apt.of_nw ou17.known nn33
  have ag23Xp31 : Apt Sg23 p31 := Apt.of_nw og23.known nn33
  have au25Xp31 : Apart u25 p31 := ou25.apart nn33
  have au26Xp31 : Apart u26 p31 := ou26.apart nn33
  have np31 : Nw H p31 := nn33.le lE
  replace op1 := op1.le le34
  replace ou11 := ou11.le le34
  replace ou12 := ou12.le le34
  replace ou17 := ou17.le le34
  replace og23 := og23.le le34
  replace ou25 := ou25.le le34
  replace ou26 := ou26.le le34
  replace hpa := hpa.le le34
  replace hpb := hpb.le le34
  replace hq := hq.le le34
  replace lE := lE.trans le34
  replace op31 : Cel H32 p31 [(.slice none 0 0), (.slice none 0 0)] := op31
  refine op31.stn (ws := [u25, u26]) rfl rfl (oc1 ou25.one (oc1 ou26.one oc0)) (fun H35 op31 off36 => ?_)
  replace op1 := op1.off off36 ap1Xp31
  replace ou11 := ou11.off off36 au11Xp31
  replace ou12 := ou12.off off36 au12Xp31
  replace ou17 := ou17.off off36 au17Xp31
  replace og23 := og23.off off36 ag23Xp31
  replace ou25 := ou25.off off36 au25Xp31
  replace ou26 := ou26.off off36 au26Xp31
  replace hpa := hpa0.le (off36.le lE np31)
  replace hpb := hpb0.le (off36.le lE np31)
  replace hq := hq0.le (off36.le lE np31)
  replace lE := off36.le lE np31
  replace op31 : Cel H35 p31 [u25, u26] := op31
  refine C.laws_toFieldS hq (by omega) hcs (fun u37 Su37 H38 ou37 nn39 le40 => ?_)
  have ap1Xu37 : Apt p1 Su37 := Apt.of_nws op1.known nn39
  have au11Xu37 : Apt u11 Su37 := Apt.of_nws ou11.known nn39
  have au12Xu37 : Apt u12 Su37 := Apt.of_nws ou12.known nn39
  have au17Xu37 : Apt Su17 Su37 := Apt.of_nws ou17.known nn39
  have ag23Xu37 : Apt Sg23 Su37 := Apt.of_nws og23.known nn39
  have au25Xu37 : Apt u25 Su37 := Apt.of_nws ou25.known nn39
  have au26Xu37 : Apt u26 Su37 := Apt.of_nws ou26.known nn39
  have ap31Xu37 : Apt p31 Su37 := Apt.of_nws op31.known nn39
  have nu37 : Nws H Su37 := nn39.le lE
  replace op1 := op1.le le40
  replace ou11 := ou11.le le40
  replace ou12 := ou12.le le40
  replace ou17 := ou17.le le40
  replace og23 := og23.le le40
  replace ou25 := ou25.le le40
  replace ou26 := ou26.le le40
  replace op31 := op31.le le40
  replace hpa := hpa.le le40
  replace hpb := hpb.le le40
  replace hq := hq.le le40
  replace lE := lE.trans le40
  refine ob_i (op31.ldn rfl) ?_
  refine C.impl_FieldsShared ou25.sl ou26.sl ou37.sl  (by omega) (by omega) (fun f hf => by have := hcs f hf; omega) (by omega) (fun g43 Sg43 H41 og43 nn44  le42 => ?_)
  have ap1Xg43 : Apt p1 Sg43 := Apt.of_nws op1.known nn44
  have au11Xg43 : Apt u11 Sg43 := Apt.of_nws ou11.known nn44
  have au12Xg43 : Apt u12 Sg43 := Apt.of_nws ou12.known nn44
  have au17Xg43 : Apt Su17 Sg43 := Apt.of_nws ou17.known nn44
  have ag23Xg43 : Apt Sg23 Sg43 := Apt.of_nws og23.known nn44
  have au25Xg43 : Apt u25 Sg43 := Apt.of_nws ou25.known nn44
  have au26Xg43 : Apt u26 Sg43 := Apt.of_nws ou26.known nn44
  have ap31Xg43 : Apt p31 Sg43 := Apt.of_nws op31.known nn44
  have au37Xg43 : Apt Su37 Sg43 := Apt.of_nws ou37.known nn44
  have ng43 : Nws H Sg43 := nn44.le lE
  replace op1 := op1.le le42
  replace ou11 := ou11.le le42
  replace ou12 := ou12.le le42
  replace ou17 := ou17.le le42
  replace og23 := og23.le le42
  replace ou25 := ou25.le le42
  replace ou26 := ou26.le le42
  replace op31 := op31.le le42
  replace ou37 := ou37.le le42
  replace hpa := hpa.le le42
  replace hpb := hpb.le le42
  replace hq := hq.le le42
  replace lE := lE.trans le42
  refine ob_i (vExt_20 _ _) ?_
  refine ob_i (vExt_21 _ _) ?_
  refine C.laws_eqFieldS og43.sl og23.sl (by omega) (by first | assumption | exact hR.2.2) (fun H45 le46 => ?_)
  replace op1 := op1.le le46
  replace ou11 := ou11.le le46
  replace ou12 := ou12.le le46
  replace ou17 := ou17.le le46
  replace og23 := og23.le le46
  replace ou25 := ou25.le le46
  replace ou26 := ou26.le le46
  replace op31 := op31.le le46
  replace ou37 := ou37.le le46
  replace og43 := og43.le le46
  replace hpa := hpa.le le46
  replace hpb := hpb.le le46
  replace hq := hq.le le46
  replace lE := lE.trans le46
  refine ob_i (a := .bool false) rfl ?_
  refine gop_rf ?_
  refine gop_rf ?_
  refine gop_rf ?_
  refine ob_i (vBool_neq_same _) ?_
  refine ob_i (vPick_f _ _) ?_
  refine cnd_f1 ?_
  refine ob_i (op31.ldn rfl) ?_
  refine ob_i (op1.ldn rfl) ?_
  refine C.laws_toLife hpa hpb (by omega) (by omega) (fun u47 u48 H49 ou47 ou48 nn51 nn52 au47Xu48 le50 => ?_)
  have ap1Xu47 : Apart p1 u47 := op1.apart nn51
  have au11Xu47 : Apart u11 u47 := ou11.apart nn51
  have au12Xu47 : Apart u12 u47 := ou12.apart nn51
  have au17Xu47 : Apt Su17 u47 := Apt.of_nw ou17.known nn51
  have ag23Xu47 : Apt Sg23 u47 := Apt.of_nw og23.known nn51
  have au25Xu47 : Apart u25 u47 := ou25.apart nn51
  have au26Xu47 : Apart u26 u47 := ou26.apart nn51
  have ap31Xu47 : Apart p31 u47 := op31.apart nn51
  have au37Xu47 : Apt Su37 u47 := Apt.of_nw ou37.known nn51
  have ag43Xu47 : Apt Sg43 u47 := Apt.of_nw og43.known nn51
  have nu47 : Nw H u47 := nn51.le lE
  have ap1Xu48 : Apart p1 u48 := op1.apart nn52
  have au11Xu48 : Apart u11 u48 := ou11.apart nn52
  have au12Xu48 : Apart u12 u48 := ou12.apart nn52
  have au17Xu48 : Apt Su17 u48 := Apt.of_nw ou17.known nn52
  have ag23Xu48 : Apt Sg23 u48 := Apt.of_nw og23.known nn52
  have au25Xu48 : Apart u25 u48 := ou25.apart nn52
  have au26Xu48 : Apart u26 u48 := ou26.apart nn52
  have ap31Xu48 : Apart p31 u48 := op31.apart nn52
  have au37Xu48 : Apt Su37 u48 := Apt.of_nw ou37.known nn52
  have ag43Xu48 : Apt Sg43 u48 := Apt.of_nw og43.known nn52
  have nu48 : Nw H u48 := nn52.le lE
  replace op1 := op1.le le50
  replace ou11 := ou11.le le50
  replace ou12 := ou12.le le50
  replace ou17 := ou17.le le50
  replace og23 := og23.le le50
  replace ou25 := ou25.le le50
  replace ou26 := ou26.le le50
  replace op31 := op31.le le50
  replace ou37 := ou37.le le50
  replace og43 := og43.le le50
  replace hpa := hpa.le le50
  replace hpb := hpb.le le50
  replace hq := hq.le le50
  replace lE := lE.trans le50
  refine ⟨le50, ?_⟩
  refine C.laws_eqLife ou25.sl ou47.sl ou26.sl ou48.sl (by omega) (by omega) (fun H53 le54 => ?_)
  replace op1 := op1.le le54
  replace ou11 := ou11.le le54
  replace ou12 := ou12.le le54
  replace ou17 := ou17.le le54
  replace og23 := og23.le le54
  replace ou25 := ou25.le le54
  replace ou26 := ou26.le le54
  replace op31 := op31.le le54
  replace ou37 := ou37.le le54
  replace og43 := og43.le le54
  replace ou47 := ou47.le le54
  replace ou48 := ou48.le le54
  replace hpa := hpa.le le54
  replace hpb := hpb.le le54
  replace hq := hq.le le54
  replace lE := lE.trans le54
  refine ⟨le54, ?_⟩
  refine ob_i (a := .bool false) rfl ?_
  refine cnd_f1 ?_
  refine C.laws_toFieldS hq (by omega) hcs (fun u55 Su55 H56 ou55 nn57 le58 => ?_)
  have ap1Xu55 : Apt p1 Su55 := Apt.of_nws op1.known nn57
  have au11Xu55 : Apt u11 Su55 := Apt.of_nws ou11.known nn57
  have au12Xu55 : Apt u12 Su55 := Apt.of_nws ou12.known nn57
  have au17Xu55 : Apt Su17 Su55 := Apt.of_nws ou17.known nn57
  have ag23Xu55 : Apt Sg23 Su55 := Apt.of_nws og23.known nn57
  have au25Xu55 : Apt u25 Su55 := Apt.of_nws ou25.known nn57
  have au26Xu55 : Apt u26 Su55 := Apt.of_nws ou26.known nn57
  have ap31Xu55 : Apt p31 Su55 := Apt.of_nws op31.known nn57
  have au37Xu55 : Apt Su37 Su55 := Apt.of_nws ou37.known nn57
  have ag43Xu55 : Apt Sg43 Su55 := Apt.of_nws og43.known nn57
  have au47Xu55 : Apt u47 Su55 := Apt.of_nws ou47.known nn57
  have au48Xu55 : Apt u48 Su55 := Apt.of_nws ou48.known nn57
  have nu55 : Nws H Su55 := nn57.le lE
  replace op1 := op1.le le58
  replace ou11 := ou11.le le58
  replace ou12 := ou12.le le58
  replace ou17 := ou17.le le58
  replace og23 := og23.le le58
  replace ou25 := ou25.le le58
  replace ou26 := ou26.le le58
  replace op31 := op31.le le58
  replace ou37 := ou37.le le58
  replace og43 := og43.le le58
  replace ou47 := ou47.le le58
  replace ou48 := ou48.le le58
  replace hpa := hpa.le le58
  replace hpb := hpb.le le58
  replace hq := hq.le le58
  replace lE := lE.trans le58
  refine C.laws_eqFieldS ou37.sl ou55.sl (by omega) (by first | assumption | exact hR.2.2) (fun H59 le60 => ?_)
  replace op1 := op1.le le60
  replace ou11 := ou11.le le60
  replace ou12 := ou12.le le60
  replace ou17 := ou17.le le60
  replace og23 := og23.le le60
  replace ou25 := ou25.le le60
  replace ou26 := ou26.le le60
  replace op31 := op31.le le60
  replace ou37 := ou37.le le60
  replace og43 := og43.le le60
  replace ou47 := ou47.le le60
  replace ou48 := ou48.le le60
  replace ou55 := ou55.le le60
  replace hpa := hpa.le le60
  replace hpb := hpb.le le60
  replace hq := hq.le le60
  replace lE := lE.trans le60
  refine ob_i (a := .bool false) rfl ?_
  refine cnd_f1 ?_
  refine ob_i (op31.ldn rfl) ?_
  refine R.laws_markLife ?_
  unfold F.laws_markLife
  refine nw_i (fun p61 H62 op61 nn63 le64 => ?_)
  have ap1Xp61 : Apart p1 p61 := op1.apart nn63
  have au11Xp61 : Apart u11 p61 := ou11.apart nn63
  have au12Xp61 : Apart u12 p61 := ou12.apart nn63
  have au17Xp61 : Apt Su17 p61 := Apt.of_nw ou17.known nn63
  have ag23Xp61 : Apt Sg23 p61 := Apt.of_nw og23.known nn63
  have au25Xp61 : Apart u25 p61 := ou25.apart nn63
  have au26Xp61 : Apart u26 p61 := ou26.apart nn63
  have ap31Xp61 : Apart p31 p61 := op31.apart nn63
  have au37Xp61 : Apt Su37 p61 := Apt.of_nw ou37.known nn63
  have ag43Xp61 : Apt Sg43 p61 := Apt.of_nw og43.known nn63
  have au47Xp61 : Apart u47 p61 := ou47.apart nn63
  have au48Xp61 : Apart u48 p61 := ou48.apart nn63
  have au55Xp61 : Apt Su55 p61 := Apt.of_nw ou55.known nn63
  have np61 : Nw H p61 := nn63.le lE
  replace op1 := op1.le le64
  replace ou11 := ou11.le le64
  replace ou12 := ou12.le le64
  replace ou17 := ou17.le le64
  replace og23 := og23.le le64
  replace ou25 := ou25.le le64
  replace ou26 := ou26.le le64
  replace op31 := op31.le le64
  replace ou37 := ou37.le le64
  replace og43 := og43.le le64
  replace ou47 := ou47.le le64
  replace ou48 := ou48.le le64
  replace ou55 := ou55.le le64
  replace hpa := hpa.le le64
  replace hpb := hpb.le le64
  replace hq := hq.le le64
  replace lE := lE.trans le64
  replace op61 : Cel H62 p61 [u25, u26] := op61
  refine ob_i (op61.fa 0) ?_
  refine ob_i (op61.ld 0 rfl) ?_
  refine C.laws_markInt64S ou25 (by omega) (by omega) (by omega) (fun H65 ou25 off66 => ?_)
  replace op1 := op1.off off66 ap1Xu25
  replace ou11 := ou11.off off66 au11Xu25
  replace ou12 := ou12.off off66 au12Xu25
  replace ou17 := ou17.off off66 au17Xu25
  replace og23 := og23.off off66 ag23Xu25
  replace ou26 := ou26.off off66 au25Xu26.symm
  replace op31 := op31.off off66 au25Xp31.symm
  replace ou37 := ou37.off off66 au25Xu37.symm
  replace og43 := og43.off off66 au25Xg43.symm
  replace ou47 := ou47.off off66 au25Xu47.symm
  replace ou48 := ou48.off off66 au25Xu48.symm
  replace ou55 := ou55.off off66 au25Xu55.symm
  replace op61 := op61.off off66 au25Xp61.symm
  replace hpa := hpa0.le (off66.le lE nu25)
  replace hpb := hpb0.le (off66.le lE nu25)
  replace hq := hq0.le (off66.le lE nu25)
  replace lE := off66.le lE nu25
  refine ob_i (op61.fa 1) ?_
  refine ob_i (op61.ld 1 rfl) ?_
  refine C.laws_markInt64S ou26 (by omega) (by omega) (by omega) (fun H67 ou26 off68 => ?_)
  replace op1 := op1.off off68 ap1Xu26
  replace ou11 := ou11.off off68 au11Xu26
  replace ou12 := ou12.off off68 au12Xu26
  replace ou17 := ou17.off off68 au17Xu26
  replace og23 := og23.off off68 ag23Xu26
  replace ou25 := ou25.off off68 au25Xu26
  replace op31 := op31.off off68 au26Xp31.symm
  replace ou37 := ou37.off off68 au26Xu37.symm
  replace og43 := og43.off off68 au26Xg43.symm
  replace ou47 := ou47.off off68 au26Xu47.symm
  replace ou48 := ou48.off off68 au26Xu48.symm
  replace ou55 := ou55.off off68 au26Xu55.symm
  replace op61 := op61.off off68 au26Xp61.symm
  replace hpa := hpa0.le (off68.le lE nu26)
  replace hpb := hpb0.le (off68.le lE nu26)
  replace hq := hq0.le (off68.le lE nu26)
  replace lE := off68.le lE nu26
  refine C.laws_markFieldS ou37 (by omega) (by omega) (by omega) (by omega) (fun H69 ou37 off70 => ?_)
  replace op1 := op1.offS off70 ap1Xu37
  replace ou11 := ou11.offS off70 au11Xu37
  replace ou12 := ou12.offS off70 au12Xu37
  replace ou17 := ou17.offS off70 au17Xu37
  replace og23 := og23.offS off70 ag23Xu37
  replace ou25 := ou25.offS off70 au25Xu37
  replace ou26 := ou26.offS off70 au26Xu37
  replace op31 := op31.offS off70 ap31Xu37
  replace og43 := og43.offS off70 au37Xg43.symm
  replace ou47 := ou47.offS off70 au37Xu47.symm
  replace ou48 := ou48.offS off70 au37Xu48.symm
  replace ou55 := ou55.offS off70 au37Xu55.symm
  replace op61 := op61.offS off70 au37Xp61.symm
  replace hpa := hpa0.le (off70.le lE nu37)
  replace hpb := hpb0.le (off70.le lE nu37)
  replace hq := hq0.le (off70.le lE nu37)
  replace lE := off70.le lE nu37
  refine ob_i (vInt_lss_f (by omega)) ?_
  refine gop_rf ?_
  refine gop_rf ?_
  refine gop_rf ?_
  refine C.laws_eqFieldS og43.sl og23.sl (by omega) (by first | assumption | exact hR.2.2) (fun H71 le72 => ?_)
  replace op1 := op1.le le72
  replace ou11 := ou11.le le72
  replace ou12 := ou12.le le72
  replace ou17 := ou17.le le72
  replace og23 := og23.le le72
  replace ou25 := ou25.le le72
  replace ou26 := ou26.le le72
  replace op31 := op31.le le72
  replace ou37 := ou37.le le72
  replace og43 := og43.le le72
  replace ou47 := ou47.le le72
  replace ou48 := ou48.le le72
  replace ou55 := ou55.le le72
  replace op61 := op61.le le72
  replace hpa := hpa.le le72
  replace hpb := hpb.le le72
  replace hq := hq.le le72
  replace lE := lE.trans le72
  refine gop_rf ?_
  refine ob_i (a := .bool false) rfl ?_
  refine ob_i (vPick_f _ _) ?_
  refine gop_rf ?_
  refine gop_rf ?_
  refine gop_rf ?_
  refine ob_i (vBool_neq_same _) ?_
  refine ob_i (vPick_f _ _) ?_
  refine cnd_f1 ?_
  refine C.laws_markFieldS og43 (by omega) (by omega) (by omega) (by omega) (fun H73 og43 off74 => ?_)
  replace op1 := op1.offS off74 ap1Xg43
  replace ou11 := ou11.offS off74 au11Xg43
  replace ou12 := ou12.offS off74 au12Xg43
  replace ou17 := ou17.offS off74 au17Xg43
  replace og23 := og23.offS off74 ag23Xg43
  replace ou25 := ou25.offS off74 au25Xg43
  replace ou26 := ou26.offS off74 au26Xg43
  replace op31 := op31.offS off74 ap31Xg43
  replace ou37 := ou37.offS off74 au37Xg43
  replace ou47 := ou47.offS off74 ag43Xu47.symm
  replace ou48 := ou48.offS off74 ag43Xu48.symm
  replace ou55 := ou55.offS off74 ag43Xu55.symm
  replace op61 := op61.offS off74 ag43Xp61.symm
  replace hpa := hpa0.le (off74.le lE ng43)
  replace hpb := hpb0.le (off74.le lE ng43)
  replace hq := hq0.le (off74.le lE ng43)
  replace lE := off74.le lE ng43
  refine C.laws_heldFieldS og43.sl (by omega) (by omega) (by omega) (by omega) ?_
  refine ob_i (vInt_lss_f (by omega)) ?_
  refine cnd_f1 ?_
  refine ob_i (vInt_neq_same _ _) ?_
  refine cnd_f1 ?_
  refine ob_i (op1.ldn rfl) ?_
  refine C.laws_toLife hpa hpb (by omega) (by omega) (fun u75 u76 H77 ou75 ou76 nn79 nn80 au75Xu76 le78 => ?_)
  have ap1Xu75 : Apart p1 u75 := op1.apart nn79
  have au11Xu75 : Apart u11 u75 := ou11.apart nn79
  have au12Xu75 : Apart u12 u75 := ou12.apart nn79
  have au17Xu75 : Apt Su17 u75 := Apt.of_nw ou17.known nn79
  have ag23Xu75 : Apt Sg23 u75 := Apt.of_nw og23.known nn79
  have au25Xu75 : Apart u25 u75 := ou25.apart nn79
  have au26Xu75 : Apart u26 u75 := ou26.apart nn79
  have ap31Xu75 : Apart p31 u75 := op31.apart nn79
  have au37Xu75 : Apt Su37 u75 := Apt.of_nw ou37.known nn79
  have ag43Xu75 : Apt Sg43 u75 := Apt.of_nw og43.known nn79
  have au47Xu75 : Apart u47 u75 := ou47.apart nn79
  have au48Xu75 : Apart u48 u75 := ou48.apart nn79
  have au55Xu75 : Apt Su55 u75 := Apt.of_nw ou55.known nn79
  have ap61Xu75 : Apart p61 u75 := op61.apart nn79
  have nu75 : Nw H u75 := nn79.le lE
  have ap1Xu76 : Apart p1 u76 := op1.apart nn80
  have au11Xu76 : Apart u11 u76 := ou11.apart nn80
  have au12Xu76 : Apart u12 u76 := ou12.apart nn80
  have au17Xu76 : Apt Su17 u76 := Apt.of_nw ou17.known nn80
  have ag23Xu76 : Apt Sg23 u76 := Apt.of_nw og23.known nn80
  have au25Xu76 : Apart u25 u76 := ou25.apart nn80
  have au26Xu76 : Apart u26 u76 := ou26.apart nn80
  have ap31Xu76 : Apart p31 u76 := op31.apart nn80
  have au37Xu76 : Apt Su37 u76 := Apt.of_nw ou37.known nn80
  have ag43Xu76 : Apt Sg43 u76 := Apt.of_nw og43.known nn80
  have au47Xu76 : Apart u47 u76 := ou47.apart nn80
  have au48Xu76 : Apart u48 u76 := ou48.apart nn80
  have au55Xu76 : Apt Su55 u76 := Apt.of_nw ou55.known nn80
  have ap61Xu76 : Apart p61 u76 := op61.apart nn80
  have nu76 : Nw H u76 := nn80.le lE
  replace op1 := op1.le le78
  replace ou11 := ou11.le le78
  replace ou12 := ou12.le le78
  replace ou17 := ou17.le le78
  replace og23 := og23.le le78
  replace ou25 := ou25.le le78
  replace ou26 := ou26.le le78
  replace op31 := op31.le le78
  replace ou37 := ou37.le le78
  replace og43 := og43.le le78
  replace ou47 := ou47.le le78
  replace ou48 := ou48.le le78
  replace ou55 := ou55.le le78
  replace op61 := op61.le le78
  replace hpa := hpa.le le78
  replace hpb := hpb.le le78
  replace hq := hq.le le78
  replace lE := lE.trans le78
  refine C.laws_toFieldS hq (by omega) hcs (fun u81 Su81 H82 ou81 nn83 le84 => ?_)
  have ap1Xu81 : Apt p1 Su81 := Apt.of_nws op1.known nn83
  have au11Xu81 : Apt u11 Su81 := Apt.of_nws ou11.known nn83
  have au12Xu81 : Apt u12 Su81 := Apt.of_nws ou12.known nn83
  have au17Xu81 : Apt Su17 Su81 := Apt.of_nws ou17.known nn83
  have ag23Xu81 : Apt Sg23 Su81 := Apt.of_nws og23.known nn83
  have au25Xu81 : Apt u25 Su81 := Apt.of_nws ou25.known nn83
  have au26Xu81 : Apt u26 Su81 := Apt.of_nws ou26.known nn83
  have ap31Xu81 : Apt p31 Su81 := Apt.of_nws op31.known nn83
  have au37Xu81 : Apt Su37 Su81 := Apt.of_nws ou37.known nn83
  have ag43Xu81 : Apt Sg43 Su81 := Apt.of_nws og43.known nn83
  have au47Xu81 : Apt u47 Su81 := Apt.of_nws ou47.known nn83
  have au48Xu81 : Apt u48 Su81 := Apt.of_nws ou48.known nn83
  have au55Xu81 : Apt Su55 Su81 := Apt.of_nws ou55.known nn83
  have ap61Xu81 : Apt p61 Su81 := Apt.of_nws op61.known nn83
  have au75Xu81 : Apt u75 Su81 := Apt.of_nws ou75.known nn83
  have au76Xu81 : Apt u76 Su81 := Apt.of_nws ou76.known nn83
  have nu81 : Nws H Su81 := nn83.le lE
  replace op1 := op1.le le84
  replace ou11 := ou11.le le84
  replace ou12 := ou12.le le84
  replace ou17 := ou17.le le84
  replace og23 := og23.le le84
  replace ou25 := ou25.le le84
  replace ou26 := ou26.le le84
  replace op31 := op31.le le84
  replace ou37 := ou37.le le84
  replace og43 := og43.le le84
  replace ou47 := ou47.le le84
  replace ou48 := ou48.le le84
  replace ou55 := ou55.le le84
  replace op61 := op61.le le84
  replace ou75 := ou75.le le84
  replace ou76 := ou76.le le84
  replace hpa := hpa.le le84
  replace hpb := hpb.le le84
  replace hq := hq.le le84
  replace lE := lE.trans le84
  refine C.impl_FieldsShared ou75.sl ou76.sl ou81.sl  (by omega) (by omega) (fun f hf => by have := hcs f hf; omega) (by omega) (fun g87 Sg87 H85 og87 nn88  le86 => ?_)
  have ap1Xg87 : Apt p1 Sg87 := Apt.of_nws op1.known nn88
  have au11Xg87 : Apt u11 Sg87 := Apt.of_nws ou11.known nn88
  have au12Xg87 : Apt u12 Sg87 := Apt.of_nws ou12.known nn88
  have au17Xg87 : Apt Su17 Sg87 := Apt.of_nws ou17.known nn88
  have ag23Xg87 : Apt Sg23 Sg87 := Apt.of_nws og23.known nn88
  have au25Xg87 : Apt u25 Sg87 := Apt.of_nws ou25.known nn88
  have au26Xg87 : Apt u26 Sg87 := Apt.of_nws ou26.known nn88
  have ap31Xg87 : Apt p31 Sg87 := Apt.of_nws op31.known nn88
  have au37Xg87 : Apt Su37 Sg87 := Apt.of_nws ou37.known nn88
  have ag43Xg87 : Apt Sg43 Sg87 := Apt.of_nws og43.known nn88
  have au47Xg87 : Apt u47 Sg87 := Apt.of_nws ou47.known nn88
  have au48Xg87 : Apt u48 Sg87 := Apt.of_nws ou48.known nn88
  have au55Xg87 : Apt Su55 Sg87 := Apt.of_nws ou55.known nn88
  have ap61Xg87 : Apt p61 Sg87 := Apt.of_nws op61.known nn88
  have au75Xg87 : Apt u75 Sg87 := Apt.of_nws ou75.known nn88
  have au76Xg87 : Apt u76 Sg87 := Apt.of_nws ou76.known nn88
  have au81Xg87 : Apt Su81 Sg87 := Apt.of_nws ou81.known nn88
  have ng87 : Nws H Sg87 := nn88.le lE
  replace op1 := op1.le le86
  replace ou11 := ou11.le le86
  replace ou12 := ou12.le le86
  replace ou17 := ou17.le le86
  replace og23 := og23.le le86
  replace ou25 := ou25.le le86
  replace ou26 := ou26.le le86
  replace op31 := op31.le le86
  replace ou37 := ou37.le le86
  replace og43 := og43.le le86
  replace ou47 := ou47.le le86
  replace ou48 := ou48.le le86
  replace ou55 := ou55.le le86
  replace op61 := op61.le le86
  replace ou75 := ou75.le le86
  replace ou76 := ou76.le le86
  replace ou81 := ou81.le le86
  replace hpa := hpa.le le86
  replace hpb := hpb.le le86
  replace hq := hq.le le86
  replace lE := lE.trans le86
  refine ob_i (vExt_20 _ _) ?_
  refine ob_i (vExt_21 _ _) ?_
  refine C.laws_eqFieldS og87.sl og23.sl (by omega) (by first | assumption | exact hR.2.2) (fun H89 le90 => ?_)
  replace op1 := op1.le le90
  replace ou11 := ou11.le le90
  replace ou12 := ou12.le le90
  replace ou17 := ou17.le le90
  replace og23 := og23.le le90
  replace ou25 := ou25.le le90
  replace ou26 := ou26.le le90
  replace op31 := op31.le le90
  replace ou37 := ou37.le le90
  replace og43 := og43.le le90
  replace ou47 := ou47.le le90
  replace ou48 := ou48.le le90
  replace ou55 := ou55.le le90
  replace op61 := op61.le le90
  replace ou75 := ou75.le le90
  replace ou76 := ou76.le le90
  replace ou81 := ou81.le le90
  replace og87 := og87.le le90
  replace hpa := hpa.le le90
  replace hpb := hpb.le le90
  replace hq := hq.le le90
  replace lE := lE.trans le90
  refine ob_i (a := .bool false) rfl ?_
  refine gop_rf ?_
  refine gop_rf ?_
  refine gop_rf ?_
  refine ob_i (vBool_neq_same _) ?_
  refine ob_i (vPick_f _ _) ?_
  refine cnd_f1 ?_
  refine C.laws_heldFieldS og43.sl (by omega) (by omega) (by omega) (by omega) ?_
  refine ob_i (vInt_lss_f (by omega)) ?_
  refine cnd_f1 ?_
  refine ob_i (vInt_neq_same _ _) ?_
  refine cnd_f1 ?_
  exact hk _ lE
end Go.Proofs.Ythbffbpdoankjaa
