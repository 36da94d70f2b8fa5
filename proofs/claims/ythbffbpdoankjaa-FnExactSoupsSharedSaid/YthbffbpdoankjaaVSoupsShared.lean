/- Laws, each by its two sides: its function returns true, and what was known before stays. -/
import Derived.Test.YthbffbpdoankjaaUE
import Derived.Test.YthbffbpdoankjaaQH
import Derived.Test.YthbffbpdoankjaaQI
import Derived.Test.YthbffbpdoankjaaSE
namespace Go.Proofs.Ythbffbpdoankjaa
open HL
set_option maxRecDepth 100000
theorem L.FnExactSoupsShared {pa : Value} {spa : List Int} {pb : Value} {spb : List Int} {q : Int} {r : Nat} {s : Value} {ss : List Int} {t : Int} {w : Int} {H : Hp} {K : Value → Hp → Prop} (hpa0 : Sl eI H pa spa) (hpb0 : Sl eI H pb spb) (wq0 : -9223372036854775808 ≤ q) (wq1 : q < 9223372036854775808) (hs0 : Sl eI H s ss) (wt0 : -9223372036854775808 ≤ t) (wt1 : t < 9223372036854775808) (ww0 : -9223372036854775808 ≤ w) (ww1 : w < 9223372036854775808) (mspa : (spa).length ≤ 9223372036854775807) (mspb : (spb).length ≤ 9223372036854775807) (mss : (ss).length ≤ 9223372036854775807) (hk : ∀ H', Le H H' → K (.bool true) H') :
    HT prg I.laws_FnExactSoupsShared [(.agg #[pa, pb]), (.int .i64 (q)), (.float .f32 r), s, (.int .i64 (t)), (.int .i64 (w))].toArray H K := by
  have hR := @ssP_len spa spb q r ss t w t.toNat
  have lE := Le.refl H
  have hpa := hpa0
  have hpb := hpb0
  have hs := hs0
  refine R.laws_FnExactSoupsShared ?_
  unfold F.laws_FnExactSoupsShared
  refine nw_i (fun p1 H2 op1 nn3 le4 => ?_)
  have np1 : Nw H p1 := nn3.le lE
  replace hpa := hpa.le le4
  replace hpb := hpb.le le4
  replace hs := hs.le le4
  replace lE := lE.trans le4
  replace op1 : Cel H2 p1 [pa, pb] := op1
  refine ob_i (hs.len) ?_
  refine ob_i (vInt_gtr _ _ _) ?_
  refine cnd_d (fun hg5 => ?_) (fun hg5 => ?_)
  · skip
    exact hk _ lE
  have : (ss).length ≤ 1048576 := by omega
  clear hg5
  refine ob_i (op1.ldn rfl) ?_
  refine C.laws_szLife hpa hpb (by omega) (by omega) (by omega) (by omega) (fun H7 le8 => ?_) (fun H7 le8 hz6 => ?_)
  · skip
    replace op1 := op1.le le8
    replace hpa := hpa.le le8
    replace hpb := hpb.le le8
    replace hs := hs.le le8
    replace lE := lE.trans le8
    refine ob_i (vInt_lss_t (by omega)) ?_
    refine cnd_t1 ?_
    exact hk _ lE
  replace op1 := op1.le le8
  replace hpa := hpa.le le8
  replace hpb := hpb.le le8
  replace hs := hs.le le8
  replace lE := lE.trans le8
  refine ob_i (vInt_lss_f (by omega)) ?_
  refine cnd_f1 ?_
  refine ob_i (op1.ldn rfl) ?_
  refine C.laws_toLife hpa hpb (by omega) (by omega) (fun u9 u10 H11 ou9 ou10 nn13 nn14 au9Xu10 le12 => ?_)
  have ap1Xu9 : Apart p1 u9 := op1.apart nn13
  have nu9 : Nw H u9 := nn13.le lE
  have ap1Xu10 : Apart p1 u10 := op1.apart nn14
  have nu10 : Nw H u10 := nn14.le lE
  replace op1 := op1.le le12
  replace hpa := hpa.le le12
  replace hpb := hpb.le le12
  replace hs := hs.le le12
  replace lE := lE.trans le12
  refine C.laws_toInt64S hs (by omega) (fun u15 H16 ou15 nn17 le18 => ?_)
  have ap1Xu15 : Apart p1 u15 := op1.apart nn17
  have au9Xu15 : Apart u9 u15 := ou9.apart nn17
  have au10Xu15 : Apart u10 u15 := ou10.apart nn17
  have nu15 : Nw H u15 := nn17.le lE
  replace op1 := op1.le le18
  replace ou9 := ou9.le le18
  replace ou10 := ou10.le le18
  replace hpa := hpa.le le18
  replace hpb := hpb.le le18
  replace hs := hs.le le18
  replace lE := lE.trans le18
  refine C.spec_SoupsShared ou9.sl ou10.sl ou15.sl (by omega) (by omega) (by omega)  (fun g21 H19 og21 nn22  le20 => ?_)
  have ap1Xg21 : Apart p1 g21 := op1.apart nn22
  have au9Xg21 : Apart u9 g21 := ou9.apart nn22
  have au10Xg21 : Apart u10 g21 := ou10.apart nn22
  have au15Xg21 : Apart u15 g21 := ou15.apart nn22
  have ng21 : Nw H g21 := nn22.le lE
  replace op1 := op1.le le20
  replace ou9 := ou9.le le20
  replace ou10 := ou10.le le20
  replace ou15 := ou15.le le20
  replace hpa := hpa.le le20
  replace hpb := hpb.le le20
  replace hs := hs.le le20
  replace lE := lE.trans le20
  refine ob_i (vExt_20 _ _) ?_
  refine ob_i (vExt_21 _ _) ?_
  refine ob_i (op1.ldn rfl) ?_
  refine C.laws_toLife hpa hpb (by omega) (by omega) (fun u23 u24 H25 ou23 ou24 nn27 nn28 au23Xu24 le26 => ?_)
  have ap1Xu23 : Apart p1 u23 := op1.apart nn27
  have au9Xu23 : Apart u9 u23 := ou9.apart nn27
  have au10Xu23 : Apart u10 u23 := ou10.apart nn27
  have au15Xu23 : Apart u15 u23 := ou15.apart nn27
  have ag21Xu23 : Apart g21 u23 := og21.apart nn27
  have nu23 : Nw H u23 := nn27.le lE
  have ap1Xu24 : Apart p1 u24 := op1.apart nn28
  have au9Xu24 : Apart u9 u24 := ou9.apart nn28
  have au10Xu24 : Apart u10 u24 := ou10.apart nn28
  have au15Xu24 : Apart u15 u24 := ou15.apart nn28
  have ag21Xu24 : Apart g21 u24 := og21.apart nn28
  have nu24 : Nw H u24 := nn28.le lE
  replace op1 := op1.le le26
  replace ou9 := ou9.le le26
  replace ou10 := ou10.le le26
  replace ou15 := ou15.le le26
  replace og21 := og21.le le26
  replace hpa := hpa.le le26
  replace hpb := hpb.le le26
  replace hs := hs.le le26
  replace lE := lE.trans le26
  refine nw_i (fun p29 H30 op29 nn31 le32 => ?_)
  have ap1Xp29 : Apart p1 p29 := op1.apart nn31
  have au9Xp29 : Apart u9 p29 := ou9.apart nn31
  have au10Xp29 : Apart u10 p29 := ou10.apart nn31
  have au15Xp29 : Apart u15 p29 := ou15.apart nn31
  have ag21Xp29 : Apart g21 p29 := og21.apart nn31
  have au23Xp29 : Apart u23 p29 := ou23.apart nn31
  have au24Xp29 : Apart u24 p29 := ou24.apart nn31
  have np29 : Nw H p29 := nn31.le lE
  replace op1 := op1.le le32
  replace ou9 := ou9.le le32
  replace ou10 := ou10.le le32
  replace ou15 := ou15.le le32
  replace og21 := og21.le le32
  replace ou23 := ou23.le le32
  replace ou24 := ou24.le le32
  replace hpa := hpa.le le32
  replace hpb := hpb.le le32
  replace hs := hs.le le32
  replace lE := lE.trans le32
  replace op29 : Cel H30 p29 [(.slice none 0 0), (.slice none 0 0)] := op29
  refine op29.stn (ws := [u23, u24]) rfl rfl (oc1 ou23.one (oc1 ou24.one oc0)) (fun H33 op29 off34 => ?_)
  replace op1 := op1.off off34 ap1Xp29
  replace ou9 := ou9.off off34 au9Xp29
  replace ou10 := ou10.off off34 au10Xp29
  replace ou15 := ou15.off off34 au15Xp29
  replace og21 := og21.off off34 ag21Xp29
  replace ou23 := ou23.off off34 au23Xp29
  replace ou24 := ou24.off off34 au24Xp29
  replace hpa := hpa0.le (off34.le lE np29)
  replace hpb := hpb0.le (off34.le lE np29)
  replace hs := hs0.le (off34.le lE np29)
  replace lE := off34.le lE np29
  replace op29 : Cel H33 p29 [u23, u24] := op29
  refine C.laws_toInt64S hs (by omega) (fun u35 H36 ou35 nn37 le38 => ?_)
  have ap1Xu35 : Apart p1 u35 := op1.apart nn37
  have au9Xu35 : Apart u9 u35 := ou9.apart nn37
  have au10Xu35 : Apart u10 u35 := ou10.apart nn37
  have au15Xu35 : Apart u15 u35 := ou15.apart nn37
  have ag21Xu35 : Apart g21 u35 := og21.apart nn37
  have au23Xu35 : Apart u23 u35 := ou23.apart nn37
  have au24Xu35 : Apart u24 u35 := ou24.apart nn37
  have ap29Xu35 : Apart p29 u35 := op29.apart nn37
  have nu35 : Nw H u35 := nn37.le lE
  replace op1 := op1.le le38
  replace ou9 := ou9.le le38
  replace ou10 := ou10.le le38
  replace ou15 := ou15.le le38
  replace og21 := og21.le le38
  replace ou23 := ou23.le le38
  replace ou24 := ou24.le le38
  replace op29 := op29.le le38
  replace hpa := hpa.le le38
  replace hpb := hpb.le le38
  replace hs := hs.le le38
  replace lE := lE.trans le38
  refine ob_i (op29.ldn rfl) ?_
  refine C.impl_SoupsShared ou23.sl ou24.sl ou35.sl (by omega) (by omega) (by omega)  (fun g41 H39 og41 nn42  le40 => ?_)
  have ap1Xg41 : Apart p1 g41 := op1.apart nn42
  have au9Xg41 : Apart u9 g41 := ou9.apart nn42
  have au10Xg41 : Apart u10 g41 := ou10.apart nn42
  have au15Xg41 : Apart u15 g41 := ou15.apart nn42
  have ag21Xg41 : Apart g21 g41 := og21.apart nn42
  have au23Xg41 : Apart u23 g41 := ou23.apart nn42
  have au24Xg41 : Apart u24 g41 := ou24.apart nn42
  have ap29Xg41 : Apart p29 g41 := op29.apart nn42
  have au35Xg41 : Apart u35 g41 := ou35.apart nn42
  have ng41 : Nw H g41 := nn42.le lE
  replace op1 := op1.le le40
  replace ou9 := ou9.le le40
  replace ou10 := ou10.le le40
  replace ou15 := ou15.le le40
  replace og21 := og21.le le40
  replace ou23 := ou23.le le40
  replace ou24 := ou24.le le40
  replace op29 := op29.le le40
  replace ou35 := ou35.le le40
  replace hpa := hpa.le le40
  replace hpb := hpb.le le40
  replace hs := hs.le le40
  replace lE := lE.trans le40
  refine ob_i (vExt_20 _ _) ?_
  refine ob_i (vExt_21 _ _) ?_
  refine C.laws_eqInt64S og41.sl og21.sl (by omega) ?_
  rw [decide_eq_true rfl]
  refine ob_i (a := .bool false) rfl ?_
  refine gop_rf ?_
  refine gop_rf ?_
  refine gop_rf ?_
  refine ob_i (vBool_neq_same _) ?_
  refine ob_i (vPick_f _ _) ?_
  refine cnd_f1 ?_
  refine ob_i (op29.ldn rfl) ?_
  refine ob_i (op1.ldn rfl) ?_
  refine C.laws_toLife hpa hpb (by omega) (by omega) (fun u43 u44 H45 ou43 ou44 nn47 nn48 au43Xu44 le46 => ?_)
  have ap1Xu43 : Apart p1 u43 := op1.apart nn47
  have au9Xu43 : Apart u9 u43 := ou9.apart nn47
  have au10Xu43 : Apart u10 u43 := ou10.apart nn47
  have au15Xu43 : Apart u15 u43 := ou15.apart nn47
  have ag21Xu43 : Apart g21 u43 := og21.apart nn47
  have au23Xu43 : Apart u23 u43 := ou23.apart nn47
  have au24Xu43 : Apart u24 u43 := ou24.apart nn47
  have ap29Xu43 : Apart p29 u43 := op29.apart nn47
  have au35Xu43 : Apart u35 u43 := ou35.apart nn47
  have ag41Xu43 : Apart g41 u43 := og41.apart nn47
  have nu43 : Nw H u43 := nn47.le lE
  have ap1Xu44 : Apart p1 u44 := op1.apart nn48
  have au9Xu44 : Apart u9 u44 := ou9.apart nn48
  have au10Xu44 : Apart u10 u44 := ou10.apart nn48
  have au15Xu44 : Apart u15 u44 := ou15.apart nn48
  have ag21Xu44 : Apart g21 u44 := og21.apart nn48
  have au23Xu44 : Apart u23 u44 := ou23.apart nn48
  have au24Xu44 : Apart u24 u44 := ou24.apart nn48
  have ap29Xu44 : Apart p29 u44 := op29.apart nn48
  have au35Xu44 : Apart u35 u44 := ou35.apart nn48
  have ag41Xu44 : Apart g41 u44 := og41.apart nn48
  have nu44 : Nw H u44 := nn48.le lE
  replace op1 := op1.le le46
  replace ou9 := ou9.le le46
  replace ou10 := ou10.le le46
  replace ou15 := ou15.le le46
  replace og21 := og21.le le46
  replace ou23 := ou23.le le46
  replace ou24 := ou24.le le46
  replace op29 := op29.le le46
  replace ou35 := ou35.le le46
  replace og41 := og41.le le46
  replace hpa := hpa.le le46
  replace hpb := hpb.le le46
  replace hs := hs.le le46
  replace lE := lE.trans le46
  refine ⟨le46, ?_⟩
  refine C.laws_eqLife ou23.sl ou43.sl ou24.sl ou44.sl (by omega) (by omega) (fun H49 le50 => ?_)
  replace op1 := op1.le le50
  replace ou9 := ou9.le le50
  replace ou10 := ou10.le le50
  replace ou15 := ou15.le le50
  replace og21 := og21.le le50
  replace ou23 := ou23.le le50
  replace ou24 := ou24.le le50
  replace op29 := op29.le le50
  replace ou35 := ou35.le le50
  replace og41 := og41.le le50
  replace ou43 := ou43.le le50
  replace ou44 := ou44.le le50
  replace hpa := hpa.le le50
  replace hpb := hpb.le le50
  replace hs := hs.le le50
  replace lE := lE.trans le50
  refine ⟨le50, ?_⟩
  refine ob_i (a := .bool false) rfl ?_
  refine cnd_f1 ?_
  refine C.laws_toInt64S hs (by omega) (fun u51 H52 ou51 nn53 le54 => ?_)
  have ap1Xu51 : Apart p1 u51 := op1.apart nn53
  have au9Xu51 : Apart u9 u51 := ou9.apart nn53
  have au10Xu51 : Apart u10 u51 := ou10.apart nn53
  have au15Xu51 : Apart u15 u51 := ou15.apart nn53
  have ag21Xu51 : Apart g21 u51 := og21.apart nn53
  have au23Xu51 : Apart u23 u51 := ou23.apart nn53
  have au24Xu51 : Apart u24 u51 := ou24.apart nn53
  have ap29Xu51 : Apart p29 u51 := op29.apart nn53
  have au35Xu51 : Apart u35 u51 := ou35.apart nn53
  have ag41Xu51 : Apart g41 u51 := og41.apart nn53
  have au43Xu51 : Apart u43 u51 := ou43.apart nn53
  have au44Xu51 : Apart u44 u51 := ou44.apart nn53
  have nu51 : Nw H u51 := nn53.le lE
  replace op1 := op1.le le54
  replace ou9 := ou9.le le54
  replace ou10 := ou10.le le54
  replace ou15 := ou15.le le54
  replace og21 := og21.le le54
  replace ou23 := ou23.le le54
  replace ou24 := ou24.le le54
  replace op29 := op29.le le54
  replace ou35 := ou35.le le54
  replace og41 := og41.le le54
  replace ou43 := ou43.le le54
  replace ou44 := ou44.le le54
  replace hpa := hpa.le le54
  replace hpb := hpb.le le54
  replace hs := hs.le le54
  replace lE := lE.trans le54
  refine C.laws_eqInt64S ou35.sl ou51.sl (by omega) ?_
  rw [decide_eq_true rfl]
  refine ob_i (a := .bool false) rfl ?_
  refine cnd_f1 ?_
  refine ob_i (op29.ldn rfl) ?_
  refine R.laws_markLife ?_
  unfold F.laws_markLife
  refine nw_i (fun p55 H56 op55 nn57 le58 => ?_)
  have ap1Xp55 : Apart p1 p55 := op1.apart nn57
  have au9Xp55 : Apart u9 p55 := ou9.apart nn57
  have au10Xp55 : Apart u10 p55 := ou10.apart nn57
  have au15Xp55 : Apart u15 p55 := ou15.apart nn57
  have ag21Xp55 : Apart g21 p55 := og21.apart nn57
  have au23Xp55 : Apart u23 p55 := ou23.apart nn57
  have au24Xp55 : Apart u24 p55 := ou24.apart nn57
  have ap29Xp55 : Apart p29 p55 := op29.apart nn57
  have au35Xp55 : Apart u35 p55 := ou35.apart nn57
  have ag41Xp55 : Apart g41 p55 := og41.apart nn57
  have au43Xp55 : Apart u43 p55 := ou43.apart nn57
  have au44Xp55 : Apart u44 p55 := ou44.apart nn57
  have au51Xp55 : Apart u51 p55 := ou51.apart nn57
  have np55 : Nw H p55 := nn57.le lE
  replace op1 := op1.le le58
  replace ou9 := ou9.le le58
  replace ou10 := ou10.le le58
  replace ou15 := ou15.le le58
  replace og21 := og21.le le58
  replace ou23 := ou23.le le58
  replace ou24 := ou24.le le58
  replace op29 := op29.le le58
  replace ou35 := ou35.le le58
  replace og41 := og41.le le58
  replace ou43 := ou43.le le58
  replace ou44 := ou44.le le58
  replace ou51 := ou51.le le58
  replace hpa := hpa.le le58
  replace hpb := hpb.le le58
  replace hs := hs.le le58
  replace lE := lE.trans le58
  replace op55 : Cel H56 p55 [u23, u24] := op55
  refine ob_i (op55.fa 0) ?_
  refine ob_i (op55.ld 0 rfl) ?_
  refine C.laws_markInt64S ou23 (by omega) (by omega) (by omega) (fun H59 ou23 off60 => ?_)
  replace op1 := op1.off off60 ap1Xu23
  replace ou9 := ou9.off off60 au9Xu23
  replace ou10 := ou10.off off60 au10Xu23
  replace ou15 := ou15.off off60 au15Xu23
  replace og21 := og21.off off60 ag21Xu23
  replace ou24 := ou24.off off60 au23Xu24.symm
  replace op29 := op29.off off60 au23Xp29.symm
  replace ou35 := ou35.off off60 au23Xu35.symm
  replace og41 := og41.off off60 au23Xg41.symm
  replace ou43 := ou43.off off60 au23Xu43.symm
  replace ou44 := ou44.off off60 au23Xu44.symm
  replace ou51 := ou51.off off60 au23Xu51.symm
  replace op55 := op55.off off60 au23Xp55.symm
  replace hpa := hpa0.le (off60.le lE nu23)
  replace hpb := hpb0.le (off60.le lE nu23)
  replace hs := hs0.le (off60.le lE nu23)
  replace lE := off60.le lE nu23
  refine ob_i (op55.fa 1) ?_
  refine ob_i (op55.ld 1 rfl) ?_
  refine C.laws_markInt64S ou24 (by omega) (by omega) (by omega) (fun H61 ou24 off62 => ?_)
  replace op1 := op1.off off62 ap1Xu24
  replace ou9 := ou9.off off62 au9Xu24
  replace ou10 := ou10.off off62 au10Xu24
  replace ou15 := ou15.off off62 au15Xu24
  replace og21 := og21.off off62 ag21Xu24
  replace ou23 := ou23.off off62 au23Xu24
  replace op29 := op29.off off62 au24Xp29.symm
  replace ou35 := ou35.off off62 au24Xu35.symm
  replace og41 := og41.off off62 au24Xg41.symm
  replace ou43 := ou43.off off62 au24Xu43.symm
  replace ou44 := ou44.off off62 au24Xu44.symm
  replace ou51 := ou51.off off62 au24Xu51.symm
  replace op55 := op55.off off62 au24Xp55.symm
  replace hpa := hpa0.le (off62.le lE nu24)
  replace hpb := hpb0.le (off62.le lE nu24)
  replace hs := hs0.le (off62.le lE nu24)
  replace lE := off62.le lE nu24
  refine C.laws_markInt64S ou35 (by omega) (by omega) (by omega) (fun H63 ou35 off64 => ?_)
  replace op1 := op1.off off64 ap1Xu35
  replace ou9 := ou9.off off64 au9Xu35
  replace ou10 := ou10.off off64 au10Xu35
  replace ou15 := ou15.off off64 au15Xu35
  replace og21 := og21.off off64 ag21Xu35
  replace ou23 := ou23.off off64 au23Xu35
  replace ou24 := ou24.off off64 au24Xu35
  replace op29 := op29.off off64 ap29Xu35
  replace og41 := og41.off off64 au35Xg41.symm
  replace ou43 := ou43.off off64 au35Xu43.symm
  replace ou44 := ou44.off off64 au35Xu44.symm
  replace ou51 := ou51.off off64 au35Xu51.symm
  replace op55 := op55.off off64 au35Xp55.symm
  replace hpa := hpa0.le (off64.le lE nu35)
  replace hpb := hpb0.le (off64.le lE nu35)
  replace hs := hs0.le (off64.le lE nu35)
  replace lE := off64.le lE nu35
  refine ob_i (vInt_lss_f (by omega)) ?_
  refine gop_rf ?_
  refine gop_rf ?_
  refine gop_rf ?_
  refine C.laws_eqInt64S og41.sl og21.sl (by omega) ?_
  rw [decide_eq_true rfl]
  refine gop_rf ?_
  refine ob_i (a := .bool false) rfl ?_
  refine ob_i (vPick_f _ _) ?_
  refine gop_rf ?_
  refine gop_rf ?_
  refine gop_rf ?_
  refine ob_i (vBool_neq_same _) ?_
  refine ob_i (vPick_f _ _) ?_
  refine cnd_f1 ?_
  refine C.laws_markInt64S og41 (by omega) (by omega) (by omega) (fun H65 og41 off66 => ?_)
  replace op1 := op1.off off66 ap1Xg41
  replace ou9 := ou9.off off66 au9Xg41
  replace ou10 := ou10.off off66 au10Xg41
  replace ou15 := ou15.off off66 au15Xg41
  replace og21 := og21.off off66 ag21Xg41
  replace ou23 := ou23.off off66 au23Xg41
  replace ou24 := ou24.off off66 au24Xg41
  replace op29 := op29.off off66 ap29Xg41
  replace ou35 := ou35.off off66 au35Xg41
  replace ou43 := ou43.off off66 ag41Xu43.symm
  replace ou44 := ou44.off off66 ag41Xu44.symm
  replace ou51 := ou51.off off66 ag41Xu51.symm
  replace op55 := op55.off off66 ag41Xp55.symm
  replace hpa := hpa0.le (off66.le lE ng41)
  replace hpb := hpb0.le (off66.le lE ng41)
  replace hs := hs0.le (off66.le lE ng41)
  replace lE := off66.le lE ng41
  refine C.laws_heldInt64S og41.sl (by omega) (by omega) (by omega) ?_
  refine ob_i (vInt_lss_f (by omega)) ?_
  refine cnd_f1 ?_
  refine ob_i (vInt_neq_same _ _) ?_
  refine cnd_f1 ?_
  refine ob_i (op1.ldn rfl) ?_
  refine C.laws_toLife hpa hpb (by omega) (by omega) (fun u67 u68 H69 ou67 ou68 nn71 nn72 au67Xu68 le70 => ?_)
  have ap1Xu67 : Apart p1 u67 := op1.apart nn71
  have au9Xu67 : Apart u9 u67 := ou9.apart nn71
  have au10Xu67 : Apart u10 u67 := ou10.apart nn71
  have au15Xu67 : Apart u15 u67 := ou15.apart nn71
  have ag21Xu67 : Apart g21 u67 := og21.apart nn71
  have au23Xu67 : Apart u23 u67 := ou23.apart nn71
  have au24Xu67 : Apart u24 u67 := ou24.apart nn71
  have ap29Xu67 : Apart p29 u67 := op29.apart nn71
  have au35Xu67 : Apart u35 u67 := ou35.apart nn71
  have ag41Xu67 : Apart g41 u67 := og41.apart nn71
  have au43Xu67 : Apart u43 u67 := ou43.apart nn71
  have au44Xu67 : Apart u44 u67 := ou44.apart nn71
  have au51Xu67 : Apart u51 u67 := ou51.apart nn71
  have ap55Xu67 : Apart p55 u67 := op55.apart nn71
  have nu67 : Nw H u67 := nn71.le lE
  have ap1Xu68 : Apart p1 u68 := op1.apart nn72
  have au9Xu68 : Apart u9 u68 := ou9.apart nn72
  have au10Xu68 : Apart u10 u68 := ou10.apart nn72
  have au15Xu68 : Apart u15 u68 := ou15.apart nn72
  have ag21Xu68 : Apart g21 u68 := og21.apart nn72
  have au23Xu68 : Apart u23 u68 := ou23.apart nn72
  have au24Xu68 : Apart u24 u68 := ou24.apart nn72
  have ap29Xu68 : Apart p29 u68 := op29.apart nn72
  have au35Xu68 : Apart u35 u68 := ou35.apart nn72
  have ag41Xu68 : Apart g41 u68 := og41.apart nn72
  have au43Xu68 : Apart u43 u68 := ou43.apart nn72
  have au44Xu68 : Apart u44 u68 := ou44.apart nn72
  have au51Xu68 : Apart u51 u68 := ou51.apart nn72
  have ap55Xu68 : Apart p55 u68 := op55.apart nn72
  have nu68 : Nw H u68 := nn72.le lE
  replace op1 := op1.le le70
  replace ou9 := ou9.le le70
  replace ou10 := ou10.le le70
  replace ou15 := ou15.le le70
  replace og21 := og21.le le70
  replace ou23 := ou23.le le70
  replace ou24 := ou24.le le70
  replace op29 := op29.le le70
  replace ou35 := ou35.le le70
  replace og41 := og41.le le70
  replace ou43 := ou43.le le70
  replace ou44 := ou44.le le70
  replace ou51 := ou51.le le70
  replace op55 := op55.le le70
  replace hpa := hpa.le le70
  replace hpb := hpb.le le70
  replace hs := hs.le le70
  replace lE := lE.trans le70
  refine C.laws_toInt64S hs (by omega) (fun u73 H74 ou73 nn75 le76 => ?_)
  have ap1Xu73 : Apart p1 u73 := op1.apart nn75
  have au9Xu73 : Apart u9 u73 := ou9.apart nn75
  have au10Xu73 : Apart u10 u73 := ou10.apart nn75
  have au15Xu73 : Apart u15 u73 := ou15.apart nn75
  have ag21Xu73 : Apart g21 u73 := og21.apart nn75
  have au23Xu73 : Apart u23 u73 := ou23.apart nn75
  have au24Xu73 : Apart u24 u73 := ou24.apart nn75
  have ap29Xu73 : Apart p29 u73 := op29.apart nn75
  have au35Xu73 : Apart u35 u73 := ou35.apart nn75
  have ag41Xu73 : Apart g41 u73 := og41.apart nn75
  have au43Xu73 : Apart u43 u73 := ou43.apart nn75
  have au44Xu73 : Apart u44 u73 := ou44.apart nn75
  have au51Xu73 : Apart u51 u73 := ou51.apart nn75
  have ap55Xu73 : Apart p55 u73 := op55.apart nn75
  have au67Xu73 : Apart u67 u73 := ou67.apart nn75
  have au68Xu73 : Apart u68 u73 := ou68.apart nn75
  have nu73 : Nw H u73 := nn75.le lE
  replace op1 := op1.le le76
  replace ou9 := ou9.le le76
  replace ou10 := ou10.le le76
  replace ou15 := ou15.le le76
  replace og21 := og21.le le76
  replace ou23 := ou23.le le76
  replace ou24 := ou24.le le76
  replace op29 := op29.le le76
  replace ou35 := ou35.le le76
  replace og41 := og41.le le76
  replace ou43 := ou43.le le76
  replace ou44 := ou44.le le76
  replace ou51 := ou51.le le76
  replace op55 := op55.le le76
  replace ou67 := ou67.le le76
  replace ou68 := ou68.le le76
  replace hpa := hpa.le le76
  replace hpb := hpb.le le76
  replace hs := hs.le le76
  replace lE := lE.trans le76
  refine C.impl_SoupsShared ou67.sl ou68.sl ou73.sl (by omega) (by omega) (by omega)  (fun g79 H77 og79 nn80  le78 => ?_)
  have ap1Xg79 : Apart p1 g79 := op1.apart nn80
  have au9Xg79 : Apart u9 g79 := ou9.apart nn80
  have au10Xg79 : Apart u10 g79 := ou10.apart nn80
  have au15Xg79 : Apart u15 g79 := ou15.apart nn80
  have ag21Xg79 : Apart g21 g79 := og21.apart nn80
  have au23Xg79 : Apart u23 g79 := ou23.apart nn80
  have au24Xg79 : Apart u24 g79 := ou24.apart nn80
  have ap29Xg79 : Apart p29 g79 := op29.apart nn80
  have au35Xg79 : Apart u35 g79 := ou35.apart nn80
  have ag41Xg79 : Apart g41 g79 := og41.apart nn80
  have au43Xg79 : Apart u43 g79 := ou43.apart nn80
  have au44Xg79 : Apart u44 g79 := ou44.apart nn80
  have au51Xg79 : Apart u51 g79 := ou51.apart nn80
  have ap55Xg79 : Apart p55 g79 := op55.apart nn80
  have au67Xg79 : Apart u67 g79 := ou67.apart nn80
  have au68Xg79 : Apart u68 g79 := ou68.apart nn80
  have au73Xg79 : Apart u73 g79 := ou73.apart nn80
  have ng79 : Nw H g79 := nn80.le lE
  replace op1 := op1.le le78
  replace ou9 := ou9.le le78
  replace ou10 := ou10.le le78
  replace ou15 := ou15.le le78
  replace og21 := og21.le le78
  replace ou23 := ou23.le le78
  replace ou24 := ou24.le le78
  replace op29 := op29.le le78
  replace ou35 := ou35.le le78
  replace og41 := og41.le le78
  replace ou43 := ou43.le le78
  replace ou44 := ou44.le le78
  replace ou51 := ou51.le le78
  replace op55 := op55.le le78
  replace ou67 := ou67.le le78
  replace ou68 := ou68.le le78
  replace ou73 := ou73.le le78
  replace hpa := hpa.le le78
  replace hpb := hpb.le le78
  replace hs := hs.le le78
  replace lE := lE.trans le78
  refine ob_i (vExt_20 _ _) ?_
  refine ob_i (vExt_21 _ _) ?_
  refine C.laws_eqInt64S og79.sl og21.sl (by omega) ?_
  rw [decide_eq_true rfl]
  refine ob_i (a := .bool false) rfl ?_
  refine gop_rf ?_
  refine gop_rf ?_
  refine gop_rf ?_
  refine ob_i (vBool_neq_same _) ?_
  refine ob_i (vPick_f _ _) ?_
  refine cnd_f1 ?_
  refine C.laws_heldInt64S og41.sl (by omega) (by omega) (by omega) ?_
  refine ob_i (vInt_lss_f (by omega)) ?_
  refine cnd_f1 ?_
  refine ob_i (vInt_neq_same _ _) ?_
  refine cnd_f1 ?_
  exact hk _ lE
end Go.Proofs.Ythbffbpdoankjaa
