/- Laws, each by its two sides: its function returns true, and what was known before stays. -/
import Derived.Test.YtffmfkpobjdmmaaGreatDoorMSoupOf4
import Derived.Test.YtffmfkpobjdmmaaGreatDoorMSoupOf2
import Derived.Test.YtffmfkpobjdmmaaGreatDoorMSoupOf1
namespace Go.Proofs.YtffmfkpobjdmmaaGreatDoor
open HL
set_option maxRecDepth 100000
theorem L.FnExactSoupOf {pa : Value} {spa : List Int} {pb : Value} {spb : List Int} {q : Int} {r : Nat} {s : Int} {t : Int} {H : Hp} {K : Value → Hp → Prop} (hpa0 : Sl eI H pa spa) (hpb0 : Sl eI H pb spb) (wq0 : -9223372036854775808 ≤ q) (wq1 : q < 9223372036854775808) (ws0 : -9223372036854775808 ≤ s) (ws1 : s < 9223372036854775808) (wt0 : -9223372036854775808 ≤ t) (wt1 : t < 9223372036854775808) (mspa : (spa).length ≤ 9223372036854775807) (mspb : (spb).length ≤ 9223372036854775807) (hk : ∀ H', Le H H' → K (.bool true) H') :
    HT prg I.laws_FnExactSoupOf [(.agg #[pa, pb]), (.int .i64 (q)), (.float .f32 r), (.int .i64 (s)), (.int .i64 (t))].toArray H K := by
  have hR := @sopP_len spa spb q s t r
  have lE := Le.refl H
  have hpa := hpa0
  have hpb := hpb0
  refine R.laws_FnExactSoupOf ?_
  unfold F.laws_FnExactSoupOf
  refine nw_i (fun p1 H2 op1 nn3 le4 => ?_)
  have np1 : Nw H p1 := nn3.le lE
  replace hpa := hpa.le le4
  replace hpb := hpb.le le4
  replace lE := lE.trans le4
  replace op1 : Cel H2 p1 [pa, pb] := op1
  refine ob_i (op1.ldn rfl) ?_
  refine C.laws_szLife hpa hpb (by omega) (by omega) (by omega) (by omega) (fun H6 le7 => ?_) (fun H6 le7 hz5 => ?_)
  · skip
    replace op1 := op1.le le7
    replace hpa := hpa.le le7
    replace hpb := hpb.le le7
    replace lE := lE.trans le7
    refine ob_i (vInt_lss_t (by omega)) ?_
    refine cnd_t1 ?_
    exact hk _ lE
  replace op1 := op1.le le7
  replace hpa := hpa.le le7
  replace hpb := hpb.le le7
  replace lE := lE.trans le7
  refine ob_i (vInt_lss_f (by omega)) ?_
  refine cnd_f1 ?_
  refine ob_i (op1.ldn rfl) ?_
  refine C.laws_toLife hpa hpb (by omega) (by omega) (fun u8 u9 H10 ou8 ou9 nn12 nn13 au8Xu9 le11 => ?_)
  have ap1Xu8 : Apart p1 u8 := op1.apart nn12
  have nu8 : Nw H u8 := nn12.le lE
  have ap1Xu9 : Apart p1 u9 := op1.apart nn13
  have nu9 : Nw H u9 := nn13.le lE
  replace op1 := op1.le le11
  replace hpa := hpa.le le11
  replace hpb := hpb.le le11
  replace lE := lE.trans le11
  refine C.spec_SoupOf ou8.sl ou9.sl (by omega) (by omega)  (fun g16 g18 H14 og16 og18 nn17 nn19 ag16Xg18 le15 => ?_)
  have ap1Xg16 : Apart p1 g16 := op1.apart nn17
  have au8Xg16 : Apart u8 g16 := ou8.apart nn17
  have au9Xg16 : Apart u9 g16 := ou9.apart nn17
  have ng16 : Nw H g16 := nn17.le lE
  have ap1Xg18 : Apart p1 g18 := op1.apart nn19
  have au8Xg18 : Apart u8 g18 := ou8.apart nn19
  have au9Xg18 : Apart u9 g18 := ou9.apart nn19
  have ng18 : Nw H g18 := nn19.le lE
  replace op1 := op1.le le15
  replace ou8 := ou8.le le15
  replace ou9 := ou9.le le15
  replace hpa := hpa.le le15
  replace hpb := hpb.le le15
  replace lE := lE.trans le15
  refine ob_i (vExt_40 _ _ _ _) ?_
  refine ob_i (vExt_41 _ _ _ _) ?_
  refine ob_i (vExt_42 _ _ _ _) ?_
  refine ob_i (vExt_43 _ _ _ _) ?_
  refine ob_i (op1.ldn rfl) ?_
  refine C.laws_toLife hpa hpb (by omega) (by omega) (fun u20 u21 H22 ou20 ou21 nn24 nn25 au20Xu21 le23 => ?_)
  have ap1Xu20 : Apart p1 u20 := op1.apart nn24
  have au8Xu20 : Apart u8 u20 := ou8.apart nn24
  have au9Xu20 : Apart u9 u20 := ou9.apart nn24
  have ag16Xu20 : Apart g16 u20 := og16.apart nn24
  have ag18Xu20 : Apart g18 u20 := og18.apart nn24
  have nu20 : Nw H u20 := nn24.le lE
  have ap1Xu21 : Apart p1 u21 := op1.apart nn25
  have au8Xu21 : Apart u8 u21 := ou8.apart nn25
  have au9Xu21 : Apart u9 u21 := ou9.apart nn25
  have ag16Xu21 : Apart g16 u21 := og16.apart nn25
  have ag18Xu21 : Apart g18 u21 := og18.apart nn25
  have nu21 : Nw H u21 := nn25.le lE
  replace op1 := op1.le le23
  replace ou8 := ou8.le le23
  replace ou9 := ou9.le le23
  replace og16 := og16.le le23
  replace og18 := og18.le le23
  replace hpa := hpa.le le23
  replace hpb := hpb.le le23
  replace lE := lE.trans le23
  refine nw_i (fun p26 H27 op26 nn28 le29 => ?_)
  have ap1Xp26 : Apart p1 p26 := op1.apart nn28
  have au8Xp26 : Apart u8 p26 := ou8.apart nn28
  have au9Xp26 : Apart u9 p26 := ou9.apart nn28
  have ag16Xp26 : Apart g16 p26 := og16.apart nn28
  have ag18Xp26 : Apart g18 p26 := og18.apart nn28
  have au20Xp26 : Apart u20 p26 := ou20.apart nn28
  have au21Xp26 : Apart u21 p26 := ou21.apart nn28
  have np26 : Nw H p26 := nn28.le lE
  replace op1 := op1.le le29
  replace ou8 := ou8.le le29
  replace ou9 := ou9.le le29
  replace og16 := og16.le le29
  replace og18 := og18.le le29
  replace ou20 := ou20.le le29
  replace ou21 := ou21.le le29
  replace hpa := hpa.le le29
  replace hpb := hpb.le le29
  replace lE := lE.trans le29
  replace op26 : Cel H27 p26 [(.slice none 0 0), (.slice none 0 0)] := op26
  refine op26.stn (ws := [u20, u21]) rfl rfl (oc1 ou20.one (oc1 ou21.one oc0)) (fun H30 op26 off31 => ?_)
  replace op1 := op1.off off31 ap1Xp26
  replace ou8 := ou8.off off31 au8Xp26
  replace ou9 := ou9.off off31 au9Xp26
  replace og16 := og16.off off31 ag16Xp26
  replace og18 := og18.off off31 ag18Xp26
  replace ou20 := ou20.off off31 au20Xp26
  replace ou21 := ou21.off off31 au21Xp26
  replace hpa := hpa0.le (off31.le lE np26)
  replace hpb := hpb0.le (off31.le lE np26)
  replace lE := off31.le lE np26
  replace op26 : Cel H30 p26 [u20, u21] := op26
  refine ob_i (op26.ldn rfl) ?_
  refine C.impl_SoupOf ou20.sl ou21.sl (by omega) (by omega)  (fun g34 g36 H32 og34 og36 nn35 nn37 ag34Xg36 le33 => ?_)
  have ap1Xg34 : Apart p1 g34 := op1.apart nn35
  have au8Xg34 : Apart u8 g34 := ou8.apart nn35
  have au9Xg34 : Apart u9 g34 := ou9.apart nn35
  have ag16Xg34 : Apart g16 g34 := og16.apart nn35
  have ag18Xg34 : Apart g18 g34 := og18.apart nn35
  have au20Xg34 : Apart u20 g34 := ou20.apart nn35
  have au21Xg34 : Apart u21 g34 := ou21.apart nn35
  have ap26Xg34 : Apart p26 g34 := op26.apart nn35
  have ng34 : Nw H g34 := nn35.le lE
  have ap1Xg36 : Apart p1 g36 := op1.apart nn37
  have au8Xg36 : Apart u8 g36 := ou8.apart nn37
  have au9Xg36 : Apart u9 g36 := ou9.apart nn37
  have ag16Xg36 : Apart g16 g36 := og16.apart nn37
  have ag18Xg36 : Apart g18 g36 := og18.apart nn37
  have au20Xg36 : Apart u20 g36 := ou20.apart nn37
  have au21Xg36 : Apart u21 g36 := ou21.apart nn37
  have ap26Xg36 : Apart p26 g36 := op26.apart nn37
  have ng36 : Nw H g36 := nn37.le lE
  replace op1 := op1.le le33
  replace ou8 := ou8.le le33
  replace ou9 := ou9.le le33
  replace og16 := og16.le le33
  replace og18 := og18.le le33
  replace ou20 := ou20.le le33
  replace ou21 := ou21.le le33
  replace op26 := op26.le le33
  replace hpa := hpa.le le33
  replace hpb := hpb.le le33
  replace lE := lE.trans le33
  refine ob_i (vExt_40 _ _ _ _) ?_
  refine ob_i (vExt_41 _ _ _ _) ?_
  refine ob_i (vExt_42 _ _ _ _) ?_
  refine ob_i (vExt_43 _ _ _ _) ?_
  refine C.laws_eqStringS og34.sl og16.sl (by omega) ?_
  refine ob_i (a := .bool false) rfl ?_
  refine gop_rf ?_
  refine gop_rf ?_
  refine gop_rf ?_
  refine C.laws_eqInt64S og36.sl og18.sl (by omega) ?_
  rw [decide_eq_true rfl]
  refine gop_rf ?_
  refine ob_i (a := .bool false) rfl ?_
  refine ob_i (vPick_f _ _) ?_
  refine gop_rf ?_
  refine gop_rf ?_
  refine gop_rf ?_
  refine ob_i (vInt_neq_same _ _) ?_
  refine ob_i (vPick_f _ _) ?_
  refine gop_rf ?_
  refine gop_rf ?_
  refine gop_rf ?_
  refine ob_i (vBool_neq_same _) ?_
  refine ob_i (vPick_f _ _) ?_
  refine cnd_f1 ?_
  refine ob_i (op26.ldn rfl) ?_
  refine ob_i (op1.ldn rfl) ?_
  refine C.laws_toLife hpa hpb (by omega) (by omega) (fun u38 u39 H40 ou38 ou39 nn42 nn43 au38Xu39 le41 => ?_)
  have ap1Xu38 : Apart p1 u38 := op1.apart nn42
  have au8Xu38 : Apart u8 u38 := ou8.apart nn42
  have au9Xu38 : Apart u9 u38 := ou9.apart nn42
  have ag16Xu38 : Apart g16 u38 := og16.apart nn42
  have ag18Xu38 : Apart g18 u38 := og18.apart nn42
  have au20Xu38 : Apart u20 u38 := ou20.apart nn42
  have au21Xu38 : Apart u21 u38 := ou21.apart nn42
  have ap26Xu38 : Apart p26 u38 := op26.apart nn42
  have ag34Xu38 : Apart g34 u38 := og34.apart nn42
  have ag36Xu38 : Apart g36 u38 := og36.apart nn42
  have nu38 : Nw H u38 := nn42.le lE
  have ap1Xu39 : Apart p1 u39 := op1.apart nn43
  have au8Xu39 : Apart u8 u39 := ou8.apart nn43
  have au9Xu39 : Apart u9 u39 := ou9.apart nn43
  have ag16Xu39 : Apart g16 u39 := og16.apart nn43
  have ag18Xu39 : Apart g18 u39 := og18.apart nn43
  have au20Xu39 : Apart u20 u39 := ou20.apart nn43
  have au21Xu39 : Apart u21 u39 := ou21.apart nn43
  have ap26Xu39 : Apart p26 u39 := op26.apart nn43
  have ag34Xu39 : Apart g34 u39 := og34.apart nn43
  have ag36Xu39 : Apart g36 u39 := og36.apart nn43
  have nu39 : Nw H u39 := nn43.le lE
  replace op1 := op1.le le41
  replace ou8 := ou8.le le41
  replace ou9 := ou9.le le41
  replace og16 := og16.le le41
  replace og18 := og18.le le41
  replace ou20 := ou20.le le41
  replace ou21 := ou21.le le41
  replace op26 := op26.le le41
  replace og34 := og34.le le41
  replace og36 := og36.le le41
  replace hpa := hpa.le le41
  replace hpb := hpb.le le41
  replace lE := lE.trans le41
  refine ⟨le41, ?_⟩
  refine C.laws_eqLife ou20.sl ou38.sl ou21.sl ou39.sl (by omega) (by omega) (fun H44 le45 => ?_)
  replace op1 := op1.le le45
  replace ou8 := ou8.le le45
  replace ou9 := ou9.le le45
  replace og16 := og16.le le45
  replace og18 := og18.le le45
  replace ou20 := ou20.le le45
  replace ou21 := ou21.le le45
  replace op26 := op26.le le45
  replace og34 := og34.le le45
  replace og36 := og36.le le45
  replace ou38 := ou38.le le45
  replace ou39 := ou39.le le45
  replace hpa := hpa.le le45
  replace hpb := hpb.le le45
  replace lE := lE.trans le45
  refine ⟨le45, ?_⟩
  refine ob_i (a := .bool false) rfl ?_
  refine cnd_f1 ?_
  refine ob_i (op26.ldn rfl) ?_
  refine R.laws_markLife ?_
  unfold F.laws_markLife
  refine nw_i (fun p46 H47 op46 nn48 le49 => ?_)
  have ap1Xp46 : Apart p1 p46 := op1.apart nn48
  have au8Xp46 : Apart u8 p46 := ou8.apart nn48
  have au9Xp46 : Apart u9 p46 := ou9.apart nn48
  have ag16Xp46 : Apart g16 p46 := og16.apart nn48
  have ag18Xp46 : Apart g18 p46 := og18.apart nn48
  have au20Xp46 : Apart u20 p46 := ou20.apart nn48
  have au21Xp46 : Apart u21 p46 := ou21.apart nn48
  have ap26Xp46 : Apart p26 p46 := op26.apart nn48
  have ag34Xp46 : Apart g34 p46 := og34.apart nn48
  have ag36Xp46 : Apart g36 p46 := og36.apart nn48
  have au38Xp46 : Apart u38 p46 := ou38.apart nn48
  have au39Xp46 : Apart u39 p46 := ou39.apart nn48
  have np46 : Nw H p46 := nn48.le lE
  replace op1 := op1.le le49
  replace ou8 := ou8.le le49
  replace ou9 := ou9.le le49
  replace og16 := og16.le le49
  replace og18 := og18.le le49
  replace ou20 := ou20.le le49
  replace ou21 := ou21.le le49
  replace op26 := op26.le le49
  replace og34 := og34.le le49
  replace og36 := og36.le le49
  replace ou38 := ou38.le le49
  replace ou39 := ou39.le le49
  replace hpa := hpa.le le49
  replace hpb := hpb.le le49
  replace lE := lE.trans le49
  replace op46 : Cel H47 p46 [u20, u21] := op46
  refine ob_i (op46.fa 0) ?_
  refine ob_i (op46.ld 0 rfl) ?_
  refine C.laws_markInt64S ou20 (by omega) (by omega) (by omega) (fun H50 ou20 off51 => ?_)
  replace op1 := op1.off off51 ap1Xu20
  replace ou8 := ou8.off off51 au8Xu20
  replace ou9 := ou9.off off51 au9Xu20
  replace og16 := og16.off off51 ag16Xu20
  replace og18 := og18.off off51 ag18Xu20
  replace ou21 := ou21.off off51 au20Xu21.symm
  replace op26 := op26.off off51 au20Xp26.symm
  replace og34 := og34.off off51 au20Xg34.symm
  replace og36 := og36.off off51 au20Xg36.symm
  replace ou38 := ou38.off off51 au20Xu38.symm
  replace ou39 := ou39.off off51 au20Xu39.symm
  replace op46 := op46.off off51 au20Xp46.symm
  replace hpa := hpa0.le (off51.le lE nu20)
  replace hpb := hpb0.le (off51.le lE nu20)
  replace lE := off51.le lE nu20
  refine ob_i (op46.fa 1) ?_
  refine ob_i (op46.ld 1 rfl) ?_
  refine C.laws_markInt64S ou21 (by omega) (by omega) (by omega) (fun H52 ou21 off53 => ?_)
  replace op1 := op1.off off53 ap1Xu21
  replace ou8 := ou8.off off53 au8Xu21
  replace ou9 := ou9.off off53 au9Xu21
  replace og16 := og16.off off53 ag16Xu21
  replace og18 := og18.off off53 ag18Xu21
  replace ou20 := ou20.off off53 au20Xu21
  replace op26 := op26.off off53 au21Xp26.symm
  replace og34 := og34.off off53 au21Xg34.symm
  replace og36 := og36.off off53 au21Xg36.symm
  replace ou38 := ou38.off off53 au21Xu38.symm
  replace ou39 := ou39.off off53 au21Xu39.symm
  replace op46 := op46.off off53 au21Xp46.symm
  replace hpa := hpa0.le (off53.le lE nu21)
  replace hpb := hpb0.le (off53.le lE nu21)
  replace lE := off53.le lE nu21
  refine ob_i (vInt_lss_f (by omega)) ?_
  refine gop_rf ?_
  refine gop_rf ?_
  refine gop_rf ?_
  refine C.laws_eqStringS og34.sl og16.sl (by omega) ?_
  refine gop_rf ?_
  refine ob_i (a := .bool false) rfl ?_
  refine ob_i (vPick_f _ _) ?_
  refine gop_rf ?_
  refine gop_rf ?_
  refine gop_rf ?_
  refine C.laws_eqInt64S og36.sl og18.sl (by omega) ?_
  rw [decide_eq_true rfl]
  refine gop_rf ?_
  refine ob_i (a := .bool false) rfl ?_
  refine ob_i (vPick_f _ _) ?_
  refine gop_rf ?_
  refine gop_rf ?_
  refine gop_rf ?_
  refine ob_i (vInt_neq_same _ _) ?_
  refine ob_i (vPick_f _ _) ?_
  refine gop_rf ?_
  refine gop_rf ?_
  refine gop_rf ?_
  refine ob_i (vBool_neq_same _) ?_
  refine ob_i (vPick_f _ _) ?_
  refine cnd_f1 ?_
  refine C.laws_markStringS og34 (by omega) (by omega) (by omega) (fun H54 og34 off55 => ?_)
  replace op1 := op1.off off55 ap1Xg34
  replace ou8 := ou8.off off55 au8Xg34
  replace ou9 := ou9.off off55 au9Xg34
  replace og16 := og16.off off55 ag16Xg34
  replace og18 := og18.off off55 ag18Xg34
  replace ou20 := ou20.off off55 au20Xg34
  replace ou21 := ou21.off off55 au21Xg34
  replace op26 := op26.off off55 ap26Xg34
  replace og36 := og36.off off55 ag34Xg36.symm
  replace ou38 := ou38.off off55 ag34Xu38.symm
  replace ou39 := ou39.off off55 ag34Xu39.symm
  replace op46 := op46.off off55 ag34Xp46.symm
  replace hpa := hpa0.le (off55.le lE ng34)
  replace hpb := hpb0.le (off55.le lE ng34)
  replace lE := off55.le lE ng34
  refine C.laws_markInt64S og36 (by omega) (by omega) (by omega) (fun H56 og36 off57 => ?_)
  replace op1 := op1.off off57 ap1Xg36
  replace ou8 := ou8.off off57 au8Xg36
  replace ou9 := ou9.off off57 au9Xg36
  replace og16 := og16.off off57 ag16Xg36
  replace og18 := og18.off off57 ag18Xg36
  replace ou20 := ou20.off off57 au20Xg36
  replace ou21 := ou21.off off57 au21Xg36
  replace op26 := op26.off off57 ap26Xg36
  replace og34 := og34.off off57 ag34Xg36
  replace ou38 := ou38.off off57 ag36Xu38.symm
  replace ou39 := ou39.off off57 ag36Xu39.symm
  replace op46 := op46.off off57 ag36Xp46.symm
  replace hpa := hpa0.le (off57.le lE ng36)
  replace hpb := hpb0.le (off57.le lE ng36)
  replace lE := off57.le lE ng36
  refine C.laws_heldStringS og34.sl (by omega) (by omega) (by omega) (fun H58 le59 => ?_)
  replace op1 := op1.le le59
  replace ou8 := ou8.le le59
  replace ou9 := ou9.le le59
  replace og16 := og16.le le59
  replace og18 := og18.le le59
  replace ou20 := ou20.le le59
  replace ou21 := ou21.le le59
  replace op26 := op26.le le59
  replace og34 := og34.le le59
  replace og36 := og36.le le59
  replace ou38 := ou38.le le59
  replace ou39 := ou39.le le59
  replace op46 := op46.le le59
  replace hpa := hpa.le le59
  replace hpb := hpb.le le59
  replace lE := lE.trans le59
  refine ob_i (vInt_lss_f (by omega)) ?_
  refine cnd_f1 ?_
  refine C.laws_heldInt64S og36.sl (by omega) (by omega) (by omega) ?_
  refine ob_i (vInt_lss_f (by omega)) ?_
  refine cnd_f1 ?_
  refine ob_i (vInt_neq_same _ _) ?_
  refine cnd_f1 ?_
  refine ob_i (op1.ldn rfl) ?_
  refine C.laws_toLife hpa hpb (by omega) (by omega) (fun u60 u61 H62 ou60 ou61 nn64 nn65 au60Xu61 le63 => ?_)
  have ap1Xu60 : Apart p1 u60 := op1.apart nn64
  have au8Xu60 : Apart u8 u60 := ou8.apart nn64
  have au9Xu60 : Apart u9 u60 := ou9.apart nn64
  have ag16Xu60 : Apart g16 u60 := og16.apart nn64
  have ag18Xu60 : Apart g18 u60 := og18.apart nn64
  have au20Xu60 : Apart u20 u60 := ou20.apart nn64
  have au21Xu60 : Apart u21 u60 := ou21.apart nn64
  have ap26Xu60 : Apart p26 u60 := op26.apart nn64
  have ag34Xu60 : Apart g34 u60 := og34.apart nn64
  have ag36Xu60 : Apart g36 u60 := og36.apart nn64
  have au38Xu60 : Apart u38 u60 := ou38.apart nn64
  have au39Xu60 : Apart u39 u60 := ou39.apart nn64
  have ap46Xu60 : Apart p46 u60 := op46.apart nn64
  have nu60 : Nw H u60 := nn64.le lE
  have ap1Xu61 : Apart p1 u61 := op1.apart nn65
  have au8Xu61 : Apart u8 u61 := ou8.apart nn65
  have au9Xu61 : Apart u9 u61 := ou9.apart nn65
  have ag16Xu61 : Apart g16 u61 := og16.apart nn65
  have ag18Xu61 : Apart g18 u61 := og18.apart nn65
  have au20Xu61 : Apart u20 u61 := ou20.apart nn65
  have au21Xu61 : Apart u21 u61 := ou21.apart nn65
  have ap26Xu61 : Apart p26 u61 := op26.apart nn65
  have ag34Xu61 : Apart g34 u61 := og34.apart nn65
  have ag36Xu61 : Apart g36 u61 := og36.apart nn65
  have au38Xu61 : Apart u38 u61 := ou38.apart nn65
  have au39Xu61 : Apart u39 u61 := ou39.apart nn65
  have ap46Xu61 : Apart p46 u61 := op46.apart nn65
  have nu61 : Nw H u61 := nn65.le lE
  replace op1 := op1.le le63
  replace ou8 := ou8.le le63
  replace ou9 := ou9.le le63
  replace og16 := og16.le le63
  replace og18 := og18.le le63
  replace ou20 := ou20.le le63
  replace ou21 := ou21.le le63
  replace op26 := op26.le le63
  replace og34 := og34.le le63
  replace og36 := og36.le le63
  replace ou38 := ou38.le le63
  replace ou39 := ou39.le le63
  replace op46 := op46.le le63
  replace hpa := hpa.le le63
  replace hpb := hpb.le le63
  replace lE := lE.trans le63
  refine C.impl_SoupOf ou60.sl ou61.sl (by omega) (by omega)  (fun g68 g70 H66 og68 og70 nn69 nn71 ag68Xg70 le67 => ?_)
  have ap1Xg68 : Apart p1 g68 := op1.apart nn69
  have au8Xg68 : Apart u8 g68 := ou8.apart nn69
  have au9Xg68 : Apart u9 g68 := ou9.apart nn69
  have ag16Xg68 : Apart g16 g68 := og16.apart nn69
  have ag18Xg68 : Apart g18 g68 := og18.apart nn69
  have au20Xg68 : Apart u20 g68 := ou20.apart nn69
  have au21Xg68 : Apart u21 g68 := ou21.apart nn69
  have ap26Xg68 : Apart p26 g68 := op26.apart nn69
  have ag34Xg68 : Apart g34 g68 := og34.apart nn69
  have ag36Xg68 : Apart g36 g68 := og36.apart nn69
  have au38Xg68 : Apart u38 g68 := ou38.apart nn69
  have au39Xg68 : Apart u39 g68 := ou39.apart nn69
  have ap46Xg68 : Apart p46 g68 := op46.apart nn69
  have au60Xg68 : Apart u60 g68 := ou60.apart nn69
  have au61Xg68 : Apart u61 g68 := ou61.apart nn69
  have ng68 : Nw H g68 := nn69.le lE
  have ap1Xg70 : Apart p1 g70 := op1.apart nn71
  have au8Xg70 : Apart u8 g70 := ou8.apart nn71
  have au9Xg70 : Apart u9 g70 := ou9.apart nn71
  have ag16Xg70 : Apart g16 g70 := og16.apart nn71
  have ag18Xg70 : Apart g18 g70 := og18.apart nn71
  have au20Xg70 : Apart u20 g70 := ou20.apart nn71
  have au21Xg70 : Apart u21 g70 := ou21.apart nn71
  have ap26Xg70 : Apart p26 g70 := op26.apart nn71
  have ag34Xg70 : Apart g34 g70 := og34.apart nn71
  have ag36Xg70 : Apart g36 g70 := og36.apart nn71
  have au38Xg70 : Apart u38 g70 := ou38.apart nn71
  have au39Xg70 : Apart u39 g70 := ou39.apart nn71
  have ap46Xg70 : Apart p46 g70 := op46.apart nn71
  have au60Xg70 : Apart u60 g70 := ou60.apart nn71
  have au61Xg70 : Apart u61 g70 := ou61.apart nn71
  have ng70 : Nw H g70 := nn71.le lE
  replace op1 := op1.le le67
  replace ou8 := ou8.le le67
  replace ou9 := ou9.le le67
  replace og16 := og16.le le67
  replace og18 := og18.le le67
  replace ou20 := ou20.le le67
  replace ou21 := ou21.le le67
  replace op26 := op26.le le67
  replace og34 := og34.le le67
  replace og36 := og36.le le67
  replace ou38 := ou38.le le67
  replace ou39 := ou39.le le67
  replace op46 := op46.le le67
  replace ou60 := ou60.le le67
  replace ou61 := ou61.le le67
  replace hpa := hpa.le le67
  replace hpb := hpb.le le67
  replace lE := lE.trans le67
  refine ob_i (vExt_40 _ _ _ _) ?_
  refine ob_i (vExt_41 _ _ _ _) ?_
  refine ob_i (vExt_42 _ _ _ _) ?_
  refine ob_i (vExt_43 _ _ _ _) ?_
  refine C.laws_eqStringS og68.sl og16.sl (by omega) ?_
  refine ob_i (a := .bool false) rfl ?_
  refine gop_rf ?_
  refine gop_rf ?_
  refine gop_rf ?_
  refine C.laws_eqInt64S og70.sl og18.sl (by omega) ?_
  rw [decide_eq_true rfl]
  refine gop_rf ?_
  refine ob_i (a := .bool false) rfl ?_
  refine ob_i (vPick_f _ _) ?_
  refine gop_rf ?_
  refine gop_rf ?_
  refine gop_rf ?_
  refine ob_i (vInt_neq_same _ _) ?_
  refine ob_i (vPick_f _ _) ?_
  refine gop_rf ?_
  refine gop_rf ?_
  refine gop_rf ?_
  refine ob_i (vBool_neq_same _) ?_
  refine ob_i (vPick_f _ _) ?_
  refine cnd_f1 ?_
  refine C.laws_heldStringS og34.sl (by omega) (by omega) (by omega) (fun H72 le73 => ?_)
  replace op1 := op1.le le73
  replace ou8 := ou8.le le73
  replace ou9 := ou9.le le73
  replace og16 := og16.le le73
  replace og18 := og18.le le73
  replace ou20 := ou20.le le73
  replace ou21 := ou21.le le73
  replace op26 := op26.le le73
  replace og34 := og34.le le73
  replace og36 := og36.le le73
  replace ou38 := ou38.le le73
  replace ou39 := ou39.le le73
  replace op46 := op46.le le73
  replace ou60 := ou60.le le73
  replace ou61 := ou61.le le73
  replace og68 := og68.le le73
  replace og70 := og70.le le73
  replace hpa := hpa.le le73
  replace hpb := hpb.le le73
  replace lE := lE.trans le73
  refine ob_i (vInt_lss_f (by omega)) ?_
  refine cnd_f1 ?_
  refine C.laws_heldInt64S og36.sl (by omega) (by omega) (by omega) ?_
  refine ob_i (vInt_lss_f (by omega)) ?_
  refine cnd_f1 ?_
  refine ob_i (vInt_neq_same _ _) ?_
  refine cnd_f1 ?_
  exact hk _ lE
end Go.Proofs.YtffmfkpobjdmmaaGreatDoor
