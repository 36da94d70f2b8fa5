/- What the small functions of structs come to: copies, sizes, what is alike. -/
import Derived.Test.YtcjamajenfgddaaFC
namespace Go.Proofs.Ytcjamajenfgddaa
open HL
set_option maxRecDepth 100000
theorem C.laws_toFlow {xa : Int} {xb : Int} {xc : Value} {sxc : List Nat} {xd : Value} {sxd : List Bool} {H : Hp} {K : Value → Hp → Prop} (hxc0 : Sl eF H xc sxc) (hxd0 : Sl eB H xd sxd) (msxc : (sxc).length ≤ 17592186044416) (msxd : (sxd).length ≤ 17592186044416)
    (hk : ∀ uc ud H', Own eF H' uc sxc → Own eB H' ud sxd → Nw H uc → Nw H ud → Apart uc ud → Le H H' → K (.agg #[(.int .i64 (xa)), (.int .i64 (xb)), uc, ud]) H') : HT prg I.laws_toFlow [(.agg #[(.int .i64 (xa)), (.int .i64 (xb)), xc, xd])].toArray H K := by
  have lE := Le.refl H
  have hxc := hxc0
  have hxd := hxd0
  refine R.laws_toFlow ?_
  unfold F.laws_toFlow
  refine nw_i (fun p1 H2 op1 nn3 le4 => ?_)
  have np1 : Nw H p1 := nn3.le lE
  replace hxc := hxc.le le4
  replace hxd := hxd.le le4
  replace lE := lE.trans le4
  replace op1 : Cel H2 p1 [(.int .i64 (xa)), (.int .i64 (xb)), xc, xd] := op1
  refine nw_i (fun p5 H6 op5 nn7 le8 => ?_)
  have ap1Xp5 : Apart p1 p5 := op1.apart nn7
  have np5 : Nw H p5 := nn7.le lE
  replace op1 := op1.le le8
  replace hxc := hxc.le le8
  replace hxd := hxd.le le8
  replace lE := lE.trans le8
  replace op5 : Cel H6 p5 [(.int .i64 (0)), (.int .i64 (0)), (.slice none 0 0), (.slice none 0 0)] := op5
  refine nw_i (fun p9 H10 op9 nn11 le12 => ?_)
  have ap1Xp9 : Apart p1 p9 := op1.apart nn11
  have ap5Xp9 : Apart p5 p9 := op5.apart nn11
  have np9 : Nw H p9 := nn11.le lE
  replace op1 := op1.le le12
  replace op5 := op5.le le12
  replace hxc := hxc.le le12
  replace hxd := hxd.le le12
  replace lE := lE.trans le12
  replace op9 : Cel H10 p9 [(.int .i64 (0)), (.int .i64 (0)), (.slice none 0 0), (.slice none 0 0)] := op9
  refine ob_i (op1.fa 0) ?_
  refine ob_i (op1.ld 0 rfl) ?_
  refine ob_i (op9.fa 0) ?_
  refine op9.st (by simp) rfl rfl (fun H13 op9 off14 => ?_)
  replace op1 := op1.off off14 ap1Xp9
  replace op5 := op5.off off14 ap5Xp9
  replace hxc := hxc0.le (off14.le lE np9)
  replace hxd := hxd0.le (off14.le lE np9)
  replace lE := off14.le lE np9
  replace op9 : Cel H13 p9 [(.int .i64 (xa)), (.int .i64 (0)), (.slice none 0 0), (.slice none 0 0)] := op9
  refine ob_i (op1.fa 1) ?_
  refine ob_i (op1.ld 1 rfl) ?_
  refine ob_i (op9.fa 1) ?_
  refine op9.st (by simp) rfl rfl (fun H15 op9 off16 => ?_)
  replace op1 := op1.off off16 ap1Xp9
  replace op5 := op5.off off16 ap5Xp9
  replace hxc := hxc0.le (off16.le lE np9)
  replace hxd := hxd0.le (off16.le lE np9)
  replace lE := off16.le lE np9
  replace op9 : Cel H15 p9 [(.int .i64 (xa)), (.int .i64 (xb)), (.slice none 0 0), (.slice none 0 0)] := op9
  refine ob_i (op1.fa 2) ?_
  refine ob_i (op1.ld 2 rfl) ?_
  refine C.laws_toFloat32S hxc (by omega) (fun u17 H18 ou17 nn19 le20 => ?_)
  have ap1Xu17 : Apart p1 u17 := op1.apart nn19
  have ap5Xu17 : Apart p5 u17 := op5.apart nn19
  have ap9Xu17 : Apart p9 u17 := op9.apart nn19
  have nu17 : Nw H u17 := nn19.le lE
  replace op1 := op1.le le20
  replace op5 := op5.le le20
  replace op9 := op9.le le20
  replace hxc := hxc.le le20
  replace hxd := hxd.le le20
  replace lE := lE.trans le20
  refine ob_i (op9.fa 2) ?_
  refine op9.st (by simp) ou17.one ou17.cells (fun H21 op9 off22 => ?_)
  replace op1 := op1.off off22 ap1Xp9
  replace op5 := op5.off off22 ap5Xp9
  replace ou17 := ou17.off off22 ap9Xu17.symm
  replace hxc := hxc0.le (off22.le lE np9)
  replace hxd := hxd0.le (off22.le lE np9)
  replace lE := off22.le lE np9
  replace op9 : Cel H21 p9 [(.int .i64 (xa)), (.int .i64 (xb)), u17, (.slice none 0 0)] := op9
  refine ob_i (op1.fa 3) ?_
  refine ob_i (op1.ld 3 rfl) ?_
  refine C.laws_toBoolS hxd (by omega) (fun u23 H24 ou23 nn25 le26 => ?_)
  have ap1Xu23 : Apart p1 u23 := op1.apart nn25
  have ap5Xu23 : Apart p5 u23 := op5.apart nn25
  have ap9Xu23 : Apart p9 u23 := op9.apart nn25
  have au17Xu23 : Apart u17 u23 := ou17.apart nn25
  have nu23 : Nw H u23 := nn25.le lE
  replace op1 := op1.le le26
  replace op5 := op5.le le26
  replace op9 := op9.le le26
  replace ou17 := ou17.le le26
  replace hxc := hxc.le le26
  replace hxd := hxd.le le26
  replace lE := lE.trans le26
  refine ob_i (op9.fa 3) ?_
  refine op9.st (by simp) ou23.one ou23.cells (fun H27 op9 off28 => ?_)
  replace op1 := op1.off off28 ap1Xp9
  replace op5 := op5.off off28 ap5Xp9
  replace ou17 := ou17.off off28 ap9Xu17.symm
  replace ou23 := ou23.off off28 ap9Xu23.symm
  replace hxc := hxc0.le (off28.le lE np9)
  replace hxd := hxd0.le (off28.le lE np9)
  replace lE := off28.le lE np9
  replace op9 : Cel H27 p9 [(.int .i64 (xa)), (.int .i64 (xb)), u17, u23] := op9
  refine ob_i (op9.ldn rfl) ?_
  refine op5.stn (ws := [(.int .i64 (xa)), (.int .i64 (xb)), u17, u23]) rfl rfl (oc1 rfl (oc1 rfl (oc1 ou17.one (oc1 ou23.one oc0)))) (fun H29 op5 off30 => ?_)
  replace op1 := op1.off off30 ap1Xp5
  replace op9 := op9.off off30 ap5Xp9.symm
  replace ou17 := ou17.off off30 ap5Xu17.symm
  replace ou23 := ou23.off off30 ap5Xu23.symm
  replace hxc := hxc0.le (off30.le lE np5)
  replace hxd := hxd0.le (off30.le lE np5)
  replace lE := off30.le lE np5
  replace op5 : Cel H29 p5 [(.int .i64 (xa)), (.int .i64 (xb)), u17, u23] := op5
  refine ob_i (op5.ldn rfl) ?_
  exact hk u17 u23 _ ou17 ou23 nu17 nu23 au17Xu23 lE

theorem C.laws_szFlow {xa : Int} {xb : Int} {xc : Value} {sxc : List Nat} {xd : Value} {sxd : List Bool} {k : Int} {H : Hp} {K : Value → Hp → Prop} (hxc0 : Sl eF H xc sxc) (hxd0 : Sl eB H xd sxd) (msxc : (sxc).length ≤ 9223372036854775807) (msxd : (sxd).length ≤ 9223372036854775807) (hk0 : 0 ≤ k) (hk1 : k < 9223372036854775808) (h1 : ∀ H', Le H H' → K (.int .i64 (-1)) H')
    (h2 : ∀ H', Le H H' → 0 ≤ k - (sxc).length - (sxd).length → K (.int .i64 (k - (sxc).length - (sxd).length)) H') : HT prg I.laws_szFlow [(.agg #[(.int .i64 (xa)), (.int .i64 (xb)), xc, xd]), .int .i64 k].toArray H K := by
  have lE := Le.refl H
  have hxc := hxc0
  have hxd := hxd0
  refine R.laws_szFlow ?_
  unfold F.laws_szFlow
  refine nw_i (fun p1 H2 op1 nn3 le4 => ?_)
  have np1 : Nw H p1 := nn3.le lE
  replace hxc := hxc.le le4
  replace hxd := hxd.le le4
  replace lE := lE.trans le4
  replace op1 : Cel H2 p1 [(.int .i64 (xa)), (.int .i64 (xb)), xc, xd] := op1
  refine ob_i (op1.fa 2) ?_
  refine ob_i (op1.ld 2 rfl) ?_
  refine C.laws_szFloat32S hxc.len (by omega) (by omega) (fun hz5 => ?_) (fun hz5 => ?_)
  · skip
    refine ob_i (vInt_lss_t (by omega)) ?_
    refine cnd_t1 ?_
    exact h1 _ lE
  refine ob_i (vInt_lss_f (by omega)) ?_
  refine cnd_f1 ?_
  refine ob_i (op1.fa 3) ?_
  refine ob_i (op1.ld 3 rfl) ?_
  refine C.laws_szBoolS hxd.len (by omega) (by omega) (fun hz6 => ?_) (fun hz6 => ?_)
  · skip
    refine ob_i (vInt_lss_t (by omega)) ?_
    refine cnd_t1 ?_
    exact h1 _ lE
  refine ob_i (vInt_lss_f (by omega)) ?_
  refine cnd_f1 ?_
  exact h2 _ lE (by omega)

theorem C.laws_eqFlow {xa : Int} {xb : Int} {xc : Value} {sxc : List Nat} {xd : Value} {sxd : List Bool} {yc : Value} {yd : Value} {H : Hp} {K : Value → Hp → Prop} (hxc0 : Sl eF H xc sxc) (hyc0 : Sl eF H yc sxc) (hxd0 : Sl eB H xd sxd) (hyd0 : Sl eB H yd sxd) (msxc : (sxc).length ≤ 9223372036854775807) (msxd : (sxd).length ≤ 9223372036854775807)
    (hk : ∀ H', Le H H' → K (.bool true) H') : HT prg I.laws_eqFlow [(.agg #[(.int .i64 (xa)), (.int .i64 (xb)), xc, xd]), (.agg #[(.int .i64 (xa)), (.int .i64 (xb)), yc, yd])].toArray H K := by
  have lE := Le.refl H
  have hxc := hxc0
  have hxd := hxd0
  have hyc := hyc0
  have hyd := hyd0
  refine R.laws_eqFlow ?_
  unfold F.laws_eqFlow
  refine nw_i (fun p1 H2 op1 nn3 le4 => ?_)
  have np1 : Nw H p1 := nn3.le lE
  replace hxc := hxc.le le4
  replace hxd := hxd.le le4
  replace hyc := hyc.le le4
  replace hyd := hyd.le le4
  replace lE := lE.trans le4
  replace op1 : Cel H2 p1 [(.int .i64 (xa)), (.int .i64 (xb)), xc, xd] := op1
  refine nw_i (fun p5 H6 op5 nn7 le8 => ?_)
  have ap1Xp5 : Apart p1 p5 := op1.apart nn7
  have np5 : Nw H p5 := nn7.le lE
  replace op1 := op1.le le8
  replace hxc := hxc.le le8
  replace hxd := hxd.le le8
  replace hyc := hyc.le le8
  replace hyd := hyd.le le8
  replace lE := lE.trans le8
  replace op5 : Cel H6 p5 [(.int .i64 (xa)), (.int .i64 (xb)), yc, yd] := op5
  refine ob_i (op1.fa 0) ?_
  refine ob_i (op1.ld 0 rfl) ?_
  refine ob_i (op5.fa 0) ?_
  refine ob_i (op5.ld 0 rfl) ?_
  refine ob_i (vInt_neq_same _ _) ?_
  refine cnd_f1 ?_
  refine ob_i (op1.fa 1) ?_
  refine ob_i (op1.ld 1 rfl) ?_
  refine ob_i (op5.fa 1) ?_
  refine ob_i (op5.ld 1 rfl) ?_
  refine ob_i (vInt_neq_same _ _) ?_
  refine cnd_f1 ?_
  refine ob_i (op1.fa 2) ?_
  refine ob_i (op1.ld 2 rfl) ?_
  refine ob_i (op5.fa 2) ?_
  refine ob_i (op5.ld 2 rfl) ?_
  refine C.laws_eqFloat32S hxc hyc (by omega) ?_
  refine ob_i (a := .bool false) rfl ?_
  refine cnd_f1 ?_
  refine ob_i (op1.fa 3) ?_
  refine ob_i (op1.ld 3 rfl) ?_
  refine ob_i (op5.fa 3) ?_
  refine ob_i (op5.ld 3 rfl) ?_
  refine C.laws_eqBoolS hxd hyd (by omega) ?_
  rw [decide_eq_true rfl]
  refine ob_i (a := .bool false) rfl ?_
  refine cnd_f1 ?_
  exact hk _ lE
end Go.Proofs.Ytcjamajenfgddaa
