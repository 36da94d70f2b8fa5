/- What the small functions of structs come to: copies, sizes, what is alike. -/
import Derived.Test.YtialllbbbpmkbaaDoorSG
namespace Go.Proofs.YtialllbbbpmkbaaDoor
open HL
set_option maxRecDepth 100000
theorem C.laws_toField {xa : Int} {xb : Int} {xc : Value} {sxc : List Int} {H : Hp} {K : Value → Hp → Prop} (hxc0 : Sl eI H xc sxc) (msxc : (sxc).length ≤ 17592186044416)
    (hk : ∀ uc H', Own eI H' uc sxc → Nw H uc → Le H H' → K (.agg #[(.int .i64 (xa)), (.int .i64 (xb)), uc]) H') : HT prg I.laws_toField [(.agg #[(.int .i64 (xa)), (.int .i64 (xb)), xc])].toArray H K := by
  have lE := Le.refl H
  have hxc := hxc0
  refine R.laws_toField ?_
  unfold F.laws_toField
  refine nw_i (fun p1 H2 op1 nn3 le4 => ?_)
  have np1 : Nw H p1 := nn3.le lE
  replace hxc := hxc.le le4
  replace lE := lE.trans le4
  replace op1 : Cel H2 p1 [(.int .i64 (xa)), (.int .i64 (xb)), xc] := op1
  refine nw_i (fun p5 H6 op5 nn7 le8 => ?_)
  have ap1Xp5 : Apart p1 p5 := op1.apart nn7
  have np5 : Nw H p5 := nn7.le lE
  replace op1 := op1.le le8
  replace hxc := hxc.le le8
  replace lE := lE.trans le8
  replace op5 : Cel H6 p5 [(.int .i64 (0)), (.int .i64 (0)), (.slice none 0 0)] := op5
  refine nw_i (fun p9 H10 op9 nn11 le12 => ?_)
  have ap1Xp9 : Apart p1 p9 := op1.apart nn11
  have ap5Xp9 : Apart p5 p9 := op5.apart nn11
  have np9 : Nw H p9 := nn11.le lE
  replace op1 := op1.le le12
  replace op5 := op5.le le12
  replace hxc := hxc.le le12
  replace lE := lE.trans le12
  replace op9 : Cel H10 p9 [(.int .i64 (0)), (.int .i64 (0)), (.slice none 0 0)] := op9
  refine ob_i (op1.fa 0) ?_
  refine ob_i (op1.ld 0 rfl) ?_
  refine ob_i (op9.fa 0) ?_
  refine op9.st (by simp) rfl rfl (fun H13 op9 off14 => ?_)
  replace op1 := op1.off off14 ap1Xp9
  replace op5 := op5.off off14 ap5Xp9
  replace hxc := hxc0.le (off14.le lE np9)
  replace lE := off14.le lE np9
  replace op9 : Cel H13 p9 [(.int .i64 (xa)), (.int .i64 (0)), (.slice none 0 0)] := op9
  refine ob_i (op1.fa 1) ?_
  refine ob_i (op1.ld 1 rfl) ?_
  refine ob_i (op9.fa 1) ?_
  refine op9.st (by simp) rfl rfl (fun H15 op9 off16 => ?_)
  replace op1 := op1.off off16 ap1Xp9
  replace op5 := op5.off off16 ap5Xp9
  replace hxc := hxc0.le (off16.le lE np9)
  replace lE := off16.le lE np9
  replace op9 : Cel H15 p9 [(.int .i64 (xa)), (.int .i64 (xb)), (.slice none 0 0)] := op9
  refine ob_i (op1.fa 2) ?_
  refine ob_i (op1.ld 2 rfl) ?_
  refine C.laws_toInt64S hxc (by omega) (fun u17 H18 ou17 nn19 le20 => ?_)
  have ap1Xu17 : Apart p1 u17 := op1.apart nn19
  have ap5Xu17 : Apart p5 u17 := op5.apart nn19
  have ap9Xu17 : Apart p9 u17 := op9.apart nn19
  have nu17 : Nw H u17 := nn19.le lE
  replace op1 := op1.le le20
  replace op5 := op5.le le20
  replace op9 := op9.le le20
  replace hxc := hxc.le le20
  replace lE := lE.trans le20
  refine ob_i (op9.fa 2) ?_
  refine op9.st (by simp) ou17.one ou17.cells (fun H21 op9 off22 => ?_)
  replace op1 := op1.off off22 ap1Xp9
  replace op5 := op5.off off22 ap5Xp9
  replace ou17 := ou17.off off22 ap9Xu17.symm
  replace hxc := hxc0.le (off22.le lE np9)
  replace lE := off22.le lE np9
  replace op9 : Cel H21 p9 [(.int .i64 (xa)), (.int .i64 (xb)), u17] := op9
  refine ob_i (op9.ldn rfl) ?_
  refine op5.stn (ws := [(.int .i64 (xa)), (.int .i64 (xb)), u17]) rfl rfl (oc1 rfl (oc1 rfl (oc1 ou17.one oc0))) (fun H23 op5 off24 => ?_)
  replace op1 := op1.off off24 ap1Xp5
  replace op9 := op9.off off24 ap5Xp9.symm
  replace ou17 := ou17.off off24 ap5Xu17.symm
  replace hxc := hxc0.le (off24.le lE np5)
  replace lE := off24.le lE np5
  replace op5 : Cel H23 p5 [(.int .i64 (xa)), (.int .i64 (xb)), u17] := op5
  refine ob_i (op5.ldn rfl) ?_
  exact hk u17 _ ou17 nu17  lE

theorem C.laws_szField {xa : Int} {xb : Int} {xc : Value} {sxc : List Int} {k : Int} {H : Hp} {K : Value → Hp → Prop} (hxc0 : Sl eI H xc sxc) (msxc : (sxc).length ≤ 9223372036854775807) (hk0 : 0 ≤ k) (hk1 : k < 9223372036854775808) (h1 : ∀ H', Le H H' → K (.int .i64 (-1)) H')
    (h2 : ∀ H', Le H H' → 0 ≤ k - (sxc).length → K (.int .i64 (k - (sxc).length)) H') : HT prg I.laws_szField [(.agg #[(.int .i64 (xa)), (.int .i64 (xb)), xc]), .int .i64 k].toArray H K := by
  have lE := Le.refl H
  have hxc := hxc0
  refine R.laws_szField ?_
  unfold F.laws_szField
  refine nw_i (fun p1 H2 op1 nn3 le4 => ?_)
  have np1 : Nw H p1 := nn3.le lE
  replace hxc := hxc.le le4
  replace lE := lE.trans le4
  replace op1 : Cel H2 p1 [(.int .i64 (xa)), (.int .i64 (xb)), xc] := op1
  refine ob_i (op1.fa 2) ?_
  refine ob_i (op1.ld 2 rfl) ?_
  refine C.laws_szInt64S hxc.len (by omega) (by omega) (fun hz5 => ?_) (fun hz5 => ?_)
  · skip
    refine ob_i (vInt_lss_t (by omega)) ?_
    refine cnd_t1 ?_
    exact h1 _ lE
  refine ob_i (vInt_lss_f (by omega)) ?_
  refine cnd_f1 ?_
  exact h2 _ lE (by omega)

theorem C.laws_eqField {xa : Int} {xb : Int} {xc : Value} {sxc : List Int} {yc : Value} {H : Hp} {K : Value → Hp → Prop} (hxc0 : Sl eI H xc sxc) (hyc0 : Sl eI H yc sxc) (msxc : (sxc).length ≤ 9223372036854775807)
    (hk : ∀ H', Le H H' → K (.bool true) H') : HT prg I.laws_eqField [(.agg #[(.int .i64 (xa)), (.int .i64 (xb)), xc]), (.agg #[(.int .i64 (xa)), (.int .i64 (xb)), yc])].toArray H K := by
  have lE := Le.refl H
  have hxc := hxc0
  have hyc := hyc0
  refine R.laws_eqField ?_
  unfold F.laws_eqField
  refine nw_i (fun p1 H2 op1 nn3 le4 => ?_)
  have np1 : Nw H p1 := nn3.le lE
  replace hxc := hxc.le le4
  replace hyc := hyc.le le4
  replace lE := lE.trans le4
  replace op1 : Cel H2 p1 [(.int .i64 (xa)), (.int .i64 (xb)), xc] := op1
  refine nw_i (fun p5 H6 op5 nn7 le8 => ?_)
  have ap1Xp5 : Apart p1 p5 := op1.apart nn7
  have np5 : Nw H p5 := nn7.le lE
  replace op1 := op1.le le8
  replace hxc := hxc.le le8
  replace hyc := hyc.le le8
  replace lE := lE.trans le8
  replace op5 : Cel H6 p5 [(.int .i64 (xa)), (.int .i64 (xb)), yc] := op5
  refine ob_i (op1.fa 0) ?_
  refine ob_i (op1.ld 0 rfl) ?_
  refine ob_i (op5.fa 0) ?_
  refine ob_i (op5.ld 0 rfl) ?_
  refine ob_i (vInt_neq_same _ _) ?_
  refine cnd_f1 ?_
  refine ob_i (op1.fa 1) ?_
  refine ob_i (op1.ld 1 rfl) ?_
  refine ob_i (op5.fa 1) ?_
  refine ob_i (op5.ld 1 rfl) ?_
  refine ob_i (vInt_neq_same _ _) ?_
  refine cnd_f1 ?_
  refine ob_i (op1.fa 2) ?_
  refine ob_i (op1.ld 2 rfl) ?_
  refine ob_i (op5.fa 2) ?_
  refine ob_i (op5.ld 2 rfl) ?_
  refine C.laws_eqInt64S hxc hyc (by omega) ?_
  rw [decide_eq_true rfl]
  refine ob_i (a := .bool false) rfl ?_
  refine cnd_f1 ?_
  exact hk _ lE
end Go.Proofs.YtialllbbbpmkbaaDoor
