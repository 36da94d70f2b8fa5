/- What the small functions of structs come to: copies, sizes, what is alike. -/
import Derived.Test.YthbffbpdoankjaaSG
namespace Go.Proofs.Ythbffbpdoankjaa
open HL
set_option maxRecDepth 100000
theorem C.laws_toLife {xa : Value} {sxa : List Int} {xb : Value} {sxb : List Int} {H : Hp} {K : Value → Hp → Prop} (hxa0 : Sl eI H xa sxa) (hxb0 : Sl eI H xb sxb) (msxa : (sxa).length ≤ 17592186044416) (msxb : (sxb).length ≤ 17592186044416)
    (hk : ∀ ua ub H', Own eI H' ua sxa → Own eI H' ub sxb → Nw H ua → Nw H ub → Apart ua ub → Le H H' → K (.agg #[ua, ub]) H') : HT prg I.laws_toLife [(.agg #[xa, xb])].toArray H K := by
  have lE := Le.refl H
  have hxa := hxa0
  have hxb := hxb0
  refine R.laws_toLife ?_
  unfold F.laws_toLife
  refine nw_i (fun p1 H2 op1 nn3 le4 => ?_)
  have np1 : Nw H p1 := nn3.le lE
  replace hxa := hxa.le le4
  replace hxb := hxb.le le4
  replace lE := lE.trans le4
  replace op1 : Cel H2 p1 [xa, xb] := op1
  refine nw_i (fun p5 H6 op5 nn7 le8 => ?_)
  have ap1Xp5 : Apart p1 p5 := op1.apart nn7
  have np5 : Nw H p5 := nn7.le lE
  replace op1 := op1.le le8
  replace hxa := hxa.le le8
  replace hxb := hxb.le le8
  replace lE := lE.trans le8
  replace op5 : Cel H6 p5 [(.slice none 0 0), (.slice none 0 0)] := op5
  refine nw_i (fun p9 H10 op9 nn11 le12 => ?_)
  have ap1Xp9 : Apart p1 p9 := op1.apart nn11
  have ap5Xp9 : Apart p5 p9 := op5.apart nn11
  have np9 : Nw H p9 := nn11.le lE
  replace op1 := op1.le le12
  replace op5 := op5.le le12
  replace hxa := hxa.le le12
  replace hxb := hxb.le le12
  replace lE := lE.trans le12
  replace op9 : Cel H10 p9 [(.slice none 0 0), (.slice none 0 0)] := op9
  refine ob_i (op1.fa 0) ?_
  refine ob_i (op1.ld 0 rfl) ?_
  refine C.laws_toInt64S hxa (by omega) (fun u13 H14 ou13 nn15 le16 => ?_)
  have ap1Xu13 : Apart p1 u13 := op1.apart nn15
  have ap5Xu13 : Apart p5 u13 := op5.apart nn15
  have ap9Xu13 : Apart p9 u13 := op9.apart nn15
  have nu13 : Nw H u13 := nn15.le lE
  replace op1 := op1.le le16
  replace op5 := op5.le le16
  replace op9 := op9.le le16
  replace hxa := hxa.le le16
  replace hxb := hxb.le le16
  replace lE := lE.trans le16
  refine ob_i (op9.fa 0) ?_
  refine op9.st (by simp) ou13.one ou13.cells (fun H17 op9 off18 => ?_)
  replace op1 := op1.off off18 ap1Xp9
  replace op5 := op5.off off18 ap5Xp9
  replace ou13 := ou13.off off18 ap9Xu13.symm
  replace hxa := hxa0.le (off18.le lE np9)
  replace hxb := hxb0.le (off18.le lE np9)
  replace lE := off18.le lE np9
  replace op9 : Cel H17 p9 [u13, (.slice none 0 0)] := op9
  refine ob_i (op1.fa 1) ?_
  refine ob_i (op1.ld 1 rfl) ?_
  refine C.laws_toInt64S hxb (by omega) (fun u19 H20 ou19 nn21 le22 => ?_)
  have ap1Xu19 : Apart p1 u19 := op1.apart nn21
  have ap5Xu19 : Apart p5 u19 := op5.apart nn21
  have ap9Xu19 : Apart p9 u19 := op9.apart nn21
  have au13Xu19 : Apart u13 u19 := ou13.apart nn21
  have nu19 : Nw H u19 := nn21.le lE
  replace op1 := op1.le le22
  replace op5 := op5.le le22
  replace op9 := op9.le le22
  replace ou13 := ou13.le le22
  replace hxa := hxa.le le22
  replace hxb := hxb.le le22
  replace lE := lE.trans le22
  refine ob_i (op9.fa 1) ?_
  refine op9.st (by simp) ou19.one ou19.cells (fun H23 op9 off24 => ?_)
  replace op1 := op1.off off24 ap1Xp9
  replace op5 := op5.off off24 ap5Xp9
  replace ou13 := ou13.off off24 ap9Xu13.symm
  replace ou19 := ou19.off off24 ap9Xu19.symm
  replace hxa := hxa0.le (off24.le lE np9)
  replace hxb := hxb0.le (off24.le lE np9)
  replace lE := off24.le lE np9
  replace op9 : Cel H23 p9 [u13, u19] := op9
  refine ob_i (op9.ldn rfl) ?_
  refine op5.stn (ws := [u13, u19]) rfl rfl (oc1 ou13.one (oc1 ou19.one oc0)) (fun H25 op5 off26 => ?_)
  replace op1 := op1.off off26 ap1Xp5
  replace op9 := op9.off off26 ap5Xp9.symm
  replace ou13 := ou13.off off26 ap5Xu13.symm
  replace ou19 := ou19.off off26 ap5Xu19.symm
  replace hxa := hxa0.le (off26.le lE np5)
  replace hxb := hxb0.le (off26.le lE np5)
  replace lE := off26.le lE np5
  replace op5 : Cel H25 p5 [u13, u19] := op5
  refine ob_i (op5.ldn rfl) ?_
  exact hk u13 u19 _ ou13 ou19 nu13 nu19 au13Xu19 lE

theorem C.laws_szLife {xa : Value} {sxa : List Int} {xb : Value} {sxb : List Int} {k : Int} {H : Hp} {K : Value → Hp → Prop} (hxa0 : Sl eI H xa sxa) (hxb0 : Sl eI H xb sxb) (msxa : (sxa).length ≤ 9223372036854775807) (msxb : (sxb).length ≤ 9223372036854775807) (hk0 : 0 ≤ k) (hk1 : k < 9223372036854775808) (h1 : ∀ H', Le H H' → K (.int .i64 (-1)) H')
    (h2 : ∀ H', Le H H' → 0 ≤ k - (sxa).length - (sxb).length → K (.int .i64 (k - (sxa).length - (sxb).length)) H') : HT prg I.laws_szLife [(.agg #[xa, xb]), .int .i64 k].toArray H K := by
  have lE := Le.refl H
  have hxa := hxa0
  have hxb := hxb0
  refine R.laws_szLife ?_
  unfold F.laws_szLife
  refine nw_i (fun p1 H2 op1 nn3 le4 => ?_)
  have np1 : Nw H p1 := nn3.le lE
  replace hxa := hxa.le le4
  replace hxb := hxb.le le4
  replace lE := lE.trans le4
  replace op1 : Cel H2 p1 [xa, xb] := op1
  refine ob_i (op1.fa 0) ?_
  refine ob_i (op1.ld 0 rfl) ?_
  refine C.laws_szInt64S hxa.len (by omega) (by omega) (fun hz5 => ?_) (fun hz5 => ?_)
  · skip
    refine ob_i (vInt_lss_t (by omega)) ?_
    refine cnd_t1 ?_
    exact h1 _ lE
  refine ob_i (vInt_lss_f (by omega)) ?_
  refine cnd_f1 ?_
  refine ob_i (op1.fa 1) ?_
  refine ob_i (op1.ld 1 rfl) ?_
  refine C.laws_szInt64S hxb.len (by omega) (by omega) (fun hz6 => ?_) (fun hz6 => ?_)
  · skip
    refine ob_i (vInt_lss_t (by omega)) ?_
    refine cnd_t1 ?_
    exact h1 _ lE
  refine ob_i (vInt_lss_f (by omega)) ?_
  refine cnd_f1 ?_
  exact h2 _ lE (by omega)

theorem C.laws_eqLife {xa : Value} {sxa : List Int} {xb : Value} {sxb : List Int} {ya : Value} {yb : Value} {H : Hp} {K : Value → Hp → Prop} (hxa0 : Sl eI H xa sxa) (hya0 : Sl eI H ya sxa) (hxb0 : Sl eI H xb sxb) (hyb0 : Sl eI H yb sxb) (msxa : (sxa).length ≤ 9223372036854775807) (msxb : (sxb).length ≤ 9223372036854775807)
    (hk : ∀ H', Le H H' → K (.bool true) H') : HT prg I.laws_eqLife [(.agg #[xa, xb]), (.agg #[ya, yb])].toArray H K := by
  have lE := Le.refl H
  have hxa := hxa0
  have hxb := hxb0
  have hya := hya0
  have hyb := hyb0
  refine R.laws_eqLife ?_
  unfold F.laws_eqLife
  refine nw_i (fun p1 H2 op1 nn3 le4 => ?_)
  have np1 : Nw H p1 := nn3.le lE
  replace hxa := hxa.le le4
  replace hxb := hxb.le le4
  replace hya := hya.le le4
  replace hyb := hyb.le le4
  replace lE := lE.trans le4
  replace op1 : Cel H2 p1 [xa, xb] := op1
  refine nw_i (fun p5 H6 op5 nn7 le8 => ?_)
  have ap1Xp5 : Apart p1 p5 := op1.apart nn7
  have np5 : Nw H p5 := nn7.le lE
  replace op1 := op1.le le8
  replace hxa := hxa.le le8
  replace hxb := hxb.le le8
  replace hya := hya.le le8
  replace hyb := hyb.le le8
  replace lE := lE.trans le8
  replace op5 : Cel H6 p5 [ya, yb] := op5
  refine ob_i (op1.fa 0) ?_
  refine ob_i (op1.ld 0 rfl) ?_
  refine ob_i (op5.fa 0) ?_
  refine ob_i (op5.ld 0 rfl) ?_
  refine C.laws_eqInt64S hxa hya (by omega) ?_
  rw [decide_eq_true rfl]
  refine ob_i (a := .bool false) rfl ?_
  refine cnd_f1 ?_
  refine ob_i (op1.fa 1) ?_
  refine ob_i (op1.ld 1 rfl) ?_
  refine ob_i (op5.fa 1) ?_
  refine ob_i (op5.ld 1 rfl) ?_
  refine C.laws_eqInt64S hxb hyb (by omega) ?_
  rw [decide_eq_true rfl]
  refine ob_i (a := .bool false) rfl ?_
  refine cnd_f1 ?_
  exact hk _ lE
end Go.Proofs.Ythbffbpdoankjaa
