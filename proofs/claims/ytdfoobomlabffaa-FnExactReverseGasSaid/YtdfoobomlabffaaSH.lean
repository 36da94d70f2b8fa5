/- What the small functions of structs come to: copies, sizes, what is alike. -/
import Derived.Test.YtdfoobomlabffaaSG
namespace Go.Proofs.Ytdfoobomlabffaa
open HL
set_option maxRecDepth 100000
--@ C.laws_toGas needs laws_toGas
theorem C.laws_toGas {xa : Int} {xb : Int} {xc : Int} {xd : Value} {sxd : List Int} {xe : Value} {sxe : List Bool} {H : Hp} {K : Value → Hp → Prop} (hxd0 : Sl eI H xd sxd) (hxe0 : Sl eB H xe sxe) (msxd : (sxd).length ≤ 17592186044416) (msxe : (sxe).length ≤ 17592186044416)
    (hk : ∀ ud ue H', Own eI H' ud sxd → Own eB H' ue sxe → Nw H ud → Nw H ue → Apart ud ue → Le H H' → K (.agg #[(.int .i64 (xa)), (.int .i64 (xb)), (.int .i64 (xc)), ud, ue]) H') : HT prg I.laws_toGas [(.agg #[(.int .i64 (xa)), (.int .i64 (xb)), (.int .i64 (xc)), xd, xe])].toArray H K := by
  have lE := Le.refl H
  have hxd := hxd0
  have hxe := hxe0
  refine R.laws_toGas ?_
  unfold F.laws_toGas
  refine nw_i (fun p1 H2 op1 nn3 le4 => ?_)
  have np1 : Nw H p1 := nn3.le lE
  replace hxd := hxd.le le4
  replace hxe := hxe.le le4
  replace lE := lE.trans le4
  replace op1 : Cel H2 p1 [(.int .i64 (xa)), (.int .i64 (xb)), (.int .i64 (xc)), xd, xe] := op1
  refine nw_i (fun p5 H6 op5 nn7 le8 => ?_)
  have ap1Xp5 : Apart p1 p5 := op1.apart nn7
  have np5 : Nw H p5 := nn7.le lE
  replace op1 := op1.le le8
  replace hxd := hxd.le le8
  replace hxe := hxe.le le8
  replace lE := lE.trans le8
  replace op5 : Cel H6 p5 [(.int .i64 (0)), (.int .i64 (0)), (.int .i64 (0)), (.slice none 0 0), (.slice none 0 0)] := op5
  refine nw_i (fun p9 H10 op9 nn11 le12 => ?_)
  have ap1Xp9 : Apart p1 p9 := op1.apart nn11
  have ap5Xp9 : Apart p5 p9 := op5.apart nn11
  have np9 : Nw H p9 := nn11.le lE
  replace op1 := op1.le le12
  replace op5 := op5.le le12
  replace hxd := hxd.le le12
  replace hxe := hxe.le le12
  replace lE := lE.trans le12
  replace op9 : Cel H10 p9 [(.int .i64 (0)), (.int .i64 (0)), (.int .i64 (0)), (.slice none 0 0), (.slice none 0 0)] := op9
  refine ob_i (op1.fa 0) ?_
  refine ob_i (op1.ld 0 rfl) ?_
  refine ob_i (op9.fa 0) ?_
  refine op9.st (by simp) rfl rfl (fun H13 op9 off14 => ?_)
  replace op1 := op1.off off14 ap1Xp9
  replace op5 := op5.off off14 ap5Xp9
  replace hxd := hxd0.le (off14.le lE np9)
  replace hxe := hxe0.le (off14.le lE np9)
  replace lE := off14.le lE np9
  replace op9 : Cel H13 p9 [(.int .i64 (xa)), (.int .i64 (0)), (.int .i64 (0)), (.slice none 0 0), (.slice none 0 0)] := op9
  refine ob_i (op1.fa 1) ?_
  refine ob_i (op1.ld 1 rfl) ?_
  refine ob_i (op9.fa 1) ?_
  refine op9.st (by simp) rfl rfl (fun H15 op9 off16 => ?_)
  replace op1 := op1.off off16 ap1Xp9
  replace op5 := op5.off off16 ap5Xp9
  replace hxd := hxd0.le (off16.le lE np9)
  replace hxe := hxe0.le (off16.le lE np9)
  replace lE := off16.le lE np9
  replace op9 : Cel H15 p9 [(.int .i64 (xa)), (.int .i64 (xb)), (.int .i64 (0)), (.slice none 0 0), (.slice none 0 0)] := op9
  refine ob_i (op1.fa 2) ?_
  refine ob_i (op1.ld 2 rfl) ?_
  refine ob_i (op9.fa 2) ?_
  refine op9.st (by simp) rfl rfl (fun H17 op9 off18 => ?_)
  replace op1 := op1.off off18 ap1Xp9
  replace op5 := op5.off off18 ap5Xp9
  replace hxd := hxd0.le (off18.le lE np9)
  replace hxe := hxe0.le (off18.le lE np9)
  replace lE := off18.le lE np9
  replace op9 : Cel H17 p9 [(.int .i64 (xa)), (.int .i64 (xb)), (.int .i64 (xc)), (.slice none 0 0), (.slice none 0 0)] := op9
  refine ob_i (op1.fa 3) ?_
  refine ob_i (op1.ld 3 rfl) ?_
  refine C.laws_toInt64S hxd (by omega) (fun u19 H20 ou19 nn21 le22 => ?_)
  have ap1Xu19 : Apart p1 u19 := op1.apart nn21
  have ap5Xu19 : Apart p5 u19 := op5.apart nn21
  have ap9Xu19 : Apart p9 u19 := op9.apart nn21
  have nu19 : Nw H u19 := nn21.le lE
  replace op1 := op1.le le22
  replace op5 := op5.le le22
  replace op9 := op9.le le22
  replace hxd := hxd.le le22
  replace hxe := hxe.le le22
  replace lE := lE.trans le22
  refine ob_i (op9.fa 3) ?_
  refine op9.st (by simp) ou19.one ou19.cells (fun H23 op9 off24 => ?_)
  replace op1 := op1.off off24 ap1Xp9
  replace op5 := op5.off off24 ap5Xp9
  replace ou19 := ou19.off off24 ap9Xu19.symm
  replace hxd := hxd0.le (off24.le lE np9)
  replace hxe := hxe0.le (off24.le lE np9)
  replace lE := off24.le lE np9
  replace op9 : Cel H23 p9 [(.int .i64 (xa)), (.int .i64 (xb)), (.int .i64 (xc)), u19, (.slice none 0 0)] := op9
  refine ob_i (op1.fa 4) ?_
  refine ob_i (op1.ld 4 rfl) ?_
  refine C.laws_toBoolS hxe (by omega) (fun u25 H26 ou25 nn27 le28 => ?_)
  have ap1Xu25 : Apart p1 u25 := op1.apart nn27
  have ap5Xu25 : Apart p5 u25 := op5.apart nn27
  have ap9Xu25 : Apart p9 u25 := op9.apart nn27
  have au19Xu25 : Apart u19 u25 := ou19.apart nn27
  have nu25 : Nw H u25 := nn27.le lE
  replace op1 := op1.le le28
  replace op5 := op5.le le28
  replace op9 := op9.le le28
  replace ou19 := ou19.le le28
  replace hxd := hxd.le le28
  replace hxe := hxe.le le28
  replace lE := lE.trans le28
  refine ob_i (op9.fa 4) ?_
  refine op9.st (by simp) ou25.one ou25.cells (fun H29 op9 off30 => ?_)
  replace op1 := op1.off off30 ap1Xp9
  replace op5 := op5.off off30 ap5Xp9
  replace ou19 := ou19.off off30 ap9Xu19.symm
  replace ou25 := ou25.off off30 ap9Xu25.symm
  replace hxd := hxd0.le (off30.le lE np9)
  replace hxe := hxe0.le (off30.le lE np9)
  replace lE := off30.le lE np9
  replace op9 : Cel H29 p9 [(.int .i64 (xa)), (.int .i64 (xb)), (.int .i64 (xc)), u19, u25] := op9
  refine ob_i (op9.ldn rfl) ?_
  refine op5.stn (ws := [(.int .i64 (xa)), (.int .i64 (xb)), (.int .i64 (xc)), u19, u25]) rfl rfl (oc1 rfl (oc1 rfl (oc1 rfl (oc1 ou19.one (oc1 ou25.one oc0))))) (fun H31 op5 off32 => ?_)
  replace op1 := op1.off off32 ap1Xp5
  replace op9 := op9.off off32 ap5Xp9.symm
  replace ou19 := ou19.off off32 ap5Xu19.symm
  replace ou25 := ou25.off off32 ap5Xu25.symm
  replace hxd := hxd0.le (off32.le lE np5)
  replace hxe := hxe0.le (off32.le lE np5)
  replace lE := off32.le lE np5
  replace op5 : Cel H31 p5 [(.int .i64 (xa)), (.int .i64 (xb)), (.int .i64 (xc)), u19, u25] := op5
  refine ob_i (op5.ldn rfl) ?_
  exact hk u19 u25 _ ou19 ou25 nu19 nu25 au19Xu25 lE

--@ C.laws_szGas needs laws_szGas
theorem C.laws_szGas {xa : Int} {xb : Int} {xc : Int} {xd : Value} {sxd : List Int} {xe : Value} {sxe : List Bool} {k : Int} {H : Hp} {K : Value → Hp → Prop} (hxd0 : Sl eI H xd sxd) (hxe0 : Sl eB H xe sxe) (msxd : (sxd).length ≤ 9223372036854775807) (msxe : (sxe).length ≤ 9223372036854775807) (hk0 : 0 ≤ k) (hk1 : k < 9223372036854775808) (h1 : ∀ H', Le H H' → K (.int .i64 (-1)) H')
    (h2 : ∀ H', Le H H' → 0 ≤ k - (sxd).length - (sxe).length → K (.int .i64 (k - (sxd).length - (sxe).length)) H') : HT prg I.laws_szGas [(.agg #[(.int .i64 (xa)), (.int .i64 (xb)), (.int .i64 (xc)), xd, xe]), .int .i64 k].toArray H K := by
  have lE := Le.refl H
  have hxd := hxd0
  have hxe := hxe0
  refine R.laws_szGas ?_
  unfold F.laws_szGas
  refine nw_i (fun p1 H2 op1 nn3 le4 => ?_)
  have np1 : Nw H p1 := nn3.le lE
  replace hxd := hxd.le le4
  replace hxe := hxe.le le4
  replace lE := lE.trans le4
  replace op1 : Cel H2 p1 [(.int .i64 (xa)), (.int .i64 (xb)), (.int .i64 (xc)), xd, xe] := op1
  refine ob_i (op1.fa 3) ?_
  refine ob_i (op1.ld 3 rfl) ?_
  refine C.laws_szInt64S hxd.len (by omega) (by omega) (fun hz5 => ?_) (fun hz5 => ?_)
  · skip
    refine ob_i (vInt_lss_t (by omega)) ?_
    refine cnd_t1 ?_
    exact h1 _ lE
  refine ob_i (vInt_lss_f (by omega)) ?_
  refine cnd_f1 ?_
  refine ob_i (op1.fa 4) ?_
  refine ob_i (op1.ld 4 rfl) ?_
  refine C.laws_szBoolS hxe.len (by omega) (by omega) (fun hz6 => ?_) (fun hz6 => ?_)
  · skip
    refine ob_i (vInt_lss_t (by omega)) ?_
    refine cnd_t1 ?_
    exact h1 _ lE
  refine ob_i (vInt_lss_f (by omega)) ?_
  refine cnd_f1 ?_
  exact h2 _ lE (by omega)

--@ C.laws_eqGas needs laws_eqGas
theorem C.laws_eqGas {xa : Int} {xb : Int} {xc : Int} {xd : Value} {sxd : List Int} {xe : Value} {sxe : List Bool} {yd : Value} {ye : Value} {H : Hp} {K : Value → Hp → Prop} (hxd0 : Sl eI H xd sxd) (hyd0 : Sl eI H yd sxd) (hxe0 : Sl eB H xe sxe) (hye0 : Sl eB H ye sxe) (msxd : (sxd).length ≤ 9223372036854775807) (msxe : (sxe).length ≤ 9223372036854775807)
    (hk : ∀ H', Le H H' → K (.bool true) H') : HT prg I.laws_eqGas [(.agg #[(.int .i64 (xa)), (.int .i64 (xb)), (.int .i64 (xc)), xd, xe]), (.agg #[(.int .i64 (xa)), (.int .i64 (xb)), (.int .i64 (xc)), yd, ye])].toArray H K := by
  have lE := Le.refl H
  have hxd := hxd0
  have hxe := hxe0
  have hyd := hyd0
  have hye := hye0
  refine R.laws_eqGas ?_
  unfold F.laws_eqGas
  refine nw_i (fun p1 H2 op1 nn3 le4 => ?_)
  have np1 : Nw H p1 := nn3.le lE
  replace hxd := hxd.le le4
  replace hxe := hxe.le le4
  replace hyd := hyd.le le4
  replace hye := hye.le le4
  replace lE := lE.trans le4
  replace op1 : Cel H2 p1 [(.int .i64 (xa)), (.int .i64 (xb)), (.int .i64 (xc)), xd, xe] := op1
  refine nw_i (fun p5 H6 op5 nn7 le8 => ?_)
  have ap1Xp5 : Apart p1 p5 := op1.apart nn7
  have np5 : Nw H p5 := nn7.le lE
  replace op1 := op1.le le8
  replace hxd := hxd.le le8
  replace hxe := hxe.le le8
  replace hyd := hyd.le le8
  replace hye := hye.le le8
  replace lE := lE.trans le8
  replace op5 : Cel H6 p5 [(.int .i64 (xa)), (.int .i64 (xb)), (.int .i64 (xc)), yd, ye] := op5
  refine ob_i (op1.fa 0) ?_
  refine ob_i (op1.ld 0 rfl) ?_
  refine ob_i (op5.fa 0) ?_
  refine ob_i (op5.ld 0 rfl) ?_
  refine ob_i (vInt_neq_same _ _) ?_
  refine cnd_f1 ?_
  refine ob_i (op1.fa 1) ?_
  refine ob_i (op1.ld 1 rfl) ?_
  refine ob_i (op5.fa 1) ?_
  refine ob_i (op5.ld 1 rfl) ?_
  refine ob_i (vInt_neq_same _ _) ?_
  refine cnd_f1 ?_
  refine ob_i (op1.fa 2) ?_
  refine ob_i (op1.ld 2 rfl) ?_
  refine ob_i (op5.fa 2) ?_
  refine ob_i (op5.ld 2 rfl) ?_
  refine ob_i (vInt_neq_same _ _) ?_
  refine cnd_f1 ?_
  refine ob_i (op1.fa 3) ?_
  refine ob_i (op1.ld 3 rfl) ?_
  refine ob_i (op5.fa 3) ?_
  refine ob_i (op5.ld 3 rfl) ?_
  refine C.laws_eqInt64S hxd hyd (by omega) ?_
  rw [decide_eq_true rfl]
  refine ob_i (a := .bool false) rfl ?_
  refine cnd_f1 ?_
  refine ob_i (op1.fa 4) ?_
  refine ob_i (op1.ld 4 rfl) ?_
  refine ob_i (op5.fa 4) ?_
  refine ob_i (op5.ld 4 rfl) ?_
  refine C.laws_eqBoolS hxe hye (by omega) ?_
  rw [decide_eq_true rfl]
  refine ob_i (a := .bool false) rfl ?_
  refine cnd_f1 ?_
  exact hk _ lE
end Go.Proofs.Ytdfoobomlabffaa
