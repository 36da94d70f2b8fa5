/- Copies of structs. -/
import Derived.Test.YtdfoobomlabffaaSQ
import Derived.Test.YtdfoobomlabffaaSR
namespace Go.Proofs.Ytdfoobomlabffaa
open HL
set_option maxRecDepth 100000
--@ C.spec_l06Own needs spec_l06Own
theorem C.spec_l06Own {p : Value} {xa : Int} {xb : Int} {xc : Int} {xd : Value} {sxd : List Int} {xe : Value} {sxe : List Bool} {H : Hp} {K : Value → Hp → Prop} (op : Cel H p [(.int .i64 (xa)), (.int .i64 (xb)), (.int .i64 (xc)), xd, xe]) (hxd0 : Sl eI H xd sxd) (hxe0 : Sl eB H xe sxe) (msxd : (sxd).length ≤ 68719476736) (msxe : (sxe).length ≤ 68719476736) (hk : ∀ ud ue H', Own eI H' ud sxd → Own eB H' ue sxe → Nw H ud → Nw H ue → Apart ud ue → Le H H' → K (.agg #[(.int .i64 (xa)), (.int .i64 (xb)), (.int .i64 (xc)), ud, ue]) H') : HT prg I.spec_l06Own [p].toArray H K := by
  have lE := Le.refl H
  have hxd := hxd0
  have hxe := hxe0
  refine R.spec_l06Own ?_
  unfold F.spec_l06Own
  refine nw_i (fun p1 H2 op1 nn3 le4 => ?_)
  have apXp1 : Apart p p1 := op.apart nn3
  have np1 : Nw H p1 := nn3.le lE
  replace op := op.le le4
  replace hxd := hxd.le le4
  replace hxe := hxe.le le4
  replace lE := lE.trans le4
  replace op1 : Cel H2 p1 [(.int .i64 (0)), (.int .i64 (0)), (.int .i64 (0)), (.slice none 0 0), (.slice none 0 0)] := op1
  refine ob_i (op.nilC) ?_
  refine ob_i (op.fa 0) ?_
  refine ob_i (op.ld 0 rfl) ?_
  refine ob_i (op.nilC) ?_
  refine ob_i (op.fa 1) ?_
  refine ob_i (op.ld 1 rfl) ?_
  refine ob_i (op.nilC) ?_
  refine ob_i (op.fa 2) ?_
  refine ob_i (op.ld 2 rfl) ?_
  refine ob_i (op.nilC) ?_
  refine ob_i (op.fa 3) ?_
  refine ob_i (op.ld 3 rfl) ?_
  refine bS_nil (enc := eI) (fun u5 H6 ou5 nn7 kk8 le9 => ?_)
  have apXu5 : Apart p u5 := op.apart nn7
  have ap1Xu5 : Apart p1 u5 := op1.apart nn7
  have nu5 : Nw H u5 := nn7.le lE
  replace op := op.le le9
  replace op1 := op1.le le9
  replace hxd := hxd.le le9
  replace hxe := hxe.le le9
  replace lE := lE.trans le9
  refine apd_nil ou5 kk8 hxd (fun _ => rfl) (by omega) (by omega) (fun u10 H11 ou10 nn12 le13 => ?_)
  have apXu10 : Apart p u10 := op.apart nn12
  have ap1Xu10 : Apart p1 u10 := op1.apart nn12
  have au5Xu10 : Apart u5 u10 := ou5.apart nn12
  have nu10 : Nw H u10 := nn12.le lE
  replace op := op.le le13
  replace op1 := op1.le le13
  replace ou5 := ou5.le le13
  replace hxd := hxd.le le13
  replace hxe := hxe.le le13
  replace lE := lE.trans le13
  refine ⟨le13, ?_⟩
  refine ob_i (a := (.agg #[(.int .i64 (xa)), (.int .i64 (xb)), (.int .i64 (xc)), u10, (.slice none 0 0)])) (by obtain ⟨_, _, _, rfl⟩ := ou10.isSl; rfl) ?_
  refine nw_i (fun p14 H15 op14 nn16 le17 => ?_)
  have apXp14 : Apart p p14 := op.apart nn16
  have ap1Xp14 : Apart p1 p14 := op1.apart nn16
  have au5Xp14 : Apart u5 p14 := ou5.apart nn16
  have au10Xp14 : Apart u10 p14 := ou10.apart nn16
  have np14 : Nw H p14 := nn16.le lE
  replace op := op.le le17
  replace op1 := op1.le le17
  replace ou5 := ou5.le le17
  replace ou10 := ou10.le le17
  replace hxd := hxd.le le17
  replace hxe := hxe.le le17
  replace lE := lE.trans le17
  replace op14 : Cel H15 p14 [(.int .i64 (0)), (.int .i64 (0)), (.int .i64 (0)), (.slice none 0 0), (.slice none 0 0)] := op14
  refine op14.stn (ws := [(.int .i64 (xa)), (.int .i64 (xb)), (.int .i64 (xc)), u10, (.slice none 0 0)]) rfl rfl (oc1 rfl (oc1 rfl (oc1 rfl (oc1 ou10.one (oc1 rfl oc0))))) (fun H18 op14 off19 => ?_)
  replace op := op.off off19 apXp14
  replace op1 := op1.off off19 ap1Xp14
  replace ou5 := ou5.off off19 au5Xp14
  replace ou10 := ou10.off off19 au10Xp14
  replace hxd := hxd0.le (off19.le lE np14)
  replace hxe := hxe0.le (off19.le lE np14)
  replace lE := off19.le lE np14
  replace op14 : Cel H18 p14 [(.int .i64 (xa)), (.int .i64 (xb)), (.int .i64 (xc)), u10, (.slice none 0 0)] := op14
  refine bS_nil (enc := eB) (fun u20 H21 ou20 nn22 kk23 le24 => ?_)
  have apXu20 : Apart p u20 := op.apart nn22
  have ap1Xu20 : Apart p1 u20 := op1.apart nn22
  have au5Xu20 : Apart u5 u20 := ou5.apart nn22
  have au10Xu20 : Apart u10 u20 := ou10.apart nn22
  have ap14Xu20 : Apart p14 u20 := op14.apart nn22
  have nu20 : Nw H u20 := nn22.le lE
  replace op := op.le le24
  replace op1 := op1.le le24
  replace ou5 := ou5.le le24
  replace ou10 := ou10.le le24
  replace op14 := op14.le le24
  replace hxd := hxd.le le24
  replace hxe := hxe.le le24
  replace lE := lE.trans le24
  refine ob_i (op.nilC) ?_
  refine ob_i (op.fa 4) ?_
  refine ob_i (op.ld 4 rfl) ?_
  refine apd_nil ou20 kk23 hxe (fun _ => rfl) (by omega) (by omega) (fun u25 H26 ou25 nn27 le28 => ?_)
  have apXu25 : Apart p u25 := op.apart nn27
  have ap1Xu25 : Apart p1 u25 := op1.apart nn27
  have au5Xu25 : Apart u5 u25 := ou5.apart nn27
  have au10Xu25 : Apart u10 u25 := ou10.apart nn27
  have ap14Xu25 : Apart p14 u25 := op14.apart nn27
  have au20Xu25 : Apart u20 u25 := ou20.apart nn27
  have nu25 : Nw H u25 := nn27.le lE
  replace op := op.le le28
  replace op1 := op1.le le28
  replace ou5 := ou5.le le28
  replace ou10 := ou10.le le28
  replace op14 := op14.le le28
  replace ou20 := ou20.le le28
  replace hxd := hxd.le le28
  replace hxe := hxe.le le28
  replace lE := lE.trans le28
  refine ob_i (op14.fa 4) ?_
  refine op14.st (by simp) ou25.one ou25.cells (fun H29 op14 off30 => ?_)
  replace op := op.off off30 apXp14
  replace op1 := op1.off off30 ap1Xp14
  replace ou5 := ou5.off off30 au5Xp14
  replace ou10 := ou10.off off30 au10Xp14
  replace ou20 := ou20.off off30 ap14Xu20.symm
  replace ou25 := ou25.off off30 ap14Xu25.symm
  replace hxd := hxd0.le (off30.le lE np14)
  replace hxe := hxe0.le (off30.le lE np14)
  replace lE := off30.le lE np14
  replace op14 : Cel H29 p14 [(.int .i64 (xa)), (.int .i64 (xb)), (.int .i64 (xc)), u10, u25] := op14
  refine ob_i (op14.ldn rfl) ?_
  refine op1.stn (ws := [(.int .i64 (xa)), (.int .i64 (xb)), (.int .i64 (xc)), u10, u25]) rfl rfl (oc1 rfl (oc1 rfl (oc1 rfl (oc1 ou10.one (oc1 ou25.one oc0))))) (fun H31 op1 off32 => ?_)
  replace op := op.off off32 apXp1
  replace ou5 := ou5.off off32 ap1Xu5.symm
  replace ou10 := ou10.off off32 ap1Xu10.symm
  replace op14 := op14.off off32 ap1Xp14.symm
  replace ou20 := ou20.off off32 ap1Xu20.symm
  replace ou25 := ou25.off off32 ap1Xu25.symm
  replace hxd := hxd0.le (off32.le lE np1)
  replace hxe := hxe0.le (off32.le lE np1)
  replace lE := off32.le lE np1
  replace op1 : Cel H31 p1 [(.int .i64 (xa)), (.int .i64 (xb)), (.int .i64 (xc)), u10, u25] := op1
  refine ob_i (op1.ldn rfl) ?_
  exact hk u10 u25 _ ou10 ou25 nu10 nu25 au10Xu25 lE
end Go.Proofs.Ytdfoobomlabffaa
