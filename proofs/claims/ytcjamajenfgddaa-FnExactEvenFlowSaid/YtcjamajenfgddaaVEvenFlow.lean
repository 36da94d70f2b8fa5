/- Laws, each by its two sides: its function returns true, and what was known before stays. -/
import Derived.Test.YtcjamajenfgddaaFV
import Derived.Test.YtcjamajenfgddaaSE
import Derived.Test.YtcjamajenfgddaaFS
import Derived.Test.YtcjamajenfgddaaSR
namespace Go.Proofs.Ytcjamajenfgddaa
open HL
set_option maxRecDepth 100000
theorem L.FnExactEvenFlow {p : Int} {q : Int} {r : Nat} {s : Nat} {t : Nat} {H : Hp} {K : Value → Hp → Prop} (wp0 : -9223372036854775808 ≤ p) (wp1 : p < 9223372036854775808) (wq0 : -9223372036854775808 ≤ q) (wq1 : q < 9223372036854775808)  (hk : ∀ H', Le H H' → K (.bool true) H') :
    HT prg I.laws_FnExactEvenFlow [(.int .i64 (p)), (.int .i64 (q)), (.float .f32 r), (.float .f32 s), (.float .f32 t)].toArray H K := by
  have hR := @evenP_len p q r s t
  have lE := Le.refl H
  refine R.laws_FnExactEvenFlow ?_
  unfold F.laws_FnExactEvenFlow
  refine C.spec_EvenFlow    (fun g3 g5 H1 og3 og5 nn4 nn6 ag3Xg5 le2 => ?_)
  have ng3 : Nw H g3 := nn4.le lE
  have ng5 : Nw H g5 := nn6.le lE
  replace lE := lE.trans le2
  refine ob_i (vExt_20 _ _) ?_
  refine ob_i (vExt_21 _ _) ?_
  refine nw_i (fun p7 H8 op7 nn9 le10 => ?_)
  have ag3Xp7 : Apart g3 p7 := og3.apart nn9
  have ag5Xp7 : Apart g5 p7 := og5.apart nn9
  have np7 : Nw H p7 := nn9.le lE
  replace og3 := og3.le le10
  replace og5 := og5.le le10
  replace lE := lE.trans le10
  replace op7 : Cel H8 p7 [(.int .i64 (0)), (.int .i64 (0)), (.slice none 0 0), (.slice none 0 0)] := op7
  refine op7.stn (ws := [(.int .i64 (selI (evenP p q r s t) (p))), (.int .i64 (selI (evenP p q r s t) (q))), g3, g5]) rfl rfl (oc1 rfl (oc1 rfl (oc1 og3.one (oc1 og5.one oc0)))) (fun H11 op7 off12 => ?_)
  replace og3 := og3.off off12 ag3Xp7
  replace og5 := og5.off off12 ag5Xp7
  replace lE := off12.le lE np7
  replace op7 : Cel H11 p7 [(.int .i64 (selI (evenP p q r s t) (p))), (.int .i64 (selI (evenP p q r s t) (q))), g3, g5] := op7
  refine C.impl_EvenFlow    (fun g15 g17 H13 og15 og17 nn16 nn18 ag15Xg17 le14 => ?_)
  have ag3Xg15 : Apart g3 g15 := og3.apart nn16
  have ag5Xg15 : Apart g5 g15 := og5.apart nn16
  have ap7Xg15 : Apart p7 g15 := op7.apart nn16
  have ng15 : Nw H g15 := nn16.le lE
  have ag3Xg17 : Apart g3 g17 := og3.apart nn18
  have ag5Xg17 : Apart g5 g17 := og5.apart nn18
  have ap7Xg17 : Apart p7 g17 := op7.apart nn18
  have ng17 : Nw H g17 := nn18.le lE
  replace og3 := og3.le le14
  replace og5 := og5.le le14
  replace op7 := op7.le le14
  replace lE := lE.trans le14
  refine ob_i (vExt_20 _ _) ?_
  refine ob_i (vExt_21 _ _) ?_
  refine nw_i (fun p19 H20 op19 nn21 le22 => ?_)
  have ag3Xp19 : Apart g3 p19 := og3.apart nn21
  have ag5Xp19 : Apart g5 p19 := og5.apart nn21
  have ap7Xp19 : Apart p7 p19 := op7.apart nn21
  have ag15Xp19 : Apart g15 p19 := og15.apart nn21
  have ag17Xp19 : Apart g17 p19 := og17.apart nn21
  have np19 : Nw H p19 := nn21.le lE
  replace og3 := og3.le le22
  replace og5 := og5.le le22
  replace op7 := op7.le le22
  replace og15 := og15.le le22
  replace og17 := og17.le le22
  replace lE := lE.trans le22
  replace op19 : Cel H20 p19 [(.int .i64 (0)), (.int .i64 (0)), (.slice none 0 0), (.slice none 0 0)] := op19
  refine op19.stn (ws := [(.int .i64 (selI (evenP p q r s t) (p))), (.int .i64 (selI (evenP p q r s t) (q))), g15, g17]) rfl rfl (oc1 rfl (oc1 rfl (oc1 og15.one (oc1 og17.one oc0)))) (fun H23 op19 off24 => ?_)
  replace og3 := og3.off off24 ag3Xp19
  replace og5 := og5.off off24 ag5Xp19
  replace op7 := op7.off off24 ap7Xp19
  replace og15 := og15.off off24 ag15Xp19
  replace og17 := og17.off off24 ag17Xp19
  replace lE := off24.le lE np19
  replace op19 : Cel H23 p19 [(.int .i64 (selI (evenP p q r s t) (p))), (.int .i64 (selI (evenP p q r s t) (q))), g15, g17] := op19
  refine ob_i (op19.ldn rfl) ?_
  refine ob_i (op7.ldn rfl) ?_
  refine C.laws_eqFlow og15.sl og3.sl og17.sl og5.sl (by omega) (by omega) (fun H25 le26 => ?_)
  replace og3 := og3.le le26
  replace og5 := og5.le le26
  replace op7 := op7.le le26
  replace og15 := og15.le le26
  replace og17 := og17.le le26
  replace op19 := op19.le le26
  replace lE := lE.trans le26
  refine ob_i (a := .bool false) rfl ?_
  refine gop_rf ?_
  refine gop_rf ?_
  refine gop_rf ?_
  refine ob_i (vBool_neq_same _) ?_
  refine ob_i (vPick_f _ _) ?_
  refine cnd_f1 ?_
  refine ob_i (op19.ldn rfl) ?_
  refine R.laws_markFlow ?_
  unfold F.laws_markFlow
  refine nw_i (fun p27 H28 op27 nn29 le30 => ?_)
  have ag3Xp27 : Apart g3 p27 := og3.apart nn29
  have ag5Xp27 : Apart g5 p27 := og5.apart nn29
  have ap7Xp27 : Apart p7 p27 := op7.apart nn29
  have ag15Xp27 : Apart g15 p27 := og15.apart nn29
  have ag17Xp27 : Apart g17 p27 := og17.apart nn29
  have ap19Xp27 : Apart p19 p27 := op19.apart nn29
  have np27 : Nw H p27 := nn29.le lE
  replace og3 := og3.le le30
  replace og5 := og5.le le30
  replace op7 := op7.le le30
  replace og15 := og15.le le30
  replace og17 := og17.le le30
  replace op19 := op19.le le30
  replace lE := lE.trans le30
  replace op27 : Cel H28 p27 [(.int .i64 (selI (evenP p q r s t) (p))), (.int .i64 (selI (evenP p q r s t) (q))), g15, g17] := op27
  refine ob_i (op27.fa 2) ?_
  refine ob_i (op27.ld 2 rfl) ?_
  refine C.laws_markFloat32S og15 (by omega) (by omega) (by omega) (fun H31 og15 off32 => ?_)
  replace og3 := og3.off off32 ag3Xg15
  replace og5 := og5.off off32 ag5Xg15
  replace op7 := op7.off off32 ap7Xg15
  replace og17 := og17.off off32 ag15Xg17.symm
  replace op19 := op19.off off32 ag15Xp19.symm
  replace op27 := op27.off off32 ag15Xp27.symm
  replace lE := off32.le lE ng15
  refine ob_i (op27.fa 3) ?_
  refine ob_i (op27.ld 3 rfl) ?_
  refine C.laws_markBoolS og17 (by omega) (by omega) (by omega) (fun H33 og17 off34 => ?_)
  replace og3 := og3.off off34 ag3Xg17
  replace og5 := og5.off off34 ag5Xg17
  replace op7 := op7.off off34 ap7Xg17
  replace og15 := og15.off off34 ag15Xg17
  replace op19 := op19.off off34 ag17Xp19.symm
  replace op27 := op27.off off34 ag17Xp27.symm
  replace lE := off34.le lE ng17
  refine ob_i (op19.ldn rfl) ?_
  refine R.laws_heldFlow ?_
  unfold F.laws_heldFlow
  refine nw_i (fun p35 H36 op35 nn37 le38 => ?_)
  have ag3Xp35 : Apart g3 p35 := og3.apart nn37
  have ag5Xp35 : Apart g5 p35 := og5.apart nn37
  have ap7Xp35 : Apart p7 p35 := op7.apart nn37
  have ag15Xp35 : Apart g15 p35 := og15.apart nn37
  have ag17Xp35 : Apart g17 p35 := og17.apart nn37
  have ap19Xp35 : Apart p19 p35 := op19.apart nn37
  have ap27Xp35 : Apart p27 p35 := op27.apart nn37
  have np35 : Nw H p35 := nn37.le lE
  replace og3 := og3.le le38
  replace og5 := og5.le le38
  replace op7 := op7.le le38
  replace og15 := og15.le le38
  replace og17 := og17.le le38
  replace op19 := op19.le le38
  replace op27 := op27.le le38
  replace lE := lE.trans le38
  replace op35 : Cel H36 p35 [(.int .i64 (selI (evenP p q r s t) (p))), (.int .i64 (selI (evenP p q r s t) (q))), g15, g17] := op35
  refine ob_i (op35.fa 2) ?_
  refine ob_i (op35.ld 2 rfl) ?_
  refine C.laws_heldFloat32S og15.sl (by omega) (by omega) (by omega) ?_
  refine ob_i (vInt_lss_f (by omega)) ?_
  refine cnd_f1 ?_
  refine ob_i (op35.fa 3) ?_
  refine ob_i (op35.ld 3 rfl) ?_
  refine C.laws_heldBoolS og17.sl (by omega) (by omega) (by omega) ?_
  refine ob_i (vInt_lss_f (by omega)) ?_
  refine cnd_f1 ?_
  refine ob_i (vInt_lss_f (by omega)) ?_
  refine cnd_f1 ?_
  refine ob_i (vInt_neq_same _ _) ?_
  refine cnd_f1 ?_
  refine C.impl_EvenFlow    (fun g41 g43 H39 og41 og43 nn42 nn44 ag41Xg43 le40 => ?_)
  have ag3Xg41 : Apart g3 g41 := og3.apart nn42
  have ag5Xg41 : Apart g5 g41 := og5.apart nn42
  have ap7Xg41 : Apart p7 g41 := op7.apart nn42
  have ag15Xg41 : Apart g15 g41 := og15.apart nn42
  have ag17Xg41 : Apart g17 g41 := og17.apart nn42
  have ap19Xg41 : Apart p19 g41 := op19.apart nn42
  have ap27Xg41 : Apart p27 g41 := op27.apart nn42
  have ap35Xg41 : Apart p35 g41 := op35.apart nn42
  have ng41 : Nw H g41 := nn42.le lE
  have ag3Xg43 : Apart g3 g43 := og3.apart nn44
  have ag5Xg43 : Apart g5 g43 := og5.apart nn44
  have ap7Xg43 : Apart p7 g43 := op7.apart nn44
  have ag15Xg43 : Apart g15 g43 := og15.apart nn44
  have ag17Xg43 : Apart g17 g43 := og17.apart nn44
  have ap19Xg43 : Apart p19 g43 := op19.apart nn44
  have ap27Xg43 : Apart p27 g43 := op27.apart nn44
  have ap35Xg43 : Apart p35 g43 := op35.apart nn44
  have ng43 : Nw H g43 := nn44.le lE
  replace og3 := og3.le le40
  replace og5 := og5.le le40
  replace op7 := op7.le le40
  replace og15 := og15.le le40
  replace og17 := og17.le le40
  replace op19 := op19.le le40
  replace op27 := op27.le le40
  replace op35 := op35.le le40
  replace lE := lE.trans le40
  refine ob_i (vExt_20 _ _) ?_
  refine ob_i (vExt_21 _ _) ?_
  refine nw_i (fun p45 H46 op45 nn47 le48 => ?_)
  have ag3Xp45 : Apart g3 p45 := og3.apart nn47
  have ag5Xp45 : Apart g5 p45 := og5.apart nn47
  have ap7Xp45 : Apart p7 p45 := op7.apart nn47
  have ag15Xp45 : Apart g15 p45 := og15.apart nn47
  have ag17Xp45 : Apart g17 p45 := og17.apart nn47
  have ap19Xp45 : Apart p19 p45 := op19.apart nn47
  have ap27Xp45 : Apart p27 p45 := op27.apart nn47
  have ap35Xp45 : Apart p35 p45 := op35.apart nn47
  have ag41Xp45 : Apart g41 p45 := og41.apart nn47
  have ag43Xp45 : Apart g43 p45 := og43.apart nn47
  have np45 : Nw H p45 := nn47.le lE
  replace og3 := og3.le le48
  replace og5 := og5.le le48
  replace op7 := op7.le le48
  replace og15 := og15.le le48
  replace og17 := og17.le le48
  replace op19 := op19.le le48
  replace op27 := op27.le le48
  replace op35 := op35.le le48
  replace og41 := og41.le le48
  replace og43 := og43.le le48
  replace lE := lE.trans le48
  replace op45 : Cel H46 p45 [(.int .i64 (0)), (.int .i64 (0)), (.slice none 0 0), (.slice none 0 0)] := op45
  refine op45.stn (ws := [(.int .i64 (selI (evenP p q r s t) (p))), (.int .i64 (selI (evenP p q r s t) (q))), g41, g43]) rfl rfl (oc1 rfl (oc1 rfl (oc1 og41.one (oc1 og43.one oc0)))) (fun H49 op45 off50 => ?_)
  replace og3 := og3.off off50 ag3Xp45
  replace og5 := og5.off off50 ag5Xp45
  replace op7 := op7.off off50 ap7Xp45
  replace og15 := og15.off off50 ag15Xp45
  replace og17 := og17.off off50 ag17Xp45
  replace op19 := op19.off off50 ap19Xp45
  replace op27 := op27.off off50 ap27Xp45
  replace op35 := op35.off off50 ap35Xp45
  replace og41 := og41.off off50 ag41Xp45
  replace og43 := og43.off off50 ag43Xp45
  replace lE := off50.le lE np45
  replace op45 : Cel H49 p45 [(.int .i64 (selI (evenP p q r s t) (p))), (.int .i64 (selI (evenP p q r s t) (q))), g41, g43] := op45
  refine ob_i (op45.ldn rfl) ?_
  refine ob_i (op7.ldn rfl) ?_
  refine C.laws_eqFlow og41.sl og3.sl og43.sl og5.sl (by omega) (by omega) (fun H51 le52 => ?_)
  replace og3 := og3.le le52
  replace og5 := og5.le le52
  replace op7 := op7.le le52
  replace og15 := og15.le le52
  replace og17 := og17.le le52
  replace op19 := op19.le le52
  replace op27 := op27.le le52
  replace op35 := op35.le le52
  replace og41 := og41.le le52
  replace og43 := og43.le le52
  replace op45 := op45.le le52
  replace lE := lE.trans le52
  refine ob_i (a := .bool false) rfl ?_
  refine gop_rf ?_
  refine gop_rf ?_
  refine gop_rf ?_
  refine ob_i (vBool_neq_same _) ?_
  refine ob_i (vPick_f _ _) ?_
  refine cnd_f1 ?_
  refine ob_i (op19.ldn rfl) ?_
  refine R.laws_heldFlow ?_
  unfold F.laws_heldFlow
  refine nw_i (fun p53 H54 op53 nn55 le56 => ?_)
  have ag3Xp53 : Apart g3 p53 := og3.apart nn55
  have ag5Xp53 : Apart g5 p53 := og5.apart nn55
  have ap7Xp53 : Apart p7 p53 := op7.apart nn55
  have ag15Xp53 : Apart g15 p53 := og15.apart nn55
  have ag17Xp53 : Apart g17 p53 := og17.apart nn55
  have ap19Xp53 : Apart p19 p53 := op19.apart nn55
  have ap27Xp53 : Apart p27 p53 := op27.apart nn55
  have ap35Xp53 : Apart p35 p53 := op35.apart nn55
  have ag41Xp53 : Apart g41 p53 := og41.apart nn55
  have ag43Xp53 : Apart g43 p53 := og43.apart nn55
  have ap45Xp53 : Apart p45 p53 := op45.apart nn55
  have np53 : Nw H p53 := nn55.le lE
  replace og3 := og3.le le56
  replace og5 := og5.le le56
  replace op7 := op7.le le56
  replace og15 := og15.le le56
  replace og17 := og17.le le56
  replace op19 := op19.le le56
  replace op27 := op27.le le56
  replace op35 := op35.le le56
  replace og41 := og41.le le56
  replace og43 := og43.le le56
  replace op45 := op45.le le56
  replace lE := lE.trans le56
  replace op53 : Cel H54 p53 [(.int .i64 (selI (evenP p q r s t) (p))), (.int .i64 (selI (evenP p q r s t) (q))), g15, g17] := op53
  refine ob_i (op53.fa 2) ?_
  refine ob_i (op53.ld 2 rfl) ?_
  refine C.laws_heldFloat32S og15.sl (by omega) (by omega) (by omega) ?_
  refine ob_i (vInt_lss_f (by omega)) ?_
  refine cnd_f1 ?_
  refine ob_i (op53.fa 3) ?_
  refine ob_i (op53.ld 3 rfl) ?_
  refine C.laws_heldBoolS og17.sl (by omega) (by omega) (by omega) ?_
  refine ob_i (vInt_lss_f (by omega)) ?_
  refine cnd_f1 ?_
  refine ob_i (vInt_lss_f (by omega)) ?_
  refine cnd_f1 ?_
  refine ob_i (vInt_neq_same _ _) ?_
  refine cnd_f1 ?_
  exact hk _ lE
end Go.Proofs.Ytcjamajenfgddaa
