/- The laws of lanes, whole: each returns true, and what was known before stays. -/
import Derived.Test.YtdfoobomlabffaaSE
namespace Go.Proofs.Ytdfoobomlabffaa
open HL
set_option maxRecDepth 100000
--@ L.FnExactSwitchLanes needs laws_FnExactSwitchLanes
theorem L.FnExactSwitchLanes {a : Value} {sa : List Int} {b : Value} {sb : List Int} {H : Hp} {K : Value → Hp → Prop} (ha0 : Sl eI H a sa) (hla : sa.length ≤ 9223372036854775807) (hb0 : Sl eI H b sb) (hlb : sb.length ≤ 9223372036854775807) (hk : ∀ H', Le H H' → K (.bool true) H') :
    HT prg I.laws_FnExactSwitchLanes [a, b].toArray H K := by
  refine R.laws_FnExactSwitchLanes ?_
  unfold F.laws_FnExactSwitchLanes
  have lE := Le.refl H
  have ha := ha0
  have hb := hb0
  rw [ha.len, ob_some, vInt_gtr, ob_some]
  refine cnd_d (fun _ => hk H lE) (fun hsa => ?_)
  have hLa : sa.length ≤ 1048576 := by omega
  clear hsa
  rw [hb.len, ob_some, vInt_gtr, ob_some]
  refine cnd_d (fun _ => hk H lE) (fun hsb => ?_)
  have hLb : sb.length ≤ 1048576 := by omega
  clear hsb
  have hR0 : (sw1 sa sb).length ≤ 1048576 := by exact swOneLen hLa
  have hR1 : (sw2 sa sb).length ≤ 1048576 := by exact swTwoLen hLb
  refine C.laws_toInt64S ha (by omega) (fun ca H1 oca nn3 le2 => ?_)
  have nca : Nw H ca := nn3.le lE
  replace ha := ha.le le2
  replace hb := hb.le le2
  replace lE := lE.trans le2
  refine C.laws_toInt64S hb (by omega) (fun cb H4 ocb nn6 le5 => ?_)
  have acaXcb : Apart ca cb := oca.apart nn6
  have ncb : Nw H cb := nn6.le lE
  replace oca := oca.le le5
  replace ha := ha.le le5
  replace hb := hb.le le5
  replace lE := lE.trans le5
  refine C.spec_SwitchLanes oca.sl ocb.sl (by omega) (by omega) (fun w0 w1 H7 ow0 ow1 nn9 nn10 aw0Xw1 le8 => ?_)
  have acaXw0 : Apart ca w0 := oca.apart nn9
  have acbXw0 : Apart cb w0 := ocb.apart nn9
  have nw0 : Nw H w0 := nn9.le lE
  have acaXw1 : Apart ca w1 := oca.apart nn10
  have acbXw1 : Apart cb w1 := ocb.apart nn10
  have nw1 : Nw H w1 := nn10.le lE
  replace oca := oca.le le8
  replace ocb := ocb.le le8
  replace ha := ha.le le8
  replace hb := hb.le le8
  replace lE := lE.trans le8
  try simp only [EV]
  refine C.laws_toInt64S ha (by omega) (fun xa H11 oxa nn13 le12 => ?_)
  have acaXxa : Apart ca xa := oca.apart nn13
  have acbXxa : Apart cb xa := ocb.apart nn13
  have aw0Xxa : Apart w0 xa := ow0.apart nn13
  have aw1Xxa : Apart w1 xa := ow1.apart nn13
  have nxa : Nw H xa := nn13.le lE
  replace oca := oca.le le12
  replace ocb := ocb.le le12
  replace ow0 := ow0.le le12
  replace ow1 := ow1.le le12
  replace ha := ha.le le12
  replace hb := hb.le le12
  replace lE := lE.trans le12
  refine C.laws_toInt64S hb (by omega) (fun xb H14 oxb nn16 le15 => ?_)
  have acaXxb : Apart ca xb := oca.apart nn16
  have acbXxb : Apart cb xb := ocb.apart nn16
  have aw0Xxb : Apart w0 xb := ow0.apart nn16
  have aw1Xxb : Apart w1 xb := ow1.apart nn16
  have axaXxb : Apart xa xb := oxa.apart nn16
  have nxb : Nw H xb := nn16.le lE
  replace oca := oca.le le15
  replace ocb := ocb.le le15
  replace ow0 := ow0.le le15
  replace ow1 := ow1.le le15
  replace oxa := oxa.le le15
  replace ha := ha.le le15
  replace hb := hb.le le15
  replace lE := lE.trans le15
  refine C.impl_SwitchLanes oxa.sl oxb.sl (by omega) (by omega) (fun g0 g1 H17 og0 og1 nn19 nn20 ag0Xg1 le18 => ?_)
  have acaXg0 : Apart ca g0 := oca.apart nn19
  have acbXg0 : Apart cb g0 := ocb.apart nn19
  have aw0Xg0 : Apart w0 g0 := ow0.apart nn19
  have aw1Xg0 : Apart w1 g0 := ow1.apart nn19
  have axaXg0 : Apart xa g0 := oxa.apart nn19
  have axbXg0 : Apart xb g0 := oxb.apart nn19
  have ng0 : Nw H g0 := nn19.le lE
  have acaXg1 : Apart ca g1 := oca.apart nn20
  have acbXg1 : Apart cb g1 := ocb.apart nn20
  have aw0Xg1 : Apart w0 g1 := ow0.apart nn20
  have aw1Xg1 : Apart w1 g1 := ow1.apart nn20
  have axaXg1 : Apart xa g1 := oxa.apart nn20
  have axbXg1 : Apart xb g1 := oxb.apart nn20
  have ng1 : Nw H g1 := nn20.le lE
  replace oca := oca.le le18
  replace ocb := ocb.le le18
  replace ow0 := ow0.le le18
  replace ow1 := ow1.le le18
  replace oxa := oxa.le le18
  replace oxb := oxb.le le18
  replace ha := ha.le le18
  replace hb := hb.le le18
  replace lE := lE.trans le18
  try simp only [EV]
  refine C.laws_eqInt64S og0.sl ow0.sl (by omega) ?_
  rw [decide_eq_true rfl]
  try simp only [EV]
  refine C.laws_eqInt64S og1.sl ow1.sl (by omega) ?_
  rw [decide_eq_true rfl]
  try simp only [EV]
  refine C.laws_toInt64S ha (by omega) (fun ya H21 oya nn23 le22 => ?_)
  have acaXya : Apart ca ya := oca.apart nn23
  have acbXya : Apart cb ya := ocb.apart nn23
  have aw0Xya : Apart w0 ya := ow0.apart nn23
  have aw1Xya : Apart w1 ya := ow1.apart nn23
  have axaXya : Apart xa ya := oxa.apart nn23
  have axbXya : Apart xb ya := oxb.apart nn23
  have ag0Xya : Apart g0 ya := og0.apart nn23
  have ag1Xya : Apart g1 ya := og1.apart nn23
  have nya : Nw H ya := nn23.le lE
  replace oca := oca.le le22
  replace ocb := ocb.le le22
  replace ow0 := ow0.le le22
  replace ow1 := ow1.le le22
  replace oxa := oxa.le le22
  replace oxb := oxb.le le22
  replace og0 := og0.le le22
  replace og1 := og1.le le22
  replace ha := ha.le le22
  replace hb := hb.le le22
  replace lE := lE.trans le22
  refine C.laws_eqInt64S oxa.sl oya.sl (by omega) ?_
  rw [decide_eq_true rfl]
  try simp only [EV]
  refine C.laws_toInt64S hb (by omega) (fun yb H24 oyb nn26 le25 => ?_)
  have acaXyb : Apart ca yb := oca.apart nn26
  have acbXyb : Apart cb yb := ocb.apart nn26
  have aw0Xyb : Apart w0 yb := ow0.apart nn26
  have aw1Xyb : Apart w1 yb := ow1.apart nn26
  have axaXyb : Apart xa yb := oxa.apart nn26
  have axbXyb : Apart xb yb := oxb.apart nn26
  have ag0Xyb : Apart g0 yb := og0.apart nn26
  have ag1Xyb : Apart g1 yb := og1.apart nn26
  have ayaXyb : Apart ya yb := oya.apart nn26
  have nyb : Nw H yb := nn26.le lE
  replace oca := oca.le le25
  replace ocb := ocb.le le25
  replace ow0 := ow0.le le25
  replace ow1 := ow1.le le25
  replace oxa := oxa.le le25
  replace oxb := oxb.le le25
  replace og0 := og0.le le25
  replace og1 := og1.le le25
  replace oya := oya.le le25
  replace ha := ha.le le25
  replace hb := hb.le le25
  replace lE := lE.trans le25
  refine C.laws_eqInt64S oxb.sl oyb.sl (by omega) ?_
  rw [decide_eq_true rfl]
  try simp only [EV]
  refine C.laws_markInt64S (k := 1) oxa (by omega) (by omega) (by omega) (fun H27 oxa off28 => ?_)
  replace oca := oca.off off28 acaXxa
  replace ocb := ocb.off off28 acbXxa
  replace ow0 := ow0.off off28 aw0Xxa
  replace ow1 := ow1.off off28 aw1Xxa
  replace oxb := oxb.off off28 axaXxb.symm
  replace og0 := og0.off off28 axaXg0.symm
  replace og1 := og1.off off28 axaXg1.symm
  replace oya := oya.off off28 axaXya.symm
  replace oyb := oyb.off off28 axaXyb.symm
  replace ha := ha0.le (off28.le lE nxa)
  replace hb := hb0.le (off28.le lE nxa)
  replace lE := off28.le lE nxa
  refine C.laws_markInt64S (k := 1 + (sa.length : Int)) oxb (by omega) (by omega) (by omega) (fun H29 oxb off30 => ?_)
  replace oca := oca.off off30 acaXxb
  replace ocb := ocb.off off30 acbXxb
  replace ow0 := ow0.off off30 aw0Xxb
  replace ow1 := ow1.off off30 aw1Xxb
  replace oxa := oxa.off off30 axaXxb
  replace og0 := og0.off off30 axbXg0.symm
  replace og1 := og1.off off30 axbXg1.symm
  replace oya := oya.off off30 axbXya.symm
  replace oyb := oyb.off off30 axbXyb.symm
  replace ha := ha0.le (off30.le lE nxb)
  replace hb := hb0.le (off30.le lE nxb)
  replace lE := off30.le lE nxb
  rw [vInt_lss, ob_some, decide_eq_false (by omega)]
  try simp only [EV]
  refine C.laws_eqInt64S og0.sl ow0.sl (by omega) ?_
  rw [decide_eq_true rfl]
  try simp only [EV]
  refine C.laws_eqInt64S og1.sl ow1.sl (by omega) ?_
  rw [decide_eq_true rfl]
  try simp only [EV]
  refine C.laws_markInt64S (k := 1) og0 (by omega) (by omega) (by omega) (fun H31 og0 off32 => ?_)
  replace oca := oca.off off32 acaXg0
  replace ocb := ocb.off off32 acbXg0
  replace ow0 := ow0.off off32 aw0Xg0
  replace ow1 := ow1.off off32 aw1Xg0
  replace oxa := oxa.off off32 axaXg0
  replace oxb := oxb.off off32 axbXg0
  replace og1 := og1.off off32 ag0Xg1.symm
  replace oya := oya.off off32 ag0Xya.symm
  replace oyb := oyb.off off32 ag0Xyb.symm
  replace ha := ha0.le (off32.le lE ng0)
  replace hb := hb0.le (off32.le lE ng0)
  replace lE := off32.le lE ng0
  refine C.laws_markInt64S (k := 1 + ((sw1 sa sb).length : Int)) og1 (by omega) (by omega) (by omega) (fun H33 og1 off34 => ?_)
  replace oca := oca.off off34 acaXg1
  replace ocb := ocb.off off34 acbXg1
  replace ow0 := ow0.off off34 aw0Xg1
  replace ow1 := ow1.off off34 aw1Xg1
  replace oxa := oxa.off off34 axaXg1
  replace oxb := oxb.off off34 axbXg1
  replace og0 := og0.off off34 ag0Xg1
  replace oya := oya.off off34 ag1Xya.symm
  replace oyb := oyb.off off34 ag1Xyb.symm
  replace ha := ha0.le (off34.le lE ng1)
  replace hb := hb0.le (off34.le lE ng1)
  replace lE := off34.le lE ng1
  refine C.laws_heldInt64S (k := 1) og0.sl (by omega) (by omega) (by omega) ?_
  rw [vInt_lss, ob_some, decide_eq_false (by omega)]
  try simp only [EV]
  refine C.laws_heldInt64S (k := 1 + ((sw1 sa sb).length : Int)) og1.sl (by omega) (by omega) (by omega) ?_
  rw [vInt_lss, ob_some, decide_eq_false (by omega)]
  try simp only [EV]
  refine C.laws_toInt64S ha (by omega) (fun za H35 oza nn37 le36 => ?_)
  have acaXza : Apart ca za := oca.apart nn37
  have acbXza : Apart cb za := ocb.apart nn37
  have aw0Xza : Apart w0 za := ow0.apart nn37
  have aw1Xza : Apart w1 za := ow1.apart nn37
  have axaXza : Apart xa za := oxa.apart nn37
  have axbXza : Apart xb za := oxb.apart nn37
  have ag0Xza : Apart g0 za := og0.apart nn37
  have ag1Xza : Apart g1 za := og1.apart nn37
  have ayaXza : Apart ya za := oya.apart nn37
  have aybXza : Apart yb za := oyb.apart nn37
  have nza : Nw H za := nn37.le lE
  replace oca := oca.le le36
  replace ocb := ocb.le le36
  replace ow0 := ow0.le le36
  replace ow1 := ow1.le le36
  replace oxa := oxa.le le36
  replace oxb := oxb.le le36
  replace og0 := og0.le le36
  replace og1 := og1.le le36
  replace oya := oya.le le36
  replace oyb := oyb.le le36
  replace ha := ha.le le36
  replace hb := hb.le le36
  replace lE := lE.trans le36
  refine C.laws_toInt64S hb (by omega) (fun zb H38 ozb nn40 le39 => ?_)
  have acaXzb : Apart ca zb := oca.apart nn40
  have acbXzb : Apart cb zb := ocb.apart nn40
  have aw0Xzb : Apart w0 zb := ow0.apart nn40
  have aw1Xzb : Apart w1 zb := ow1.apart nn40
  have axaXzb : Apart xa zb := oxa.apart nn40
  have axbXzb : Apart xb zb := oxb.apart nn40
  have ag0Xzb : Apart g0 zb := og0.apart nn40
  have ag1Xzb : Apart g1 zb := og1.apart nn40
  have ayaXzb : Apart ya zb := oya.apart nn40
  have aybXzb : Apart yb zb := oyb.apart nn40
  have azaXzb : Apart za zb := oza.apart nn40
  have nzb : Nw H zb := nn40.le lE
  replace oca := oca.le le39
  replace ocb := ocb.le le39
  replace ow0 := ow0.le le39
  replace ow1 := ow1.le le39
  replace oxa := oxa.le le39
  replace oxb := oxb.le le39
  replace og0 := og0.le le39
  replace og1 := og1.le le39
  replace oya := oya.le le39
  replace oyb := oyb.le le39
  replace oza := oza.le le39
  replace ha := ha.le le39
  replace hb := hb.le le39
  replace lE := lE.trans le39
  refine C.impl_SwitchLanes oza.sl ozb.sl (by omega) (by omega) (fun h0 h1 H41 oh0 oh1 nn43 nn44 ah0Xh1 le42 => ?_)
  have acaXh0 : Apart ca h0 := oca.apart nn43
  have acbXh0 : Apart cb h0 := ocb.apart nn43
  have aw0Xh0 : Apart w0 h0 := ow0.apart nn43
  have aw1Xh0 : Apart w1 h0 := ow1.apart nn43
  have axaXh0 : Apart xa h0 := oxa.apart nn43
  have axbXh0 : Apart xb h0 := oxb.apart nn43
  have ag0Xh0 : Apart g0 h0 := og0.apart nn43
  have ag1Xh0 : Apart g1 h0 := og1.apart nn43
  have ayaXh0 : Apart ya h0 := oya.apart nn43
  have aybXh0 : Apart yb h0 := oyb.apart nn43
  have azaXh0 : Apart za h0 := oza.apart nn43
  have azbXh0 : Apart zb h0 := ozb.apart nn43
  have nh0 : Nw H h0 := nn43.le lE
  have acaXh1 : Apart ca h1 := oca.apart nn44
  have acbXh1 : Apart cb h1 := ocb.apart nn44
  have aw0Xh1 : Apart w0 h1 := ow0.apart nn44
  have aw1Xh1 : Apart w1 h1 := ow1.apart nn44
  have axaXh1 : Apart xa h1 := oxa.apart nn44
  have axbXh1 : Apart xb h1 := oxb.apart nn44
  have ag0Xh1 : Apart g0 h1 := og0.apart nn44
  have ag1Xh1 : Apart g1 h1 := og1.apart nn44
  have ayaXh1 : Apart ya h1 := oya.apart nn44
  have aybXh1 : Apart yb h1 := oyb.apart nn44
  have azaXh1 : Apart za h1 := oza.apart nn44
  have azbXh1 : Apart zb h1 := ozb.apart nn44
  have nh1 : Nw H h1 := nn44.le lE
  replace oca := oca.le le42
  replace ocb := ocb.le le42
  replace ow0 := ow0.le le42
  replace ow1 := ow1.le le42
  replace oxa := oxa.le le42
  replace oxb := oxb.le le42
  replace og0 := og0.le le42
  replace og1 := og1.le le42
  replace oya := oya.le le42
  replace oyb := oyb.le le42
  replace oza := oza.le le42
  replace ozb := ozb.le le42
  replace ha := ha.le le42
  replace hb := hb.le le42
  replace lE := lE.trans le42
  try simp only [EV]
  refine C.laws_eqInt64S oh0.sl ow0.sl (by omega) ?_
  rw [decide_eq_true rfl]
  try simp only [EV]
  refine C.laws_eqInt64S oh1.sl ow1.sl (by omega) ?_
  rw [decide_eq_true rfl]
  try simp only [EV]
  refine C.laws_heldInt64S (k := 1) og0.sl (by omega) (by omega) (by omega) ?_
  rw [vInt_lss, ob_some, decide_eq_false (by omega)]
  try simp only [EV]
  refine C.laws_heldInt64S (k := 1 + ((sw1 sa sb).length : Int)) og1.sl (by omega) (by omega) (by omega) ?_
  rw [vInt_lss, ob_some, decide_eq_false (by omega)]
  try simp only [EV]
  exact hk _ lE

--@ L.FnExactIsLane needs laws_FnExactIsLane
theorem L.FnExactIsLane {a : Value} {sa : List Int} {H : Hp} {K : Value → Hp → Prop} (ha0 : Sl eI H a sa) (hla : sa.length ≤ 9223372036854775807) (hk : ∀ H', Le H H' → K (.bool true) H') :
    HT prg I.laws_FnExactIsLane [a].toArray H K := by
  refine R.laws_FnExactIsLane ?_
  unfold F.laws_FnExactIsLane
  have lE := Le.refl H
  have ha := ha0
  rw [ha.len, ob_some, vInt_gtr, ob_some]
  refine cnd_d (fun _ => hk H lE) (fun hsa => ?_)
  have hLa : sa.length ≤ 1048576 := by omega
  clear hsa
  refine C.laws_toInt64S ha (by omega) (fun ca H1 oca nn3 le2 => ?_)
  have nca : Nw H ca := nn3.le lE
  replace ha := ha.le le2
  replace lE := lE.trans le2
  refine C.spec_IsLane oca.sl (by omega) ?_
  try simp only [EV]
  refine C.laws_toInt64S ha (by omega) (fun xa H6 oxa nn8 le7 => ?_)
  have acaXxa : Apart ca xa := oca.apart nn8
  have nxa : Nw H xa := nn8.le lE
  replace oca := oca.le le7
  replace ha := ha.le le7
  replace lE := lE.trans le7
  refine C.impl_IsLane oxa.sl (by omega) ?_
  try simp only [EV]
  refine C.laws_toInt64S ha (by omega) (fun ya H11 oya nn13 le12 => ?_)
  have acaXya : Apart ca ya := oca.apart nn13
  have axaXya : Apart xa ya := oxa.apart nn13
  have nya : Nw H ya := nn13.le lE
  replace oca := oca.le le12
  replace oxa := oxa.le le12
  replace ha := ha.le le12
  replace lE := lE.trans le12
  refine C.laws_eqInt64S oxa.sl oya.sl (by omega) ?_
  rw [decide_eq_true rfl]
  try simp only [EV]
  exact hk _ lE

end Go.Proofs.Ytdfoobomlabffaa
