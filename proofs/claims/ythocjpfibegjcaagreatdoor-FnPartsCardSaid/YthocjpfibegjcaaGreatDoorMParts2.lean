/- Several texts in one. -/
import Derived.Test.YthocjpfibegjcaaGreatDoorMParts1
import Derived.Test.YthocjpfibegjcaaGreatDoorMParts0
/- Parts of fields: the program's, and the reference's front. -/
namespace Go.Proofs.YthocjpfibegjcaaGreatDoor
open HL
set_option maxRecDepth 100000
theorem C.impl_bit {q : Bool}  {H : Hp} {K : Value → Hp → Prop}
    (hk : K (.int .i64 (if q = true then 1 else 0)) H) : HT prg I.impl_bit [(.bool (q))].toArray H K := by
  have lE := Le.refl H
  refine R.impl_bit ?_
  unfold F.impl_bit
  refine cnd_i (fun hg1 => ?_) (fun hg1 => ?_)
  · skip
    skip
    exact keq (K := K) (by rw [show ((if q = true then 1 else 0) : Int) = (1) from by rw [if_pos hg1]]) (hk )
  · skip
    skip
    exact keq (K := K) (by rw [show ((if q = true then 1 else 0) : Int) = (0) from by rw [if_neg (by rw [hg1]; simp)]]) (hk )
theorem C.impl_PartsOf_1 {pn pf pt nb : Value} {i k r c t : Int} {m : List Int}  {vc : Value} {H : Hp} {K : Value → Hp → Prop} (hpn0 : Cel H pn [nb]) (hpf0 : Cel H pf [(.int .i64 (r)), (.int .i64 (c)), vc]) (hpt0 : Cel H pt [(.int .i64 (t))]) (hnb0 : Sl eI H nb m) (hs : sidesF r c) (hl : (m.length : Int) = r * c) (i0 : 0 ≤ i) (i1 : i < r) (j0 : 0 ≤ k) (j1 : k < c) (t0 : 0 ≤ t) (t1 : t ≤ 1000)
    (hk : ∀ H', Le H H' → K (.int .i64 (if at_ 0 m (i * c + k) = t + 1 then 1 else 0)) H') : HT prg I.impl_PartsOf_1 [(.int .i64 (i)), (.int .i64 (k)), pn, pf, pt].toArray H K := by
  have lE := Le.refl H
  have hpn := hpn0
  have hpf := hpf0
  have hpt := hpt0
  have hnb := hnb0
  refine R.impl_PartsOf_1 ?_
  unfold F.impl_PartsOf_1
  have q1 := hs.1
  have q2 := hs.2
  have qm := sidesF_mul hs
  have x2 := ix_lt (a := i) (b := k) (r := r) (c := c) (by omega) (by omega) (by omega) (by omega)
  refine ob_i (hpn.ld0 rfl) ?_
  refine ob_i (hpf.fa 1) ?_
  refine ob_i (hpf.ld 1 rfl) ?_
  refine ob_i (vInt_mul (by omega) (by omega)) ?_
  refine ob_i (vInt_add (by omega) (by omega)) ?_
  refine ob_i (hnb.ix (by omega) (by omega)) ?_
  refine ob_i (hnb.ld 0 (by omega) (by omega)) ?_
  refine ob_i (hpt.ld0 rfl) ?_
  refine ob_i (vInt_add (by omega) (by omega)) ?_
  refine ob_i (vInt_eql _ _ _) ?_
  refine C.impl_bit  ?_
  refine ⟨Le.refl _, ?_⟩
  skip
  exact keq (K := K) (by rw [show ((if (decide ((at_ 0 (m) ((i * c) + k)) = (t + 1))) = true then 1 else 0) : Int) = (if at_ 0 m (i * c + k) = t + 1 then 1 else 0) from by simp only [decide_eq_true_eq]]) (hk   _    lE)
set_option maxHeartbeats 2000000 in
theorem C.impl_PartsOf {vc : Value} {r c : Int} {l : List Int}  {H : Hp} {K : Value → Hp → Prop} (hvc0 : Sl eI H vc l) (k1 : l.length ≤ 9223372036854775807)
    (hk : ∀ u1 Su1 u2 H', Fam H' u1 Su1 (selL (fieldN 1 r c l) (prtL r c l (stsL c l l.length))) → Own eI H' u2 (selL (fieldN 1 r c l) (plcL r c l (stsL c l l.length))) → Nws H Su1 → Nw H u2 → Apt Su1 u2 → Le H H' → K (.tuple #[u1, u2, (.bool (decide (fieldN 1 r c l)))]) H') : HT prg I.impl_PartsOf [(.agg #[(.int .i64 (r)), (.int .i64 (c)), vc])].toArray H K := by
  have lE := Le.refl H
  have hvc := hvc0
  refine R.impl_PartsOf ?_
  unfold F.impl_PartsOf
  refine nw_i (fun pf H1 opf nn2 le3 => ?_)
  have npf : Nw H pf := nn2.le lE
  replace hvc := hvc.le le3
  replace lE := lE.trans le3
  replace opf : Cel H1 pf [(.int .i64 (r)), (.int .i64 (c)), vc] := opf
  refine ob_i (opf.ldn rfl) ?_
  refine C.impl_isPlain hvc (by first | omega | assumption) (fun   H4    le5 => ?_)
  replace opf := opf.le le5
  replace hvc := hvc.le le5
  replace lE := lE.trans le5
  refine ob_nd (fun hc6 => ?_) (fun hc6 => ?_)
  · skip
    have hf := hc6
    have l1 := fieldN_len hf
    have hs := hf.1
    have hl := hf.2.1
    have q1 := hs.1
    have q2 := hs.2
    have qm := sidesF_mul hs
    refine cnd_f1 ?_
    refine ob_i (opf.ldn rfl) ?_
    refine ob_i (opf.ldn rfl) ?_
    refine R.impl_Field_clustersX ?_
    unfold F.impl_Field_clustersX
    refine nw_i (fun p2 H7 op2 nn8 le9 => ?_)
    have apfXp2 : Apart pf p2 := opf.apart nn8
    have np2 : Nw H p2 := nn8.le lE
    replace opf := opf.le le9
    replace hvc := hvc.le le9
    replace lE := lE.trans le9
    replace op2 : Cel H7 p2 [(.int .i64 (r)), (.int .i64 (c)), vc] := op2
    refine ob_i (op2.fa 2) ?_
    refine ob_i (op2.ld 2 rfl) ?_
    refine ob_i (hvc.len) ?_
    refine Own.mk_ (z := (0 : Int)) (by omega) (by omega) (by omega) (by omega) (fun ou H10 oou nn11 le12 => ?_)
    have apfXou : Apart pf ou := opf.apart nn11
    have ap2Xou : Apart p2 ou := op2.apart nn11
    have nou : Nw H ou := nn11.le lE
    replace opf := opf.le le12
    replace op2 := op2.le le12
    replace hvc := hvc.le le12
    replace lE := lE.trans le12
    refine nw_i (fun po H13 opo nn14 le15 => ?_)
    have apfXpo : Apart pf po := opf.apart nn14
    have ap2Xpo : Apart p2 po := op2.apart nn14
    have aouXpo : Apart ou po := oou.apart nn14
    have npo : Nw H po := nn14.le lE
    replace opf := opf.le le15
    replace op2 := op2.le le15
    replace oou := oou.le le15
    replace hvc := hvc.le le15
    replace lE := lE.trans le15
    replace opo : Cel H13 po [(.slice none 0 0)] := opo
    refine opo.st0 (by simp) oou.one oou.cells (fun H16 opo off17 => ?_)
    replace opf := opf.off off17 apfXpo
    replace op2 := op2.off off17 ap2Xpo
    replace oou := oou.off off17 aouXpo
    replace hvc := hvc0.le (off17.le lE npo)
    replace lE := off17.le lE npo
    replace opo : Cel H16 po [ou] := opo
    refine nw_i (fun pc H18 opc nn19 le20 => ?_)
    have apfXpc : Apart pf pc := opf.apart nn19
    have ap2Xpc : Apart p2 pc := op2.apart nn19
    have aouXpc : Apart ou pc := oou.apart nn19
    have apoXpc : Apart po pc := opo.apart nn19
    have npc : Nw H pc := nn19.le lE
    replace opf := opf.le le20
    replace op2 := op2.le le20
    replace oou := oou.le le20
    replace opo := opo.le le20
    replace hvc := hvc.le le20
    replace lE := lE.trans le20
    replace opc : Cel H18 pc [(.int .i64 (0))] := opc
    refine opc.st0 (by simp) rfl rfl (fun H21 opc off22 => ?_)
    replace opf := opf.off off22 apfXpc
    replace op2 := op2.off off22 ap2Xpc
    replace oou := oou.off off22 aouXpc
    replace opo := opo.off off22 apoXpc
    replace hvc := hvc0.le (off22.le lE npc)
    replace lE := off22.le lE npc
    replace opc : Cel H21 pc [(.int .i64 (0))] := opc
    refine jn_i (fun σ' H' => σ' 6 = po ∧ σ' 7 = pc ∧ Cel H' pf [(.int .i64 (r)), (.int .i64 (c)), vc] ∧ Cel H' p2 [(.int .i64 (r)), (.int .i64 (c)), vc] ∧ Own eI H' ou (ouL c l (stsL c l l.length) []) ∧ Cel H' po [ou] ∧ Cel H' pc [(.int .i64 (((stsL c l l.length).length : Int)))] ∧ Le H H') (fun σ23 H23 hP => ?_) (fun J23 hJ23 => ?_)
    · skip
      obtain ⟨g6L23, g7L23, opf, op2, oou, opo, opc, lE⟩ := hP
      have hvc := hvc0.le lE
      try simp only [g6L23, g7L23]
      refine ob_i (opo.ld0 rfl) ?_
      refine ob_i (opc.ld0 rfl) ?_
      refine ob_i (vExt_20 _ _) ?_
      refine ob_i (vExt_21 _ _) ?_
      refine nw_i (fun pn H24 opn nn25 le26 => ?_)
      have apfXpn : Apart pf pn := opf.apart nn25
      have ap2Xpn : Apart p2 pn := op2.apart nn25
      have aouXpn : Apart ou pn := oou.apart nn25
      have apoXpn : Apart po pn := opo.apart nn25
      have apcXpn : Apart pc pn := opc.apart nn25
      have npn : Nw H pn := nn25.le lE
      replace opf := opf.le le26
      replace op2 := op2.le le26
      replace oou := oou.le le26
      replace opo := opo.le le26
      replace opc := opc.le le26
      replace hvc := hvc.le le26
      replace lE := lE.trans le26
      replace opn : Cel H24 pn [(.slice none 0 0)] := opn
      refine opn.st0 (by simp) oou.one oou.cells (fun H27 opn off28 => ?_)
      replace opf := opf.off off28 apfXpn
      replace op2 := op2.off off28 ap2Xpn
      replace oou := oou.off off28 aouXpn
      replace opo := opo.off off28 apoXpn
      replace opc := opc.off off28 apcXpn
      replace hvc := hvc0.le (off28.le lE npn)
      replace lE := off28.le lE npn
      replace opn : Cel H27 pn [ou] := opn
      refine bSE_fam (fun ps Sps H29 ops nn30 le32 => ?_)
      have apfXps : Apt pf Sps := Apt.of_nws opf.known nn30
      have ap2Xps : Apt p2 Sps := Apt.of_nws op2.known nn30
      have aouXps : Apt ou Sps := Apt.of_nws oou.known nn30
      have apoXps : Apt po Sps := Apt.of_nws opo.known nn30
      have apcXps : Apt pc Sps := Apt.of_nws opc.known nn30
      have apnXps : Apt pn Sps := Apt.of_nws opn.known nn30
      have nps : Nws H Sps := nn30.le lE
      replace opf := opf.le le32
      replace op2 := op2.le le32
      replace oou := oou.le le32
      replace opo := opo.le le32
      replace opc := opc.le le32
      replace opn := opn.le le32
      replace hvc := hvc.le le32
      replace lE := lE.trans le32
      refine bS_nil (enc := eI) (fun pl H33 opl nn34 kk35 le36 => ?_)
      have apfXpl : Apart pf pl := opf.apart nn34
      have ap2Xpl : Apart p2 pl := op2.apart nn34
      have aouXpl : Apart ou pl := oou.apart nn34
      have apoXpl : Apart po pl := opo.apart nn34
      have apcXpl : Apart pc pl := opc.apart nn34
      have apnXpl : Apart pn pl := opn.apart nn34
      have apsXpl : Apt Sps pl := Apt.of_nw ops.known nn34
      have npl : Nw H pl := nn34.le lE
      replace opf := opf.le le36
      replace op2 := op2.le le36
      replace oou := oou.le le36
      replace opo := opo.le le36
      replace opc := opc.le le36
      replace opn := opn.le le36
      replace ops := ops.le le36
      replace hvc := hvc.le le36
      replace lE := lE.trans le36
      refine jn_i (fun σ' H' => ∃ ps, ∃ Sps, ∃ pl, σ' 7 = ps ∧ σ' 8 = pl ∧ Cel H' pf [(.int .i64 (r)), (.int .i64 (c)), vc] ∧ Cel H' p2 [(.int .i64 (r)), (.int .i64 (c)), vc] ∧ Own eI H' ou (ouL c l (stsL c l l.length) []) ∧ Cel H' po [ou] ∧ Cel H' pc [(.int .i64 (((stsL c l l.length).length : Int)))] ∧ Cel H' pn [ou] ∧ Fam H' ps Sps (prtL r c l (stsL c l l.length)) ∧ Own eI H' pl (plcL r c l (stsL c l l.length)) ∧ Nws H Sps ∧ Apt pf Sps ∧ Apt p2 Sps ∧ Apt ou Sps ∧ Apt po Sps ∧ Apt pc Sps ∧ Apt pn Sps ∧ Nw H pl ∧ Apart pf pl ∧ Apart p2 pl ∧ Apart ou pl ∧ Apart po pl ∧ Apart pc pl ∧ Apart pn pl ∧ Apt Sps pl ∧ Le H H') (fun σ37 H37 hP => ?_) (fun J37 hJ37 => ?_)
      · skip
        obtain ⟨ps, Sps, pl, g7L37, g8L37, opf, op2, oou, opo, opc, opn, ops, opl, nps, apfXps, ap2Xps, aouXps, apoXps, apcXps, apnXps, npl, apfXpl, ap2Xpl, aouXpl, apoXpl, apcXpl, apnXpl, apsXpl, lE⟩ := hP
        have hvc := hvc0.le lE
        try simp only [g7L37, g8L37]
        skip
        have hok : fieldN 1 r c l := by assumption
        exact keq (K := K) (by rw [decide_eq_true (show (fieldN 1 r c l) from by exact hok)]) (hk  ps _ pl _ (Fam.cast (show prtL r c l (stsL c l l.length) = selL (fieldN 1 r c l) (prtL r c l (stsL c l l.length)) by exact (selL_t hok).symm) ops) (Own.cast (show plcL r c l (stsL c l l.length) = selL (fieldN 1 r c l) (plcL r c l (stsL c l l.length)) by exact (selL_t hok).symm) opl) nps npl apsXpl lE)
      refine ⟨fun n' σ' H' => ∃ t : Nat, n' = (stsL c l l.length).length - t ∧ t ≤ (stsL c l l.length).length ∧ ∃ ps, ∃ Sps, ∃ pl, σ' 1 = pf ∧ σ' 5 = pn ∧ σ' 7 = ps ∧ σ' 8 = pl ∧ σ' 27 = (.int .i64 (((stsL c l l.length).length : Int))) ∧ σ' 28 = (.int .i64 ((t : Int))) ∧ Cel H' pf [(.int .i64 (r)), (.int .i64 (c)), vc] ∧ Cel H' p2 [(.int .i64 (r)), (.int .i64 (c)), vc] ∧ Own eI H' ou (ouL c l (stsL c l l.length) []) ∧ Cel H' po [ou] ∧ Cel H' pc [(.int .i64 (((stsL c l l.length).length : Int)))] ∧ Cel H' pn [ou] ∧ Fam H' ps Sps (prtL r c l ((stsL c l l.length).take t)) ∧ Own eI H' pl (plcL r c l ((stsL c l l.length).take t)) ∧ Nws H Sps ∧ Apt pf Sps ∧ Apt p2 Sps ∧ Apt ou Sps ∧ Apt po Sps ∧ Apt pc Sps ∧ Apt pn Sps ∧ Nw H pl ∧ Apart pf pl ∧ Apart p2 pl ∧ Apart ou pl ∧ Apart po pl ∧ Apart pc pl ∧ Apart pn pl ∧ Apt Sps pl ∧ Le H H',
        ⟨_, 0, rfl, by omega, ps, Sps, pl, rfl, rfl, rfl, rfl, rfl, (congrArg (Value.int .i64) (by first | omega | rfl | (simp; done))), opf, op2, oou, opo, opc, opn, (Fam.cast (by first | rfl | (simp; done)) ops), (Own.cast (by first | rfl | (simp; done)) opl), nps, apfXps, ap2Xps, aouXps, apoXps, apcXps, apnXps, npl, apfXpl, ap2Xpl, aouXpl, apoXpl, apcXpl, apnXpl, apsXpl, lE⟩, ?_⟩
      rintro n38 σ38 H38 ⟨t, rfl, htN, ps, Sps, pl, g1L38, g5L38, g7L38, g8L38, g27L38, g28L38, opf, op2, oou, opo, opc, opn, ops, opl, nps, apfXps, ap2Xps, aouXps, apoXps, apcXps, apnXps, npl, apfXpl, ap2Xpl, aouXpl, apoXpl, apcXpl, apnXpl, apsXpl, lE⟩
      have hvc := hvc0.le lE
      try simp only [g1L38, g5L38, g7L38, g8L38, g27L38, g28L38]
      have sl := stsL_len (c := c) (l := l) l.length
      have pl1 := prtL_len (r := r) (c := c) (l := l) (L := (stsL c l l.length).take t)
      have pl2 := plcL_len (r := r) (c := c) (l := l) (L := (stsL c l l.length).take t)
      have pl3 : ((stsL c l l.length).take t).length = t := by rw [List.length_take]; omega
      refine ob_i (vInt_lss _ _ _) ?_
      refine cnd_d (fun hg39 => ?_) (fun hg39 => ?_)
      · skip
        have tt := hg39
        refine nw_i (fun p40 H41 op40 nn42 le43 => ?_)
        have apfXp40 : Apart pf p40 := opf.apart nn42
        have ap2Xp40 : Apart p2 p40 := op2.apart nn42
        have aouXp40 : Apart ou p40 := oou.apart nn42
        have apoXp40 : Apart po p40 := opo.apart nn42
        have apcXp40 : Apart pc p40 := opc.apart nn42
        have apnXp40 : Apart pn p40 := opn.apart nn42
        have apsXp40 : Apt Sps p40 := Apt.of_nw ops.known nn42
        have aplXp40 : Apart pl p40 := opl.apart nn42
        have np40 : Nw H p40 := nn42.le lE
        replace opf := opf.le le43
        replace op2 := op2.le le43
        replace oou := oou.le le43
        replace opo := opo.le le43
        replace opc := opc.le le43
        replace opn := opn.le le43
        replace ops := ops.le le43
        replace opl := opl.le le43
        replace hvc := hvc.le le43
        replace lE := lE.trans le43
        replace op40 : Cel H41 p40 [(.int .i64 (0))] := op40
        refine op40.st0 (by simp) rfl rfl (fun H44 op40 off45 => ?_)
        replace opf := opf.off off45 apfXp40
        replace op2 := op2.off off45 ap2Xp40
        replace oou := oou.off off45 aouXp40
        replace opo := opo.off off45 apoXp40
        replace opc := opc.off off45 apcXp40
        replace opn := opn.off off45 apnXp40
        replace ops := ops.off off45 apsXp40
        replace opl := opl.off off45 aplXp40
        replace hvc := hvc0.le (off45.le lE np40)
        replace lE := off45.le lE np40
        replace op40 : Cel H44 p40 [(.int .i64 ((t : Int)))] := op40
        refine ob_i (opf.fa 0) ?_
        refine ob_i (opf.ld 0 rfl) ?_
        refine ob_i (opf.fa 1) ?_
        refine ob_i (opf.ld 1 rfl) ?_
        refine C.impl_madeField (g := (fun x y => if at_ 0 (ouL c l (stsL c l l.length) []) (x * c + y) = (t : Int) + 1 then 1 else 0)) (by omega) (by omega) (by omega) (by omega) (fun H49c i49 k49 Z leZ hi49 hk49 hZ => ?_) (fun al H46 oal nn47 le48 => ?_)
        · refine ⟨by kernel_rfl, ?_⟩
          replace opf := opf.le leZ
          replace op2 := op2.le leZ
          replace oou := oou.le leZ
          replace opo := opo.le leZ
          replace opc := opc.le leZ
          replace opn := opn.le leZ
          replace ops := ops.le leZ
          replace opl := opl.le leZ
          replace op40 := op40.le leZ
          replace hvc := hvc.le leZ
          replace lE := lE.trans leZ
          have lZ := Le.refl H49c
          refine C.impl_PartsOf_1 opn opf op40 oou.sl (by exact hs) (by rw [ouL_len]; exact hl) (by first | omega | assumption) (by first | omega | assumption) (by first | omega | assumption) (by first | omega | assumption) (by first | omega | assumption) (by first | omega | assumption) (fun   H50    le51 => ?_)
          replace opf := opf.le le51
          replace op2 := op2.le le51
          replace oou := oou.le le51
          replace opo := opo.le le51
          replace opc := opc.le le51
          replace opn := opn.le le51
          replace ops := ops.le le51
          replace opl := opl.le le51
          replace op40 := op40.le le51
          replace hvc := hvc.le le51
          replace lE := lE.trans le51
          replace lZ := lZ.trans le51
          exact keq (K := Z) (by rw [show ((if at_ 0 (ouL c l (stsL c l l.length) []) ((i49 : Int) * c + (k49 : Int)) = (t : Int) + 1 then 1 else 0) : Int) = ((fun x y => if at_ 0 (ouL c l (stsL c l l.length) []) (x * c + y) = (t : Int) + 1 then 1 else 0)) (i49 : Int) (k49 : Int) from rfl]) (hZ _ lZ)
        have apfXal : Apart pf al := opf.apart nn47
        have ap2Xal : Apart p2 al := op2.apart nn47
        have aouXal : Apart ou al := oou.apart nn47
        have apoXal : Apart po al := opo.apart nn47
        have apcXal : Apart pc al := opc.apart nn47
        have apnXal : Apart pn al := opn.apart nn47
        have apsXal : Apt Sps al := Apt.of_nw ops.known nn47
        have aplXal : Apart pl al := opl.apart nn47
        have ap40Xal : Apart p40 al := op40.apart nn47
        have nal : Nw H al := nn47.le lE
        replace opf := opf.le le48
        replace op2 := op2.le le48
        replace oou := oou.le le48
        replace opo := opo.le le48
        replace opc := opc.le le48
        replace opn := opn.le le48
        replace ops := ops.le le48
        replace opl := opl.le le48
        replace op40 := op40.le le48
        replace hvc := hvc.le le48
        replace lE := lE.trans le48
        replace oal := oal.cast (prt_num hs hl (by omega))
        refine nw_i (fun p52 H53 op52 nn54 le55 => ?_)
        have apfXp52 : Apart pf p52 := opf.apart nn54
        have ap2Xp52 : Apart p2 p52 := op2.apart nn54
        have aouXp52 : Apart ou p52 := oou.apart nn54
        have apoXp52 : Apart po p52 := opo.apart nn54
        have apcXp52 : Apart pc p52 := opc.apart nn54
        have apnXp52 : Apart pn p52 := opn.apart nn54
        have apsXp52 : Apt Sps p52 := Apt.of_nw ops.known nn54
        have aplXp52 : Apart pl p52 := opl.apart nn54
        have ap40Xp52 : Apart p40 p52 := op40.apart nn54
        have aalXp52 : Apart al p52 := oal.apart nn54
        have np52 : Nw H p52 := nn54.le lE
        replace opf := opf.le le55
        replace op2 := op2.le le55
        replace oou := oou.le le55
        replace opo := opo.le le55
        replace opc := opc.le le55
        replace opn := opn.le le55
        replace ops := ops.le le55
        replace opl := opl.le le55
        replace op40 := op40.le le55
        replace oal := oal.le le55
        replace hvc := hvc.le le55
        replace lE := lE.trans le55
        replace op52 : Cel H53 p52 [(.int .i64 (0)), (.int .i64 (0)), (.slice none 0 0)] := op52
        refine op52.stn (ws := [(.int .i64 (r)), (.int .i64 (c)), al]) rfl rfl (oc1 rfl (oc1 rfl (oc1 oal.one oc0))) (fun H56 op52 off57 => ?_)
        replace opf := opf.off off57 apfXp52
        replace op2 := op2.off off57 ap2Xp52
        replace oou := oou.off off57 aouXp52
        replace opo := opo.off off57 apoXp52
        replace opc := opc.off off57 apcXp52
        replace opn := opn.off off57 apnXp52
        replace ops := ops.off off57 apsXp52
        replace opl := opl.off off57 aplXp52
        replace op40 := op40.off off57 ap40Xp52
        replace oal := oal.off off57 aalXp52
        replace hvc := hvc0.le (off57.le lE np52)
        replace lE := off57.le lE np52
        replace op52 : Cel H56 p52 [(.int .i64 (r)), (.int .i64 (c)), al] := op52
        refine ob_i (op52.ldn rfl) ?_
        have hpos : ¬ (trm r c (aloL c l (at_ 0 (stsL c l l.length) (t : Int)))).2.1 < 0 := by have := alo_pos hs hl (stsL_on (at_mem 0 (stsL c l l.length) (i := (t : Int)) (by omega) (by omega))).1; omega
        refine C.impl_Field_trimmed oal.sl (by first | omega | assumption) (by rw [aloL_len]; exact hl) (fun hc58  H59    le60 => ?_) (fun hc61 u64 H62 ou64 nn65  le63 => ?_)
        · skip
          exact absurd hc58 hpos
        · skip
          have apfXu64 : Apart pf u64 := opf.apart nn65
          have ap2Xu64 : Apart p2 u64 := op2.apart nn65
          have aouXu64 : Apart ou u64 := oou.apart nn65
          have apoXu64 : Apart po u64 := opo.apart nn65
          have apcXu64 : Apart pc u64 := opc.apart nn65
          have apnXu64 : Apart pn u64 := opn.apart nn65
          have apsXu64 : Apt Sps u64 := Apt.of_nw ops.known nn65
          have aplXu64 : Apart pl u64 := opl.apart nn65
          have ap40Xu64 : Apart p40 u64 := op40.apart nn65
          have aalXu64 : Apart al u64 := oal.apart nn65
          have ap52Xu64 : Apart p52 u64 := op52.apart nn65
          have nu64 : Nw H u64 := nn65.le lE
          replace opf := opf.le le63
          replace op2 := op2.le le63
          replace oou := oou.le le63
          replace opo := opo.le le63
          replace opc := opc.le le63
          replace opn := opn.le le63
          replace ops := ops.le le63
          replace opl := opl.le le63
          replace op40 := op40.le le63
          replace oal := oal.le le63
          replace op52 := op52.le le63
          replace hvc := hvc.le le63
          replace lE := lE.trans le63
          refine ob_i (vExt_40 _ _ _ _) ?_
          refine ob_i (vExt_41 _ _ _ _) ?_
          refine ob_i (vExt_42 _ _ _ _) ?_
          refine ob_i (vExt_43 _ _ _ _) ?_
          refine nw_i (fun p66 H67 op66 nn68 le69 => ?_)
          have apfXp66 : Apart pf p66 := opf.apart nn68
          have ap2Xp66 : Apart p2 p66 := op2.apart nn68
          have aouXp66 : Apart ou p66 := oou.apart nn68
          have apoXp66 : Apart po p66 := opo.apart nn68
          have apcXp66 : Apart pc p66 := opc.apart nn68
          have apnXp66 : Apart pn p66 := opn.apart nn68
          have apsXp66 : Apt Sps p66 := Apt.of_nw ops.known nn68
          have aplXp66 : Apart pl p66 := opl.apart nn68
          have ap40Xp66 : Apart p40 p66 := op40.apart nn68
          have aalXp66 : Apart al p66 := oal.apart nn68
          have ap52Xp66 : Apart p52 p66 := op52.apart nn68
          have au64Xp66 : Apart u64 p66 := ou64.apart nn68
          have np66 : Nw H p66 := nn68.le lE
          replace opf := opf.le le69
          replace op2 := op2.le le69
          replace oou := oou.le le69
          replace opo := opo.le le69
          replace opc := opc.le le69
          replace opn := opn.le le69
          replace ops := ops.le le69
          replace opl := opl.le le69
          replace op40 := op40.le le69
          replace oal := oal.le le69
          replace op52 := op52.le le69
          replace ou64 := ou64.le le69
          replace hvc := hvc.le le69
          replace lE := lE.trans le69
          replace op66 : Cel H67 p66 [(.int .i64 (0)), (.int .i64 (0)), (.slice none 0 0)] := op66
          refine op66.stn (ws := [(.int .i64 (trR r c (aloL c l (at_ 0 (stsL c l l.length) (t : Int))))), (.int .i64 (trC r c (aloL c l (at_ 0 (stsL c l l.length) (t : Int))))), u64]) rfl rfl (oc1 rfl (oc1 rfl (oc1 ou64.one oc0))) (fun H70 op66 off71 => ?_)
          replace opf := opf.off off71 apfXp66
          replace op2 := op2.off off71 ap2Xp66
          replace oou := oou.off off71 aouXp66
          replace opo := opo.off off71 apoXp66
          replace opc := opc.off off71 apcXp66
          replace opn := opn.off off71 apnXp66
          replace ops := ops.off off71 apsXp66
          replace opl := opl.off off71 aplXp66
          replace op40 := op40.off off71 ap40Xp66
          replace oal := oal.off off71 aalXp66
          replace op52 := op52.off off71 ap52Xp66
          replace ou64 := ou64.off off71 au64Xp66
          replace hvc := hvc0.le (off71.le lE np66)
          replace lE := off71.le lE np66
          replace op66 : Cel H70 p66 [(.int .i64 (trR r c (aloL c l (at_ 0 (stsL c l l.length) (t : Int))))), (.int .i64 (trC r c (aloL c l (at_ 0 (stsL c l l.length) (t : Int))))), u64] := op66
          refine ob_i (op66.ldn rfl) ?_
          refine bSE_one (enc := encFv) (x := (⟨trR r c (aloL c l (at_ 0 (stsL c l l.length) (t : Int))), trC r c (aloL c l (at_ 0 (stsL c l l.length) (t : Int))), u64⟩ : Fv)) rfl rfl (by omega) (by omega) rfl (fun u72 H73 ou72 nn74 le76 => ?_) rfl
          have apfXu72 : Apart pf u72 := opf.apart nn74
          have ap2Xu72 : Apart p2 u72 := op2.apart nn74
          have aouXu72 : Apart ou u72 := oou.apart nn74
          have apoXu72 : Apart po u72 := opo.apart nn74
          have apcXu72 : Apart pc u72 := opc.apart nn74
          have apnXu72 : Apart pn u72 := opn.apart nn74
          have apsXu72 : Apt Sps u72 := Apt.of_nw ops.known nn74
          have aplXu72 : Apart pl u72 := opl.apart nn74
          have ap40Xu72 : Apart p40 u72 := op40.apart nn74
          have aalXu72 : Apart al u72 := oal.apart nn74
          have ap52Xu72 : Apart p52 u72 := op52.apart nn74
          have au64Xu72 : Apart u64 u72 := ou64.apart nn74
          have ap66Xu72 : Apart p66 u72 := op66.apart nn74
          have nu72 : Nw H u72 := nn74.le lE
          replace opf := opf.le le76
          replace op2 := op2.le le76
          replace oou := oou.le le76
          replace opo := opo.le le76
          replace opc := opc.le le76
          replace opn := opn.le le76
          replace ops := ops.le le76
          replace opl := opl.le le76
          replace op40 := op40.le le76
          replace oal := oal.le le76
          replace op52 := op52.le le76
          replace ou64 := ou64.le le76
          replace op66 := op66.le le76
          replace hvc := hvc.le le76
          replace lE := lE.trans le76
          refine Fam.push ops rfl (ou72.sl encFv_n) ou64 apsXu64.symm (by omega) (by first | omega | (simp; omega)) (fun u81 Su81 H77 ou81 off78 hb79 hx80 oxu64 => ?_)
          have apfXu81 : Apt pf Su81 := Apt.push opf.known apfXps apfXu64 hb79
          have ap2Xu81 : Apt p2 Su81 := Apt.push op2.known ap2Xps ap2Xu64 hb79
          have aouXu81 : Apt ou Su81 := Apt.push oou.known aouXps aouXu64 hb79
          have apoXu81 : Apt po Su81 := Apt.push opo.known apoXps apoXu64 hb79
          have apcXu81 : Apt pc Su81 := Apt.push opc.known apcXps apcXu64 hb79
          have apnXu81 : Apt pn Su81 := Apt.push opn.known apnXps apnXu64 hb79
          have aplXu81 : Apt pl Su81 := Apt.push opl.known apsXpl.symm aplXu64 hb79
          have ap40Xu81 : Apt p40 Su81 := Apt.push op40.known apsXp40.symm ap40Xu64 hb79
          have aalXu81 : Apt al Su81 := Apt.push oal.known apsXal.symm aalXu64 hb79
          have ap52Xu81 : Apt p52 Su81 := Apt.push op52.known apsXp52.symm ap52Xu64 hb79
          have ap66Xu81 : Apt p66 Su81 := Apt.push op66.known apsXp66.symm au64Xp66.symm hb79
          have au72Xu81 : Apt u72 Su81 := Apt.push ou72.known apsXu72.symm au64Xu72.symm hb79
          have nu81 : Nws H Su81 := Nws.push lE nps nu64 hb79
          replace opf := opf.offS off78 apfXps
          replace op2 := op2.offS off78 ap2Xps
          replace oou := oou.offS off78 aouXps
          replace opo := opo.offS off78 apoXps
          replace opc := opc.offS off78 apcXps
          replace opn := opn.offS off78 apnXps
          replace opl := opl.offS off78 apsXpl.symm
          replace op40 := op40.offS off78 apsXp40.symm
          replace oal := oal.offS off78 apsXal.symm
          replace op52 := op52.offS off78 apsXp52.symm
          replace op66 := op66.offS off78 apsXp66.symm
          replace ou72 := ou72.offS off78 apsXu72.symm
          replace hvc := hvc0.le (off78.le lE nps)
          replace lE := off78.le lE nps
          replace ou64 := oxu64.ro
          refine bS_i (enc := eI) (l := [(trm r c (aloL c l (at_ 0 (stsL c l l.length) (t : Int)))).1, (trm r c (aloL c l (at_ 0 (stsL c l l.length) (t : Int)))).2.2.1]) (by omega) rfl (by kernel_rfl) (fun u82 H83 ou82 nn84 le86 => ?_)
          have apfXu82 : Apart pf u82 := opf.apart nn84
          have ap2Xu82 : Apart p2 u82 := op2.apart nn84
          have aouXu82 : Apart ou u82 := oou.apart nn84
          have apoXu82 : Apart po u82 := opo.apart nn84
          have apcXu82 : Apart pc u82 := opc.apart nn84
          have apnXu82 : Apart pn u82 := opn.apart nn84
          have aplXu82 : Apart pl u82 := opl.apart nn84
          have ap40Xu82 : Apart p40 u82 := op40.apart nn84
          have aalXu82 : Apart al u82 := oal.apart nn84
          have ap52Xu82 : Apart p52 u82 := op52.apart nn84
          have au64Xu82 : Apart u64 u82 := ou64.apart nn84
          have ap66Xu82 : Apart p66 u82 := op66.apart nn84
          have au72Xu82 : Apart u72 u82 := ou72.apart nn84
          have au81Xu82 : Apt Su81 u82 := Apt.of_nw ou81.known nn84
          have nu82 : Nw H u82 := nn84.le lE
          replace opf := opf.le le86
          replace op2 := op2.le le86
          replace oou := oou.le le86
          replace opo := opo.le le86
          replace opc := opc.le le86
          replace opn := opn.le le86
          replace opl := opl.le le86
          replace op40 := op40.le le86
          replace oal := oal.le le86
          replace op52 := op52.le le86
          replace ou64 := ou64.le le86
          replace op66 := op66.le le86
          replace ou72 := ou72.le le86
          replace ou81 := ou81.le le86
          replace hvc := hvc.le le86
          replace lE := lE.trans le86
          refine apd_any opl ou82.sl (fun _ => rfl) (by omega) (by first | omega | (simp only [List.length_cons, List.length_nil, List.length_append, List.length_replicate, List.length_map, List.length_range]; omega)) (fun u90 H87 ou90 off88 hb89 => ?_)
          have apfXu90 : Apart pf u90 := Apart.ap2 opf.known apfXpl hb89
          have ap2Xu90 : Apart p2 u90 := Apart.ap2 op2.known ap2Xpl hb89
          have aouXu90 : Apart ou u90 := Apart.ap2 oou.known aouXpl hb89
          have apoXu90 : Apart po u90 := Apart.ap2 opo.known apoXpl hb89
          have apcXu90 : Apart pc u90 := Apart.ap2 opc.known apcXpl hb89
          have apnXu90 : Apart pn u90 := Apart.ap2 opn.known apnXpl hb89
          have ap40Xu90 : Apart p40 u90 := Apart.ap2 op40.known aplXp40.symm hb89
          have aalXu90 : Apart al u90 := Apart.ap2 oal.known aplXal.symm hb89
          have ap52Xu90 : Apart p52 u90 := Apart.ap2 op52.known aplXp52.symm hb89
          have au64Xu90 : Apart u64 u90 := Apart.ap2 ou64.known aplXu64.symm hb89
          have ap66Xu90 : Apart p66 u90 := Apart.ap2 op66.known aplXp66.symm hb89
          have au72Xu90 : Apart u72 u90 := Apart.ap2 ou72.known aplXu72.symm hb89
          have au81Xu90 : Apt Su81 u90 := Apt.ap2 ou81.known aplXu81.symm hb89
          have au82Xu90 : Apart u82 u90 := Apart.ap2 ou82.known aplXu82.symm hb89
          have nu90 : Nw H u90 := Nw.ap2 npl lE hb89
          replace opf := opf.off off88 apfXpl
          replace op2 := op2.off off88 ap2Xpl
          replace oou := oou.off off88 aouXpl
          replace opo := opo.off off88 apoXpl
          replace opc := opc.off off88 apcXpl
          replace opn := opn.off off88 apnXpl
          replace op40 := op40.off off88 aplXp40.symm
          replace oal := oal.off off88 aplXal.symm
          replace op52 := op52.off off88 aplXp52.symm
          replace ou64 := ou64.off off88 aplXu64.symm
          replace op66 := op66.off off88 aplXp66.symm
          replace ou72 := ou72.off off88 aplXu72.symm
          replace ou81 := ou81.off off88 aplXu81.symm
          replace ou82 := ou82.off off88 aplXu82.symm
          replace hvc := hvc0.le (off88.le lE npl)
          replace lE := off88.le lE npl
          refine ob_i (vInt_add (by omega) (by omega)) ?_
          exact nxt ((stsL c l l.length).length - (t + 1)) (by omega) ⟨t + 1, rfl, by omega, u81, Su81, u90, g1L38, g5L38, rfl, rfl, g27L38, (congrArg (Value.int .i64) (by first | omega | rfl | (simp; done))), opf, op2, oou, opo, opc, opn, (Fam.cast (by rw [take_at 0 (stsL c l l.length) (show t < (stsL c l l.length).length by omega)]; exact prtL_snoc _) ou81), (Own.cast (by rw [take_at 0 (stsL c l l.length) (show t < (stsL c l l.length).length by omega)]; exact plcL_snoc _) ou90), nu81, apfXu81, ap2Xu81, aouXu81, apoXu81, apcXu81, apnXu81, nu90, apfXu90, ap2Xu90, aouXu90, apoXu90, apcXu90, apnXu90, au81Xu90, lE⟩
      · skip
        have tt := hg39
        rw [List.take_of_length_le (by omega)] at ops opl
        exact hJ37 _ _ ⟨ps, Sps, pl, g7L38, g8L38, opf, op2, oou, opo, opc, opn, ops, opl, nps, apfXps, ap2Xps, aouXps, apoXps, apcXps, apnXps, npl, apfXpl, ap2Xpl, aouXpl, apoXpl, apcXpl, apnXpl, apsXpl, lE⟩
    refine ob_i (op2.fa 2) ?_
    refine ob_i (op2.ld 2 rfl) ?_
    refine ob_i (hvc.len) ?_
    refine ⟨fun n' σ' H' => ∃ i : Nat, n' = l.length - i ∧ i ≤ l.length ∧ σ' 1 = (.func (.func I.impl_Field_corners) #[(.agg #[(.int .i64 (r)), (.int .i64 (c)), vc])] #[]) ∧ σ' 2 = p2 ∧ σ' 6 = po ∧ σ' 7 = pc ∧ σ' 17 = vc ∧ σ' 18 = (.int .i64 (((l).length : Int))) ∧ σ' 19 = (.int .i64 ((i : Int))) ∧ Cel H' pf [(.int .i64 (r)), (.int .i64 (c)), vc] ∧ Cel H' p2 [(.int .i64 (r)), (.int .i64 (c)), vc] ∧ Own eI H' ou (ouL c l (stsL c l i) []) ∧ Cel H' po [ou] ∧ Cel H' pc [(.int .i64 (((stsL c l i).length : Int)))] ∧ Le H H',
      ⟨_, 0, rfl, by omega, rfl, rfl, rfl, rfl, rfl, rfl, (congrArg (Value.int .i64) (by first | omega | rfl | (simp; done))), opf, op2, (Own.cast (by rw [ouL_zero]; simp) oou), opo, (Cel.cast (by first | rfl | (simp [stsL]; done)) opc), lE⟩, ?_⟩
    rintro n91 σ91 H91 ⟨i, rfl, hiN, g1L91, g2L91, g6L91, g7L91, g17L91, g18L91, g19L91, opf, op2, oou, opo, opc, lE⟩
    have hvc := hvc0.le lE
    try simp only [g1L91, g2L91, g6L91, g7L91, g17L91, g18L91, g19L91]
    have sl := stsL_len (c := c) (l := l) i
    have oL := ouL_len (c := c) (l := l) (L := (stsL c l i)) (ls := [])
    refine ob_i (vInt_lss _ _ _) ?_
    refine cnd_d (fun hg92 => ?_) (fun hg92 => ?_)
    · skip
      have ti := hg92
      refine jn_i (fun σ' H' => σ' 1 = (.func (.func I.impl_Field_corners) #[(.agg #[(.int .i64 (r)), (.int .i64 (c)), vc])] #[]) ∧ σ' 2 = p2 ∧ σ' 6 = po ∧ σ' 7 = pc ∧ σ' 17 = vc ∧ σ' 18 = (.int .i64 (((l).length : Int))) ∧ σ' 19 = (.int .i64 ((i : Int))) ∧ Cel H' pf [(.int .i64 (r)), (.int .i64 (c)), vc] ∧ Cel H' p2 [(.int .i64 (r)), (.int .i64 (c)), vc] ∧ Own eI H' ou (ouL c l (stsL c l (i + 1)) []) ∧ Cel H' po [ou] ∧ Cel H' pc [(.int .i64 (((stsL c l (i + 1)).length : Int)))] ∧ Le H H') (fun σ93 H93 hP => ?_) (fun J93 hJ93 => ?_)
      · skip
        obtain ⟨g1L93, g2L93, g6L93, g7L93, g17L93, g18L93, g19L93, opf, op2, oou, opo, opc, lE⟩ := hP
        have hvc := hvc0.le lE
        try simp only [g19L93]
        refine ob_i (vInt_add (by omega) (by omega)) ?_
        exact nxt (l.length - (i + 1)) (by omega) ⟨i + 1, rfl, by omega, g1L93, g2L93, g6L93, g7L93, g17L93, g18L93, (congrArg (Value.int .i64) (by first | omega | rfl | (simp; done))), opf, op2, oou, opo, opc, lE⟩
      refine ob_i (hvc.ix (by omega) (by omega)) ?_
      refine ob_i (hvc.ld 0 (by omega) (by omega)) ?_
      refine ob_i (vInt_neq _ _ _) ?_
      by_cases hc94 : (at_ 0 (l) ((i : Int))) ≠ 1
      · skip
        refine gop_e (decide_eq_true hc94) ?_
        refine gop_st ?_
        refine gop_e (decide_eq_true hc94) ?_
        refine gop_st ?_
        refine gop_e (decide_eq_true hc94) ?_
        refine gop_st ?_
        refine gop_e (decide_eq_true hc94) ?_
        refine gop_st ?_
        refine gop_e (decide_eq_true hc94) ?_
        refine gop_st ?_
        refine ob_i (vPick_et (decide_eq_true hc94) _ _) ?_
        refine cnd_t1 ?_
        have hno : stsL c l (i + 1) = (stsL c l i) := stsL_f (fun g => hc94 g.1.2)
        exact hJ93 _ _ ⟨g1L91, g2L91, g6L91, g7L91, g17L91, g18L91, g19L91, opf, op2, (Own.cast (by rw [hno]) oou), opo, (Cel.cast (by rw [hno]) opc), lE⟩
      · skip
        refine gop_e (decide_eq_false hc94) ?_
        refine gop_rf ?_
        refine ob_i (opo.ld0 rfl) ?_
        refine gop_e (decide_eq_false hc94) ?_
        refine gop_rf ?_
        refine gop_e (decide_eq_false hc94) ?_
        refine gop_rf ?_
        refine ob_i (oou.sl.ix (by omega) (by omega)) ?_
        refine gop_e (decide_eq_false hc94) ?_
        refine gop_rf ?_
        refine ob_i (oou.sl.ld 0 (by omega) (by omega)) ?_
        refine gop_e (decide_eq_false hc94) ?_
        refine gop_rf ?_
        refine ob_i (vInt_neq _ _ _) ?_
        refine ob_i (vPick_ef (decide_eq_false hc94) _ _) ?_
        refine cnd_d (fun hg95 => ?_) (fun hg95 => ?_)
        · skip
          have hno : stsL c l (i + 1) = (stsL c l i) := stsL_f (fun g => (ouL_t (by omega) hg95).elim (fun ⟨s, h1, h2⟩ => g.2 s h1 h2) (fun h1 => by simp at h1))
          exact hJ93 _ _ ⟨g1L91, g2L91, g6L91, g7L91, g17L91, g18L91, g19L91, opf, op2, (Own.cast (by rw [hno]) oou), opo, (Cel.cast (by rw [hno]) opc), lE⟩
        · skip
          refine ob_i (opc.ld0 rfl) ?_
          refine ob_i (vInt_add (by omega) (by omega)) ?_
          refine opc.st0 (by simp) rfl rfl (fun H96 opc off97 => ?_)
          replace opf := opf.off off97 apfXpc
          replace op2 := op2.off off97 ap2Xpc
          replace oou := oou.off off97 aouXpc
          replace opo := opo.off off97 apoXpc
          replace hvc := hvc0.le (off97.le lE npc)
          replace lE := off97.le lE npc
          replace opc : Cel H96 pc [(.int .i64 ((((stsL c l i).length : Int)) + 1))] := opc
          refine ob_i (opo.ld0 rfl) ?_
          refine ob_i (opc.ld0 rfl) ?_
          refine ob_i (oou.sl.ix (by omega) (by omega)) ?_
          refine oou.st (x := (((stsL c l i).length : Int)) + 1) (by omega) (by omega) rfl rfl (fun H98 oou off99 => ?_)
          replace opf := opf.off off99 apfXou
          replace op2 := op2.off off99 ap2Xou
          replace opo := opo.off off99 aouXpo.symm
          replace opc := opc.off off99 aouXpc.symm
          replace hvc := hvc0.le (off99.le lE nou)
          replace lE := off99.le lE nou
          refine bS_i (enc := eI) (l := [(i : Int)]) (by omega) rfl (by kernel_rfl) (fun td0 H100 otd0 nn101 le103 => ?_)
          have apfXtd0 : Apart pf td0 := opf.apart nn101
          have ap2Xtd0 : Apart p2 td0 := op2.apart nn101
          have aouXtd0 : Apart ou td0 := oou.apart nn101
          have apoXtd0 : Apart po td0 := opo.apart nn101
          have apcXtd0 : Apart pc td0 := opc.apart nn101
          have ntd0 : Nw H td0 := nn101.le lE
          replace opf := opf.le le103
          replace op2 := op2.le le103
          replace oou := oou.le le103
          replace opo := opo.le le103
          replace opc := opc.le le103
          replace hvc := hvc.le le103
          replace lE := lE.trans le103
          refine nw_i (fun ptd H104 optd nn105 le106 => ?_)
          have apfXptd : Apart pf ptd := opf.apart nn105
          have ap2Xptd : Apart p2 ptd := op2.apart nn105
          have aouXptd : Apart ou ptd := oou.apart nn105
          have apoXptd : Apart po ptd := opo.apart nn105
          have apcXptd : Apart pc ptd := opc.apart nn105
          have atd0Xptd : Apart td0 ptd := otd0.apart nn105
          have nptd : Nw H ptd := nn105.le lE
          replace opf := opf.le le106
          replace op2 := op2.le le106
          replace oou := oou.le le106
          replace opo := opo.le le106
          replace opc := opc.le le106
          replace otd0 := otd0.le le106
          replace hvc := hvc.le le106
          replace lE := lE.trans le106
          replace optd : Cel H104 ptd [(.slice none 0 0)] := optd
          refine optd.st0 (by simp) otd0.one otd0.cells (fun H107 optd off108 => ?_)
          replace opf := opf.off off108 apfXptd
          replace op2 := op2.off off108 ap2Xptd
          replace oou := oou.off off108 aouXptd
          replace opo := opo.off off108 apoXptd
          replace opc := opc.off off108 apcXptd
          replace otd0 := otd0.off off108 atd0Xptd
          replace hvc := hvc0.le (off108.le lE nptd)
          replace lE := off108.le lE nptd
          replace optd : Cel H107 ptd [td0] := optd
          have hon : onP l i := ⟨by omega, Decidable.not_not.mp hc94⟩
          have hnr : ∀ s ∈ (stsL c l i), ¬ Rch c l s i := (ouL_f (by omega) (Decidable.not_not.mp hg95)).1
          refine ⟨fun n' σ' H' => ∃ t : Nat, n' = l.length - t ∧ t ≤ l.length ∧ ∃ td, ∃ ls : List Int, ∃ tds : List Int, σ' 1 = (.func (.func I.impl_Field_corners) #[(.agg #[(.int .i64 (r)), (.int .i64 (c)), vc])] #[]) ∧ σ' 2 = p2 ∧ σ' 6 = po ∧ σ' 7 = pc ∧ σ' 10 = ptd ∧ σ' 17 = vc ∧ σ' 18 = (.int .i64 (((l).length : Int))) ∧ σ' 19 = (.int .i64 ((i : Int))) ∧ Cel H' pf [(.int .i64 (r)), (.int .i64 (c)), vc] ∧ Cel H' p2 [(.int .i64 (r)), (.int .i64 (c)), vc] ∧ Own eI H' ou (ouL c l (stsL c l i) ls) ∧ Cel H' po [ou] ∧ Cel H' pc [(.int .i64 ((((stsL c l i).length : Int)) + 1))] ∧ Cel H' ptd [td] ∧ Own eI H' td (tds) ∧ Nw H td ∧ Apart pf td ∧ Apart p2 td ∧ Apart ou td ∧ Apart po td ∧ Apart pc td ∧ Apart ptd td ∧ Le H H' ∧ stS c l i ls tds ∧ t + tds.length = ls.length,
            ⟨_, 0, rfl, by omega, td0, [(i : Int)], [(i : Int)], g1L91, g2L91, g6L91, g7L91, rfl, g17L91, g18L91, g19L91, opf, op2, (Own.cast (ouL_set hon.1 hnr) oou), opo, opc, optd, (Own.cast (by first | rfl | (simp; done)) otd0), ntd0, apfXtd0, ap2Xtd0, aouXtd0, apoXtd0, apcXtd0, atd0Xptd.symm, lE, (stS_start hon), rfl⟩, ?_⟩
          rintro n109 σ109 H109 ⟨t, rfl, htN, td, ls, tds, g1L109, g2L109, g6L109, g7L109, g10L109, g17L109, g18L109, g19L109, opf, op2, oou, opo, opc, optd, otd, ntd, apfXtd, ap2Xtd, aouXtd, apoXtd, apcXtd, aptdXtd, lE, hst, hct⟩
          have hvc := hvc0.le lE
          try simp only [g1L109, g2L109, g6L109, g7L109, g10L109]
          have sl2 := stS_len hst
          have oL2 := ouL_len (c := c) (l := l) (L := (stsL c l i)) (ls := ls)
          refine ob_i (optd.ld0 rfl) ?_
          refine ob_i (otd.len) ?_
          refine ob_i (vInt_gtr _ _ _) ?_
          refine cnd_d (fun hg110 => ?_) (fun hg110 => ?_)
          · skip
            have tt := hg110
            have hsp := stS_pop hst (by omega)
            have hsl := stN_len hsp
            have rb := rc_bnd (r := r) (c := c) (x := at_ 0 (tds) ((tds.length : Int) - 1)) (by omega) hsl.2.2.1 (by omega) rfl rfl
            refine ob_i (optd.ld0 rfl) ?_
            refine ob_i (optd.ld0 rfl) ?_
            refine ob_i (otd.len) ?_
            refine ob_i (vInt_sub (by omega) (by omega)) ?_
            refine ob_i (otd.sl.ix (by omega) (by omega)) ?_
            refine ob_i (otd.sl.ld 0 (by omega) (by omega)) ?_
            refine ob_i (optd.ld0 rfl) ?_
            refine ob_i (optd.ld0 rfl) ?_
            refine ob_i (otd.len) ?_
            refine ob_i (vInt_sub (by omega) (by omega)) ?_
            obtain ⟨x111, eq112, ox111, hb113⟩ := otd.trunc (n := ((((tds).length : Int)) - 1 : Int)) (by omega) (by omega)
            refine ob_i (eq112) ?_
            have apfXx111 : Apart pf x111 := fun b h1 h2 => apfXtd b h1 (hb113 b h2)
            have ap2Xx111 : Apart p2 x111 := fun b h1 h2 => ap2Xtd b h1 (hb113 b h2)
            have aouXx111 : Apart ou x111 := fun b h1 h2 => aouXtd b h1 (hb113 b h2)
            have apoXx111 : Apart po x111 := fun b h1 h2 => apoXtd b h1 (hb113 b h2)
            have apcXx111 : Apart pc x111 := fun b h1 h2 => apcXtd b h1 (hb113 b h2)
            have aptdXx111 : Apart ptd x111 := fun b h1 h2 => aptdXtd b h1 (hb113 b h2)
            have nx111 : Nw H x111 := fun b h2 => ntd b (hb113 b h2)
            refine optd.st0 (by simp) ox111.one ox111.cells (fun H114 optd off115 => ?_)
            replace opf := opf.off off115 apfXptd
            replace op2 := op2.off off115 ap2Xptd
            replace oou := oou.off off115 aouXptd
            replace opo := opo.off off115 apoXptd
            replace opc := opc.off off115 apcXptd
            replace ox111 := ox111.off off115 aptdXx111.symm
            replace hvc := hvc0.le (off115.le lE nptd)
            replace lE := off115.le lE nptd
            replace optd : Cel H114 ptd [x111] := optd
            refine ob_i (op2.fa 1) ?_
            refine ob_i (op2.ld 1 rfl) ?_
            refine ob_i (vInt_quoN (by omega) (by omega) (by omega)) ?_
            refine ob_i (op2.fa 1) ?_
            refine ob_i (op2.ld 1 rfl) ?_
            have rm116 := And.intro (Int.emod_nonneg (at_ 0 (tds) ((((tds).length : Int)) - 1)) (b := c) (by omega)) (Int.emod_lt_of_pos (at_ 0 (tds) ((((tds).length : Int)) - 1)) (b := c) (by omega))
            refine ob_i (vInt_remN (by omega) (by omega)) ?_
            refine ⟨by kernel_rfl, ?_⟩
            obtain ⟨X0, hX0⟩ : ∃ X0, X0 = at_ 0 (tds) ((tds.length : Int) - 1) := ⟨_, rfl⟩
            rw [← hX0] at hsp rb
            rw [show ((tds.length : Int) - 1).toNat = tds.length - 1 by omega] at ox111
            rw [← hX0]
            refine C.impl_Field_corners (Inv := fun ya yb H' => ∃ td, ∃ ls : List Int, ∃ tds : List Int, Cel H' pf [(.int .i64 (r)), (.int .i64 (c)), vc] ∧ Cel H' p2 [(.int .i64 (r)), (.int .i64 (c)), vc] ∧ Own eI H' ou (ouL c l (stsL c l i) ls) ∧ Cel H' po [ou] ∧ Cel H' pc [(.int .i64 ((((stsL c l i).length : Int)) + 1))] ∧ Cel H' ptd [td] ∧ Own eI H' td (tds) ∧ Nw H td ∧ Apart pf td ∧ Apart p2 td ∧ Apart ou td ∧ Apart po td ∧ Apart pc td ∧ Apart ptd td ∧ Le H H' ∧ stN c l i ls tds X0 ya yb ∧ t + 1 + tds.length = ls.length) hs (by omega) (by omega) (by omega) (by omega) ⟨x111, _, _, opf, op2, oou, opo, opc, optd, ox111, nx111, apfXx111, ap2Xx111, aouXx111, apoXx111, apcXx111, aptdXx111, lE, hsp, (by rw [List.length_take]; omega)⟩ (fun ya yb A117 B117 hI117 le117 => ?_) (fun ya yb A117 hno117 g1 g2 g3 g4 hI117 => ?_) (fun ya A117 g1 g2 hI117 => ?_) (fun ya yb A117 Z117 hin hne g1 g2 g3 g4 hI117 hZ117 => ?_) (fun A117 hI117 => ?_)
            · obtain ⟨td, ls, tds, opf, op2, oou, opo, opc, optd, otd, ntd, apfXtd, ap2Xtd, aouXtd, apoXtd, apcXtd, aptdXtd, lE, hsn, hcm⟩ := hI117
              exact ⟨td, ls, tds, (opf.le le117), (op2.le le117), (oou.le le117), (opo.le le117), (opc.le le117), (optd.le le117), (otd.le le117), ntd, apfXtd, ap2Xtd, aouXtd, apoXtd, apcXtd, aptdXtd, (lE.trans le117), hsn, hcm⟩
            · obtain ⟨td, ls, tds, opf, op2, oou, opo, opc, optd, otd, ntd, apfXtd, ap2Xtd, aouXtd, apoXtd, apcXtd, aptdXtd, lE, hsn, hcm⟩ := hI117
              exact ⟨td, ls, tds, opf, op2, oou, opo, opc, optd, otd, ntd, apfXtd, ap2Xtd, aouXtd, apoXtd, apcXtd, aptdXtd, lE, (stN_out hs hl hsn hno117), hcm⟩
            · obtain ⟨td, ls, tds, opf, op2, oou, opo, opc, optd, otd, ntd, apfXtd, ap2Xtd, aouXtd, apoXtd, apcXtd, aptdXtd, lE, hsn, hcm⟩ := hI117
              exact ⟨td, ls, tds, opf, op2, oou, opo, opc, optd, otd, ntd, apfXtd, ap2Xtd, aouXtd, apoXtd, apcXtd, aptdXtd, lE, (stN_row hsn), hcm⟩
            · obtain ⟨td, ls, tds, opf, op2, oou, opo, opc, optd, otd, ntd, apfXtd, ap2Xtd, aouXtd, apoXtd, apcXtd, aptdXtd, lE, hsn, hcm⟩ := hI117
              have hvc := hvc0.le lE
              have pq := pq_dm (r := r) (c := c) hin.1.1 hin.1.2 hin.2.1 hin.2.2
              have hsl := stN_len hsn
              have oL := ouL_len (c := c) (l := l) (L := (stsL c l i)) (ls := ls)
              refine ⟨by kernel_rfl, ?_⟩
              refine R.impl_Field_clusters_1 ?_
              unfold F.impl_Field_clusters_1
              refine ob_i (op2.fa 1) ?_
              refine ob_i (op2.ld 1 rfl) ?_
              refine ob_i (vInt_mul (by omega) (by omega)) ?_
              refine ob_i (vInt_add (by omega) (by omega)) ?_
              refine ob_i (op2.fa 2) ?_
              refine ob_i (op2.ld 2 rfl) ?_
              refine ob_i (hvc.ix (by omega) (by omega)) ?_
              refine ob_i (hvc.ld 0 (by omega) (by omega)) ?_
              refine ob_i (vInt_eql _ _ _) ?_
              by_cases hc118 : (at_ 0 (l) ((ya * c) + yb)) = 1
              · skip
                refine gop_e (decide_eq_true hc118) ?_
                refine gop_rt ?_
                refine ob_i (opo.ld0 rfl) ?_
                refine gop_e (decide_eq_true hc118) ?_
                refine gop_rt ?_
                refine gop_e (decide_eq_true hc118) ?_
                refine gop_rt ?_
                refine ob_i (oou.sl.ix (by omega) (by omega)) ?_
                refine gop_e (decide_eq_true hc118) ?_
                refine gop_rt ?_
                refine ob_i (oou.sl.ld 0 (by omega) (by omega)) ?_
                refine gop_e (decide_eq_true hc118) ?_
                refine gop_rt ?_
                refine ob_i (vInt_eql _ _ _) ?_
                refine ob_i (vPick_et (decide_eq_true hc118) _ _) ?_
                refine cnd_d (fun hg119 => ?_) (fun hg119 => ?_)
                · skip
                  refine ob_i (opo.ld0 rfl) ?_
                  refine ob_i (opc.ld0 rfl) ?_
                  refine ob_i (oou.sl.ix (by omega) (by omega)) ?_
                  refine oou.st (x := (((stsL c l i).length : Int)) + 1) (by omega) (by omega) rfl rfl (fun H120 oou off121 => ?_)
                  replace opf := opf.off off121 apfXou
                  replace op2 := op2.off off121 ap2Xou
                  replace opo := opo.off off121 aouXpo.symm
                  replace opc := opc.off off121 aouXpc.symm
                  replace optd := optd.off off121 aouXptd.symm
                  replace otd := otd.off off121 aouXtd.symm
                  replace hvc := hvc0.le (off121.le lE nou)
                  replace lE := off121.le lE nou
                  refine ob_i (optd.ld0 rfl) ?_
                  refine bS_i (enc := eI) (l := [(ya * c) + yb]) (by omega) rfl (by kernel_rfl) (fun u122 H123 ou122 nn124 le126 => ?_)
                  have apfXu122 : Apart pf u122 := opf.apart nn124
                  have ap2Xu122 : Apart p2 u122 := op2.apart nn124
                  have aouXu122 : Apart ou u122 := oou.apart nn124
                  have apoXu122 : Apart po u122 := opo.apart nn124
                  have apcXu122 : Apart pc u122 := opc.apart nn124
                  have aptdXu122 : Apart ptd u122 := optd.apart nn124
                  have atdXu122 : Apart td u122 := otd.apart nn124
                  have nu122 : Nw H u122 := nn124.le lE
                  replace opf := opf.le le126
                  replace op2 := op2.le le126
                  replace oou := oou.le le126
                  replace opo := opo.le le126
                  replace opc := opc.le le126
                  replace optd := optd.le le126
                  replace otd := otd.le le126
                  replace hvc := hvc.le le126
                  replace lE := lE.trans le126
                  refine apd_any otd ou122.sl (fun _ => rfl) (by omega) (by first | omega | (simp only [List.length_cons, List.length_nil, List.length_append, List.length_replicate, List.length_map, List.length_range]; omega)) (fun u130 H127 ou130 off128 hb129 => ?_)
                  have apfXu130 : Apart pf u130 := Apart.ap2 opf.known apfXtd hb129
                  have ap2Xu130 : Apart p2 u130 := Apart.ap2 op2.known ap2Xtd hb129
                  have aouXu130 : Apart ou u130 := Apart.ap2 oou.known aouXtd hb129
                  have apoXu130 : Apart po u130 := Apart.ap2 opo.known apoXtd hb129
                  have apcXu130 : Apart pc u130 := Apart.ap2 opc.known apcXtd hb129
                  have aptdXu130 : Apart ptd u130 := Apart.ap2 optd.known aptdXtd hb129
                  have au122Xu130 : Apart u122 u130 := Apart.ap2 ou122.known atdXu122.symm hb129
                  have nu130 : Nw H u130 := Nw.ap2 ntd lE hb129
                  replace opf := opf.off off128 apfXtd
                  replace op2 := op2.off off128 ap2Xtd
                  replace oou := oou.off off128 aouXtd
                  replace opo := opo.off off128 apoXtd
                  replace opc := opc.off off128 apcXtd
                  replace optd := optd.off off128 aptdXtd
                  replace ou122 := ou122.off off128 atdXu122.symm
                  replace hvc := hvc0.le (off128.le lE ntd)
                  replace lE := off128.le lE ntd
                  refine optd.st0 (by simp) ou130.one ou130.cells (fun H131 optd off132 => ?_)
                  replace opf := opf.off off132 apfXptd
                  replace op2 := op2.off off132 ap2Xptd
                  replace oou := oou.off off132 aouXptd
                  replace opo := opo.off off132 apoXptd
                  replace opc := opc.off off132 apcXptd
                  replace ou122 := ou122.off off132 aptdXu122.symm
                  replace ou130 := ou130.off off132 aptdXu130.symm
                  replace hvc := hvc0.le (off132.le lE nptd)
                  replace lE := off132.le lE nptd
                  replace optd : Cel H131 ptd [u130] := optd
                  have hp := stN_put (L := (stsL c l i)) hs hl hin.1.1 hin.1.2 hin.2.1 hin.2.2 hsn ⟨by omega, by omega⟩ ⟨by omega, by omega⟩ hc118 hg119
                  exact hZ117 _ ⟨u130, _, _, opf, op2, (Own.cast hp.2 oou), opo, opc, optd, ou130, nu130, apfXu130, ap2Xu130, aouXu130, apoXu130, apcXu130, aptdXu130, lE, hp.1, (by simp only [List.length_append, List.length_singleton]; omega)⟩
                · skip
                  have hp := stN_told (L := (stsL c l i)) hs hin.1.1 hin.1.2 hin.2.1 hin.2.2 hsn ⟨by omega, by omega⟩ ⟨by omega, by omega⟩ hnr (fun _ => hg119)
                  exact hZ117 _ ⟨td, _, _, opf, op2, oou, opo, opc, optd, otd, ntd, apfXtd, ap2Xtd, aouXtd, apoXtd, apcXtd, aptdXtd, lE, hp, hcm⟩
              · skip
                refine gop_e (decide_eq_false hc118) ?_
                refine gop_sf ?_
                refine gop_e (decide_eq_false hc118) ?_
                refine gop_sf ?_
                refine gop_e (decide_eq_false hc118) ?_
                refine gop_sf ?_
                refine gop_e (decide_eq_false hc118) ?_
                refine gop_sf ?_
                refine gop_e (decide_eq_false hc118) ?_
                refine gop_sf ?_
                refine ob_i (vPick_ef (decide_eq_false hc118) _ _) ?_
                refine cnd_f1 ?_
                have hp := stN_told (L := (stsL c l i)) hs hin.1.1 hin.1.2 hin.2.1 hin.2.2 hsn ⟨by omega, by omega⟩ ⟨by omega, by omega⟩ hnr (fun h => absurd h hc118)
                exact hZ117 _ ⟨td, _, _, opf, op2, oou, opo, opc, optd, otd, ntd, apfXtd, ap2Xtd, aouXtd, apoXtd, apcXtd, aptdXtd, lE, hp, hcm⟩
            obtain ⟨td, ls, tds, opf, op2, oou, opo, opc, optd, otd, ntd, apfXtd, ap2Xtd, aouXtd, apoXtd, apcXtd, aptdXtd, lE, hsn, hcm⟩ := hI117
            have hvc := hvc0.le lE
            exact nxt (l.length - (t + 1)) (by omega) ⟨t + 1, rfl, by omega, td, _, _, g1L109, g2L109, g6L109, g7L109, g10L109, g17L109, g18L109, g19L109, opf, op2, oou, opo, opc, optd, otd, ntd, apfXtd, ap2Xtd, aouXtd, apoXtd, apcXtd, aptdXtd, lE, (stN_end hsn), (by omega)⟩
          · skip
            have tt := hg110
            have hend := stS_end (show stS c l i ls [] by rw [← List.length_eq_zero_iff.mp (show tds.length = 0 by omega)]; exact hst)
            have hyes : stsL c l (i + 1) = (stsL c l i) ++ [i] := stsL_t hon hnr
            exact hJ93 _ _ ⟨g1L109, g2L109, g6L109, g7L109, g17L109, g18L109, g19L109, opf, op2, (Own.cast (by rw [hyes]; exact ouL_end hend) oou), opo, (Cel.cast (by rw [hyes]; simp) opc), lE⟩
    · skip
      have ti := hg92
      obtain rfl : i = l.length := by omega
      exact hJ23 _ _ ⟨g6L91, g7L91, opf, op2, oou, opo, opc, lE⟩
  · skip
    refine cnd_t1 ?_
    skip
    have hok : ¬ (fieldN 1 r c l) := by assumption
    exact keq (K := K) (by rw [decide_eq_false (show ¬ (fieldN 1 r c l) from by exact hok)]) (hk  (.slice none 0 0) _ (.slice none 0 0) _ (Fam.cast (show [] = selL (fieldN 1 r c l) (prtL r c l (stsL c l l.length)) by exact (selL_f hok).symm) (Fam.nil_of none)) (Own.cast (show [] = selL (fieldN 1 r c l) (plcL r c l (stsL c l l.length)) by exact (selL_f hok).symm) (Own.nil_of none)) (fun b hb => hb.elim) (fun b hb => by simp [bk] at hb) (fun b hb => hb.elim) lE)
end Go.Proofs.YthocjpfibegjcaaGreatDoor
/- Builders of texts: what each of their operations does; strings.Join. -/
namespace Go.Proofs.YthocjpfibegjcaaGreatDoor
open HL
set_option maxRecDepth 100000
namespace HL
/-- A byte as a value. -/
abbrev eC (b : UInt8) : Value := .int .u8 (b.toNat : Int)
section
variable {P : Program} {H : Hp}
theorem val_eqP0 (d : Nat) {t e : TypeId} (b : Option Addr) (ht : P.underlying t = some (.pointer e)) : val P (Op.equalIn (d + 1) t (.pointer none) (.pointer b)) H = some b.isNone := by
  simp only [Op.equalIn, val_bind', val_underlying, ht, Option.bind_some]; cases b <;> rfl
theorem val_eqP1 (d : Nat) {t e : TypeId} (a : Addr) (ht : P.underlying t = some (.pointer e)) : val P (Op.equalIn (d + 1) t (.pointer (some a)) (.pointer none)) H = some false := by
  simp only [Op.equalIn, val_bind', val_underlying, ht, Option.bind_some]; rfl
theorem val_eqP2 (d : Nat) {t e : TypeId} (a : Addr) {k : Nat} (ht : P.underlying t = some (.pointer e)) (he : szO P e = some (k + 1)) : val P (Op.equalIn (d + 1) t (.pointer (some a)) (.pointer (some a))) H = some true := by
  simp only [Op.equalIn, val_bind', val_underlying, ht, Option.bind_some, val_sizeOf, he]
  rw [if_pos (by omega)]
  simp only [sameAddr, beq_self_eq_true, if_true]
  rfl
theorem val_ptr_nil {t e : TypeId} {x y : Operand} (ht : P.underlying t = some (.pointer e)) : val P (do eqGuard .eql t x y (.pointer none) (.pointer none); binOp .eql t (.pointer none) (.pointer none)) H = some (.bool true) := by
  have e1 : val P (Op.equal t (.pointer none) (.pointer none)) H = some true := val_eqP0 9999 none ht
  rw [val_bind', val_eqGuard_other P .eql t x y _ _ H (by simp) (by simp)]
  simp only [Option.bind_some, binOp, val_bind', e1, val_pure]
theorem val_ptr_some {t e : TypeId} {x y : Operand} {a : Addr} (ht : P.underlying t = some (.pointer e)) : val P (do eqGuard .eql t x y (.pointer (some a)) (.pointer none); binOp .eql t (.pointer (some a)) (.pointer none)) H = some (.bool false) := by
  have e1 : val P (Op.equal t (.pointer (some a)) (.pointer none)) H = some false := val_eqP1 9999 a ht
  rw [val_bind', val_eqGuard_other P .eql t x y _ _ H (by simp) (by simp)]
  simp only [Option.bind_some, binOp, val_bind', e1, val_pure]
theorem val_ptr_same {t e : TypeId} {x y : Operand} {a : Addr} {k : Nat} (ht : P.underlying t = some (.pointer e)) (he : szO P e = some (k + 1)) : val P (do eqGuard .neq t x y (.pointer (some a)) (.pointer (some a)); binOp .neq t (.pointer (some a)) (.pointer (some a))) H = some (.bool false) := by
  have e1 : val P (Op.equal t (.pointer (some a)) (.pointer (some a))) H = some true := val_eqP2 9999 a ht he
  rw [val_bind', val_eqGuard_other P .neq t x y _ _ H (by simp) (by simp)]
  simp only [Option.bind_some, binOp, val_bind', e1, val_pure, Bool.not_true]
theorem val_viewAt {r : Nat} {c : Array Value} {e : TypeId} {f : Nat × Nat} (h : H r = some (.cells c e f)) : val P (viewAt r) H = some none := by
  simp only [viewAt, shape, val_bind', val, h, Option.bind_some]
  rfl
theorem val_seenAt {a : Addr} {c : Array Value} {e : TypeId} {f : Nat × Nat} (h : H a.block = some (.cells c e f)) : val P (Conv.seenAt a) H = some a := by
  simp only [Conv.seenAt, val_bind', val_viewAt h, Option.bind_some]
  rfl
theorem val_cellsIn {r : Nat} {c : Array Value} {e : TypeId} {f : Nat × Nat} (h : H r = some (.cells c e f)) : val P (cellsIn r) H = some (some c.size) := by
  simp only [cellsIn, shape, val_bind', val, h, Option.bind_some]
  rfl
theorem val_variablesAt {a : Addr} {c : Array Value} {e u : TypeId} {f : Nat × Nat} {n : Nat} (h : H a.block = some (.cells c e f)) (hl : liesAt P P.depth e (c.size / P.cellsOf e) a.off u n = true) : val P (variablesAt a u n) H = some true := by
  simp only [variablesAt, shape, program, val_bind', val, h, Option.bind_some]
  rw [hl]
  rfl
theorem val_up {s d t : TypeId} {k : Nat} {a : Addr} {c : Array Value} {e : TypeId} {f : Nat × Nat} (hs : P.underlying s = some (.pointer t)) (hd : P.underlying d = some .unsafePointer) (ht : szO P t = some (k + 1)) (h : H a.block = some (.cells c e f)) (ha : a.off < c.size) :
    val P (convert s d (.pointer (some a))) H = some (.pointer (some a)) := by
  simp only [convert, val_bind', val_underlying, hs, hd, Option.bind_some, Conv.unsafePointer, val_seenAt h, val_cellsIn h, val_sizeOf, ht]
  rw [if_neg]
  · rfl
  · simp; omega
theorem val_down {s d u : TypeId} {a : Addr} {c : Array Value} {e : TypeId} {f : Nat × Nat} {k : Nat} (hs : P.underlying s = some .unsafePointer) (hd : P.underlying d = some (.pointer u)) (hu : szO P u = some (k + 1)) (h : H a.block = some (.cells c e f)) (hl : liesAt P P.depth e (c.size / P.cellsOf e) a.off u 1 = true) :
    val P (convert s d (.pointer (some a))) H = some (.pointer (some a)) := by
  simp only [convert, val_bind', val_underlying, hs, hd, Option.bind_some, Conv.unsafePointer, val_seenAt h, val_sizeOf, hu, val_variablesAt h hl]
  rw [if_pos (by simp)]
  rfl
theorem rowAt_plain {d e u count off n : Nat} (hs : P.cellsOf e = 1) (hf : sameLayout P P.depth e u = true) (h : off + n ≤ count) : liesAt P (d + 1) e count off u n = true := by
  have hd : ∃ d', P.depth = d' + 1 := by
    cases hd : P.depth with
    | zero => rw [hd] at hf; simp [sameLayout] at hf
    | succ d' => exact ⟨d', rfl⟩
  obtain ⟨d', hd⟩ := hd
  unfold liesAt
  rw [hd]
  unfold rowAt
  simp only [hs, Nat.div_one, Nat.mod_one]
  rw [hd] at hf
  simp [hf, h]
theorem lies_plain {e u count off n : Nat} (hs : P.cellsOf e = 1) (hf : sameLayout P P.depth e u = true) (h : off + n ≤ count) : liesAt P P.depth e count off u n = true := by
  obtain ⟨d', hd⟩ : ∃ d', P.depth = d' + 1 := by
    cases hd : P.depth with
    | zero => rw [hd] at hf; simp [sameLayout] at hf
    | succ d' => exact ⟨d', rfl⟩
  have := rowAt_plain (d := d') hs hf h
  rw [← hd] at this
  exact this
theorem val_loadBytes : ∀ (l : List UInt8) (a : Addr) (acc : ByteArray), (∀ i (h : i < l.length), H.cell? (a.add i) = some (eC l[i])) → val P (loadBytes a acc l.length) H = some ⟨acc.data ++ l.toArray⟩
  | [], a, acc, _ => by simp [loadBytes, val_pure]
  | x :: l, a, acc, h => by
    have h0 := h 0 (by simp)
    rw [show a.add 0 = a from rfl] at h0
    have ih := val_loadBytes l (a.add 1) (acc.push x) (fun i hi => by
      have := h (i + 1) (by simpa using hi)
      rw [show (a.add 1).add i = a.add (i + 1) by
        unfold Addr.add
        by_cases hi : i = 0
        · subst hi; rfl
        · simp [hi, Nat.add_comm, Nat.add_left_comm]]
      simpa using this)
    simp only [List.length_cons, loadBytes, load, val_bind', val, h0, Option.bind_some, List.getElem_cons_zero]
    rw [show (Int.toNat ((x.toNat : Nat) : Int)).toUInt8 = x by simp, ih]
    congr 2
    show acc.data.push x ++ l.toArray = acc.data ++ (x :: l).toArray
    simp
theorem digits_size : ∀ (n t : Nat) (acc : Array Value), (Extern.BytealgMakeNoZero.digits n t acc).size = acc.size + n
  | 0, _, _ => rfl
  | n + 1, t, acc => by
    unfold Extern.BytealgMakeNoZero.digits
    rw [digits_size]; simp; omega
theorem hp_makeNoZero {params results : Array TypeId} {t e : TypeId} {n : Int} {Q : Value → Hp → Prop} (hr : results[0]? = some t) (ht : P.underlying t = some (.slice e)) (h0 : 0 ≤ n) (h1 : n ≤ 1099511627776)
    (hk : ∀ c r (cs : Array Value), n.toNat ≤ c → c < 9223372036854775808 → H r = none → cs.size = c → Q (.slice (some ⟨r, 0, none⟩) n.toNat c) (H.put r (.cells cs e (0, 0)))) : hp P (Extern.BytealgMakeNoZero.makeNoZero params results #[.int .i64 n]) H Q := by
  delta Extern.BytealgMakeNoZero.makeNoZero
  have e0 : ∀ (f : Int → Sem Value) (g : Array Value → Sem Value), Extern.BytealgMakeNoZero.makeNoZero.match_3 (fun _ => Sem Value) #[.int .i64 n] f g = f n := fun _ _ => rfl
  rw [e0]
  simp only [hr]
  refine hp_val_bind P _ _ H Q _ (by rw [val_underlying, ht]) ?_
  simp only
  rw [if_neg (by simp; omega)]
  simp only [choose, hp_bind', hp, Question.forced, Bool.false_eq_true, if_false]
  intro tt
  refine hp_askRoom P _ H _ ?_
  intro t2
  refine hp_newRow P _ _ _ _ ?_
  intro r hr'
  have hcut : (Question.appendCap n.toNat 0 e).cut tt = n.toNat + tt % (2 ^ 63 - n.toNat) := rfl
  refine hk _ r _ ?_ ?_ hr' (by rw [digits_size]; simp)
  · rw [hcut]; omega
  · rw [hcut]
    have : tt % (2 ^ 63 - n.toNat) < 2 ^ 63 - n.toNat := Nat.mod_lt _ (by omega)
    omega
end
end HL
/-- A Builder's header and its room. -/
structure Bd (e eb : TypeId) (H : Hp) (r b c : Nat) (l : List UInt8) : Prop where
  ne : r ≠ b
  hdr : H r = some (.cells #[.pointer (some ⟨r, 0, none⟩), .slice (some ⟨b, 0, none⟩) l.length c] e (0, 0))
  buf : ∃ cs : Array Value, H b = some (.cells cs eb (0, 0)) ∧ cs.size = c ∧ l.length ≤ c ∧ ∀ i (h : i < l.length), cs[i]? = some (eC l[i])
noncomputable def nzR : Array TypeId := ((prg.funcs[I.internal_bytealg_MakeNoZero]?).map (·.resultTypes)).getD #[]
noncomputable def nzT : TypeId := (nzR[0]?).getD 0
noncomputable def nzE : TypeId := match prg.underlying nzT with | some (.slice e) => e | _ => 0
section
variable {H : Hp} {K : Value → Hp → Prop} {r b c : Nat} {e eb : TypeId} {l s : List UInt8}
theorem vLoad_cell {H : Hp} {r k : Nat} {c : Array Value} {e : TypeId} {f : Nat × Nat} {v : Value} (h : H r = some (.cells c e f)) (hv : c[k]? = some v) : vLoad (.pointer (some ⟨r, k, none⟩)) H = some v := by
  simp only [vLoad, Hp.cell?, h]
  simpa using hv
theorem st_cell {H : Hp} {r k : Nat} {c : Array Value} {e : TypeId} {x : Value} {K : Hp → Prop} (h : H r = some (.cells c e (0, 0))) (hk : k < c.size) (ho : oneCell x = true) (hz : x.cells = #[x]) (hK : K (H.put r (.cells (c.setIfInBounds k x) e (0, 0)))) : st 1 (.pointer (some ⟨r, k, none⟩)) x H K := by
  simp only [HL.st, hz, List.toList_toArray, List.size_toArray, List.length_singleton, true_and, stC, add_none, Nat.add_zero]
  refine ⟨ho, ?_, ?_, ?_⟩
  · simp only [Hp.cell?, h]; simp [hk]
  · simp only [Hp.frozen?, h]; simp
  · simp only [Hp.setCell, h]; exact hK
end
noncomputable def bdP : TypeId := ((prg.funcs[I.pstrings_Builder_copyCheck]?).bind (·.params[0]?)).getD 0
noncomputable def bdE : TypeId := match prg.underlying bdP with | some (.pointer e) => e | _ => 0
section
variable {H : Hp} {K : Value → Hp → Prop} {r b c : Nat} {eb : TypeId} {l s : List UInt8}
theorem C.Builder_copyCheck_new {u : Value} (h : H r = some (.cells #[.pointer none, u] bdE (0, 0))) (hk : K (.tuple #[]) (H.put r (.cells #[.pointer (some ⟨r, 0, none⟩), u] bdE (0, 0)))) :
    HT prg I.pstrings_Builder_copyCheck [.pointer (some ⟨r, 0, none⟩)].toArray H K := by
  refine R.pstrings_Builder_copyCheck ?_
  unfold F.pstrings_Builder_copyCheck
  refine ob_i (a := .pointer (some ⟨r, 0, none⟩)) rfl ?_
  refine ob_i (a := .pointer (some ⟨r, 0, none⟩)) rfl ?_
  refine ob_i (vLoad_cell h rfl) ?_
  refine ob_i (val_ptr_nil (e := bdE) (by kernel_rfl)) ?_
  refine cnd_t1 ?_
  refine hp_of_val prg _ _ _ _ (val_up (t := bdE) (k := 1) (by kernel_rfl) (by kernel_rfl) (by kernel_rfl) h (by simp)) ?_
  have e0 : ∀ Q, hp prg (callFunc I.internal_abi_NoEscape [Value.pointer (some ⟨r, 0, none⟩)].toArray) H Q = Q (.value (.pointer (some ⟨r, 0, none⟩))) H := fun Q => by kernel_rfl
  rw [e0]
  refine hp_of_val prg _ _ _ _ (val_down (u := bdE) (k := 1) (by kernel_rfl) (by kernel_rfl) (by kernel_rfl) h (by kernel_rfl)) ?_
  refine ob_i (a := .pointer (some ⟨r, 0, none⟩)) rfl ?_
  refine ob_i (a := .pointer (some ⟨r, 0, none⟩)) rfl ?_
  exact st_cell h (by simp) rfl rfl hk
theorem C.Builder_copyCheck_old {u : Value} (h : H r = some (.cells #[.pointer (some ⟨r, 0, none⟩), u] bdE (0, 0))) (hk : K (.tuple #[]) H) :
    HT prg I.pstrings_Builder_copyCheck [.pointer (some ⟨r, 0, none⟩)].toArray H K := by
  refine R.pstrings_Builder_copyCheck ?_
  unfold F.pstrings_Builder_copyCheck
  refine ob_i (a := .pointer (some ⟨r, 0, none⟩)) rfl ?_
  refine ob_i (a := .pointer (some ⟨r, 0, none⟩)) rfl ?_
  refine ob_i (vLoad_cell h rfl) ?_
  refine ob_i (val_ptr_some (e := bdE) (by kernel_rfl)) ?_
  refine cnd_f1 ?_
  refine ob_i (a := .pointer (some ⟨r, 0, none⟩)) rfl ?_
  refine ob_i (a := .pointer (some ⟨r, 0, none⟩)) rfl ?_
  refine ob_i (vLoad_cell h rfl) ?_
  refine ob_i (val_ptr_same (e := bdE) (k := 1) (by kernel_rfl) (by kernel_rfl)) ?_
  refine cnd_f1 ?_
  exact hk
theorem C.Builder_Grow {n : Int} (h : H r = some (.cells #[.pointer none, .slice none 0 0] bdE (0, 0))) (n0 : 1 ≤ n) (n1 : n ≤ 1099511627776)
    (hk : ∀ b c H', n.toNat ≤ c → c < 9223372036854775808 → H b = none → Bd bdE nzE H' r b c [] → (∀ x o, H x = some o → x ≠ r → H' x = some o) → K (.tuple #[]) H') :
    HT prg I.pstrings_Builder_Grow [.pointer (some ⟨r, 0, none⟩), .int .i64 n].toArray H K := by
  refine R.pstrings_Builder_Grow ?_
  unfold F.pstrings_Builder_Grow
  refine C.Builder_copyCheck_new h ?_
  have h1 : (H.put r (.cells #[.pointer (some ⟨r, 0, none⟩), .slice none 0 0] bdE (0, 0))) r = some (.cells #[.pointer (some ⟨r, 0, none⟩), .slice none 0 0] bdE (0, 0)) := Hp.put_same _ _ _
  refine jn_i (fun σ H' => σ 0 = .pointer (some ⟨r, 0, none⟩) ∧ σ 1 = .int .i64 n ∧ H' = H.put r (.cells #[.pointer (some ⟨r, 0, none⟩), .slice none 0 0] bdE (0, 0))) (fun σ H2 hP => ?_) (fun J hJ => ?_)
  · obtain ⟨g0, g1, rfl⟩ := hP
    simp only [g0, g1]
    refine ob_i (a := .pointer (some ⟨r, 0, none⟩)) rfl ?_
    refine ob_i (a := .pointer (some ⟨r, 1, none⟩)) rfl ?_
    refine ob_i (vLoad_cell h1 rfl) ?_
    refine ob_i (a := .int .i64 0) rfl ?_
    refine ob_i (a := .pointer (some ⟨r, 0, none⟩)) rfl ?_
    refine ob_i (a := .pointer (some ⟨r, 1, none⟩)) rfl ?_
    refine ob_i (vLoad_cell h1 rfl) ?_
    refine ob_i (a := .int .i64 0) rfl ?_
    refine ob_i (vInt_sub (by omega) (by omega)) ?_
    refine ob_i (vInt_lss _ _ _) ?_
    rw [decide_eq_true (show (0 : Int) - 0 < n by omega)]
    refine cnd_t1 ?_
    refine R.pstrings_Builder_grow ?_
    unfold F.pstrings_Builder_grow
    refine ob_i (a := .pointer (some ⟨r, 0, none⟩)) rfl ?_
    refine ob_i (a := .pointer (some ⟨r, 1, none⟩)) rfl ?_
    refine ob_i (vLoad_cell h1 rfl) ?_
    refine ob_i (a := .int .i64 0) rfl ?_
    refine ob_i (vInt_mul (by omega) (by omega)) ?_
    refine ob_i (vInt_add (by omega) (by omega)) ?_
    refine ob_i (a := .pointer (some ⟨r, 0, none⟩)) rfl ?_
    refine ob_i (a := .pointer (some ⟨r, 1, none⟩)) rfl ?_
    refine ob_i (vLoad_cell h1 rfl) ?_
    refine ob_i (a := .int .i64 0) rfl ?_
    rw [show (2 : Int) * 0 + n = n by omega]
    have e0 : ∀ H Q, hp prg (callFunc I.internal_bytealg_MakeNoZero [Value.int .i64 n].toArray) H Q = hp prg (do pure (Next.value (← Extern.BytealgMakeNoZero.makeNoZero nzR nzR #[.int .i64 n]))) H Q := fun H Q => by kernel_rfl
    rw [e0]
    refine hp_v ?_
    refine hp_makeNoZero (t := nzT) (e := nzE) (by kernel_rfl) (by kernel_rfl) (by omega) n1 (fun c b cs hc1 hc2 hb hcs => ?_)
    have hrb : r ≠ b := by rintro rfl; rw [h1] at hb; exact absurd hb (by simp)
    have hbH : H b = none := by rw [Hp.put_ne _ _ (Ne.symm hrb)] at hb; exact hb
    refine ⟨Le.put _ hb, ?_⟩
    have e1 : vSl3 1 (.slice (some ⟨b, 0, none⟩) n.toNat c) none (some (.int .i64 0)) none = some (.slice (some ⟨b, 0, none⟩) 0 c) := by
      simp only [vSl3, vSl, bnd]
      rw [if_pos ⟨by omega, by omega⟩]
      simp only [Option.map_some, Nat.zero_mul, Nat.sub_zero]
      congr 1
      split <;> rfl
    refine ob_i e1 ?_
    have h2 : ((H.put r (.cells #[.pointer (some ⟨r, 0, none⟩), .slice none 0 0] bdE (0, 0))).put b (.cells cs nzE (0, 0))) r = some (.cells #[.pointer (some ⟨r, 0, none⟩), .slice none 0 0] bdE (0, 0)) := by
      rw [Hp.put_ne _ _ hrb]; exact h1
    refine ob_i (a := .pointer (some ⟨r, 0, none⟩)) rfl ?_
    refine ob_i (a := .pointer (some ⟨r, 1, none⟩)) rfl ?_
    refine ob_i (vLoad_cell h2 rfl) ?_
    refine hp_v ?_
    refine hp_of_val prg _ _ _ (.int .i64 0) (by kernel_rfl) ?_
    refine ob_i (a := .pointer (some ⟨r, 0, none⟩)) rfl ?_
    refine ob_i (a := .pointer (some ⟨r, 1, none⟩)) rfl ?_
    refine st_cell h2 (by simp) rfl rfl ?_
    refine hk b c _ hc1 hc2 hbH ⟨hrb, Hp.put_same _ _ _, cs, by rw [Hp.put_ne _ _ (Ne.symm hrb), Hp.put_same], hcs, by simp, fun i hi => absurd hi (by simp)⟩ (fun x o hx hxr => ?_)
    have hxb : x ≠ b := by rintro rfl; rw [hbH] at hx; exact absurd hx (by simp)
    rw [Hp.put_ne _ _ hxr, Hp.put_ne _ _ hxb, Hp.put_ne _ _ hxr]
    exact hx
  · refine ob_i (vInt_lss _ _ _) ?_
    rw [decide_eq_false (show ¬ n < 0 by omega)]
    refine cnd_f1 ?_
    exact hJ _ _ ⟨rfl, rfl, rfl⟩
theorem firstC_str {H : Hp} : firstC H 1 s.length (vS s) = some (s.map eC) := by
  simp only [firstC]
  congr 1
  have : (tS s).extract 0 s.length = tS s := by rw [tS_extract]; simp
  rw [this, tS_data]
theorem C.Builder_WriteString (h : Bd bdE eb H r b c l) (hc : l.length + s.length ≤ c)
    (hk : ∀ H', Bd bdE eb H' r b c (l ++ s) → (∀ x o, H x = some o → x ≠ r → x ≠ b → H' x = some o) → K (.tuple #[.int .i64 s.length, .nilIface]) H') :
    HT prg I.pstrings_Builder_WriteString [.pointer (some ⟨r, 0, none⟩), vS s].toArray H K := by
  refine R.pstrings_Builder_WriteString ?_
  unfold F.pstrings_Builder_WriteString
  refine C.Builder_copyCheck_old h.hdr ?_
  refine ob_i (a := .pointer (some ⟨r, 0, none⟩)) rfl ?_
  refine ob_i (a := .pointer (some ⟨r, 1, none⟩)) rfl ?_
  refine ob_i (a := .slice (some ⟨b, 0, none⟩) l.length c) (vLoad_cell h.hdr rfl) ?_
  obtain ⟨cs, hb, hcs, hlc, hel⟩ := h.buf
  have hlen : lenO (vS s) = some s.length := rfl
  simp only [HL.apd, hlen]
  rw [if_pos hc]
  simp only [firstC_str]
  refine stC_run (b := b) (e := eb) (s.map eC) _ 0 cs H (by rw [Nat.mul_one]; unfold Addr.add; split <;> rfl) (by rw [Nat.mul_one]; unfold Addr.add; split <;> rfl) hb (by rw [Nat.mul_one, add_none]; simp; omega) (by simp; intro x _; rfl) ?_
  intro H' cs' h1 h2 h3 h4 h5
  rw [Nat.mul_one, add_none] at h3 h4
  simp only [Nat.add_zero, Nat.zero_add] at h3 h4
  have hr' : H' r = some (.cells #[.pointer (some ⟨r, 0, none⟩), .slice (some ⟨b, 0, none⟩) l.length c] bdE (0, 0)) := by rw [h5 r h.ne]; exact h.hdr
  refine ob_i (a := .pointer (some ⟨r, 0, none⟩)) rfl ?_
  refine ob_i (a := .pointer (some ⟨r, 1, none⟩)) rfl ?_
  refine st_cell hr' (by simp) rfl rfl ?_
  refine ob_i (vLenS_t s) ?_
  refine hk _ ⟨h.ne, by rw [Hp.put_same]; simp, cs', by rw [Hp.put_ne _ _ (Ne.symm h.ne)]; exact h1, by rw [h2, hcs], by simpa using hc, fun i hi => ?_⟩ (fun x o hx hxr hxb => ?_)
  · by_cases hil : i < l.length
    · rw [h3 i hil, hel i hil, List.getElem_append_left hil]
    · have := h4 (i - l.length) (by simp at hi ⊢; omega)
      rw [show l.length + (i - l.length) = i by omega] at this
      rw [this, List.getElem_append_right (by omega)]; simp
  · rw [Hp.put_ne _ _ hxr, h5 x hxb]; exact hx
theorem C.Builder_String (h : Bd bdE nzE H r b c l) (hl : 0 < l.length) (hl2 : l.length ≤ 9223372036854775807) (hk : ∀ H', (∀ x o, H x = some o → x ≠ r → x ≠ b → H' x = some o) → K (vS l) H') :
    HT prg I.pstrings_Builder_String [.pointer (some ⟨r, 0, none⟩)].toArray H K := by
  obtain ⟨cs, hb, hcs, hlc, hel⟩ := h.buf
  have e1 : ∀ ts ty H, val prg (Builtin.unsafeSliceData_ ts ty #[.slice (some ⟨b, 0, none⟩) l.length c]) H = some (.pointer (some ⟨b, 0, none⟩)) := fun ts ty H => by
    obtain ⟨c', hc'⟩ : ∃ c', c = c' + 1 := ⟨c - 1, by omega⟩
    rw [hc']
    kernel_rfl
  have hld : val prg (loadBytes ⟨b, 0, none⟩ .empty l.length) H = some ⟨ByteArray.empty.data ++ l.toArray⟩ := val_loadBytes l _ _ (fun i hi => by
    rw [add_none]
    simp only [Hp.cell?, hb, Nat.zero_add, hel i hi]; rfl)
  have e2 : ∀ (ts : Array TypeId) ty pt (Q : Value → Hp → Prop), ts[0]? = some pt → prg.underlying pt = some (.pointer nzE) → (∀ H', (∀ x o, H x = some o → x ≠ r → x ≠ b → H' x = some o) → Q (vS l) H') → hp prg (Builtin.unsafeString_ ts ty #[.pointer (some ⟨b, 0, none⟩), .int .i64 l.length]) H Q := fun ts ty pt Q ht hpt hQ => by
    delta Builtin.unsafeString_
    have e0 : ∀ (f : Option Addr → Value → Sem Value) (g : Array Value → Sem Value), Builtin.unsafeString_.match_3 (fun _ => Sem Value) #[.pointer (some ⟨b, 0, none⟩), .int .i64 l.length] f g = f (some ⟨b, 0, none⟩) (.int .i64 l.length) := fun _ _ => rfl
    rw [e0]
    refine hp_val_bind prg _ _ H Q (l.length : Int) (by kernel_rfl) ?_
    simp only [ht]
    have em : IntKind.i64.max = 9223372036854775807 := by decide
    rw [if_neg (by omega), if_neg (by rw [em]; omega)]
    have hn0 : ¬ ((l.length : Int) = 0) := by omega
    simp only [hn0, if_false]
    refine hp_val_bind prg _ _ H Q nzE (by simp only [elemOf, val_bind', val_underlying, hpt, Option.bind_some]; rfl) ?_
    have hs1 : prg.cellsOf nzE = 1 := by kernel_rfl
    refine hp_val_bind prg _ _ H Q true (val_variablesAt hb (by rw [hs1, Nat.div_one]; exact lies_plain hs1 (by kernel_rfl) (by simp; omega))) ?_
    simp only [if_true]
    rw [Int.toNat_natCast]
    refine hp_val_bind prg _ _ H Q _ hld ?_
    simp only [freeze, hp_bind', hp, hb]
    rw [if_neg (by omega)]
    have et : (⟨ByteArray.empty.data ++ l.toArray⟩ : ByteArray) = tS l := by
      show (⟨#[] ++ l.toArray⟩ : ByteArray) = _
      rw [Array.empty_append]; rfl
    rw [et]
    exact hQ _ (fun x o hx hxr hxb => by rw [Hp.put_ne _ _ hxb]; exact hx)
  refine R.pstrings_Builder_String ?_
  unfold F.pstrings_Builder_String
  refine ⟨?_, ?_⟩
  · refine ob_i (a := .pointer (some ⟨r, 0, none⟩)) rfl ?_
    refine ob_i (a := .pointer (some ⟨r, 1, none⟩)) rfl ?_
    refine ob_i (a := .slice (some ⟨b, 0, none⟩) l.length c) (vLoad_cell h.hdr rfl) ?_
    refine ob_i (a := .pointer (some ⟨r, 0, none⟩)) rfl ?_
    refine ob_i (a := .pointer (some ⟨r, 1, none⟩)) rfl ?_
    refine ob_i (a := .slice (some ⟨b, 0, none⟩) l.length c) (vLoad_cell h.hdr rfl) ?_
    refine ob_i (a := .int .i64 l.length) rfl ?_
    refine hp_v (hp_of_val prg _ _ _ _ (e1 _ _ _) ?_)
    refine hp_v (e2 _ _ _ _ rfl (by kernel_rfl) (fun H' hH' => hk H' hH'))
  · refine ob_i (a := .pointer (some ⟨r, 0, none⟩)) rfl ?_
    refine ob_i (a := .pointer (some ⟨r, 1, none⟩)) rfl ?_
    refine ob_i (a := .slice (some ⟨b, 0, none⟩) l.length c) (vLoad_cell h.hdr rfl) ?_
    refine ob_i (a := .pointer (some ⟨r, 0, none⟩)) rfl ?_
    refine ob_i (a := .pointer (some ⟨r, 1, none⟩)) rfl ?_
    refine hp_v (hp_of_val prg _ _ _ _ (e1 _ _ _) ?_)
    refine ob_i (a := .slice (some ⟨b, 0, none⟩) l.length c) (vLoad_cell h.hdr rfl) ?_
    refine ob_i (a := .int .i64 l.length) rfl ?_
    refine hp_v (e2 _ _ _ _ rfl (by kernel_rfl) (fun H' hH' => hk H' hH'))
end
end Go.Proofs.YthocjpfibegjcaaGreatDoor
/- strings.Join, with one byte between the texts. -/
namespace Go.Proofs.YthocjpfibegjcaaGreatDoor
open HL
set_option maxRecDepth 100000
theorem joinT_len (x : UInt8) (a : List UInt8) : ∀ r : List (List UInt8), (joinT [x] (a :: r)).length = r.length + (a :: r).flatten.length
  | [] => by simp [joinT]
  | b :: r => by
    have ih := joinT_len x a r
    simp only [joinT, List.flatMap_cons, List.length_append, List.length_cons, List.length_nil, List.flatten_cons] at ih ⊢
    omega
theorem flat_snoc (ls : List (List UInt8)) (x : List UInt8) : (ls ++ [x]).flatten.length = ls.flatten.length + x.length := by simp
theorem flat_take (ls : List (List UInt8)) (t : Nat) : (ls.take t).flatten.length ≤ ls.flatten.length := by
  have := congrArg (fun l => l.flatten.length) (List.take_append_drop t ls)
  simp only [List.flatten_append, List.length_append] at this
  omega
theorem flat_at (ls : List (List UInt8)) {t : Nat} (ht : t < ls.length) : (ls.take t).flatten.length + (at_ [] ls (t : Int)).length ≤ ls.flatten.length := by
  have := flat_take ls (t + 1)
  rw [take_at [] ls ht, flat_snoc] at this
  exact this
theorem C.strings_Join {v : Value} {ls : List (List UInt8)} {x : UInt8} {H : Hp} {K : Value → Hp → Prop} (hv : Sl vS H v ls) (h1 : ls.length ≤ 1000000) (h2 : ls.flatten.length ≤ 1000000000) (hk : ∀ H', Le H H' → K (vS (joinT [x] ls)) H') :
    HT prg I.strings_Join [v, vS [x]].toArray H K := by
  refine R.strings_Join ?_
  unfold F.strings_Join
  refine ob_i hv.len ?_
  refine ob_i (vInt_eql _ _ _) ?_
  refine cnd_d (fun h0 => ?_) (fun h0 => ?_)
  · obtain rfl : ls = [] := List.length_eq_zero_iff.mp (by omega)
    exact hk H (Le.refl H)
  refine ob_i (vInt_eql _ _ _) ?_
  refine cnd_d (fun h3 => ?_) (fun h3 => ?_)
  · refine ob_i (hv.ix (by omega) (by omega)) ?_
    refine ob_i (hv.ld [] (by omega) (by omega)) ?_
    obtain ⟨a, rfl⟩ := List.length_eq_one_iff.mp (show ls.length = 1 by omega)
    have := hk H (Le.refl H)
    simp only [joinT, List.flatMap_nil, List.append_nil] at this
    exact this
  obtain ⟨a, r, rfl⟩ : ∃ a r, ls = a :: r := by cases ls with | nil => simp at h0 | cons a r => exact ⟨a, r, rfl⟩
  have hjl := joinT_len x a r
  have hrl : (a :: r).length = r.length + 1 := rfl
  have h2' := h2
  generalize hLS : a :: r = ls at *
  refine jn_i (fun σ H' => σ 0 = v ∧ σ 1 = vS [x] ∧ σ 5 = .int .i64 (r.length : Int) ∧ H' = H) (fun σ H6 hP => ?_) (fun J6 hJ6 => ?_)
  · obtain ⟨g0, g1, g5, rfl⟩ := hP
    refine jn_i (fun σ' H' => σ' 0 = v ∧ σ' 1 = vS [x] ∧ σ' 5 = .int .i64 ((joinT [x] ls).length : Int) ∧ H' = H6) (fun σ7 H7 hP => ?_) (fun J7 hJ7 => ?_)
    · obtain ⟨g0, g1, g5, rfl⟩ := hP
      simp only [g0, g1, g5]
      intro rb hrb
      have hH : (H7.put rb (.cells #[.pointer none, .slice none 0 0] bdE (0, 0))) rb = some (.cells #[.pointer none, .slice none 0 0] bdE (0, 0)) := Hp.put_same _ _ _
      have hle1 : Le H7 (H7.put rb (.cells #[.pointer none, .slice none 0 0] bdE (0, 0))) := Le.put _ hrb
      refine (?_ : HT prg I.pstrings_Builder_Grow [.pointer (some ⟨rb, 0, none⟩), .int .i64 ((joinT [x] ls).length : Int)].toArray (H7.put rb (.cells #[.pointer none, .slice none 0 0] bdE (0, 0))) _)
      refine C.Builder_Grow hH (by omega) (by omega) (fun b c H11 hc1 hc2 hb hB hoth => ?_)
      have hbH : H7 b = none := by
        have : b ≠ rb := by rintro rfl; rw [hH] at hb; exact absurd hb (by simp)
        rw [Hp.put_ne _ _ this] at hb; exact hb
      have hle2 : Le H7 H11 := fun y o hy => hoth y o (hle1 y o hy) (by rintro rfl; rw [hrb] at hy; exact absurd hy (by simp))
      have keep : ∀ {A B : Hp}, Le H7 A → (∀ y o, A y = some o → y ≠ rb → y ≠ b → B y = some o) → Le H7 B := fun hA hAB y o hy =>
        hAB y o (hA y o hy) (by rintro rfl; rw [hrb] at hy; exact absurd hy (by simp)) (by rintro rfl; rw [hbH] at hy; exact absurd hy (by simp))
      have hv11 := hv.le hle2
      refine ob_i (hv11.ix (by omega) (by omega)) ?_
      refine ob_i (hv11.ld [] (by omega) (by omega)) ?_
      have ha0 : at_ [] ls 0 = a := by rw [← hLS]; rfl
      rw [ha0]
      have hal : a.length ≤ (joinT [x] ls).length := by
        rw [hjl, ← hLS]; simp; omega
      refine C.Builder_WriteString hB (by rw [Int.toNat_natCast] at hc1; simp; omega) (fun H15 hB15 hoth15 => ?_)
      have hle3 := keep hle2 hoth15
      rw [List.nil_append] at hB15
      have e1 : vSl3 1 v (some (.int .i64 1)) none none = some (vSl3 1 v (some (.int .i64 1)) none none).get! := by
        obtain ⟨y, _, hy2, _⟩ := hv.cut (lo := 1) (hi := (ls.length : Int)) (by omega) (by omega) (by omega)
        rw [hy2 rfl]; rfl
      obtain ⟨y, _, hy2, _, _, hy5, _⟩ := hv.cut (lo := 1) (hi := (ls.length : Int)) (by omega) (by omega) (by omega)
      have hy2 := hy2 rfl
      have hyl : ((ls.drop (Int.toNat 1)).take ((ls.length : Int).toNat - Int.toNat 1)) = r := by
        rw [← hLS]; simp
      rw [hyl] at hy5
      refine jn_i (fun σ' H' => σ' 8 = .pointer (some ⟨rb, 0, none⟩) ∧ Bd bdE nzE H' rb b c (joinT [x] ls) ∧ Le H7 H') (fun σ16 H16 hP => ?_) (fun J16 hJ16 => ?_)
      · obtain ⟨g8, hB16, hle16⟩ := hP
        simp only [g8]
        refine C.Builder_String hB16 (by omega) (by omega) (fun H' hoth' => ?_)
        exact hk H' (keep hle16 hoth')
      · refine ob_i hy2 ?_
        refine ob_i hy5.len ?_
        refine ⟨fun n σ' H' => ∃ t : Nat, n = r.length - t ∧ t ≤ r.length ∧ σ' 1 = vS [x] ∧ σ' 8 = .pointer (some ⟨rb, 0, none⟩) ∧ σ' 63 = y ∧ σ' 64 = .int .i64 (r.length : Int) ∧ σ' 65 = .int .i64 (t : Int) ∧ Bd bdE nzE H' rb b c (joinT [x] (ls.take (t + 1))) ∧ Le H7 H',
          ⟨_, 0, rfl, by omega, g1, rfl, rfl, rfl, rfl, by rw [← hLS]; simpa [joinT] using hB15, hle3⟩, ?_⟩
        rintro n σ' H21 ⟨t, rfl, ht, q1, q8, q63, q64, q65, hB21, hle21⟩
        simp only [q1, q8, q63, q64, q65]
        refine ob_i (vInt_lss _ _ _) ?_
        refine cnd_d (fun hlt => ?_) (fun hge => ?_)
        · have hy21 := hy5.le hle21
          refine ob_i (hy21.ix (by omega) (by omega)) ?_
          refine ob_i (hy21.ld [] (by omega) (by omega)) ?_
          have hnx : at_ [] r (t : Int) = at_ [] ls ((t + 1 : Nat) : Int) := by
            rw [at_eq [] r (by omega), at_eq [] ls (by rw [hrl]; omega)]
            subst hLS
            simp
          rw [hnx]
          have hsn := joinT_snoc [x] (at_ [] ls ((t + 1 : Nat) : Int)) (ls.take (t + 1)) (by rw [← hLS]; simp)
          rw [← take_at [] ls (by rw [hrl]; omega)] at hsn
          have hl1 : ((joinT [x] (ls.take (t + 1 + 1))).length) ≤ (joinT [x] ls).length := by
            have e2 : ls.take (t + 1 + 1) = a :: r.take (t + 1) := by rw [← hLS]; simp
            have e3 := joinT_len x a (r.take (t + 1))
            have e4 := flat_take ls (t + 1 + 1)
            rw [e2] at e4
            rw [e2, e3, hjl]
            rw [List.length_take]
            have e5 : ls.flatten.length = (a :: r).flatten.length := by rw [hLS]
            omega
          rw [hsn] at hl1
          simp only [List.length_append, List.length_singleton] at hl1
          rw [Int.toNat_natCast] at hc1
          refine C.Builder_WriteString hB21 (by simp only [List.length_singleton]; omega) (fun H26 hB26 hoth26 => ?_)
          refine C.Builder_WriteString hB26 (by simp only [List.length_append, List.length_singleton]; omega) (fun H28 hB28 hoth28 => ?_)
          refine ob_i (vInt_add (by omega) (by omega)) ?_
          exact nxt (r.length - (t + 1)) (by omega) ⟨t + 1, rfl, by omega, q1, q8, q63, q64, rfl, by rw [hsn]; exact hB28, keep (keep hle21 hoth26) hoth28⟩
        · obtain rfl : t = r.length := by omega
          refine hJ16 _ _ ⟨q8, ?_, hle21⟩
          rw [← hrl, List.take_length] at hB21
          exact hB21
    · simp only [g0, g1, g5]
      refine ob_i hv.len ?_
      refine ⟨fun n σ' H' => ∃ t : Nat, n = ls.length - t ∧ t ≤ ls.length ∧ σ' 0 = v ∧ σ' 1 = vS [x] ∧ σ' 39 = v ∧ σ' 40 = .int .i64 (ls.length : Int) ∧ σ' 41 = .int .i64 (t : Int) ∧ σ' 5 = .int .i64 ((r.length : Int) + ((ls.take t).flatten.length : Int)) ∧ H' = H6,
        ⟨_, 0, rfl, by omega, g0, g1, rfl, rfl, rfl, g5.trans (congrArg (Value.int .i64) (by simp)), rfl⟩, ?_⟩
      rintro n σ' H31 ⟨t, rfl, ht, q0, q1, q39, q40, q41, q5, rfl⟩
      simp only [q39, q40, q41, q5]
      refine ob_i (vInt_lss _ _ _) ?_
      refine cnd_d (fun hlt => ?_) (fun hge => ?_)
      · refine ob_i (hv.ix (by omega) (by omega)) ?_
        refine ob_i (hv.ld [] (by omega) (by omega)) ?_
        refine ob_i (vLenS_t _) ?_
        have hf := flat_at ls (t := t) (by omega)
        refine ob_i (vInt_sub (by omega) (by omega)) ?_
        refine ob_i (vInt_gtr _ _ _) ?_
        rw [decide_eq_false (by omega)]
        refine cnd_f1 ?_
        refine ob_i (vLenS_t _) ?_
        refine ob_i (vInt_add (by omega) (by omega)) ?_
        refine ob_i (vInt_add (by omega) (by omega)) ?_
        exact nxt (ls.length - (t + 1)) (by omega) ⟨t + 1, rfl, by omega, q0, q1, q39, q40, congrArg (Value.int .i64) (by omega), congrArg (Value.int .i64) (by rw [take_at [] ls (by omega), flat_snoc]; omega), rfl⟩
      · obtain rfl : t = ls.length := by omega
        exact hJ7 _ _ ⟨q0, q1, q5.trans (congrArg (Value.int .i64) (by rw [List.take_length, hjl]; omega)), rfl⟩
  · refine ob_i (vLenS_t [x]) ?_
    refine ob_i (vInt_gtr _ _ _) ?_
    rw [decide_eq_true (show (0 : Int) < (([x] : List UInt8).length : Int) by simp)]
    refine cnd_t1 ?_
    refine ob_i (vLenS_t [x]) ?_
    refine ob_i hv.len ?_
    refine ob_i (vInt_sub (by omega) (by omega)) ?_
    refine ob_i (vInt_quoN (by omega) (by omega) (by omega)) ?_
    refine ob_i (vInt_geq _ _ _) ?_
    have hq : (2 : Int) ≤ 9223372036854775807 / ((ls.length : Int) - 1) := (Int.le_ediv_iff_mul_le (by omega)).mpr (by omega)
    rw [decide_eq_false (by simp only [List.length_singleton]; omega)]
    refine cnd_f1 ?_
    refine ob_i (vLenS_t [x]) ?_
    refine ob_i hv.len ?_
    refine ob_i (vInt_sub (by omega) (by omega)) ?_
    refine ob_i (vInt_mul (by simp only [List.length_singleton]; omega) (by simp only [List.length_singleton]; omega)) ?_
    refine ob_i (vInt_add (by simp only [List.length_singleton]; omega) (by simp only [List.length_singleton]; omega)) ?_
    exact hJ6 _ _ ⟨rfl, rfl, congrArg (Value.int .i64) (by simp only [List.length_singleton]; omega), rfl⟩
end Go.Proofs.YthocjpfibegjcaaGreatDoor
/- Fields as texts. -/
namespace Go.Proofs.YthocjpfibegjcaaGreatDoor
open HL
set_option maxRecDepth 100000
attribute [local irreducible] vStr
theorem C.internal_strconv_small {n : Int}  {H : Hp} {K : Value → Hp → Prop} (n0 : 0 ≤ n) (n1 : n < 100)
    (hk : K (vS (decT n.toNat)) H) : HT prg I.internal_strconv_small [(.int .i64 (n))].toArray H K := by
  have lE := Le.refl H
  refine R.internal_strconv_small ?_
  unfold F.internal_strconv_small
  refine ob_i (vInt_lss _ _ _) ?_
  refine cnd_d (fun hg1 => ?_) (fun hg1 => ?_)
  · skip
    refine ob_i (vInt_add (by omega) (by omega)) ?_
    refine ob_i (vSlS_t (a := ([48, 49, 50, 51, 52, 53, 54, 55, 56, 57, 97, 98, 99, 100, 101, 102, 103, 104, 105, 106, 107, 108, 109, 110, 111, 112, 113, 114, 115, 116, 117, 118, 119, 120, 121, 122] : List UInt8)) (by omega) (by omega) (by first | omega | (simp only [List.length_append, List.length_cons, List.length_nil, List.length_take, List.length_drop]; omega))) ?_
    skip
    exact keq (K := K) (by rw [show (decT n.toNat) = (((([48, 49, 50, 51, 52, 53, 54, 55, 56, 57, 97, 98, 99, 100, 101, 102, 103, 104, 105, 106, 107, 108, 109, 110, 111, 112, 113, 114, 115, 116, 117, 118, 119, 120, 121, 122] : List UInt8)).drop (n : Int).toNat).take ((n + 1 : Int).toNat - (n : Int).toNat)) from by exact (small_one (by omega) (by omega)).symm]; try rfl) (hk )
  · skip
    refine ob_i (vInt_mul (by omega) (by omega)) ?_
    refine ob_i (vInt_mul (by omega) (by omega)) ?_
    refine ob_i (vInt_add (by omega) (by omega)) ?_
    refine ob_i (vSlS_t (a := ([48, 48, 48, 49, 48, 50, 48, 51, 48, 52, 48, 53, 48, 54, 48, 55, 48, 56, 48, 57, 49, 48, 49, 49, 49, 50, 49, 51, 49, 52, 49, 53, 49, 54, 49, 55, 49, 56, 49, 57, 50, 48, 50, 49, 50, 50, 50, 51, 50, 52, 50, 53, 50, 54, 50, 55, 50, 56, 50, 57, 51, 48, 51, 49, 51, 50, 51, 51, 51, 52, 51, 53, 51, 54, 51, 55, 51, 56, 51, 57, 52, 48, 52, 49, 52, 50, 52, 51, 52, 52, 52, 53, 52, 54, 52, 55, 52, 56, 52, 57, 53, 48, 53, 49, 53, 50, 53, 51, 53, 52, 53, 53, 53, 54, 53, 55, 53, 56, 53, 57, 54, 48, 54, 49, 54, 50, 54, 51, 54, 52, 54, 53, 54, 54, 54, 55, 54, 56, 54, 57, 55, 48, 55, 49, 55, 50, 55, 51, 55, 52, 55, 53, 55, 54, 55, 55, 55, 56, 55, 57, 56, 48, 56, 49, 56, 50, 56, 51, 56, 52, 56, 53, 56, 54, 56, 55, 56, 56, 56, 57, 57, 48, 57, 49, 57, 50, 57, 51, 57, 52, 57, 53, 57, 54, 57, 55, 57, 56, 57, 57] : List UInt8)) (by omega) (by omega) (by first | omega | (simp only [List.length_append, List.length_cons, List.length_nil, List.length_take, List.length_drop]; omega))) ?_
    skip
    exact keq (K := K) (by rw [show (decT n.toNat) = (((([48, 48, 48, 49, 48, 50, 48, 51, 48, 52, 48, 53, 48, 54, 48, 55, 48, 56, 48, 57, 49, 48, 49, 49, 49, 50, 49, 51, 49, 52, 49, 53, 49, 54, 49, 55, 49, 56, 49, 57, 50, 48, 50, 49, 50, 50, 50, 51, 50, 52, 50, 53, 50, 54, 50, 55, 50, 56, 50, 57, 51, 48, 51, 49, 51, 50, 51, 51, 51, 52, 51, 53, 51, 54, 51, 55, 51, 56, 51, 57, 52, 48, 52, 49, 52, 50, 52, 51, 52, 52, 52, 53, 52, 54, 52, 55, 52, 56, 52, 57, 53, 48, 53, 49, 53, 50, 53, 51, 53, 52, 53, 53, 53, 54, 53, 55, 53, 56, 53, 57, 54, 48, 54, 49, 54, 50, 54, 51, 54, 52, 54, 53, 54, 54, 54, 55, 54, 56, 54, 57, 55, 48, 55, 49, 55, 50, 55, 51, 55, 52, 55, 53, 55, 54, 55, 55, 55, 56, 55, 57, 56, 48, 56, 49, 56, 50, 56, 51, 56, 52, 56, 53, 56, 54, 56, 55, 56, 56, 56, 57, 57, 48, 57, 49, 57, 50, 57, 51, 57, 52, 57, 53, 57, 54, 57, 55, 57, 56, 57, 57] : List UInt8)).drop (n * 2 : Int).toNat).take (((n * 2) + 2 : Int).toNat - (n * 2 : Int).toNat)) from by exact (small_two (by omega) (by omega)).symm]; try rfl) (hk )
theorem C.internal_strconv_FormatInt {n : Int}  {H : Hp} {K : Value → Hp → Prop} (n0 : 0 ≤ n) (n1 : n < 100)
    (hk : K (vS (decT n.toNat)) H) : HT prg I.internal_strconv_FormatInt [(.int .i64 (n)), (.int .i64 (10))].toArray H K := by
  have lE := Le.refl H
  refine R.internal_strconv_FormatInt ?_
  unfold F.internal_strconv_FormatInt
  refine ob_i (a := .bool true) (by kernel_rfl) ?_
  refine cnd_t1 ?_
  refine ob_i (vInt_leq _ _ _) ?_
  by_cases hc1 : 0 ≤ n
  · skip
    refine gop_e (decide_eq_true hc1) ?_
    refine gop_rt ?_
    refine gop_e (decide_eq_true hc1) ?_
    refine gop_rt ?_
    refine ob_i (vInt_lss _ _ _) ?_
    refine ob_i (vPick_et (decide_eq_true hc1) _ _) ?_
    refine cnd_d (fun hg2 => ?_) (fun hg2 => ?_)
    · skip
      refine C.internal_strconv_small (by first | omega | assumption) (by first | omega | assumption) ?_
      skip
      exact hk 
    · skip
      exact absurd hg2 ((fun h => h n1))
  · skip
    exact absurd hc1 ((fun h => h n0))
theorem C.strconv_FormatInt {n : Int}  {H : Hp} {K : Value → Hp → Prop} (n0 : 0 ≤ n) (n1 : n < 100)
    (hk : K (vS (decT n.toNat)) H) : HT prg I.strconv_FormatInt [(.int .i64 (n)), (.int .i64 (10))].toArray H K := by
  have lE := Le.refl H
  refine R.strconv_FormatInt ?_
  unfold F.strconv_FormatInt
  refine C.internal_strconv_FormatInt (by first | omega | assumption) (by first | omega | assumption) ?_
  skip
  exact hk 
theorem C.impl_Decimal {n : Int}  {H : Hp} {K : Value → Hp → Prop} (n0 : 0 ≤ n) (n1 : n < 100)
    (hk : K (vS (decT n.toNat)) H) : HT prg I.impl_Decimal [(.int .i64 (n))].toArray H K := by
  have lE := Le.refl H
  refine R.impl_Decimal ?_
  unfold F.impl_Decimal
  refine C.strconv_FormatInt (by first | omega | assumption) (by first | omega | assumption) ?_
  skip
  exact hk 
theorem C.l05Number_d {n : Int}  {H : Hp} {K : Value → Hp → Prop} (n0 : 0 ≤ n) (n1 : n < 10)
    (hk : ∀ H', Le H H' → K (vS (decT n.toNat)) H') : HT prg I.spec_l05Number [(.int .i64 (n))].toArray H K := by
  have lE := Le.refl H
  refine R.spec_l05Number ?_
  unfold F.spec_l05Number
  refine ob_i (vInt_lss _ _ _) ?_
  refine cnd_d (fun hg1 => ?_) (fun hg1 => ?_)
  · skip
    refine ob_i (vInt_add (by omega) (by omega)) ?_
    refine ob_i (vCI_u8 (by omega) (by omega)) ?_
    refine bS_i (enc := eU) (l := [48 + n]) (by omega) rfl (by kernel_rfl) (fun u2 H3 ou2 nn4 le6 => ?_)
    have nu2 : Nw H u2 := nn4.le lE
    replace lE := lE.trans le6
    refine ob_i (val_convT (by kernel_rfl) ou2.sl) ?_
    skip
    exact keq (K := K) (by rw [show (decT n.toNat) = (btT ([48 + n])) from by exact (num_one (by omega) (by omega)).symm]; try rfl) (hk   _    lE)
  · skip
    exact absurd hg1 ((fun h => h n1))
theorem C.spec_l05Number {n : Int}  {H : Hp} {K : Value → Hp → Prop} (n0 : 0 ≤ n) (n1 : n < 100)
    (hk : ∀ H', Le H H' → K (vS (decT n.toNat)) H') : HT prg I.spec_l05Number [(.int .i64 (n))].toArray H K := by
  have lE := Le.refl H
  refine R.spec_l05Number ?_
  unfold F.spec_l05Number
  have d1 := decT_len (n / 10).toNat
  have d2 : (btT ([48 + (n % 10)])).length = 1 := rfl
  refine ob_i (vInt_lss _ _ _) ?_
  refine cnd_d (fun hg1 => ?_) (fun hg1 => ?_)
  · skip
    refine ob_i (vInt_add (by omega) (by omega)) ?_
    refine ob_i (vCI_u8 (by omega) (by omega)) ?_
    refine bS_i (enc := eU) (l := [48 + n]) (by omega) rfl (by kernel_rfl) (fun u2 H3 ou2 nn4 le6 => ?_)
    have nu2 : Nw H u2 := nn4.le lE
    replace lE := lE.trans le6
    refine ob_i (val_convT (by kernel_rfl) ou2.sl) ?_
    skip
    exact keq (K := K) (by rw [show (decT n.toNat) = (btT ([48 + n])) from by exact (num_one (by omega) (by omega)).symm]; try rfl) (hk   _    lE)
  · skip
    refine ⟨?_, ?_⟩
    · skip
      refine ob_i (vInt_quoN (by omega) (by omega) (by omega)) ?_
      refine ob_i (vInt_remN (by omega) (by omega)) ?_
      refine ob_i (vInt_add (by omega) (by omega)) ?_
      refine ob_i (vCI_u8 (by omega) (by omega)) ?_
      refine C.l05Number_d (by first | omega | assumption) (by first | omega | assumption) (fun   H7    le8 => ?_)
      replace lE := lE.trans le8
      refine ⟨le8, ?_⟩
      refine bS_i (enc := eU) (l := [48 + (n % 10)]) (by omega) rfl (by kernel_rfl) (fun u9 H10 ou9 nn11 le13 => ?_)
      have nu9 : Nw H u9 := nn11.le lE
      replace lE := lE.trans le13
      refine ob_i (val_convT (by kernel_rfl) ou9.sl) ?_
      refine ob_i (vStr_add (a := decT (n / 10).toNat) (b := btT ([48 + (n % 10)])) (by first | omega | (simp only [List.length_append, List.length_cons, List.length_nil, List.length_take, List.length_drop]; omega))) ?_
      skip
      exact keq (K := K) (by rw [show (decT n.toNat) = ((decT (n / 10).toNat) ++ (btT ([48 + (n % 10)]))) from by exact (num_two (by omega) (by omega)).symm]; try rfl) (hk   _    lE)
    · skip
      refine ob_i (vInt_quoN (by omega) (by omega) (by omega)) ?_
      refine ob_i (vInt_remN (by omega) (by omega)) ?_
      refine ob_i (vInt_add (by omega) (by omega)) ?_
      refine ob_i (vCI_u8 (by omega) (by omega)) ?_
      refine bS_i (enc := eU) (l := [48 + (n % 10)]) (by omega) rfl (by kernel_rfl) (fun u14 H15 ou14 nn16 le18 => ?_)
      have nu14 : Nw H u14 := nn16.le lE
      replace lE := lE.trans le18
      refine ob_i (val_convT (by kernel_rfl) ou14.sl) ?_
      refine C.l05Number_d (by first | omega | assumption) (by first | omega | assumption) (fun   H19    le20 => ?_)
      replace ou14 := ou14.le le20
      replace lE := lE.trans le20
      refine ⟨le20, ?_⟩
      refine ob_i (vStr_add (a := decT (n / 10).toNat) (b := btT ([48 + (n % 10)])) (by first | omega | (simp only [List.length_append, List.length_cons, List.length_nil, List.length_take, List.length_drop]; omega))) ?_
      skip
      exact keq (K := K) (by rw [show (decT n.toNat) = ((decT (n / 10).toNat) ++ (btT ([48 + (n % 10)]))) from by exact (num_two (by omega) (by omega)).symm]; try rfl) (hk   _    lE)
theorem C.impl_runsText {v : Value} {row : List Int}  {H : Hp} {K : Value → Hp → Prop} (hv0 : Sl eI H v row) (h1 : row.length ≤ 24) (hx : ∀ x ∈ row, 0 ≤ x ∧ x ≤ 1)
    (hk : ∀ H', Le H H' → K (vS (rtx row)) H') : HT prg I.impl_runsText [v].toArray H K := by
  have lE := Le.refl H
  have hv := hv0
  refine R.impl_runsText ?_
  unfold F.impl_runsText
  have rl := rtx_len row.length row (Nat.le_refl _)
  refine jn_i (fun σ' H' => σ' 3 = (vS (rtx row)) ∧ Le H H') (fun σ1 H1 hP => ?_) (fun J1 hJ1 => ?_)
  · skip
    obtain ⟨g3L1, lE⟩ := hP
    have hv := hv0.le lE
    try simp only [g3L1]
    skip
    exact hk   _    lE
  refine ⟨fun n' σ' H' => ∃ i : Nat, n' = row.length - i ∧ i ≤ row.length ∧ ∃ out : List UInt8, ∃ a : Nat, σ' 0 = v ∧ σ' 3 = (vS (out)) ∧ σ' 4 = (.int .i64 ((a : Int))) ∧ Le H H' ∧ i ≤ a ∧ a ≤ row.length ∧ out ++ rtx (row.drop a) = rtx row,
    ⟨_, 0, rfl, by omega, [], 0, rfl, rfl, (congrArg (Value.int .i64) (by first | omega | rfl | (simp; done))), lE, (by omega), (by omega), rfl⟩, ?_⟩
  rintro n2 σ2 H2 ⟨i, rfl, hiN, out, a, g0L2, g3L2, g4L2, lE, hm0, hm1, hm2⟩
  have hv := hv0.le lE
  try simp only [g0L2, g3L2, g4L2]
  have ol := congrArg List.length hm2
  rw [List.length_append] at ol
  refine ob_i (hv.len) ?_
  refine ob_i (vInt_lss _ _ _) ?_
  refine cnd_d (fun hg3 => ?_) (fun hg3 => ?_)
  · skip
    have ti := hg3
    refine jn_i (fun σ' H' => ∃ k : Nat, σ' 0 = v ∧ σ' 3 = (vS (out)) ∧ σ' 4 = (.int .i64 ((a : Int))) ∧ σ' 5 = (.int .i64 ((a : Int) + (k : Int))) ∧ Le H H' ∧ k = rN (at_ 0 row (a : Int)) (row.drop a) ∧ a + k ≤ row.length ∧ 1 ≤ k) (fun σ4 H4 hP => ?_) (fun J4 hJ4 => ?_)
    · skip
      obtain ⟨k, g0L4, g3L4, g4L4, g5L4, lE, hk, hk2, hk3⟩ := hP
      have hv := hv0.le lE
      try simp only [g0L4, g3L4, g4L4, g5L4]
      have dl := decT_len (((a : Int) + (k : Int)) - (a : Int)).toNat
      have xa := hx _ (at_mem 0 row (i := (a : Int)) (by omega) (by omega))
      refine ob_i (hv.ix (by omega) (by omega)) ?_
      refine ob_i (hv.ld 0 (by omega) (by omega)) ?_
      refine ob_i (vInt_eql _ _ _) ?_
      by_cases hc5 : (at_ 0 (row) ((a : Int))) = 0
      · skip
        refine gop_e (decide_eq_true hc5) ?_
        refine gop_rt ?_
        refine gop_e (decide_eq_true hc5) ?_
        refine gop_rt ?_
        refine gop_e (decide_eq_true hc5) ?_
        refine gop_rt ?_
        refine ob_i (hv.len) ?_
        refine gop_e (decide_eq_true hc5) ?_
        refine gop_rt ?_
        refine ob_i (vInt_eql _ _ _) ?_
        refine ob_i (vPick_et (decide_eq_true hc5) _ _) ?_
        refine cnd_d (fun hg6 => ?_) (fun hg6 => ?_)
        · skip
          have hfin : out = rtx row := by rw [← hm2, rtx_stop (a := a) (k := k) (by omega) hk ⟨hc5, by omega⟩, List.append_nil]
          exact hJ1 _ _ ⟨(g3L4.trans (congrArg vS hfin)), lE⟩
        · skip
          refine ob_i (vInt_sub (by omega) (by omega)) ?_
          refine ob_i (vInt_gtr _ _ _) ?_
          refine cnd_d (fun hg7 => ?_) (fun hg7 => ?_)
          · skip
            refine ob_i (vInt_sub (by omega) (by omega)) ?_
            refine C.impl_Decimal (by first | omega | assumption) (by first | omega | assumption) ?_
            refine ob_i (vStr_add (a := out) (b := decT (((a : Int) + (k : Int)) - (a : Int)).toNat) (by first | omega | (simp only [List.length_append, List.length_cons, List.length_nil, List.length_take, List.length_drop]; omega))) ?_
            refine ob_i (hv.ix (by omega) (by omega)) ?_
            refine ob_i (hv.ld 0 (by omega) (by omega)) ?_
            refine ob_i (hv.ix (by omega) (by omega)) ?_
            refine ob_i (hv.ld 0 (by omega) (by omega)) ?_
            refine ob_i (vInt_add (by omega) (by omega)) ?_
            refine ob_i (vSlS_t (a := ([98, 111] : List UInt8)) (by omega) (by omega) (by first | omega | (simp only [List.length_append, List.length_cons, List.length_nil, List.length_take, List.length_drop]; omega))) ?_
            refine ob_i (vStr_add (a := out ++ (decT (((a : Int) + (k : Int)) - (a : Int)).toNat)) (b := ((([98, 111] : List UInt8)).drop (at_ 0 (row) ((a : Int)) : Int).toNat).take (((at_ 0 (row) ((a : Int))) + 1 : Int).toNat - (at_ 0 (row) ((a : Int)) : Int).toNat)) (by first | omega | (simp only [List.length_append, List.length_cons, List.length_nil, List.length_take, List.length_drop]; omega))) ?_
            exact nxt (row.length - (i + 1)) (by omega) ⟨i + 1, rfl, by omega, ((out ++ (decT (((a : Int) + (k : Int)) - (a : Int)).toNat)) ++ (((([98, 111] : List UInt8)).drop (at_ 0 (row) ((a : Int)) : Int).toNat).take (((at_ 0 (row) ((a : Int))) + 1 : Int).toNat - (at_ 0 (row) ((a : Int)) : Int).toNat))), (a + k), g0L4, rfl, (congrArg (Value.int .i64) (by omega)), lE, (by omega), (by omega), (by have hr := rtx_run (a := a) (k := k) (by omega) hk (fun h => by exact hg6 (by omega)); rw [← hm2, hr, if_neg (show ¬ k = 1 by omega)]; rw [bo_T (hx _ (at_mem 0 row (by omega) (by omega))).1 (hx _ (at_mem 0 row (by omega) (by omega))).2]; rw [show ((a : Int) + (k : Int) - (a : Int)).toNat = k by omega]; simp only [List.append_assoc, List.nil_append])⟩
          · skip
            refine ob_i (hv.ix (by omega) (by omega)) ?_
            refine ob_i (hv.ld 0 (by omega) (by omega)) ?_
            refine ob_i (hv.ix (by omega) (by omega)) ?_
            refine ob_i (hv.ld 0 (by omega) (by omega)) ?_
            refine ob_i (vInt_add (by omega) (by omega)) ?_
            refine ob_i (vSlS_t (a := ([98, 111] : List UInt8)) (by omega) (by omega) (by first | omega | (simp only [List.length_append, List.length_cons, List.length_nil, List.length_take, List.length_drop]; omega))) ?_
            refine ob_i (vStr_add (a := out) (b := ((([98, 111] : List UInt8)).drop (at_ 0 (row) ((a : Int)) : Int).toNat).take (((at_ 0 (row) ((a : Int))) + 1 : Int).toNat - (at_ 0 (row) ((a : Int)) : Int).toNat)) (by first | omega | (simp only [List.length_append, List.length_cons, List.length_nil, List.length_take, List.length_drop]; omega))) ?_
            exact nxt (row.length - (i + 1)) (by omega) ⟨i + 1, rfl, by omega, (out ++ (((([98, 111] : List UInt8)).drop (at_ 0 (row) ((a : Int)) : Int).toNat).take (((at_ 0 (row) ((a : Int))) + 1 : Int).toNat - (at_ 0 (row) ((a : Int)) : Int).toNat))), (a + k), g0L4, rfl, (congrArg (Value.int .i64) (by omega)), lE, (by omega), (by omega), (by have hr := rtx_run (a := a) (k := k) (by omega) hk (fun h => by exact hg6 (by omega)); rw [← hm2, hr, if_pos (show k = 1 by omega)]; rw [bo_T (hx _ (at_mem 0 row (by omega) (by omega))).1 (hx _ (at_mem 0 row (by omega) (by omega))).2]; simp only [List.append_assoc, List.nil_append])⟩
      · skip
        refine gop_e (decide_eq_false hc5) ?_
        refine gop_sf ?_
        refine gop_e (decide_eq_false hc5) ?_
        refine gop_sf ?_
        refine gop_e (decide_eq_false hc5) ?_
        refine gop_sf ?_
        refine gop_e (decide_eq_false hc5) ?_
        refine gop_sf ?_
        refine ob_i (vPick_ef (decide_eq_false hc5) _ _) ?_
        refine cnd_f1 ?_
        refine ob_i (vInt_sub (by omega) (by omega)) ?_
        refine ob_i (vInt_gtr _ _ _) ?_
        refine cnd_d (fun hg8 => ?_) (fun hg8 => ?_)
        · skip
          refine ob_i (vInt_sub (by omega) (by omega)) ?_
          refine C.impl_Decimal (by first | omega | assumption) (by first | omega | assumption) ?_
          refine ob_i (vStr_add (a := out) (b := decT (((a : Int) + (k : Int)) - (a : Int)).toNat) (by first | omega | (simp only [List.length_append, List.length_cons, List.length_nil, List.length_take, List.length_drop]; omega))) ?_
          refine ob_i (hv.ix (by omega) (by omega)) ?_
          refine ob_i (hv.ld 0 (by omega) (by omega)) ?_
          refine ob_i (hv.ix (by omega) (by omega)) ?_
          refine ob_i (hv.ld 0 (by omega) (by omega)) ?_
          refine ob_i (vInt_add (by omega) (by omega)) ?_
          refine ob_i (vSlS_t (a := ([98, 111] : List UInt8)) (by omega) (by omega) (by first | omega | (simp only [List.length_append, List.length_cons, List.length_nil, List.length_take, List.length_drop]; omega))) ?_
          refine ob_i (vStr_add (a := out ++ (decT (((a : Int) + (k : Int)) - (a : Int)).toNat)) (b := ((([98, 111] : List UInt8)).drop (at_ 0 (row) ((a : Int)) : Int).toNat).take (((at_ 0 (row) ((a : Int))) + 1 : Int).toNat - (at_ 0 (row) ((a : Int)) : Int).toNat)) (by first | omega | (simp only [List.length_append, List.length_cons, List.length_nil, List.length_take, List.length_drop]; omega))) ?_
          exact nxt (row.length - (i + 1)) (by omega) ⟨i + 1, rfl, by omega, ((out ++ (decT (((a : Int) + (k : Int)) - (a : Int)).toNat)) ++ (((([98, 111] : List UInt8)).drop (at_ 0 (row) ((a : Int)) : Int).toNat).take (((at_ 0 (row) ((a : Int))) + 1 : Int).toNat - (at_ 0 (row) ((a : Int)) : Int).toNat))), (a + k), g0L4, rfl, (congrArg (Value.int .i64) (by omega)), lE, (by omega), (by omega), (by have hr := rtx_run (a := a) (k := k) (by omega) hk (fun h => by exact hc5 h.1); rw [← hm2, hr, if_neg (show ¬ k = 1 by omega)]; rw [bo_T (hx _ (at_mem 0 row (by omega) (by omega))).1 (hx _ (at_mem 0 row (by omega) (by omega))).2]; rw [show ((a : Int) + (k : Int) - (a : Int)).toNat = k by omega]; simp only [List.append_assoc, List.nil_append])⟩
        · skip
          refine ob_i (hv.ix (by omega) (by omega)) ?_
          refine ob_i (hv.ld 0 (by omega) (by omega)) ?_
          refine ob_i (hv.ix (by omega) (by omega)) ?_
          refine ob_i (hv.ld 0 (by omega) (by omega)) ?_
          refine ob_i (vInt_add (by omega) (by omega)) ?_
          refine ob_i (vSlS_t (a := ([98, 111] : List UInt8)) (by omega) (by omega) (by first | omega | (simp only [List.length_append, List.length_cons, List.length_nil, List.length_take, List.length_drop]; omega))) ?_
          refine ob_i (vStr_add (a := out) (b := ((([98, 111] : List UInt8)).drop (at_ 0 (row) ((a : Int)) : Int).toNat).take (((at_ 0 (row) ((a : Int))) + 1 : Int).toNat - (at_ 0 (row) ((a : Int)) : Int).toNat)) (by first | omega | (simp only [List.length_append, List.length_cons, List.length_nil, List.length_take, List.length_drop]; omega))) ?_
          exact nxt (row.length - (i + 1)) (by omega) ⟨i + 1, rfl, by omega, (out ++ (((([98, 111] : List UInt8)).drop (at_ 0 (row) ((a : Int)) : Int).toNat).take (((at_ 0 (row) ((a : Int))) + 1 : Int).toNat - (at_ 0 (row) ((a : Int)) : Int).toNat))), (a + k), g0L4, rfl, (congrArg (Value.int .i64) (by omega)), lE, (by omega), (by omega), (by have hr := rtx_run (a := a) (k := k) (by omega) hk (fun h => by exact hc5 h.1); rw [← hm2, hr, if_pos (show k = 1 by omega)]; rw [bo_T (hx _ (at_mem 0 row (by omega) (by omega))).1 (hx _ (at_mem 0 row (by omega) (by omega))).2]; simp only [List.append_assoc, List.nil_append])⟩
    refine ⟨fun n' σ' H' => ∃ j : Nat, n' = row.length - j ∧ j ≤ row.length ∧ σ' 0 = v ∧ σ' 3 = (vS (out)) ∧ σ' 4 = (.int .i64 ((a : Int))) ∧ σ' 5 = (.int .i64 ((a : Int) + (j : Int))) ∧ Le H H' ∧ j ≤ rN (at_ 0 row (a : Int)) (row.drop a) ∧ a + j ≤ row.length,
      ⟨_, 0, rfl, by omega, g0L2, g3L2, g4L2, (congrArg (Value.int .i64) (by first | omega | rfl | (simp; done))), lE, (by omega), (by omega)⟩, ?_⟩
    rintro n9 σ9 H9 ⟨j, rfl, hjN, g0L9, g3L9, g4L9, g5L9, lE, hm0', hm1'⟩
    have hv := hv0.le lE
    try simp only [g0L9, g4L9, g5L9]
    refine ob_i (hv.len) ?_
    refine ob_i (vInt_lss _ _ _) ?_
    by_cases hc10 : ((a : Int) + (j : Int)) < (((row).length : Int))
    · skip
      refine gop_e (decide_eq_true hc10) ?_
      refine gop_rt ?_
      refine gop_e (decide_eq_true hc10) ?_
      refine gop_rt ?_
      refine gop_e (decide_eq_true hc10) ?_
      refine gop_rt ?_
      refine ob_i (hv.ix (by omega) (by omega)) ?_
      refine gop_e (decide_eq_true hc10) ?_
      refine gop_rt ?_
      refine ob_i (hv.ld 0 (by omega) (by omega)) ?_
      refine gop_e (decide_eq_true hc10) ?_
      refine gop_rt ?_
      refine gop_e (decide_eq_true hc10) ?_
      refine gop_rt ?_
      refine gop_e (decide_eq_true hc10) ?_
      refine gop_rt ?_
      refine ob_i (hv.ix (by omega) (by omega)) ?_
      refine gop_e (decide_eq_true hc10) ?_
      refine gop_rt ?_
      refine ob_i (hv.ld 0 (by omega) (by omega)) ?_
      refine gop_e (decide_eq_true hc10) ?_
      refine gop_rt ?_
      refine ob_i (vInt_eql _ _ _) ?_
      refine ob_i (vPick_et (decide_eq_true hc10) _ _) ?_
      refine cnd_d (fun hg11 => ?_) (fun hg11 => ?_)
      · skip
        refine ob_i (vInt_add (by omega) (by omega)) ?_
        exact nxt (row.length - (j + 1)) (by omega) ⟨j + 1, rfl, by omega, g0L9, g3L9, g4L9, (congrArg (Value.int .i64) (by first | omega | rfl | (simp; done))), lE, (by have := run_next (a := a) (e := a + j) (by omega) (by rw [show a + j - a = j by omega]; exact hm0') (by omega) (by rw [show ((a + j : Nat) : Int) = (a : Int) + (j : Int) by omega]; exact hg11); omega), (by omega)⟩
      · skip
        exact hJ4 _ _ ⟨j, g0L9, g3L9, g4L9, (g5L9.trans (congrArg (Value.int .i64) (by first | omega | rfl | (simp; done)))), lE, (by have := run_end (a := a) (e := a + j) (by omega) (by rw [show a + j - a = j by omega]; exact hm0') (by omega) (Or.inr (by rw [show ((a + j : Nat) : Int) = (a : Int) + (j : Int) by omega]; exact hg11)); omega), (by omega), (by have h9 := run_end (a := a) (e := a + j) (by omega) (by rw [show a + j - a = j by omega]; exact hm0') (by omega) (Or.inr (by rw [show ((a + j : Nat) : Int) = (a : Int) + (j : Int) by omega]; exact hg11)); have := (run_pos (row := row) (a := a) (by omega)).1; omega)⟩
    · skip
      refine gop_e (decide_eq_false hc10) ?_
      refine gop_sf ?_
      refine gop_e (decide_eq_false hc10) ?_
      refine gop_sf ?_
      refine gop_e (decide_eq_false hc10) ?_
      refine gop_sf ?_
      refine gop_e (decide_eq_false hc10) ?_
      refine gop_sf ?_
      refine gop_e (decide_eq_false hc10) ?_
      refine gop_sf ?_
      refine gop_e (decide_eq_false hc10) ?_
      refine gop_sf ?_
      refine gop_e (decide_eq_false hc10) ?_
      refine gop_sf ?_
      refine gop_e (decide_eq_false hc10) ?_
      refine gop_sf ?_
      refine gop_e (decide_eq_false hc10) ?_
      refine gop_sf ?_
      refine ob_i (vPick_ef (decide_eq_false hc10) _ _) ?_
      refine cnd_f1 ?_
      exact hJ4 _ _ ⟨j, g0L9, g3L9, g4L9, (g5L9.trans (congrArg (Value.int .i64) (by first | omega | rfl | (simp; done)))), lE, (by have := run_end (a := a) (e := a + j) (by omega) (by rw [show a + j - a = j by omega]; exact hm0') (by omega) (Or.inl (by omega)); omega), (by omega), (by have h9 := run_end (a := a) (e := a + j) (by omega) (by rw [show a + j - a = j by omega]; exact hm0') (by omega) (Or.inl (by omega)); have := (run_pos (row := row) (a := a) (by omega)).1; omega)⟩
  · skip
    have ti := hg3
    have hfin : out = rtx row := by rw [← hm2, show row.drop a = [] from List.drop_eq_nil_of_le (by omega), rtx_nil, List.append_nil]
    exact hJ1 _ _ ⟨(g3L2.trans (congrArg vS hfin)), lE⟩
theorem C.spec_l05Write {p vc : Value} {r c : Int} {l : List Int}  {H : Hp} {K : Value → Hp → Prop} (hp0 : CelR H p [(.int .i64 (r)), (.int .i64 (c)), vc]) (hvc0 : Sl eI H vc l) (hf : fieldN 1 r c l)
    (hk : ∀ H', Le H H' → K (vS (fieldT r c l)) H') : HT prg I.spec_l05Write [p].toArray H K := by
  have lE := Le.refl H
  have hp := hp0
  have hvc := hvc0
  refine R.spec_l05Write ?_
  unfold F.spec_l05Write
  have hs := hf.1
  have hl := hf.2.1
  have q1 := hs.1
  have q2 := hs.2
  have qm := sidesF_mul hs
  have l1 := fieldN_len hf
  have dc := decT_len c.toNat
  have dr := decT_len r.toNat
  refine ob_i (hp.nilC) ?_
  refine ob_i (hp.fa 1) ?_
  refine ob_i (hp.ld 1 rfl) ?_
  refine ob_i (hp.nilC) ?_
  refine ob_i (hp.fa 0) ?_
  refine ob_i (hp.ld 0 rfl) ?_
  refine C.spec_l05Number (by first | omega | assumption) (by first | omega | assumption) (fun   H1    le2 => ?_)
  replace hp := hp.le le2
  replace hvc := hvc.le le2
  replace lE := lE.trans le2
  refine ⟨le2, ?_⟩
  refine ob_i (vStr_add (a := decT c.toNat) (b := ([44] : List UInt8)) (by first | omega | (simp only [List.length_append, List.length_cons, List.length_nil, List.length_take, List.length_drop]; omega))) ?_
  refine C.spec_l05Number (by first | omega | assumption) (by first | omega | assumption) (fun   H3    le4 => ?_)
  replace hp := hp.le le4
  replace hvc := hvc.le le4
  replace lE := lE.trans le4
  refine ⟨le4, ?_⟩
  refine ob_i (vStr_add (a := (decT c.toNat) ++ ([44] : List UInt8)) (b := decT r.toNat) (by first | omega | (simp only [List.length_append, List.length_cons, List.length_nil, List.length_take, List.length_drop]; omega))) ?_
  refine ob_i (vStr_add (a := ((decT c.toNat) ++ ([44] : List UInt8)) ++ (decT r.toNat)) (b := ([58] : List UInt8)) (by first | omega | (simp only [List.length_append, List.length_cons, List.length_nil, List.length_take, List.length_drop]; omega))) ?_
  refine jn_i (fun σ' H' => σ' 3 = (vS (headT r c ++ joinR c.toNat l r.toNat)) ∧ Le H H') (fun σ5 H5 hP => ?_) (fun J5 hJ5 => ?_)
  · skip
    obtain ⟨g3L5, lE⟩ := hP
    have hp := hp0.le lE
    have hvc := hvc0.le lE
    try simp only [g3L5]
    have jl0 := joinR_len (c := c.toNat) (l := l) r.toNat
    have jm0 : r.toNat * (3 * c.toNat + 1) ≤ 24 * 73 := Nat.mul_le_mul (by omega) (by omega)
    have hl0 := headT_len r c
    refine ob_i (vStr_add (a := headT r c ++ joinR c.toNat l r.toNat) (b := ([33] : List UInt8)) (by first | omega | (simp only [List.length_append, List.length_cons, List.length_nil, List.length_take, List.length_drop]; omega))) ?_
    skip
    exact keq (K := K) (by rw [show (fieldT r c l) = ((headT r c ++ joinR c.toNat l r.toNat) ++ ([33] : List UInt8)) from by rfl]; try rfl) (hk   _    lE)
  refine ⟨fun n' σ' H' => ∃ i : Nat, n' = r.toNat - i ∧ i ≤ r.toNat ∧ σ' 0 = p ∧ σ' 3 = (vS (headT r c ++ joinR c.toNat l i)) ∧ σ' 4 = (.int .i64 ((i : Int))) ∧ Le H H',
    ⟨_, 0, rfl, by omega, rfl, (congrArg vS (by rw [joinR_zero, List.append_nil]; rfl)), (congrArg (Value.int .i64) (by first | omega | rfl | (simp; done))), lE⟩, ?_⟩
  rintro n6 σ6 H6 ⟨i, rfl, hiN, g0L6, g3L6, g4L6, lE⟩
  have hp := hp0.le lE
  have hvc := hvc0.le lE
  try simp only [g0L6, g3L6, g4L6]
  have jl0 := joinR_len (c := c.toNat) (l := l) i
  have jm0 : i * (3 * c.toNat + 1) ≤ 24 * 73 := Nat.mul_le_mul (by omega) (by omega)
  have hl0 := headT_len r c
  refine ob_i (hp.nilC) ?_
  refine ob_i (hp.fa 0) ?_
  refine ob_i (hp.ld 0 rfl) ?_
  refine ob_i (vInt_lss _ _ _) ?_
  refine cnd_d (fun hg7 => ?_) (fun hg7 => ?_)
  · skip
    have ti := hg7
    have rm := row_mul (i := i) hs (by omega)
    refine jn_i (fun σ' H' => σ' 0 = p ∧ σ' 3 = (vS (headT r c ++ joinR c.toNat l (i + 1))) ∧ σ' 4 = (.int .i64 ((i : Int))) ∧ Le H H') (fun σ8 H8 hP => ?_) (fun J8 hJ8 => ?_)
    · skip
      obtain ⟨g0L8, g3L8, g4L8, lE⟩ := hP
      have hp := hp0.le lE
      have hvc := hvc0.le lE
      try simp only [g4L8]
      refine ob_i (vInt_add (by omega) (by omega)) ?_
      exact nxt (r.toNat - (i + 1)) (by omega) ⟨i + 1, rfl, by omega, g0L8, g3L8, (congrArg (Value.int .i64) (by first | omega | rfl | (simp; done))), lE⟩
    refine jn_i (fun σ' H' => ∃ B : List UInt8, σ' 0 = p ∧ σ' 3 = (vS (B)) ∧ σ' 4 = (.int .i64 ((i : Int))) ∧ Le H H' ∧ B ++ rtx (rowL c.toNat l i) = headT r c ++ joinR c.toNat l (i + 1)) (fun σ9 H9 hP => ?_) (fun J9 hJ9 => ?_)
    · skip
      obtain ⟨B, g0L9, g3L9, g4L9, lE, hB⟩ := hP
      have hp := hp0.le lE
      have hvc := hvc0.le lE
      try simp only [g0L9, g3L9, g4L9]
      refine ob_i (hp.nilC) ?_
      refine ob_i (hp.fa 2) ?_
      refine ob_i (hp.ld 2 rfl) ?_
      refine ob_i (hp.nilC) ?_
      refine ob_i (hp.fa 1) ?_
      refine ob_i (hp.ld 1 rfl) ?_
      refine ob_i (vInt_mul (by omega) (by omega)) ?_
      refine ob_i (vInt_add (by omega) (by omega)) ?_
      refine ob_i (hp.nilC) ?_
      refine ob_i (hp.fa 1) ?_
      refine ob_i (hp.ld 1 rfl) ?_
      refine ob_i (vInt_mul (by omega) (by omega)) ?_
      obtain ⟨x10, eq11a, eq11b, eq11c, eq11d, hx100, hb12⟩ := hvc0.cut (lo := (i : Int) * c) (hi := ((i : Int) + 1) * c) (by omega) (by omega) (by omega)
      refine ob_i (eq11a) ?_
      rw [row_eq (l := l) (i := i) hs (by omega)] at hx100
      obtain ⟨row, hr0⟩ : ∃ row, row = rowL c.toNat l i := ⟨_, rfl⟩
      rw [← hr0] at hx100 hB
      have hrl : row.length = c.toNat := by rw [hr0]; exact rowL_len (r := r.toNat) (by rw [← Int.natCast_inj]; rw [Int.natCast_mul, Int.toNat_of_nonneg (by omega), Int.toNat_of_nonneg (by omega)]; exact hl) (by omega)
      have rtl := rtx_len row.length row (Nat.le_refl _)
      have bl := congrArg List.length hB
      simp only [List.length_append] at bl
      have jl := joinR_len (c := c.toNat) (l := l) (i + 1)
      have jm : (i + 1) * (3 * c.toNat + 1) ≤ 24 * 73 := Nat.mul_le_mul (by omega) (by omega)
      have hl6 := headT_len r c
      have hx10 := hx100.le lE
      refine ob_i (hx10.len) ?_
      refine jn_i (fun σ' H' => ∃ e : Nat, σ' 0 = p ∧ σ' 3 = (vS (B)) ∧ σ' 4 = (.int .i64 ((i : Int))) ∧ σ' 5 = x10 ∧ σ' 6 = (.int .i64 ((e : Int))) ∧ Le H H' ∧ endP row e ∧ (0 < e → at_ 0 row ((e - 1 : Nat) : Int) ≠ 0) ∧ e ≤ c.toNat) (fun σ13 H13 hP => ?_) (fun J13 hJ13 => ?_)
      · skip
        obtain ⟨e, g0L13, g3L13, g4L13, g5L13, g6L13, lE, hend, hlast, hec⟩ := hP
        have hp := hp0.le lE
        have hvc := hvc0.le lE
        have hx10 := hx100.le lE
        try simp only [g3L13, g5L13, g6L13]
        refine ⟨fun n' σ' H' => ∃ t : Nat, n' = c.toNat - t ∧ t ≤ c.toNat ∧ ∃ out : List UInt8, ∃ a : Nat, σ' 0 = p ∧ σ' 3 = (vS (out)) ∧ σ' 4 = (.int .i64 ((i : Int))) ∧ σ' 5 = x10 ∧ σ' 6 = (.int .i64 ((e : Int))) ∧ σ' 7 = (.int .i64 ((a : Int))) ∧ Le H H' ∧ t ≤ a ∧ a ≤ e ∧ out ++ rtx (row.drop a) = B ++ rtx row,
          ⟨_, 0, rfl, by omega, B, 0, g0L13, g3L13, g4L13, g5L13, g6L13, (congrArg (Value.int .i64) (by first | omega | rfl | (simp; done))), lE, (by omega), (by omega), rfl⟩, ?_⟩
        rintro n14 σ14 H14 ⟨t, rfl, htN, out, a, g0L14, g3L14, g4L14, g5L14, g6L14, g7L14, lE, hq0, hq1, hq2⟩
        have hp := hp0.le lE
        have hvc := hvc0.le lE
        have hx10 := hx100.le lE
        try simp only [g3L14, g5L14, g6L14, g7L14]
        have ol := congrArg List.length hq2
        simp only [List.length_append] at ol
        refine ob_i (vInt_lss _ _ _) ?_
        refine cnd_d (fun hg15 => ?_) (fun hg15 => ?_)
        · skip
          have tt := hg15
          refine jn_i (fun σ' H' => ∃ k : Nat, σ' 0 = p ∧ σ' 3 = (vS (out)) ∧ σ' 4 = (.int .i64 ((i : Int))) ∧ σ' 5 = x10 ∧ σ' 6 = (.int .i64 ((e : Int))) ∧ σ' 7 = (.int .i64 ((a : Int))) ∧ σ' 8 = (.int .i64 ((k : Int))) ∧ Le H H' ∧ k = rN (at_ 0 row (a : Int)) (row.drop a) ∧ ¬ (at_ 0 row (a : Int) = 0 ∧ a + k = row.length) ∧ 1 ≤ k ∧ a + k ≤ e) (fun σ16 H16 hP => ?_) (fun J16 hJ16 => ?_)
          · skip
            obtain ⟨k, g0L16, g3L16, g4L16, g5L16, g6L16, g7L16, g8L16, lE, hk, hne, hk1, hk2⟩ := hP
            have hp := hp0.le lE
            have hvc := hvc0.le lE
            have hx10 := hx100.le lE
            try simp only [g3L16, g5L16, g7L16, g8L16]
            have dl := decT_len (k : Int).toNat
            refine ob_i (vInt_gtr _ _ _) ?_
            refine cnd_d (fun hg17 => ?_) (fun hg17 => ?_)
            · skip
              refine C.spec_l05Number (by first | omega | assumption) (by first | omega | assumption) (fun   H18    le19 => ?_)
              replace hp := hp.le le19
              replace hvc := hvc.le le19
              replace hx10 := hx10.le le19
              replace lE := lE.trans le19
              refine ob_i (vStr_add (a := out) (b := decT (k : Int).toNat) (by first | omega | (simp only [List.length_append, List.length_cons, List.length_nil, List.length_take, List.length_drop]; omega))) ?_
              refine ob_i (hx10.ix (by omega) (by omega)) ?_
              refine ob_i (hx10.ld 0 (by omega) (by omega)) ?_
              refine ob_i (vInt_eql _ _ _) ?_
              refine cnd_d (fun hg20 => ?_) (fun hg20 => ?_)
              · skip
                refine ob_i (vStr_add (a := out ++ (decT (k : Int).toNat)) (b := ([111] : List UInt8)) (by first | omega | (simp only [List.length_append, List.length_cons, List.length_nil, List.length_take, List.length_drop]; omega))) ?_
                refine ob_i (vInt_add (by omega) (by omega)) ?_
                exact nxt (c.toNat - (t + 1)) (by omega) ⟨t + 1, rfl, by omega, ((out ++ (decT (k : Int).toNat)) ++ ([111] : List UInt8)), (a + k), g0L16, rfl, g4L16, g5L16, g6L16, (congrArg (Value.int .i64) (by omega)), lE, (by omega), (by omega), (by rw [← hq2, rtx_run (a := a) (k := k) (by omega) hk hne, if_neg (show ¬ k = 1 by omega), chT_1 hg20]; simp only [List.append_assoc, List.nil_append, Int.toNat_natCast])⟩
              · skip
                refine ob_i (vStr_add (a := out ++ (decT (k : Int).toNat)) (b := ([98] : List UInt8)) (by first | omega | (simp only [List.length_append, List.length_cons, List.length_nil, List.length_take, List.length_drop]; omega))) ?_
                refine ob_i (vInt_add (by omega) (by omega)) ?_
                exact nxt (c.toNat - (t + 1)) (by omega) ⟨t + 1, rfl, by omega, ((out ++ (decT (k : Int).toNat)) ++ ([98] : List UInt8)), (a + k), g0L16, rfl, g4L16, g5L16, g6L16, (congrArg (Value.int .i64) (by omega)), lE, (by omega), (by omega), (by rw [← hq2, rtx_run (a := a) (k := k) (by omega) hk hne, if_neg (show ¬ k = 1 by omega), chT_0 hg20]; simp only [List.append_assoc, List.nil_append, Int.toNat_natCast])⟩
            · skip
              refine ob_i (hx10.ix (by omega) (by omega)) ?_
              refine ob_i (hx10.ld 0 (by omega) (by omega)) ?_
              refine ob_i (vInt_eql _ _ _) ?_
              refine cnd_d (fun hg21 => ?_) (fun hg21 => ?_)
              · skip
                refine ob_i (vStr_add (a := out) (b := ([111] : List UInt8)) (by first | omega | (simp only [List.length_append, List.length_cons, List.length_nil, List.length_take, List.length_drop]; omega))) ?_
                refine ob_i (vInt_add (by omega) (by omega)) ?_
                exact nxt (c.toNat - (t + 1)) (by omega) ⟨t + 1, rfl, by omega, (out ++ ([111] : List UInt8)), (a + k), g0L16, rfl, g4L16, g5L16, g6L16, (congrArg (Value.int .i64) (by omega)), lE, (by omega), (by omega), (by rw [← hq2, rtx_run (a := a) (k := k) (by omega) hk hne, if_pos (show k = 1 by omega), chT_1 hg21]; simp only [List.append_assoc, List.nil_append, Int.toNat_natCast])⟩
              · skip
                refine ob_i (vStr_add (a := out) (b := ([98] : List UInt8)) (by first | omega | (simp only [List.length_append, List.length_cons, List.length_nil, List.length_take, List.length_drop]; omega))) ?_
                refine ob_i (vInt_add (by omega) (by omega)) ?_
                exact nxt (c.toNat - (t + 1)) (by omega) ⟨t + 1, rfl, by omega, (out ++ ([98] : List UInt8)), (a + k), g0L16, rfl, g4L16, g5L16, g6L16, (congrArg (Value.int .i64) (by omega)), lE, (by omega), (by omega), (by rw [← hq2, rtx_run (a := a) (k := k) (by omega) hk hne, if_pos (show k = 1 by omega), chT_0 hg21]; simp only [List.append_assoc, List.nil_append, Int.toNat_natCast])⟩
          refine ⟨fun n' σ' H' => ∃ j : Nat, n' = c.toNat - j ∧ j ≤ c.toNat ∧ σ' 0 = p ∧ σ' 3 = (vS (out)) ∧ σ' 4 = (.int .i64 ((i : Int))) ∧ σ' 5 = x10 ∧ σ' 6 = (.int .i64 ((e : Int))) ∧ σ' 7 = (.int .i64 ((a : Int))) ∧ σ' 8 = (.int .i64 ((1 : Int) + (j : Int))) ∧ Le H H' ∧ 1 + j ≤ rN (at_ 0 row (a : Int)) (row.drop a) ∧ a + (1 + j) ≤ e,
            ⟨_, 0, rfl, by omega, g0L14, g3L14, g4L14, g5L14, g6L14, g7L14, (congrArg (Value.int .i64) (by first | omega | rfl | (simp; done))), lE, (by have := run_zero (row := row) (a := a) (by omega); omega), (by omega)⟩, ?_⟩
          rintro n22 σ22 H22 ⟨j, rfl, hjN, g0L22, g3L22, g4L22, g5L22, g6L22, g7L22, g8L22, lE, hj0, hj1⟩
          have hp := hp0.le lE
          have hvc := hvc0.le lE
          have hx10 := hx100.le lE
          try simp only [g5L22, g6L22, g7L22, g8L22]
          refine ob_i (vInt_add (by omega) (by omega)) ?_
          refine ob_i (vInt_lss _ _ _) ?_
          by_cases hc23 : ((a : Int) + ((1 : Int) + (j : Int))) < (e : Int)
          · skip
            refine gop_e (decide_eq_true hc23) ?_
            refine gop_rt ?_
            refine gop_e (decide_eq_true hc23) ?_
            refine gop_rt ?_
            refine gop_e (decide_eq_true hc23) ?_
            refine gop_rt ?_
            refine gop_e (decide_eq_true hc23) ?_
            refine gop_rt ?_
            refine ob_i (vInt_add (by omega) (by omega)) ?_
            refine gop_e (decide_eq_true hc23) ?_
            refine gop_rt ?_
            refine ob_i (hx10.ix (by omega) (by omega)) ?_
            refine gop_e (decide_eq_true hc23) ?_
            refine gop_rt ?_
            refine ob_i (hx10.ld 0 (by omega) (by omega)) ?_
            refine gop_e (decide_eq_true hc23) ?_
            refine gop_rt ?_
            refine gop_e (decide_eq_true hc23) ?_
            refine gop_rt ?_
            refine gop_e (decide_eq_true hc23) ?_
            refine gop_rt ?_
            refine ob_i (hx10.ix (by omega) (by omega)) ?_
            refine gop_e (decide_eq_true hc23) ?_
            refine gop_rt ?_
            refine ob_i (hx10.ld 0 (by omega) (by omega)) ?_
            refine gop_e (decide_eq_true hc23) ?_
            refine gop_rt ?_
            refine ob_i (vInt_eql _ _ _) ?_
            refine ob_i (vPick_et (decide_eq_true hc23) _ _) ?_
            refine cnd_d (fun hg24 => ?_) (fun hg24 => ?_)
            · skip
              refine ob_i (vInt_add (by omega) (by omega)) ?_
              exact nxt (c.toNat - (j + 1)) (by omega) ⟨j + 1, rfl, by omega, g0L22, g3L22, g4L22, g5L22, g6L22, g7L22, (congrArg (Value.int .i64) (by first | omega | rfl | (simp; done))), lE, (by have := run_next (a := a) (e := a + (1 + j)) (by omega) (by rw [show a + (1 + j) - a = 1 + j by omega]; exact hj0) (by omega) (by rw [show ((a + (1 + j) : Nat) : Int) = (a : Int) + ((1 : Int) + (j : Int)) by omega]; exact hg24); omega), (by omega)⟩
            · skip
              have hcut := run_cut (k := 1 + j) hend hlast (a := a) (by omega) (by omega) hj0 (by omega) (.inr (by rw [show ((a + (1 + j) : Nat) : Int) = (a : Int) + ((1 : Int) + (j : Int)) by omega]; exact hg24))
              exact hJ16 _ _ ⟨(1 + j), g0L22, g3L22, g4L22, g5L22, g6L22, g7L22, (g8L22.trans (congrArg (Value.int .i64) (by first | omega | rfl | (simp; done)))), lE, hcut.1, hcut.2, (by omega), (by omega)⟩
          · skip
            refine gop_e (decide_eq_false hc23) ?_
            refine gop_sf ?_
            refine gop_e (decide_eq_false hc23) ?_
            refine gop_sf ?_
            refine gop_e (decide_eq_false hc23) ?_
            refine gop_sf ?_
            refine gop_e (decide_eq_false hc23) ?_
            refine gop_sf ?_
            refine gop_e (decide_eq_false hc23) ?_
            refine gop_sf ?_
            refine gop_e (decide_eq_false hc23) ?_
            refine gop_sf ?_
            refine gop_e (decide_eq_false hc23) ?_
            refine gop_sf ?_
            refine gop_e (decide_eq_false hc23) ?_
            refine gop_sf ?_
            refine gop_e (decide_eq_false hc23) ?_
            refine gop_sf ?_
            refine gop_e (decide_eq_false hc23) ?_
            refine gop_sf ?_
            refine gop_e (decide_eq_false hc23) ?_
            refine gop_sf ?_
            refine ob_i (vPick_ef (decide_eq_false hc23) _ _) ?_
            refine cnd_f1 ?_
            have hcut := run_cut (k := 1 + j) hend hlast (a := a) (by omega) (by omega) hj0 (by omega) (.inl (by omega))
            exact hJ16 _ _ ⟨(1 + j), g0L22, g3L22, g4L22, g5L22, g6L22, g7L22, (g8L22.trans (congrArg (Value.int .i64) (by first | omega | rfl | (simp; done)))), lE, hcut.1, hcut.2, (by omega), (by omega)⟩
        · skip
          have tt := hg15
          exact hJ8 _ _ ⟨g0L14, (g3L14.trans (congrArg vS (by rw [show a = e by omega, endP_rtx hend, List.append_nil] at hq2; rw [hq2, hB]))), g4L14, lE⟩
      refine ⟨fun n' σ' H' => ∃ j : Nat, n' = c.toNat - j ∧ j ≤ c.toNat ∧ σ' 0 = p ∧ σ' 3 = (vS (B)) ∧ σ' 4 = (.int .i64 ((i : Int))) ∧ σ' 5 = x10 ∧ σ' 6 = (.int .i64 (((c.toNat - j : Nat) : Int))) ∧ Le H H' ∧ endP row (c.toNat - j),
        ⟨_, 0, rfl, by omega, g0L9, g3L9, g4L9, rfl, (congrArg (Value.int .i64) (by first | omega | rfl | (simp; done))), lE, ⟨by omega, fun q h1 h2 => by omega⟩⟩, ?_⟩
      rintro n25 σ25 H25 ⟨j, rfl, hjN, g0L25, g3L25, g4L25, g5L25, g6L25, lE, he0⟩
      have hp := hp0.le lE
      have hvc := hvc0.le lE
      have hx10 := hx100.le lE
      try simp only [g5L25, g6L25]
      refine ob_i (vInt_gtr _ _ _) ?_
      by_cases hc26 : 0 < (((c.toNat - j : Nat) : Int))
      · skip
        refine gop_e (decide_eq_true hc26) ?_
        refine gop_rt ?_
        refine gop_e (decide_eq_true hc26) ?_
        refine gop_rt ?_
        refine gop_e (decide_eq_true hc26) ?_
        refine gop_rt ?_
        refine ob_i (vInt_sub (by omega) (by omega)) ?_
        refine gop_e (decide_eq_true hc26) ?_
        refine gop_rt ?_
        refine ob_i (hx10.ix (by omega) (by omega)) ?_
        refine gop_e (decide_eq_true hc26) ?_
        refine gop_rt ?_
        refine ob_i (hx10.ld 0 (by omega) (by omega)) ?_
        refine gop_e (decide_eq_true hc26) ?_
        refine gop_rt ?_
        refine ob_i (vInt_eql _ _ _) ?_
        refine ob_i (vPick_et (decide_eq_true hc26) _ _) ?_
        refine cnd_d (fun hg27 => ?_) (fun hg27 => ?_)
        · skip
          refine ob_i (vInt_sub (by omega) (by omega)) ?_
          exact nxt (c.toNat - (j + 1)) (by omega) ⟨j + 1, rfl, by omega, g0L25, g3L25, g4L25, g5L25, (congrArg (Value.int .i64) (by first | omega | rfl | (simp; done))), lE, (endP_back he0 (by omega) hg27 (by omega))⟩
        · skip
          exact hJ13 _ _ ⟨(c.toNat - j), g0L25, g3L25, g4L25, g5L25, (g6L25.trans (congrArg (Value.int .i64) (by first | omega | rfl | (simp; done)))), lE, he0, (fun h => by rw [show ((c.toNat - j - 1 : Nat) : Int) = ((c.toNat - j : Nat) : Int) - 1 by omega]; exact hg27), (by omega)⟩
      · skip
        refine gop_e (decide_eq_false hc26) ?_
        refine gop_sf ?_
        refine gop_e (decide_eq_false hc26) ?_
        refine gop_sf ?_
        refine gop_e (decide_eq_false hc26) ?_
        refine gop_sf ?_
        refine gop_e (decide_eq_false hc26) ?_
        refine gop_sf ?_
        refine gop_e (decide_eq_false hc26) ?_
        refine gop_sf ?_
        refine gop_e (decide_eq_false hc26) ?_
        refine gop_sf ?_
        refine ob_i (vPick_ef (decide_eq_false hc26) _ _) ?_
        refine cnd_f1 ?_
        exact hJ13 _ _ ⟨(c.toNat - j), g0L25, g3L25, g4L25, g5L25, (g6L25.trans (congrArg (Value.int .i64) (by first | omega | rfl | (simp; done)))), lE, he0, (fun h => absurd h (by omega)), (by omega)⟩
    refine ob_i (vInt_gtr _ _ _) ?_
    refine cnd_d (fun hg28 => ?_) (fun hg28 => ?_)
    · skip
      have tj := hg28
      refine ob_i (vStr_add (a := headT r c ++ joinR c.toNat l i) (b := ([36] : List UInt8)) (by first | omega | (simp only [List.length_append, List.length_cons, List.length_nil, List.length_take, List.length_drop]; omega))) ?_
      exact hJ9 _ _ ⟨_, g0L6, rfl, g4L6, lE, (by rw [joinR_succ (by omega)]; simp only [List.append_assoc])⟩
    · skip
      have tj := hg28
      exact hJ9 _ _ ⟨_, g0L6, g3L6, g4L6, lE, (by rw [joinR_one (by omega), show joinR c.toNat l i = [] by rw [show i = 0 by omega, joinR_zero], List.append_nil])⟩
  · skip
    have ti := hg7
    exact hJ5 _ _ ⟨(g3L6.trans (congrArg vS (by rw [show i = r.toNat by omega]))), lE⟩
theorem C.impl_Field_text {vc : Value} {r c : Int} {l : List Int}  {H : Hp} {K : Value → Hp → Prop} (hvc0 : Sl eI H vc l) (hf : fieldN 1 r c l)
    (hk : ∀ H', Le H H' → K (vS (fieldT r c l)) H') : HT prg I.impl_Field_text [(.agg #[(.int .i64 (r)), (.int .i64 (c)), vc])].toArray H K := by
  have lE := Le.refl H
  have hvc := hvc0
  refine R.impl_Field_text ?_
  unfold F.impl_Field_text
  have hs := hf.1
  have hl := hf.2.1
  have q1 := hs.1
  have q2 := hs.2
  have qm := sidesF_mul hs
  have l1 := fieldN_len hf
  have hlN : l.length = r.toNat * c.toNat := by rw [← Int.natCast_inj, Int.natCast_mul, Int.toNat_of_nonneg (by omega), Int.toNat_of_nonneg (by omega)]; exact hl
  have dc := decT_len c.toNat
  have dr := decT_len r.toNat
  have rf := rowsT_flat (c := c.toNat) (l := l) r.toNat
  have rg : r.toNat * (3 * c.toNat) ≤ 24 * 72 := Nat.mul_le_mul (by omega) (by omega)
  have rjl : (joinT [36] (rowsT c.toNat l r.toNat)).length ≤ r.toNat * (3 * c.toNat + 1) := joinR_len _
  have rjm : r.toNat * (3 * c.toNat + 1) ≤ 24 * 73 := Nat.mul_le_mul (by omega) (by omega)
  have rn := rowsT_len (c := c.toNat) (l := l) (n := r.toNat)
  refine nw_i (fun pf H1 opf nn2 le3 => ?_)
  have npf : Nw H pf := nn2.le lE
  replace hvc := hvc.le le3
  replace lE := lE.trans le3
  replace opf : Cel H1 pf [(.int .i64 (r)), (.int .i64 (c)), vc] := opf
  refine bS_nil (enc := vS) (fun ou H4 oou nn5 kk6 le7 => ?_)
  have apfXou : Apart pf ou := opf.apart nn5
  have nou : Nw H ou := nn5.le lE
  replace opf := opf.le le7
  replace hvc := hvc.le le7
  replace lE := lE.trans le7
  refine nw_i (fun po H8 opo nn9 le10 => ?_)
  have apfXpo : Apart pf po := opf.apart nn9
  have aouXpo : Apart ou po := oou.apart nn9
  have npo : Nw H po := nn9.le lE
  replace opf := opf.le le10
  replace oou := oou.le le10
  replace hvc := hvc.le le10
  replace lE := lE.trans le10
  replace opo : Cel H8 po [(.slice none 0 0)] := opo
  refine opo.st0 (by simp) oou.one oou.cells (fun H11 opo off12 => ?_)
  replace opf := opf.off off12 apfXpo
  replace oou := oou.off off12 aouXpo
  replace hvc := hvc0.le (off12.le lE npo)
  replace lE := off12.le lE npo
  replace opo : Cel H11 po [ou] := opo
  refine jn_i (fun σ' H' => ∃ ou, σ' 1 = pf ∧ σ' 3 = po ∧ Cel H' pf [(.int .i64 (r)), (.int .i64 (c)), vc] ∧ Own vS H' ou (rowsT c.toNat l r.toNat) ∧ Cel H' po [ou] ∧ Nw H ou ∧ Apart pf ou ∧ Apart ou po ∧ Le H H') (fun σ13 H13 hP => ?_) (fun J13 hJ13 => ?_)
  · skip
    obtain ⟨ou, g1L13, g3L13, opf, oou, opo, nou, apfXou, aouXpo, lE⟩ := hP
    have hvc := hvc0.le lE
    try simp only [g1L13, g3L13]
    refine ob_i (opf.fa 1) ?_
    refine ob_i (opf.ld 1 rfl) ?_
    refine ob_i (opf.fa 0) ?_
    refine ob_i (opf.ld 0 rfl) ?_
    refine ob_i (opo.ld0 rfl) ?_
    refine C.impl_Decimal (by first | omega | assumption) (by first | omega | assumption) ?_
    refine ⟨Le.refl _, ?_⟩
    refine ob_i (vStr_add (a := decT c.toNat) (b := ([44] : List UInt8)) (by first | omega | (simp only [List.length_append, List.length_cons, List.length_nil, List.length_take, List.length_drop]; omega))) ?_
    refine C.impl_Decimal (by first | omega | assumption) (by first | omega | assumption) ?_
    refine ⟨Le.refl _, ?_⟩
    refine ob_i (vStr_add (a := (decT c.toNat) ++ ([44] : List UInt8)) (b := decT r.toNat) (by first | omega | (simp only [List.length_append, List.length_cons, List.length_nil, List.length_take, List.length_drop]; omega))) ?_
    refine ob_i (vStr_add (a := ((decT c.toNat) ++ ([44] : List UInt8)) ++ (decT r.toNat)) (b := ([58] : List UInt8)) (by first | omega | (simp only [List.length_append, List.length_cons, List.length_nil, List.length_take, List.length_drop]; omega))) ?_
    refine C.strings_Join oou.sl (by first | omega | assumption) (by first | omega | assumption) (fun   H14    le15 => ?_)
    replace opf := opf.le le15
    replace oou := oou.le le15
    replace opo := opo.le le15
    replace hvc := hvc.le le15
    replace lE := lE.trans le15
    refine ⟨le15, ?_⟩
    refine ob_i (vStr_add (a := (((decT c.toNat) ++ ([44] : List UInt8)) ++ (decT r.toNat)) ++ ([58] : List UInt8)) (b := joinT [36] (rowsT c.toNat l r.toNat)) (by first | omega | (simp only [List.length_append, List.length_cons, List.length_nil, List.length_take, List.length_drop]; omega))) ?_
    refine ob_i (vStr_add (a := ((((decT c.toNat) ++ ([44] : List UInt8)) ++ (decT r.toNat)) ++ ([58] : List UInt8)) ++ (joinT [36] (rowsT c.toNat l r.toNat))) (b := ([33] : List UInt8)) (by first | omega | (simp only [List.length_append, List.length_cons, List.length_nil, List.length_take, List.length_drop]; omega))) ?_
    skip
    exact keq (K := K) (by rw [show (fieldT r c l) = ((((((decT c.toNat) ++ ([44] : List UInt8)) ++ (decT r.toNat)) ++ ([58] : List UInt8)) ++ (joinT [36] (rowsT c.toNat l r.toNat))) ++ ([33] : List UInt8)) from by rfl]; try rfl) (hk   _    lE)
  refine ob_i (opf.fa 2) ?_
  refine ob_i (opf.ld 2 rfl) ?_
  refine ob_i (opf.fa 1) ?_
  refine ob_i (opf.ld 1 rfl) ?_
  refine C.slices_Chunk hvc (by omega) (fun ps16 pn17 H18 ops16 opn17 nn20 nn21 aps16Xpn17 le19 => ?_)
  have apfXps16 : Apart pf ps16 := opf.apart nn20
  have aouXps16 : Apart ou ps16 := oou.apart nn20
  have apoXps16 : Apart po ps16 := opo.apart nn20
  have nps16 : Nw H ps16 := nn20.le lE
  have apfXpn17 : Apart pf pn17 := opf.apart nn21
  have aouXpn17 : Apart ou pn17 := oou.apart nn21
  have apoXpn17 : Apart po pn17 := opo.apart nn21
  have npn17 : Nw H pn17 := nn21.le lE
  replace opf := opf.le le19
  replace oou := oou.le le19
  replace opo := opo.le le19
  replace hvc := hvc.le le19
  replace lE := lE.trans le19
  replace ops16 : Cel H18 ps16 [vc] := ops16
  replace opn17 : Cel H18 pn17 [(.int .i64 (c))] := opn17
  refine rgE_i (r.toNat) (fun (i : Nat) => [chV vc (i * c.toNat) c.toNat]) (fun (i : Nat) H' => ∃ ou, Cel H' pf [(.int .i64 (r)), (.int .i64 (c)), vc] ∧ Own vS H' ou (rowsT c.toNat l i) ∧ Cel H' po [ou] ∧ Cel H' ps16 [vc] ∧ Cel H' pn17 [(.int .i64 (c))] ∧ Nw H ou ∧ Apart pf ou ∧ Apart ou po ∧ Apart ou ps16 ∧ Apart ou pn17 ∧ Le H H') trivial (fun _ => rfl) ⟨ou, opf, (Own.cast (by first | rfl | (simp; done)) oou), opo, ops16, opn17, nou, apfXou, aouXpo, aouXps16, aouXpn17, lE⟩ (fun i H22 σ22 Q22 hiN hσ22 qn22 qr22 qx22 hI22 => ?_) (fun H22 hI22 => ?_) (fun yv J St H1 K1 hJ h0 hst hk1 hs1 => ?_)
  · obtain ⟨ou, opf, oou, opo, ops16, opn17, nou, apfXou, aouXpo, aouXps16, aouXpn17, lE⟩ := hI22
    have hvc := hvc0.le lE
    have hmz23 : (i + 1) * c.toNat ≤ r.toNat * c.toNat := Nat.mul_le_mul_right _ (by omega)
    rw [Nat.add_mul, Nat.one_mul] at hmz23
    have hz230 : Sl eI H (chV vc (i * c.toNat) c.toNat) (rowL c.toNat l i) := (chV_sl hvc0 (lo := i * c.toNat) (c := c.toNat) (by omega)).2
    obtain ⟨z23, ez23⟩ : ∃ z, z = chV vc (i * c.toNat) c.toNat := ⟨_, rfl⟩
    rw [← ez23] at hz230
    have hz23 := hz230.le lE
    have rz23 : (rowL c.toNat l i).length = c.toNat := rowL_len (r := r.toNat) hlN (by omega)
    have g3L22 : σ22 3 = po := by rw [hσ22]; exact rfl
    have g11L22 : σ22 11 = z23 := by rw [hσ22, ← ez23]; rfl
    try simp only [g3L22, g11L22]
    have ri := rowsT_len (c := c.toNat) (l := l) (n := i)
    refine ob_i (opo.ld0 rfl) ?_
    refine C.impl_runsText hz23 (by first | omega | assumption) (by exact row_01 hf.2.2) (fun   H24    le25 => ?_)
    replace opf := opf.le le25
    replace oou := oou.le le25
    replace opo := opo.le le25
    replace ops16 := ops16.le le25
    replace opn17 := opn17.le le25
    replace hvc := hvc.le le25
    replace hz23 := hz23.le le25
    replace lE := lE.trans le25
    refine ⟨le25, ?_⟩
    refine bS_i (enc := vS) (l := [rtx (rowL c.toNat l i)]) (by omega) rfl (by kernel_rfl) (fun u26 H27 ou26 nn28 le30 => ?_)
    have apfXu26 : Apart pf u26 := opf.apart nn28
    have aouXu26 : Apart ou u26 := oou.apart nn28
    have apoXu26 : Apart po u26 := opo.apart nn28
    have aps16Xu26 : Apart ps16 u26 := ops16.apart nn28
    have apn17Xu26 : Apart pn17 u26 := opn17.apart nn28
    have nu26 : Nw H u26 := nn28.le lE
    replace opf := opf.le le30
    replace oou := oou.le le30
    replace opo := opo.le le30
    replace ops16 := ops16.le le30
    replace opn17 := opn17.le le30
    replace hvc := hvc.le le30
    replace hz23 := hz23.le le30
    replace lE := lE.trans le30
    refine apd_any oou ou26.sl (fun _ => rfl) (by omega) (by first | omega | (simp only [List.length_cons, List.length_nil, List.length_append, List.length_replicate, List.length_map, List.length_range]; omega)) (fun u34 H31 ou34 off32 hb33 => ?_)
    have apfXu34 : Apart pf u34 := Apart.ap2 opf.known apfXou hb33
    have apoXu34 : Apart po u34 := Apart.ap2 opo.known aouXpo.symm hb33
    have aps16Xu34 : Apart ps16 u34 := Apart.ap2 ops16.known aouXps16.symm hb33
    have apn17Xu34 : Apart pn17 u34 := Apart.ap2 opn17.known aouXpn17.symm hb33
    have au26Xu34 : Apart u26 u34 := Apart.ap2 ou26.known aouXu26.symm hb33
    have nu34 : Nw H u34 := Nw.ap2 nou lE hb33
    replace opf := opf.off off32 apfXou
    replace opo := opo.off off32 aouXpo.symm
    replace ops16 := ops16.off off32 aouXps16.symm
    replace opn17 := opn17.off off32 aouXpn17.symm
    replace ou26 := ou26.off off32 aouXu26.symm
    replace hvc := hvc0.le (off32.le lE nou)
    replace hz23 := hz230.le (off32.le lE nou)
    replace lE := off32.le lE nou
    refine opo.st0 (by simp) ou34.one ou34.cells (fun H35 opo off36 => ?_)
    replace opf := opf.off off36 apfXpo
    replace ops16 := ops16.off off36 apoXps16.symm
    replace opn17 := opn17.off off36 apoXpn17.symm
    replace ou26 := ou26.off off36 apoXu26.symm
    replace ou34 := ou34.off off36 apoXu34.symm
    replace hvc := hvc0.le (off36.le lE npo)
    replace hz23 := hz230.le (off36.le lE npo)
    replace lE := off36.le lE npo
    replace opo : Cel H35 po [u34] := opo
    exact qn22 _ _ ⟨u34, opf, (Own.cast rowsT_succ.symm ou34), opo, ops16, opn17, nu34, apfXu34, apoXu34.symm, aps16Xu34.symm, apn17Xu34.symm, lE⟩
  · obtain ⟨ou, opf, oou, opo, ops16, opn17, nou, apfXou, aouXpo, aouXps16, aouXpn17, lE⟩ := hI22
    have hvc := hvc0.le lE
    exact hJ13 _ _ ⟨ou, rfl, rfl, opf, oou, opo, nou, apfXou, aouXpo, lE⟩
  · refine ⟨by kernel_rfl, C.slices_ChunkZ1 (r := r.toNat) (c := c.toNat) hvc0 hlN (by omega) (by omega) (by omega) (fun t A hA => ?_) h0 hst hk1 hs1⟩
    obtain ⟨A', b, o, rfl, hn, ou, opf, oou, opo, ops16, opn17, nou, apfXou, aouXpo, aouXps16, aouXpn17, lE⟩ := hJ t A hA
    exact ⟨ops16.le (Le.put _ hn), Cel.castX (by rw [Int.toNat_of_nonneg (by omega)]) (opn17.le (Le.put _ hn))⟩
end Go.Proofs.YthocjpfibegjcaaGreatDoor
/- Fields that are turned and mirrored: the program's and the reference's. -/
namespace Go.Proofs.YthocjpfibegjcaaGreatDoor
open HL
set_option maxRecDepth 100000
theorem C.spec_l05Turn {p vc : Value} {r c : Int} {l : List Int}  {H : Hp} {K : Value → Hp → Prop} (hp0 : Cel H p [(.int .i64 (r)), (.int .i64 (c)), vc]) (hvc0 : Sl eI H vc l) (hf : fieldN 1 r c l)
    (hk : ∀ u1 H', Own eI H' u1 (turL r c l) → Nw H u1 → Le H H' → K (.agg #[(.int .i64 (c)), (.int .i64 (r)), u1]) H') : HT prg I.spec_l05Turn [p].toArray H K := by
  have lE := Le.refl H
  have hp := hp0
  have hvc := hvc0
  refine R.spec_l05Turn ?_
  unfold F.spec_l05Turn
  have hs := hf.1
  have hl := hf.2.1
  have q1 := hs.1
  have q2 := hs.2
  have qm := sidesF_mul hs
  have qm2 : c * r = r * c := Int.mul_comm _ _
  refine nw_i (fun p1 H2 op1 nn3 le4 => ?_)
  have np1 : Nw H p1 := nn3.le lE
  replace hp := hp.le le4
  replace hvc := hvc.le le4
  replace lE := lE.trans le4
  replace op1 : Cel H2 p1 [(.int .i64 (0)), (.int .i64 (0)), (.slice none 0 0)] := op1
  refine ob_i (hp.nilC) ?_
  refine ob_i (hp.fa 1) ?_
  refine ob_i (hp.ld 1 rfl) ?_
  refine ob_i (hp.nilC) ?_
  refine ob_i (hp.fa 0) ?_
  refine ob_i (hp.ld 0 rfl) ?_
  refine C.spec_l04New (by first | omega | assumption) (by first | omega | assumption) (by first | omega | assumption) (by first | omega | assumption) (fun  u H5 ou nn7  le6 => ?_)
  have ap1Xu : Apart p1 u := op1.apart nn7
  have nu : Nw H u := nn7.le lE
  replace op1 := op1.le le6
  replace hp := hp.le le6
  replace hvc := hvc.le le6
  replace lE := lE.trans le6
  refine ⟨le6, ?_⟩
  refine nw_i (fun q H8 oq nn9 le10 => ?_)
  have ap1Xq : Apart p1 q := op1.apart nn9
  have auXq : Apart u q := ou.apart nn9
  have nq : Nw H q := nn9.le lE
  replace op1 := op1.le le10
  replace ou := ou.le le10
  replace hp := hp.le le10
  replace hvc := hvc.le le10
  replace lE := lE.trans le10
  replace oq : Cel H8 q [(.int .i64 (0)), (.int .i64 (0)), (.slice none 0 0)] := oq
  refine oq.stn (ws := [(.int .i64 (c)), (.int .i64 (r)), u]) rfl rfl (oc1 rfl (oc1 rfl (oc1 ou.one oc0))) (fun H11 oq off12 => ?_)
  replace op1 := op1.off off12 ap1Xq
  replace ou := ou.off off12 auXq
  replace hp := hp0.le (off12.le lE nq)
  replace hvc := hvc0.le (off12.le lE nq)
  replace lE := off12.le lE nq
  replace oq : Cel H11 q [(.int .i64 (c)), (.int .i64 (r)), u] := oq
  refine jn_i (fun σ' H' => σ' 2 = p1 ∧ σ' 3 = q ∧ Cel H' p1 [(.int .i64 (0)), (.int .i64 (0)), (.slice none 0 0)] ∧ Own eI H' u (mkL r (turG r c l) (c.toNat * r.toNat)) ∧ Cel H' q [(.int .i64 (c)), (.int .i64 (r)), u] ∧ Le H H') (fun σ13 H13 hP => ?_) (fun J13 hJ13 => ?_)
  · skip
    obtain ⟨g2L13, g3L13, op1, ou, oq, lE⟩ := hP
    have hp := hp0.le lE
    have hvc := hvc0.le lE
    try simp only [g2L13, g3L13]
    refine ob_i (oq.ldn rfl) ?_
    refine op1.stn (ws := [(.int .i64 (c)), (.int .i64 (r)), u]) rfl rfl (oc1 rfl (oc1 rfl (oc1 ou.one oc0))) (fun H14 op1 off15 => ?_)
    replace ou := ou.off off15 ap1Xu.symm
    replace oq := oq.off off15 ap1Xq.symm
    replace hp := hp0.le (off15.le lE np1)
    replace hvc := hvc0.le (off15.le lE np1)
    replace lE := off15.le lE np1
    replace op1 : Cel H14 p1 [(.int .i64 (c)), (.int .i64 (r)), u] := op1
    refine ob_i (op1.ldn rfl) ?_
    skip
    exact hk  u _ (Own.cast (show mkL r (turG r c l) (c.toNat * r.toNat) = turL r c l by rfl) ou) nu  lE
  refine ⟨fun n' σ' H' => ∃ i : Nat, n' = c.toNat - i ∧ i ≤ c.toNat ∧ σ' 0 = p ∧ σ' 2 = p1 ∧ σ' 3 = q ∧ σ' 4 = (.int .i64 ((i : Int))) ∧ Cel H' p1 [(.int .i64 (0)), (.int .i64 (0)), (.slice none 0 0)] ∧ Own eI H' u (fillL r (turG r c l) (c.toNat * r.toNat) (i * r.toNat)) ∧ Cel H' q [(.int .i64 (c)), (.int .i64 (r)), u] ∧ Le H H',
    ⟨_, 0, rfl, by omega, rfl, rfl, rfl, (congrArg (Value.int .i64) (by first | omega | rfl | (simp; done))), op1, (by rw [Nat.zero_mul, fillL_zero]; exact ou), oq, lE⟩, ?_⟩
  rintro n16 σ16 H16 ⟨i, rfl, hiN, g0L16, g2L16, g3L16, g4L16, op1, ou, oq, lE⟩
  have hp := hp0.le lE
  have hvc := hvc0.le lE
  try simp only [g0L16, g2L16, g3L16, g4L16]
  refine ob_i (oq.fa 0) ?_
  refine ob_i (oq.ld 0 rfl) ?_
  refine ob_i (vInt_lss _ _ _) ?_
  refine cnd_d (fun hg17 => ?_) (fun hg17 => ?_)
  · skip
    have ti := hg17
    refine jn_i (fun σ' H' => σ' 0 = p ∧ σ' 2 = p1 ∧ σ' 3 = q ∧ σ' 4 = (.int .i64 ((i : Int))) ∧ Cel H' p1 [(.int .i64 (0)), (.int .i64 (0)), (.slice none 0 0)] ∧ Own eI H' u (fillL r (turG r c l) (c.toNat * r.toNat) ((i + 1) * r.toNat)) ∧ Cel H' q [(.int .i64 (c)), (.int .i64 (r)), u] ∧ Le H H') (fun σ18 H18 hP => ?_) (fun J18 hJ18 => ?_)
    · skip
      obtain ⟨g0L18, g2L18, g3L18, g4L18, op1, ou, oq, lE⟩ := hP
      have hp := hp0.le lE
      have hvc := hvc0.le lE
      try simp only [g2L18, g4L18]
      refine ob_i (vInt_add (by omega) (by omega)) ?_
      exact nxt (c.toNat - (i + 1)) (by omega) ⟨i + 1, rfl, by omega, g0L18, g2L18, g3L18, (congrArg (Value.int .i64) (by first | omega | rfl | (simp; done))), op1, ou, oq, lE⟩
    refine ⟨fun n' σ' H' => ∃ k : Nat, n' = r.toNat - k ∧ k ≤ r.toNat ∧ σ' 0 = p ∧ σ' 2 = p1 ∧ σ' 3 = q ∧ σ' 4 = (.int .i64 ((i : Int))) ∧ σ' 5 = (.int .i64 ((k : Int))) ∧ Cel H' p1 [(.int .i64 (0)), (.int .i64 (0)), (.slice none 0 0)] ∧ Own eI H' u (fillL r (turG r c l) (c.toNat * r.toNat) (i * r.toNat + k)) ∧ Cel H' q [(.int .i64 (c)), (.int .i64 (r)), u] ∧ Le H H',
      ⟨_, 0, rfl, by omega, g0L16, g2L16, g3L16, g4L16, (congrArg (Value.int .i64) (by first | omega | rfl | (simp; done))), op1, ou, oq, lE⟩, ?_⟩
    rintro n19 σ19 H19 ⟨k, rfl, hkN, g0L19, g2L19, g3L19, g4L19, g5L19, op1, ou, oq, lE⟩
    have hp := hp0.le lE
    have hvc := hvc0.le lE
    try simp only [g0L19, g2L19, g3L19, g4L19, g5L19]
    refine ob_i (oq.fa 1) ?_
    refine ob_i (oq.ld 1 rfl) ?_
    refine ob_i (vInt_lss _ _ _) ?_
    refine cnd_d (fun hg20 => ?_) (fun hg20 => ?_)
    · skip
      have tk := hg20
      have x1 := ix_lt (a := (i : Int)) (b := (k : Int)) (r := c) (c := r) (by omega) (by omega) (by omega) (by omega)
      have x3 := fillL_len (c := r) (g := turG r c l) (rr := c) (cc := r) (t := i * r.toNat + k) (by omega) (by omega)
      have x2 := ix_lt (a := r - 1 - (k : Int)) (b := (i : Int)) (r := r) (c := c) (by omega) (by omega) (by omega) (by omega)
      refine ob_i (oq.fa 2) ?_
      refine ob_i (oq.ld 2 rfl) ?_
      refine ob_i (oq.fa 1) ?_
      refine ob_i (oq.ld 1 rfl) ?_
      refine ob_i (vInt_mul (by omega) (by omega)) ?_
      refine ob_i (vInt_add (by omega) (by omega)) ?_
      refine ob_i (hp.nilC) ?_
      refine ob_i (hp.fa 2) ?_
      refine ob_i (hp.ld 2 rfl) ?_
      refine ob_i (hp.nilC) ?_
      refine ob_i (hp.fa 0) ?_
      refine ob_i (hp.ld 0 rfl) ?_
      refine ob_i (vInt_sub (by omega) (by omega)) ?_
      refine ob_i (vInt_sub (by omega) (by omega)) ?_
      refine ob_i (hp.nilC) ?_
      refine ob_i (hp.fa 1) ?_
      refine ob_i (hp.ld 1 rfl) ?_
      refine ob_i (vInt_mul (by omega) (by omega)) ?_
      refine ob_i (vInt_add (by omega) (by omega)) ?_
      refine ob_i (hvc.ix (by omega) (by omega)) ?_
      refine ob_i (hvc.ld 0 (by omega) (by omega)) ?_
      refine ob_i (ou.sl.ix (by omega) (by omega)) ?_
      refine ou.st (x := at_ 0 (l) ((((r - 1) - (k : Int)) * c) + (i : Int))) (by omega) (by omega) rfl rfl (fun H21 ou off22 => ?_)
      replace op1 := op1.off off22 ap1Xu
      replace oq := oq.off off22 auXq.symm
      replace hp := hp0.le (off22.le lE nu)
      replace hvc := hvc0.le (off22.le lE nu)
      replace lE := off22.le lE nu
      refine ob_i (vInt_add (by omega) (by omega)) ?_
      replace ou : Own eI H21 u (fillL r (turG r c l) (c.toNat * r.toNat) (i * r.toNat + (k + 1))) := by rw [← Nat.add_assoc, ← fillL_set (c := r) (g := turG r c l) (i := (i : Int)) (k := (k : Int)) (by omega) (by omega) (by omega) (cast_ix (by omega)) (by omega)]; exact ou
      exact nxt (r.toNat - (k + 1)) (by omega) ⟨k + 1, rfl, by omega, g0L19, g2L19, g3L19, g4L19, (congrArg (Value.int .i64) (by first | omega | rfl | (simp; done))), op1, ou, oq, lE⟩
    · skip
      have tk := hg20
      rw [show i * r.toNat + k = (i + 1) * r.toNat by rw [Nat.add_mul, Nat.one_mul]; omega] at ou
      exact hJ18 _ _ ⟨g0L19, g2L19, g3L19, g4L19, op1, ou, oq, lE⟩
  · skip
    have ti := hg17
    rw [fillL_end (by rw [show i = c.toNat by omega]; exact Nat.le_refl _)] at ou
    exact hJ13 _ _ ⟨g2L16, g3L16, op1, ou, oq, lE⟩
theorem C.spec_l05Mirror {p vc : Value} {r c : Int} {l : List Int}  {H : Hp} {K : Value → Hp → Prop} (hp0 : Cel H p [(.int .i64 (r)), (.int .i64 (c)), vc]) (hvc0 : Sl eI H vc l) (hf : fieldN 1 r c l)
    (hk : ∀ u1 H', Own eI H' u1 (mirL r c l) → Nw H u1 → Le H H' → K (.agg #[(.int .i64 (r)), (.int .i64 (c)), u1]) H') : HT prg I.spec_l05Mirror [p].toArray H K := by
  have lE := Le.refl H
  have hp := hp0
  have hvc := hvc0
  refine R.spec_l05Mirror ?_
  unfold F.spec_l05Mirror
  have hs := hf.1
  have hl := hf.2.1
  have q1 := hs.1
  have q2 := hs.2
  have qm := sidesF_mul hs
  refine nw_i (fun p1 H2 op1 nn3 le4 => ?_)
  have np1 : Nw H p1 := nn3.le lE
  replace hp := hp.le le4
  replace hvc := hvc.le le4
  replace lE := lE.trans le4
  replace op1 : Cel H2 p1 [(.int .i64 (0)), (.int .i64 (0)), (.slice none 0 0)] := op1
  refine ob_i (hp.nilC) ?_
  refine ob_i (hp.fa 0) ?_
  refine ob_i (hp.ld 0 rfl) ?_
  refine ob_i (hp.nilC) ?_
  refine ob_i (hp.fa 1) ?_
  refine ob_i (hp.ld 1 rfl) ?_
  refine C.spec_l04New (by first | omega | assumption) (by first | omega | assumption) (by first | omega | assumption) (by first | omega | assumption) (fun  u H5 ou nn7  le6 => ?_)
  have ap1Xu : Apart p1 u := op1.apart nn7
  have nu : Nw H u := nn7.le lE
  replace op1 := op1.le le6
  replace hp := hp.le le6
  replace hvc := hvc.le le6
  replace lE := lE.trans le6
  refine ⟨le6, ?_⟩
  refine nw_i (fun q H8 oq nn9 le10 => ?_)
  have ap1Xq : Apart p1 q := op1.apart nn9
  have auXq : Apart u q := ou.apart nn9
  have nq : Nw H q := nn9.le lE
  replace op1 := op1.le le10
  replace ou := ou.le le10
  replace hp := hp.le le10
  replace hvc := hvc.le le10
  replace lE := lE.trans le10
  replace oq : Cel H8 q [(.int .i64 (0)), (.int .i64 (0)), (.slice none 0 0)] := oq
  refine oq.stn (ws := [(.int .i64 (r)), (.int .i64 (c)), u]) rfl rfl (oc1 rfl (oc1 rfl (oc1 ou.one oc0))) (fun H11 oq off12 => ?_)
  replace op1 := op1.off off12 ap1Xq
  replace ou := ou.off off12 auXq
  replace hp := hp0.le (off12.le lE nq)
  replace hvc := hvc0.le (off12.le lE nq)
  replace lE := off12.le lE nq
  replace oq : Cel H11 q [(.int .i64 (r)), (.int .i64 (c)), u] := oq
  refine jn_i (fun σ' H' => σ' 2 = p1 ∧ σ' 3 = q ∧ Cel H' p1 [(.int .i64 (0)), (.int .i64 (0)), (.slice none 0 0)] ∧ Own eI H' u (mkL c (mirG c l) (r.toNat * c.toNat)) ∧ Cel H' q [(.int .i64 (r)), (.int .i64 (c)), u] ∧ Le H H') (fun σ13 H13 hP => ?_) (fun J13 hJ13 => ?_)
  · skip
    obtain ⟨g2L13, g3L13, op1, ou, oq, lE⟩ := hP
    have hp := hp0.le lE
    have hvc := hvc0.le lE
    try simp only [g2L13, g3L13]
    refine ob_i (oq.ldn rfl) ?_
    refine op1.stn (ws := [(.int .i64 (r)), (.int .i64 (c)), u]) rfl rfl (oc1 rfl (oc1 rfl (oc1 ou.one oc0))) (fun H14 op1 off15 => ?_)
    replace ou := ou.off off15 ap1Xu.symm
    replace oq := oq.off off15 ap1Xq.symm
    replace hp := hp0.le (off15.le lE np1)
    replace hvc := hvc0.le (off15.le lE np1)
    replace lE := off15.le lE np1
    replace op1 : Cel H14 p1 [(.int .i64 (r)), (.int .i64 (c)), u] := op1
    refine ob_i (op1.ldn rfl) ?_
    skip
    exact hk  u _ (Own.cast (show mkL c (mirG c l) (r.toNat * c.toNat) = mirL r c l by rfl) ou) nu  lE
  refine ⟨fun n' σ' H' => ∃ i : Nat, n' = r.toNat - i ∧ i ≤ r.toNat ∧ σ' 0 = p ∧ σ' 2 = p1 ∧ σ' 3 = q ∧ σ' 4 = (.int .i64 ((i : Int))) ∧ Cel H' p1 [(.int .i64 (0)), (.int .i64 (0)), (.slice none 0 0)] ∧ Own eI H' u (fillL c (mirG c l) (r.toNat * c.toNat) (i * c.toNat)) ∧ Cel H' q [(.int .i64 (r)), (.int .i64 (c)), u] ∧ Le H H',
    ⟨_, 0, rfl, by omega, rfl, rfl, rfl, (congrArg (Value.int .i64) (by first | omega | rfl | (simp; done))), op1, (by rw [Nat.zero_mul, fillL_zero]; exact ou), oq, lE⟩, ?_⟩
  rintro n16 σ16 H16 ⟨i, rfl, hiN, g0L16, g2L16, g3L16, g4L16, op1, ou, oq, lE⟩
  have hp := hp0.le lE
  have hvc := hvc0.le lE
  try simp only [g0L16, g2L16, g3L16, g4L16]
  refine ob_i (hp.nilC) ?_
  refine ob_i (hp.fa 0) ?_
  refine ob_i (hp.ld 0 rfl) ?_
  refine ob_i (vInt_lss _ _ _) ?_
  refine cnd_d (fun hg17 => ?_) (fun hg17 => ?_)
  · skip
    have ti := hg17
    refine jn_i (fun σ' H' => σ' 0 = p ∧ σ' 2 = p1 ∧ σ' 3 = q ∧ σ' 4 = (.int .i64 ((i : Int))) ∧ Cel H' p1 [(.int .i64 (0)), (.int .i64 (0)), (.slice none 0 0)] ∧ Own eI H' u (fillL c (mirG c l) (r.toNat * c.toNat) ((i + 1) * c.toNat)) ∧ Cel H' q [(.int .i64 (r)), (.int .i64 (c)), u] ∧ Le H H') (fun σ18 H18 hP => ?_) (fun J18 hJ18 => ?_)
    · skip
      obtain ⟨g0L18, g2L18, g3L18, g4L18, op1, ou, oq, lE⟩ := hP
      have hp := hp0.le lE
      have hvc := hvc0.le lE
      try simp only [g2L18, g4L18]
      refine ob_i (vInt_add (by omega) (by omega)) ?_
      exact nxt (r.toNat - (i + 1)) (by omega) ⟨i + 1, rfl, by omega, g0L18, g2L18, g3L18, (congrArg (Value.int .i64) (by first | omega | rfl | (simp; done))), op1, ou, oq, lE⟩
    refine ⟨fun n' σ' H' => ∃ k : Nat, n' = c.toNat - k ∧ k ≤ c.toNat ∧ σ' 0 = p ∧ σ' 2 = p1 ∧ σ' 3 = q ∧ σ' 4 = (.int .i64 ((i : Int))) ∧ σ' 5 = (.int .i64 ((k : Int))) ∧ Cel H' p1 [(.int .i64 (0)), (.int .i64 (0)), (.slice none 0 0)] ∧ Own eI H' u (fillL c (mirG c l) (r.toNat * c.toNat) (i * c.toNat + k)) ∧ Cel H' q [(.int .i64 (r)), (.int .i64 (c)), u] ∧ Le H H',
      ⟨_, 0, rfl, by omega, g0L16, g2L16, g3L16, g4L16, (congrArg (Value.int .i64) (by first | omega | rfl | (simp; done))), op1, ou, oq, lE⟩, ?_⟩
    rintro n19 σ19 H19 ⟨k, rfl, hkN, g0L19, g2L19, g3L19, g4L19, g5L19, op1, ou, oq, lE⟩
    have hp := hp0.le lE
    have hvc := hvc0.le lE
    try simp only [g0L19, g2L19, g3L19, g4L19, g5L19]
    refine ob_i (hp.nilC) ?_
    refine ob_i (hp.fa 1) ?_
    refine ob_i (hp.ld 1 rfl) ?_
    refine ob_i (vInt_lss _ _ _) ?_
    refine cnd_d (fun hg20 => ?_) (fun hg20 => ?_)
    · skip
      have tk := hg20
      have x1 := ix_lt (a := (i : Int)) (b := (k : Int)) (r := r) (c := c) (by omega) (by omega) (by omega) (by omega)
      have x3 := fillL_len (c := c) (g := mirG c l) (rr := r) (cc := c) (t := i * c.toNat + k) (by omega) (by omega)
      have eJ : ((i : Int) + 1) * c = (i : Int) * c + c := by rw [Int.add_mul, Int.one_mul]
      have x2 := ix_lt (a := (i : Int)) (b := c - 1 - (k : Int)) (r := r) (c := c) (by omega) (by omega) (by omega) (by omega)
      refine ob_i (oq.fa 2) ?_
      refine ob_i (oq.ld 2 rfl) ?_
      refine ob_i (hp.nilC) ?_
      refine ob_i (hp.fa 1) ?_
      refine ob_i (hp.ld 1 rfl) ?_
      refine ob_i (vInt_mul (by omega) (by omega)) ?_
      refine ob_i (vInt_add (by omega) (by omega)) ?_
      refine ob_i (hp.nilC) ?_
      refine ob_i (hp.fa 2) ?_
      refine ob_i (hp.ld 2 rfl) ?_
      refine ob_i (vInt_add (by omega) (by omega)) ?_
      refine ob_i (hp.nilC) ?_
      refine ob_i (hp.fa 1) ?_
      refine ob_i (hp.ld 1 rfl) ?_
      refine ob_i (vInt_mul (by omega) (by omega)) ?_
      refine ob_i (vInt_sub (by omega) (by omega)) ?_
      refine ob_i (vInt_sub (by omega) (by omega)) ?_
      refine ob_i (hvc.ix (by omega) (by omega)) ?_
      refine ob_i (hvc.ld 0 (by omega) (by omega)) ?_
      refine ob_i (ou.sl.ix (by omega) (by omega)) ?_
      refine ou.st (x := at_ 0 (l) (((((i : Int) + 1) * c) - 1) - (k : Int))) (by omega) (by omega) rfl rfl (fun H21 ou off22 => ?_)
      replace op1 := op1.off off22 ap1Xu
      replace oq := oq.off off22 auXq.symm
      replace hp := hp0.le (off22.le lE nu)
      replace hvc := hvc0.le (off22.le lE nu)
      replace lE := off22.le lE nu
      refine ob_i (vInt_add (by omega) (by omega)) ?_
      rw [show ((i : Int) + 1) * c - 1 - (k : Int) = (i : Int) * c + (c - 1 - (k : Int)) by omega] at ou
      replace ou : Own eI H21 u (fillL c (mirG c l) (r.toNat * c.toNat) (i * c.toNat + (k + 1))) := by rw [← Nat.add_assoc, ← fillL_set (c := c) (g := mirG c l) (i := (i : Int)) (k := (k : Int)) (by omega) (by omega) (by omega) (cast_ix (by omega)) (by omega)]; exact ou
      exact nxt (c.toNat - (k + 1)) (by omega) ⟨k + 1, rfl, by omega, g0L19, g2L19, g3L19, g4L19, (congrArg (Value.int .i64) (by first | omega | rfl | (simp; done))), op1, ou, oq, lE⟩
    · skip
      have tk := hg20
      rw [show i * c.toNat + k = (i + 1) * c.toNat by rw [Nat.add_mul, Nat.one_mul]; omega] at ou
      exact hJ18 _ _ ⟨g0L19, g2L19, g3L19, g4L19, op1, ou, oq, lE⟩
  · skip
    have ti := hg17
    rw [fillL_end (by rw [show i = r.toNat by omega]; exact Nat.le_refl _)] at ou
    exact hJ13 _ _ ⟨g2L16, g3L16, op1, ou, oq, lE⟩
theorem C.impl_Field_right_1 {p vc : Value} {i k r c : Int} {l : List Int}  {H : Hp} {K : Value → Hp → Prop} (hp0 : Cel H p [(.int .i64 (r)), (.int .i64 (c)), vc]) (hvc0 : Sl eI H vc l) (hf : fieldN 1 r c l) (i0 : 0 ≤ i) (j0 : 0 ≤ k) (i1 : i < c) (j1 : k < r)
    (hk : ∀ H', Le H H' → K (.int .i64 (turG r c l i k)) H') : HT prg I.impl_Field_right_1 [(.int .i64 (i)), (.int .i64 (k)), p].toArray H K := by
  have lE := Le.refl H
  have hp := hp0
  have hvc := hvc0
  refine R.impl_Field_right_1 ?_
  unfold F.impl_Field_right_1
  have hs := hf.1
  have hl := hf.2.1
  have q1 := hs.1
  have q2 := hs.2
  have qm := sidesF_mul hs
  have x2 := ix_lt (a := r - 1 - k) (b := i) (r := r) (c := c) (by omega) (by omega) (by omega) (by omega)
  refine ob_i (hp.ldn rfl) ?_
  refine ob_i (hp.fa 0) ?_
  refine ob_i (hp.ld 0 rfl) ?_
  refine ob_i (vInt_sub (by omega) (by omega)) ?_
  refine ob_i (vInt_sub (by omega) (by omega)) ?_
  refine C.impl_Field_at hvc (by first | omega | assumption) (by first | omega | assumption) (by first | omega | assumption) (by first | omega | assumption) (by first | omega | assumption) (fun   H1    le2 => ?_)
  replace hp := hp.le le2
  replace hvc := hvc.le le2
  replace lE := lE.trans le2
  skip
  exact keq (K := K) (by rw [show ((at_ 0 l (((r - 1) - k) * c + i)) : Int) = (turG r c l i k) from by rfl]) (hk   _    lE)
theorem C.impl_Field_mirrored_1 {p vc : Value} {i k r c : Int} {l : List Int}  {H : Hp} {K : Value → Hp → Prop} (hp0 : Cel H p [(.int .i64 (r)), (.int .i64 (c)), vc]) (hvc0 : Sl eI H vc l) (hf : fieldN 1 r c l) (i0 : 0 ≤ i) (j0 : 0 ≤ k) (i1 : i < r) (j1 : k < c)
    (hk : ∀ H', Le H H' → K (.int .i64 (mirG c l i k)) H') : HT prg I.impl_Field_mirrored_1 [(.int .i64 (i)), (.int .i64 (k)), p].toArray H K := by
  have lE := Le.refl H
  have hp := hp0
  have hvc := hvc0
  refine R.impl_Field_mirrored_1 ?_
  unfold F.impl_Field_mirrored_1
  have hs := hf.1
  have hl := hf.2.1
  have q1 := hs.1
  have q2 := hs.2
  have qm := sidesF_mul hs
  have x2 := ix_lt (a := i) (b := c - 1 - k) (r := r) (c := c) (by omega) (by omega) (by omega) (by omega)
  refine ob_i (hp.ldn rfl) ?_
  refine ob_i (hp.fa 1) ?_
  refine ob_i (hp.ld 1 rfl) ?_
  refine ob_i (vInt_sub (by omega) (by omega)) ?_
  refine ob_i (vInt_sub (by omega) (by omega)) ?_
  refine C.impl_Field_at hvc (by first | omega | assumption) (by first | omega | assumption) (by first | omega | assumption) (by first | omega | assumption) (by first | omega | assumption) (fun   H1    le2 => ?_)
  replace hp := hp.le le2
  replace hvc := hvc.le le2
  replace lE := lE.trans le2
  skip
  exact keq (K := K) (by rw [show ((at_ 0 l (i * c + ((c - 1) - k))) : Int) = (mirG c l i k) from by rfl]) (hk   _    lE)
theorem C.impl_Field_right {vc : Value} {r c : Int} {l : List Int}  {H : Hp} {K : Value → Hp → Prop} (hvc0 : Sl eI H vc l) (hf : fieldN 1 r c l)
    (hk : ∀ u1 H', Own eI H' u1 (turL r c l) → Nw H u1 → Le H H' → K (.agg #[(.int .i64 (c)), (.int .i64 (r)), u1]) H') : HT prg I.impl_Field_right [(.agg #[(.int .i64 (r)), (.int .i64 (c)), vc])].toArray H K := by
  have lE := Le.refl H
  have hvc := hvc0
  refine R.impl_Field_right ?_
  unfold F.impl_Field_right
  have hs := hf.1
  have hl := hf.2.1
  have q1 := hs.1
  have q2 := hs.2
  have qm := sidesF_mul hs
  refine nw_i (fun p1 H2 op1 nn3 le4 => ?_)
  have np1 : Nw H p1 := nn3.le lE
  replace hvc := hvc.le le4
  replace lE := lE.trans le4
  replace op1 : Cel H2 p1 [(.int .i64 (r)), (.int .i64 (c)), vc] := op1
  refine nw_i (fun p5 H6 op5 nn7 le8 => ?_)
  have ap1Xp5 : Apart p1 p5 := op1.apart nn7
  have np5 : Nw H p5 := nn7.le lE
  replace op1 := op1.le le8
  replace hvc := hvc.le le8
  replace lE := lE.trans le8
  replace op5 : Cel H6 p5 [(.int .i64 (0)), (.int .i64 (0)), (.slice none 0 0)] := op5
  refine ob_i (op1.fa 1) ?_
  refine ob_i (op1.ld 1 rfl) ?_
  refine ob_i (op1.fa 0) ?_
  refine ob_i (op1.ld 0 rfl) ?_
  refine C.impl_madeField (g := turG r c l) (by omega) (by omega) (by omega) (by omega) (fun H13c i13 k13 Z leZ hi13 hk13 hZ => ?_) (fun u9 H10 ou9 nn11 le12 => ?_)
  · refine ⟨by kernel_rfl, ?_⟩
    replace op1 := op1.le leZ
    replace op5 := op5.le leZ
    replace hvc := hvc.le leZ
    replace lE := lE.trans leZ
    have lZ := Le.refl H13c
    refine C.impl_Field_right_1 op1 hvc (by first | omega | assumption) (by first | omega | assumption) (by first | omega | assumption) (by first | omega | assumption) (by first | omega | assumption) (fun   H14    le15 => ?_)
    replace op1 := op1.le le15
    replace op5 := op5.le le15
    replace hvc := hvc.le le15
    replace lE := lE.trans le15
    replace lZ := lZ.trans le15
    exact keq (K := Z) (by rw [show ((turG r c l (i13 : Int) (k13 : Int)) : Int) = (turG r c l) (i13 : Int) (k13 : Int) from rfl]) (hZ _ lZ)
  have ap1Xu9 : Apart p1 u9 := op1.apart nn11
  have ap5Xu9 : Apart p5 u9 := op5.apart nn11
  have nu9 : Nw H u9 := nn11.le lE
  replace op1 := op1.le le12
  replace op5 := op5.le le12
  replace hvc := hvc.le le12
  replace lE := lE.trans le12
  refine op5.stn (ws := [(.int .i64 (c)), (.int .i64 (r)), u9]) rfl rfl (oc1 rfl (oc1 rfl (oc1 ou9.one oc0))) (fun H16 op5 off17 => ?_)
  replace op1 := op1.off off17 ap1Xp5
  replace ou9 := ou9.off off17 ap5Xu9.symm
  replace hvc := hvc0.le (off17.le lE np5)
  replace lE := off17.le lE np5
  replace op5 : Cel H16 p5 [(.int .i64 (c)), (.int .i64 (r)), u9] := op5
  refine ob_i (op5.ldn rfl) ?_
  skip
  exact hk  u9 _ (Own.cast (show mkL (r) (turG r c l) ((c : Int).toNat * (r : Int).toNat) = turL r c l by rfl) ou9) nu9  lE
theorem C.impl_Field_mirrored {vc : Value} {r c : Int} {l : List Int}  {H : Hp} {K : Value → Hp → Prop} (hvc0 : Sl eI H vc l) (hf : fieldN 1 r c l)
    (hk : ∀ u1 H', Own eI H' u1 (mirL r c l) → Nw H u1 → Le H H' → K (.agg #[(.int .i64 (r)), (.int .i64 (c)), u1]) H') : HT prg I.impl_Field_mirrored [(.agg #[(.int .i64 (r)), (.int .i64 (c)), vc])].toArray H K := by
  have lE := Le.refl H
  have hvc := hvc0
  refine R.impl_Field_mirrored ?_
  unfold F.impl_Field_mirrored
  have hs := hf.1
  have hl := hf.2.1
  have q1 := hs.1
  have q2 := hs.2
  have qm := sidesF_mul hs
  refine nw_i (fun p1 H2 op1 nn3 le4 => ?_)
  have np1 : Nw H p1 := nn3.le lE
  replace hvc := hvc.le le4
  replace lE := lE.trans le4
  replace op1 : Cel H2 p1 [(.int .i64 (r)), (.int .i64 (c)), vc] := op1
  refine nw_i (fun p5 H6 op5 nn7 le8 => ?_)
  have ap1Xp5 : Apart p1 p5 := op1.apart nn7
  have np5 : Nw H p5 := nn7.le lE
  replace op1 := op1.le le8
  replace hvc := hvc.le le8
  replace lE := lE.trans le8
  replace op5 : Cel H6 p5 [(.int .i64 (0)), (.int .i64 (0)), (.slice none 0 0)] := op5
  refine ob_i (op1.fa 0) ?_
  refine ob_i (op1.ld 0 rfl) ?_
  refine ob_i (op1.fa 1) ?_
  refine ob_i (op1.ld 1 rfl) ?_
  refine C.impl_madeField (g := mirG c l) (by omega) (by omega) (by omega) (by omega) (fun H13c i13 k13 Z leZ hi13 hk13 hZ => ?_) (fun u9 H10 ou9 nn11 le12 => ?_)
  · refine ⟨by kernel_rfl, ?_⟩
    replace op1 := op1.le leZ
    replace op5 := op5.le leZ
    replace hvc := hvc.le leZ
    replace lE := lE.trans leZ
    have lZ := Le.refl H13c
    refine C.impl_Field_mirrored_1 op1 hvc (by first | omega | assumption) (by first | omega | assumption) (by first | omega | assumption) (by first | omega | assumption) (by first | omega | assumption) (fun   H14    le15 => ?_)
    replace op1 := op1.le le15
    replace op5 := op5.le le15
    replace hvc := hvc.le le15
    replace lE := lE.trans le15
    replace lZ := lZ.trans le15
    exact keq (K := Z) (by rw [show ((mirG c l (i13 : Int) (k13 : Int)) : Int) = (mirG c l) (i13 : Int) (k13 : Int) from rfl]) (hZ _ lZ)
  have ap1Xu9 : Apart p1 u9 := op1.apart nn11
  have ap5Xu9 : Apart p5 u9 := op5.apart nn11
  have nu9 : Nw H u9 := nn11.le lE
  replace op1 := op1.le le12
  replace op5 := op5.le le12
  replace hvc := hvc.le le12
  replace lE := lE.trans le12
  refine op5.stn (ws := [(.int .i64 (r)), (.int .i64 (c)), u9]) rfl rfl (oc1 rfl (oc1 rfl (oc1 ou9.one oc0))) (fun H16 op5 off17 => ?_)
  replace op1 := op1.off off17 ap1Xp5
  replace ou9 := ou9.off off17 ap5Xu9.symm
  replace hvc := hvc0.le (off17.le lE np5)
  replace lE := off17.le lE np5
  replace op5 : Cel H16 p5 [(.int .i64 (r)), (.int .i64 (c)), u9] := op5
  refine ob_i (op5.ldn rfl) ?_
  skip
  exact hk  u9 _ (Own.cast (show mkL (c) (mirG c l) ((r : Int).toNat * (c : Int).toNat) = mirL r c l by rfl) ou9) nu9  lE
theorem C.impl_copyField {vc : Value} {r c : Int} {l : List Int}  {H : Hp} {K : Value → Hp → Prop} (hvc0 : Sl eI H vc l) (hl : l.length ≤ 68719476736)
    (hk : ∀ u1 H', Own eI H' u1 l → Nw H u1 → Le H H' → K (.agg #[(.int .i64 (r)), (.int .i64 (c)), u1]) H') : HT prg I.impl_copyField [(.agg #[(.int .i64 (r)), (.int .i64 (c)), vc])].toArray H K := by
  have lE := Le.refl H
  have hvc := hvc0
  refine R.impl_copyField ?_
  unfold F.impl_copyField
  refine nw_i (fun p1 H2 op1 nn3 le4 => ?_)
  have np1 : Nw H p1 := nn3.le lE
  replace hvc := hvc.le le4
  replace lE := lE.trans le4
  replace op1 : Cel H2 p1 [(.int .i64 (r)), (.int .i64 (c)), vc] := op1
  refine nw_i (fun p5 H6 op5 nn7 le8 => ?_)
  have ap1Xp5 : Apart p1 p5 := op1.apart nn7
  have np5 : Nw H p5 := nn7.le lE
  replace op1 := op1.le le8
  replace hvc := hvc.le le8
  replace lE := lE.trans le8
  replace op5 : Cel H6 p5 [(.int .i64 (0)), (.int .i64 (0)), (.slice none 0 0)] := op5
  refine ob_i (op1.fa 2) ?_
  refine ob_i (op1.ld 2 rfl) ?_
  refine C.slices_Clone_int64Zint64 hvc (by first | omega | assumption) (fun  u11 H9 ou11 nn12  le10 => ?_)
  have ap1Xu11 : Apart p1 u11 := op1.apart nn12
  have ap5Xu11 : Apart p5 u11 := op5.apart nn12
  have nu11 : Nw H u11 := nn12.le lE
  replace op1 := op1.le le10
  replace op5 := op5.le le10
  replace hvc := hvc.le le10
  replace lE := lE.trans le10
  refine ob_i (op1.fa 2) ?_
  refine op1.st (by simp) ou11.one ou11.cells (fun H13 op1 off14 => ?_)
  replace op5 := op5.off off14 ap1Xp5.symm
  replace ou11 := ou11.off off14 ap1Xu11.symm
  replace hvc := hvc0.le (off14.le lE np1)
  replace lE := off14.le lE np1
  replace op1 : Cel H13 p1 [(.int .i64 (r)), (.int .i64 (c)), u11] := op1
  refine ob_i (op1.ldn rfl) ?_
  refine op5.stn (ws := [(.int .i64 (r)), (.int .i64 (c)), u11]) rfl rfl (oc1 rfl (oc1 rfl (oc1 ou11.one oc0))) (fun H15 op5 off16 => ?_)
  replace op1 := op1.off off16 ap1Xp5
  replace ou11 := ou11.off off16 ap5Xu11.symm
  replace hvc := hvc0.le (off16.le lE np5)
  replace lE := off16.le lE np5
  replace op5 : Cel H15 p5 [(.int .i64 (r)), (.int .i64 (c)), u11] := op5
  refine ob_i (op5.ldn rfl) ?_
  skip
  exact hk  u11 _ ou11 nu11  lE
theorem C.spec_l05Images {p vc : Value} {r c : Int} {l : List Int}  {H : Hp} {K : Value → Hp → Prop} (hp0 : Cel H p [(.int .i64 (r)), (.int .i64 (c)), vc]) (hvc0 : Sl eI H vc l) (hf : fieldN 1 r c l)
    (hk : ∀ u1 Su1 H', Fam H' u1 Su1 (imgs (⟨r, c, l⟩ : FdL) 8) → Nws H Su1 → Le H H' → K u1 H') : HT prg I.spec_l05Images [p].toArray H K := by
  have lE := Le.refl H
  have hp := hp0
  have hvc := hvc0
  refine R.spec_l05Images ?_
  unfold F.spec_l05Images
  have hs := hf.1
  have hl := hf.2.1
  have q1 := hs.1
  have q2 := hs.2
  have qm := sidesF_mul hs
  refine bSE_fam (fun u1 Su1 H2 ou1 nn3 le5 => ?_)
  have nu1 : Nws H Su1 := nn3.le lE
  replace hp := hp.le le5
  replace hvc := hvc.le le5
  replace lE := lE.trans le5
  refine ob_i (hp.nilC) ?_
  refine ob_i (hp.fa 0) ?_
  refine ob_i (hp.ld 0 rfl) ?_
  refine ob_i (hp.nilC) ?_
  refine ob_i (hp.fa 1) ?_
  refine ob_i (hp.ld 1 rfl) ?_
  refine C.spec_l05Cut hp hvc (by first | omega | assumption) (by first | omega | assumption) (by first | omega | assumption) (by first | omega | assumption) (by first | omega | assumption) (by first | omega | assumption) (by first | omega | assumption) (by first | omega | assumption) (fun  u8 H6 ou8 nn9  le7 => ?_)
  have au1Xu8 : Apt Su1 u8 := Apt.of_nw ou1.known nn9
  have nu8 : Nw H u8 := nn9.le lE
  replace ou1 := ou1.le le7
  replace hp := hp.le le7
  replace hvc := hvc.le le7
  replace lE := lE.trans le7
  refine ⟨le7, ?_⟩
  refine nw_i (fun q H10 oq nn11 le12 => ?_)
  have au1Xq : Apt Su1 q := Apt.of_nw ou1.known nn11
  have au8Xq : Apart u8 q := ou8.apart nn11
  have nq : Nw H q := nn11.le lE
  replace ou1 := ou1.le le12
  replace ou8 := ou8.le le12
  replace hp := hp.le le12
  replace hvc := hvc.le le12
  replace lE := lE.trans le12
  replace oq : Cel H10 q [(.int .i64 (0)), (.int .i64 (0)), (.slice none 0 0)] := oq
  refine oq.stn (ws := [(.int .i64 (r)), (.int .i64 (c)), u8]) rfl rfl (oc1 rfl (oc1 rfl (oc1 ou8.one oc0))) (fun H13 oq off14 => ?_)
  replace ou1 := ou1.off off14 au1Xq
  replace ou8 := ou8.off off14 au8Xq
  replace hp := hp0.le (off14.le lE nq)
  replace hvc := hvc0.le (off14.le lE nq)
  replace lE := off14.le lE nq
  replace oq : Cel H13 q [(.int .i64 (r)), (.int .i64 (c)), u8] := oq
  refine jn_i (fun σ' H' => ∃ u, ∃ Su, ∃ g, σ' 3 = u ∧ Cel H' q [(.int .i64 ((imB (⟨r, c, l⟩ : FdL) 2).r)), (.int .i64 ((imB (⟨r, c, l⟩ : FdL) 2).c)), g] ∧ Fam H' u Su (imgs (⟨r, c, l⟩ : FdL) 8) ∧ Own eI H' g ((imB (⟨r, c, l⟩ : FdL) 2).l) ∧ Nws H Su ∧ Apt q Su ∧ Nw H g ∧ Apart q g ∧ Apt Su g ∧ Le H H') (fun σ15 H15 hP => ?_) (fun J15 hJ15 => ?_)
  · skip
    obtain ⟨u, Su, g, g3L15, oq, ou, og, nu, aqXu, ng, aqXg, auXg, lE⟩ := hP
    have hp := hp0.le lE
    have hvc := hvc0.le lE
    try simp only [g3L15]
    skip
    exact hk  u _ _ ou nu  lE
  refine ⟨fun n' σ' H' => ∃ i : Nat, n' = 2 - i ∧ i ≤ 2 ∧ ∃ u, ∃ Su, ∃ g, σ' 0 = p ∧ σ' 3 = u ∧ σ' 4 = q ∧ σ' 5 = (.int .i64 ((i : Int))) ∧ Cel H' q [(.int .i64 ((imB (⟨r, c, l⟩ : FdL) i).r)), (.int .i64 ((imB (⟨r, c, l⟩ : FdL) i).c)), g] ∧ Fam H' u Su (imgs (⟨r, c, l⟩ : FdL) (4 * i)) ∧ Own eI H' g ((imB (⟨r, c, l⟩ : FdL) i).l) ∧ Nws H Su ∧ Apt q Su ∧ Nw H g ∧ Apart q g ∧ Apt Su g ∧ Le H H',
    ⟨_, 0, rfl, by omega, u1, _, u8, rfl, rfl, rfl, (congrArg (Value.int .i64) (by first | omega | rfl | (simp; done))), oq, (Fam.cast (by first | rfl | (simp; done)) ou1), (Own.cast (by exact cut_all (by omega) (by omega) hl) ou8), nu1, au1Xq.symm, nu8, au8Xq.symm, au1Xu8, lE⟩, ?_⟩
  rintro n16 σ16 H16 ⟨i, rfl, hiN, u, Su, g, g0L16, g3L16, g4L16, g5L16, oq, ou, og, nu, aqXu, ng, aqXg, auXg, lE⟩
  have hp := hp0.le lE
  have hvc := hvc0.le lE
  try simp only [g0L16, g3L16, g4L16, g5L16]
  have hB : okF (imB (⟨r, c, l⟩ : FdL) i) := imB_ok (f := (⟨r, c, l⟩ : FdL)) hf i
  have hiL := imgs_len (⟨r, c, l⟩ : FdL) (4 * i)
  refine ob_i (vInt_lss _ _ _) ?_
  refine cnd_d (fun hg17 => ?_) (fun hg17 => ?_)
  · skip
    have ti := hg17
    refine jn_i (fun σ' H' => ∃ u, ∃ Su, ∃ g, σ' 0 = p ∧ σ' 3 = u ∧ σ' 4 = q ∧ σ' 5 = (.int .i64 ((i : Int))) ∧ Cel H' q [(.int .i64 ((imB (⟨r, c, l⟩ : FdL) (i + 1)).r)), (.int .i64 ((imB (⟨r, c, l⟩ : FdL) (i + 1)).c)), g] ∧ Fam H' u Su (imgs (⟨r, c, l⟩ : FdL) (4 * (i + 1))) ∧ Own eI H' g ((imB (⟨r, c, l⟩ : FdL) (i + 1)).l) ∧ Nws H Su ∧ Apt q Su ∧ Nw H g ∧ Apart q g ∧ Apt Su g ∧ Le H H') (fun σ18 H18 hP => ?_) (fun J18 hJ18 => ?_)
    · skip
      obtain ⟨u, Su, g, g0L18, g3L18, g4L18, g5L18, oq, ou, og, nu, aqXu, ng, aqXg, auXg, lE⟩ := hP
      have hp := hp0.le lE
      have hvc := hvc0.le lE
      try simp only [g5L18]
      refine ob_i (vInt_add (by omega) (by omega)) ?_
      exact nxt (2 - (i + 1)) (by omega) ⟨i + 1, rfl, by omega, u, _, g, g0L18, g3L18, g4L18, (congrArg (Value.int .i64) (by first | omega | rfl | (simp; done))), oq, ou, og, nu, aqXu, ng, aqXg, auXg, lE⟩
    refine jn_i (fun σ' H' => ∃ u, ∃ Su, ∃ g, σ' 0 = p ∧ σ' 3 = u ∧ σ' 4 = q ∧ σ' 5 = (.int .i64 ((i : Int))) ∧ Cel H' q [(.int .i64 ((imK (imB (⟨r, c, l⟩ : FdL) i) 4).r)), (.int .i64 ((imK (imB (⟨r, c, l⟩ : FdL) i) 4).c)), g] ∧ Fam H' u Su (imgs (⟨r, c, l⟩ : FdL) (4 * (i + 1))) ∧ Own eI H' g ((imK (imB (⟨r, c, l⟩ : FdL) i) 4).l) ∧ Nws H Su ∧ Apt q Su ∧ Nw H g ∧ Apart q g ∧ Apt Su g ∧ Le H H') (fun σ19 H19 hP => ?_) (fun J19 hJ19 => ?_)
    · skip
      obtain ⟨u, Su, g, g0L19, g3L19, g4L19, g5L19, oq, ou, og, nu, aqXu, ng, aqXg, auXg, lE⟩ := hP
      have hp := hp0.le lE
      have hvc := hvc0.le lE
      try simp only [g0L19, g4L19]
      refine C.spec_l05Mirror hp hvc (by first | omega | assumption) (fun  u22 H20 ou22 nn23  le21 => ?_)
      have aqXu22 : Apart q u22 := oq.apart nn23
      have auXu22 : Apt Su u22 := Apt.of_nw ou.known nn23
      have agXu22 : Apart g u22 := og.apart nn23
      have nu22 : Nw H u22 := nn23.le lE
      replace oq := oq.le le21
      replace ou := ou.le le21
      replace og := og.le le21
      replace hp := hp.le le21
      replace hvc := hvc.le le21
      replace lE := lE.trans le21
      refine oq.stn (ws := [(.int .i64 (r)), (.int .i64 (c)), u22]) rfl rfl (oc1 rfl (oc1 rfl (oc1 ou22.one oc0))) (fun H24 oq off25 => ?_)
      replace ou := ou.off off25 aqXu.symm
      replace og := og.off off25 aqXg.symm
      replace ou22 := ou22.off off25 aqXu22.symm
      replace hp := hp0.le (off25.le lE nq)
      replace hvc := hvc0.le (off25.le lE nq)
      replace lE := off25.le lE nq
      replace oq : Cel H24 q [(.int .i64 (r)), (.int .i64 (c)), u22] := oq
      replace ou22 : Own eI H24 u22 (imB (⟨r, c, l⟩ : FdL) (i + 1)).l := ou22
      replace oq : Cel H24 q [(.int .i64 (imB (⟨r, c, l⟩ : FdL) (i + 1)).r), (.int .i64 (imB (⟨r, c, l⟩ : FdL) (i + 1)).c), u22] := oq
      exact hJ18 _ _ ⟨u, _, u22, g0L19, g3L19, g4L19, g5L19, oq, ou, ou22, nu, aqXu, nu22, aqXu22, auXu22, lE⟩
    refine ⟨fun n' σ' H' => ∃ k : Nat, n' = 4 - k ∧ k ≤ 4 ∧ ∃ u, ∃ Su, ∃ g, σ' 0 = p ∧ σ' 3 = u ∧ σ' 4 = q ∧ σ' 5 = (.int .i64 ((i : Int))) ∧ σ' 6 = (.int .i64 ((k : Int))) ∧ Cel H' q [(.int .i64 ((imK (imB (⟨r, c, l⟩ : FdL) i) k).r)), (.int .i64 ((imK (imB (⟨r, c, l⟩ : FdL) i) k).c)), g] ∧ Fam H' u Su (imgs (⟨r, c, l⟩ : FdL) (4 * i + k)) ∧ Own eI H' g ((imK (imB (⟨r, c, l⟩ : FdL) i) k).l) ∧ Nws H Su ∧ Apt q Su ∧ Nw H g ∧ Apart q g ∧ Apt Su g ∧ Le H H',
      ⟨_, 0, rfl, by omega, u, _, g, g0L16, g3L16, g4L16, g5L16, (congrArg (Value.int .i64) (by first | omega | rfl | (simp; done))), oq, (Fam.cast (by first | rfl | (simp; done)) ou), (Own.cast (by first | rfl | (simp; done)) og), nu, aqXu, ng, aqXg, auXg, lE⟩, ?_⟩
    rintro n26 σ26 H26 ⟨k, rfl, hkN, u, Su, g, g0L26, g3L26, g4L26, g5L26, g6L26, oq, ou, og, nu, aqXu, ng, aqXg, auXg, lE⟩
    have hp := hp0.le lE
    have hvc := hvc0.le lE
    try simp only [g3L26, g4L26, g6L26]
    have hK : fieldN 1 (imK (imB (⟨r, c, l⟩ : FdL) i) k).r (imK (imB (⟨r, c, l⟩ : FdL) i) k).c (imK (imB (⟨r, c, l⟩ : FdL) i) k).l := imK_ok hB k
    have lK := fieldN_len hK
    have hiL2 := imgs_len (⟨r, c, l⟩ : FdL) (4 * i + k)
    refine ob_i (vInt_lss _ _ _) ?_
    refine cnd_d (fun hg27 => ?_) (fun hg27 => ?_)
    · skip
      have tk := hg27
      refine ob_i (oq.ldn rfl) ?_
      refine bSE_one (enc := encFv) (x := (⟨(imK (imB (⟨r, c, l⟩ : FdL) i) k).r, (imK (imB (⟨r, c, l⟩ : FdL) i) k).c, g⟩ : Fv)) rfl rfl (by omega) (by omega) rfl (fun u28 H29 ou28 nn30 le32 => ?_) rfl
      have aqXu28 : Apart q u28 := oq.apart nn30
      have auXu28 : Apt Su u28 := Apt.of_nw ou.known nn30
      have agXu28 : Apart g u28 := og.apart nn30
      have nu28 : Nw H u28 := nn30.le lE
      replace oq := oq.le le32
      replace ou := ou.le le32
      replace og := og.le le32
      replace hp := hp.le le32
      replace hvc := hvc.le le32
      replace lE := lE.trans le32
      refine Fam.push ou rfl (ou28.sl encFv_n) og auXg.symm (by omega) (by first | omega | (simp; omega)) (fun u37 Su37 H33 ou37 off34 hb35 hx36 oxg => ?_)
      have aqXu37 : Apt q Su37 := Apt.push oq.known aqXu aqXg hb35
      have au28Xu37 : Apt u28 Su37 := Apt.push ou28.known auXu28.symm agXu28.symm hb35
      have nu37 : Nws H Su37 := Nws.push lE nu ng hb35
      replace oq := oq.offS off34 aqXu
      replace ou28 := ou28.offS off34 auXu28.symm
      replace hp := hp0.le (off34.le lE nu)
      replace hvc := hvc0.le (off34.le lE nu)
      replace lE := off34.le lE nu
      replace og := oxg.ro
      refine C.spec_l05Turn oq og.sl (by first | omega | assumption) (fun  u40 H38 ou40 nn41  le39 => ?_)
      have aqXu40 : Apart q u40 := oq.apart nn41
      have agXu40 : Apart g u40 := og.apart nn41
      have au28Xu40 : Apart u28 u40 := ou28.apart nn41
      have au37Xu40 : Apt Su37 u40 := Apt.of_nw ou37.known nn41
      have nu40 : Nw H u40 := nn41.le lE
      replace oq := oq.le le39
      replace og := og.le le39
      replace ou28 := ou28.le le39
      replace ou37 := ou37.le le39
      replace hp := hp.le le39
      replace hvc := hvc.le le39
      replace lE := lE.trans le39
      refine oq.stn (ws := [(.int .i64 (((imK (imB (⟨r, c, l⟩ : FdL) i) k).c))), (.int .i64 (((imK (imB (⟨r, c, l⟩ : FdL) i) k).r))), u40]) rfl rfl (oc1 rfl (oc1 rfl (oc1 ou40.one oc0))) (fun H42 oq off43 => ?_)
      replace og := og.off off43 aqXg.symm
      replace ou28 := ou28.off off43 aqXu28.symm
      replace ou37 := ou37.off off43 aqXu37.symm
      replace ou40 := ou40.off off43 aqXu40.symm
      replace hp := hp0.le (off43.le lE nq)
      replace hvc := hvc0.le (off43.le lE nq)
      replace lE := off43.le lE nq
      replace oq : Cel H42 q [(.int .i64 (((imK (imB (⟨r, c, l⟩ : FdL) i) k).c))), (.int .i64 (((imK (imB (⟨r, c, l⟩ : FdL) i) k).r))), u40] := oq
      refine ob_i (vInt_add (by omega) (by omega)) ?_
      exact nxt (4 - (k + 1)) (by omega) ⟨k + 1, rfl, by omega, u37, _, u40, g0L26, rfl, g4L26, g5L26, (congrArg (Value.int .i64) (by first | omega | rfl | (simp; done))), oq, (Fam.cast (imgs_succ (⟨r, c, l⟩ : FdL) (by omega)) ou37), ou40, nu37, aqXu37, nu40, aqXu40, au37Xu40, lE⟩
    · skip
      have tk := hg27
      obtain rfl : k = 4 := by omega
      exact hJ19 _ _ ⟨u, _, g, g0L26, g3L26, g4L26, g5L26, oq, ou, og, nu, aqXu, ng, aqXg, auXg, lE⟩
  · skip
    have ti := hg17
    obtain rfl : i = 2 := by omega
    exact hJ15 _ _ ⟨u, _, g, g3L16, oq, ou, og, nu, aqXu, ng, aqXg, auXg, lE⟩
theorem C.impl_Field_images {vc : Value} {r c : Int} {l : List Int}  {H : Hp} {K : Value → Hp → Prop} (hvc0 : Sl eI H vc l) (hf : fieldN 1 r c l)
    (hk : ∀ u1 Su1 H', Fam H' u1 Su1 (imgs (⟨r, c, l⟩ : FdL) 8) → Nws H Su1 → Le H H' → K u1 H') : HT prg I.impl_Field_images [(.agg #[(.int .i64 (r)), (.int .i64 (c)), vc])].toArray H K := by
  have lE := Le.refl H
  have hvc := hvc0
  refine R.impl_Field_images ?_
  unfold F.impl_Field_images
  have hs := hf.1
  have hl := hf.2.1
  have q1 := hs.1
  have q2 := hs.2
  have qm := sidesF_mul hs
  refine nw_i (fun p1 H2 op1 nn3 le4 => ?_)
  have np1 : Nw H p1 := nn3.le lE
  replace hvc := hvc.le le4
  replace lE := lE.trans le4
  replace op1 : Cel H2 p1 [(.int .i64 (r)), (.int .i64 (c)), vc] := op1
  refine bSE_fam (fun u5 Su5 H6 ou5 nn7 le9 => ?_)
  have ap1Xu5 : Apt p1 Su5 := Apt.of_nws op1.known nn7
  have nu5 : Nws H Su5 := nn7.le lE
  replace op1 := op1.le le9
  replace hvc := hvc.le le9
  replace lE := lE.trans le9
  refine jn_i (fun σ' H' => ∃ u, ∃ Su, ∃ g, ∃ h, σ' 3 = u ∧ Cel H' p1 [(.int .i64 (r)), (.int .i64 (c)), vc] ∧ Fam H' u Su (imgs (⟨r, c, l⟩ : FdL) 8) ∧ Own eI H' g (gL (⟨r, c, l⟩ : FdL) 2) ∧ Own eI H' h (hL (⟨r, c, l⟩ : FdL) 2) ∧ Nws H Su ∧ Apt p1 Su ∧ Nw H g ∧ Apart p1 g ∧ Apt Su g ∧ Nw H h ∧ Apart p1 h ∧ Apt Su h ∧ Apart g h ∧ Le H H') (fun σ10 H10 hP => ?_) (fun J10 hJ10 => ?_)
  · skip
    obtain ⟨u, Su, g, h, g3L10, op1, ou, og, oh, nu, ap1Xu, ng, ap1Xg, auXg, nh, ap1Xh, auXh, agXh, lE⟩ := hP
    have hvc := hvc0.le lE
    try simp only [g3L10]
    skip
    exact hk  u _ _ ou nu  lE
  refine ob_i (op1.ldn rfl) ?_
  refine ob_i (op1.ldn rfl) ?_
  refine C.impl_copyField hvc (by first | omega | assumption) (fun  w H11 ow nn13  le12 => ?_)
  have ap1Xw : Apart p1 w := op1.apart nn13
  have au5Xw : Apt Su5 w := Apt.of_nw ou5.known nn13
  have nw : Nw H w := nn13.le lE
  replace op1 := op1.le le12
  replace ou5 := ou5.le le12
  replace hvc := hvc.le le12
  replace lE := lE.trans le12
  refine ⟨le12, ?_⟩
  refine C.impl_Field_mirrored hvc (by first | omega | assumption) (fun  m H14 om nn16  le15 => ?_)
  have ap1Xm : Apart p1 m := op1.apart nn16
  have au5Xm : Apt Su5 m := Apt.of_nw ou5.known nn16
  have awXm : Apart w m := ow.apart nn16
  have nm : Nw H m := nn16.le lE
  replace op1 := op1.le le15
  replace ou5 := ou5.le le15
  replace ow := ow.le le15
  replace hvc := hvc.le le15
  replace lE := lE.trans le15
  refine ⟨le15, ?_⟩
  refine bSE_i (enc := encFv) (n := 3) (l := ([⟨r, c, w⟩, ⟨r, c, m⟩] : List Fv)) (by omega) rfl encFv_n (by kernel_rfl) (fun e H17 oe nn18 le20 => ?_)
  have ap1Xe : Apart p1 e := op1.apart nn18
  have au5Xe : Apt Su5 e := Apt.of_nw ou5.known nn18
  have awXe : Apart w e := ow.apart nn18
  have amXe : Apart m e := om.apart nn18
  have ne : Nw H e := nn18.le lE
  replace op1 := op1.le le20
  replace ou5 := ou5.le le20
  replace ow := ow.le le20
  replace om := om.le le20
  replace hvc := hvc.le le20
  replace lE := lE.trans le20
  refine ob_i (a := .int .i64 2) oe.len ?_
  refine ⟨fun n' σ' H' => ∃ i : Nat, n' = 2 - i ∧ i ≤ 2 ∧ ∃ u, ∃ Su, ∃ g, ∃ h, σ' 3 = u ∧ σ' 11 = e ∧ σ' 12 = (.int .i64 (2)) ∧ σ' 13 = (.int .i64 ((i : Int))) ∧ Cel H' p1 [(.int .i64 (r)), (.int .i64 (c)), vc] ∧ OwnE 3 encFv H' e ([⟨r, c, w⟩, ⟨r, c, m⟩]) ∧ Fam H' u Su (imgs (⟨r, c, l⟩ : FdL) (4 * i)) ∧ Own eI H' g (gL (⟨r, c, l⟩ : FdL) i) ∧ Own eI H' h (hL (⟨r, c, l⟩ : FdL) i) ∧ Nws H Su ∧ Apt p1 Su ∧ Apt e Su ∧ Nw H g ∧ Apart p1 g ∧ Apart e g ∧ Apt Su g ∧ Nw H h ∧ Apart p1 h ∧ Apart e h ∧ Apt Su h ∧ Apart g h ∧ Le H H' ∧ ((i : Int) < 2 → at_ fv0 ([⟨r, c, w⟩, ⟨r, c, m⟩] : List Fv) (i : Int) = ⟨r, c, g⟩) ∧ (i = 0 → h = m),
    ⟨_, 0, rfl, by omega, u5, _, w, m, rfl, rfl, rfl, (congrArg (Value.int .i64) (by first | omega | rfl | (simp; done))), op1, oe, (Fam.cast (by first | rfl | (simp; done)) ou5), (Own.cast (by first | rfl | (simp; done)) ow), (Own.cast (by first | rfl | (simp; done)) om), nu5, ap1Xu5, au5Xe.symm, nw, ap1Xw, awXe.symm, au5Xw, nm, ap1Xm, amXe.symm, au5Xm, awXm, lE, (fun _ => rfl), (fun _ => rfl)⟩, ?_⟩
  rintro n21 σ21 H21 ⟨i, rfl, hiN, u, Su, g, h, g3L21, g11L21, g12L21, g13L21, op1, oe, ou, og, oh, nu, ap1Xu, aeXu, ng, ap1Xg, aeXg, auXg, nh, ap1Xh, aeXh, auXh, agXh, lE, hm0, hm1⟩
  have hvc := hvc0.le lE
  try simp only [g3L21, g11L21, g12L21, g13L21]
  have hgi := gL_eq (f := (⟨r, c, l⟩ : FdL)) (i := i)
  have hB : okF (imB (⟨r, c, l⟩ : FdL) i) := imB_ok (f := (⟨r, c, l⟩ : FdL)) hf i
  have hiL := imgs_len (⟨r, c, l⟩ : FdL) (4 * i)
  refine ob_i (vInt_lss _ _ _) ?_
  refine cnd_d (fun hg22 => ?_) (fun hg22 => ?_)
  · skip
    have ti := hg22
    refine jn_i (fun σ' H' => ∃ u, ∃ Su, σ' 3 = u ∧ σ' 11 = e ∧ σ' 12 = (.int .i64 (2)) ∧ σ' 13 = (.int .i64 ((i : Int))) ∧ Cel H' p1 [(.int .i64 (r)), (.int .i64 (c)), vc] ∧ OwnE 3 encFv H' e ([⟨r, c, w⟩, ⟨r, c, m⟩]) ∧ Fam H' u Su (imgs (⟨r, c, l⟩ : FdL) (4 * (i + 1))) ∧ Own eI H' h (hL (⟨r, c, l⟩ : FdL) i) ∧ Nws H Su ∧ Apt p1 Su ∧ Apt e Su ∧ Apt Su h ∧ Le H H') (fun σ23 H23 hP => ?_) (fun J23 hJ23 => ?_)
    · skip
      obtain ⟨u, Su, g3L23, g11L23, g12L23, g13L23, op1, oe, ou, oh, nu, ap1Xu, aeXu, auXh, lE⟩ := hP
      have hvc := hvc0.le lE
      try simp only [g13L23]
      refine ob_i (vInt_add (by omega) (by omega)) ?_
      exact nxt (2 - (i + 1)) (by omega) ⟨i + 1, rfl, by omega, u, _, h, _, g3L23, g11L23, g12L23, (congrArg (Value.int .i64) (by first | omega | rfl | (simp; done))), op1, oe, ou, (Own.cast (hgL (⟨r, c, l⟩ : FdL) i) oh), (Own.cast (by simp [hL]) (Own.nil_of none)), nu, ap1Xu, aeXu, nh, ap1Xh, aeXh, auXh, (fun b hb => by simp [bk] at hb), (fun b _ hb => by simp [bk] at hb), (fun b _ hb => by simp [bk] at hb), Apt.nil_r, (fun b _ hb => by simp [bk] at hb), lE, (fun hlt => by obtain rfl : i = 0 := (by omega); rw [hm1 rfl]; first | done | rfl), (fun h0 => absurd h0 (by omega))⟩
    refine ob_i ((oe.sl encFv_n).ix encFv_n (by omega) (by omega) (by first | omega | (simp only [List.length_cons, List.length_nil]; omega))) ?_
    refine ob_i (a := (.agg #[(.int .i64 (r)), (.int .i64 (c)), g])) (by rw [(oe.sl encFv_n).ldn (i := (i : Int)) encFv_n (by omega) fv0 (by omega) (by show _ < ((2 : Nat) : Int); omega), hm0 (by omega)]; try rfl) ?_
    refine nw_i (fun q H24 oq nn25 le26 => ?_)
    have ap1Xq : Apart p1 q := op1.apart nn25
    have aeXq : Apart e q := oe.apart nn25
    have auXq : Apt Su q := Apt.of_nw ou.known nn25
    have agXq : Apart g q := og.apart nn25
    have ahXq : Apart h q := oh.apart nn25
    have nq : Nw H q := nn25.le lE
    replace op1 := op1.le le26
    replace oe := oe.le le26
    replace ou := ou.le le26
    replace og := og.le le26
    replace oh := oh.le le26
    replace hvc := hvc.le le26
    replace lE := lE.trans le26
    replace oq : Cel H24 q [(.int .i64 (0)), (.int .i64 (0)), (.slice none 0 0)] := oq
    refine oq.stn (ws := [(.int .i64 (r)), (.int .i64 (c)), g]) rfl rfl (oc1 rfl (oc1 rfl (oc1 og.one oc0))) (fun H27 oq off28 => ?_)
    replace op1 := op1.off off28 ap1Xq
    replace oe := oe.off off28 aeXq
    replace ou := ou.off off28 auXq
    replace og := og.off off28 agXq
    replace oh := oh.off off28 ahXq
    replace hvc := hvc0.le (off28.le lE nq)
    replace lE := off28.le lE nq
    replace oq : Cel H27 q [(.int .i64 (r)), (.int .i64 (c)), g] := oq
    refine ⟨fun n' σ' H' => ∃ k : Nat, n' = 4 - k ∧ k ≤ 4 ∧ ∃ u, ∃ Su, ∃ x, σ' 3 = u ∧ σ' 5 = q ∧ σ' 11 = e ∧ σ' 12 = (.int .i64 (2)) ∧ σ' 13 = (.int .i64 ((i : Int))) ∧ σ' 17 = (.int .i64 ((k : Int))) ∧ Cel H' p1 [(.int .i64 (r)), (.int .i64 (c)), vc] ∧ OwnE 3 encFv H' e ([⟨r, c, w⟩, ⟨r, c, m⟩]) ∧ Fam H' u Su (imgs (⟨r, c, l⟩ : FdL) (4 * i + k)) ∧ Own eI H' h (hL (⟨r, c, l⟩ : FdL) i) ∧ Cel H' q [(.int .i64 ((imK (imB (⟨r, c, l⟩ : FdL) i) k).r)), (.int .i64 ((imK (imB (⟨r, c, l⟩ : FdL) i) k).c)), x] ∧ Own eI H' x ((imK (imB (⟨r, c, l⟩ : FdL) i) k).l) ∧ Nws H Su ∧ Apt p1 Su ∧ Apt e Su ∧ Apt Su h ∧ Apt Su q ∧ Nw H x ∧ Apart p1 x ∧ Apart e x ∧ Apt Su x ∧ Apart h x ∧ Apart q x ∧ Le H H',
      ⟨_, 0, rfl, by omega, u, _, g, g3L21, rfl, g11L21, g12L21, g13L21, (congrArg (Value.int .i64) (by first | omega | rfl | (simp; done))), op1, oe, (Fam.cast (by first | rfl | (simp; done)) ou), oh, (Cel.cast (by show _ = [Value.int .i64 (imB (⟨r, c, l⟩ : FdL) i).r, .int .i64 (imB (⟨r, c, l⟩ : FdL) i).c, g]; rw [imB_r, imB_c]) oq), (Own.cast (hgi (by omega)) og), nu, ap1Xu, aeXu, auXh, auXq, ng, ap1Xg, aeXg, auXg, agXh.symm, agXq.symm, lE⟩, ?_⟩
    rintro n29 σ29 H29 ⟨k, rfl, hkN, u, Su, x, g3L29, g5L29, g11L29, g12L29, g13L29, g17L29, op1, oe, ou, oh, oq, ox, nu, ap1Xu, aeXu, auXh, auXq, nx, ap1Xx, aeXx, auXx, ahXx, aqXx, lE⟩
    have hvc := hvc0.le lE
    try simp only [g3L29, g5L29, g17L29]
    have hK : fieldN 1 (imK (imB (⟨r, c, l⟩ : FdL) i) k).r (imK (imB (⟨r, c, l⟩ : FdL) i) k).c (imK (imB (⟨r, c, l⟩ : FdL) i) k).l := imK_ok hB k
    have lK := fieldN_len hK
    have hiL2 := imgs_len (⟨r, c, l⟩ : FdL) (4 * i + k)
    refine ob_i (vInt_lss _ _ _) ?_
    refine cnd_d (fun hg30 => ?_) (fun hg30 => ?_)
    · skip
      have tk := hg30
      refine ob_i (oq.ldn rfl) ?_
      refine bSE_one (enc := encFv) (x := (⟨(imK (imB (⟨r, c, l⟩ : FdL) i) k).r, (imK (imB (⟨r, c, l⟩ : FdL) i) k).c, x⟩ : Fv)) rfl rfl (by omega) (by omega) rfl (fun u31 H32 ou31 nn33 le35 => ?_) rfl
      have ap1Xu31 : Apart p1 u31 := op1.apart nn33
      have aeXu31 : Apart e u31 := oe.apart nn33
      have auXu31 : Apt Su u31 := Apt.of_nw ou.known nn33
      have ahXu31 : Apart h u31 := oh.apart nn33
      have aqXu31 : Apart q u31 := oq.apart nn33
      have axXu31 : Apart x u31 := ox.apart nn33
      have nu31 : Nw H u31 := nn33.le lE
      replace op1 := op1.le le35
      replace oe := oe.le le35
      replace ou := ou.le le35
      replace oh := oh.le le35
      replace oq := oq.le le35
      replace ox := ox.le le35
      replace hvc := hvc.le le35
      replace lE := lE.trans le35
      refine Fam.push ou rfl (ou31.sl encFv_n) ox auXx.symm (by omega) (by first | omega | (simp; omega)) (fun u40 Su40 H36 ou40 off37 hb38 hx39 oxx => ?_)
      have ap1Xu40 : Apt p1 Su40 := Apt.push op1.known ap1Xu ap1Xx hb38
      have aeXu40 : Apt e Su40 := Apt.push oe.known aeXu aeXx hb38
      have ahXu40 : Apt h Su40 := Apt.push oh.known auXh.symm ahXx hb38
      have aqXu40 : Apt q Su40 := Apt.push oq.known auXq.symm aqXx hb38
      have au31Xu40 : Apt u31 Su40 := Apt.push ou31.known auXu31.symm axXu31.symm hb38
      have nu40 : Nws H Su40 := Nws.push lE nu nx hb38
      replace op1 := op1.offS off37 ap1Xu
      replace oe := oe.offS off37 aeXu
      replace oh := oh.offS off37 auXh.symm
      replace oq := oq.offS off37 auXq.symm
      replace ou31 := ou31.offS off37 auXu31.symm
      replace hvc := hvc0.le (off37.le lE nu)
      replace lE := off37.le lE nu
      replace ox := oxx.ro
      refine ob_i (oq.ldn rfl) ?_
      refine C.impl_Field_right ox.sl (by first | omega | assumption) (fun  u43 H41 ou43 nn44  le42 => ?_)
      have ap1Xu43 : Apart p1 u43 := op1.apart nn44
      have aeXu43 : Apart e u43 := oe.apart nn44
      have ahXu43 : Apart h u43 := oh.apart nn44
      have aqXu43 : Apart q u43 := oq.apart nn44
      have axXu43 : Apart x u43 := ox.apart nn44
      have au31Xu43 : Apart u31 u43 := ou31.apart nn44
      have au40Xu43 : Apt Su40 u43 := Apt.of_nw ou40.known nn44
      have nu43 : Nw H u43 := nn44.le lE
      replace op1 := op1.le le42
      replace oe := oe.le le42
      replace oh := oh.le le42
      replace oq := oq.le le42
      replace ox := ox.le le42
      replace ou31 := ou31.le le42
      replace ou40 := ou40.le le42
      replace hvc := hvc.le le42
      replace lE := lE.trans le42
      refine oq.stn (ws := [(.int .i64 (((imK (imB (⟨r, c, l⟩ : FdL) i) k).c))), (.int .i64 (((imK (imB (⟨r, c, l⟩ : FdL) i) k).r))), u43]) rfl rfl (oc1 rfl (oc1 rfl (oc1 ou43.one oc0))) (fun H45 oq off46 => ?_)
      replace op1 := op1.off off46 ap1Xq
      replace oe := oe.off off46 aeXq
      replace oh := oh.off off46 ahXq
      replace ox := ox.off off46 aqXx.symm
      replace ou31 := ou31.off off46 aqXu31.symm
      replace ou40 := ou40.off off46 aqXu40.symm
      replace ou43 := ou43.off off46 aqXu43.symm
      replace hvc := hvc0.le (off46.le lE nq)
      replace lE := off46.le lE nq
      replace oq : Cel H45 q [(.int .i64 (((imK (imB (⟨r, c, l⟩ : FdL) i) k).c))), (.int .i64 (((imK (imB (⟨r, c, l⟩ : FdL) i) k).r))), u43] := oq
      refine ob_i (vInt_add (by omega) (by omega)) ?_
      exact nxt (4 - (k + 1)) (by omega) ⟨k + 1, rfl, by omega, u40, _, u43, rfl, g5L29, g11L29, g12L29, g13L29, (congrArg (Value.int .i64) (by first | omega | rfl | (simp; done))), op1, oe, (Fam.cast (imgs_succ (⟨r, c, l⟩ : FdL) (by omega)) ou40), oh, oq, ou43, nu40, ap1Xu40, aeXu40, ahXu40.symm, aqXu40.symm, nu43, ap1Xu43, aeXu43, au40Xu43, ahXu43, aqXu43, lE⟩
    · skip
      have tk := hg30
      obtain rfl : k = 4 := by omega
      exact hJ23 _ _ ⟨u, _, g3L29, g11L29, g12L29, g13L29, op1, oe, ou, oh, nu, ap1Xu, aeXu, auXh, lE⟩
  · skip
    have ti := hg22
    obtain rfl : i = 2 := by omega
    exact hJ10 _ _ ⟨u, _, g, h, g3L21, op1, ou, og, oh, nu, ap1Xu, ng, ap1Xg, auXg, nh, ap1Xh, auXh, agXh, lE⟩
end Go.Proofs.YthocjpfibegjcaaGreatDoor
