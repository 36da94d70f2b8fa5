/- Parts of fields: the program's, and the reference's front. -/
import Derived.Test.YtejbicikffhggaaUW
import Derived.Test.YtejbicikffhggaaPI
import Derived.Test.YtejbicikffhggaaPJ
namespace Go.Proofs.Ytejbicikffhggaa
open HL
set_option maxRecDepth 100000
theorem C.spec_PartsOf {vc : Value} {r c : Int} {l : List Int}  {H : Hp} {K : Value → Hp → Prop} (hvc0 : Sl eI H vc l) (k1 : l.length ≤ 9223372036854775807)
    (hk : ∀ u1 Su1 u2 H', Fam H' u1 Su1 (selL (fieldN 1 r c l) (prtL r c l (stsL c l l.length))) → Own eI H' u2 (selL (fieldN 1 r c l) (plcL r c l (stsL c l l.length))) → Nws H Su1 → Nw H u2 → Apt Su1 u2 → Le H H' → K (.tuple #[u1, u2, (.bool (decide (fieldN 1 r c l)))]) H') : HT prg I.spec_PartsOf [(.agg #[(.int .i64 (r)), (.int .i64 (c)), vc])].toArray H K := by
  have lE := Le.refl H
  have hvc := hvc0
  refine R.spec_PartsOf ?_
  unfold F.spec_PartsOf
  refine nw_i (fun p1 H2 op1 nn3 le4 => ?_)
  have np1 : Nw H p1 := nn3.le lE
  replace hvc := hvc.le le4
  replace lE := lE.trans le4
  replace op1 : Cel H2 p1 [(.int .i64 (r)), (.int .i64 (c)), vc] := op1
  refine C.spec_l04Plain op1 hvc (by first | omega | assumption) ?_
  refine ob_nd (fun hc5 => ?_) (fun hc5 => ?_)
  · skip
    have hf := hc5
    have l1 := fieldN_len hf
    have hs := hf.1
    have hl := hf.2.1
    have q1 := hs.1
    have q2 := hs.2
    have qm := sidesF_mul hs
    refine cnd_f1 ?_
    refine C.spec_l05Parts op1 hvc (by first | omega | assumption) (fun  u8 Su8 u9 H6 ou8 ou9 nn10 nn11 au8Xu9 le7 => ?_)
    have ap1Xu8 : Apt p1 Su8 := Apt.of_nws op1.known nn10
    have nu8 : Nws H Su8 := nn10.le lE
    have ap1Xu9 : Apart p1 u9 := op1.apart nn11
    have nu9 : Nw H u9 := nn11.le lE
    replace op1 := op1.le le7
    replace hvc := hvc.le le7
    replace lE := lE.trans le7
    refine ob_i (vExt_20 _ _) ?_
    refine ob_i (vExt_21 _ _) ?_
    skip
    have hok : fieldN 1 r c l := by assumption
    exact keq (K := K) (by rw [decide_eq_true (show (fieldN 1 r c l) from by exact hok)]) (hk  u8 _ u9 _ (Fam.cast (show prtL r c l (stsL c l l.length) = selL (fieldN 1 r c l) (prtL r c l (stsL c l l.length)) by exact (selL_t hok).symm) ou8) (Own.cast (show plcL r c l (stsL c l l.length) = selL (fieldN 1 r c l) (plcL r c l (stsL c l l.length)) by exact (selL_t hok).symm) ou9) nu8 nu9 au8Xu9 lE)
  · skip
    refine cnd_t1 ?_
    skip
    have hok : ¬ (fieldN 1 r c l) := by assumption
    exact keq (K := K) (by rw [decide_eq_false (show ¬ (fieldN 1 r c l) from by exact hok)]) (hk  (.slice none 0 0) _ (.slice none 0 0) _ (Fam.cast (show [] = selL (fieldN 1 r c l) (prtL r c l (stsL c l l.length)) by exact (selL_f hok).symm) (Fam.nil_of none)) (Own.cast (show [] = selL (fieldN 1 r c l) (plcL r c l (stsL c l l.length)) by exact (selL_f hok).symm) (Own.nil_of none)) (fun b hb => hb.elim) (fun b hb => by simp [bk] at hb) (fun b hb => hb.elim) lE)
theorem C.impl_bit {q : Bool}  {H : Hp} {K : Value → Hp → Prop}
    (hk : K (.int .i64 (if q = true then 1 else 0)) H) : HT prg I.impl_bit [(.bool (q))].toArray H K := by
  have lE := Le.refl H
  refine R.impl_bit ?_
  unfold F.impl_bit
  refine cnd_i (fun hg1 => ?_) (fun hg1 => ?_)
  · skip
    skip
    exact keq (K := K) (by rw [show ((if q = true then 1 else 0) : Int) = (1) from by rw [if_pos hg1]]) (hk )
  · skip
    skip
    exact keq (K := K) (by rw [show ((if q = true then 1 else 0) : Int) = (0) from by rw [if_neg (by rw [hg1]; simp)]]) (hk )
theorem C.impl_PartsOf_1 {pn pf pt nb : Value} {i k r c t : Int} {m : List Int}  {vc : Value} {H : Hp} {K : Value → Hp → Prop} (hpn0 : Cel H pn [nb]) (hpf0 : Cel H pf [(.int .i64 (r)), (.int .i64 (c)), vc]) (hpt0 : Cel H pt [(.int .i64 (t))]) (hnb0 : Sl eI H nb m) (hs : sidesF r c) (hl : (m.length : Int) = r * c) (i0 : 0 ≤ i) (i1 : i < r) (j0 : 0 ≤ k) (j1 : k < c) (t0 : 0 ≤ t) (t1 : t ≤ 1000)
    (hk : ∀ H', Le H H' → K (.int .i64 (if at_ 0 m (i * c + k) = t + 1 then 1 else 0)) H') : HT prg I.impl_PartsOf_1 [(.int .i64 (i)), (.int .i64 (k)), pn, pf, pt].toArray H K := by
  have lE := Le.refl H
  have hpn := hpn0
  have hpf := hpf0
  have hpt := hpt0
  have hnb := hnb0
  refine R.impl_PartsOf_1 ?_
  unfold F.impl_PartsOf_1
  have q1 := hs.1
  have q2 := hs.2
  have qm := sidesF_mul hs
  have x2 := ix_lt (a := i) (b := k) (r := r) (c := c) (by omega) (by omega) (by omega) (by omega)
  refine ob_i (hpn.ld0 rfl) ?_
  refine ob_i (hpf.fa 1) ?_
  refine ob_i (hpf.ld 1 rfl) ?_
  refine ob_i (vInt_mul (by omega) (by omega)) ?_
  refine ob_i (vInt_add (by omega) (by omega)) ?_
  refine ob_i (hnb.ix (by omega) (by omega)) ?_
  refine ob_i (hnb.ld 0 (by omega) (by omega)) ?_
  refine ob_i (hpt.ld0 rfl) ?_
  refine ob_i (vInt_add (by omega) (by omega)) ?_
  refine ob_i (vInt_eql _ _ _) ?_
  refine C.impl_bit  ?_
  refine ⟨Le.refl _, ?_⟩
  skip
  exact keq (K := K) (by rw [show ((if (decide ((at_ 0 (m) ((i * c) + k)) = (t + 1))) = true then 1 else 0) : Int) = (if at_ 0 m (i * c + k) = t + 1 then 1 else 0) from by simp only [decide_eq_true_eq]]) (hk   _    lE)
set_option maxHeartbeats 2000000 in
theorem C.impl_PartsOf {vc : Value} {r c : Int} {l : List Int}  {H : Hp} {K : Value → Hp → Prop} (hvc0 : Sl eI H vc l) (k1 : l.length ≤ 9223372036854775807)
    (hk : ∀ u1 Su1 u2 H', Fam H' u1 Su1 (selL (fieldN 1 r c l) (prtL r c l (stsL c l l.length))) → Own eI H' u2 (selL (fieldN 1 r c l) (plcL r c l (stsL c l l.length))) → Nws H Su1 → Nw H u2 → Apt Su1 u2 → Le H H' → K (.tuple #[u1, u2, (.bool (decide (fieldN 1 r c l)))]) H') : HT prg I.impl_PartsOf [(.agg #[(.int .i64 (r)), (.int .i64 (c)), vc])].toArray H K := by
  have lE := Le.refl H
  have hvc := hvc0
  refine R.impl_PartsOf ?_
  unfold F.impl_PartsOf
  refine nw_i (fun pf H1 opf nn2 le3 => ?_)
  have npf : Nw H pf := nn2.le lE
  replace hvc := hvc.le le3
  replace lE := lE.trans le3
  replace opf : Cel H1 pf [(.int .i64 (r)), (.int .i64 (c)), vc] := opf
  refine ob_i (opf.ldn rfl) ?_
  refine C.impl_isPlain hvc (by first | omega | assumption) (fun   H4    le5 => ?_)
  replace opf := opf.le le5
  replace hvc := hvc.le le5
  replace lE := lE.trans le5
  refine ob_nd (fun hc6 => ?_) (fun hc6 => ?_)
  · skip
    have hf := hc6
    have l1 := fieldN_len hf
    have hs := hf.1
    have hl := hf.2.1
    have q1 := hs.1
    have q2 := hs.2
    have qm := sidesF_mul hs
    refine cnd_f1 ?_
    refine ob_i (opf.ldn rfl) ?_
    refine ob_i (opf.ldn rfl) ?_
    refine R.impl_Field_clustersX ?_
    unfold F.impl_Field_clustersX
    refine nw_i (fun p2 H7 op2 nn8 le9 => ?_)
    have apfXp2 : Apart pf p2 := opf.apart nn8
    have np2 : Nw H p2 := nn8.le lE
    replace opf := opf.le le9
    replace hvc := hvc.le le9
    replace lE := lE.trans le9
    replace op2 : Cel H7 p2 [(.int .i64 (r)), (.int .i64 (c)), vc] := op2
    refine ob_i (op2.fa 2) ?_
    refine ob_i (op2.ld 2 rfl) ?_
    refine ob_i (hvc.len) ?_
    refine Own.mk_ (z := (0 : Int)) (by omega) (by omega) (by omega) (by omega) (fun ou H10 oou nn11 le12 => ?_)
    have apfXou : Apart pf ou := opf.apart nn11
    have ap2Xou : Apart p2 ou := op2.apart nn11
    have nou : Nw H ou := nn11.le lE
    replace opf := opf.le le12
    replace op2 := op2.le le12
    replace hvc := hvc.le le12
    replace lE := lE.trans le12
    refine nw_i (fun po H13 opo nn14 le15 => ?_)
    have apfXpo : Apart pf po := opf.apart nn14
    have ap2Xpo : Apart p2 po := op2.apart nn14
    have aouXpo : Apart ou po := oou.apart nn14
    have npo : Nw H po := nn14.le lE
    replace opf := opf.le le15
    replace op2 := op2.le le15
    replace oou := oou.le le15
    replace hvc := hvc.le le15
    replace lE := lE.trans le15
    replace opo : Cel H13 po [(.slice none 0 0)] := opo
    refine opo.st0 (by simp) oou.one oou.cells (fun H16 opo off17 => ?_)
    replace opf := opf.off off17 apfXpo
    replace op2 := op2.off off17 ap2Xpo
    replace oou := oou.off off17 aouXpo
    replace hvc := hvc0.le (off17.le lE npo)
    replace lE := off17.le lE npo
    replace opo : Cel H16 po [ou] := opo
    refine nw_i (fun pc H18 opc nn19 le20 => ?_)
    have apfXpc : Apart pf pc := opf.apart nn19
    have ap2Xpc : Apart p2 pc := op2.apart nn19
    have aouXpc : Apart ou pc := oou.apart nn19
    have apoXpc : Apart po pc := opo.apart nn19
    have npc : Nw H pc := nn19.le lE
    replace opf := opf.le le20
    replace op2 := op2.le le20
    replace oou := oou.le le20
    replace opo := opo.le le20
    replace hvc := hvc.le le20
    replace lE := lE.trans le20
    replace opc : Cel H18 pc [(.int .i64 (0))] := opc
    refine opc.st0 (by simp) rfl rfl (fun H21 opc off22 => ?_)
    replace opf := opf.off off22 apfXpc
    replace op2 := op2.off off22 ap2Xpc
    replace oou := oou.off off22 aouXpc
    replace opo := opo.off off22 apoXpc
    replace hvc := hvc0.le (off22.le lE npc)
    replace lE := off22.le lE npc
    replace opc : Cel H21 pc [(.int .i64 (0))] := opc
    refine jn_i (fun σ' H' => σ' 6 = po ∧ σ' 7 = pc ∧ Cel H' pf [(.int .i64 (r)), (.int .i64 (c)), vc] ∧ Cel H' p2 [(.int .i64 (r)), (.int .i64 (c)), vc] ∧ Own eI H' ou (ouL c l (stsL c l l.length) []) ∧ Cel H' po [ou] ∧ Cel H' pc [(.int .i64 (((stsL c l l.length).length : Int)))] ∧ Le H H') (fun σ23 H23 hP => ?_) (fun J23 hJ23 => ?_)
    · skip
      obtain ⟨g6L23, g7L23, opf, op2, oou, opo, opc, lE⟩ := hP
      have hvc := hvc0.le lE
      try simp only [g6L23, g7L23]
      refine ob_i (opo.ld0 rfl) ?_
      refine ob_i (opc.ld0 rfl) ?_
      refine ob_i (vExt_20 _ _) ?_
      refine ob_i (vExt_21 _ _) ?_
      refine nw_i (fun pn H24 opn nn25 le26 => ?_)
      have apfXpn : Apart pf pn := opf.apart nn25
      have ap2Xpn : Apart p2 pn := op2.apart nn25
      have aouXpn : Apart ou pn := oou.apart nn25
      have apoXpn : Apart po pn := opo.apart nn25
      have apcXpn : Apart pc pn := opc.apart nn25
      have npn : Nw H pn := nn25.le lE
      replace opf := opf.le le26
      replace op2 := op2.le le26
      replace oou := oou.le le26
      replace opo := opo.le le26
      replace opc := opc.le le26
      replace hvc := hvc.le le26
      replace lE := lE.trans le26
      replace opn : Cel H24 pn [(.slice none 0 0)] := opn
      refine opn.st0 (by simp) oou.one oou.cells (fun H27 opn off28 => ?_)
      replace opf := opf.off off28 apfXpn
      replace op2 := op2.off off28 ap2Xpn
      replace oou := oou.off off28 aouXpn
      replace opo := opo.off off28 apoXpn
      replace opc := opc.off off28 apcXpn
      replace hvc := hvc0.le (off28.le lE npn)
      replace lE := off28.le lE npn
      replace opn : Cel H27 pn [ou] := opn
      refine bSE_fam (fun ps Sps H29 ops nn30 le32 => ?_)
      have apfXps : Apt pf Sps := Apt.of_nws opf.known nn30
      have ap2Xps : Apt p2 Sps := Apt.of_nws op2.known nn30
      have aouXps : Apt ou Sps := Apt.of_nws oou.known nn30
      have apoXps : Apt po Sps := Apt.of_nws opo.known nn30
      have apcXps : Apt pc Sps := Apt.of_nws opc.known nn30
      have apnXps : Apt pn Sps := Apt.of_nws opn.known nn30
      have nps : Nws H Sps := nn30.le lE
      replace opf := opf.le le32
      replace op2 := op2.le le32
      replace oou := oou.le le32
      replace opo := opo.le le32
      replace opc := opc.le le32
      replace opn := opn.le le32
      replace hvc := hvc.le le32
      replace lE := lE.trans le32
      refine bS_nil (enc := eI) (fun pl H33 opl nn34 kk35 le36 => ?_)
      have apfXpl : Apart pf pl := opf.apart nn34
      have ap2Xpl : Apart p2 pl := op2.apart nn34
      have aouXpl : Apart ou pl := oou.apart nn34
      have apoXpl : Apart po pl := opo.apart nn34
      have apcXpl : Apart pc pl := opc.apart nn34
      have apnXpl : Apart pn pl := opn.apart nn34
      have apsXpl : Apt Sps pl := Apt.of_nw ops.known nn34
      have npl : Nw H pl := nn34.le lE
      replace opf := opf.le le36
      replace op2 := op2.le le36
      replace oou := oou.le le36
      replace opo := opo.le le36
      replace opc := opc.le le36
      replace opn := opn.le le36
      replace ops := ops.le le36
      replace hvc := hvc.le le36
      replace lE := lE.trans le36
      refine jn_i (fun σ' H' => ∃ ps, ∃ Sps, ∃ pl, σ' 7 = ps ∧ σ' 8 = pl ∧ Cel H' pf [(.int .i64 (r)), (.int .i64 (c)), vc] ∧ Cel H' p2 [(.int .i64 (r)), (.int .i64 (c)), vc] ∧ Own eI H' ou (ouL c l (stsL c l l.length) []) ∧ Cel H' po [ou] ∧ Cel H' pc [(.int .i64 (((stsL c l l.length).length : Int)))] ∧ Cel H' pn [ou] ∧ Fam H' ps Sps (prtL r c l (stsL c l l.length)) ∧ Own eI H' pl (plcL r c l (stsL c l l.length)) ∧ Nws H Sps ∧ Apt pf Sps ∧ Apt p2 Sps ∧ Apt ou Sps ∧ Apt po Sps ∧ Apt pc Sps ∧ Apt pn Sps ∧ Nw H pl ∧ Apart pf pl ∧ Apart p2 pl ∧ Apart ou pl ∧ Apart po pl ∧ Apart pc pl ∧ Apart pn pl ∧ Apt Sps pl ∧ Le H H') (fun σ37 H37 hP => ?_) (fun J37 hJ37 => ?_)
      · skip
        obtain ⟨ps, Sps, pl, g7L37, g8L37, opf, op2, oou, opo, opc, opn, ops, opl, nps, apfXps, ap2Xps, aouXps, apoXps, apcXps, apnXps, npl, apfXpl, ap2Xpl, aouXpl, apoXpl, apcXpl, apnXpl, apsXpl, lE⟩ := hP
        have hvc := hvc0.le lE
        try simp only [g7L37, g8L37]
        skip
        have hok : fieldN 1 r c l := by assumption
        exact keq (K := K) (by rw [decide_eq_true (show (fieldN 1 r c l) from by exact hok)]) (hk  ps _ pl _ (Fam.cast (show prtL r c l (stsL c l l.length) = selL (fieldN 1 r c l) (prtL r c l (stsL c l l.length)) by exact (selL_t hok).symm) ops) (Own.cast (show plcL r c l (stsL c l l.length) = selL (fieldN 1 r c l) (plcL r c l (stsL c l l.length)) by exact (selL_t hok).symm) opl) nps npl apsXpl lE)
      refine ⟨fun n' σ' H' => ∃ t : Nat, n' = (stsL c l l.length).length - t ∧ t ≤ (stsL c l l.length).length ∧ ∃ ps, ∃ Sps, ∃ pl, σ' 1 = pf ∧ σ' 5 = pn ∧ σ' 7 = ps ∧ σ' 8 = pl ∧ σ' 27 = (.int .i64 (((stsL c l l.length).length : Int))) ∧ σ' 28 = (.int .i64 ((t : Int))) ∧ Cel H' pf [(.int .i64 (r)), (.int .i64 (c)), vc] ∧ Cel H' p2 [(.int .i64 (r)), (.int .i64 (c)), vc] ∧ Own eI H' ou (ouL c l (stsL c l l.length) []) ∧ Cel H' po [ou] ∧ Cel H' pc [(.int .i64 (((stsL c l l.length).length : Int)))] ∧ Cel H' pn [ou] ∧ Fam H' ps Sps (prtL r c l ((stsL c l l.length).take t)) ∧ Own eI H' pl (plcL r c l ((stsL c l l.length).take t)) ∧ Nws H Sps ∧ Apt pf Sps ∧ Apt p2 Sps ∧ Apt ou Sps ∧ Apt po Sps ∧ Apt pc Sps ∧ Apt pn Sps ∧ Nw H pl ∧ Apart pf pl ∧ Apart p2 pl ∧ Apart ou pl ∧ Apart po pl ∧ Apart pc pl ∧ Apart pn pl ∧ Apt Sps pl ∧ Le H H',
        ⟨_, 0, rfl, by omega, ps, Sps, pl, rfl, rfl, rfl, rfl, rfl, (congrArg (Value.int .i64) (by first | omega | rfl | (simp; done))), opf, op2, oou, opo, opc, opn, (Fam.cast (by first | rfl | (simp; done)) ops), (Own.cast (by first | rfl | (simp; done)) opl), nps, apfXps, ap2Xps, aouXps, apoXps, apcXps, apnXps, npl, apfXpl, ap2Xpl, aouXpl, apoXpl, apcXpl, apnXpl, apsXpl, lE⟩, ?_⟩
      rintro n38 σ38 H38 ⟨t, rfl, htN, ps, Sps, pl, g1L38, g5L38, g7L38, g8L38, g27L38, g28L38, opf, op2, oou, opo, opc, opn, ops, opl, nps, apfXps, ap2Xps, aouXps, apoXps, apcXps, apnXps, npl, apfXpl, ap2Xpl, aouXpl, apoXpl, apcXpl, apnXpl, apsXpl, lE⟩
      have hvc := hvc0.le lE
      try simp only [g1L38, g5L38, g7L38, g8L38, g27L38, g28L38]
      have sl := stsL_len (c := c) (l := l) l.length
      have pl1 := prtL_len (r := r) (c := c) (l := l) (L := (stsL c l l.length).take t)
      have pl2 := plcL_len (r := r) (c := c) (l := l) (L := (stsL c l l.length).take t)
      have pl3 : ((stsL c l l.length).take t).length = t := by rw [List.length_take]; omega
      refine ob_i (vInt_lss _ _ _) ?_
      refine cnd_d (fun hg39 => ?_) (fun hg39 => ?_)
      · skip
        have tt := hg39
        refine nw_i (fun p40 H41 op40 nn42 le43 => ?_)
        have apfXp40 : Apart pf p40 := opf.apart nn42
        have ap2Xp40 : Apart p2 p40 := op2.apart nn42
        have aouXp40 : Apart ou p40 := oou.apart nn42
        have apoXp40 : Apart po p40 := opo.apart nn42
        have apcXp40 : Apart pc p40 := opc.apart nn42
        have apnXp40 : Apart pn p40 := opn.apart nn42
        have apsXp40 : Apt Sps p40 := Apt.of_nw ops.known nn42
        have aplXp40 : Apart pl p40 := opl.apart nn42
        have np40 : Nw H p40 := nn42.le lE
        replace opf := opf.le le43
        replace op2 := op2.le le43
        replace oou := oou.le le43
        replace opo := opo.le le43
        replace opc := opc.le le43
        replace opn := opn.le le43
        replace ops := ops.le le43
        replace opl := opl.le le43
        replace hvc := hvc.le le43
        replace lE := lE.trans le43
        replace op40 : Cel H41 p40 [(.int .i64 (0))] := op40
        refine op40.st0 (by simp) rfl rfl (fun H44 op40 off45 => ?_)
        replace opf := opf.off off45 apfXp40
        replace op2 := op2.off off45 ap2Xp40
        replace oou := oou.off off45 aouXp40
        replace opo := opo.off off45 apoXp40
        replace opc := opc.off off45 apcXp40
        replace opn := opn.off off45 apnXp40
        replace ops := ops.off off45 apsXp40
        replace opl := opl.off off45 aplXp40
        replace hvc := hvc0.le (off45.le lE np40)
        replace lE := off45.le lE np40
        replace op40 : Cel H44 p40 [(.int .i64 ((t : Int)))] := op40
        refine ob_i (opf.fa 0) ?_
        refine ob_i (opf.ld 0 rfl) ?_
        refine ob_i (opf.fa 1) ?_
        refine ob_i (opf.ld 1 rfl) ?_
        refine C.impl_madeField (g := (fun x y => if at_ 0 (ouL c l (stsL c l l.length) []) (x * c + y) = (t : Int) + 1 then 1 else 0)) (by omega) (by omega) (by omega) (by omega) (fun H49c i49 k49 Z leZ hi49 hk49 hZ => ?_) (fun al H46 oal nn47 le48 => ?_)
        · refine ⟨by kernel_rfl, ?_⟩
          replace opf := opf.le leZ
          replace op2 := op2.le leZ
          replace oou := oou.le leZ
          replace opo := opo.le leZ
          replace opc := opc.le leZ
          replace opn := opn.le leZ
          replace ops := ops.le leZ
          replace opl := opl.le leZ
          replace op40 := op40.le leZ
          replace hvc := hvc.le leZ
          replace lE := lE.trans leZ
          have lZ := Le.refl H49c
          refine C.impl_PartsOf_1 opn opf op40 oou.sl (by exact hs) (by rw [ouL_len]; exact hl) (by first | omega | assumption) (by first | omega | assumption) (by first | omega | assumption) (by first | omega | assumption) (by first | omega | assumption) (by first | omega | assumption) (fun   H50    le51 => ?_)
          replace opf := opf.le le51
          replace op2 := op2.le le51
          replace oou := oou.le le51
          replace opo := opo.le le51
          replace opc := opc.le le51
          replace opn := opn.le le51
          replace ops := ops.le le51
          replace opl := opl.le le51
          replace op40 := op40.le le51
          replace hvc := hvc.le le51
          replace lE := lE.trans le51
          replace lZ := lZ.trans le51
          exact keq (K := Z) (by rw [show ((if at_ 0 (ouL c l (stsL c l l.length) []) ((i49 : Int) * c + (k49 : Int)) = (t : Int) + 1 then 1 else 0) : Int) = ((fun x y => if at_ 0 (ouL c l (stsL c l l.length) []) (x * c + y) = (t : Int) + 1 then 1 else 0)) (i49 : Int) (k49 : Int) from rfl]) (hZ _ lZ)
        have apfXal : Apart pf al := opf.apart nn47
        have ap2Xal : Apart p2 al := op2.apart nn47
        have aouXal : Apart ou al := oou.apart nn47
        have apoXal : Apart po al := opo.apart nn47
        have apcXal : Apart pc al := opc.apart nn47
        have apnXal : Apart pn al := opn.apart nn47
        have apsXal : Apt Sps al := Apt.of_nw ops.known nn47
        have aplXal : Apart pl al := opl.apart nn47
        have ap40Xal : Apart p40 al := op40.apart nn47
        have nal : Nw H al := nn47.le lE
        replace opf := opf.le le48
        replace op2 := op2.le le48
        replace oou := oou.le le48
        replace opo := opo.le le48
        replace opc := opc.le le48
        replace opn := opn.le le48
        replace ops := ops.le le48
        replace opl := opl.le le48
        replace op40 := op40.le le48
        replace hvc := hvc.le le48
        replace lE := lE.trans le48
        replace oal := oal.cast (prt_num hs hl (by omega))
        refine nw_i (fun p52 H53 op52 nn54 le55 => ?_)
        have apfXp52 : Apart pf p52 := opf.apart nn54
        have ap2Xp52 : Apart p2 p52 := op2.apart nn54
        have aouXp52 : Apart ou p52 := oou.apart nn54
        have apoXp52 : Apart po p52 := opo.apart nn54
        have apcXp52 : Apart pc p52 := opc.apart nn54
        have apnXp52 : Apart pn p52 := opn.apart nn54
        have apsXp52 : Apt Sps p52 := Apt.of_nw ops.known nn54
        have aplXp52 : Apart pl p52 := opl.apart nn54
        have ap40Xp52 : Apart p40 p52 := op40.apart nn54
        have aalXp52 : Apart al p52 := oal.apart nn54
        have np52 : Nw H p52 := nn54.le lE
        replace opf := opf.le le55
        replace op2 := op2.le le55
        replace oou := oou.le le55
        replace opo := opo.le le55
        replace opc := opc.le le55
        replace opn := opn.le le55
        replace ops := ops.le le55
        replace opl := opl.le le55
        replace op40 := op40.le le55
        replace oal := oal.le le55
        replace hvc := hvc.le le55
        replace lE := lE.trans le55
        replace op52 : Cel H53 p52 [(.int .i64 (0)), (.int .i64 (0)), (.slice none 0 0)] := op52
        refine op52.stn (ws := [(.int .i64 (r)), (.int .i64 (c)), al]) rfl rfl (oc1 rfl (oc1 rfl (oc1 oal.one oc0))) (fun H56 op52 off57 => ?_)
        replace opf := opf.off off57 apfXp52
        replace op2 := op2.off off57 ap2Xp52
        replace oou := oou.off off57 aouXp52
        replace opo := opo.off off57 apoXp52
        replace opc := opc.off off57 apcXp52
        replace opn := opn.off off57 apnXp52
        replace ops := ops.off off57 apsXp52
        replace opl := opl.off off57 aplXp52
        replace op40 := op40.off off57 ap40Xp52
        replace oal := oal.off off57 aalXp52
        replace hvc := hvc0.le (off57.le lE np52)
        replace lE := off57.le lE np52
        replace op52 : Cel H56 p52 [(.int .i64 (r)), (.int .i64 (c)), al] := op52
        refine ob_i (op52.ldn rfl) ?_
        have hpos : ¬ (trm r c (aloL c l (at_ 0 (stsL c l l.length) (t : Int)))).2.1 < 0 := by have := alo_pos hs hl (stsL_on (at_mem 0 (stsL c l l.length) (i := (t : Int)) (by omega) (by omega))).1; omega
        refine C.impl_Field_trimmed oal.sl (by first | omega | assumption) (by rw [aloL_len]; exact hl) (fun hc58  H59    le60 => ?_) (fun hc61 u64 H62 ou64 nn65  le63 => ?_)
        · skip
          exact absurd hc58 hpos
        · skip
          have apfXu64 : Apart pf u64 := opf.apart nn65
          have ap2Xu64 : Apart p2 u64 := op2.apart nn65
          have aouXu64 : Apart ou u64 := oou.apart nn65
          have apoXu64 : Apart po u64 := opo.apart nn65
          have apcXu64 : Apart pc u64 := opc.apart nn65
          have apnXu64 : Apart pn u64 := opn.apart nn65
          have apsXu64 : Apt Sps u64 := Apt.of_nw ops.known nn65
          have aplXu64 : Apart pl u64 := opl.apart nn65
          have ap40Xu64 : Apart p40 u64 := op40.apart nn65
          have aalXu64 : Apart al u64 := oal.apart nn65
          have ap52Xu64 : Apart p52 u64 := op52.apart nn65
          have nu64 : Nw H u64 := nn65.le lE
          replace opf := opf.le le63
          replace op2 := op2.le le63
          replace oou := oou.le le63
          replace opo := opo.le le63
          replace opc := opc.le le63
          replace opn := opn.le le63
          replace ops := ops.le le63
          replace opl := opl.le le63
          replace op40 := op40.le le63
          replace oal := oal.le le63
          replace op52 := op52.le le63
          replace hvc := hvc.le le63
          replace lE := lE.trans le63
          refine ob_i (vExt_40 _ _ _ _) ?_
          refine ob_i (vExt_41 _ _ _ _) ?_
          refine ob_i (vExt_42 _ _ _ _) ?_
          refine ob_i (vExt_43 _ _ _ _) ?_
          refine nw_i (fun p66 H67 op66 nn68 le69 => ?_)
          have apfXp66 : Apart pf p66 := opf.apart nn68
          have ap2Xp66 : Apart p2 p66 := op2.apart nn68
          have aouXp66 : Apart ou p66 := oou.apart nn68
          have apoXp66 : Apart po p66 := opo.apart nn68
          have apcXp66 : Apart pc p66 := opc.apart nn68
          have apnXp66 : Apart pn p66 := opn.apart nn68
          have apsXp66 : Apt Sps p66 := Apt.of_nw ops.known nn68
          have aplXp66 : Apart pl p66 := opl.apart nn68
          have ap40Xp66 : Apart p40 p66 := op40.apart nn68
          have aalXp66 : Apart al p66 := oal.apart nn68
          have ap52Xp66 : Apart p52 p66 := op52.apart nn68
          have au64Xp66 : Apart u64 p66 := ou64.apart nn68
          have np66 : Nw H p66 := nn68.le lE
          replace opf := opf.le le69
          replace op2 := op2.le le69
          replace oou := oou.le le69
          replace opo := opo.le le69
          replace opc := opc.le le69
          replace opn := opn.le le69
          replace ops := ops.le le69
          replace opl := opl.le le69
          replace op40 := op40.le le69
          replace oal := oal.le le69
          replace op52 := op52.le le69
          replace ou64 := ou64.le le69
          replace hvc := hvc.le le69
          replace lE := lE.trans le69
          replace op66 : Cel H67 p66 [(.int .i64 (0)), (.int .i64 (0)), (.slice none 0 0)] := op66
          refine op66.stn (ws := [(.int .i64 (trR r c (aloL c l (at_ 0 (stsL c l l.length) (t : Int))))), (.int .i64 (trC r c (aloL c l (at_ 0 (stsL c l l.length) (t : Int))))), u64]) rfl rfl (oc1 rfl (oc1 rfl (oc1 ou64.one oc0))) (fun H70 op66 off71 => ?_)
          replace opf := opf.off off71 apfXp66
          replace op2 := op2.off off71 ap2Xp66
          replace oou := oou.off off71 aouXp66
          replace opo := opo.off off71 apoXp66
          replace opc := opc.off off71 apcXp66
          replace opn := opn.off off71 apnXp66
          replace ops := ops.off off71 apsXp66
          replace opl := opl.off off71 aplXp66
          replace op40 := op40.off off71 ap40Xp66
          replace oal := oal.off off71 aalXp66
          replace op52 := op52.off off71 ap52Xp66
          replace ou64 := ou64.off off71 au64Xp66
          replace hvc := hvc0.le (off71.le lE np66)
          replace lE := off71.le lE np66
          replace op66 : Cel H70 p66 [(.int .i64 (trR r c (aloL c l (at_ 0 (stsL c l l.length) (t : Int))))), (.int .i64 (trC r c (aloL c l (at_ 0 (stsL c l l.length) (t : Int))))), u64] := op66
          refine ob_i (op66.ldn rfl) ?_
          refine bSE_one (enc := encFv) (x := (⟨trR r c (aloL c l (at_ 0 (stsL c l l.length) (t : Int))), trC r c (aloL c l (at_ 0 (stsL c l l.length) (t : Int))), u64⟩ : Fv)) rfl rfl (by omega) (by omega) rfl (fun u72 H73 ou72 nn74 le76 => ?_) rfl
          have apfXu72 : Apart pf u72 := opf.apart nn74
          have ap2Xu72 : Apart p2 u72 := op2.apart nn74
          have aouXu72 : Apart ou u72 := oou.apart nn74
          have apoXu72 : Apart po u72 := opo.apart nn74
          have apcXu72 : Apart pc u72 := opc.apart nn74
          have apnXu72 : Apart pn u72 := opn.apart nn74
          have apsXu72 : Apt Sps u72 := Apt.of_nw ops.known nn74
          have aplXu72 : Apart pl u72 := opl.apart nn74
          have ap40Xu72 : Apart p40 u72 := op40.apart nn74
          have aalXu72 : Apart al u72 := oal.apart nn74
          have ap52Xu72 : Apart p52 u72 := op52.apart nn74
          have au64Xu72 : Apart u64 u72 := ou64.apart nn74
          have ap66Xu72 : Apart p66 u72 := op66.apart nn74
          have nu72 : Nw H u72 := nn74.le lE
          replace opf := opf.le le76
          replace op2 := op2.le le76
          replace oou := oou.le le76
          replace opo := opo.le le76
          replace opc := opc.le le76
          replace opn := opn.le le76
          replace ops := ops.le le76
          replace opl := opl.le le76
          replace op40 := op40.le le76
          replace oal := oal.le le76
          replace op52 := op52.le le76
          replace ou64 := ou64.le le76
          replace op66 := op66.le le76
          replace hvc := hvc.le le76
          replace lE := lE.trans le76
          refine Fam.push ops rfl (ou72.sl encFv_n) ou64 apsXu64.symm (by omega) (by first | omega | (simp; omega)) (fun u81 Su81 H77 ou81 off78 hb79 hx80 oxu64 => ?_)
          have apfXu81 : Apt pf Su81 := Apt.push opf.known apfXps apfXu64 hb79
          have ap2Xu81 : Apt p2 Su81 := Apt.push op2.known ap2Xps ap2Xu64 hb79
          have aouXu81 : Apt ou Su81 := Apt.push oou.known aouXps aouXu64 hb79
          have apoXu81 : Apt po Su81 := Apt.push opo.known apoXps apoXu64 hb79
          have apcXu81 : Apt pc Su81 := Apt.push opc.known apcXps apcXu64 hb79
          have apnXu81 : Apt pn Su81 := Apt.push opn.known apnXps apnXu64 hb79
          have aplXu81 : Apt pl Su81 := Apt.push opl.known apsXpl.symm aplXu64 hb79
          have ap40Xu81 : Apt p40 Su81 := Apt.push op40.known apsXp40.symm ap40Xu64 hb79
          have aalXu81 : Apt al Su81 := Apt.push oal.known apsXal.symm aalXu64 hb79
          have ap52Xu81 : Apt p52 Su81 := Apt.push op52.known apsXp52.symm ap52Xu64 hb79
          have ap66Xu81 : Apt p66 Su81 := Apt.push op66.known apsXp66.symm au64Xp66.symm hb79
          have au72Xu81 : Apt u72 Su81 := Apt.push ou72.known apsXu72.symm au64Xu72.symm hb79
          have nu81 : Nws H Su81 := Nws.push lE nps nu64 hb79
          replace opf := opf.offS off78 apfXps
          replace op2 := op2.offS off78 ap2Xps
          replace oou := oou.offS off78 aouXps
          replace opo := opo.offS off78 apoXps
          replace opc := opc.offS off78 apcXps
          replace opn := opn.offS off78 apnXps
          replace opl := opl.offS off78 apsXpl.symm
          replace op40 := op40.offS off78 apsXp40.symm
          replace oal := oal.offS off78 apsXal.symm
          replace op52 := op52.offS off78 apsXp52.symm
          replace op66 := op66.offS off78 apsXp66.symm
          replace ou72 := ou72.offS off78 apsXu72.symm
          replace hvc := hvc0.le (off78.le lE nps)
          replace lE := off78.le lE nps
          replace ou64 := oxu64.ro
          refine bS_i (enc := eI) (l := [(trm r c (aloL c l (at_ 0 (stsL c l l.length) (t : Int)))).1, (trm r c (aloL c l (at_ 0 (stsL c l l.length) (t : Int)))).2.2.1]) (by omega) rfl (by kernel_rfl) (fun u82 H83 ou82 nn84 le86 => ?_)
          have apfXu82 : Apart pf u82 := opf.apart nn84
          have ap2Xu82 : Apart p2 u82 := op2.apart nn84
          have aouXu82 : Apart ou u82 := oou.apart nn84
          have apoXu82 : Apart po u82 := opo.apart nn84
          have apcXu82 : Apart pc u82 := opc.apart nn84
          have apnXu82 : Apart pn u82 := opn.apart nn84
          have aplXu82 : Apart pl u82 := opl.apart nn84
          have ap40Xu82 : Apart p40 u82 := op40.apart nn84
          have aalXu82 : Apart al u82 := oal.apart nn84
          have ap52Xu82 : Apart p52 u82 := op52.apart nn84
          have au64Xu82 : Apart u64 u82 := ou64.apart nn84
          have ap66Xu82 : Apart p66 u82 := op66.apart nn84
          have au72Xu82 : Apart u72 u82 := ou72.apart nn84
          have au81Xu82 : Apt Su81 u82 := Apt.of_nw ou81.known nn84
          have nu82 : Nw H u82 := nn84.le lE
          replace opf := opf.le le86
          replace op2 := op2.le le86
          replace oou := oou.le le86
          replace opo := opo.le le86
          replace opc := opc.le le86
          replace opn := opn.le le86
          replace opl := opl.le le86
          replace op40 := op40.le le86
          replace oal := oal.le le86
          replace op52 := op52.le le86
          replace ou64 := ou64.le le86
          replace op66 := op66.le le86
          replace ou72 := ou72.le le86
          replace ou81 := ou81.le le86
          replace hvc := hvc.le le86
          replace lE := lE.trans le86
          refine apd_any opl ou82.sl (fun _ => rfl) (by omega) (by first | omega | (simp only [List.length_cons, List.length_nil, List.length_append, List.length_replicate, List.length_map, List.length_range]; omega)) (fun u90 H87 ou90 off88 hb89 => ?_)
          have apfXu90 : Apart pf u90 := Apart.ap2 opf.known apfXpl hb89
          have ap2Xu90 : Apart p2 u90 := Apart.ap2 op2.known ap2Xpl hb89
          have aouXu90 : Apart ou u90 := Apart.ap2 oou.known aouXpl hb89
          have apoXu90 : Apart po u90 := Apart.ap2 opo.known apoXpl hb89
          have apcXu90 : Apart pc u90 := Apart.ap2 opc.known apcXpl hb89
          have apnXu90 : Apart pn u90 := Apart.ap2 opn.known apnXpl hb89
          have ap40Xu90 : Apart p40 u90 := Apart.ap2 op40.known aplXp40.symm hb89
          have aalXu90 : Apart al u90 := Apart.ap2 oal.known aplXal.symm hb89
          have ap52Xu90 : Apart p52 u90 := Apart.ap2 op52.known aplXp52.symm hb89
          have au64Xu90 : Apart u64 u90 := Apart.ap2 ou64.known aplXu64.symm hb89
          have ap66Xu90 : Apart p66 u90 := Apart.ap2 op66.known aplXp66.symm hb89
          have au72Xu90 : Apart u72 u90 := Apart.ap2 ou72.known aplXu72.symm hb89
          have au81Xu90 : Apt Su81 u90 := Apt.ap2 ou81.known aplXu81.symm hb89
          have au82Xu90 : Apart u82 u90 := Apart.ap2 ou82.known aplXu82.symm hb89
          have nu90 : Nw H u90 := Nw.ap2 npl lE hb89
          replace opf := opf.off off88 apfXpl
          replace op2 := op2.off off88 ap2Xpl
          replace oou := oou.off off88 aouXpl
          replace opo := opo.off off88 apoXpl
          replace opc := opc.off off88 apcXpl
          replace opn := opn.off off88 apnXpl
          replace op40 := op40.off off88 aplXp40.symm
          replace oal := oal.off off88 aplXal.symm
          replace op52 := op52.off off88 aplXp52.symm
          replace ou64 := ou64.off off88 aplXu64.symm
          replace op66 := op66.off off88 aplXp66.symm
          replace ou72 := ou72.off off88 aplXu72.symm
          replace ou81 := ou81.off off88 aplXu81.symm
          replace ou82 := ou82.off off88 aplXu82.symm
          replace hvc := hvc0.le (off88.le lE npl)
          replace lE := off88.le lE npl
          refine ob_i (vInt_add (by omega) (by omega)) ?_
          exact nxt ((stsL c l l.length).length - (t + 1)) (by omega) ⟨t + 1, rfl, by omega, u81, Su81, u90, g1L38, g5L38, rfl, rfl, g27L38, (congrArg (Value.int .i64) (by first | omega | rfl | (simp; done))), opf, op2, oou, opo, opc, opn, (Fam.cast (by rw [take_at 0 (stsL c l l.length) (show t < (stsL c l l.length).length by omega)]; exact prtL_snoc _) ou81), (Own.cast (by rw [take_at 0 (stsL c l l.length) (show t < (stsL c l l.length).length by omega)]; exact plcL_snoc _) ou90), nu81, apfXu81, ap2Xu81, aouXu81, apoXu81, apcXu81, apnXu81, nu90, apfXu90, ap2Xu90, aouXu90, apoXu90, apcXu90, apnXu90, au81Xu90, lE⟩
      · skip
        have tt := hg39
        rw [List.take_of_length_le (by omega)] at ops opl
        exact hJ37 _ _ ⟨ps, Sps, pl, g7L38, g8L38, opf, op2, oou, opo, opc, opn, ops, opl, nps, apfXps, ap2Xps, aouXps, apoXps, apcXps, apnXps, npl, apfXpl, ap2Xpl, aouXpl, apoXpl, apcXpl, apnXpl, apsXpl, lE⟩
    refine ob_i (op2.fa 2) ?_
    refine ob_i (op2.ld 2 rfl) ?_
    refine ob_i (hvc.len) ?_
    refine ⟨fun n' σ' H' => ∃ i : Nat, n' = l.length - i ∧ i ≤ l.length ∧ σ' 1 = (.func (.func I.impl_Field_corners) #[(.agg #[(.int .i64 (r)), (.int .i64 (c)), vc])] #[]) ∧ σ' 2 = p2 ∧ σ' 6 = po ∧ σ' 7 = pc ∧ σ' 17 = vc ∧ σ' 18 = (.int .i64 (((l).length : Int))) ∧ σ' 19 = (.int .i64 ((i : Int))) ∧ Cel H' pf [(.int .i64 (r)), (.int .i64 (c)), vc] ∧ Cel H' p2 [(.int .i64 (r)), (.int .i64 (c)), vc] ∧ Own eI H' ou (ouL c l (stsL c l i) []) ∧ Cel H' po [ou] ∧ Cel H' pc [(.int .i64 (((stsL c l i).length : Int)))] ∧ Le H H',
      ⟨_, 0, rfl, by omega, rfl, rfl, rfl, rfl, rfl, rfl, (congrArg (Value.int .i64) (by first | omega | rfl | (simp; done))), opf, op2, (Own.cast (by rw [ouL_zero]; simp) oou), opo, (Cel.cast (by first | rfl | (simp [stsL]; done)) opc), lE⟩, ?_⟩
    rintro n91 σ91 H91 ⟨i, rfl, hiN, g1L91, g2L91, g6L91, g7L91, g17L91, g18L91, g19L91, opf, op2, oou, opo, opc, lE⟩
    have hvc := hvc0.le lE
    try simp only [g1L91, g2L91, g6L91, g7L91, g17L91, g18L91, g19L91]
    have sl := stsL_len (c := c) (l := l) i
    have oL := ouL_len (c := c) (l := l) (L := (stsL c l i)) (ls := [])
    refine ob_i (vInt_lss _ _ _) ?_
    refine cnd_d (fun hg92 => ?_) (fun hg92 => ?_)
    · skip
      have ti := hg92
      refine jn_i (fun σ' H' => σ' 1 = (.func (.func I.impl_Field_corners) #[(.agg #[(.int .i64 (r)), (.int .i64 (c)), vc])] #[]) ∧ σ' 2 = p2 ∧ σ' 6 = po ∧ σ' 7 = pc ∧ σ' 17 = vc ∧ σ' 18 = (.int .i64 (((l).length : Int))) ∧ σ' 19 = (.int .i64 ((i : Int))) ∧ Cel H' pf [(.int .i64 (r)), (.int .i64 (c)), vc] ∧ Cel H' p2 [(.int .i64 (r)), (.int .i64 (c)), vc] ∧ Own eI H' ou (ouL c l (stsL c l (i + 1)) []) ∧ Cel H' po [ou] ∧ Cel H' pc [(.int .i64 (((stsL c l (i + 1)).length : Int)))] ∧ Le H H') (fun σ93 H93 hP => ?_) (fun J93 hJ93 => ?_)
      · skip
        obtain ⟨g1L93, g2L93, g6L93, g7L93, g17L93, g18L93, g19L93, opf, op2, oou, opo, opc, lE⟩ := hP
        have hvc := hvc0.le lE
        try simp only [g19L93]
        refine ob_i (vInt_add (by omega) (by omega)) ?_
        exact nxt (l.length - (i + 1)) (by omega) ⟨i + 1, rfl, by omega, g1L93, g2L93, g6L93, g7L93, g17L93, g18L93, (congrArg (Value.int .i64) (by first | omega | rfl | (simp; done))), opf, op2, oou, opo, opc, lE⟩
      refine ob_i (hvc.ix (by omega) (by omega)) ?_
      refine ob_i (hvc.ld 0 (by omega) (by omega)) ?_
      refine ob_i (vInt_neq _ _ _) ?_
      by_cases hc94 : (at_ 0 (l) ((i : Int))) ≠ 1
      · skip
        refine gop_e (decide_eq_true hc94) ?_
        refine gop_st ?_
        refine gop_e (decide_eq_true hc94) ?_
        refine gop_st ?_
        refine gop_e (decide_eq_true hc94) ?_
        refine gop_st ?_
        refine gop_e (decide_eq_true hc94) ?_
        refine gop_st ?_
        refine gop_e (decide_eq_true hc94) ?_
        refine gop_st ?_
        refine ob_i (vPick_et (decide_eq_true hc94) _ _) ?_
        refine cnd_t1 ?_
        have hno : stsL c l (i + 1) = (stsL c l i) := stsL_f (fun g => hc94 g.1.2)
        exact hJ93 _ _ ⟨g1L91, g2L91, g6L91, g7L91, g17L91, g18L91, g19L91, opf, op2, (Own.cast (by rw [hno]) oou), opo, (Cel.cast (by rw [hno]) opc), lE⟩
      · skip
        refine gop_e (decide_eq_false hc94) ?_
        refine gop_rf ?_
        refine ob_i (opo.ld0 rfl) ?_
        refine gop_e (decide_eq_false hc94) ?_
        refine gop_rf ?_
        refine gop_e (decide_eq_false hc94) ?_
        refine gop_rf ?_
        refine ob_i (oou.sl.ix (by omega) (by omega)) ?_
        refine gop_e (decide_eq_false hc94) ?_
        refine gop_rf ?_
        refine ob_i (oou.sl.ld 0 (by omega) (by omega)) ?_
        refine gop_e (decide_eq_false hc94) ?_
        refine gop_rf ?_
        refine ob_i (vInt_neq _ _ _) ?_
        refine ob_i (vPick_ef (decide_eq_false hc94) _ _) ?_
        refine cnd_d (fun hg95 => ?_) (fun hg95 => ?_)
        · skip
          have hno : stsL c l (i + 1) = (stsL c l i) := stsL_f (fun g => (ouL_t (by omega) hg95).elim (fun ⟨s, h1, h2⟩ => g.2 s h1 h2) (fun h1 => by simp at h1))
          exact hJ93 _ _ ⟨g1L91, g2L91, g6L91, g7L91, g17L91, g18L91, g19L91, opf, op2, (Own.cast (by rw [hno]) oou), opo, (Cel.cast (by rw [hno]) opc), lE⟩
        · skip
          refine ob_i (opc.ld0 rfl) ?_
          refine ob_i (vInt_add (by omega) (by omega)) ?_
          refine opc.st0 (by simp) rfl rfl (fun H96 opc off97 => ?_)
          replace opf := opf.off off97 apfXpc
          replace op2 := op2.off off97 ap2Xpc
          replace oou := oou.off off97 aouXpc
          replace opo := opo.off off97 apoXpc
          replace hvc := hvc0.le (off97.le lE npc)
          replace lE := off97.le lE npc
          replace opc : Cel H96 pc [(.int .i64 ((((stsL c l i).length : Int)) + 1))] := opc
          refine ob_i (opo.ld0 rfl) ?_
          refine ob_i (opc.ld0 rfl) ?_
          refine ob_i (oou.sl.ix (by omega) (by omega)) ?_
          refine oou.st (x := (((stsL c l i).length : Int)) + 1) (by omega) (by omega) rfl rfl (fun H98 oou off99 => ?_)
          replace opf := opf.off off99 apfXou
          replace op2 := op2.off off99 ap2Xou
          replace opo := opo.off off99 aouXpo.symm
          replace opc := opc.off off99 aouXpc.symm
          replace hvc := hvc0.le (off99.le lE nou)
          replace lE := off99.le lE nou
          refine bS_i (enc := eI) (l := [(i : Int)]) (by omega) rfl (by kernel_rfl) (fun td0 H100 otd0 nn101 le103 => ?_)
          have apfXtd0 : Apart pf td0 := opf.apart nn101
          have ap2Xtd0 : Apart p2 td0 := op2.apart nn101
          have aouXtd0 : Apart ou td0 := oou.apart nn101
          have apoXtd0 : Apart po td0 := opo.apart nn101
          have apcXtd0 : Apart pc td0 := opc.apart nn101
          have ntd0 : Nw H td0 := nn101.le lE
          replace opf := opf.le le103
          replace op2 := op2.le le103
          replace oou := oou.le le103
          replace opo := opo.le le103
          replace opc := opc.le le103
          replace hvc := hvc.le le103
          replace lE := lE.trans le103
          refine nw_i (fun ptd H104 optd nn105 le106 => ?_)
          have apfXptd : Apart pf ptd := opf.apart nn105
          have ap2Xptd : Apart p2 ptd := op2.apart nn105
          have aouXptd : Apart ou ptd := oou.apart nn105
          have apoXptd : Apart po ptd := opo.apart nn105
          have apcXptd : Apart pc ptd := opc.apart nn105
          have atd0Xptd : Apart td0 ptd := otd0.apart nn105
          have nptd : Nw H ptd := nn105.le lE
          replace opf := opf.le le106
          replace op2 := op2.le le106
          replace oou := oou.le le106
          replace opo := opo.le le106
          replace opc := opc.le le106
          replace otd0 := otd0.le le106
          replace hvc := hvc.le le106
          replace lE := lE.trans le106
          replace optd : Cel H104 ptd [(.slice none 0 0)] := optd
          refine optd.st0 (by simp) otd0.one otd0.cells (fun H107 optd off108 => ?_)
          replace opf := opf.off off108 apfXptd
          replace op2 := op2.off off108 ap2Xptd
          replace oou := oou.off off108 aouXptd
          replace opo := opo.off off108 apoXptd
          replace opc := opc.off off108 apcXptd
          replace otd0 := otd0.off off108 atd0Xptd
          replace hvc := hvc0.le (off108.le lE nptd)
          replace lE := off108.le lE nptd
          replace optd : Cel H107 ptd [td0] := optd
          have hon : onP l i := ⟨by omega, Decidable.not_not.mp hc94⟩
          have hnr : ∀ s ∈ (stsL c l i), ¬ Rch c l s i := (ouL_f (by omega) (Decidable.not_not.mp hg95)).1
          refine ⟨fun n' σ' H' => ∃ t : Nat, n' = l.length - t ∧ t ≤ l.length ∧ ∃ td, ∃ ls : List Int, ∃ tds : List Int, σ' 1 = (.func (.func I.impl_Field_corners) #[(.agg #[(.int .i64 (r)), (.int .i64 (c)), vc])] #[]) ∧ σ' 2 = p2 ∧ σ' 6 = po ∧ σ' 7 = pc ∧ σ' 10 = ptd ∧ σ' 17 = vc ∧ σ' 18 = (.int .i64 (((l).length : Int))) ∧ σ' 19 = (.int .i64 ((i : Int))) ∧ Cel H' pf [(.int .i64 (r)), (.int .i64 (c)), vc] ∧ Cel H' p2 [(.int .i64 (r)), (.int .i64 (c)), vc] ∧ Own eI H' ou (ouL c l (stsL c l i) ls) ∧ Cel H' po [ou] ∧ Cel H' pc [(.int .i64 ((((stsL c l i).length : Int)) + 1))] ∧ Cel H' ptd [td] ∧ Own eI H' td (tds) ∧ Nw H td ∧ Apart pf td ∧ Apart p2 td ∧ Apart ou td ∧ Apart po td ∧ Apart pc td ∧ Apart ptd td ∧ Le H H' ∧ stS c l i ls tds ∧ t + tds.length = ls.length,
            ⟨_, 0, rfl, by omega, td0, [(i : Int)], [(i : Int)], g1L91, g2L91, g6L91, g7L91, rfl, g17L91, g18L91, g19L91, opf, op2, (Own.cast (ouL_set hon.1 hnr) oou), opo, opc, optd, (Own.cast (by first | rfl | (simp; done)) otd0), ntd0, apfXtd0, ap2Xtd0, aouXtd0, apoXtd0, apcXtd0, atd0Xptd.symm, lE, (stS_start hon), rfl⟩, ?_⟩
          rintro n109 σ109 H109 ⟨t, rfl, htN, td, ls, tds, g1L109, g2L109, g6L109, g7L109, g10L109, g17L109, g18L109, g19L109, opf, op2, oou, opo, opc, optd, otd, ntd, apfXtd, ap2Xtd, aouXtd, apoXtd, apcXtd, aptdXtd, lE, hst, hct⟩
          have hvc := hvc0.le lE
          try simp only [g1L109, g2L109, g6L109, g7L109, g10L109]
          have sl2 := stS_len hst
          have oL2 := ouL_len (c := c) (l := l) (L := (stsL c l i)) (ls := ls)
          refine ob_i (optd.ld0 rfl) ?_
          refine ob_i (otd.len) ?_
          refine ob_i (vInt_gtr _ _ _) ?_
          refine cnd_d (fun hg110 => ?_) (fun hg110 => ?_)
          · skip
            have tt := hg110
            have hsp := stS_pop hst (by omega)
            have hsl := stN_len hsp
            have rb := rc_bnd (r := r) (c := c) (x := at_ 0 (tds) ((tds.length : Int) - 1)) (by omega) hsl.2.2.1 (by omega) rfl rfl
            refine ob_i (optd.ld0 rfl) ?_
            refine ob_i (optd.ld0 rfl) ?_
            refine ob_i (otd.len) ?_
            refine ob_i (vInt_sub (by omega) (by omega)) ?_
            refine ob_i (otd.sl.ix (by omega) (by omega)) ?_
            refine ob_i (otd.sl.ld 0 (by omega) (by omega)) ?_
            refine ob_i (optd.ld0 rfl) ?_
            refine ob_i (optd.ld0 rfl) ?_
            refine ob_i (otd.len) ?_
            refine ob_i (vInt_sub (by omega) (by omega)) ?_
            obtain ⟨x111, eq112, ox111, hb113⟩ := otd.trunc (n := ((((tds).length : Int)) - 1 : Int)) (by omega) (by omega)
            refine ob_i (eq112) ?_
            have apfXx111 : Apart pf x111 := fun b h1 h2 => apfXtd b h1 (hb113 b h2)
            have ap2Xx111 : Apart p2 x111 := fun b h1 h2 => ap2Xtd b h1 (hb113 b h2)
            have aouXx111 : Apart ou x111 := fun b h1 h2 => aouXtd b h1 (hb113 b h2)
            have apoXx111 : Apart po x111 := fun b h1 h2 => apoXtd b h1 (hb113 b h2)
            have apcXx111 : Apart pc x111 := fun b h1 h2 => apcXtd b h1 (hb113 b h2)
            have aptdXx111 : Apart ptd x111 := fun b h1 h2 => aptdXtd b h1 (hb113 b h2)
            have nx111 : Nw H x111 := fun b h2 => ntd b (hb113 b h2)
            refine optd.st0 (by simp) ox111.one ox111.cells (fun H114 optd off115 => ?_)
            replace opf := opf.off off115 apfXptd
            replace op2 := op2.off off115 ap2Xptd
            replace oou := oou.off off115 aouXptd
            replace opo := opo.off off115 apoXptd
            replace opc := opc.off off115 apcXptd
            replace ox111 := ox111.off off115 aptdXx111.symm
            replace hvc := hvc0.le (off115.le lE nptd)
            replace lE := off115.le lE nptd
            replace optd : Cel H114 ptd [x111] := optd
            refine ob_i (op2.fa 1) ?_
            refine ob_i (op2.ld 1 rfl) ?_
            refine ob_i (vInt_quoN (by omega) (by omega) (by omega)) ?_
            refine ob_i (op2.fa 1) ?_
            refine ob_i (op2.ld 1 rfl) ?_
            have rm116 := And.intro (Int.emod_nonneg (at_ 0 (tds) ((((tds).length : Int)) - 1)) (b := c) (by omega)) (Int.emod_lt_of_pos (at_ 0 (tds) ((((tds).length : Int)) - 1)) (b := c) (by omega))
            refine ob_i (vInt_remN (by omega) (by omega)) ?_
            refine ⟨by kernel_rfl, ?_⟩
            obtain ⟨X0, hX0⟩ : ∃ X0, X0 = at_ 0 (tds) ((tds.length : Int) - 1) := ⟨_, rfl⟩
            rw [← hX0] at hsp rb
            rw [show ((tds.length : Int) - 1).toNat = tds.length - 1 by omega] at ox111
            rw [← hX0]
            refine C.impl_Field_corners (Inv := fun ya yb H' => ∃ td, ∃ ls : List Int, ∃ tds : List Int, Cel H' pf [(.int .i64 (r)), (.int .i64 (c)), vc] ∧ Cel H' p2 [(.int .i64 (r)), (.int .i64 (c)), vc] ∧ Own eI H' ou (ouL c l (stsL c l i) ls) ∧ Cel H' po [ou] ∧ Cel H' pc [(.int .i64 ((((stsL c l i).length : Int)) + 1))] ∧ Cel H' ptd [td] ∧ Own eI H' td (tds) ∧ Nw H td ∧ Apart pf td ∧ Apart p2 td ∧ Apart ou td ∧ Apart po td ∧ Apart pc td ∧ Apart ptd td ∧ Le H H' ∧ stN c l i ls tds X0 ya yb ∧ t + 1 + tds.length = ls.length) hs (by omega) (by omega) (by omega) (by omega) ⟨x111, _, _, opf, op2, oou, opo, opc, optd, ox111, nx111, apfXx111, ap2Xx111, aouXx111, apoXx111, apcXx111, aptdXx111, lE, hsp, (by rw [List.length_take]; omega)⟩ (fun ya yb A117 B117 hI117 le117 => ?_) (fun ya yb A117 hno117 g1 g2 g3 g4 hI117 => ?_) (fun ya A117 g1 g2 hI117 => ?_) (fun ya yb A117 Z117 hin hne g1 g2 g3 g4 hI117 hZ117 => ?_) (fun A117 hI117 => ?_)
            · obtain ⟨td, ls, tds, opf, op2, oou, opo, opc, optd, otd, ntd, apfXtd, ap2Xtd, aouXtd, apoXtd, apcXtd, aptdXtd, lE, hsn, hcm⟩ := hI117
              exact ⟨td, ls, tds, (opf.le le117), (op2.le le117), (oou.le le117), (opo.le le117), (opc.le le117), (optd.le le117), (otd.le le117), ntd, apfXtd, ap2Xtd, aouXtd, apoXtd, apcXtd, aptdXtd, (lE.trans le117), hsn, hcm⟩
            · obtain ⟨td, ls, tds, opf, op2, oou, opo, opc, optd, otd, ntd, apfXtd, ap2Xtd, aouXtd, apoXtd, apcXtd, aptdXtd, lE, hsn, hcm⟩ := hI117
              exact ⟨td, ls, tds, opf, op2, oou, opo, opc, optd, otd, ntd, apfXtd, ap2Xtd, aouXtd, apoXtd, apcXtd, aptdXtd, lE, (stN_out hs hl hsn hno117), hcm⟩
            · obtain ⟨td, ls, tds, opf, op2, oou, opo, opc, optd, otd, ntd, apfXtd, ap2Xtd, aouXtd, apoXtd, apcXtd, aptdXtd, lE, hsn, hcm⟩ := hI117
              exact ⟨td, ls, tds, opf, op2, oou, opo, opc, optd, otd, ntd, apfXtd, ap2Xtd, aouXtd, apoXtd, apcXtd, aptdXtd, lE, (stN_row hsn), hcm⟩
            · obtain ⟨td, ls, tds, opf, op2, oou, opo, opc, optd, otd, ntd, apfXtd, ap2Xtd, aouXtd, apoXtd, apcXtd, aptdXtd, lE, hsn, hcm⟩ := hI117
              have hvc := hvc0.le lE
              have pq := pq_dm (r := r) (c := c) hin.1.1 hin.1.2 hin.2.1 hin.2.2
              have hsl := stN_len hsn
              have oL := ouL_len (c := c) (l := l) (L := (stsL c l i)) (ls := ls)
              refine ⟨by kernel_rfl, ?_⟩
              refine R.impl_Field_clusters_1 ?_
              unfold F.impl_Field_clusters_1
              refine ob_i (op2.fa 1) ?_
              refine ob_i (op2.ld 1 rfl) ?_
              refine ob_i (vInt_mul (by omega) (by omega)) ?_
              refine ob_i (vInt_add (by omega) (by omega)) ?_
              refine ob_i (op2.fa 2) ?_
              refine ob_i (op2.ld 2 rfl) ?_
              refine ob_i (hvc.ix (by omega) (by omega)) ?_
              refine ob_i (hvc.ld 0 (by omega) (by omega)) ?_
              refine ob_i (vInt_eql _ _ _) ?_
              by_cases hc118 : (at_ 0 (l) ((ya * c) + yb)) = 1
              · skip
                refine gop_e (decide_eq_true hc118) ?_
                refine gop_rt ?_
                refine ob_i (opo.ld0 rfl) ?_
                refine gop_e (decide_eq_true hc118) ?_
                refine gop_rt ?_
                refine gop_e (decide_eq_true hc118) ?_
                refine gop_rt ?_
                refine ob_i (oou.sl.ix (by omega) (by omega)) ?_
                refine gop_e (decide_eq_true hc118) ?_
                refine gop_rt ?_
                refine ob_i (oou.sl.ld 0 (by omega) (by omega)) ?_
                refine gop_e (decide_eq_true hc118) ?_
                refine gop_rt ?_
                refine ob_i (vInt_eql _ _ _) ?_
                refine ob_i (vPick_et (decide_eq_true hc118) _ _) ?_
                refine cnd_d (fun hg119 => ?_) (fun hg119 => ?_)
                · skip
                  refine ob_i (opo.ld0 rfl) ?_
                  refine ob_i (opc.ld0 rfl) ?_
                  refine ob_i (oou.sl.ix (by omega) (by omega)) ?_
                  refine oou.st (x := (((stsL c l i).length : Int)) + 1) (by omega) (by omega) rfl rfl (fun H120 oou off121 => ?_)
                  replace opf := opf.off off121 apfXou
                  replace op2 := op2.off off121 ap2Xou
                  replace opo := opo.off off121 aouXpo.symm
                  replace opc := opc.off off121 aouXpc.symm
                  replace optd := optd.off off121 aouXptd.symm
                  replace otd := otd.off off121 aouXtd.symm
                  replace hvc := hvc0.le (off121.le lE nou)
                  replace lE := off121.le lE nou
                  refine ob_i (optd.ld0 rfl) ?_
                  refine bS_i (enc := eI) (l := [(ya * c) + yb]) (by omega) rfl (by kernel_rfl) (fun u122 H123 ou122 nn124 le126 => ?_)
                  have apfXu122 : Apart pf u122 := opf.apart nn124
                  have ap2Xu122 : Apart p2 u122 := op2.apart nn124
                  have aouXu122 : Apart ou u122 := oou.apart nn124
                  have apoXu122 : Apart po u122 := opo.apart nn124
                  have apcXu122 : Apart pc u122 := opc.apart nn124
                  have aptdXu122 : Apart ptd u122 := optd.apart nn124
                  have atdXu122 : Apart td u122 := otd.apart nn124
                  have nu122 : Nw H u122 := nn124.le lE
                  replace opf := opf.le le126
                  replace op2 := op2.le le126
                  replace oou := oou.le le126
                  replace opo := opo.le le126
                  replace opc := opc.le le126
                  replace optd := optd.le le126
                  replace otd := otd.le le126
                  replace hvc := hvc.le le126
                  replace lE := lE.trans le126
                  refine apd_any otd ou122.sl (fun _ => rfl) (by omega) (by first | omega | (simp only [List.length_cons, List.length_nil, List.length_append, List.length_replicate, List.length_map, List.length_range]; omega)) (fun u130 H127 ou130 off128 hb129 => ?_)
                  have apfXu130 : Apart pf u130 := Apart.ap2 opf.known apfXtd hb129
                  have ap2Xu130 : Apart p2 u130 := Apart.ap2 op2.known ap2Xtd hb129
                  have aouXu130 : Apart ou u130 := Apart.ap2 oou.known aouXtd hb129
                  have apoXu130 : Apart po u130 := Apart.ap2 opo.known apoXtd hb129
                  have apcXu130 : Apart pc u130 := Apart.ap2 opc.known apcXtd hb129
                  have aptdXu130 : Apart ptd u130 := Apart.ap2 optd.known aptdXtd hb129
                  have au122Xu130 : Apart u122 u130 := Apart.ap2 ou122.known atdXu122.symm hb129
                  have nu130 : Nw H u130 := Nw.ap2 ntd lE hb129
                  replace opf := opf.off off128 apfXtd
                  replace op2 := op2.off off128 ap2Xtd
                  replace oou := oou.off off128 aouXtd
                  replace opo := opo.off off128 apoXtd
                  replace opc := opc.off off128 apcXtd
                  replace optd := optd.off off128 aptdXtd
                  replace ou122 := ou122.off off128 atdXu122.symm
                  replace hvc := hvc0.le (off128.le lE ntd)
                  replace lE := off128.le lE ntd
                  refine optd.st0 (by simp) ou130.one ou130.cells (fun H131 optd off132 => ?_)
                  replace opf := opf.off off132 apfXptd
                  replace op2 := op2.off off132 ap2Xptd
                  replace oou := oou.off off132 aouXptd
                  replace opo := opo.off off132 apoXptd
                  replace opc := opc.off off132 apcXptd
                  replace ou122 := ou122.off off132 aptdXu122.symm
                  replace ou130 := ou130.off off132 aptdXu130.symm
                  replace hvc := hvc0.le (off132.le lE nptd)
                  replace lE := off132.le lE nptd
                  replace optd : Cel H131 ptd [u130] := optd
                  have hp := stN_put (L := (stsL c l i)) hs hl hin.1.1 hin.1.2 hin.2.1 hin.2.2 hsn ⟨by omega, by omega⟩ ⟨by omega, by omega⟩ hc118 hg119
                  exact hZ117 _ ⟨u130, _, _, opf, op2, (Own.cast hp.2 oou), opo, opc, optd, ou130, nu130, apfXu130, ap2Xu130, aouXu130, apoXu130, apcXu130, aptdXu130, lE, hp.1, (by simp only [List.length_append, List.length_singleton]; omega)⟩
                · skip
                  have hp := stN_told (L := (stsL c l i)) hs hin.1.1 hin.1.2 hin.2.1 hin.2.2 hsn ⟨by omega, by omega⟩ ⟨by omega, by omega⟩ hnr (fun _ => hg119)
                  exact hZ117 _ ⟨td, _, _, opf, op2, oou, opo, opc, optd, otd, ntd, apfXtd, ap2Xtd, aouXtd, apoXtd, apcXtd, aptdXtd, lE, hp, hcm⟩
              · skip
                refine gop_e (decide_eq_false hc118) ?_
                refine gop_sf ?_
                refine gop_e (decide_eq_false hc118) ?_
                refine gop_sf ?_
                refine gop_e (decide_eq_false hc118) ?_
                refine gop_sf ?_
                refine gop_e (decide_eq_false hc118) ?_
                refine gop_sf ?_
                refine gop_e (decide_eq_false hc118) ?_
                refine gop_sf ?_
                refine ob_i (vPick_ef (decide_eq_false hc118) _ _) ?_
                refine cnd_f1 ?_
                have hp := stN_told (L := (stsL c l i)) hs hin.1.1 hin.1.2 hin.2.1 hin.2.2 hsn ⟨by omega, by omega⟩ ⟨by omega, by omega⟩ hnr (fun h => absurd h hc118)
                exact hZ117 _ ⟨td, _, _, opf, op2, oou, opo, opc, optd, otd, ntd, apfXtd, ap2Xtd, aouXtd, apoXtd, apcXtd, aptdXtd, lE, hp, hcm⟩
            obtain ⟨td, ls, tds, opf, op2, oou, opo, opc, optd, otd, ntd, apfXtd, ap2Xtd, aouXtd, apoXtd, apcXtd, aptdXtd, lE, hsn, hcm⟩ := hI117
            have hvc := hvc0.le lE
            exact nxt (l.length - (t + 1)) (by omega) ⟨t + 1, rfl, by omega, td, _, _, g1L109, g2L109, g6L109, g7L109, g10L109, g17L109, g18L109, g19L109, opf, op2, oou, opo, opc, optd, otd, ntd, apfXtd, ap2Xtd, aouXtd, apoXtd, apcXtd, aptdXtd, lE, (stN_end hsn), (by omega)⟩
          · skip
            have tt := hg110
            have hend := stS_end (show stS c l i ls [] by rw [← List.length_eq_zero_iff.mp (show tds.length = 0 by omega)]; exact hst)
            have hyes : stsL c l (i + 1) = (stsL c l i) ++ [i] := stsL_t hon hnr
            exact hJ93 _ _ ⟨g1L109, g2L109, g6L109, g7L109, g17L109, g18L109, g19L109, opf, op2, (Own.cast (by rw [hyes]; exact ouL_end hend) oou), opo, (Cel.cast (by rw [hyes]; simp) opc), lE⟩
    · skip
      have ti := hg92
      obtain rfl : i = l.length := by omega
      exact hJ23 _ _ ⟨g6L91, g7L91, opf, op2, oou, opo, opc, lE⟩
  · skip
    refine cnd_t1 ?_
    skip
    have hok : ¬ (fieldN 1 r c l) := by assumption
    exact keq (K := K) (by rw [decide_eq_false (show ¬ (fieldN 1 r c l) from by exact hok)]) (hk  (.slice none 0 0) _ (.slice none 0 0) _ (Fam.cast (show [] = selL (fieldN 1 r c l) (prtL r c l (stsL c l l.length)) by exact (selL_f hok).symm) (Fam.nil_of none)) (Own.cast (show [] = selL (fieldN 1 r c l) (plcL r c l (stsL c l l.length)) by exact (selL_f hok).symm) (Own.nil_of none)) (fun b hb => hb.elim) (fun b hb => by simp [bk] at hb) (fun b hb => hb.elim) lE)
end Go.Proofs.Ytejbicikffhggaa
