/- Counts ahead, inner steps. -/
import Derived.Test.YthbffbpdoankjaaUM
import Derived.Test.YthbffbpdoankjaaUA
namespace Go.Proofs.Ythbffbpdoankjaa
open HL
set_option maxRecDepth 100000
theorem C.spec_l02Sum {va : Value} {l : List Int}  {H : Hp} {K : Value → Hp → Prop} (hva0 : Sl eI H va l) (k1 : l.length ≤ 1000) (h1 : ∀ x ∈ l, 0 ≤ x ∧ x ≤ 9)
    (hk : ∀ H', Le H H' → K (.int .i64 (sumL l)) H') : HT prg I.spec_l02Sum [va].toArray H K := by
  have lE := Le.refl H
  have hva := hva0
  refine R.spec_l02Sum ?_
  unfold F.spec_l02Sum
  refine jn_i (fun σ' H' => σ' 3 = (.int .i64 (sumL l)) ∧ Le H H') (fun σ1 H1 hP => ?_) (fun J1 hJ1 => ?_)
  · skip
    obtain ⟨g3L1, lE⟩ := hP
    have hva := hva0.le lE
    try simp only [g3L1]
    skip
    exact hk   _    lE
  refine ⟨fun n' σ' H' => ∃ i : Nat, n' = l.length - i ∧ i ≤ l.length ∧ σ' 0 = va ∧ σ' 3 = (.int .i64 (sumL (l.take i))) ∧ σ' 4 = (.int .i64 ((i : Int))) ∧ Le H H',
    ⟨_, 0, rfl, by omega, rfl, (congrArg (Value.int .i64) (by first | omega | rfl | (simp; done))), (congrArg (Value.int .i64) (by first | omega | rfl | (simp; done))), lE⟩, ?_⟩
  rintro n2 σ2 H2 ⟨i, rfl, hiN, g0L2, g3L2, g4L2, lE⟩
  have hva := hva0.le lE
  try simp only [g0L2, g3L2, g4L2]
  have bb := sumL_bnd (l := l.take i) (fun x hx => h1 x (List.mem_of_mem_take hx))
  have bl : ((l.take i).length : Int) ≤ 1000 := by simp; omega
  refine ob_i (hva.len) ?_
  refine ob_i (vInt_lss _ _ _) ?_
  refine cnd_d (fun hg3 => ?_) (fun hg3 => ?_)
  · skip
    have ti := hg3
    have bx := h1 _ (at_mem 0 l (i := (i : Int)) (by omega) (by omega))
    refine ob_i (hva.ix (by omega) (by omega)) ?_
    refine ob_i (hva.ld 0 (by omega) (by omega)) ?_
    refine ob_i (vInt_add (by omega) (by omega)) ?_
    refine ob_i (vInt_add (by omega) (by omega)) ?_
    have eS := sumL_take (l := l) (i := i) (by omega)
    exact nxt (l.length - (i + 1)) (by omega) ⟨i + 1, rfl, by omega, g0L2, (congrArg (Value.int .i64) (by first | omega | rfl | (simp; done))), (congrArg (Value.int .i64) (by first | omega | rfl | (simp; done))), lE⟩
  · skip
    have ti := hg3
    rw [List.take_of_length_le (by omega)] at *
    exact hJ1 _ _ ⟨(g3L2.trans (congrArg (Value.int .i64) (by first | omega | rfl | (simp; done)))), lE⟩
theorem C.spec_l05Ones {p vc : Value} {r c : Int} {l : List Int}  {H : Hp} {K : Value → Hp → Prop} (hp0 : Cel H p [(.int .i64 (r)), (.int .i64 (c)), vc]) (hvc0 : Sl eI H vc l) (hf : fieldN 1 r c l)
    (hk : ∀ H', Le H H' → K (.int .i64 (cntE 1 l)) H') : HT prg I.spec_l05Ones [p].toArray H K := by
  have lE := Le.refl H
  have hp := hp0
  have hvc := hvc0
  refine R.spec_l05Ones ?_
  unfold F.spec_l05Ones
  have hs := hf.1
  have hl := hf.2.1
  have q1 := hs.1
  have q2 := hs.2
  have qm := sidesF_mul hs
  have e1 := cntE_one hf.2.2
  refine jn_i (fun σ' H' => σ' 3 = (.int .i64 (cntE 1 l)) ∧ Le H H') (fun σ1 H1 hP => ?_) (fun J1 hJ1 => ?_)
  · skip
    obtain ⟨g3L1, lE⟩ := hP
    have hp := hp0.le lE
    have hvc := hvc0.le lE
    try simp only [g3L1]
    skip
    exact hk   _    lE
  refine ob_i (hp.nilC) ?_
  refine ob_i (hp.fa 2) ?_
  refine ob_i (hp.ld 2 rfl) ?_
  refine ob_i (hvc.len) ?_
  refine ⟨fun n' σ' H' => ∃ i : Nat, n' = l.length - i ∧ i ≤ l.length ∧ σ' 0 = p ∧ σ' 3 = (.int .i64 (sumL (l.take i))) ∧ σ' 9 = (.int .i64 (((l).length : Int))) ∧ σ' 10 = (.int .i64 ((i : Int))) ∧ Le H H',
    ⟨_, 0, rfl, by omega, rfl, (congrArg (Value.int .i64) (by first | omega | rfl | (simp; done))), rfl, (congrArg (Value.int .i64) (by first | omega | rfl | (simp; done))), lE⟩, ?_⟩
  rintro n2 σ2 H2 ⟨i, rfl, hiN, g0L2, g3L2, g9L2, g10L2, lE⟩
  have hp := hp0.le lE
  have hvc := hvc0.le lE
  try simp only [g0L2, g3L2, g9L2, g10L2]
  have bb := sumL_bnd (l := l.take i) (fun x hx => hf.2.2 x (List.mem_of_mem_take hx))
  have bl : ((l.take i).length : Int) ≤ 1000 := by simp; omega
  refine ob_i (vInt_lss _ _ _) ?_
  refine cnd_d (fun hg3 => ?_) (fun hg3 => ?_)
  · skip
    have ti := hg3
    have bx := fieldN_at hf (i := (i : Int)) (by omega) (by omega)
    refine ob_i (hp.nilC) ?_
    refine ob_i (hp.fa 2) ?_
    refine ob_i (hp.ld 2 rfl) ?_
    refine ob_i (hvc.ix (by omega) (by omega)) ?_
    refine ob_i (hvc.ld 0 (by omega) (by omega)) ?_
    refine ob_i (vInt_add (by omega) (by omega)) ?_
    refine ob_i (vInt_add (by omega) (by omega)) ?_
    have eS := sumL_take (l := l) (i := i) (by omega)
    exact nxt (l.length - (i + 1)) (by omega) ⟨i + 1, rfl, by omega, g0L2, (congrArg (Value.int .i64) (by first | omega | rfl | (simp; done))), g9L2, (congrArg (Value.int .i64) (by first | omega | rfl | (simp; done))), lE⟩
  · skip
    have ti := hg3
    rw [List.take_of_length_le (by omega), ← e1] at *
    exact hJ1 _ _ ⟨(g3L2.trans (congrArg (Value.int .i64) (by first | omega | rfl | (simp; done)))), lE⟩
theorem C.impl_Field_count {vc : Value} {r c v : Int} {l : List Int}  {H : Hp} {K : Value → Hp → Prop} (hvc0 : Sl eI H vc l) (k1 : l.length ≤ 1000)
    (hk : ∀ H', Le H H' → K (.int .i64 (cntE v l)) H') : HT prg I.impl_Field_count [(.agg #[(.int .i64 (r)), (.int .i64 (c)), vc]), (.int .i64 (v))].toArray H K := by
  have lE := Le.refl H
  have hvc := hvc0
  refine R.impl_Field_count ?_
  unfold F.impl_Field_count
  refine nw_i (fun p1 H2 op1 nn3 le4 => ?_)
  have np1 : Nw H p1 := nn3.le lE
  replace hvc := hvc.le le4
  replace lE := lE.trans le4
  replace op1 : Cel H2 p1 [(.int .i64 (r)), (.int .i64 (c)), vc] := op1
  refine jn_i (fun σ' H' => σ' 5 = (.int .i64 (cntE v l)) ∧ Cel H' p1 [(.int .i64 (r)), (.int .i64 (c)), vc] ∧ Le H H') (fun σ5 H5 hP => ?_) (fun J5 hJ5 => ?_)
  · skip
    obtain ⟨g5L5, op1, lE⟩ := hP
    have hvc := hvc0.le lE
    try simp only [g5L5]
    skip
    exact hk   _    lE
  refine ob_i (op1.fa 2) ?_
  refine ob_i (op1.ld 2 rfl) ?_
  refine ob_i (hvc.len) ?_
  refine ⟨fun n' σ' H' => ∃ i : Nat, n' = l.length - i ∧ i ≤ l.length ∧ σ' 1 = (.int .i64 (v)) ∧ σ' 5 = (.int .i64 (cntE v (l.take i))) ∧ σ' 9 = vc ∧ σ' 10 = (.int .i64 (((l).length : Int))) ∧ σ' 11 = (.int .i64 ((i : Int))) ∧ Cel H' p1 [(.int .i64 (r)), (.int .i64 (c)), vc] ∧ Le H H',
    ⟨_, 0, rfl, by omega, rfl, (congrArg (Value.int .i64) (by first | omega | rfl | (simp; done))), rfl, rfl, (congrArg (Value.int .i64) (by first | omega | rfl | (simp; done))), op1, lE⟩, ?_⟩
  rintro n6 σ6 H6 ⟨i, rfl, hiN, g1L6, g5L6, g9L6, g10L6, g11L6, op1, lE⟩
  have hvc := hvc0.le lE
  try simp only [g1L6, g5L6, g9L6, g10L6, g11L6]
  have bb := cntE_bnd v (l.take i)
  have bl : ((l.take i).length : Int) ≤ 1000 := by simp; omega
  refine ob_i (vInt_lss _ _ _) ?_
  refine cnd_d (fun hg7 => ?_) (fun hg7 => ?_)
  · skip
    have ti := hg7
    refine ob_i (hvc.ix (by omega) (by omega)) ?_
    refine ob_i (hvc.ld 0 (by omega) (by omega)) ?_
    refine ob_i (vInt_eql _ _ _) ?_
    refine cnd_d (fun hg8 => ?_) (fun hg8 => ?_)
    · skip
      refine ob_i (vInt_add (by omega) (by omega)) ?_
      refine ob_i (vInt_add (by omega) (by omega)) ?_
      have eS := cntE_take (v := v) (l := l) (i := i) (by omega)
      rw [if_pos hg8] at eS
      exact nxt (l.length - (i + 1)) (by omega) ⟨i + 1, rfl, by omega, g1L6, (congrArg (Value.int .i64) (by first | omega | rfl | (simp; done))), g9L6, g10L6, (congrArg (Value.int .i64) (by first | omega | rfl | (simp; done))), op1, lE⟩
    · skip
      refine ob_i (vInt_add (by omega) (by omega)) ?_
      have eS := cntE_take (v := v) (l := l) (i := i) (by omega)
      rw [if_neg hg8] at eS
      exact nxt (l.length - (i + 1)) (by omega) ⟨i + 1, rfl, by omega, g1L6, (g5L6.trans (congrArg (Value.int .i64) (by first | omega | rfl | (simp; done)))), g9L6, g10L6, (congrArg (Value.int .i64) (by first | omega | rfl | (simp; done))), op1, lE⟩
  · skip
    have ti := hg7
    rw [List.take_of_length_le (by omega)] at *
    exact hJ5 _ _ ⟨(g5L6.trans (congrArg (Value.int .i64) (by first | omega | rfl | (simp; done)))), op1, lE⟩
theorem C.spec_CountsAhead {vb vs vc : Value} {r c st : Int} {rnd : Bool} {b : List Int} {s : List Int} {l : List Int}  {H : Hp} {K : Value → Hp → Prop} (hvb0 : Sl eI H vb b) (hvs0 : Sl eI H vs s) (hvc0 : Sl eI H vc l) (kb : b.length ≤ 9223372036854775807) (ks : s.length ≤ 9223372036854775807) (k1 : l.length ≤ 9223372036854775807)
    (hk : ∀ u1 H', Own eI H' u1 (selL (runP b s r c l st) (caL rnd b s r c l st.toNat)) → Nw H u1 → Le H H' → K (.tuple #[u1, (.bool (decide (runP b s r c l st)))]) H') : HT prg I.spec_CountsAhead [(.agg #[vb, vs]), (.agg #[(.int .i64 (r)), (.int .i64 (c)), vc]), (.bool (rnd)), (.int .i64 (st))].toArray H K := by
  have lE := Le.refl H
  have hvb := hvb0
  have hvs := hvs0
  have hvc := hvc0
  refine R.spec_CountsAhead ?_
  unfold F.spec_CountsAhead
  refine nw_i (fun p1 H2 op1 nn3 le4 => ?_)
  have np1 : Nw H p1 := nn3.le lE
  replace hvb := hvb.le le4
  replace hvs := hvs.le le4
  replace hvc := hvc.le le4
  replace lE := lE.trans le4
  replace op1 : Cel H2 p1 [vb, vs] := op1
  refine nw_i (fun p5 H6 op5 nn7 le8 => ?_)
  have ap1Xp5 : Apart p1 p5 := op1.apart nn7
  have np5 : Nw H p5 := nn7.le lE
  replace op1 := op1.le le8
  replace hvb := hvb.le le8
  replace hvs := hvs.le le8
  replace hvc := hvc.le le8
  replace lE := lE.trans le8
  replace op5 : Cel H6 p5 [(.int .i64 (r)), (.int .i64 (c)), vc] := op5
  refine C.spec_l04Can op1 op5 hvb hvs hvc (by first | assumption | omega) (by first | assumption | omega) (by first | assumption | omega) (fun   H9    le10 => ?_)
  replace op1 := op1.le le10
  replace op5 := op5.le le10
  replace hvb := hvb.le le10
  replace hvs := hvs.le le10
  replace hvc := hvc.le le10
  replace lE := lE.trans le10
  refine ob_nd (fun hc11 => ?_) (fun hc11 => ?_)
  · skip
    have hf := hc11.2
    have l1 := fieldN_len hf
    have hs := hf.1
    have hl := hf.2.1
    have q1 := hs.1
    have q2 := hs.2
    have qm := sidesF_mul hs
    refine gop_rf ?_
    refine gop_rf ?_
    refine C.spec_l00In  ?_
    refine gop_rf ?_
    refine ob_nd (fun hc12 => ?_) (fun hc12 => ?_)
    · skip
      refine ob_i (vPick_f _ _) ?_
      refine cnd_f1 ?_
      refine C.spec_l04Own op5 hvc (by first | assumption | omega) (fun  u15 H13 ou15 nn16  le14 => ?_)
      have ap1Xu15 : Apart p1 u15 := op1.apart nn16
      have ap5Xu15 : Apart p5 u15 := op5.apart nn16
      have nu15 : Nw H u15 := nn16.le lE
      replace op1 := op1.le le14
      replace op5 := op5.le le14
      replace hvb := hvb.le le14
      replace hvs := hvs.le le14
      replace hvc := hvc.le le14
      replace lE := lE.trans le14
      refine nw_i (fun q H17 oq nn18 le19 => ?_)
      have ap1Xq : Apart p1 q := op1.apart nn18
      have ap5Xq : Apart p5 q := op5.apart nn18
      have au15Xq : Apart u15 q := ou15.apart nn18
      have nq : Nw H q := nn18.le lE
      replace op1 := op1.le le19
      replace op5 := op5.le le19
      replace ou15 := ou15.le le19
      replace hvb := hvb.le le19
      replace hvs := hvs.le le19
      replace hvc := hvc.le le19
      replace lE := lE.trans le19
      replace oq : Cel H17 q [(.int .i64 (0)), (.int .i64 (0)), (.slice none 0 0)] := oq
      refine oq.stn (ws := [(.int .i64 (r)), (.int .i64 (c)), u15]) rfl rfl (oc1 rfl (oc1 rfl (oc1 ou15.one oc0))) (fun H20 oq off21 => ?_)
      replace op1 := op1.off off21 ap1Xq
      replace op5 := op5.off off21 ap5Xq
      replace ou15 := ou15.off off21 au15Xq
      replace hvb := hvb0.le (off21.le lE nq)
      replace hvs := hvs0.le (off21.le lE nq)
      replace hvc := hvc0.le (off21.le lE nq)
      replace lE := off21.le lE nq
      replace oq : Cel H20 q [(.int .i64 (r)), (.int .i64 (c)), u15] := oq
      refine C.spec_l05Ones oq ou15.sl (by first | assumption | omega) (fun   H22    le23 => ?_)
      replace op1 := op1.le le23
      replace op5 := op5.le le23
      replace ou15 := ou15.le le23
      replace oq := oq.le le23
      replace hvb := hvb.le le23
      replace hvs := hvs.le le23
      replace hvc := hvc.le le23
      replace lE := lE.trans le23
      refine bS_i (enc := eI) (l := [cntE 1 l]) (by omega) rfl (by kernel_rfl) (fun u24 H25 ou24 nn26 le28 => ?_)
      have ap1Xu24 : Apart p1 u24 := op1.apart nn26
      have ap5Xu24 : Apart p5 u24 := op5.apart nn26
      have au15Xu24 : Apart u15 u24 := ou15.apart nn26
      have aqXu24 : Apart q u24 := oq.apart nn26
      have nu24 : Nw H u24 := nn26.le lE
      replace op1 := op1.le le28
      replace op5 := op5.le le28
      replace ou15 := ou15.le le28
      replace oq := oq.le le28
      replace hvb := hvb.le le28
      replace hvs := hvs.le le28
      replace hvc := hvc.le le28
      replace lE := lE.trans le28
      refine jn_i (fun σ' H' => ∃ u, ∃ v, σ' 11 = v ∧ Cel H' p1 [vb, vs] ∧ Cel H' p5 [(.int .i64 (r)), (.int .i64 (c)), vc] ∧ Cel H' q [(.int .i64 (r)), (.int .i64 (c)), u] ∧ Own eI H' u (rnL rnd b s r c l st.toNat) ∧ Own eI H' v (caL rnd b s r c l st.toNat) ∧ Nw H u ∧ Apart p1 u ∧ Apart p5 u ∧ Apart q u ∧ Nw H v ∧ Apart p1 v ∧ Apart p5 v ∧ Apart q v ∧ Apart u v ∧ Le H H') (fun σ29 H29 hP => ?_) (fun J29 hJ29 => ?_)
      · skip
        obtain ⟨u, v, g11L29, op1, op5, oq, ou, ov, nu, ap1Xu, ap5Xu, aqXu, nv, ap1Xv, ap5Xv, aqXv, auXv, lE⟩ := hP
        have hvb := hvb0.le lE
        have hvs := hvs0.le lE
        have hvc := hvc0.le lE
        try simp only [g11L29]
        skip
        have hok : runP b s r c l st := by first | assumption | exact ⟨by assumption, by assumption⟩ | exact ⟨by assumption, by omega⟩
        exact keq (K := K) (by rw [decide_eq_true (show (runP b s r c l st) from by exact hok)]) (hk  v _ (Own.cast (show caL rnd b s r c l st.toNat = selL (runP b s r c l st) (caL rnd b s r c l st.toNat) by exact (selL_t hok).symm) ov) nv  lE)
      refine ⟨fun n' σ' H' => ∃ i : Nat, n' = st.toNat - i ∧ i ≤ st.toNat ∧ ∃ u, ∃ v, σ' 2 = (.bool (rnd)) ∧ σ' 3 = (.int .i64 (st - (i : Int))) ∧ σ' 4 = p1 ∧ σ' 10 = q ∧ σ' 11 = v ∧ Cel H' p1 [vb, vs] ∧ Cel H' p5 [(.int .i64 (r)), (.int .i64 (c)), vc] ∧ Cel H' q [(.int .i64 (r)), (.int .i64 (c)), u] ∧ Own eI H' u (rnL rnd b s r c l i) ∧ Own eI H' v (caL rnd b s r c l i) ∧ Nw H u ∧ Apart p1 u ∧ Apart p5 u ∧ Apart q u ∧ Nw H v ∧ Apart p1 v ∧ Apart p5 v ∧ Apart q v ∧ Apart u v ∧ Le H H',
        ⟨_, 0, rfl, by omega, u15, u24, rfl, (congrArg (Value.int .i64) (by first | omega | rfl | (simp; done))), rfl, rfl, rfl, op1, op5, oq, (Own.cast (by first | rfl | (simp; done)) ou15), (Own.cast (by first | rfl | (simp; done)) ou24), nu15, ap1Xu15, ap5Xu15, au15Xq.symm, nu24, ap1Xu24, ap5Xu24, aqXu24, au15Xu24, lE⟩, ?_⟩
      rintro n30 σ30 H30 ⟨i, rfl, hiN, u, v, g2L30, g3L30, g4L30, g10L30, g11L30, op1, op5, oq, ou, ov, nu, ap1Xu, ap5Xu, aqXu, nv, ap1Xv, ap5Xv, aqXv, auXv, lE⟩
      have hvb := hvb0.le lE
      have hvs := hvs0.le lE
      have hvc := hvc0.le lE
      try simp only [g2L30, g3L30, g4L30, g10L30, g11L30]
      have hfi : fieldN 1 r c (rnL rnd b s r c l i) := rnL_field hf i
      have hli := fieldN_len hfi
      have hfn : fieldN 1 r c (nxL rnd b s r c (rnL rnd b s r c l i)) := nxL_field hf.1
      have hln := fieldN_len hfn
      have hci := caL_len rnd b s r c l i
      refine ob_i (vInt_gtr _ _ _) ?_
      refine cnd_d (fun hg31 => ?_) (fun hg31 => ?_)
      · skip
        have ti := hg31
        refine C.spec_l04Next op1 oq hvb hvs ou.sl (by first | assumption | omega) (by first | assumption | omega) (by first | assumption | omega) (fun  u34 H32 ou34 nn35  le33 => ?_)
        have ap1Xu34 : Apart p1 u34 := op1.apart nn35
        have ap5Xu34 : Apart p5 u34 := op5.apart nn35
        have aqXu34 : Apart q u34 := oq.apart nn35
        have auXu34 : Apart u u34 := ou.apart nn35
        have avXu34 : Apart v u34 := ov.apart nn35
        have nu34 : Nw H u34 := nn35.le lE
        replace op1 := op1.le le33
        replace op5 := op5.le le33
        replace oq := oq.le le33
        replace ou := ou.le le33
        replace ov := ov.le le33
        replace hvb := hvb.le le33
        replace hvs := hvs.le le33
        replace hvc := hvc.le le33
        replace lE := lE.trans le33
        refine oq.stn (ws := [(.int .i64 (r)), (.int .i64 (c)), u34]) rfl rfl (oc1 rfl (oc1 rfl (oc1 ou34.one oc0))) (fun H36 oq off37 => ?_)
        replace op1 := op1.off off37 ap1Xq
        replace op5 := op5.off off37 ap5Xq
        replace ou := ou.off off37 aqXu.symm
        replace ov := ov.off off37 aqXv.symm
        replace ou34 := ou34.off off37 aqXu34.symm
        replace hvb := hvb0.le (off37.le lE nq)
        replace hvs := hvs0.le (off37.le lE nq)
        replace hvc := hvc0.le (off37.le lE nq)
        replace lE := off37.le lE nq
        replace oq : Cel H36 q [(.int .i64 (r)), (.int .i64 (c)), u34] := oq
        refine C.spec_l05Ones oq ou34.sl (by first | assumption | omega) (fun   H38    le39 => ?_)
        replace op1 := op1.le le39
        replace op5 := op5.le le39
        replace oq := oq.le le39
        replace ou := ou.le le39
        replace ov := ov.le le39
        replace ou34 := ou34.le le39
        replace hvb := hvb.le le39
        replace hvs := hvs.le le39
        replace hvc := hvc.le le39
        replace lE := lE.trans le39
        refine bS_i (enc := eI) (l := [cntE 1 (nxL rnd b s r c (rnL rnd b s r c l i))]) (by omega) rfl (by kernel_rfl) (fun u40 H41 ou40 nn42 le44 => ?_)
        have ap1Xu40 : Apart p1 u40 := op1.apart nn42
        have ap5Xu40 : Apart p5 u40 := op5.apart nn42
        have aqXu40 : Apart q u40 := oq.apart nn42
        have auXu40 : Apart u u40 := ou.apart nn42
        have avXu40 : Apart v u40 := ov.apart nn42
        have au34Xu40 : Apart u34 u40 := ou34.apart nn42
        have nu40 : Nw H u40 := nn42.le lE
        replace op1 := op1.le le44
        replace op5 := op5.le le44
        replace oq := oq.le le44
        replace ou := ou.le le44
        replace ov := ov.le le44
        replace ou34 := ou34.le le44
        replace hvb := hvb.le le44
        replace hvs := hvs.le le44
        replace hvc := hvc.le le44
        replace lE := lE.trans le44
        refine apd_any ov ou40.sl (fun _ => rfl) (by omega) (by first | omega | (simp only [List.length_cons, List.length_nil, List.length_append, List.length_replicate, List.length_map, List.length_range]; omega)) (fun u48 H45 ou48 off46 hb47 => ?_)
        have ap1Xu48 : Apart p1 u48 := Apart.ap2 op1.known ap1Xv hb47
        have ap5Xu48 : Apart p5 u48 := Apart.ap2 op5.known ap5Xv hb47
        have aqXu48 : Apart q u48 := Apart.ap2 oq.known aqXv hb47
        have auXu48 : Apart u u48 := Apart.ap2 ou.known auXv hb47
        have au34Xu48 : Apart u34 u48 := Apart.ap2 ou34.known avXu34.symm hb47
        have au40Xu48 : Apart u40 u48 := Apart.ap2 ou40.known avXu40.symm hb47
        have nu48 : Nw H u48 := Nw.ap2 nv lE hb47
        replace op1 := op1.off off46 ap1Xv
        replace op5 := op5.off off46 ap5Xv
        replace oq := oq.off off46 aqXv
        replace ou := ou.off off46 auXv
        replace ou34 := ou34.off off46 avXu34.symm
        replace ou40 := ou40.off off46 avXu40.symm
        replace hvb := hvb0.le (off46.le lE nv)
        replace hvs := hvs0.le (off46.le lE nv)
        replace hvc := hvc0.le (off46.le lE nv)
        replace lE := off46.le lE nv
        refine ob_i (vInt_sub (by omega) (by omega)) ?_
        exact nxt (st.toNat - (i + 1)) (by omega) ⟨i + 1, rfl, by omega, u34, u48, g2L30, (congrArg (Value.int .i64) (by first | omega | rfl | (simp; done))), g4L30, g10L30, rfl, op1, op5, oq, ou34, (by rw [← caL_succ]; exact ou48), nu34, ap1Xu34, ap5Xu34, aqXu34, nu48, ap1Xu48, ap5Xu48, aqXu48, au34Xu48, lE⟩
      · skip
        have ti := hg31
        rw [show i = st.toNat by omega] at ov ou
        exact hJ29 _ _ ⟨u, v, g11L30, op1, op5, oq, ou, ov, nu, ap1Xu, ap5Xu, aqXu, nv, ap1Xv, ap5Xv, aqXv, auXv, lE⟩
    · skip
      refine ob_i (vPick_f _ _) ?_
      refine cnd_t1 ?_
      skip
      have hok : ¬ (runP b s r c l st) := by intro h; first | exact absurd h.1 (by assumption) | exact absurd h.2 (by assumption) | (have := h.2; omega)
      exact keq (K := K) (by rw [decide_eq_false (show ¬ (runP b s r c l st) from by exact hok)]) (hk  (.slice none 0 0) _ (Own.cast (show [] = selL (runP b s r c l st) (caL rnd b s r c l st.toNat) by exact (selL_f hok).symm) (Own.nil_of none)) (fun b hb => by simp [bk] at hb)  lE)
  · skip
    refine gop_st ?_
    refine gop_st ?_
    refine gop_st ?_
    refine ob_i (vPick_t _ _) ?_
    refine cnd_t1 ?_
    skip
    have hok : ¬ (runP b s r c l st) := by intro h; first | exact absurd h.1 (by assumption) | exact absurd h.2 (by assumption) | (have := h.2; omega)
    exact keq (K := K) (by rw [decide_eq_false (show ¬ (runP b s r c l st) from by exact hok)]) (hk  (.slice none 0 0) _ (Own.cast (show [] = selL (runP b s r c l st) (caL rnd b s r c l st.toNat) by exact (selL_f hok).symm) (Own.nil_of none)) (fun b hb => by simp [bk] at hb)  lE)
theorem C.impl_CountsAhead {vb vs vc : Value} {r c st : Int} {rnd : Bool} {b : List Int} {s : List Int} {l : List Int}  {H : Hp} {K : Value → Hp → Prop} (hvb0 : Sl eI H vb b) (hvs0 : Sl eI H vs s) (hvc0 : Sl eI H vc l) (kb : b.length ≤ 9223372036854775807) (ks : s.length ≤ 9223372036854775807) (k1 : l.length ≤ 9223372036854775807)
    (hk : ∀ u1 H', Own eI H' u1 (selL (runP b s r c l st) (caL rnd b s r c l st.toNat)) → Nw H u1 → Le H H' → K (.tuple #[u1, (.bool (decide (runP b s r c l st)))]) H') : HT prg I.impl_CountsAhead [(.agg #[vb, vs]), (.agg #[(.int .i64 (r)), (.int .i64 (c)), vc]), (.bool (rnd)), (.int .i64 (st))].toArray H K := by
  have lE := Le.refl H
  have hvb := hvb0
  have hvs := hvs0
  have hvc := hvc0
  refine R.impl_CountsAhead ?_
  unfold F.impl_CountsAhead
  refine nw_i (fun p1 H2 op1 nn3 le4 => ?_)
  have np1 : Nw H p1 := nn3.le lE
  replace hvb := hvb.le le4
  replace hvs := hvs.le le4
  replace hvc := hvc.le le4
  replace lE := lE.trans le4
  replace op1 : Cel H2 p1 [vb, vs] := op1
  refine nw_i (fun q H5 oq nn6 le7 => ?_)
  have ap1Xq : Apart p1 q := op1.apart nn6
  have nq : Nw H q := nn6.le lE
  replace op1 := op1.le le7
  replace hvb := hvb.le le7
  replace hvs := hvs.le le7
  replace hvc := hvc.le le7
  replace lE := lE.trans le7
  replace oq : Cel H5 q [(.int .i64 (r)), (.int .i64 (c)), vc] := oq
  refine ob_i (op1.ldn rfl) ?_
  refine ob_i (oq.ldn rfl) ?_
  refine bSE_one (enc := encFv) (x := (⟨r, c, vc⟩ : Fv)) rfl rfl (by omega) (by omega) rfl (fun u8 H9 ou8 nn10 le12 => ?_) rfl
  have ap1Xu8 : Apart p1 u8 := op1.apart nn10
  have aqXu8 : Apart q u8 := oq.apart nn10
  have nu8 : Nw H u8 := nn10.le lE
  replace op1 := op1.le le12
  replace oq := oq.le le12
  replace hvb := hvb.le le12
  replace hvs := hvs.le le12
  replace hvc := hvc.le le12
  replace lE := lE.trans le12
  refine C.impl_lives hvb hvs hvc (ou8.sl encFv_n) (by first | assumption | omega) (by first | assumption | omega) (by first | assumption | omega) (fun   H13    le14 => ?_)
  replace op1 := op1.le le14
  replace oq := oq.le le14
  replace ou8 := ou8.le le14
  replace hvb := hvb.le le14
  replace hvs := hvs.le le14
  replace hvc := hvc.le le14
  replace lE := lE.trans le14
  refine ob_nd (fun hc15 => ?_) (fun hc15 => ?_)
  · skip
    have hf := hc15.2
    have l1 := fieldN_len hf
    have hs := hf.1
    have hl := hf.2.1
    have q1 := hs.1
    have q2 := hs.2
    have qm := sidesF_mul hs
    refine gop_rf ?_
    refine gop_rf ?_
    refine C.impl_within  ?_
    refine gop_rf ?_
    refine ob_nd (fun hc16 => ?_) (fun hc16 => ?_)
    · skip
      refine ob_i (vPick_f _ _) ?_
      refine cnd_f1 ?_
      refine ob_i (oq.ldn rfl) ?_
      refine C.impl_Field_count hvc (by first | assumption | omega) (fun   H17    le18 => ?_)
      replace op1 := op1.le le18
      replace oq := oq.le le18
      replace ou8 := ou8.le le18
      replace hvb := hvb.le le18
      replace hvs := hvs.le le18
      replace hvc := hvc.le le18
      replace lE := lE.trans le18
      refine bS_i (enc := eI) (l := [cntE 1 l]) (by omega) rfl (by kernel_rfl) (fun u19 H20 ou19 nn21 le23 => ?_)
      have ap1Xu19 : Apart p1 u19 := op1.apart nn21
      have aqXu19 : Apart q u19 := oq.apart nn21
      have au8Xu19 : Apart u8 u19 := ou8.apart nn21
      have nu19 : Nw H u19 := nn21.le lE
      replace op1 := op1.le le23
      replace oq := oq.le le23
      replace ou8 := ou8.le le23
      replace hvb := hvb.le le23
      replace hvs := hvs.le le23
      replace hvc := hvc.le le23
      replace lE := lE.trans le23
      refine jn_i (fun σ' H' => ∃ u, ∃ v, σ' 10 = v ∧ Cel H' p1 [vb, vs] ∧ Cel H' q [(.int .i64 (r)), (.int .i64 (c)), u] ∧ OwnE 3 encFv H' u8 ([⟨r, c, vc⟩]) ∧ Ro eI H' u (rnL rnd b s r c l st.toNat) ∧ Own eI H' v (caL rnd b s r c l st.toNat) ∧ Apart p1 u ∧ Apart q u ∧ Apart u8 u ∧ Nw H v ∧ Apart p1 v ∧ Apart q v ∧ Apart u8 v ∧ Apart u v ∧ Le H H') (fun σ24 H24 hP => ?_) (fun J24 hJ24 => ?_)
      · skip
        obtain ⟨u, v, g10L24, op1, oq, ou8, ou, ov, ap1Xu, aqXu, au8Xu, nv, ap1Xv, aqXv, au8Xv, auXv, lE⟩ := hP
        have hvb := hvb0.le lE
        have hvs := hvs0.le lE
        have hvc := hvc0.le lE
        try simp only [g10L24]
        skip
        have hok : runP b s r c l st := by first | assumption | exact ⟨by assumption, by assumption⟩ | exact ⟨by assumption, by omega⟩
        exact keq (K := K) (by rw [decide_eq_true (show (runP b s r c l st) from by exact hok)]) (hk  v _ (Own.cast (show caL rnd b s r c l st.toNat = selL (runP b s r c l st) (caL rnd b s r c l st.toNat) by exact (selL_t hok).symm) ov) nv  lE)
      refine ⟨fun n' σ' H' => ∃ i : Nat, n' = st.toNat - i ∧ i ≤ st.toNat ∧ ∃ u, ∃ v, σ' 2 = (.bool (rnd)) ∧ σ' 4 = p1 ∧ σ' 5 = q ∧ σ' 10 = v ∧ σ' 24 = (.int .i64 (st)) ∧ σ' 25 = (.int .i64 ((i : Int))) ∧ Cel H' p1 [vb, vs] ∧ Cel H' q [(.int .i64 (r)), (.int .i64 (c)), u] ∧ OwnE 3 encFv H' u8 ([⟨r, c, vc⟩]) ∧ Ro eI H' u (rnL rnd b s r c l i) ∧ Own eI H' v (caL rnd b s r c l i) ∧ Apart p1 u ∧ Apart q u ∧ Apart u8 u ∧ Nw H v ∧ Apart p1 v ∧ Apart q v ∧ Apart u8 v ∧ Apart u v ∧ Le H H',
        ⟨_, 0, rfl, by omega, vc, u19, rfl, rfl, rfl, rfl, rfl, (congrArg (Value.int .i64) (by first | omega | rfl | (simp; done))), op1, oq, ou8, (Ro.cast (by first | rfl | (simp; done)) (Ro.of_sl hvc (by omega))), (Own.cast (by first | rfl | (simp; done)) ou19), ((Ro.of_sl hvc0 (by omega)).apart np1).symm, ((Ro.of_sl hvc0 (by omega)).apart nq).symm, ((Ro.of_sl hvc0 (by omega)).apart nu8).symm, nu19, ap1Xu19, aqXu19, au8Xu19, ((Ro.of_sl hvc0 (by omega)).apart nu19), lE⟩, ?_⟩
      rintro n25 σ25 H25 ⟨i, rfl, hiN, u, v, g2L25, g4L25, g5L25, g10L25, g24L25, g25L25, op1, oq, ou8, ou, ov, ap1Xu, aqXu, au8Xu, nv, ap1Xv, aqXv, au8Xv, auXv, lE⟩
      have hvb := hvb0.le lE
      have hvs := hvs0.le lE
      have hvc := hvc0.le lE
      try simp only [g2L25, g4L25, g5L25, g10L25, g24L25, g25L25]
      have hfi : fieldN 1 r c (rnL rnd b s r c l i) := rnL_field hf i
      have hli := fieldN_len hfi
      have hfn : fieldN 1 r c (nxL rnd b s r c (rnL rnd b s r c l i)) := nxL_field hf.1
      have hln := fieldN_len hfn
      have hci := caL_len rnd b s r c l i
      refine ob_i (vInt_lss _ _ _) ?_
      refine cnd_d (fun hg26 => ?_) (fun hg26 => ?_)
      · skip
        have ti := hg26
        refine ob_i (op1.ldn rfl) ?_
        refine ob_i (oq.ldn rfl) ?_
        refine C.impl_Life_step hvb hvs ou.sl (by first | assumption | omega) (by first | assumption | omega) (by first | assumption | omega) (fun  u29 H27 ou29 nn30  le28 => ?_)
        have ap1Xu29 : Apart p1 u29 := op1.apart nn30
        have aqXu29 : Apart q u29 := oq.apart nn30
        have au8Xu29 : Apart u8 u29 := ou8.apart nn30
        have auXu29 : Apart u u29 := ou.apart nn30
        have avXu29 : Apart v u29 := ov.apart nn30
        have nu29 : Nw H u29 := nn30.le lE
        replace op1 := op1.le le28
        replace oq := oq.le le28
        replace ou8 := ou8.le le28
        replace ou := ou.le le28
        replace ov := ov.le le28
        replace hvb := hvb.le le28
        replace hvs := hvs.le le28
        replace hvc := hvc.le le28
        replace lE := lE.trans le28
        refine oq.stn (ws := [(.int .i64 (r)), (.int .i64 (c)), u29]) rfl rfl (oc1 rfl (oc1 rfl (oc1 ou29.one oc0))) (fun H31 oq off32 => ?_)
        replace op1 := op1.off off32 ap1Xq
        replace ou8 := ou8.off off32 aqXu8.symm
        replace ou := ou.off off32 aqXu.symm
        replace ov := ov.off off32 aqXv.symm
        replace ou29 := ou29.off off32 aqXu29.symm
        replace hvb := hvb0.le (off32.le lE nq)
        replace hvs := hvs0.le (off32.le lE nq)
        replace hvc := hvc0.le (off32.le lE nq)
        replace lE := off32.le lE nq
        replace oq : Cel H31 q [(.int .i64 (r)), (.int .i64 (c)), u29] := oq
        refine ob_i (oq.ldn rfl) ?_
        refine C.impl_Field_count ou29.sl (by first | assumption | omega) (fun   H33    le34 => ?_)
        replace op1 := op1.le le34
        replace oq := oq.le le34
        replace ou8 := ou8.le le34
        replace ou := ou.le le34
        replace ov := ov.le le34
        replace ou29 := ou29.le le34
        replace hvb := hvb.le le34
        replace hvs := hvs.le le34
        replace hvc := hvc.le le34
        replace lE := lE.trans le34
        refine bS_i (enc := eI) (l := [cntE 1 (nxL rnd b s r c (rnL rnd b s r c l i))]) (by omega) rfl (by kernel_rfl) (fun u35 H36 ou35 nn37 le39 => ?_)
        have ap1Xu35 : Apart p1 u35 := op1.apart nn37
        have aqXu35 : Apart q u35 := oq.apart nn37
        have au8Xu35 : Apart u8 u35 := ou8.apart nn37
        have auXu35 : Apart u u35 := ou.apart nn37
        have avXu35 : Apart v u35 := ov.apart nn37
        have au29Xu35 : Apart u29 u35 := ou29.apart nn37
        have nu35 : Nw H u35 := nn37.le lE
        replace op1 := op1.le le39
        replace oq := oq.le le39
        replace ou8 := ou8.le le39
        replace ou := ou.le le39
        replace ov := ov.le le39
        replace ou29 := ou29.le le39
        replace hvb := hvb.le le39
        replace hvs := hvs.le le39
        replace hvc := hvc.le le39
        replace lE := lE.trans le39
        refine apd_any ov ou35.sl (fun _ => rfl) (by omega) (by first | omega | (simp only [List.length_cons, List.length_nil, List.length_append, List.length_replicate, List.length_map, List.length_range]; omega)) (fun u43 H40 ou43 off41 hb42 => ?_)
        have ap1Xu43 : Apart p1 u43 := Apart.ap2 op1.known ap1Xv hb42
        have aqXu43 : Apart q u43 := Apart.ap2 oq.known aqXv hb42
        have au8Xu43 : Apart u8 u43 := Apart.ap2 ou8.known au8Xv hb42
        have auXu43 : Apart u u43 := Apart.ap2 ou.known auXv hb42
        have au29Xu43 : Apart u29 u43 := Apart.ap2 ou29.known avXu29.symm hb42
        have au35Xu43 : Apart u35 u43 := Apart.ap2 ou35.known avXu35.symm hb42
        have nu43 : Nw H u43 := Nw.ap2 nv lE hb42
        replace op1 := op1.off off41 ap1Xv
        replace oq := oq.off off41 aqXv
        replace ou8 := ou8.off off41 au8Xv
        replace ou := ou.off off41 auXv
        replace ou29 := ou29.off off41 avXu29.symm
        replace ou35 := ou35.off off41 avXu35.symm
        replace hvb := hvb0.le (off41.le lE nv)
        replace hvs := hvs0.le (off41.le lE nv)
        replace hvc := hvc0.le (off41.le lE nv)
        replace lE := off41.le lE nv
        refine ob_i (vInt_add (by omega) (by omega)) ?_
        exact nxt (st.toNat - (i + 1)) (by omega) ⟨i + 1, rfl, by omega, u29, u43, g2L25, g4L25, g5L25, rfl, g24L25, (congrArg (Value.int .i64) (by first | omega | rfl | (simp; done))), op1, oq, ou8, ou29.ro, (by rw [← caL_succ]; exact ou43), ap1Xu29, aqXu29, au8Xu29, nu43, ap1Xu43, aqXu43, au8Xu43, au29Xu43, lE⟩
      · skip
        have ti := hg26
        rw [show i = st.toNat by omega] at ov ou
        exact hJ24 _ _ ⟨u, v, g10L25, op1, oq, ou8, ou, ov, ap1Xu, aqXu, au8Xu, nv, ap1Xv, aqXv, au8Xv, auXv, lE⟩
    · skip
      refine ob_i (vPick_f _ _) ?_
      refine cnd_t1 ?_
      skip
      have hok : ¬ (runP b s r c l st) := by intro h; first | exact absurd h.1 (by assumption) | exact absurd h.2 (by assumption) | (have := h.2; omega)
      exact keq (K := K) (by rw [decide_eq_false (show ¬ (runP b s r c l st) from by exact hok)]) (hk  (.slice none 0 0) _ (Own.cast (show [] = selL (runP b s r c l st) (caL rnd b s r c l st.toNat) by exact (selL_f hok).symm) (Own.nil_of none)) (fun b hb => by simp [bk] at hb)  lE)
  · skip
    refine gop_st ?_
    refine gop_st ?_
    refine gop_st ?_
    refine ob_i (vPick_t _ _) ?_
    refine cnd_t1 ?_
    skip
    have hok : ¬ (runP b s r c l st) := by intro h; first | exact absurd h.1 (by assumption) | exact absurd h.2 (by assumption) | (have := h.2; omega)
    exact keq (K := K) (by rw [decide_eq_false (show ¬ (runP b s r c l st) from by exact hok)]) (hk  (.slice none 0 0) _ (Own.cast (show [] = selL (runP b s r c l st) (caL rnd b s r c l st.toNat) by exact (selL_f hok).symm) (Own.nil_of none)) (fun b hb => by simp [bk] at hb)  lE)
theorem caP_len {rnd : Bool} {b s : List Int} {r c : Int} {l : List Int} {n : Int} : (selL (runP b s r c l n) (caL rnd b s r c l n.toNat)).length ≤ 600 := selL_len fun h => by rw [caL_len]; have := h.2; omega
end Go.Proofs.Ythbffbpdoankjaa
