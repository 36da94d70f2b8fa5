/- Counts ahead, inner steps. -/
import Derived.Test.YthbffbpdoankjaaUM
import Derived.Test.YthbffbpdoankjaaUA
namespace Go.Proofs.Ythbffbpdoankjaa
open HL
set_option maxRecDepth 100000
theorem C.spec_l02Sum {va : Value} {l : List Int}  {H : Hp} {K : Value → Hp → Prop} (hva0 : Sl eI H va l) (k1 : l.length ≤ 1000) (h1 : ∀ x ∈ l, 0 ≤ x ∧ x ≤ 9)
    (hk : ∀ H', Le H H' → K (.int .i64 (sumL l)) H') : HT prg I.spec_l02Sum [va].toArray H K := by
  have lE := Le.refl H
  have hva := hva0
  refine R.spec_l02Sum ?_
  unfold F.spec_l02Sum
  refine jn_i (fun σ' H' => σ' 3 = (.int .i64 (sumL l)) ∧ Le H H') (fun σ1 H1 hP => ?_) (fun J1 hJ1 => ?_)
  · skip
    obtain ⟨g3L1, lE⟩ := hP
    have hva := hva0.le lE
    try simp only [g3L1]
    skip
    exact hk   _    lE
  refine ⟨fun n' σ' H' => ∃ i : Nat, n' = l.length - i ∧ i ≤ l.length ∧ σ' 0 = va ∧ σ' 3 = (.int .i64 (sumL (l.take i))) ∧ σ' 4 = (.int .i64 ((i : Int))) ∧ Le H H',
    ⟨_, 0, rfl, by omega, rfl, (congrArg (Value.int .i64) (by first | omega | rfl | (simp; done))), (congrArg (Value.int .i64) (by first | omega | rfl | (simp; done))), lE⟩, ?_⟩
  rintro n2 σ2 H2 ⟨i, rfl, hiN, g0L2, g3L2, g4L2, lE⟩
  have hva := hva0.le lE
  try simp only [g0L2, g3L2, g4L2]
  have bb := sumL_bnd (l := l.take i) (fun x hx => h1 x (List.mem_of_mem_take hx))
  have bl : ((l.take i).length : Int) ≤ 1000 := by simp; omega
  refine ob_i (hva.len) ?_
  refine ob_i (vInt_lss _ _ _) ?_
  refine cnd_d (fun hg3 => ?_) (fun hg3 => ?_)
  · skip
    have ti := hg3
    have bx := h1 _ (at_mem 0 l (i := (i : Int)) (by omega) (by omega))
    refine ob_i (hva.ix (by omega) (by omega)) ?_
    refine ob_i (hva.ld 0 (by omega) (by omega)) ?_
    refine ob_i (vInt_add (by omega) (by omega)) ?_
    refine ob_i (vInt_add (by omega) (by omega)) ?_
    have eS := sumL_take (l := l) (i := i) (by omega)
    exact nxt (l.length - (i + 1)) (by omega) ⟨i + 1, rfl, by omega, g0L2, (congrArg (Value.int .i64) (by first | omega | rfl | (simp; done))), (congrArg (Value.int .i64) (by first | omega | rfl | (simp; done))), lE⟩
  · skip
    have ti := hg3
    rw [List.take_of_length_le (by omega)] at *
    exact hJ1 _ _ ⟨(g3L2.trans (congrArg (Value.int .i64) (by first | omega | rfl | (simp; done)))), lE⟩
theorem C.spec_l05Ones {p vc : Value} {r c : Int} {l : List Int}  {H : Hp} {K : Value → Hp → Prop} (hp0 : Cel H p [(.int .i64 (r)), (.int .i64 (c)), vc]) (hvc0 : Sl eI H vc l) (hf : fieldN 1 r c l)
    (hk : ∀ H', Le H H' → K (.int .i64 (cntE 1 l)) H') : HT prg I.spec_l05Ones [p].toArray H K := by
  have lE := Le.refl H
  have hp := hp0
  have hvc := hvc0
  refine R.spec_l05Ones ?_
  unfold F.spec_l05Ones
  have hs := hf.1
  have hl := hf.2.1
  have q1 := hs.1
  have q2 := hs.2
  have qm := sidesF_mul hs
  have e1 := cntE_one hf.2.2
  refine jn_i (fun σ' H' => σ' 3 = (.int .i64 (cntE 1 l)) ∧ Le H H') (fun σ1 H1 hP => ?_) (fun J1 hJ1 => ?_)
  · skip
    obtain ⟨g3L1, lE⟩ := hP
    have hp := hp0.le lE
    have hvc := hvc0.le lE
    try simp only [g3L1]
    skip
    exact hk   _    lE
  refine ob_i (hp.nilC) ?_
  refine ob_i (hp.fa 2) ?_
  refine ob_i (hp.ld 2 rfl) ?_
  refine ob_i (hvc.len) ?_
  refine ⟨fun n' σ' H' => ∃ i : Nat, n' = l.length - i ∧ i ≤ l.length ∧ σ' 0 = p ∧ σ' 3 = (.int .i64 (sumL (l.take i))) ∧ σ' 9 = (.int .i64 (((l).length : Int))) ∧ σ' 10 = (.int .i64 ((i : Int))) ∧ Le H H',
    ⟨_, 0, rfl, by omega, rfl, (congrArg (Value.int .i64) (by first | omega | rfl | (simp; done))), rfl, (congrArg (Value.int .i64) (by first | omega | rfl | (simp; done))), lE⟩, ?_⟩
  rintro n2 σ2 H2 ⟨i, rfl, hiN, g0L2, g3L2, g9L2, g10L2, lE⟩
  have hp := hp0.le lE
  have hvc := hvc0.le lE
  try simp only [g0L2, g3L2, g9L2, g10L2]
  have bb := sumL_bnd (l := l.take i) (fun x hx => hf.2.2 x (List.mem_of_mem_take hx))
  have bl : ((l.take i).length : Int) ≤ 1000 := by simp; omega
  refine ob_i (vInt_lss _ _ _) ?_
  refine cnd_d (fun hg3 => ?_) (fun hg3 => ?_)
  · skip
    have ti := hg3
    have bx := fieldN_at hf (i := (i : Int)) (by omega) (by omega)
    refine ob_i (hp.nilC) ?_
    refine ob_i (hp.fa 2) ?_
    refine ob_i (hp.ld 2 rfl) ?_
    refine ob_i (hvc.ix (by omega) (by omega)) ?_
    refine ob_i (hvc.ld 0 (by omega) (by omega)) ?_
    refine ob_i (vInt_add (by omega) (by omega)) ?_
    refine ob_i (vInt_add (by omega) (by omega)) ?_
    have eS := sumL_take (l := l) (i := i) (by omega)
    exact nxt (l.length - (i + 1)) (by omega) ⟨i + 1, rfl, by omega, g0L2, (congrArg (Value.int .i64) (by first | omega | rfl | (simp; done))), g9L2, (congrArg (Value.int .i64) (by first | omega | rfl | (simp; done))), lE⟩
  · skip
    have ti := hg3
    rw [List.take_of_length_le (by omega), ← e1] at *
    exact hJ1 _ _ ⟨(g3L2.trans (congrArg (Value.int .i64) (by first | omega | rfl | (simp; done)))), lE⟩
theorem C.impl_Field_count {vc : Value} {r c v : Int} {l : List Int}  {H : Hp} {K : Value → Hp → Prop} (hvc0 : Sl eI H vc l) (k1 : l.length ≤ 1000)
    (hk : ∀ H', Le H H' → K (.int .i64 (cntE v l)) H') : HT prg I.impl_Field_count [(.agg #[(.int .i64 (r)), (.int .i64 (c)), vc]), (.int .i64 (v))].toArray H K := by
  have lE := Le.refl H
  have hvc := hvc0
  refine R.impl_Field_count ?_
  unfold F.impl_Field_count
  refine nw_i (fun p1 H2 op1 nn3 le4 => ?_)
  have np1 : Nw H p1 := nn3.le lE
  replace hvc := hvc.le le4
  replace lE := lE.trans le4
  replace op1 : Cel H2 p1 [(.int .i64 (r)), (.int .i64 (c)), vc] := op1
  refine jn_i (fun σ' H' => σ' 5 = (.int .i64 (cntE v l)) ∧ Cel H' p1 [(.int .i64 (r)), (.int .i64 (c)), vc] ∧ Le H H') (fun σ5 H5 hP => ?_) (fun J5 hJ5 => ?_)
  · skip
    obtain ⟨g5L5, op1, lE⟩ := hP
    have hvc := hvc0.le lE
    try simp only [g5L5]
    skip
    exact hk   _    lE
  refine ob_i (op1.fa 2) ?_
  refine ob_i (op1.ld 2 rfl) ?_
  refine ob_i (hvc.len) ?_
  refine ⟨fun n' σ' H' => ∃ i : Nat, n' = l.length - i ∧ i ≤ l.length ∧ σ' 1 = (.int .i64 (v)) ∧ σ' 5 = (.int .i64 (cntE v (l.take i))) ∧ σ' 9 = vc ∧ σ' 10 = (.int .i64 (((l).length : Int))) ∧ σ' 11 = (.int .i64 ((i : Int))) ∧ Cel H' p1 [(.int .i64 (r)), (.int .i64 (c)), vc] ∧ Le H H',
    ⟨_, 0, rfl, by omega, rfl, (congrArg (Value.int .i64) (by first | omega | rfl | (simp; done))), rfl, rfl, (congrArg (Value.int .i64) (by first | omega | rfl | (simp; done))), op1, lE⟩, ?_⟩
  rintro n6 σ6 H6 ⟨i, rfl, hiN, g1L6, g5L6, g9L6, g10L6, g11L6, op1, lE⟩
  have hvc := hvc0.le lE
  try simp only [g1L6, g5L6, g9L6, g10L6, g11L6]
  have bb := cntE_bnd v (l.take i)
  have bl : ((l.take i).length : Int) ≤ 1000 := by simp; omega
  refine ob_i (vInt_lss _ _ _) ?_
  refine cnd_d (fun hg7 => ?_) (fun hg7 => ?_)
  · skip
    have ti := hg7
    refine ob_i (hvc.ix (by omega) (by omega)) ?_
    refine ob_i (hvc.ld 0 (by omega) (by omega)) ?_
    refine ob_i (vInt_eql _ _ _) ?_
    refine cnd_d (fun hg8 => ?_) (fun hg8 => ?_)
    · skip
      refine ob_i (vInt_add (by omega) (by omega)) ?_
      refine ob_i (vInt_add (by omega) (by omega)) ?_
      have eS := cntE_take (v := v) (l := l) (i := i) (by omega)
      rw [if_pos hg8] at eS
      exact nxt (l.length - (i + 1)) (by omega) ⟨i + 1, rfl, by omega, g1L6, (congrArg (Value.int .i64) (by first | omega | rfl | (simp; done))), g9L6, g10L6, (congrArg (Value.int .i64) (by first | omega | rfl | (simp; done))), op1, lE⟩
    · skip
      refine ob_i (vInt_add (by omega) (by omega)) ?_
      have eS := cntE_take (v := v) (l := l) (i := i) (by omega)
      rw [if_neg hg8] at eS
      exact nxt (l.length - (i + 1)) (by omega) ⟨i + 1, rfl, by omega, g1L6, (g5L6.trans (congrArg (Value.int .i64) (by first | omega | rfl | (simp; done)))), g9L6, g10L6, (congrArg (Value.int .i64) (by first | omega | rfl | (simp; done))), op1, lE⟩
  · skip
    have ti := hg7
    rw [List.take_of_length_le (by omega)] at *
    exact hJ5 _ _ ⟨(g5L6.trans (congrArg (Value.int .i64) (by first | omega | rfl | (simp; done)))), op1, lE⟩
theorem C.spec_CountsAhead {vb vs vc : Value} {r c st : Int} {rnd : Bool} {b : List Int} {s : List Int} {l : List Int}  {H : Hp} {K : Value → Hp → Prop} (hvb0 : Sl eI H vb b) (hvs0 : Sl eI H vs s) (hvc0 : Sl eI H vc l) (kb : b.length ≤ 9223372036854775807) (ks : s.length ≤ 9223372036854775807) (k1 : l.length ≤ 9223372036854775807)
    (hk : ∀ u1 H', Own eI H' u1 (selL (runP b s r c l st) (caL rnd b s r c l st.toNat)) → Nw H u1 → Le H H' → K (.tuple #[u1, (.bool (decide (runP b s r c l st)))]) H') : HT prg I.spec_CountsAhead [(.agg #[vb, vs]), (.agg #[(.int .i64 (r)), (.int .i64 (c)), vc]), (.bool (rnd)), (.int .i64 (st))].toArray H K := by
  have lE := Le.refl H
  have hvb := hvb0
  have hvs := hvs0
  have hvc := hvc0
  refine R.spec_CountsAhead ?_
  unfold F.spec_CountsAhead
  refine nw_i (fun p1 H2 op1 nn3 le4 => ?_)
  have np1 : Nw H p1 := nn3.le lE
  replace hvb := hvb.le le4
  replace hvs := hvs.le le4
  replace hvc := hvc.le le4
  replace lE := lE.trans le4
  replace op1 : Cel H2 p1 [vb, vs] := op1
  refine nw_i (fun p5 H6 op5 nn7 le8 => ?_)
  have ap1Xp5 : Apart p1 p5 := op1.apart nn7
  have np5 : Nw H p5 := nn7.le lE
  replace op1 := op1.le le8
  replace hvb := hvb.le le8
  replace hvs := hvs.le le8
  replace hvc := hvc.le le8
  replace lE := lE.trans le8
  replace op5 : Cel H6 p5 [(.int .i64 (r)), (.int .i64 (c)), vc] := op5
  refine C.spec_l04Can op1 op5 hvb hvs hvc (by first | omega | assumption) (by first | omega | assumption) (by first | omega | assumption) (fun   H9    le10 => ?_)
  replace op1 := op1.le le10
  replace op5 := op5.le le10
  replace hvb := hvb.le le10
  replace hvs := hvs.le le10
  replace hvc := hvc.le le10
  replace lE := lE.trans le10
  refine ob_nd (fun hc11 => ?_) (fun hc11 => ?_)
  · skip
    have hf := hc11.2
    have l1 := fieldN_len hf
    have hs := hf.1
    have hl := hf.2.1
    have q1 := hs.1
    have q2 := hs.2
    have qm := sidesF_mul hs
    refine gop_rf ?_
    refine gop_rf ?_
    refine C.spec_l00In  ?_
    refine gop_rf ?_
    refine ob_nd (fun hc12 => ?_) (fun hc12 => ?_)
    · skip
      refine ob_i (vPick_f _ _) ?_
      refine cnd_f1 ?_
      refine C.spec_l04Own op5 hvc (by first | omega | assumption) (fun  u15 H13 ou15 nn16  le14 => ?_)
      have ap1Xu15 : Apart p1 u15 := op1.apart nn16
      have ap5Xu15 : Apart p5 u15 := op5.apart nn16
      have nu15 : Nw H u15 := nn16.le lE
      replace op1 := op1.le le14
      replace op5 := op5.le le14
      replace hvb := hvb.le le14
      replace hvs := hvs.le le14
      replace hvc := hvc.le le14
      replace lE := lE.trans le14
      refine nw_i (fun q H17 oq nn18 le19 => ?_)
      have ap1Xq : Apart p1 q := op1.apart nn18
      have ap5Xq : Apart p5 q := op5.apart nn18
      have au15Xq : Apart u15 q := ou15.apart nn18
      have nq : Nw H q := nn18.le lE
      replace op1 := op1.le le19
      replace op5 := op5.le le19
      replace ou15 := ou15.le le19
      replace hvb := hvb.le le19
      replace hvs := hvs.le le19
      replace hvc := hvc.le le19
      replace lE := lE.trans le19
      replace oq : Cel H17 q [(.int .i64 (0)), (.int .i64 (0)), (.slice none 0 0)] := oq
      refine oq.stn (ws := [(.int .i64 (r)), (.int .i64 (c)), u15]) rfl rfl (oc1 rfl (oc1 rfl (oc1 ou15.one oc0))) (fun H20 oq off21 => ?_)
      replace op1 := op1.off off21 ap1Xq
      replace op5 := op5.off off21 ap5Xq
      replace ou15 := ou15.off off21 au15Xq
      replace hvb := hvb0.le (off21.le lE nq)
      replace hvs := hvs0.le (off21.le lE nq)
      replace hvc := hvc0.le (off21.le lE nq)
      replace lE := off21.le lE nq
      replace oq : Cel H20 q [(.int .i64 (r)), (.int .i64 (c)), u15] := oq
      refine C.spec_l05Ones oq ou15.sl (by first | omega | assumption) (fun   H22    le23 => ?_)
      replace op1 := op1.le le23
      replace op5 := op5.le le23
      replace ou15 := ou15.le le23
      replace oq := oq.le le23
      replace hvb := hvb.le le23
      replace hvs := hvs.le le23
      replace hvc := hvc.le le23
      replace lE := lE.trans le23
      refine bS_i (enc := eI) (l := [cntE 1 l]) (by omega) rfl (by kernel_rfl) (fun u24 H25 ou24 nn26 le28 => ?_)
      have ap1Xu24 : Apart p1 u24 := op1.apart nn26
      have ap5Xu24 : Apart p5 u24 := op5.apart nn26
      have au15Xu24 : Apart u15 u24 := ou15.apart nn26
      have aqXu24 : Apart q u24 := oq.apart nn26
      have nu24 : Nw H u24 := nn26.le lE
      replace op1 := op1.le le28
      replace op5 := op5.le le28
      replace ou15 := ou15.le le28
      replace oq := oq.le le28
      replace hvb := hvb.le le28
      replace hvs := hvs.le le28
      replace hvc := hvc.le le28
      replace lE := lE.trans le28
      refine jn_i (fun σ' H' => ∃ u, ∃ v, σ' 11 = v ∧ Cel H' p1 [vb, vs] ∧ Cel H' p5 [(.int .i64 (r)), (.int .i64 (c)), vc] ∧ Cel H' q [(.int .i64 (r)), (.int .i64 (c)), u] ∧ Own eI H' u (rnL rnd b s r c l st.toNat) ∧ Own eI H' v (caL rnd b s r c l st.toNat) ∧ Nw H u ∧ Apart p1 u ∧ Apart p5 u ∧ Apart q u ∧ Nw H v ∧ Apart p1 v ∧ Apart p5 v ∧ Apart q v ∧ Apart u v ∧ Le H H') (fun σ29 H29 hP => ?_) (fun J29 hJ29 => ?_)
      · skip
        obtain ⟨u, v, g11L29, op1, op5, oq, ou, ov, nu, ap1Xu, ap5Xu, aqXu, nv, ap1Xv, ap5Xv, aqXv, auXv, lE⟩ := hP
        have hvb := hvb0.le lE
        have hvs := hvs0.le lE
        have hvc := hvc0.le lE
        try simp only [g11L29]
        skip
        have hok : runP b s r c l st := by first | assumption | exact ⟨by assumption, by assumption⟩ | exact ⟨by assumption, by omega⟩
        exact keq (K := K) (by rw [decide_eq_true (show (runP b s r c l st) from by exact hok)]) (hk  v _ (Own.cast (show caL rnd b s r c l st.toNat = selL (runP b s r c l st) (caL rnd b s r c l st.toNat) by exact (selL_t hok).symm) ov) nv  lE)
      refine ⟨fun n' σ' H' => ∃ i : Nat, n' = st.toNat - i ∧ i ≤ st.toNat ∧ ∃ u, ∃ v, σ' 2 = (.bool (rnd)) ∧ σ' 3 = (.int .i64 (st - (i : Int))) ∧ σ' 4 = p1 ∧ σ' 10 = q ∧ σ' 11 = v ∧ Cel H' p1 [vb, vs] ∧ Cel H' p5 [(.int .i64 (r)), (.int .i64 (c)), vc] ∧ Cel H' q [(.int .i64 (r)), (.int .i64 (c)), u] ∧ Own eI H' u (rnL rnd b s r c l i) ∧ Own eI H' v (caL rnd b s r c l i) ∧ Nw H u ∧ Apart p1 u ∧ Apart p5 u ∧ Apart q u ∧ Nw H v ∧ Apart p1 v ∧ Apart p5 v ∧ Apart q v ∧ Apart u v ∧ Le H H',
        ⟨_, 0, rfl, by omega, u15, u24, rfl, (congrArg (Value.int .i64) (by first | omega | rfl | (simp; done))), rfl, rfl, rfl, op1, op5, oq, (Own.cast (by first | rfl | (simp; done)) ou15), (Own.cast (by first | rfl | (simp; done)) ou24), nu15, ap1Xu15, ap5Xu15, au15Xq.symm, nu24, ap1Xu24, ap5Xu24, aqXu24, au15Xu24, lE⟩, ?_⟩
      rintro n30 σ30 H30 ⟨i, rfl, hiN, u, v, g2L30, g3L30, g4L30, g10L30, g11L30, op1, op5, oq, ou, ov, nu, ap1Xu, ap5Xu, aqXu, nv, ap1Xv, ap5Xv, aqXv, auXv, lE⟩
      have hvb := hvb0.le lE
      have hvs := hvs0.le lE
      have hvc := hvc0.le lE
      try simp only [g2L30, g3L30, g4L30, g10L30, g11L30]
      have hfi : fieldN 1 r c (rnL rnd b s r c l i) := rnL_field hf i
      have hli := fieldN_len hfi
      have hfn : fieldN 1 r c (nxL rnd b s r c (rnL rnd b s r c l i)) := nxL_field hf.1
      have hln := fieldN_len hfn
      have hci := caL_len rnd b s r c l i
      refine ob_i (vInt_gtr _ _ _) ?_
      refine cnd_d (fun hg31 => ?_) (fun hg31 => ?_)
      · skip
        have ti := hg31
        refine C.spec_l04Next op1 oq hvb hvs ou.sl (by first | omega | assumption) (by first | omega | assumption) (by first | omega | assumption) (fun  u34 H32 ou34 nn35  le33 => ?_)
        have ap1Xu34 : Apart p1 u34 := op1.apart nn35
        have ap5Xu34 : Apart p5 u34 := op5.apart nn35
        have aqXu34 : Apart q u34 := oq.apart nn35
        have auXu34 : Apart u u34 := ou.apart nn35
        have avXu34 : Apart v u34 := ov.apart nn35
        have nu34 : Nw H u34 := nn35.le lE
        replace op1 := op1.le le33
        replace op5 := op5.le le33
        replace oq := oq.le le33
        replace ou := ou.le le33
        replace ov := ov.le le33
        replace hvb := hvb.le le33
        replace hvs := hvs.le le33
        replace hvc := hvc.le le33
        replace lE := lE.trans le33
        refine oq.stn (ws := [(.int .i64 (r)), (.int .i64 (c)), u34]) rfl rfl (oc1 rfl (oc1 rfl (oc1 ou34.one oc0))) (fun H36 oq off37 => ?_)
        replace op1 := op1.off off37 ap1Xq
        replace op5 := op5.off off37 ap5Xq
        replace ou := ou.off off37 aqXu.symm
        replace ov := ov.off off37 aqXv.symm
        replace ou34 := ou34.off off37 aqXu34.symm
        replace hvb := hvb0.le (off37.le lE nq)
        replace hvs := hvs0.le (off37.le lE nq)
        replace hvc := hvc0.le (off37.le lE nq)
        replace lE := off37.le lE nq
        replace oq : Cel H36 q [(.int .i64 (r)), (.int .i64 (c)), u34] := oq
        refine C.spec_l05Ones oq ou34.sl (by first | omega | assumption) (fun   H38    le39 => ?_)
        replace op1 := op1.le le39
        replace op5 := op5.le le39
        replace oq := oq.le le39
        replace ou := ou.le le39
        replace ov := ov.le le39
        replace ou34 := ou34.le le39
        replace hvb := hvb.le le39
        replace hvs := hvs.le le39
        replace hvc := hvc.le le39
        replace lE := lE.trans le39
        refine bS_i (enc := eI) (l := [cntE 1 (nxL rnd b s r c (rnL rnd b s r c l i))]) (by omega) rfl (by kernel_rfl) (fun u40 H41 ou40 nn42 le44 => ?_)
        have ap1Xu40 : Apart p1 u40 := op1.apart nn42
        have ap5Xu40 : Apart p5 u40 := op5.apart nn42
        have aqXu40 : Apart q u40 := oq.apart nn42
        have auXu40 : Apart u u40 := ou.apart nn42
        have avXu40 : Apart v u40 := ov.apart nn42
        have au34Xu40 : Apart u34 u40 := ou34.apart nn42
        have nu40 : Nw H u40 := nn42.le lE
        replace op1 := op1.le le44
        replace op5 := op5.le le44
        replace oq := oq.le le44
        replace ou := ou.le le44
        replace ov := ov.le le44
        replace ou34 := ou34.le le44
        replace hvb := hvb.le le44
        replace hvs := hvs.le le44
        replace hvc := hvc.le le44
        replace lE := lE.trans le44
        refine apd_any ov ou40.sl (fun _ => rfl) (by omega) (by first | omega | (simp only [List.length_cons, List.length_nil, List.length_append, List.length_replicate, List.length_map, List.length_range]; omega)) (fun u48 H45 ou48 off46 hb47 => ?_)
        have ap1Xu48 : Apart p1 u48 := Apart.ap2 op1.known ap1Xv hb47
        have ap5Xu48 : Apart p5 u48 := Apart.ap2 op5.known ap5Xv hb47
        have aqXu48 : Apart q u48 := Apart.ap2 oq.known aqXv hb47
        have auXu48 : Apart u u48 := Apart.ap2 ou.known auXv hb47
        have au34Xu48 : Apart u34 u48 := Apart.ap2 ou34.known avXu34.symm hb47
        have au40Xu48 : Apart u40 u48 := Apart.ap2 ou40.known avXu40.symm hb47
        have nu48 : Nw H u48 := Nw.ap2 nv lE hb47
        replace op1 := op1.off off46 ap1Xv
        replace op5 := op5.off off46 ap5Xv
        replace oq := oq.off off46 aqXv
        replace ou := ou.off off46 auXv
        replace ou34 := ou34.off off46 avXu34.symm
        replace ou40 := ou40.off off46 avXu40.symm
        replace hvb := hvb0.le (off46.le lE nv)
        replace hvs := hvs0.le (off46.le lE nv)
        replace hvc := hvc0.le (off46.le lE nv)
        replace lE := off46.le lE nv
        refine ob_i (vInt_sub (by omega) (by omega)) ?_
        exact nxt (st.toNat - (i + 1)) (by omega) ⟨i + 1, rfl, by omega, u34, u48, g2L30, (congrArg (Value.int .i64) (by first | omega | rfl | (simp; done))), g4L30, g10L30, rfl, op1, op5, oq, ou34, (by rw [← caL_succ]; exact ou48), nu34, ap1Xu34, ap5Xu34, aqXu34, nu48, ap1Xu48, ap5Xu48, aqXu48, au34Xu48, lE⟩
      · skip
        have ti := hg31
        rw [show i = st.toNat by omega] at ov ou
        exact hJ29 _ _ ⟨u, v, g11L30, op1, op5, oq, ou, ov, nu, ap1Xu, ap5Xu, aqXu, nv, ap1Xv, ap5Xv, aqXv, auXv, lE⟩
    · skip
      refine ob_i (vPick_f _ _) ?_
      refine cnd_t1 ?_
      skip
      have hok : ¬ (runP b s r c l st) := by intro h; first | exact absurd h.1 (by assumption) | exact absurd h.2 (by assumption) | (have := h.2; omega)
      exact keq (K := K) (by rw [decide_eq_false (show ¬ (runP b s r c l st) from by exact hok)]) (hk  (.slice none 0 0) _ (Own.cast (show [] = selL (runP b s r c l st) (caL rnd b s r c l st.toNat) by exact (selL_f hok).symm) (Own.nil_of none)) (fun b hb => by simp [bk] at hb)  lE)
  · skip
    refine gop_st ?_
    refine gop_st ?_
    refine gop_st ?_
    refine ob_i (vPick_t _ _) ?_
    refine cnd_t1 ?_
    skip
    have hok : ¬ (runP b s r c l st) := by intro h; first | exact absurd h.1 (by assumption) | exact absurd h.2 (by assumption) | (have := h.2; omega)
    exact keq (K := K) (by rw [decide_eq_false (show ¬ (runP b s r c l st) from by exact hok)]) (hk  (.slice none 0 0) _ (Own.cast (show [] = selL (runP b s r c l st) (caL rnd b s r c l st.toNat) by exact (selL_f hok).symm) (Own.nil_of none)) (fun b hb => by simp [bk] at hb)  lE)
theorem C.impl_CountsAhead {vb vs vc : Value} {r c st : Int} {rnd : Bool} {b : List Int} {s : List Int} {l : List Int}  {H : Hp} {K : Value → Hp → Prop} (hvb0 : Sl eI H vb b) (hvs0 : Sl eI H vs s) (hvc0 : Sl eI H vc l) (kb : b.length ≤ 9223372036854775807) (ks : s.length ≤ 9223372036854775807) (k1 : l.length ≤ 9223372036854775807)
    (hk : ∀ u1 H', Own eI H' u1 (selL (runP b s r c l st) (caL rnd b s r c l st.toNat)) → Nw H u1 → Le H H' → K (.tuple #[u1, (.bool (decide (runP b s r c l st)))]) H') : HT prg I.impl_CountsAhead [(.agg #[vb, vs]), (.agg #[(.int .i64 (r)), (.int .i64 (c)), vc]), (.bool (rnd)), (.int .i64 (st))].toArray H K := by
  have lE := Le.refl H
  have hvb := hvb0
  have hvs := hvs0
  have hvc := hvc0
  refine R.impl_CountsAhead ?_
  unfold F.impl_CountsAhead
  refine nw_i (fun p1 H2 op1 nn3 le4 => ?_)
  have np1 : Nw H p1 := nn3.le lE
  replace hvb := hvb.le le4
  replace hvs := hvs.le le4
  replace hvc := hvc.le le4
  replace lE := lE.trans le4
  replace op1 : Cel H2 p1 [vb, vs] := op1
  refine nw_i (fun q H5 oq nn6 le7 => ?_)
  have ap1Xq : Apart p1 q := op1.apart nn6
  have nq : Nw H q := nn6.le lE
  replace op1 := op1.le le7
  replace hvb := hvb.le le7
  replace hvs := hvs.le le7
  replace hvc := hvc.le le7
  replace lE := lE.trans le7
  replace oq : Cel H5 q [(.int .i64 (r)), (.int .i64 (c)), vc] := oq
  refine ob_i (op1.ldn rfl) ?_
  refine ob_i (oq.ldn rfl) ?_
  refine bSE_one (enc := encFv) (x := (⟨r, c, vc⟩ : Fv)) rfl rfl (by omega) (by omega) rfl (fun u8 H9 ou8 nn10 le12 => ?_) rfl
  have ap1Xu8 : Apart p1 u8 := op1.apart nn10
  have aqXu8 : Apart q u8 := oq.apart nn10
  have nu8 : Nw H u8 := nn10.le lE
  replace op1 := op1.le le12
  replace oq := oq.le le12
  replace hvb := hvb.le le12
  replace hvs := hvs.le le12
  replace hvc := hvc.le le12
  replace lE := lE.trans le12
  refine C.impl_lives hvb hvs hvc (ou8.sl encFv_n) (by first | omega | assumption) (by first | omega | assumption) (by first | omega | assumption) (fun   H13    le14 => ?_)
  replace op1 := op1.le le14
  replace oq := oq.le le14
  replace ou8 := ou8.le le14
  replace hvb := hvb.le le14
  replace hvs := hvs.le le14
  replace hvc := hvc.le le14
  replace lE := lE.trans le14
  refine ob_nd (fun hc15 => ?_) (fun hc15 => ?_)
  · skip
    have hf := hc15.2
    have l1 := fieldN_len hf
    have hs := hf.1
    have hl := hf.2.1
    have q1 := hs.1
    have q2 := hs.2
    have qm := sidesF_mul hs
    refine gop_rf ?_
    refine gop_rf ?_
    refine C.impl_within  ?_
    refine gop_rf ?_
    refine ob_nd (fun hc16 => ?_) (fun hc16 => ?_)
    · skip
      refine ob_i (vPick_f _ _) ?_
      refine cnd_f1 ?_
      refine ob_i (oq.ldn rfl) ?_
      refine C.impl_Field_count hvc (by first | omega | assumption) (fun   H17    le18 => ?_)
      replace op1 := op1.le le18
      replace oq := oq.le le18
      replace ou8 := ou8.le le18
      replace hvb := hvb.le le18
      replace hvs := hvs.le le18
      replace hvc := hvc.le le18
      replace lE := lE.trans le18
      refine bS_i (enc := eI) (l := [cntE 1 l]) (by omega) rfl (by kernel_rfl) (fun u19 H20 ou19 nn21 le23 => ?_)
      have ap1Xu19 : Apart p1 u19 := op1.apart nn21
      have aqXu19 : Apart q u19 := oq.apart nn21
      have au8Xu19 : Apart u8 u19 := ou8.apart nn21
      have nu19 : Nw H u19 := nn21.le lE
      replace op1 := op1.le le23
      replace oq := oq.le le23
      replace ou8 := ou8.le le23
      replace hvb := hvb.le le23
      replace hvs := hvs.le le23
      replace hvc := hvc.le le23
      replace lE := lE.trans le23
      refine jn_i (fun σ' H' => ∃ u, ∃ v, σ' 10 = v ∧ Cel H' p1 [vb, vs] ∧ Cel H' q [(.int .i64 (r)), (.int .i64 (c)), u] ∧ OwnE 3 encFv H' u8 ([⟨r, c, vc⟩]) ∧ Ro eI H' u (rnL rnd b s r c l st.toNat) ∧ Own eI H' v (caL rnd b s r c l st.toNat) ∧ Apart p1 u ∧ Apart q u ∧ Apart u8 u ∧ Nw H v ∧ Apart p1 v ∧ Apart q v ∧ Apart u8 v ∧ Apart u v ∧ Le H H') (fun σ24 H24 hP => ?_) (fun J24 hJ24 => ?_)
      · skip
        obtain ⟨u, v, g10L24, op1, oq, ou8, ou, ov, ap1Xu, aqXu, au8Xu, nv, ap1Xv, aqXv, au8Xv, auXv, lE⟩ := hP
        have hvb := hvb0.le lE
        have hvs := hvs0.le lE
        have hvc := hvc0.le lE
        try simp only [g10L24]
        skip
        have hok : runP b s r c l st := by first | assumption | exact ⟨by assumption, by assumption⟩ | exact ⟨by assumption, by omega⟩
        exact keq (K := K) (by rw [decide_eq_true (show (runP b s r c l st) from by exact hok)]) (hk  v _ (Own.cast (show caL rnd b s r c l st.toNat = selL (runP b s r c l st) (caL rnd b s r c l st.toNat) by exact (selL_t hok).symm) ov) nv  lE)
      refine ⟨fun n' σ' H' => ∃ i : Nat, n' = st.toNat - i ∧ i ≤ st.toNat ∧ ∃ u, ∃ v, σ' 2 = (.bool (rnd)) ∧ σ' 4 = p1 ∧ σ' 5 = q ∧ σ' 10 = v ∧ σ' 24 = (.int .i64 (st)) ∧ σ' 25 = (.int .i64 ((i : Int))) ∧ Cel H' p1 [vb, vs] ∧ Cel H' q [(.int .i64 (r)), (.int .i64 (c)), u] ∧ OwnE 3 encFv H' u8 ([⟨r, c, vc⟩]) ∧ Ro eI H' u (rnL rnd b s r c l i) ∧ Own eI H' v (caL rnd b s r c l i) ∧ Apart p1 u ∧ Apart q u ∧ Apart u8 u ∧ Nw H v ∧ Apart p1 v ∧ Apart q v ∧ Apart u8 v ∧ Apart u v ∧ Le H H',
        ⟨_, 0, rfl, by omega, vc, u19, rfl, rfl, rfl, rfl, rfl, (congrArg (Value.int .i64) (by first | omega | rfl | (simp; done))), op1, oq, ou8, (Ro.cast (by first | rfl | (simp; done)) (Ro.of_sl hvc (by omega))), (Own.cast (by first | rfl | (simp; done)) ou19), ((Ro.of_sl hvc0 (by omega)).apart np1).symm, ((Ro.of_sl hvc0 (by omega)).apart nq).symm, ((Ro.of_sl hvc0 (by omega)).apart nu8).symm, nu19, ap1Xu19, aqXu19, au8Xu19, ((Ro.of_sl hvc0 (by omega)).apart nu19), lE⟩, ?_⟩
      rintro n25 σ25 H25 ⟨i, rfl, hiN, u, v, g2L25, g4L25, g5L25, g10L25, g24L25, g25L25, op1, oq, ou8, ou, ov, ap1Xu, aqXu, au8Xu, nv, ap1Xv, aqXv, au8Xv, auXv, lE⟩
      have hvb := hvb0.le lE
      have hvs := hvs0.le lE
      have hvc := hvc0.le lE
      try simp only [g2L25, g4L25, g5L25, g10L25, g24L25, g25L25]
      have hfi : fieldN 1 r c (rnL rnd b s r c l i) := rnL_field hf i
      have hli := fieldN_len hfi
      have hfn : fieldN 1 r c (nxL rnd b s r c (rnL rnd b s r c l i)) := nxL_field hf.1
      have hln := fieldN_len hfn
      have hci := caL_len rnd b s r c l i
      refine ob_i (vInt_lss _ _ _) ?_
      refine cnd_d (fun hg26 => ?_) (fun hg26 => ?_)
      · skip
        have ti := hg26
        refine ob_i (op1.ldn rfl) ?_
        refine ob_i (oq.ldn rfl) ?_
        refine C.impl_Life_step hvb hvs ou.sl (by first | omega | assumption) (by first | omega | assumption) (by first | omega | assumption) (fun  u29 H27 ou29 nn30  le28 => ?_)
        have ap1Xu29 : Apart p1 u29 := op1.apart nn30
        have aqXu29 : Apart q u29 := oq.apart nn30
        have au8Xu29 : Apart u8 u29 := ou8.apart nn30
        have auXu29 : Apart u u29 := ou.apart nn30
        have avXu29 : Apart v u29 := ov.apart nn30
        have nu29 : Nw H u29 := nn30.le lE
        replace op1 := op1.le le28
        replace oq := oq.le le28
        replace ou8 := ou8.le le28
        replace ou := ou.le le28
        replace ov := ov.le le28
        replace hvb := hvb.le le28
        replace hvs := hvs.le le28
        replace hvc := hvc.le le28
        replace lE := lE.trans le28
        refine oq.stn (ws := [(.int .i64 (r)), (.int .i64 (c)), u29]) rfl rfl (oc1 rfl (oc1 rfl (oc1 ou29.one oc0))) (fun H31 oq off32 => ?_)
        replace op1 := op1.off off32 ap1Xq
        replace ou8 := ou8.off off32 aqXu8.symm
        replace ou := ou.off off32 aqXu.symm
        replace ov := ov.off off32 aqXv.symm
        replace ou29 := ou29.off off32 aqXu29.symm
        replace hvb := hvb0.le (off32.le lE nq)
        replace hvs := hvs0.le (off32.le lE nq)
        replace hvc := hvc0.le (off32.le lE nq)
        replace lE := off32.le lE nq
        replace oq : Cel H31 q [(.int .i64 (r)), (.int .i64 (c)), u29] := oq
        refine ob_i (oq.ldn rfl) ?_
        refine C.impl_Field_count ou29.sl (by first | omega | assumption) (fun   H33    le34 => ?_)
        replace op1 := op1.le le34
        replace oq := oq.le le34
        replace ou8 := ou8.le le34
        replace ou := ou.le le34
        replace ov := ov.le le34
        replace ou29 := ou29.le le34
        replace hvb := hvb.le le34
        replace hvs := hvs.le le34
        replace hvc := hvc.le le34
        replace lE := lE.trans le34
        refine bS_i (enc := eI) (l := [cntE 1 (nxL rnd b s r c (rnL rnd b s r c l i))]) (by omega) rfl (by kernel_rfl) (fun u35 H36 ou35 nn37 le39 => ?_)
        have ap1Xu35 : Apart p1 u35 := op1.apart nn37
        have aqXu35 : Apart q u35 := oq.apart nn37
        have au8Xu35 : Apart u8 u35 := ou8.apart nn37
        have auXu35 : Apart u u35 := ou.apart nn37
        have avXu35 : Apart v u35 := ov.apart nn37
        have au29Xu35 : Apart u29 u35 := ou29.apart nn37
        have nu35 : Nw H u35 := nn37.le lE
        replace op1 := op1.le le39
        replace oq := oq.le le39
        replace ou8 := ou8.le le39
        replace ou := ou.le le39
        replace ov := ov.le le39
        replace ou29 := ou29.le le39
        replace hvb := hvb.le le39
        replace hvs := hvs.le le39
        replace hvc := hvc.le le39
        replace lE := lE.trans le39
        refine apd_any ov ou35.sl (fun _ => rfl) (by omega) (by first | omega | (simp only [List.length_cons, List.length_nil, List.length_append, List.length_replicate, List.length_map, List.length_range]; omega)) (fun u43 H40 ou43 off41 hb42 => ?_)
        have ap1Xu43 : Apart p1 u43 := Apart.ap2 op1.known ap1Xv hb42
        have aqXu43 : Apart q u43 := Apart.ap2 oq.known aqXv hb42
        have au8Xu43 : Apart u8 u43 := Apart.ap2 ou8.known au8Xv hb42
        have auXu43 : Apart u u43 := Apart.ap2 ou.known auXv hb42
        have au29Xu43 : Apart u29 u43 := Apart.ap2 ou29.known avXu29.symm hb42
        have au35Xu43 : Apart u35 u43 := Apart.ap2 ou35.known avXu35.symm hb42
        have nu43 : Nw H u43 := Nw.ap2 nv lE hb42
        replace op1 := op1.off off41 ap1Xv
        replace oq := oq.off off41 aqXv
        replace ou8 := ou8.off off41 au8Xv
        replace ou := ou.off off41 auXv
        replace ou29 := ou29.off off41 avXu29.symm
        replace ou35 := ou35.off off41 avXu35.symm
        replace hvb := hvb0.le (off41.le lE nv)
        replace hvs := hvs0.le (off41.le lE nv)
        replace hvc := hvc0.le (off41.le lE nv)
        replace lE := off41.le lE nv
        refine ob_i (vInt_add (by omega) (by omega)) ?_
        exact nxt (st.toNat - (i + 1)) (by omega) ⟨i + 1, rfl, by omega, u29, u43, g2L25, g4L25, g5L25, rfl, g24L25, (congrArg (Value.int .i64) (by first | omega | rfl | (simp; done))), op1, oq, ou8, ou29.ro, (by rw [← caL_succ]; exact ou43), ap1Xu29, aqXu29, au8Xu29, nu43, ap1Xu43, aqXu43, au8Xu43, au29Xu43, lE⟩
      · skip
        have ti := hg26
        rw [show i = st.toNat by omega] at ov ou
        exact hJ24 _ _ ⟨u, v, g10L25, op1, oq, ou8, ou, ov, ap1Xu, aqXu, au8Xu, nv, ap1Xv, aqXv, au8Xv, auXv, lE⟩
    · skip
      refine ob_i (vPick_f _ _) ?_
      refine cnd_t1 ?_
      skip
      have hok : ¬ (runP b s r c l st) := by intro h; first | exact absurd h.1 (by assumption) | exact absurd h.2 (by assumption) | (have := h.2; omega)
      exact keq (K := K) (by rw [decide_eq_false (show ¬ (runP b s r c l st) from by exact hok)]) (hk  (.slice none 0 0) _ (Own.cast (show [] = selL (runP b s r c l st) (caL rnd b s r c l st.toNat) by exact (selL_f hok).symm) (Own.nil_of none)) (fun b hb => by simp [bk] at hb)  lE)
  · skip
    refine gop_st ?_
    refine gop_st ?_
    refine gop_st ?_
    refine ob_i (vPick_t _ _) ?_
    refine cnd_t1 ?_
    skip
    have hok : ¬ (runP b s r c l st) := by intro h; first | exact absurd h.1 (by assumption) | exact absurd h.2 (by assumption) | (have := h.2; omega)
    exact keq (K := K) (by rw [decide_eq_false (show ¬ (runP b s r c l st) from by exact hok)]) (hk  (.slice none 0 0) _ (Own.cast (show [] = selL (runP b s r c l st) (caL rnd b s r c l st.toNat) by exact (selL_f hok).symm) (Own.nil_of none)) (fun b hb => by simp [bk] at hb)  lE)
theorem caP_len {rnd : Bool} {b s : List Int} {r c : Int} {l : List Int} {n : Int} : (selL (runP b s r c l n) (caL rnd b s r c l n.toNat)).length ≤ 600 := selL_len fun h => by rw [caL_len]; have := h.2; omega
theorem C.spec_l05Square {p vc : Value} {r c : Int} {l : List Int}  {H : Hp} {K : Value → Hp → Prop} (hp0 : Cel H p [(.int .i64 (r)), (.int .i64 (c)), vc]) (hvc0 : Sl eI H vc l) (k1 : l.length ≤ 9223372036854775807)
    (hk : ∀ H', Le H H' → K (.bool (decide (sqP r c l))) H') : HT prg I.spec_l05Square [p].toArray H K := by
  have lE := Le.refl H
  have hp := hp0
  have hvc := hvc0
  refine R.spec_l05Square ?_
  unfold F.spec_l05Square
  refine C.spec_l04Plain hp hvc (by first | omega | assumption) ?_
  refine ⟨Le.refl _, ?_⟩
  by_cases hc1 : fieldN 1 r c l
  · skip
    refine gop_e (decide_eq_true hc1) ?_
    refine gop_rt ?_
    refine gop_e (decide_eq_true hc1) ?_
    refine gop_rt ?_
    refine ob_i (hp.nilC) ?_
    refine gop_e (decide_eq_true hc1) ?_
    refine gop_rt ?_
    refine ob_i (hp.fa 0) ?_
    refine gop_e (decide_eq_true hc1) ?_
    refine gop_rt ?_
    refine ob_i (hp.ld 0 rfl) ?_
    refine gop_e (decide_eq_true hc1) ?_
    refine gop_rt ?_
    refine gop_e (decide_eq_true hc1) ?_
    refine gop_rt ?_
    refine ob_i (hp.nilC) ?_
    refine gop_e (decide_eq_true hc1) ?_
    refine gop_rt ?_
    refine ob_i (hp.fa 1) ?_
    refine gop_e (decide_eq_true hc1) ?_
    refine gop_rt ?_
    refine ob_i (hp.ld 1 rfl) ?_
    refine gop_e (decide_eq_true hc1) ?_
    refine gop_rt ?_
    refine ob_i (vInt_eql _ _ _) ?_
    refine ob_i (vPick_et (decide_eq_true hc1) _ _) ?_
    by_cases hc2 : r = c
    · skip
      refine gop_e (decide_eq_true hc2) ?_
      refine gop_rt ?_
      refine gop_e (decide_eq_true hc2) ?_
      refine gop_rt ?_
      refine ob_i (hp.nilC) ?_
      refine gop_e (decide_eq_true hc2) ?_
      refine gop_rt ?_
      refine ob_i (hp.fa 0) ?_
      refine gop_e (decide_eq_true hc2) ?_
      refine gop_rt ?_
      refine ob_i (hp.ld 0 rfl) ?_
      refine gop_e (decide_eq_true hc2) ?_
      refine gop_rt ?_
      refine ob_i (vInt_eql _ _ _) ?_
      refine gop_e (decide_eq_true hc2) ?_
      refine gop_rt ?_
      by_cases hc3 : r = 4
      · skip
        refine gop_e (decide_eq_true hc3) ?_
        refine gop_st ?_
        refine gop_e (decide_eq_true hc3) ?_
        refine gop_st ?_
        refine gop_e (decide_eq_true hc3) ?_
        refine gop_st ?_
        refine gop_e (decide_eq_true hc3) ?_
        refine gop_st ?_
        refine gop_e (decide_eq_true hc3) ?_
        refine gop_st ?_
        refine gop_e (decide_eq_true hc2) ?_
        refine gop_rt ?_
        refine ob_i (vPick_et (decide_eq_true hc3) _ _) ?_
        refine gop_e (decide_eq_true hc2) ?_
        refine gop_rt ?_
        refine gop_st ?_
        refine gop_st ?_
        refine gop_st ?_
        refine gop_st ?_
        refine gop_st ?_
        refine gop_e (decide_eq_true hc2) ?_
        refine gop_rt ?_
        refine ob_i (vPick_t _ _) ?_
        refine ob_i (vPick_et (decide_eq_true hc2) _ _) ?_
        skip
        exact keq (K := K) (by rw [decide_eq_true (show (sqP r c l) from by exact ⟨by assumption, by omega⟩)]) (hk   _    lE)
      · skip
        refine gop_e (decide_eq_false hc3) ?_
        refine gop_rf ?_
        refine gop_e (decide_eq_false hc3) ?_
        refine gop_rf ?_
        refine ob_i (hp.nilC) ?_
        refine gop_e (decide_eq_false hc3) ?_
        refine gop_rf ?_
        refine ob_i (hp.fa 0) ?_
        refine gop_e (decide_eq_false hc3) ?_
        refine gop_rf ?_
        refine ob_i (hp.ld 0 rfl) ?_
        refine gop_e (decide_eq_false hc3) ?_
        refine gop_rf ?_
        refine ob_i (vInt_eql _ _ _) ?_
        refine gop_e (decide_eq_true hc2) ?_
        refine gop_rt ?_
        refine ob_i (vPick_ef (decide_eq_false hc3) _ _) ?_
        refine gop_e (decide_eq_true hc2) ?_
        refine gop_rt ?_
        by_cases hc4 : r = 8
        · skip
          refine gop_e (decide_eq_true hc4) ?_
          refine gop_st ?_
          refine gop_e (decide_eq_true hc4) ?_
          refine gop_st ?_
          refine gop_e (decide_eq_true hc4) ?_
          refine gop_st ?_
          refine gop_e (decide_eq_true hc4) ?_
          refine gop_st ?_
          refine gop_e (decide_eq_true hc4) ?_
          refine gop_st ?_
          refine gop_e (decide_eq_true hc2) ?_
          refine gop_rt ?_
          refine ob_i (vPick_et (decide_eq_true hc4) _ _) ?_
          refine ob_i (vPick_et (decide_eq_true hc2) _ _) ?_
          skip
          exact keq (K := K) (by rw [decide_eq_true (show (sqP r c l) from by exact ⟨by assumption, by omega⟩)]) (hk   _    lE)
        · skip
          refine gop_e (decide_eq_false hc4) ?_
          refine gop_rf ?_
          refine gop_e (decide_eq_false hc4) ?_
          refine gop_rf ?_
          refine ob_i (hp.nilC) ?_
          refine gop_e (decide_eq_false hc4) ?_
          refine gop_rf ?_
          refine ob_i (hp.fa 0) ?_
          refine gop_e (decide_eq_false hc4) ?_
          refine gop_rf ?_
          refine ob_i (hp.ld 0 rfl) ?_
          refine gop_e (decide_eq_false hc4) ?_
          refine gop_rf ?_
          refine ob_i (vInt_eql _ _ _) ?_
          refine gop_e (decide_eq_true hc2) ?_
          refine gop_rt ?_
          refine ob_i (vPick_ef (decide_eq_false hc4) _ _) ?_
          refine ob_i (vPick_et (decide_eq_true hc2) _ _) ?_
          skip
          exact keq (K := K) (by rw [show decide (r = 16) = decide (sqP r c l) from decide_eq_decide.mpr (by exact ⟨fun h => ⟨by assumption, by omega⟩, fun h => by have := h.2; omega⟩)]) (hk   _    lE)
    · skip
      refine gop_e (decide_eq_false hc2) ?_
      refine gop_sf ?_
      refine gop_e (decide_eq_false hc2) ?_
      refine gop_sf ?_
      refine gop_e (decide_eq_false hc2) ?_
      refine gop_sf ?_
      refine gop_e (decide_eq_false hc2) ?_
      refine gop_sf ?_
      refine gop_e (decide_eq_false hc2) ?_
      refine gop_sf ?_
      refine gop_e (decide_eq_false hc2) ?_
      refine gop_sf ?_
      refine gop_u ?_
      refine gop_u ?_
      refine gop_u ?_
      refine gop_u ?_
      refine gop_u ?_
      refine gop_e (decide_eq_false hc2) ?_
      refine gop_sf ?_
      refine gop_e (decide_eq_false hc2) ?_
      refine gop_sf ?_
      refine gop_u ?_
      refine gop_u ?_
      refine gop_u ?_
      refine gop_u ?_
      refine gop_u ?_
      refine gop_e (decide_eq_false hc2) ?_
      refine gop_sf ?_
      refine ob_i (vPick_ef (decide_eq_false hc2) _ _) ?_
      skip
      exact keq (K := K) (by rw [decide_eq_false (show ¬ (sqP r c l) from by intro h; have h1 := h.1; have h2 := h.2; first | contradiction | omega)]) (hk   _    lE)
  · skip
    refine gop_e (decide_eq_false hc1) ?_
    refine gop_sf ?_
    refine gop_e (decide_eq_false hc1) ?_
    refine gop_sf ?_
    refine gop_e (decide_eq_false hc1) ?_
    refine gop_sf ?_
    refine gop_e (decide_eq_false hc1) ?_
    refine gop_sf ?_
    refine gop_e (decide_eq_false hc1) ?_
    refine gop_sf ?_
    refine gop_e (decide_eq_false hc1) ?_
    refine gop_sf ?_
    refine gop_e (decide_eq_false hc1) ?_
    refine gop_sf ?_
    refine gop_e (decide_eq_false hc1) ?_
    refine gop_sf ?_
    refine gop_e (decide_eq_false hc1) ?_
    refine gop_sf ?_
    refine ob_i (vPick_ef (decide_eq_false hc1) _ _) ?_
    refine gop_sf ?_
    refine gop_sf ?_
    refine gop_sf ?_
    refine gop_sf ?_
    refine gop_sf ?_
    refine gop_sf ?_
    refine gop_u ?_
    refine gop_u ?_
    refine gop_u ?_
    refine gop_u ?_
    refine gop_u ?_
    refine gop_sf ?_
    refine gop_sf ?_
    refine gop_u ?_
    refine gop_u ?_
    refine gop_u ?_
    refine gop_u ?_
    refine gop_u ?_
    refine gop_sf ?_
    refine ob_i (vPick_f _ _) ?_
    skip
    exact keq (K := K) (by rw [decide_eq_false (show ¬ (sqP r c l) from by intro h; have h1 := h.1; have h2 := h.2; first | contradiction | omega)]) (hk   _    lE)
theorem C.impl_isSquare {vc : Value} {r c : Int} {l : List Int}  {H : Hp} {K : Value → Hp → Prop} (hvc0 : Sl eI H vc l) (k1 : l.length ≤ 9223372036854775807)
    (hk : ∀ H', Le H H' → K (.bool (decide (sqP r c l))) H') : HT prg I.impl_isSquare [(.agg #[(.int .i64 (r)), (.int .i64 (c)), vc])].toArray H K := by
  have lE := Le.refl H
  have hvc := hvc0
  refine R.impl_isSquare ?_
  unfold F.impl_isSquare
  refine nw_i (fun p1 H2 op1 nn3 le4 => ?_)
  have np1 : Nw H p1 := nn3.le lE
  replace hvc := hvc.le le4
  replace lE := lE.trans le4
  replace op1 : Cel H2 p1 [(.int .i64 (r)), (.int .i64 (c)), vc] := op1
  refine ob_i (op1.ldn rfl) ?_
  refine C.impl_isPlain hvc (by first | omega | assumption) (fun   H5    le6 => ?_)
  replace op1 := op1.le le6
  replace hvc := hvc.le le6
  replace lE := lE.trans le6
  by_cases hc7 : fieldN 1 r c l
  · skip
    refine gop_e (decide_eq_true hc7) ?_
    refine gop_rt ?_
    refine ob_i (op1.fa 0) ?_
    refine gop_e (decide_eq_true hc7) ?_
    refine gop_rt ?_
    refine ob_i (op1.ld 0 rfl) ?_
    refine gop_e (decide_eq_true hc7) ?_
    refine gop_rt ?_
    refine ob_i (op1.fa 1) ?_
    refine gop_e (decide_eq_true hc7) ?_
    refine gop_rt ?_
    refine ob_i (op1.ld 1 rfl) ?_
    refine gop_e (decide_eq_true hc7) ?_
    refine gop_rt ?_
    refine ob_i (vInt_eql _ _ _) ?_
    refine ob_i (vPick_et (decide_eq_true hc7) _ _) ?_
    by_cases hc8 : r = c
    · skip
      refine gop_e (decide_eq_true hc8) ?_
      refine gop_rt ?_
      refine ob_i (op1.fa 0) ?_
      refine gop_e (decide_eq_true hc8) ?_
      refine gop_rt ?_
      refine ob_i (op1.ld 0 rfl) ?_
      refine gop_e (decide_eq_true hc8) ?_
      refine gop_rt ?_
      refine ob_i (vInt_eql _ _ _) ?_
      refine gop_e (decide_eq_true hc8) ?_
      refine gop_rt ?_
      by_cases hc9 : r = 4
      · skip
        refine gop_e (decide_eq_true hc9) ?_
        refine gop_st ?_
        refine gop_e (decide_eq_true hc9) ?_
        refine gop_st ?_
        refine gop_e (decide_eq_true hc9) ?_
        refine gop_st ?_
        refine gop_e (decide_eq_true hc8) ?_
        refine gop_rt ?_
        refine ob_i (vPick_et (decide_eq_true hc9) _ _) ?_
        refine gop_e (decide_eq_true hc8) ?_
        refine gop_rt ?_
        refine gop_st ?_
        refine gop_st ?_
        refine gop_st ?_
        refine gop_e (decide_eq_true hc8) ?_
        refine gop_rt ?_
        refine ob_i (vPick_t _ _) ?_
        refine ob_i (vPick_et (decide_eq_true hc8) _ _) ?_
        skip
        exact keq (K := K) (by rw [decide_eq_true (show (sqP r c l) from by exact ⟨by assumption, by omega⟩)]) (hk   _    lE)
      · skip
        refine gop_e (decide_eq_false hc9) ?_
        refine gop_rf ?_
        refine ob_i (op1.fa 0) ?_
        refine gop_e (decide_eq_false hc9) ?_
        refine gop_rf ?_
        refine ob_i (op1.ld 0 rfl) ?_
        refine gop_e (decide_eq_false hc9) ?_
        refine gop_rf ?_
        refine ob_i (vInt_eql _ _ _) ?_
        refine gop_e (decide_eq_true hc8) ?_
        refine gop_rt ?_
        refine ob_i (vPick_ef (decide_eq_false hc9) _ _) ?_
        refine gop_e (decide_eq_true hc8) ?_
        refine gop_rt ?_
        by_cases hc10 : r = 8
        · skip
          refine gop_e (decide_eq_true hc10) ?_
          refine gop_st ?_
          refine gop_e (decide_eq_true hc10) ?_
          refine gop_st ?_
          refine gop_e (decide_eq_true hc10) ?_
          refine gop_st ?_
          refine gop_e (decide_eq_true hc8) ?_
          refine gop_rt ?_
          refine ob_i (vPick_et (decide_eq_true hc10) _ _) ?_
          refine ob_i (vPick_et (decide_eq_true hc8) _ _) ?_
          skip
          exact keq (K := K) (by rw [decide_eq_true (show (sqP r c l) from by exact ⟨by assumption, by omega⟩)]) (hk   _    lE)
        · skip
          refine gop_e (decide_eq_false hc10) ?_
          refine gop_rf ?_
          refine ob_i (op1.fa 0) ?_
          refine gop_e (decide_eq_false hc10) ?_
          refine gop_rf ?_
          refine ob_i (op1.ld 0 rfl) ?_
          refine gop_e (decide_eq_false hc10) ?_
          refine gop_rf ?_
          refine ob_i (vInt_eql _ _ _) ?_
          refine gop_e (decide_eq_true hc8) ?_
          refine gop_rt ?_
          refine ob_i (vPick_ef (decide_eq_false hc10) _ _) ?_
          refine ob_i (vPick_et (decide_eq_true hc8) _ _) ?_
          skip
          exact keq (K := K) (by rw [show decide (r = 16) = decide (sqP r c l) from decide_eq_decide.mpr (by exact ⟨fun h => ⟨by assumption, by omega⟩, fun h => by have := h.2; omega⟩)]) (hk   _    lE)
    · skip
      refine gop_e (decide_eq_false hc8) ?_
      refine gop_sf ?_
      refine gop_e (decide_eq_false hc8) ?_
      refine gop_sf ?_
      refine gop_e (decide_eq_false hc8) ?_
      refine gop_sf ?_
      refine gop_e (decide_eq_false hc8) ?_
      refine gop_sf ?_
      refine gop_u ?_
      refine gop_u ?_
      refine gop_u ?_
      refine gop_e (decide_eq_false hc8) ?_
      refine gop_sf ?_
      refine gop_e (decide_eq_false hc8) ?_
      refine gop_sf ?_
      refine gop_u ?_
      refine gop_u ?_
      refine gop_u ?_
      refine gop_e (decide_eq_false hc8) ?_
      refine gop_sf ?_
      refine ob_i (vPick_ef (decide_eq_false hc8) _ _) ?_
      skip
      exact keq (K := K) (by rw [decide_eq_false (show ¬ (sqP r c l) from by intro h; have h1 := h.1; have h2 := h.2; first | contradiction | omega)]) (hk   _    lE)
  · skip
    refine gop_e (decide_eq_false hc7) ?_
    refine gop_sf ?_
    refine gop_e (decide_eq_false hc7) ?_
    refine gop_sf ?_
    refine gop_e (decide_eq_false hc7) ?_
    refine gop_sf ?_
    refine gop_e (decide_eq_false hc7) ?_
    refine gop_sf ?_
    refine gop_e (decide_eq_false hc7) ?_
    refine gop_sf ?_
    refine ob_i (vPick_ef (decide_eq_false hc7) _ _) ?_
    refine gop_sf ?_
    refine gop_sf ?_
    refine gop_sf ?_
    refine gop_sf ?_
    refine gop_u ?_
    refine gop_u ?_
    refine gop_u ?_
    refine gop_sf ?_
    refine gop_sf ?_
    refine gop_u ?_
    refine gop_u ?_
    refine gop_u ?_
    refine gop_sf ?_
    refine ob_i (vPick_f _ _) ?_
    skip
    exact keq (K := K) (by rw [decide_eq_false (show ¬ (sqP r c l) from by intro h; have h1 := h.1; have h2 := h.2; first | contradiction | omega)]) (hk   _    lE)
theorem C.spec_l05Inner {w p vb vs vc : Value} {r c : Int} {b : List Int} {s : List Int} {l : List Int}  {H : Hp} {K : Value → Hp → Prop} (hw0 : Cel H w [vb, vs]) (hp0 : Cel H p [(.int .i64 (r)), (.int .i64 (c)), vc]) (hvb0 : Sl eI H vb b) (hvs0 : Sl eI H vs s) (hvc0 : Sl eI H vc l) (hf : fieldN 1 r c l) (kb : b.length ≤ 9223372036854775807) (ks : s.length ≤ 9223372036854775807) (r3 : 3 ≤ r) (c3 : 3 ≤ c)
    (hk : ∀ u1 H', Own eI H' u1 (inL b s r c l) → Nw H u1 → Le H H' → K (.agg #[(.int .i64 (r - 2)), (.int .i64 (c - 2)), u1]) H') : HT prg I.spec_l05Inner [w, p].toArray H K := by
  have lE := Le.refl H
  have hw := hw0
  have hp := hp0
  have hvb := hvb0
  have hvs := hvs0
  have hvc := hvc0
  refine R.spec_l05Inner ?_
  unfold F.spec_l05Inner
  have hs := hf.1
  have hl := hf.2.1
  have q1 := hs.1
  have q2 := hs.2
  have qm := sidesF_mul hs
  have hfn : fieldN 1 r c (nxL false b s r c l) := nxL_field hs
  have hln := hfn.2.1
  refine nw_i (fun p1 H2 op1 nn3 le4 => ?_)
  have np1 : Nw H p1 := nn3.le lE
  replace hw := hw.le le4
  replace hp := hp.le le4
  replace hvb := hvb.le le4
  replace hvs := hvs.le le4
  replace hvc := hvc.le le4
  replace lE := lE.trans le4
  replace op1 : Cel H2 p1 [(.int .i64 (0)), (.int .i64 (0)), (.slice none 0 0)] := op1
  refine C.spec_l04Step hw hp hvb hvs hvc (by first | omega | assumption) (by first | omega | assumption) (by first | omega | assumption) (fun  u7 H5 ou7 nn8  le6 => ?_)
  have ap1Xu7 : Apart p1 u7 := op1.apart nn8
  have nu7 : Nw H u7 := nn8.le lE
  replace op1 := op1.le le6
  replace hw := hw.le le6
  replace hp := hp.le le6
  replace hvb := hvb.le le6
  replace hvs := hvs.le le6
  replace hvc := hvc.le le6
  replace lE := lE.trans le6
  refine nw_i (fun p9 H10 op9 nn11 le12 => ?_)
  have ap1Xp9 : Apart p1 p9 := op1.apart nn11
  have au7Xp9 : Apart u7 p9 := ou7.apart nn11
  have np9 : Nw H p9 := nn11.le lE
  replace op1 := op1.le le12
  replace ou7 := ou7.le le12
  replace hw := hw.le le12
  replace hp := hp.le le12
  replace hvb := hvb.le le12
  replace hvs := hvs.le le12
  replace hvc := hvc.le le12
  replace lE := lE.trans le12
  replace op9 : Cel H10 p9 [(.int .i64 (0)), (.int .i64 (0)), (.slice none 0 0)] := op9
  refine op9.stn (ws := [(.int .i64 (r)), (.int .i64 (c)), u7]) rfl rfl (oc1 rfl (oc1 rfl (oc1 ou7.one oc0))) (fun H13 op9 off14 => ?_)
  replace op1 := op1.off off14 ap1Xp9
  replace ou7 := ou7.off off14 au7Xp9
  replace hw := hw0.le (off14.le lE np9)
  replace hp := hp0.le (off14.le lE np9)
  replace hvb := hvb0.le (off14.le lE np9)
  replace hvs := hvs0.le (off14.le lE np9)
  replace hvc := hvc0.le (off14.le lE np9)
  replace lE := off14.le lE np9
  replace op9 : Cel H13 p9 [(.int .i64 (r)), (.int .i64 (c)), u7] := op9
  refine ob_i (hp.nilC) ?_
  refine ob_i (hp.fa 0) ?_
  refine ob_i (hp.ld 0 rfl) ?_
  refine ob_i (vInt_sub (by omega) (by omega)) ?_
  refine ob_i (hp.nilC) ?_
  refine ob_i (hp.fa 1) ?_
  refine ob_i (hp.ld 1 rfl) ?_
  refine ob_i (vInt_sub (by omega) (by omega)) ?_
  refine C.spec_l05Cut op9 ou7.sl (by first | omega | assumption) (by first | omega | assumption) (by first | omega | assumption) (by first | omega | assumption) (by first | omega | assumption) (by first | omega | assumption) (by first | omega | assumption) (by first | omega | assumption) (fun  u17 H15 ou17 nn18  le16 => ?_)
  have ap1Xu17 : Apart p1 u17 := op1.apart nn18
  have au7Xu17 : Apart u7 u17 := ou7.apart nn18
  have ap9Xu17 : Apart p9 u17 := op9.apart nn18
  have nu17 : Nw H u17 := nn18.le lE
  replace op1 := op1.le le16
  replace ou7 := ou7.le le16
  replace op9 := op9.le le16
  replace hw := hw.le le16
  replace hp := hp.le le16
  replace hvb := hvb.le le16
  replace hvs := hvs.le le16
  replace hvc := hvc.le le16
  replace lE := lE.trans le16
  refine ⟨le16, ?_⟩
  refine op1.stn (ws := [(.int .i64 ((r - 2))), (.int .i64 ((c - 2))), u17]) rfl rfl (oc1 rfl (oc1 rfl (oc1 ou17.one oc0))) (fun H19 op1 off20 => ?_)
  replace ou7 := ou7.off off20 ap1Xu7.symm
  replace op9 := op9.off off20 ap1Xp9.symm
  replace ou17 := ou17.off off20 ap1Xu17.symm
  replace hw := hw0.le (off20.le lE np1)
  replace hp := hp0.le (off20.le lE np1)
  replace hvb := hvb0.le (off20.le lE np1)
  replace hvs := hvs0.le (off20.le lE np1)
  replace hvc := hvc0.le (off20.le lE np1)
  replace lE := off20.le lE np1
  replace op1 : Cel H19 p1 [(.int .i64 ((r - 2))), (.int .i64 ((c - 2))), u17] := op1
  refine ob_i (op1.ldn rfl) ?_
  skip
  exact hk  u17 _ (Own.cast (show mkL (c - 2) (cutG c (nxL false b s r c l) 1 1) (((r - 2) : Int).toNat * ((c - 2) : Int).toNat) = inL b s r c l by first | rfl | simp) ou17) nu17  lE
theorem C.impl_Life_inner {vb vs vc : Value} {r c : Int} {b : List Int} {s : List Int} {l : List Int}  {H : Hp} {K : Value → Hp → Prop} (hvb0 : Sl eI H vb b) (hvs0 : Sl eI H vs s) (hvc0 : Sl eI H vc l) (hf : fieldN 1 r c l) (kb : b.length ≤ 9223372036854775807) (ks : s.length ≤ 9223372036854775807) (r3 : 3 ≤ r) (c3 : 3 ≤ c)
    (hk : ∀ u1 H', Own eI H' u1 (inL b s r c l) → Nw H u1 → Le H H' → K (.agg #[(.int .i64 (r - 2)), (.int .i64 (c - 2)), u1]) H') : HT prg I.impl_Life_inner [(.agg #[vb, vs]), (.agg #[(.int .i64 (r)), (.int .i64 (c)), vc])].toArray H K := by
  have lE := Le.refl H
  have hvb := hvb0
  have hvs := hvs0
  have hvc := hvc0
  refine R.impl_Life_inner ?_
  unfold F.impl_Life_inner
  have hs := hf.1
  have hl := hf.2.1
  have q1 := hs.1
  have q2 := hs.2
  have qm := sidesF_mul hs
  have hfn : fieldN 1 r c (nxL false b s r c l) := nxL_field hs
  have hln := hfn.2.1
  refine nw_i (fun p1 H2 op1 nn3 le4 => ?_)
  have np1 : Nw H p1 := nn3.le lE
  replace hvb := hvb.le le4
  replace hvs := hvs.le le4
  replace hvc := hvc.le le4
  replace lE := lE.trans le4
  replace op1 : Cel H2 p1 [vb, vs] := op1
  refine nw_i (fun p5 H6 op5 nn7 le8 => ?_)
  have ap1Xp5 : Apart p1 p5 := op1.apart nn7
  have np5 : Nw H p5 := nn7.le lE
  replace op1 := op1.le le8
  replace hvb := hvb.le le8
  replace hvs := hvs.le le8
  replace hvc := hvc.le le8
  replace lE := lE.trans le8
  replace op5 : Cel H6 p5 [(.int .i64 (r)), (.int .i64 (c)), vc] := op5
  refine nw_i (fun p9 H10 op9 nn11 le12 => ?_)
  have ap1Xp9 : Apart p1 p9 := op1.apart nn11
  have ap5Xp9 : Apart p5 p9 := op5.apart nn11
  have np9 : Nw H p9 := nn11.le lE
  replace op1 := op1.le le12
  replace op5 := op5.le le12
  replace hvb := hvb.le le12
  replace hvs := hvs.le le12
  replace hvc := hvc.le le12
  replace lE := lE.trans le12
  replace op9 : Cel H10 p9 [(.int .i64 (0)), (.int .i64 (0)), (.slice none 0 0)] := op9
  refine ob_i (op1.ldn rfl) ?_
  refine ob_i (op5.ldn rfl) ?_
  refine ob_i (op5.fa 0) ?_
  refine ob_i (op5.ld 0 rfl) ?_
  refine ob_i (vInt_sub (by omega) (by omega)) ?_
  refine ob_i (op5.fa 1) ?_
  refine ob_i (op5.ld 1 rfl) ?_
  refine ob_i (vInt_sub (by omega) (by omega)) ?_
  refine C.impl_Life_step hvb hvs hvc (by first | omega | assumption) (by first | omega | assumption) (by first | omega | assumption) (fun  u15 H13 ou15 nn16  le14 => ?_)
  have ap1Xu15 : Apart p1 u15 := op1.apart nn16
  have ap5Xu15 : Apart p5 u15 := op5.apart nn16
  have ap9Xu15 : Apart p9 u15 := op9.apart nn16
  have nu15 : Nw H u15 := nn16.le lE
  replace op1 := op1.le le14
  replace op5 := op5.le le14
  replace op9 := op9.le le14
  replace hvb := hvb.le le14
  replace hvs := hvs.le le14
  replace hvc := hvc.le le14
  replace lE := lE.trans le14
  refine ⟨le14, ?_⟩
  refine C.impl_Field_cut ou15.sl (by first | omega | assumption) (by first | omega | assumption) (by first | omega | assumption) (by first | omega | assumption) (by first | omega | assumption) (by first | omega | assumption) (by first | omega | assumption) (by first | omega | assumption) (fun  u19 H17 ou19 nn20  le18 => ?_)
  have ap1Xu19 : Apart p1 u19 := op1.apart nn20
  have ap5Xu19 : Apart p5 u19 := op5.apart nn20
  have ap9Xu19 : Apart p9 u19 := op9.apart nn20
  have au15Xu19 : Apart u15 u19 := ou15.apart nn20
  have nu19 : Nw H u19 := nn20.le lE
  replace op1 := op1.le le18
  replace op5 := op5.le le18
  replace op9 := op9.le le18
  replace ou15 := ou15.le le18
  replace hvb := hvb.le le18
  replace hvs := hvs.le le18
  replace hvc := hvc.le le18
  replace lE := lE.trans le18
  refine ⟨le18, ?_⟩
  refine op9.stn (ws := [(.int .i64 ((r - 2))), (.int .i64 ((c - 2))), u19]) rfl rfl (oc1 rfl (oc1 rfl (oc1 ou19.one oc0))) (fun H21 op9 off22 => ?_)
  replace op1 := op1.off off22 ap1Xp9
  replace op5 := op5.off off22 ap5Xp9
  replace ou15 := ou15.off off22 ap9Xu15.symm
  replace ou19 := ou19.off off22 ap9Xu19.symm
  replace hvb := hvb0.le (off22.le lE np9)
  replace hvs := hvs0.le (off22.le lE np9)
  replace hvc := hvc0.le (off22.le lE np9)
  replace lE := off22.le lE np9
  replace op9 : Cel H21 p9 [(.int .i64 ((r - 2))), (.int .i64 ((c - 2))), u19] := op9
  refine ob_i (op9.ldn rfl) ?_
  skip
  exact hk  u19 _ (Own.cast (show mkL (c - 2) (cutG c (nxL false b s r c l) 1 1) (((r - 2) : Int).toNat * ((c - 2) : Int).toNat) = inL b s r c l by first | rfl | simp) ou19) nu19  lE
theorem C.spec_InnerStep {vb vs vc : Value} {r c : Int} {b : List Int} {s : List Int} {l : List Int}  {H : Hp} {K : Value → Hp → Prop} (hvb0 : Sl eI H vb b) (hvs0 : Sl eI H vs s) (hvc0 : Sl eI H vc l) (kb : b.length ≤ 9223372036854775807) (ks : s.length ≤ 9223372036854775807) (k1 : l.length ≤ 9223372036854775807)
    (hk : ∀ u1 H', Own eI H' u1 (selL (inP b s r c l) (inL b s r c l)) → Nw H u1 → Le H H' → K (.tuple #[(.agg #[(.int .i64 (selI (inP b s r c l) (r - 2))), (.int .i64 (selI (inP b s r c l) (c - 2))), u1]), (.bool (decide (inP b s r c l)))]) H') : HT prg I.spec_InnerStep [(.agg #[vb, vs]), (.agg #[(.int .i64 (r)), (.int .i64 (c)), vc])].toArray H K := by
  have lE := Le.refl H
  have hvb := hvb0
  have hvs := hvs0
  have hvc := hvc0
  refine R.spec_InnerStep ?_
  unfold F.spec_InnerStep
  refine nw_i (fun p1 H2 op1 nn3 le4 => ?_)
  have np1 : Nw H p1 := nn3.le lE
  replace hvb := hvb.le le4
  replace hvs := hvs.le le4
  replace hvc := hvc.le le4
  replace lE := lE.trans le4
  replace op1 : Cel H2 p1 [vb, vs] := op1
  refine nw_i (fun p5 H6 op5 nn7 le8 => ?_)
  have ap1Xp5 : Apart p1 p5 := op1.apart nn7
  have np5 : Nw H p5 := nn7.le lE
  replace op1 := op1.le le8
  replace hvb := hvb.le le8
  replace hvs := hvs.le le8
  replace hvc := hvc.le le8
  replace lE := lE.trans le8
  replace op5 : Cel H6 p5 [(.int .i64 (r)), (.int .i64 (c)), vc] := op5
  refine nw_i (fun p9 H10 op9 nn11 le12 => ?_)
  have ap1Xp9 : Apart p1 p9 := op1.apart nn11
  have ap5Xp9 : Apart p5 p9 := op5.apart nn11
  have np9 : Nw H p9 := nn11.le lE
  replace op1 := op1.le le12
  replace op5 := op5.le le12
  replace hvb := hvb.le le12
  replace hvs := hvs.le le12
  replace hvc := hvc.le le12
  replace lE := lE.trans le12
  replace op9 : Cel H10 p9 [(.int .i64 (0)), (.int .i64 (0)), (.slice none 0 0)] := op9
  refine C.spec_l04Life op1 hvb hvs (by first | omega | assumption) (by first | omega | assumption) (fun   H13    le14 => ?_)
  replace op1 := op1.le le14
  replace op5 := op5.le le14
  replace op9 := op9.le le14
  replace hvb := hvb.le le14
  replace hvs := hvs.le le14
  replace hvc := hvc.le le14
  replace lE := lE.trans le14
  refine ob_nd (fun hc15 => ?_) (fun hc15 => ?_)
  · skip
    refine gop_rf ?_
    refine C.spec_l05Square op5 hvc (by first | omega | assumption) (fun   H16    le17 => ?_)
    replace op1 := op1.le le17
    replace op5 := op5.le le17
    replace op9 := op9.le le17
    replace hvb := hvb.le le17
    replace hvs := hvs.le le17
    replace hvc := hvc.le le17
    replace lE := lE.trans le17
    refine gop_rf ?_
    refine ob_nd (fun hc18 => ?_) (fun hc18 => ?_)
    · skip
      have hf := hc18.1
      have hq := hc18.2
      have l1 := fieldN_len hf
      have hs := hf.1
      have hl := hf.2.1
      have q1 := hs.1
      have q2 := hs.2
      have qm := sidesF_mul hs
      refine ob_i (vPick_f _ _) ?_
      refine cnd_f1 ?_
      refine C.spec_l05Inner op1 op5 hvb hvs hvc (by first | omega | assumption) (by first | omega | assumption) (by first | omega | assumption) (by first | omega | assumption) (by first | omega | assumption) (fun  u21 H19 ou21 nn22  le20 => ?_)
      have ap1Xu21 : Apart p1 u21 := op1.apart nn22
      have ap5Xu21 : Apart p5 u21 := op5.apart nn22
      have ap9Xu21 : Apart p9 u21 := op9.apart nn22
      have nu21 : Nw H u21 := nn22.le lE
      replace op1 := op1.le le20
      replace op5 := op5.le le20
      replace op9 := op9.le le20
      replace hvb := hvb.le le20
      replace hvs := hvs.le le20
      replace hvc := hvc.le le20
      replace lE := lE.trans le20
      refine op9.stn (ws := [(.int .i64 (r - 2)), (.int .i64 (c - 2)), u21]) rfl rfl (oc1 rfl (oc1 rfl (oc1 ou21.one oc0))) (fun H23 op9 off24 => ?_)
      replace op1 := op1.off off24 ap1Xp9
      replace op5 := op5.off off24 ap5Xp9
      replace ou21 := ou21.off off24 ap9Xu21.symm
      replace hvb := hvb0.le (off24.le lE np9)
      replace hvs := hvs0.le (off24.le lE np9)
      replace hvc := hvc0.le (off24.le lE np9)
      replace lE := off24.le lE np9
      replace op9 : Cel H23 p9 [(.int .i64 (r - 2)), (.int .i64 (c - 2)), u21] := op9
      refine ob_i (op9.ldn rfl) ?_
      skip
      have hok : inP b s r c l := by first | assumption | exact ⟨by assumption, by assumption⟩ | exact ⟨by assumption, by omega⟩
      exact keq (K := K) (by rw [show ((selI (inP b s r c l) (r - 2)) : Int) = (r - 2) from by first | exact selI_t hok | exact selI_f hok]; rw [show ((selI (inP b s r c l) (c - 2)) : Int) = (c - 2) from by first | exact selI_t hok | exact selI_f hok]; rw [decide_eq_true (show (inP b s r c l) from by exact hok)]) (hk  u21 _ (Own.cast (show inL b s r c l = selL (inP b s r c l) (inL b s r c l) by exact (selL_t hok).symm) ou21) nu21  lE)
    · skip
      refine ob_i (vPick_f _ _) ?_
      refine cnd_t1 ?_
      refine ob_i (a := (.agg #[(.int .i64 (0)), (.int .i64 (0)), (.slice none 0 0)])) (by rfl) ?_
      refine op9.stn (ws := [(.int .i64 (0)), (.int .i64 (0)), (.slice none 0 0)]) rfl rfl (oc1 rfl (oc1 rfl (oc1 rfl oc0))) (fun H25 op9 off26 => ?_)
      replace op1 := op1.off off26 ap1Xp9
      replace op5 := op5.off off26 ap5Xp9
      replace hvb := hvb0.le (off26.le lE np9)
      replace hvs := hvs0.le (off26.le lE np9)
      replace hvc := hvc0.le (off26.le lE np9)
      replace lE := off26.le lE np9
      replace op9 : Cel H25 p9 [(.int .i64 (0)), (.int .i64 (0)), (.slice none 0 0)] := op9
      refine ob_i (op9.ldn rfl) ?_
      skip
      have hok : ¬ (inP b s r c l) := by intro h; first | exact absurd h.1 (by assumption) | exact absurd h.2 (by assumption) | (have := h.2; omega)
      exact keq (K := K) (by rw [show ((selI (inP b s r c l) (r - 2)) : Int) = (0) from by first | exact selI_t hok | exact selI_f hok]; rw [show ((selI (inP b s r c l) (c - 2)) : Int) = (0) from by first | exact selI_t hok | exact selI_f hok]; rw [decide_eq_false (show ¬ (inP b s r c l) from by exact hok)]) (hk  (.slice none 0 0) _ (Own.cast (show [] = selL (inP b s r c l) (inL b s r c l) by exact (selL_f hok).symm) (Own.nil_of none)) (fun b hb => by simp [bk] at hb)  lE)
  · skip
    refine gop_st ?_
    refine gop_st ?_
    refine ob_i (vPick_t _ _) ?_
    refine cnd_t1 ?_
    refine ob_i (a := (.agg #[(.int .i64 (0)), (.int .i64 (0)), (.slice none 0 0)])) (by rfl) ?_
    refine op9.stn (ws := [(.int .i64 (0)), (.int .i64 (0)), (.slice none 0 0)]) rfl rfl (oc1 rfl (oc1 rfl (oc1 rfl oc0))) (fun H27 op9 off28 => ?_)
    replace op1 := op1.off off28 ap1Xp9
    replace op5 := op5.off off28 ap5Xp9
    replace hvb := hvb0.le (off28.le lE np9)
    replace hvs := hvs0.le (off28.le lE np9)
    replace hvc := hvc0.le (off28.le lE np9)
    replace lE := off28.le lE np9
    replace op9 : Cel H27 p9 [(.int .i64 (0)), (.int .i64 (0)), (.slice none 0 0)] := op9
    refine ob_i (op9.ldn rfl) ?_
    skip
    have hok : ¬ (inP b s r c l) := by intro h; first | exact absurd h.1 (by assumption) | exact absurd h.2 (by assumption) | (have := h.2; omega)
    exact keq (K := K) (by rw [show ((selI (inP b s r c l) (r - 2)) : Int) = (0) from by first | exact selI_t hok | exact selI_f hok]; rw [show ((selI (inP b s r c l) (c - 2)) : Int) = (0) from by first | exact selI_t hok | exact selI_f hok]; rw [decide_eq_false (show ¬ (inP b s r c l) from by exact hok)]) (hk  (.slice none 0 0) _ (Own.cast (show [] = selL (inP b s r c l) (inL b s r c l) by exact (selL_f hok).symm) (Own.nil_of none)) (fun b hb => by simp [bk] at hb)  lE)
theorem C.impl_InnerStep {vb vs vc : Value} {r c : Int} {b : List Int} {s : List Int} {l : List Int}  {H : Hp} {K : Value → Hp → Prop} (hvb0 : Sl eI H vb b) (hvs0 : Sl eI H vs s) (hvc0 : Sl eI H vc l) (kb : b.length ≤ 9223372036854775807) (ks : s.length ≤ 9223372036854775807) (k1 : l.length ≤ 9223372036854775807)
    (hk : ∀ u1 H', Own eI H' u1 (selL (inP b s r c l) (inL b s r c l)) → Nw H u1 → Le H H' → K (.tuple #[(.agg #[(.int .i64 (selI (inP b s r c l) (r - 2))), (.int .i64 (selI (inP b s r c l) (c - 2))), u1]), (.bool (decide (inP b s r c l)))]) H') : HT prg I.impl_InnerStep [(.agg #[vb, vs]), (.agg #[(.int .i64 (r)), (.int .i64 (c)), vc])].toArray H K := by
  have lE := Le.refl H
  have hvb := hvb0
  have hvs := hvs0
  have hvc := hvc0
  refine R.impl_InnerStep ?_
  unfold F.impl_InnerStep
  refine nw_i (fun p1 H2 op1 nn3 le4 => ?_)
  have np1 : Nw H p1 := nn3.le lE
  replace hvb := hvb.le le4
  replace hvs := hvs.le le4
  replace hvc := hvc.le le4
  replace lE := lE.trans le4
  replace op1 : Cel H2 p1 [vb, vs] := op1
  refine nw_i (fun p5 H6 op5 nn7 le8 => ?_)
  have ap1Xp5 : Apart p1 p5 := op1.apart nn7
  have np5 : Nw H p5 := nn7.le lE
  replace op1 := op1.le le8
  replace hvb := hvb.le le8
  replace hvs := hvs.le le8
  replace hvc := hvc.le le8
  replace lE := lE.trans le8
  replace op5 : Cel H6 p5 [(.int .i64 (r)), (.int .i64 (c)), vc] := op5
  refine nw_i (fun p9 H10 op9 nn11 le12 => ?_)
  have ap1Xp9 : Apart p1 p9 := op1.apart nn11
  have ap5Xp9 : Apart p5 p9 := op5.apart nn11
  have np9 : Nw H p9 := nn11.le lE
  replace op1 := op1.le le12
  replace op5 := op5.le le12
  replace hvb := hvb.le le12
  replace hvs := hvs.le le12
  replace hvc := hvc.le le12
  replace lE := lE.trans le12
  replace op9 : Cel H10 p9 [(.int .i64 (0)), (.int .i64 (0)), (.slice none 0 0)] := op9
  refine ob_i (op1.ldn rfl) ?_
  refine C.impl_ValidLife hvb hvs (by first | omega | assumption) (by first | omega | assumption) (fun   H13    le14 => ?_)
  replace op1 := op1.le le14
  replace op5 := op5.le le14
  replace op9 := op9.le le14
  replace hvb := hvb.le le14
  replace hvs := hvs.le le14
  replace hvc := hvc.le le14
  replace lE := lE.trans le14
  refine ob_nd (fun hc15 => ?_) (fun hc15 => ?_)
  · skip
    refine gop_rf ?_
    refine ob_i (op5.ldn rfl) ?_
    refine gop_rf ?_
    refine C.impl_isSquare hvc (by first | omega | assumption) (fun   H16    le17 => ?_)
    replace op1 := op1.le le17
    replace op5 := op5.le le17
    replace op9 := op9.le le17
    replace hvb := hvb.le le17
    replace hvs := hvs.le le17
    replace hvc := hvc.le le17
    replace lE := lE.trans le17
    refine gop_rf ?_
    refine ob_nd (fun hc18 => ?_) (fun hc18 => ?_)
    · skip
      have hf := hc18.1
      have hq := hc18.2
      have l1 := fieldN_len hf
      have hs := hf.1
      have hl := hf.2.1
      have q1 := hs.1
      have q2 := hs.2
      have qm := sidesF_mul hs
      refine ob_i (vPick_f _ _) ?_
      refine cnd_f1 ?_
      refine ob_i (op1.ldn rfl) ?_
      refine ob_i (op5.ldn rfl) ?_
      refine C.impl_Life_inner hvb hvs hvc (by first | omega | assumption) (by first | omega | assumption) (by first | omega | assumption) (by first | omega | assumption) (by first | omega | assumption) (fun  u21 H19 ou21 nn22  le20 => ?_)
      have ap1Xu21 : Apart p1 u21 := op1.apart nn22
      have ap5Xu21 : Apart p5 u21 := op5.apart nn22
      have ap9Xu21 : Apart p9 u21 := op9.apart nn22
      have nu21 : Nw H u21 := nn22.le lE
      replace op1 := op1.le le20
      replace op5 := op5.le le20
      replace op9 := op9.le le20
      replace hvb := hvb.le le20
      replace hvs := hvs.le le20
      replace hvc := hvc.le le20
      replace lE := lE.trans le20
      refine op9.stn (ws := [(.int .i64 (r - 2)), (.int .i64 (c - 2)), u21]) rfl rfl (oc1 rfl (oc1 rfl (oc1 ou21.one oc0))) (fun H23 op9 off24 => ?_)
      replace op1 := op1.off off24 ap1Xp9
      replace op5 := op5.off off24 ap5Xp9
      replace ou21 := ou21.off off24 ap9Xu21.symm
      replace hvb := hvb0.le (off24.le lE np9)
      replace hvs := hvs0.le (off24.le lE np9)
      replace hvc := hvc0.le (off24.le lE np9)
      replace lE := off24.le lE np9
      replace op9 : Cel H23 p9 [(.int .i64 (r - 2)), (.int .i64 (c - 2)), u21] := op9
      refine ob_i (op9.ldn rfl) ?_
      skip
      have hok : inP b s r c l := by first | assumption | exact ⟨by assumption, by assumption⟩ | exact ⟨by assumption, by omega⟩
      exact keq (K := K) (by rw [show ((selI (inP b s r c l) (r - 2)) : Int) = (r - 2) from by first | exact selI_t hok | exact selI_f hok]; rw [show ((selI (inP b s r c l) (c - 2)) : Int) = (c - 2) from by first | exact selI_t hok | exact selI_f hok]; rw [decide_eq_true (show (inP b s r c l) from by exact hok)]) (hk  u21 _ (Own.cast (show inL b s r c l = selL (inP b s r c l) (inL b s r c l) by exact (selL_t hok).symm) ou21) nu21  lE)
    · skip
      refine ob_i (vPick_f _ _) ?_
      refine cnd_t1 ?_
      refine ob_i (a := (.agg #[(.int .i64 (0)), (.int .i64 (0)), (.slice none 0 0)])) (by rfl) ?_
      refine op9.stn (ws := [(.int .i64 (0)), (.int .i64 (0)), (.slice none 0 0)]) rfl rfl (oc1 rfl (oc1 rfl (oc1 rfl oc0))) (fun H25 op9 off26 => ?_)
      replace op1 := op1.off off26 ap1Xp9
      replace op5 := op5.off off26 ap5Xp9
      replace hvb := hvb0.le (off26.le lE np9)
      replace hvs := hvs0.le (off26.le lE np9)
      replace hvc := hvc0.le (off26.le lE np9)
      replace lE := off26.le lE np9
      replace op9 : Cel H25 p9 [(.int .i64 (0)), (.int .i64 (0)), (.slice none 0 0)] := op9
      refine ob_i (op9.ldn rfl) ?_
      skip
      have hok : ¬ (inP b s r c l) := by intro h; first | exact absurd h.1 (by assumption) | exact absurd h.2 (by assumption) | (have := h.2; omega)
      exact keq (K := K) (by rw [show ((selI (inP b s r c l) (r - 2)) : Int) = (0) from by first | exact selI_t hok | exact selI_f hok]; rw [show ((selI (inP b s r c l) (c - 2)) : Int) = (0) from by first | exact selI_t hok | exact selI_f hok]; rw [decide_eq_false (show ¬ (inP b s r c l) from by exact hok)]) (hk  (.slice none 0 0) _ (Own.cast (show [] = selL (inP b s r c l) (inL b s r c l) by exact (selL_f hok).symm) (Own.nil_of none)) (fun b hb => by simp [bk] at hb)  lE)
  · skip
    refine gop_st ?_
    refine gop_st ?_
    refine gop_st ?_
    refine ob_i (vPick_t _ _) ?_
    refine cnd_t1 ?_
    refine ob_i (a := (.agg #[(.int .i64 (0)), (.int .i64 (0)), (.slice none 0 0)])) (by rfl) ?_
    refine op9.stn (ws := [(.int .i64 (0)), (.int .i64 (0)), (.slice none 0 0)]) rfl rfl (oc1 rfl (oc1 rfl (oc1 rfl oc0))) (fun H27 op9 off28 => ?_)
    replace op1 := op1.off off28 ap1Xp9
    replace op5 := op5.off off28 ap5Xp9
    replace hvb := hvb0.le (off28.le lE np9)
    replace hvs := hvs0.le (off28.le lE np9)
    replace hvc := hvc0.le (off28.le lE np9)
    replace lE := off28.le lE np9
    replace op9 : Cel H27 p9 [(.int .i64 (0)), (.int .i64 (0)), (.slice none 0 0)] := op9
    refine ob_i (op9.ldn rfl) ?_
    skip
    have hok : ¬ (inP b s r c l) := by intro h; first | exact absurd h.1 (by assumption) | exact absurd h.2 (by assumption) | (have := h.2; omega)
    exact keq (K := K) (by rw [show ((selI (inP b s r c l) (r - 2)) : Int) = (0) from by first | exact selI_t hok | exact selI_f hok]; rw [show ((selI (inP b s r c l) (c - 2)) : Int) = (0) from by first | exact selI_t hok | exact selI_f hok]; rw [decide_eq_false (show ¬ (inP b s r c l) from by exact hok)]) (hk  (.slice none 0 0) _ (Own.cast (show [] = selL (inP b s r c l) (inL b s r c l) by exact (selL_f hok).symm) (Own.nil_of none)) (fun b hb => by simp [bk] at hb)  lE)
theorem C.spec_l04Same {p q vc vd : Value} {r c r2 c2 : Int} {l : List Int} {m : List Int}  {H : Hp} {K : Value → Hp → Prop} (hp0 : Cel H p [(.int .i64 (r)), (.int .i64 (c)), vc]) (hq0 : Cel H q [(.int .i64 (r2)), (.int .i64 (c2)), vd]) (hvc0 : Sl eI H vc l) (hvd0 : Sl eI H vd m) (k1 : l.length ≤ 9223372036854775807)
    (hk : ∀ H', Le H H' → K (.bool (decide (r = r2 ∧ c = c2 ∧ l = m))) H') : HT prg I.spec_l04Same [p, q].toArray H K := by
  have lE := Le.refl H
  have hp := hp0
  have hq := hq0
  have hvc := hvc0
  have hvd := hvd0
  refine R.spec_l04Same ?_
  unfold F.spec_l04Same
  refine ob_i (hp.nilC) ?_
  refine ob_i (hp.fa 0) ?_
  refine ob_i (hp.ld 0 rfl) ?_
  refine ob_i (hq.nilC) ?_
  refine ob_i (hq.fa 0) ?_
  refine ob_i (hq.ld 0 rfl) ?_
  refine ob_i (vInt_eql _ _ _) ?_
  by_cases hc1 : r = r2
  · skip
    refine gop_e (decide_eq_true hc1) ?_
    refine gop_rt ?_
    refine gop_e (decide_eq_true hc1) ?_
    refine gop_rt ?_
    refine ob_i (hp.nilC) ?_
    refine gop_e (decide_eq_true hc1) ?_
    refine gop_rt ?_
    refine ob_i (hp.fa 1) ?_
    refine gop_e (decide_eq_true hc1) ?_
    refine gop_rt ?_
    refine ob_i (hp.ld 1 rfl) ?_
    refine gop_e (decide_eq_true hc1) ?_
    refine gop_rt ?_
    refine gop_e (decide_eq_true hc1) ?_
    refine gop_rt ?_
    refine ob_i (hq.nilC) ?_
    refine gop_e (decide_eq_true hc1) ?_
    refine gop_rt ?_
    refine ob_i (hq.fa 1) ?_
    refine gop_e (decide_eq_true hc1) ?_
    refine gop_rt ?_
    refine ob_i (hq.ld 1 rfl) ?_
    refine gop_e (decide_eq_true hc1) ?_
    refine gop_rt ?_
    refine ob_i (vInt_eql _ _ _) ?_
    refine ob_i (vPick_et (decide_eq_true hc1) _ _) ?_
    by_cases hc2 : c = c2
    · skip
      refine gop_e (decide_eq_true hc2) ?_
      refine gop_rt ?_
      refine gop_e (decide_eq_true hc2) ?_
      refine gop_rt ?_
      refine ob_i (hp.nilC) ?_
      refine gop_e (decide_eq_true hc2) ?_
      refine gop_rt ?_
      refine ob_i (hp.fa 2) ?_
      refine gop_e (decide_eq_true hc2) ?_
      refine gop_rt ?_
      refine ob_i (hp.ld 2 rfl) ?_
      refine gop_e (decide_eq_true hc2) ?_
      refine gop_rt ?_
      refine gop_e (decide_eq_true hc2) ?_
      refine gop_rt ?_
      refine ob_i (hq.nilC) ?_
      refine gop_e (decide_eq_true hc2) ?_
      refine gop_rt ?_
      refine ob_i (hq.fa 2) ?_
      refine gop_e (decide_eq_true hc2) ?_
      refine gop_rt ?_
      refine ob_i (hq.ld 2 rfl) ?_
      refine gop_e (decide_eq_true hc2) ?_
      refine gop_rt ?_
      refine C.spec_l02Equal hvc hvd (by first | omega | assumption) ?_
      refine ⟨Le.refl _, ?_⟩
      refine ob_i (vPick_et (decide_eq_true hc2) _ _) ?_
      skip
      exact keq (K := K) (by rw [show decide (l = m) = decide (r = r2 ∧ c = c2 ∧ l = m) from decide_eq_decide.mpr (by exact ⟨fun h => ⟨by assumption, by assumption, h⟩, fun h => h.2.2⟩)]) (hk   _    lE)
    · skip
      refine gop_e (decide_eq_false hc2) ?_
      refine gop_sf ?_
      refine gop_e (decide_eq_false hc2) ?_
      refine gop_sf ?_
      refine gop_e (decide_eq_false hc2) ?_
      refine gop_sf ?_
      refine gop_e (decide_eq_false hc2) ?_
      refine gop_sf ?_
      refine gop_e (decide_eq_false hc2) ?_
      refine gop_sf ?_
      refine gop_e (decide_eq_false hc2) ?_
      refine gop_sf ?_
      refine gop_e (decide_eq_false hc2) ?_
      refine gop_sf ?_
      refine gop_e (decide_eq_false hc2) ?_
      refine gop_sf ?_
      refine gop_e (decide_eq_false hc2) ?_
      refine gop_sf ?_
      refine ob_i (vPick_ef (decide_eq_false hc2) _ _) ?_
      skip
      exact keq (K := K) (by rw [decide_eq_false (show ¬ (r = r2 ∧ c = c2 ∧ l = m) from by intro h; have h1 := h.1; have h2 := h.2.1; first | contradiction | omega)]) (hk   _    lE)
  · skip
    refine gop_e (decide_eq_false hc1) ?_
    refine gop_sf ?_
    refine gop_e (decide_eq_false hc1) ?_
    refine gop_sf ?_
    refine gop_e (decide_eq_false hc1) ?_
    refine gop_sf ?_
    refine gop_e (decide_eq_false hc1) ?_
    refine gop_sf ?_
    refine gop_e (decide_eq_false hc1) ?_
    refine gop_sf ?_
    refine gop_e (decide_eq_false hc1) ?_
    refine gop_sf ?_
    refine gop_e (decide_eq_false hc1) ?_
    refine gop_sf ?_
    refine gop_e (decide_eq_false hc1) ?_
    refine gop_sf ?_
    refine gop_e (decide_eq_false hc1) ?_
    refine gop_sf ?_
    refine ob_i (vPick_ef (decide_eq_false hc1) _ _) ?_
    refine gop_sf ?_
    refine gop_sf ?_
    refine gop_sf ?_
    refine gop_sf ?_
    refine gop_sf ?_
    refine gop_sf ?_
    refine gop_sf ?_
    refine gop_sf ?_
    refine gop_sf ?_
    refine ob_i (vPick_f _ _) ?_
    skip
    exact keq (K := K) (by rw [decide_eq_false (show ¬ (r = r2 ∧ c = c2 ∧ l = m) from by intro h; have h1 := h.1; have h2 := h.2.1; first | contradiction | omega)]) (hk   _    lE)
theorem C.impl_SameField {vc vd : Value} {r c r2 c2 : Int} {l : List Int} {m : List Int}  {H : Hp} {K : Value → Hp → Prop} (hvc0 : Sl eI H vc l) (hvd0 : Sl eI H vd m) (k1 : l.length ≤ 9223372036854775807)
    (hk : ∀ H', Le H H' → K (.bool (decide (r = r2 ∧ c = c2 ∧ l = m))) H') : HT prg I.impl_SameField [(.agg #[(.int .i64 (r)), (.int .i64 (c)), vc]), (.agg #[(.int .i64 (r2)), (.int .i64 (c2)), vd])].toArray H K := by
  have lE := Le.refl H
  have hvc := hvc0
  have hvd := hvd0
  refine R.impl_SameField ?_
  unfold F.impl_SameField
  refine nw_i (fun p1 H2 op1 nn3 le4 => ?_)
  have np1 : Nw H p1 := nn3.le lE
  replace hvc := hvc.le le4
  replace hvd := hvd.le le4
  replace lE := lE.trans le4
  replace op1 : Cel H2 p1 [(.int .i64 (r)), (.int .i64 (c)), vc] := op1
  refine nw_i (fun p5 H6 op5 nn7 le8 => ?_)
  have ap1Xp5 : Apart p1 p5 := op1.apart nn7
  have np5 : Nw H p5 := nn7.le lE
  replace op1 := op1.le le8
  replace hvc := hvc.le le8
  replace hvd := hvd.le le8
  replace lE := lE.trans le8
  replace op5 : Cel H6 p5 [(.int .i64 (r2)), (.int .i64 (c2)), vd] := op5
  refine ob_i (op1.fa 0) ?_
  refine ob_i (op1.ld 0 rfl) ?_
  refine ob_i (op5.fa 0) ?_
  refine ob_i (op5.ld 0 rfl) ?_
  refine ob_i (vInt_eql _ _ _) ?_
  by_cases hc9 : r = r2
  · skip
    refine gop_e (decide_eq_true hc9) ?_
    refine gop_rt ?_
    refine ob_i (op1.fa 1) ?_
    refine gop_e (decide_eq_true hc9) ?_
    refine gop_rt ?_
    refine ob_i (op1.ld 1 rfl) ?_
    refine gop_e (decide_eq_true hc9) ?_
    refine gop_rt ?_
    refine ob_i (op5.fa 1) ?_
    refine gop_e (decide_eq_true hc9) ?_
    refine gop_rt ?_
    refine ob_i (op5.ld 1 rfl) ?_
    refine gop_e (decide_eq_true hc9) ?_
    refine gop_rt ?_
    refine ob_i (vInt_eql _ _ _) ?_
    refine ob_i (vPick_et (decide_eq_true hc9) _ _) ?_
    by_cases hc10 : c = c2
    · skip
      refine gop_e (decide_eq_true hc10) ?_
      refine gop_rt ?_
      refine ob_i (op1.fa 2) ?_
      refine gop_e (decide_eq_true hc10) ?_
      refine gop_rt ?_
      refine ob_i (op1.ld 2 rfl) ?_
      refine gop_e (decide_eq_true hc10) ?_
      refine gop_rt ?_
      refine ob_i (op5.fa 2) ?_
      refine gop_e (decide_eq_true hc10) ?_
      refine gop_rt ?_
      refine ob_i (op5.ld 2 rfl) ?_
      refine gop_e (decide_eq_true hc10) ?_
      refine gop_rt ?_
      refine C.slices_Equal_int64Zint64 hvc hvd (by first | omega | assumption) ?_
      refine ob_i (vPick_et (decide_eq_true hc10) _ _) ?_
      skip
      exact keq (K := K) (by rw [show decide (l = m) = decide (r = r2 ∧ c = c2 ∧ l = m) from decide_eq_decide.mpr (by exact ⟨fun h => ⟨by assumption, by assumption, h⟩, fun h => h.2.2⟩)]) (hk   _    lE)
    · skip
      refine gop_e (decide_eq_false hc10) ?_
      refine gop_sf ?_
      refine gop_e (decide_eq_false hc10) ?_
      refine gop_sf ?_
      refine gop_e (decide_eq_false hc10) ?_
      refine gop_sf ?_
      refine gop_e (decide_eq_false hc10) ?_
      refine gop_sf ?_
      refine gop_e (decide_eq_false hc10) ?_
      refine gop_sf ?_
      refine ob_i (vPick_ef (decide_eq_false hc10) _ _) ?_
      skip
      exact keq (K := K) (by rw [decide_eq_false (show ¬ (r = r2 ∧ c = c2 ∧ l = m) from by intro h; have h1 := h.1; have h2 := h.2.1; first | contradiction | omega)]) (hk   _    lE)
  · skip
    refine gop_e (decide_eq_false hc9) ?_
    refine gop_sf ?_
    refine gop_e (decide_eq_false hc9) ?_
    refine gop_sf ?_
    refine gop_e (decide_eq_false hc9) ?_
    refine gop_sf ?_
    refine gop_e (decide_eq_false hc9) ?_
    refine gop_sf ?_
    refine gop_e (decide_eq_false hc9) ?_
    refine gop_sf ?_
    refine ob_i (vPick_ef (decide_eq_false hc9) _ _) ?_
    refine gop_sf ?_
    refine gop_sf ?_
    refine gop_sf ?_
    refine gop_sf ?_
    refine gop_sf ?_
    refine ob_i (vPick_f _ _) ?_
    skip
    exact keq (K := K) (by rw [decide_eq_false (show ¬ (r = r2 ∧ c = c2 ∧ l = m) from by intro h; have h1 := h.1; have h2 := h.2.1; first | contradiction | omega)]) (hk   _    lE)
theorem C.spec_l04Shift {p vc : Value} {a bb r c : Int} {l : List Int}  {H : Hp} {K : Value → Hp → Prop} (hp0 : Cel H p [(.int .i64 (r)), (.int .i64 (c)), vc]) (hvc0 : Sl eI H vc l) (hf : fieldN 1 r c l) (a0 : -24 ≤ a) (a1 : a ≤ 24) (b0 : -24 ≤ bb) (b1 : bb ≤ 24)
    (hk : ∀ u1 H', Own eI H' u1 (shL r c l a bb) → Nw H u1 → Le H H' → K (.agg #[(.int .i64 (r)), (.int .i64 (c)), u1]) H') : HT prg I.spec_l04Shift [p, (.int .i64 (a)), (.int .i64 (bb))].toArray H K := by
  have lE := Le.refl H
  have hp := hp0
  have hvc := hvc0
  refine R.spec_l04Shift ?_
  unfold F.spec_l04Shift
  have hs := hf.1
  have hl := hf.2.1
  have q1 := hs.1
  have q2 := hs.2
  have qm := sidesF_mul hs
  refine nw_i (fun p1 H2 op1 nn3 le4 => ?_)
  have np1 : Nw H p1 := nn3.le lE
  replace hp := hp.le le4
  replace hvc := hvc.le le4
  replace lE := lE.trans le4
  replace op1 : Cel H2 p1 [(.int .i64 (0)), (.int .i64 (0)), (.slice none 0 0)] := op1
  refine ob_i (hp.nilC) ?_
  refine ob_i (hp.fa 0) ?_
  refine ob_i (hp.ld 0 rfl) ?_
  refine ob_i (hp.nilC) ?_
  refine ob_i (hp.fa 1) ?_
  refine ob_i (hp.ld 1 rfl) ?_
  refine C.spec_l04New (by first | omega | assumption) (by first | omega | assumption) (by first | omega | assumption) (by first | omega | assumption) (fun  u H5 ou nn7  le6 => ?_)
  have ap1Xu : Apart p1 u := op1.apart nn7
  have nu : Nw H u := nn7.le lE
  replace op1 := op1.le le6
  replace hp := hp.le le6
  replace hvc := hvc.le le6
  replace lE := lE.trans le6
  refine ⟨le6, ?_⟩
  refine nw_i (fun p8 H9 op8 nn10 le11 => ?_)
  have ap1Xp8 : Apart p1 p8 := op1.apart nn10
  have auXp8 : Apart u p8 := ou.apart nn10
  have np8 : Nw H p8 := nn10.le lE
  replace op1 := op1.le le11
  replace ou := ou.le le11
  replace hp := hp.le le11
  replace hvc := hvc.le le11
  replace lE := lE.trans le11
  replace op8 : Cel H9 p8 [(.int .i64 (0)), (.int .i64 (0)), (.slice none 0 0)] := op8
  refine op8.stn (ws := [(.int .i64 (r)), (.int .i64 (c)), u]) rfl rfl (oc1 rfl (oc1 rfl (oc1 ou.one oc0))) (fun H12 op8 off13 => ?_)
  replace op1 := op1.off off13 ap1Xp8
  replace ou := ou.off off13 auXp8
  replace hp := hp0.le (off13.le lE np8)
  replace hvc := hvc0.le (off13.le lE np8)
  replace lE := off13.le lE np8
  replace op8 : Cel H12 p8 [(.int .i64 (r)), (.int .i64 (c)), u] := op8
  refine jn_i (fun σ' H' => σ' 6 = p1 ∧ σ' 7 = p8 ∧ Cel H' p1 [(.int .i64 (0)), (.int .i64 (0)), (.slice none 0 0)] ∧ Own eI H' u (shL r c l a bb) ∧ Cel H' p8 [(.int .i64 (r)), (.int .i64 (c)), u] ∧ Le H H') (fun σ14 H14 hP => ?_) (fun J14 hJ14 => ?_)
  · skip
    obtain ⟨g6L14, g7L14, op1, ou, op8, lE⟩ := hP
    have hp := hp0.le lE
    have hvc := hvc0.le lE
    try simp only [g6L14, g7L14]
    refine ob_i (op8.ldn rfl) ?_
    refine op1.stn (ws := [(.int .i64 (r)), (.int .i64 (c)), u]) rfl rfl (oc1 rfl (oc1 rfl (oc1 ou.one oc0))) (fun H15 op1 off16 => ?_)
    replace ou := ou.off off16 ap1Xu.symm
    replace op8 := op8.off off16 ap1Xp8.symm
    replace hp := hp0.le (off16.le lE np1)
    replace hvc := hvc0.le (off16.le lE np1)
    replace lE := off16.le lE np1
    replace op1 : Cel H15 p1 [(.int .i64 (r)), (.int .i64 (c)), u] := op1
    refine ob_i (op1.ldn rfl) ?_
    skip
    exact hk  u _ ou nu  lE
  refine ⟨fun n' σ' H' => ∃ i : Nat, n' = r.toNat - i ∧ i ≤ r.toNat ∧ σ' 0 = p ∧ σ' 1 = (.int .i64 (a)) ∧ σ' 2 = (.int .i64 (bb)) ∧ σ' 6 = p1 ∧ σ' 7 = p8 ∧ σ' 8 = (.int .i64 ((i : Int))) ∧ Cel H' p1 [(.int .i64 (0)), (.int .i64 (0)), (.slice none 0 0)] ∧ Own eI H' u (fillL c (shG r c l a bb) (r.toNat * c.toNat) (i * c.toNat)) ∧ Cel H' p8 [(.int .i64 (r)), (.int .i64 (c)), u] ∧ Le H H',
    ⟨_, 0, rfl, by omega, rfl, rfl, rfl, rfl, rfl, (congrArg (Value.int .i64) (by first | omega | rfl | (simp; done))), op1, (by rw [Nat.zero_mul, fillL_zero]; exact ou), op8, lE⟩, ?_⟩
  rintro n17 σ17 H17 ⟨i, rfl, hiN, g0L17, g1L17, g2L17, g6L17, g7L17, g8L17, op1, ou, op8, lE⟩
  have hp := hp0.le lE
  have hvc := hvc0.le lE
  try simp only [g0L17, g1L17, g2L17, g6L17, g7L17, g8L17]
  refine ob_i (hp.nilC) ?_
  refine ob_i (hp.fa 0) ?_
  refine ob_i (hp.ld 0 rfl) ?_
  refine ob_i (vInt_lss _ _ _) ?_
  refine cnd_d (fun hg18 => ?_) (fun hg18 => ?_)
  · skip
    have ti := hg18
    refine jn_i (fun σ' H' => σ' 0 = p ∧ σ' 1 = (.int .i64 (a)) ∧ σ' 2 = (.int .i64 (bb)) ∧ σ' 6 = p1 ∧ σ' 7 = p8 ∧ σ' 8 = (.int .i64 ((i : Int))) ∧ Cel H' p1 [(.int .i64 (0)), (.int .i64 (0)), (.slice none 0 0)] ∧ Own eI H' u (fillL c (shG r c l a bb) (r.toNat * c.toNat) ((i + 1) * c.toNat)) ∧ Cel H' p8 [(.int .i64 (r)), (.int .i64 (c)), u] ∧ Le H H') (fun σ19 H19 hP => ?_) (fun J19 hJ19 => ?_)
    · skip
      obtain ⟨g0L19, g1L19, g2L19, g6L19, g7L19, g8L19, op1, ou, op8, lE⟩ := hP
      have hp := hp0.le lE
      have hvc := hvc0.le lE
      try simp only [g6L19, g8L19]
      refine ob_i (vInt_add (by omega) (by omega)) ?_
      exact nxt (r.toNat - (i + 1)) (by omega) ⟨i + 1, rfl, by omega, g0L19, g1L19, g2L19, g6L19, g7L19, (congrArg (Value.int .i64) (by first | omega | rfl | (simp; done))), op1, ou, op8, lE⟩
    refine ⟨fun n' σ' H' => ∃ k : Nat, n' = c.toNat - k ∧ k ≤ c.toNat ∧ σ' 0 = p ∧ σ' 1 = (.int .i64 (a)) ∧ σ' 2 = (.int .i64 (bb)) ∧ σ' 6 = p1 ∧ σ' 7 = p8 ∧ σ' 8 = (.int .i64 ((i : Int))) ∧ σ' 9 = (.int .i64 ((k : Int))) ∧ Cel H' p1 [(.int .i64 (0)), (.int .i64 (0)), (.slice none 0 0)] ∧ Own eI H' u (fillL c (shG r c l a bb) (r.toNat * c.toNat) (i * c.toNat + k)) ∧ Cel H' p8 [(.int .i64 (r)), (.int .i64 (c)), u] ∧ Le H H',
      ⟨_, 0, rfl, by omega, g0L17, g1L17, g2L17, g6L17, g7L17, g8L17, (congrArg (Value.int .i64) (by first | omega | rfl | (simp; done))), op1, ou, op8, lE⟩, ?_⟩
    rintro n20 σ20 H20 ⟨k, rfl, hkN, g0L20, g1L20, g2L20, g6L20, g7L20, g8L20, g9L20, op1, ou, op8, lE⟩
    have hp := hp0.le lE
    have hvc := hvc0.le lE
    try simp only [g0L20, g1L20, g2L20, g6L20, g7L20, g8L20, g9L20]
    refine ob_i (hp.nilC) ?_
    refine ob_i (hp.fa 1) ?_
    refine ob_i (hp.ld 1 rfl) ?_
    refine ob_i (vInt_lss _ _ _) ?_
    refine cnd_d (fun hg21 => ?_) (fun hg21 => ?_)
    · skip
      have tk := hg21
      have x1 := ix_lt (a := (i : Int)) (b := (k : Int)) (r := r) (c := c) (by omega) (by omega) (by omega) (by omega)
      have x3 := fillL_len (c := c) (g := shG r c l a bb) (rr := r) (cc := c) (t := i * c.toNat + k) (by omega) (by omega)
      have bR := roundF_lt (i := (i : Int) - a) (k := (k : Int) - bb) hs
      refine ob_i (op8.fa 2) ?_
      refine ob_i (op8.ld 2 rfl) ?_
      refine ob_i (hp.nilC) ?_
      refine ob_i (hp.fa 1) ?_
      refine ob_i (hp.ld 1 rfl) ?_
      refine ob_i (vInt_mul (by omega) (by omega)) ?_
      refine ob_i (vInt_add (by omega) (by omega)) ?_
      refine ob_i (hp.nilC) ?_
      refine ob_i (hp.fa 2) ?_
      refine ob_i (hp.ld 2 rfl) ?_
      refine ob_i (vInt_sub (by omega) (by omega)) ?_
      refine ob_i (vInt_sub (by omega) (by omega)) ?_
      refine C.spec_l04Round hp (by first | omega | assumption) ?_
      refine ⟨Le.refl _, ?_⟩
      refine ob_i (hvc.ix (by omega) (by omega)) ?_
      refine ob_i (hvc.ld 0 (by omega) (by omega)) ?_
      refine ob_i (ou.sl.ix (by omega) (by omega)) ?_
      refine ou.st (x := at_ 0 (l) (roundF r c ((i : Int) - a) ((k : Int) - bb))) (by omega) (by omega) rfl rfl (fun H22 ou off23 => ?_)
      replace op1 := op1.off off23 ap1Xu
      replace op8 := op8.off off23 auXp8.symm
      replace hp := hp0.le (off23.le lE nu)
      replace hvc := hvc0.le (off23.le lE nu)
      replace lE := off23.le lE nu
      refine ob_i (vInt_add (by omega) (by omega)) ?_
      replace ou : Own eI H22 u (fillL c (shG r c l a bb) (r.toNat * c.toNat) (i * c.toNat + (k + 1))) := by rw [← Nat.add_assoc, ← fillL_set (c := c) (g := shG r c l a bb) (i := (i : Int)) (k := (k : Int)) (by omega) (by omega) (by omega) (cast_ix (by omega)) (by omega)]; exact ou
      exact nxt (c.toNat - (k + 1)) (by omega) ⟨k + 1, rfl, by omega, g0L20, g1L20, g2L20, g6L20, g7L20, g8L20, (congrArg (Value.int .i64) (by first | omega | rfl | (simp; done))), op1, ou, op8, lE⟩
    · skip
      have tk := hg21
      rw [show i * c.toNat + k = (i + 1) * c.toNat by rw [Nat.add_mul, Nat.one_mul]; omega] at ou
      exact hJ19 _ _ ⟨g0L20, g1L20, g2L20, g6L20, g7L20, g8L20, op1, ou, op8, lE⟩
  · skip
    have ti := hg18
    rw [fillL_end (by rw [show i = r.toNat by omega]; exact Nat.le_refl _)] at ou
    exact hJ14 _ _ ⟨g6L17, g7L17, op1, ou, op8, lE⟩
theorem C.impl_Field_shifted_1 {p g h vc : Value} {i k r c a bb : Int} {l : List Int}  {H : Hp} {K : Value → Hp → Prop} (hp0 : Cel H p [(.int .i64 (r)), (.int .i64 (c)), vc]) (hg0 : Cel H g [(.int .i64 (a))]) (hh0 : Cel H h [(.int .i64 (bb))]) (hvc0 : Sl eI H vc l) (hf : fieldN 1 r c l) (a0 : -24 ≤ a) (a1 : a ≤ 24) (b0 : -24 ≤ bb) (b1 : bb ≤ 24) (i0 : 0 ≤ i) (i1 : i < r) (j0 : 0 ≤ k) (j1 : k < c)
    (hk : ∀ H', Le H H' → K (.int .i64 (shG r c l a bb i k)) H') : HT prg I.impl_Field_shifted_1 [(.int .i64 (i)), (.int .i64 (k)), p, g, h].toArray H K := by
  have lE := Le.refl H
  have hp := hp0
  have hg := hg0
  have hh := hh0
  have hvc := hvc0
  refine R.impl_Field_shifted_1 ?_
  unfold F.impl_Field_shifted_1
  have hs := hf.1
  have hl := hf.2.1
  have q1 := hs.1
  have q2 := hs.2
  have qm := sidesF_mul hs
  refine ob_i (hp.ldn rfl) ?_
  refine ob_i (hg.ld0 rfl) ?_
  refine ob_i (vInt_sub (by omega) (by omega)) ?_
  refine ob_i (hh.ld0 rfl) ?_
  refine ob_i (vInt_sub (by omega) (by omega)) ?_
  refine C.look_any hvc (by first | omega | assumption) (by first | omega | assumption) (by first | omega | assumption) (by first | omega | assumption) (by first | omega | assumption) (by first | omega | assumption) (fun   H1    le2 => ?_)
  replace hp := hp.le le2
  replace hg := hg.le le2
  replace hh := hh.le le2
  replace hvc := hvc.le le2
  replace lE := lE.trans le2
  skip
  exact keq (K := K) (by rw [show ((lkF true r c l (i - a) (k - bb)) : Int) = (shG r c l a bb i k) from by rfl]) (hk   _    lE)
theorem C.impl_Field_shifted {vc : Value} {r c a bb : Int} {l : List Int}  {H : Hp} {K : Value → Hp → Prop} (hvc0 : Sl eI H vc l) (hf : fieldN 1 r c l) (a0 : -24 ≤ a) (a1 : a ≤ 24) (b0 : -24 ≤ bb) (b1 : bb ≤ 24)
    (hk : ∀ u1 H', Own eI H' u1 (shL r c l a bb) → Nw H u1 → Le H H' → K (.agg #[(.int .i64 (r)), (.int .i64 (c)), u1]) H') : HT prg I.impl_Field_shifted [(.agg #[(.int .i64 (r)), (.int .i64 (c)), vc]), (.int .i64 (a)), (.int .i64 (bb))].toArray H K := by
  have lE := Le.refl H
  have hvc := hvc0
  refine R.impl_Field_shifted ?_
  unfold F.impl_Field_shifted
  have hs := hf.1
  have hl := hf.2.1
  have q1 := hs.1
  have q2 := hs.2
  have qm := sidesF_mul hs
  refine nw_i (fun p1 H2 op1 nn3 le4 => ?_)
  have np1 : Nw H p1 := nn3.le lE
  replace hvc := hvc.le le4
  replace lE := lE.trans le4
  replace op1 : Cel H2 p1 [(.int .i64 (r)), (.int .i64 (c)), vc] := op1
  refine nw_i (fun p5 H6 op5 nn7 le8 => ?_)
  have ap1Xp5 : Apart p1 p5 := op1.apart nn7
  have np5 : Nw H p5 := nn7.le lE
  replace op1 := op1.le le8
  replace hvc := hvc.le le8
  replace lE := lE.trans le8
  replace op5 : Cel H6 p5 [(.int .i64 (a))] := op5
  refine nw_i (fun p9 H10 op9 nn11 le12 => ?_)
  have ap1Xp9 : Apart p1 p9 := op1.apart nn11
  have ap5Xp9 : Apart p5 p9 := op5.apart nn11
  have np9 : Nw H p9 := nn11.le lE
  replace op1 := op1.le le12
  replace op5 := op5.le le12
  replace hvc := hvc.le le12
  replace lE := lE.trans le12
  replace op9 : Cel H10 p9 [(.int .i64 (bb))] := op9
  refine nw_i (fun p13 H14 op13 nn15 le16 => ?_)
  have ap1Xp13 : Apart p1 p13 := op1.apart nn15
  have ap5Xp13 : Apart p5 p13 := op5.apart nn15
  have ap9Xp13 : Apart p9 p13 := op9.apart nn15
  have np13 : Nw H p13 := nn15.le lE
  replace op1 := op1.le le16
  replace op5 := op5.le le16
  replace op9 := op9.le le16
  replace hvc := hvc.le le16
  replace lE := lE.trans le16
  replace op13 : Cel H14 p13 [(.int .i64 (0)), (.int .i64 (0)), (.slice none 0 0)] := op13
  refine ob_i (op1.fa 0) ?_
  refine ob_i (op1.ld 0 rfl) ?_
  refine ob_i (op1.fa 1) ?_
  refine ob_i (op1.ld 1 rfl) ?_
  refine C.impl_madeField (g := shG r c l a bb) (by omega) (by omega) (by omega) (by omega) (fun H21c i21 k21 Z leZ hi21 hk21 hZ => ?_) (fun u17 H18 ou17 nn19 le20 => ?_)
  · refine ⟨by kernel_rfl, ?_⟩
    replace op1 := op1.le leZ
    replace op5 := op5.le leZ
    replace op9 := op9.le leZ
    replace op13 := op13.le leZ
    replace hvc := hvc.le leZ
    replace lE := lE.trans leZ
    have lZ := Le.refl H21c
    refine C.impl_Field_shifted_1 op1 op5 op9 hvc (by first | omega | assumption) (by first | omega | assumption) (by first | omega | assumption) (by first | omega | assumption) (by first | omega | assumption) (by first | omega | assumption) (by first | omega | assumption) (by first | omega | assumption) (by first | omega | assumption) (fun   H22    le23 => ?_)
    replace op1 := op1.le le23
    replace op5 := op5.le le23
    replace op9 := op9.le le23
    replace op13 := op13.le le23
    replace hvc := hvc.le le23
    replace lE := lE.trans le23
    replace lZ := lZ.trans le23
    exact keq (K := Z) (by rw [show ((shG r c l a bb (i21 : Int) (k21 : Int)) : Int) = (shG r c l a bb) (i21 : Int) (k21 : Int) from rfl]) (hZ _ lZ)
  have ap1Xu17 : Apart p1 u17 := op1.apart nn19
  have ap5Xu17 : Apart p5 u17 := op5.apart nn19
  have ap9Xu17 : Apart p9 u17 := op9.apart nn19
  have ap13Xu17 : Apart p13 u17 := op13.apart nn19
  have nu17 : Nw H u17 := nn19.le lE
  replace op1 := op1.le le20
  replace op5 := op5.le le20
  replace op9 := op9.le le20
  replace op13 := op13.le le20
  replace hvc := hvc.le le20
  replace lE := lE.trans le20
  refine op13.stn (ws := [(.int .i64 (r)), (.int .i64 (c)), u17]) rfl rfl (oc1 rfl (oc1 rfl (oc1 ou17.one oc0))) (fun H24 op13 off25 => ?_)
  replace op1 := op1.off off25 ap1Xp13
  replace op5 := op5.off off25 ap5Xp13
  replace op9 := op9.off off25 ap9Xp13
  replace ou17 := ou17.off off25 ap13Xu17.symm
  replace hvc := hvc0.le (off25.le lE np13)
  replace lE := off25.le lE np13
  replace op13 : Cel H24 p13 [(.int .i64 (r)), (.int .i64 (c)), u17] := op13
  refine ob_i (op13.ldn rfl) ?_
  skip
  exact hk  u17 _ (Own.cast (show mkL (c) (shG r c l a bb) ((r : Int).toNat * (c : Int).toNat) = shL r c l a bb by first | rfl | simp) ou17) nu17  lE
theorem C.spec_MoveOf {vb vs vc : Value} {r c st : Int} {b : List Int} {s : List Int} {l : List Int}  {H : Hp} {K : Value → Hp → Prop} (hvb0 : Sl eI H vb b) (hvs0 : Sl eI H vs s) (hvc0 : Sl eI H vc l) (kb : b.length ≤ 9223372036854775807) (ks : s.length ≤ 9223372036854775807) (k1 : l.length ≤ 9223372036854775807)
    (hk : ∀ H', Le H H' → K (.tuple #[(.int .i64 (selI (mvOk b s r c l st) (((mvT b s r c l st / c.toNat / r.toNat + 1 : Nat) : Int)))), (.int .i64 (selI (mvOk b s r c l st) (((mvT b s r c l st / c.toNat % r.toNat : Nat) : Int)))), (.int .i64 (selI (mvOk b s r c l st) (((mvT b s r c l st % c.toNat : Nat) : Int)))), (.bool (decide (mvOk b s r c l st)))]) H') : HT prg I.spec_MoveOf [(.agg #[vb, vs]), (.agg #[(.int .i64 (r)), (.int .i64 (c)), vc]), (.int .i64 (st))].toArray H K := by
  have lE := Le.refl H
  have hvb := hvb0
  have hvs := hvs0
  have hvc := hvc0
  refine R.spec_MoveOf ?_
  unfold F.spec_MoveOf
  refine nw_i (fun p1 H2 op1 nn3 le4 => ?_)
  have np1 : Nw H p1 := nn3.le lE
  replace hvb := hvb.le le4
  replace hvs := hvs.le le4
  replace hvc := hvc.le le4
  replace lE := lE.trans le4
  replace op1 : Cel H2 p1 [vb, vs] := op1
  refine nw_i (fun p5 H6 op5 nn7 le8 => ?_)
  have ap1Xp5 : Apart p1 p5 := op1.apart nn7
  have np5 : Nw H p5 := nn7.le lE
  replace op1 := op1.le le8
  replace hvb := hvb.le le8
  replace hvs := hvs.le le8
  replace hvc := hvc.le le8
  replace lE := lE.trans le8
  replace op5 : Cel H6 p5 [(.int .i64 (r)), (.int .i64 (c)), vc] := op5
  refine C.spec_l04Can op1 op5 hvb hvs hvc (by first | omega | assumption) (by first | omega | assumption) (by first | omega | assumption) (fun   H9    le10 => ?_)
  replace op1 := op1.le le10
  replace op5 := op5.le le10
  replace hvb := hvb.le le10
  replace hvs := hvs.le le10
  replace hvc := hvc.le le10
  replace lE := lE.trans le10
  refine ob_nd (fun hc11 => ?_) (fun hc11 => ?_)
  · skip
    have hf := hc11.2
    have l1 := fieldN_len hf
    have hs := hf.1
    have hl := hf.2.1
    have q1 := hs.1
    have q2 := hs.2
    have qm := sidesF_mul hs
    refine gop_rf ?_
    refine gop_rf ?_
    refine C.spec_l00In  ?_
    refine gop_rf ?_
    refine ob_nd (fun hc12 => ?_) (fun hc12 => ?_)
    · skip
      refine ob_i (vPick_f _ _) ?_
      refine cnd_f1 ?_
      refine C.spec_l04Own op5 hvc (by first | omega | assumption) (fun  u15 H13 ou15 nn16  le14 => ?_)
      have ap1Xu15 : Apart p1 u15 := op1.apart nn16
      have ap5Xu15 : Apart p5 u15 := op5.apart nn16
      have nu15 : Nw H u15 := nn16.le lE
      replace op1 := op1.le le14
      replace op5 := op5.le le14
      replace hvb := hvb.le le14
      replace hvs := hvs.le le14
      replace hvc := hvc.le le14
      replace lE := lE.trans le14
      refine nw_i (fun q H17 oq nn18 le19 => ?_)
      have ap1Xq : Apart p1 q := op1.apart nn18
      have ap5Xq : Apart p5 q := op5.apart nn18
      have au15Xq : Apart u15 q := ou15.apart nn18
      have nq : Nw H q := nn18.le lE
      replace op1 := op1.le le19
      replace op5 := op5.le le19
      replace ou15 := ou15.le le19
      replace hvb := hvb.le le19
      replace hvs := hvs.le le19
      replace hvc := hvc.le le19
      replace lE := lE.trans le19
      replace oq : Cel H17 q [(.int .i64 (0)), (.int .i64 (0)), (.slice none 0 0)] := oq
      refine oq.stn (ws := [(.int .i64 (r)), (.int .i64 (c)), u15]) rfl rfl (oc1 rfl (oc1 rfl (oc1 ou15.one oc0))) (fun H20 oq off21 => ?_)
      replace op1 := op1.off off21 ap1Xq
      replace op5 := op5.off off21 ap5Xq
      replace ou15 := ou15.off off21 au15Xq
      replace hvb := hvb0.le (off21.le lE nq)
      replace hvs := hvs0.le (off21.le lE nq)
      replace hvc := hvc0.le (off21.le lE nq)
      replace lE := off21.le lE nq
      replace oq : Cel H20 q [(.int .i64 (r)), (.int .i64 (c)), u15] := oq
      refine jn_i (fun σ' H' => ∃ u, ∃ n', Cel H' p1 [vb, vs] ∧ Cel H' p5 [(.int .i64 (r)), (.int .i64 (c)), vc] ∧ Cel H' q [(.int .i64 (r)), (.int .i64 (c)), u] ∧ Own eI H' u (rnL true b s r c l n') ∧ Nw H u ∧ Apart p1 u ∧ Apart p5 u ∧ Apart q u ∧ Le H H' ∧ ∀ t, t < st.toNat * r.toNat * c.toNat → ¬ mvP b s r c l t) (fun σ22 H22 hP => ?_) (fun J22 hJ22 => ?_)
      · skip
        obtain ⟨u, n', op1, op5, oq, ou, nu, ap1Xu, ap5Xu, aqXu, lE, ho0⟩ := hP
        have hvb := hvb0.le lE
        have hvs := hvs0.le lE
        have hvc := hvc0.le lE
        skip
        have hok : ¬ (mvOk b s r c l st) := by first | exact mv_none ho0 | (intro h; first | exact absurd h.1 (by assumption) | exact absurd h.2.1 (by assumption))
        exact keq (K := K) (by rw [show ((selI (mvOk b s r c l st) (((mvT b s r c l st / c.toNat / r.toNat + 1 : Nat) : Int))) : Int) = (0) from by first | exact selI_f hok | (rw [selI_t hok, eT, e3.1]; omega) | (rw [selI_t hok, eT, e3.2.1]) | (rw [selI_t hok, eT, e3.2.2])]; rw [show ((selI (mvOk b s r c l st) (((mvT b s r c l st / c.toNat % r.toNat : Nat) : Int))) : Int) = (0) from by first | exact selI_f hok | (rw [selI_t hok, eT, e3.1]; omega) | (rw [selI_t hok, eT, e3.2.1]) | (rw [selI_t hok, eT, e3.2.2])]; rw [show ((selI (mvOk b s r c l st) (((mvT b s r c l st % c.toNat : Nat) : Int))) : Int) = (0) from by first | exact selI_f hok | (rw [selI_t hok, eT, e3.1]; omega) | (rw [selI_t hok, eT, e3.2.1]) | (rw [selI_t hok, eT, e3.2.2])]; rw [decide_eq_false (show ¬ (mvOk b s r c l st) from by exact hok)]) (hk   _    lE)
      refine ⟨fun n' σ' H' => ∃ n : Nat, n' = st.toNat - n ∧ n ≤ st.toNat ∧ ∃ u, σ' 2 = (.int .i64 (st)) ∧ σ' 3 = p1 ∧ σ' 4 = p5 ∧ σ' 10 = q ∧ σ' 11 = (.int .i64 ((n : Int) + 1)) ∧ Cel H' p1 [vb, vs] ∧ Cel H' p5 [(.int .i64 (r)), (.int .i64 (c)), vc] ∧ Cel H' q [(.int .i64 (r)), (.int .i64 (c)), u] ∧ Own eI H' u (rnL true b s r c l n) ∧ Nw H u ∧ Apart p1 u ∧ Apart p5 u ∧ Apart q u ∧ Le H H' ∧ ∀ t, t < n * r.toNat * c.toNat → ¬ mvP b s r c l t,
        ⟨_, 0, rfl, by omega, u15, rfl, rfl, rfl, rfl, (congrArg (Value.int .i64) (by first | omega | rfl | (simp; done))), op1, op5, oq, (Own.cast (by first | rfl | (simp; done)) ou15), nu15, ap1Xu15, ap5Xu15, au15Xq.symm, lE, (fun t h => by rw [Nat.zero_mul, Nat.zero_mul] at h; omega)⟩, ?_⟩
      rintro n23 σ23 H23 ⟨n, rfl, hnN, u, g2L23, g3L23, g4L23, g10L23, g11L23, op1, op5, oq, ou, nu, ap1Xu, ap5Xu, aqXu, lE, hm0⟩
      have hvb := hvb0.le lE
      have hvs := hvs0.le lE
      have hvc := hvc0.le lE
      try simp only [g2L23, g3L23, g4L23, g10L23, g11L23]
      have hfi : fieldN 1 r c (rnL true b s r c l n) := rnL_field hf n
      have hfn : fieldN 1 r c (nxL true b s r c (rnL true b s r c l n)) := nxL_field hf.1
      have hln := fieldN_len hfn
      have e01 := cntE_one hfn.2.2
      have e02 := cntE_one hf.2.2
      refine ob_i (vInt_leq _ _ _) ?_
      refine cnd_d (fun hg24 => ?_) (fun hg24 => ?_)
      · skip
        have tn := hg24
        refine jn_i (fun σ' H' => ∃ u, σ' 2 = (.int .i64 (st)) ∧ σ' 3 = p1 ∧ σ' 4 = p5 ∧ σ' 10 = q ∧ σ' 11 = (.int .i64 ((n : Int) + 1)) ∧ Cel H' p1 [vb, vs] ∧ Cel H' p5 [(.int .i64 (r)), (.int .i64 (c)), vc] ∧ Cel H' q [(.int .i64 (r)), (.int .i64 (c)), u] ∧ Own eI H' u (rnL true b s r c l (n + 1)) ∧ Nw H u ∧ Apart p1 u ∧ Apart p5 u ∧ Apart q u ∧ Le H H' ∧ ∀ t, t < (n + 1) * r.toNat * c.toNat → ¬ mvP b s r c l t) (fun σ25 H25 hP => ?_) (fun J25 hJ25 => ?_)
        · skip
          obtain ⟨u, g2L25, g3L25, g4L25, g10L25, g11L25, op1, op5, oq, ou, nu, ap1Xu, ap5Xu, aqXu, lE, ho2⟩ := hP
          have hvb := hvb0.le lE
          have hvs := hvs0.le lE
          have hvc := hvc0.le lE
          try simp only [g11L25]
          refine ob_i (vInt_add (by omega) (by omega)) ?_
          exact nxt (st.toNat - (n + 1)) (by omega) ⟨n + 1, rfl, by omega, u, g2L25, g3L25, g4L25, g10L25, (congrArg (Value.int .i64) (by first | omega | rfl | (simp; done))), op1, op5, oq, ou, nu, ap1Xu, ap5Xu, aqXu, lE, ho2⟩
        refine C.spec_l04Next op1 oq hvb hvs ou.sl (by first | omega | assumption) (by first | omega | assumption) (by first | omega | assumption) (fun  u28 H26 ou28 nn29  le27 => ?_)
        have ap1Xu28 : Apart p1 u28 := op1.apart nn29
        have ap5Xu28 : Apart p5 u28 := op5.apart nn29
        have aqXu28 : Apart q u28 := oq.apart nn29
        have auXu28 : Apart u u28 := ou.apart nn29
        have nu28 : Nw H u28 := nn29.le lE
        replace op1 := op1.le le27
        replace op5 := op5.le le27
        replace oq := oq.le le27
        replace ou := ou.le le27
        replace hvb := hvb.le le27
        replace hvs := hvs.le le27
        replace hvc := hvc.le le27
        replace lE := lE.trans le27
        refine oq.stn (ws := [(.int .i64 (r)), (.int .i64 (c)), u28]) rfl rfl (oc1 rfl (oc1 rfl (oc1 ou28.one oc0))) (fun H30 oq off31 => ?_)
        replace op1 := op1.off off31 ap1Xq
        replace op5 := op5.off off31 ap5Xq
        replace ou := ou.off off31 aqXu.symm
        replace ou28 := ou28.off off31 aqXu28.symm
        replace hvb := hvb0.le (off31.le lE nq)
        replace hvs := hvs0.le (off31.le lE nq)
        replace hvc := hvc0.le (off31.le lE nq)
        replace lE := off31.le lE nq
        replace oq : Cel H30 q [(.int .i64 (r)), (.int .i64 (c)), u28] := oq
        refine ⟨fun n' σ' H' => ∃ i : Nat, n' = r.toNat - i ∧ i ≤ r.toNat ∧ σ' 2 = (.int .i64 (st)) ∧ σ' 3 = p1 ∧ σ' 4 = p5 ∧ σ' 10 = q ∧ σ' 11 = (.int .i64 ((n : Int) + 1)) ∧ σ' 12 = (.int .i64 ((i : Int))) ∧ Cel H' p1 [vb, vs] ∧ Cel H' p5 [(.int .i64 (r)), (.int .i64 (c)), vc] ∧ Cel H' q [(.int .i64 (r)), (.int .i64 (c)), u28] ∧ Own eI H' u (rnL true b s r c l n) ∧ Own eI H' u28 (nxL true b s r c (rnL true b s r c l n)) ∧ Le H H' ∧ ∀ t, t < (n * r.toNat + i) * c.toNat → ¬ mvP b s r c l t,
          ⟨_, 0, rfl, by omega, g2L23, g3L23, g4L23, g10L23, g11L23, (congrArg (Value.int .i64) (by first | omega | rfl | (simp; done))), op1, op5, oq, ou, ou28, lE, (fun t h => hm0 t (by simpa using h))⟩, ?_⟩
        rintro n32 σ32 H32 ⟨i, rfl, hiN, g2L32, g3L32, g4L32, g10L32, g11L32, g12L32, op1, op5, oq, ou, ou28, lE, hm1⟩
        have hvb := hvb0.le lE
        have hvs := hvs0.le lE
        have hvc := hvc0.le lE
        try simp only [g4L32, g10L32, g11L32, g12L32]
        refine ob_i (op5.fa 0) ?_
        refine ob_i (op5.ld 0 rfl) ?_
        refine ob_i (vInt_lss _ _ _) ?_
        by_cases hc33 : (i : Int) < r
        · skip
          refine gop_e (decide_eq_true hc33) ?_
          refine gop_rt ?_
          refine ob_i (oq.fa 2) ?_
          refine gop_e (decide_eq_true hc33) ?_
          refine gop_rt ?_
          refine ob_i (oq.ld 2 rfl) ?_
          refine gop_e (decide_eq_true hc33) ?_
          refine gop_rt ?_
          refine ob_i (op5.fa 2) ?_
          refine gop_e (decide_eq_true hc33) ?_
          refine gop_rt ?_
          refine ob_i (op5.ld 2 rfl) ?_
          refine gop_e (decide_eq_true hc33) ?_
          refine gop_rt ?_
          refine C.spec_l02Sum ou28.sl (by first | omega | assumption) (by first | assumption | exact fun x hx => ⟨(hfn.2.2 x hx).1, by have := (hfn.2.2 x hx).2; omega⟩ | exact fun x hx => ⟨(hf.2.2 x hx).1, by have := (hf.2.2 x hx).2; omega⟩) (fun   H34    le35 => ?_)
          replace op1 := op1.le le35
          replace op5 := op5.le le35
          replace oq := oq.le le35
          replace ou := ou.le le35
          replace ou28 := ou28.le le35
          replace hvb := hvb.le le35
          replace hvs := hvs.le le35
          replace hvc := hvc.le le35
          replace lE := lE.trans le35
          refine ⟨le35, ?_⟩
          refine gop_e (decide_eq_true hc33) ?_
          refine gop_rt ?_
          refine C.spec_l02Sum hvc (by first | omega | assumption) (by first | assumption | exact fun x hx => ⟨(hfn.2.2 x hx).1, by have := (hfn.2.2 x hx).2; omega⟩ | exact fun x hx => ⟨(hf.2.2 x hx).1, by have := (hf.2.2 x hx).2; omega⟩) (fun   H36    le37 => ?_)
          replace op1 := op1.le le37
          replace op5 := op5.le le37
          replace oq := oq.le le37
          replace ou := ou.le le37
          replace ou28 := ou28.le le37
          replace hvb := hvb.le le37
          replace hvs := hvs.le le37
          replace hvc := hvc.le le37
          replace lE := lE.trans le37
          refine ⟨le37, ?_⟩
          refine gop_e (decide_eq_true hc33) ?_
          refine gop_rt ?_
          refine ob_i (vInt_eql _ _ _) ?_
          refine ob_i (vPick_et (decide_eq_true hc33) _ _) ?_
          refine cnd_d (fun hg38 => ?_) (fun hg38 => ?_)
          · skip
            refine jn_i (fun σ' H' => σ' 2 = (.int .i64 (st)) ∧ σ' 3 = p1 ∧ σ' 4 = p5 ∧ σ' 10 = q ∧ σ' 11 = (.int .i64 ((n : Int) + 1)) ∧ σ' 12 = (.int .i64 ((i : Int))) ∧ Cel H' p1 [vb, vs] ∧ Cel H' p5 [(.int .i64 (r)), (.int .i64 (c)), vc] ∧ Cel H' q [(.int .i64 (r)), (.int .i64 (c)), u28] ∧ Own eI H' u (rnL true b s r c l n) ∧ Own eI H' u28 (nxL true b s r c (rnL true b s r c l n)) ∧ Le H H' ∧ ∀ t, t < (n * r.toNat + (i + 1)) * c.toNat → ¬ mvP b s r c l t) (fun σ39 H39 hP => ?_) (fun J39 hJ39 => ?_)
            · skip
              obtain ⟨g2L39, g3L39, g4L39, g10L39, g11L39, g12L39, op1, op5, oq, ou, ou28, lE, ho3⟩ := hP
              have hvb := hvb0.le lE
              have hvs := hvs0.le lE
              have hvc := hvc0.le lE
              try simp only [g12L39]
              refine ob_i (vInt_add (by omega) (by omega)) ?_
              exact nxt (r.toNat - (i + 1)) (by omega) ⟨i + 1, rfl, by omega, g2L39, g3L39, g4L39, g10L39, g11L39, (congrArg (Value.int .i64) (by first | omega | rfl | (simp; done))), op1, op5, oq, ou, ou28, lE, ho3⟩
            refine ⟨fun n' σ' H' => ∃ k : Nat, n' = c.toNat - k ∧ k ≤ c.toNat ∧ σ' 2 = (.int .i64 (st)) ∧ σ' 3 = p1 ∧ σ' 4 = p5 ∧ σ' 10 = q ∧ σ' 11 = (.int .i64 ((n : Int) + 1)) ∧ σ' 12 = (.int .i64 ((i : Int))) ∧ σ' 13 = (.int .i64 ((k : Int))) ∧ Cel H' p1 [vb, vs] ∧ Cel H' p5 [(.int .i64 (r)), (.int .i64 (c)), vc] ∧ Cel H' q [(.int .i64 (r)), (.int .i64 (c)), u28] ∧ Own eI H' u (rnL true b s r c l n) ∧ Own eI H' u28 (nxL true b s r c (rnL true b s r c l n)) ∧ Le H H' ∧ ∀ t, t < (n * r.toNat + i) * c.toNat + k → ¬ mvP b s r c l t,
              ⟨_, 0, rfl, by omega, g2L32, g3L32, g4L32, g10L32, g11L32, g12L32, (congrArg (Value.int .i64) (by first | omega | rfl | (simp; done))), op1, op5, oq, ou, ou28, lE, hm1⟩, ?_⟩
            rintro n40 σ40 H40 ⟨k, rfl, hkN, g2L40, g3L40, g4L40, g10L40, g11L40, g12L40, g13L40, op1, op5, oq, ou, ou28, lE, hm2⟩
            have hvb := hvb0.le lE
            have hvs := hvs0.le lE
            have hvc := hvc0.le lE
            try simp only [g4L40, g10L40, g11L40, g12L40, g13L40]
            refine ob_i (op5.fa 1) ?_
            refine ob_i (op5.ld 1 rfl) ?_
            refine ob_i (vInt_lss _ _ _) ?_
            refine cnd_d (fun hg41 => ?_) (fun hg41 => ?_)
            · skip
              have tk := hg41
              have hsl := shL_len (r := r) (c := c) (a := (i : Int)) (b := (k : Int)) (l := l) hs
              refine C.spec_l04Shift op5 hvc (by first | omega | assumption) (by first | omega | assumption) (by first | omega | assumption) (by first | omega | assumption) (by first | omega | assumption) (fun  u44 H42 ou44 nn45  le43 => ?_)
              have ap1Xu44 : Apart p1 u44 := op1.apart nn45
              have ap5Xu44 : Apart p5 u44 := op5.apart nn45
              have aqXu44 : Apart q u44 := oq.apart nn45
              have auXu44 : Apart u u44 := ou.apart nn45
              have au28Xu44 : Apart u28 u44 := ou28.apart nn45
              have nu44 : Nw H u44 := nn45.le lE
              replace op1 := op1.le le43
              replace op5 := op5.le le43
              replace oq := oq.le le43
              replace ou := ou.le le43
              replace ou28 := ou28.le le43
              replace hvb := hvb.le le43
              replace hvs := hvs.le le43
              replace hvc := hvc.le le43
              replace lE := lE.trans le43
              refine nw_i (fun p46 H47 op46 nn48 le49 => ?_)
              have ap1Xp46 : Apart p1 p46 := op1.apart nn48
              have ap5Xp46 : Apart p5 p46 := op5.apart nn48
              have aqXp46 : Apart q p46 := oq.apart nn48
              have auXp46 : Apart u p46 := ou.apart nn48
              have au28Xp46 : Apart u28 p46 := ou28.apart nn48
              have au44Xp46 : Apart u44 p46 := ou44.apart nn48
              have np46 : Nw H p46 := nn48.le lE
              replace op1 := op1.le le49
              replace op5 := op5.le le49
              replace oq := oq.le le49
              replace ou := ou.le le49
              replace ou28 := ou28.le le49
              replace ou44 := ou44.le le49
              replace hvb := hvb.le le49
              replace hvs := hvs.le le49
              replace hvc := hvc.le le49
              replace lE := lE.trans le49
              replace op46 : Cel H47 p46 [(.int .i64 (0)), (.int .i64 (0)), (.slice none 0 0)] := op46
              refine op46.stn (ws := [(.int .i64 (r)), (.int .i64 (c)), u44]) rfl rfl (oc1 rfl (oc1 rfl (oc1 ou44.one oc0))) (fun H50 op46 off51 => ?_)
              replace op1 := op1.off off51 ap1Xp46
              replace op5 := op5.off off51 ap5Xp46
              replace oq := oq.off off51 aqXp46
              replace ou := ou.off off51 auXp46
              replace ou28 := ou28.off off51 au28Xp46
              replace ou44 := ou44.off off51 au44Xp46
              replace hvb := hvb0.le (off51.le lE np46)
              replace hvs := hvs0.le (off51.le lE np46)
              replace hvc := hvc0.le (off51.le lE np46)
              replace lE := off51.le lE np46
              replace op46 : Cel H50 p46 [(.int .i64 (r)), (.int .i64 (c)), u44] := op46
              refine C.spec_l04Same op46 oq ou44.sl ou28.sl (by first | omega | assumption) (fun   H52    le53 => ?_)
              replace op1 := op1.le le53
              replace op5 := op5.le le53
              replace oq := oq.le le53
              replace ou := ou.le le53
              replace ou28 := ou28.le le53
              replace ou44 := ou44.le le53
              replace op46 := op46.le le53
              replace hvb := hvb.le le53
              replace hvs := hvs.le le53
              replace hvc := hvc.le le53
              replace lE := lE.trans le53
              refine cnd_d (fun hg54 => ?_) (fun hg54 => ?_)
              · skip
                refine retK (K := K) (v' := (.tuple #[(.int .i64 ((n : Int) + 1)), (.int .i64 ((i : Int))), (.int .i64 ((k : Int))), (.bool true)])) rfl ?_
                skip
                have hT := mv_hit (by assumption) (by assumption) (mv_is (b := b) (s := s) (r := r) (c := c) (l := l) (n := n) (i := i) (k := k) (by omega) (by omega) (e01.trans (hg38.trans e02.symm)) hg54.2.2.symm) hm2 (mv_lt (st := st) (by omega) (by omega) (by omega))
                have eT := hT.2
                have e3 := tri (n := n) (i := i) (k := k) (r := r.toNat) (c := c.toNat) (by omega) (by omega)
                have hok : mvOk b s r c l st := by exact hT.1
                exact keq (K := K) (by rw [show ((selI (mvOk b s r c l st) (((mvT b s r c l st / c.toNat / r.toNat + 1 : Nat) : Int))) : Int) = ((n : Int) + 1) from by first | exact selI_f hok | (rw [selI_t hok, eT, e3.1]; omega) | (rw [selI_t hok, eT, e3.2.1]) | (rw [selI_t hok, eT, e3.2.2])]; rw [show ((selI (mvOk b s r c l st) (((mvT b s r c l st / c.toNat % r.toNat : Nat) : Int))) : Int) = ((i : Int)) from by first | exact selI_f hok | (rw [selI_t hok, eT, e3.1]; omega) | (rw [selI_t hok, eT, e3.2.1]) | (rw [selI_t hok, eT, e3.2.2])]; rw [show ((selI (mvOk b s r c l st) (((mvT b s r c l st % c.toNat : Nat) : Int))) : Int) = ((k : Int)) from by first | exact selI_f hok | (rw [selI_t hok, eT, e3.1]; omega) | (rw [selI_t hok, eT, e3.2.1]) | (rw [selI_t hok, eT, e3.2.2])]; rw [decide_eq_true (show (mvOk b s r c l st) from by exact hok)]) (hk   _    lE)
              · skip
                refine ob_i (vInt_add (by omega) (by omega)) ?_
                exact nxt (c.toNat - (k + 1)) (by omega) ⟨k + 1, rfl, by omega, g2L40, g3L40, g4L40, g10L40, g11L40, g12L40, (congrArg (Value.int .i64) (by first | omega | rfl | (simp; done))), op1, op5, oq, ou, ou28, lE, mv_next (by omega) (by omega) hm2 (fun h => hg54 ⟨rfl, rfl, h.symm⟩)⟩
            · skip
              have tk := hg41
              exact hJ39 _ _ ⟨g2L40, g3L40, g4L40, g10L40, g11L40, g12L40, op1, op5, oq, ou, ou28, lE, (mv_row (by omega) hm2)⟩
          · skip
            exact hJ25 _ _ ⟨u28, g2L32, g3L32, g4L32, g10L32, g11L32, op1, op5, oq, ou28, nu28, ap1Xu28, ap5Xu28, aqXu28, lE, (mv_skip (fun h => hg38 (e01.symm.trans (h.trans e02))) hm1)⟩
        · skip
          refine gop_e (decide_eq_false hc33) ?_
          refine gop_sf ?_
          refine gop_e (decide_eq_false hc33) ?_
          refine gop_sf ?_
          refine gop_e (decide_eq_false hc33) ?_
          refine gop_sf ?_
          refine gop_e (decide_eq_false hc33) ?_
          refine gop_sf ?_
          refine gop_e (decide_eq_false hc33) ?_
          refine gop_sf ?_
          refine gop_e (decide_eq_false hc33) ?_
          refine gop_sf ?_
          refine gop_e (decide_eq_false hc33) ?_
          refine gop_sf ?_
          refine ob_i (vPick_ef (decide_eq_false hc33) _ _) ?_
          refine cnd_f1 ?_
          exact hJ25 _ _ ⟨u28, g2L32, g3L32, g4L32, g10L32, g11L32, op1, op5, oq, ou28, nu28, ap1Xu28, ap5Xu28, aqXu28, lE, (mv_round (by omega) hm1)⟩
      · skip
        have tn := hg24
        exact hJ22 _ _ ⟨u, n, op1, op5, oq, ou, nu, ap1Xu, ap5Xu, aqXu, lE, (fun t h => hm0 t (by rw [show n = st.toNat by omega]; exact h))⟩
    · skip
      refine ob_i (vPick_f _ _) ?_
      refine cnd_t1 ?_
      skip
      have hok : ¬ (mvOk b s r c l st) := by first | exact mv_none ho0 | (intro h; first | exact absurd h.1 (by assumption) | exact absurd h.2.1 (by assumption))
      exact keq (K := K) (by rw [show ((selI (mvOk b s r c l st) (((mvT b s r c l st / c.toNat / r.toNat + 1 : Nat) : Int))) : Int) = (0) from by first | exact selI_f hok | (rw [selI_t hok, eT, e3.1]; omega) | (rw [selI_t hok, eT, e3.2.1]) | (rw [selI_t hok, eT, e3.2.2])]; rw [show ((selI (mvOk b s r c l st) (((mvT b s r c l st / c.toNat % r.toNat : Nat) : Int))) : Int) = (0) from by first | exact selI_f hok | (rw [selI_t hok, eT, e3.1]; omega) | (rw [selI_t hok, eT, e3.2.1]) | (rw [selI_t hok, eT, e3.2.2])]; rw [show ((selI (mvOk b s r c l st) (((mvT b s r c l st % c.toNat : Nat) : Int))) : Int) = (0) from by first | exact selI_f hok | (rw [selI_t hok, eT, e3.1]; omega) | (rw [selI_t hok, eT, e3.2.1]) | (rw [selI_t hok, eT, e3.2.2])]; rw [decide_eq_false (show ¬ (mvOk b s r c l st) from by exact hok)]) (hk   _    lE)
  · skip
    refine gop_st ?_
    refine gop_st ?_
    refine gop_st ?_
    refine ob_i (vPick_t _ _) ?_
    refine cnd_t1 ?_
    skip
    have hok : ¬ (mvOk b s r c l st) := by first | exact mv_none ho0 | (intro h; first | exact absurd h.1 (by assumption) | exact absurd h.2.1 (by assumption))
    exact keq (K := K) (by rw [show ((selI (mvOk b s r c l st) (((mvT b s r c l st / c.toNat / r.toNat + 1 : Nat) : Int))) : Int) = (0) from by first | exact selI_f hok | (rw [selI_t hok, eT, e3.1]; omega) | (rw [selI_t hok, eT, e3.2.1]) | (rw [selI_t hok, eT, e3.2.2])]; rw [show ((selI (mvOk b s r c l st) (((mvT b s r c l st / c.toNat % r.toNat : Nat) : Int))) : Int) = (0) from by first | exact selI_f hok | (rw [selI_t hok, eT, e3.1]; omega) | (rw [selI_t hok, eT, e3.2.1]) | (rw [selI_t hok, eT, e3.2.2])]; rw [show ((selI (mvOk b s r c l st) (((mvT b s r c l st % c.toNat : Nat) : Int))) : Int) = (0) from by first | exact selI_f hok | (rw [selI_t hok, eT, e3.1]; omega) | (rw [selI_t hok, eT, e3.2.1]) | (rw [selI_t hok, eT, e3.2.2])]; rw [decide_eq_false (show ¬ (mvOk b s r c l st) from by exact hok)]) (hk   _    lE)
theorem C.impl_MoveOf {vb vs vc : Value} {r c st : Int} {b : List Int} {s : List Int} {l : List Int}  {H : Hp} {K : Value → Hp → Prop} (hvb0 : Sl eI H vb b) (hvs0 : Sl eI H vs s) (hvc0 : Sl eI H vc l) (kb : b.length ≤ 9223372036854775807) (ks : s.length ≤ 9223372036854775807) (k1 : l.length ≤ 9223372036854775807)
    (hk : ∀ H', Le H H' → K (.tuple #[(.int .i64 (selI (mvOk b s r c l st) (((mvT b s r c l st / c.toNat / r.toNat + 1 : Nat) : Int)))), (.int .i64 (selI (mvOk b s r c l st) (((mvT b s r c l st / c.toNat % r.toNat : Nat) : Int)))), (.int .i64 (selI (mvOk b s r c l st) (((mvT b s r c l st % c.toNat : Nat) : Int)))), (.bool (decide (mvOk b s r c l st)))]) H') : HT prg I.impl_MoveOf [(.agg #[vb, vs]), (.agg #[(.int .i64 (r)), (.int .i64 (c)), vc]), (.int .i64 (st))].toArray H K := by
  have lE := Le.refl H
  have hvb := hvb0
  have hvs := hvs0
  have hvc := hvc0
  refine R.impl_MoveOf ?_
  unfold F.impl_MoveOf
  refine nw_i (fun p1 H2 op1 nn3 le4 => ?_)
  have np1 : Nw H p1 := nn3.le lE
  replace hvb := hvb.le le4
  replace hvs := hvs.le le4
  replace hvc := hvc.le le4
  replace lE := lE.trans le4
  replace op1 : Cel H2 p1 [vb, vs] := op1
  refine nw_i (fun p5 H6 op5 nn7 le8 => ?_)
  have ap1Xp5 : Apart p1 p5 := op1.apart nn7
  have np5 : Nw H p5 := nn7.le lE
  replace op1 := op1.le le8
  replace hvb := hvb.le le8
  replace hvs := hvs.le le8
  replace hvc := hvc.le le8
  replace lE := lE.trans le8
  replace op5 : Cel H6 p5 [(.int .i64 (r)), (.int .i64 (c)), vc] := op5
  refine ob_i (op1.ldn rfl) ?_
  refine ob_i (op5.ldn rfl) ?_
  refine bSE_one (enc := encFv) (x := (⟨r, c, vc⟩ : Fv)) rfl rfl (by omega) (by omega) rfl (fun u9 H10 ou9 nn11 le13 => ?_) rfl
  have ap1Xu9 : Apart p1 u9 := op1.apart nn11
  have ap5Xu9 : Apart p5 u9 := op5.apart nn11
  have nu9 : Nw H u9 := nn11.le lE
  replace op1 := op1.le le13
  replace op5 := op5.le le13
  replace hvb := hvb.le le13
  replace hvs := hvs.le le13
  replace hvc := hvc.le le13
  replace lE := lE.trans le13
  refine C.impl_lives hvb hvs hvc (ou9.sl encFv_n) (by first | omega | assumption) (by first | omega | assumption) (by first | omega | assumption) (fun   H14    le15 => ?_)
  replace op1 := op1.le le15
  replace op5 := op5.le le15
  replace ou9 := ou9.le le15
  replace hvb := hvb.le le15
  replace hvs := hvs.le le15
  replace hvc := hvc.le le15
  replace lE := lE.trans le15
  refine ob_nd (fun hc16 => ?_) (fun hc16 => ?_)
  · skip
    have hf := hc16.2
    have l1 := fieldN_len hf
    have hs := hf.1
    have hl := hf.2.1
    have q1 := hs.1
    have q2 := hs.2
    have qm := sidesF_mul hs
    refine gop_rf ?_
    refine gop_rf ?_
    refine C.impl_within  ?_
    refine gop_rf ?_
    refine ob_nd (fun hc17 => ?_) (fun hc17 => ?_)
    · skip
      refine ob_i (vPick_f _ _) ?_
      refine cnd_f1 ?_
      refine ob_i (op5.ldn rfl) ?_
      refine nw_i (fun q H18 oq nn19 le20 => ?_)
      have ap1Xq : Apart p1 q := op1.apart nn19
      have ap5Xq : Apart p5 q := op5.apart nn19
      have au9Xq : Apart u9 q := ou9.apart nn19
      have nq : Nw H q := nn19.le lE
      replace op1 := op1.le le20
      replace op5 := op5.le le20
      replace ou9 := ou9.le le20
      replace hvb := hvb.le le20
      replace hvs := hvs.le le20
      replace hvc := hvc.le le20
      replace lE := lE.trans le20
      replace oq : Cel H18 q [(.int .i64 (0)), (.int .i64 (0)), (.slice none 0 0)] := oq
      refine oq.stn (ws := [(.int .i64 (r)), (.int .i64 (c)), vc]) rfl rfl (oc1 rfl (oc1 rfl (oc1 hvc.one oc0))) (fun H21 oq off22 => ?_)
      replace op1 := op1.off off22 ap1Xq
      replace op5 := op5.off off22 ap5Xq
      replace ou9 := ou9.off off22 au9Xq
      replace hvb := hvb0.le (off22.le lE nq)
      replace hvs := hvs0.le (off22.le lE nq)
      replace hvc := hvc0.le (off22.le lE nq)
      replace lE := off22.le lE nq
      replace oq : Cel H21 q [(.int .i64 (r)), (.int .i64 (c)), vc] := oq
      refine jn_i (fun σ' H' => ∃ u, ∃ n', Cel H' p1 [vb, vs] ∧ Cel H' p5 [(.int .i64 (r)), (.int .i64 (c)), vc] ∧ OwnE 3 encFv H' u9 ([⟨r, c, vc⟩]) ∧ Cel H' q [(.int .i64 (r)), (.int .i64 (c)), u] ∧ Ro eI H' u (rnL true b s r c l n') ∧ Apart p1 u ∧ Apart p5 u ∧ Apart u9 u ∧ Apart q u ∧ Le H H' ∧ ∀ t, t < st.toNat * r.toNat * c.toNat → ¬ mvP b s r c l t) (fun σ23 H23 hP => ?_) (fun J23 hJ23 => ?_)
      · skip
        obtain ⟨u, n', op1, op5, ou9, oq, ou, ap1Xu, ap5Xu, au9Xu, aqXu, lE, ho0⟩ := hP
        have hvb := hvb0.le lE
        have hvs := hvs0.le lE
        have hvc := hvc0.le lE
        skip
        have hok : ¬ (mvOk b s r c l st) := by first | exact mv_none ho0 | (intro h; first | exact absurd h.1 (by assumption) | exact absurd h.2.1 (by assumption))
        exact keq (K := K) (by rw [show ((selI (mvOk b s r c l st) (((mvT b s r c l st / c.toNat / r.toNat + 1 : Nat) : Int))) : Int) = (0) from by first | exact selI_f hok | (rw [selI_t hok, eT, e3.1]; omega) | (rw [selI_t hok, eT, e3.2.1]) | (rw [selI_t hok, eT, e3.2.2])]; rw [show ((selI (mvOk b s r c l st) (((mvT b s r c l st / c.toNat % r.toNat : Nat) : Int))) : Int) = (0) from by first | exact selI_f hok | (rw [selI_t hok, eT, e3.1]; omega) | (rw [selI_t hok, eT, e3.2.1]) | (rw [selI_t hok, eT, e3.2.2])]; rw [show ((selI (mvOk b s r c l st) (((mvT b s r c l st % c.toNat : Nat) : Int))) : Int) = (0) from by first | exact selI_f hok | (rw [selI_t hok, eT, e3.1]; omega) | (rw [selI_t hok, eT, e3.2.1]) | (rw [selI_t hok, eT, e3.2.2])]; rw [decide_eq_false (show ¬ (mvOk b s r c l st) from by exact hok)]) (hk   _    lE)
      refine ⟨fun n' σ' H' => ∃ n : Nat, n' = st.toNat - n ∧ n ≤ st.toNat ∧ ∃ u, σ' 2 = (.int .i64 (st)) ∧ σ' 3 = p1 ∧ σ' 4 = p5 ∧ σ' 10 = q ∧ σ' 11 = (.int .i64 ((n : Int) + 1)) ∧ Cel H' p1 [vb, vs] ∧ Cel H' p5 [(.int .i64 (r)), (.int .i64 (c)), vc] ∧ OwnE 3 encFv H' u9 ([⟨r, c, vc⟩]) ∧ Cel H' q [(.int .i64 (r)), (.int .i64 (c)), u] ∧ Ro eI H' u (rnL true b s r c l n) ∧ Apart p1 u ∧ Apart p5 u ∧ Apart u9 u ∧ Apart q u ∧ Le H H' ∧ ∀ t, t < n * r.toNat * c.toNat → ¬ mvP b s r c l t,
        ⟨_, 0, rfl, by omega, vc, rfl, rfl, rfl, rfl, (congrArg (Value.int .i64) (by first | omega | rfl | (simp; done))), op1, op5, ou9, oq, (Ro.cast (by first | rfl | (simp; done)) (Ro.of_sl hvc (by omega))), ((Ro.of_sl hvc0 (by omega)).apart np1).symm, ((Ro.of_sl hvc0 (by omega)).apart np5).symm, ((Ro.of_sl hvc0 (by omega)).apart nu9).symm, ((Ro.of_sl hvc0 (by omega)).apart nq).symm, lE, (fun t h => by rw [Nat.zero_mul, Nat.zero_mul] at h; omega)⟩, ?_⟩
      rintro n24 σ24 H24 ⟨n, rfl, hnN, u, g2L24, g3L24, g4L24, g10L24, g11L24, op1, op5, ou9, oq, ou, ap1Xu, ap5Xu, au9Xu, aqXu, lE, hm0⟩
      have hvb := hvb0.le lE
      have hvs := hvs0.le lE
      have hvc := hvc0.le lE
      try simp only [g2L24, g3L24, g4L24, g10L24, g11L24]
      have hfi : fieldN 1 r c (rnL true b s r c l n) := rnL_field hf n
      have hfn : fieldN 1 r c (nxL true b s r c (rnL true b s r c l n)) := nxL_field hf.1
      have hln := fieldN_len hfn
      refine ob_i (vInt_leq _ _ _) ?_
      refine cnd_d (fun hg25 => ?_) (fun hg25 => ?_)
      · skip
        have tn := hg25
        refine jn_i (fun σ' H' => ∃ u, σ' 2 = (.int .i64 (st)) ∧ σ' 3 = p1 ∧ σ' 4 = p5 ∧ σ' 10 = q ∧ σ' 11 = (.int .i64 ((n : Int) + 1)) ∧ Cel H' p1 [vb, vs] ∧ Cel H' p5 [(.int .i64 (r)), (.int .i64 (c)), vc] ∧ OwnE 3 encFv H' u9 ([⟨r, c, vc⟩]) ∧ Cel H' q [(.int .i64 (r)), (.int .i64 (c)), u] ∧ Ro eI H' u (rnL true b s r c l (n + 1)) ∧ Apart p1 u ∧ Apart p5 u ∧ Apart u9 u ∧ Apart q u ∧ Le H H' ∧ ∀ t, t < (n + 1) * r.toNat * c.toNat → ¬ mvP b s r c l t) (fun σ26 H26 hP => ?_) (fun J26 hJ26 => ?_)
        · skip
          obtain ⟨u, g2L26, g3L26, g4L26, g10L26, g11L26, op1, op5, ou9, oq, ou, ap1Xu, ap5Xu, au9Xu, aqXu, lE, ho2⟩ := hP
          have hvb := hvb0.le lE
          have hvs := hvs0.le lE
          have hvc := hvc0.le lE
          try simp only [g11L26]
          refine ob_i (vInt_add (by omega) (by omega)) ?_
          exact nxt (st.toNat - (n + 1)) (by omega) ⟨n + 1, rfl, by omega, u, g2L26, g3L26, g4L26, g10L26, (congrArg (Value.int .i64) (by first | omega | rfl | (simp; done))), op1, op5, ou9, oq, ou, ap1Xu, ap5Xu, au9Xu, aqXu, lE, ho2⟩
        refine ob_i (op1.ldn rfl) ?_
        refine ob_i (oq.ldn rfl) ?_
        refine C.impl_Life_step hvb hvs ou.sl (by first | omega | assumption) (by first | omega | assumption) (by first | omega | assumption) (fun  u29 H27 ou29 nn30  le28 => ?_)
        have ap1Xu29 : Apart p1 u29 := op1.apart nn30
        have ap5Xu29 : Apart p5 u29 := op5.apart nn30
        have au9Xu29 : Apart u9 u29 := ou9.apart nn30
        have aqXu29 : Apart q u29 := oq.apart nn30
        have auXu29 : Apart u u29 := ou.apart nn30
        have nu29 : Nw H u29 := nn30.le lE
        replace op1 := op1.le le28
        replace op5 := op5.le le28
        replace ou9 := ou9.le le28
        replace oq := oq.le le28
        replace ou := ou.le le28
        replace hvb := hvb.le le28
        replace hvs := hvs.le le28
        replace hvc := hvc.le le28
        replace lE := lE.trans le28
        refine oq.stn (ws := [(.int .i64 (r)), (.int .i64 (c)), u29]) rfl rfl (oc1 rfl (oc1 rfl (oc1 ou29.one oc0))) (fun H31 oq off32 => ?_)
        replace op1 := op1.off off32 ap1Xq
        replace op5 := op5.off off32 ap5Xq
        replace ou9 := ou9.off off32 au9Xq
        replace ou := ou.off off32 aqXu.symm
        replace ou29 := ou29.off off32 aqXu29.symm
        replace hvb := hvb0.le (off32.le lE nq)
        replace hvs := hvs0.le (off32.le lE nq)
        replace hvc := hvc0.le (off32.le lE nq)
        replace lE := off32.le lE nq
        replace oq : Cel H31 q [(.int .i64 (r)), (.int .i64 (c)), u29] := oq
        refine ob_i (oq.ldn rfl) ?_
        refine ob_i (op5.ldn rfl) ?_
        refine C.impl_Field_count ou29.sl (by first | omega | assumption) (fun   H33    le34 => ?_)
        replace op1 := op1.le le34
        replace op5 := op5.le le34
        replace ou9 := ou9.le le34
        replace oq := oq.le le34
        replace ou := ou.le le34
        replace ou29 := ou29.le le34
        replace hvb := hvb.le le34
        replace hvs := hvs.le le34
        replace hvc := hvc.le le34
        replace lE := lE.trans le34
        refine ⟨le34, ?_⟩
        refine C.impl_Field_count hvc (by first | omega | assumption) (fun   H35    le36 => ?_)
        replace op1 := op1.le le36
        replace op5 := op5.le le36
        replace ou9 := ou9.le le36
        replace oq := oq.le le36
        replace ou := ou.le le36
        replace ou29 := ou29.le le36
        replace hvb := hvb.le le36
        replace hvs := hvs.le le36
        replace hvc := hvc.le le36
        replace lE := lE.trans le36
        refine ⟨le36, ?_⟩
        refine ob_i (vInt_neq _ _ _) ?_
        refine cnd_d (fun hg37 => ?_) (fun hg37 => ?_)
        · skip
          exact hJ26 _ _ ⟨u29, g2L24, g3L24, g4L24, g10L24, g11L24, op1, op5, ou9, oq, ou29.ro, ap1Xu29, ap5Xu29, au9Xu29, aqXu29, lE, (mv_skip (i := 0) hg37 (fun t ht => hm0 t (by simpa using ht)))⟩
        · skip
          refine ob_i (op5.fa 0) ?_
          refine ob_i (op5.ld 0 rfl) ?_
          refine ⟨fun n' σ' H' => ∃ i : Nat, n' = r.toNat - i ∧ i ≤ r.toNat ∧ σ' 2 = (.int .i64 (st)) ∧ σ' 3 = p1 ∧ σ' 4 = p5 ∧ σ' 10 = q ∧ σ' 11 = (.int .i64 ((n : Int) + 1)) ∧ σ' 39 = (.int .i64 (r)) ∧ σ' 40 = (.int .i64 ((i : Int))) ∧ Cel H' p1 [vb, vs] ∧ Cel H' p5 [(.int .i64 (r)), (.int .i64 (c)), vc] ∧ OwnE 3 encFv H' u9 ([⟨r, c, vc⟩]) ∧ Cel H' q [(.int .i64 (r)), (.int .i64 (c)), u29] ∧ Ro eI H' u (rnL true b s r c l n) ∧ Own eI H' u29 (nxL true b s r c (rnL true b s r c l n)) ∧ Le H H' ∧ ∀ t, t < (n * r.toNat + i) * c.toNat → ¬ mvP b s r c l t,
            ⟨_, 0, rfl, by omega, g2L24, g3L24, g4L24, g10L24, g11L24, rfl, (congrArg (Value.int .i64) (by first | omega | rfl | (simp; done))), op1, op5, ou9, oq, ou, ou29, lE, (fun t h => hm0 t (by simpa using h))⟩, ?_⟩
          rintro n38 σ38 H38 ⟨i, rfl, hiN, g2L38, g3L38, g4L38, g10L38, g11L38, g39L38, g40L38, op1, op5, ou9, oq, ou, ou29, lE, hm1⟩
          have hvb := hvb0.le lE
          have hvs := hvs0.le lE
          have hvc := hvc0.le lE
          try simp only [g4L38, g10L38, g11L38, g39L38, g40L38]
          refine ob_i (vInt_lss _ _ _) ?_
          refine cnd_d (fun hg39 => ?_) (fun hg39 => ?_)
          · skip
            have ti := hg39
            refine jn_i (fun σ' H' => σ' 2 = (.int .i64 (st)) ∧ σ' 3 = p1 ∧ σ' 4 = p5 ∧ σ' 10 = q ∧ σ' 11 = (.int .i64 ((n : Int) + 1)) ∧ σ' 39 = (.int .i64 (r)) ∧ σ' 40 = (.int .i64 ((i : Int))) ∧ Cel H' p1 [vb, vs] ∧ Cel H' p5 [(.int .i64 (r)), (.int .i64 (c)), vc] ∧ OwnE 3 encFv H' u9 ([⟨r, c, vc⟩]) ∧ Cel H' q [(.int .i64 (r)), (.int .i64 (c)), u29] ∧ Ro eI H' u (rnL true b s r c l n) ∧ Own eI H' u29 (nxL true b s r c (rnL true b s r c l n)) ∧ Le H H' ∧ ∀ t, t < (n * r.toNat + (i + 1)) * c.toNat → ¬ mvP b s r c l t) (fun σ40 H40 hP => ?_) (fun J40 hJ40 => ?_)
            · skip
              obtain ⟨g2L40, g3L40, g4L40, g10L40, g11L40, g39L40, g40L40, op1, op5, ou9, oq, ou, ou29, lE, ho3⟩ := hP
              have hvb := hvb0.le lE
              have hvs := hvs0.le lE
              have hvc := hvc0.le lE
              try simp only [g40L40]
              refine ob_i (vInt_add (by omega) (by omega)) ?_
              exact nxt (r.toNat - (i + 1)) (by omega) ⟨i + 1, rfl, by omega, g2L40, g3L40, g4L40, g10L40, g11L40, g39L40, (congrArg (Value.int .i64) (by first | omega | rfl | (simp; done))), op1, op5, ou9, oq, ou, ou29, lE, ho3⟩
            refine ob_i (op5.fa 1) ?_
            refine ob_i (op5.ld 1 rfl) ?_
            refine ⟨fun n' σ' H' => ∃ k : Nat, n' = c.toNat - k ∧ k ≤ c.toNat ∧ σ' 2 = (.int .i64 (st)) ∧ σ' 3 = p1 ∧ σ' 4 = p5 ∧ σ' 10 = q ∧ σ' 11 = (.int .i64 ((n : Int) + 1)) ∧ σ' 12 = (.int .i64 ((i : Int))) ∧ σ' 39 = (.int .i64 (r)) ∧ σ' 40 = (.int .i64 ((i : Int))) ∧ σ' 44 = (.int .i64 (c)) ∧ σ' 45 = (.int .i64 ((k : Int))) ∧ Cel H' p1 [vb, vs] ∧ Cel H' p5 [(.int .i64 (r)), (.int .i64 (c)), vc] ∧ OwnE 3 encFv H' u9 ([⟨r, c, vc⟩]) ∧ Cel H' q [(.int .i64 (r)), (.int .i64 (c)), u29] ∧ Ro eI H' u (rnL true b s r c l n) ∧ Own eI H' u29 (nxL true b s r c (rnL true b s r c l n)) ∧ Le H H' ∧ ∀ t, t < (n * r.toNat + i) * c.toNat + k → ¬ mvP b s r c l t,
              ⟨_, 0, rfl, by omega, g2L38, g3L38, g4L38, g10L38, g11L38, rfl, g39L38, g40L38, rfl, (congrArg (Value.int .i64) (by first | omega | rfl | (simp; done))), op1, op5, ou9, oq, ou, ou29, lE, hm1⟩, ?_⟩
            rintro n41 σ41 H41 ⟨k, rfl, hkN, g2L41, g3L41, g4L41, g10L41, g11L41, g12L41, g39L41, g40L41, g44L41, g45L41, op1, op5, ou9, oq, ou, ou29, lE, hm2⟩
            have hvb := hvb0.le lE
            have hvs := hvs0.le lE
            have hvc := hvc0.le lE
            try simp only [g4L41, g10L41, g11L41, g12L41, g44L41, g45L41]
            refine ob_i (vInt_lss _ _ _) ?_
            refine cnd_d (fun hg42 => ?_) (fun hg42 => ?_)
            · skip
              have tk := hg42
              have hsl := shL_len (r := r) (c := c) (a := (i : Int)) (b := (k : Int)) (l := l) hs
              refine ob_i (oq.ldn rfl) ?_
              refine ob_i (op5.ldn rfl) ?_
              refine C.impl_Field_shifted hvc (by first | omega | assumption) (by first | omega | assumption) (by first | omega | assumption) (by first | omega | assumption) (by first | omega | assumption) (fun  u45 H43 ou45 nn46  le44 => ?_)
              have ap1Xu45 : Apart p1 u45 := op1.apart nn46
              have ap5Xu45 : Apart p5 u45 := op5.apart nn46
              have au9Xu45 : Apart u9 u45 := ou9.apart nn46
              have aqXu45 : Apart q u45 := oq.apart nn46
              have auXu45 : Apart u u45 := ou.apart nn46
              have au29Xu45 : Apart u29 u45 := ou29.apart nn46
              have nu45 : Nw H u45 := nn46.le lE
              replace op1 := op1.le le44
              replace op5 := op5.le le44
              replace ou9 := ou9.le le44
              replace oq := oq.le le44
              replace ou := ou.le le44
              replace ou29 := ou29.le le44
              replace hvb := hvb.le le44
              replace hvs := hvs.le le44
              replace hvc := hvc.le le44
              replace lE := lE.trans le44
              refine ⟨le44, ?_⟩
              refine C.impl_SameField ou29.sl ou45.sl (by first | omega | assumption) (fun   H47    le48 => ?_)
              replace op1 := op1.le le48
              replace op5 := op5.le le48
              replace ou9 := ou9.le le48
              replace oq := oq.le le48
              replace ou := ou.le le48
              replace ou29 := ou29.le le48
              replace ou45 := ou45.le le48
              replace hvb := hvb.le le48
              replace hvs := hvs.le le48
              replace hvc := hvc.le le48
              replace lE := lE.trans le48
              refine ⟨le48, ?_⟩
              refine cnd_d (fun hg49 => ?_) (fun hg49 => ?_)
              · skip
                refine retK (K := K) (v' := (.tuple #[(.int .i64 ((n : Int) + 1)), (.int .i64 ((i : Int))), (.int .i64 ((k : Int))), (.bool true)])) rfl ?_
                skip
                have hT := mv_hit (by assumption) (by assumption) (mv_is (b := b) (s := s) (r := r) (c := c) (l := l) (n := n) (i := i) (k := k) (by omega) (by omega) (Decidable.not_not.mp hg37) hg49.2.2) hm2 (mv_lt (st := st) (by omega) (by omega) (by omega))
                have eT := hT.2
                have e3 := tri (n := n) (i := i) (k := k) (r := r.toNat) (c := c.toNat) (by omega) (by omega)
                have hok : mvOk b s r c l st := by exact hT.1
                exact keq (K := K) (by rw [show ((selI (mvOk b s r c l st) (((mvT b s r c l st / c.toNat / r.toNat + 1 : Nat) : Int))) : Int) = ((n : Int) + 1) from by first | exact selI_f hok | (rw [selI_t hok, eT, e3.1]; omega) | (rw [selI_t hok, eT, e3.2.1]) | (rw [selI_t hok, eT, e3.2.2])]; rw [show ((selI (mvOk b s r c l st) (((mvT b s r c l st / c.toNat % r.toNat : Nat) : Int))) : Int) = ((i : Int)) from by first | exact selI_f hok | (rw [selI_t hok, eT, e3.1]; omega) | (rw [selI_t hok, eT, e3.2.1]) | (rw [selI_t hok, eT, e3.2.2])]; rw [show ((selI (mvOk b s r c l st) (((mvT b s r c l st % c.toNat : Nat) : Int))) : Int) = ((k : Int)) from by first | exact selI_f hok | (rw [selI_t hok, eT, e3.1]; omega) | (rw [selI_t hok, eT, e3.2.1]) | (rw [selI_t hok, eT, e3.2.2])]; rw [decide_eq_true (show (mvOk b s r c l st) from by exact hok)]) (hk   _    lE)
              · skip
                refine ob_i (vInt_add (by omega) (by omega)) ?_
                exact nxt (c.toNat - (k + 1)) (by omega) ⟨k + 1, rfl, by omega, g2L41, g3L41, g4L41, g10L41, g11L41, g12L41, g39L41, g40L41, g44L41, (congrArg (Value.int .i64) (by first | omega | rfl | (simp; done))), op1, op5, ou9, oq, ou, ou29, lE, mv_next (by omega) (by omega) hm2 (fun h => hg49 ⟨rfl, rfl, h⟩)⟩
            · skip
              have tk := hg42
              exact hJ40 _ _ ⟨g2L41, g3L41, g4L41, g10L41, g11L41, g39L41, g40L41, op1, op5, ou9, oq, ou, ou29, lE, (mv_row (by omega) hm2)⟩
          · skip
            have ti := hg39
            exact hJ26 _ _ ⟨u29, g2L38, g3L38, g4L38, g10L38, g11L38, op1, op5, ou9, oq, ou29.ro, ap1Xu29, ap5Xu29, au9Xu29, aqXu29, lE, (mv_round (by omega) hm1)⟩
      · skip
        have tn := hg25
        exact hJ23 _ _ ⟨u, n, op1, op5, ou9, oq, ou, ap1Xu, ap5Xu, au9Xu, aqXu, lE, (fun t h => hm0 t (by rw [show n = st.toNat by omega]; exact h))⟩
    · skip
      refine ob_i (vPick_f _ _) ?_
      refine cnd_t1 ?_
      skip
      have hok : ¬ (mvOk b s r c l st) := by first | exact mv_none ho0 | (intro h; first | exact absurd h.1 (by assumption) | exact absurd h.2.1 (by assumption))
      exact keq (K := K) (by rw [show ((selI (mvOk b s r c l st) (((mvT b s r c l st / c.toNat / r.toNat + 1 : Nat) : Int))) : Int) = (0) from by first | exact selI_f hok | (rw [selI_t hok, eT, e3.1]; omega) | (rw [selI_t hok, eT, e3.2.1]) | (rw [selI_t hok, eT, e3.2.2])]; rw [show ((selI (mvOk b s r c l st) (((mvT b s r c l st / c.toNat % r.toNat : Nat) : Int))) : Int) = (0) from by first | exact selI_f hok | (rw [selI_t hok, eT, e3.1]; omega) | (rw [selI_t hok, eT, e3.2.1]) | (rw [selI_t hok, eT, e3.2.2])]; rw [show ((selI (mvOk b s r c l st) (((mvT b s r c l st % c.toNat : Nat) : Int))) : Int) = (0) from by first | exact selI_f hok | (rw [selI_t hok, eT, e3.1]; omega) | (rw [selI_t hok, eT, e3.2.1]) | (rw [selI_t hok, eT, e3.2.2])]; rw [decide_eq_false (show ¬ (mvOk b s r c l st) from by exact hok)]) (hk   _    lE)
  · skip
    refine gop_st ?_
    refine gop_st ?_
    refine gop_st ?_
    refine ob_i (vPick_t _ _) ?_
    refine cnd_t1 ?_
    skip
    have hok : ¬ (mvOk b s r c l st) := by first | exact mv_none ho0 | (intro h; first | exact absurd h.1 (by assumption) | exact absurd h.2.1 (by assumption))
    exact keq (K := K) (by rw [show ((selI (mvOk b s r c l st) (((mvT b s r c l st / c.toNat / r.toNat + 1 : Nat) : Int))) : Int) = (0) from by first | exact selI_f hok | (rw [selI_t hok, eT, e3.1]; omega) | (rw [selI_t hok, eT, e3.2.1]) | (rw [selI_t hok, eT, e3.2.2])]; rw [show ((selI (mvOk b s r c l st) (((mvT b s r c l st / c.toNat % r.toNat : Nat) : Int))) : Int) = (0) from by first | exact selI_f hok | (rw [selI_t hok, eT, e3.1]; omega) | (rw [selI_t hok, eT, e3.2.1]) | (rw [selI_t hok, eT, e3.2.2])]; rw [show ((selI (mvOk b s r c l st) (((mvT b s r c l st % c.toNat : Nat) : Int))) : Int) = (0) from by first | exact selI_f hok | (rw [selI_t hok, eT, e3.1]; omega) | (rw [selI_t hok, eT, e3.2.1]) | (rw [selI_t hok, eT, e3.2.2])]; rw [decide_eq_false (show ¬ (mvOk b s r c l st) from by exact hok)]) (hk   _    lE)
end Go.Proofs.Ythbffbpdoankjaa
