/- Inner parts of life. -/
import Derived.Test.YthbffbpdoankjaaUN
import Derived.Test.YthbffbpdoankjaaUB
namespace Go.Proofs.Ythbffbpdoankjaa
open HL
set_option maxRecDepth 100000
theorem C.far4 {w p vb vs vc : Value} {b : List Int} {s : List Int} {l : List Int}  {H : Hp} {K : Value → Hp → Prop} (hw0 : Cel H w [vb, vs]) (hp0 : Cel H p [(.int .i64 (4)), (.int .i64 (4)), vc]) (hvb0 : Sl eI H vb b) (hvs0 : Sl eI H vs s) (hvc0 : Sl eI H vc l) (hf : fieldN 1 4 4 l) (kb : b.length ≤ 9223372036854775807) (ks : s.length ≤ 9223372036854775807)
    (hk : ∀ u1 H', Own eI H' u1 (farL b s 4 l) → Nw H u1 → Le H H' → K (.agg #[(.int .i64 (2)), (.int .i64 (2)), u1]) H') : HT prg I.spec_l05Far [w, p].toArray H K := by
  have lE := Le.refl H
  have hw := hw0
  have hp := hp0
  have hvb := hvb0
  have hvs := hvs0
  have hvc := hvc0
  refine R.spec_l05Far ?_
  unfold F.spec_l05Far
  have hs := hf.1
  have hl := hf.2.1
  have q1 := hs.1
  have q2 := hs.2
  have qm := sidesF_mul hs
  refine nw_i (fun p1 H2 op1 nn3 le4 => ?_)
  have np1 : Nw H p1 := nn3.le lE
  replace hw := hw.le le4
  replace hp := hp.le le4
  replace hvb := hvb.le le4
  replace hvs := hvs.le le4
  replace hvc := hvc.le le4
  replace lE := lE.trans le4
  replace op1 : Cel H2 p1 [(.int .i64 (0)), (.int .i64 (0)), (.slice none 0 0)] := op1
  refine ob_i (hp.nilC) ?_
  refine ob_i (hp.fa 0) ?_
  refine ob_i (hp.ld 0 rfl) ?_
  refine ob_i (a := .bool true) (by kernel_rfl) ?_
  refine cnd_t1 ?_
  refine C.spec_l05Inner hw hp hvb hvs hvc (by first | assumption | exact cut_field hf (by omega) (by omega) (by omega) (by omega) (by omega) (by omega) | exact cut_field n9 (by omega) (by omega) (by omega) (by omega) (by omega) (by omega)) (by first | omega | assumption) (by first | omega | assumption) (by first | omega | assumption) (by first | omega | assumption) (fun  u7 H5 ou7 nn8  le6 => ?_)
  have ap1Xu7 : Apart p1 u7 := op1.apart nn8
  have nu7 : Nw H u7 := nn8.le lE
  replace op1 := op1.le le6
  replace hw := hw.le le6
  replace hp := hp.le le6
  replace hvb := hvb.le le6
  replace hvs := hvs.le le6
  replace hvc := hvc.le le6
  replace lE := lE.trans le6
  refine op1.stn (ws := [(.int .i64 (4 - 2)), (.int .i64 (4 - 2)), u7]) rfl rfl (oc1 rfl (oc1 rfl (oc1 ou7.one oc0))) (fun H9 op1 off10 => ?_)
  replace ou7 := ou7.off off10 ap1Xu7.symm
  replace hw := hw0.le (off10.le lE np1)
  replace hp := hp0.le (off10.le lE np1)
  replace hvb := hvb0.le (off10.le lE np1)
  replace hvs := hvs0.le (off10.le lE np1)
  replace hvc := hvc0.le (off10.le lE np1)
  replace lE := off10.le lE np1
  replace op1 : Cel H9 p1 [(.int .i64 (4 - 2)), (.int .i64 (4 - 2)), u7] := op1
  refine ob_i (op1.ldn rfl) ?_
  skip
  exact keq (K := K) (by rw [show ((4 - 2) : Int) = (2) from by omega]) (hk  u7 _ (Own.cast (show inL b s 4 4 l = farL b s 4 l by first | rfl | exact far_4 hl) ou7) nu7  lE)
theorem C.far8 {w p vb vs vc : Value} {b : List Int} {s : List Int} {l : List Int}  {H : Hp} {K : Value → Hp → Prop} (hw0 : Cel H w [vb, vs]) (hp0 : Cel H p [(.int .i64 (8)), (.int .i64 (8)), vc]) (hvb0 : Sl eI H vb b) (hvs0 : Sl eI H vs s) (hvc0 : Sl eI H vc l) (hf : fieldN 1 8 8 l) (kb : b.length ≤ 9223372036854775807) (ks : s.length ≤ 9223372036854775807)
    (hk : ∀ u1 H', Own eI H' u1 (farL b s 8 l) → Nw H u1 → Le H H' → K (.agg #[(.int .i64 (4)), (.int .i64 (4)), u1]) H') : HT prg I.spec_l05Far [w, p].toArray H K := by
  have lE := Le.refl H
  have hw := hw0
  have hp := hp0
  have hvb := hvb0
  have hvs := hvs0
  have hvc := hvc0
  refine R.spec_l05Far ?_
  unfold F.spec_l05Far
  have hs := hf.1
  have hl := hf.2.1
  have q1 := hs.1
  have q2 := hs.2
  have qm := sidesF_mul hs
  have n9 : fieldN 1 6 6 (nineL b s 8 l) := nineL_field (n := 8) (by omega)
  have s9 := n9.1
  have l9 := n9.2.1
  refine nw_i (fun p1 H2 op1 nn3 le4 => ?_)
  have np1 : Nw H p1 := nn3.le lE
  replace hw := hw.le le4
  replace hp := hp.le le4
  replace hvb := hvb.le le4
  replace hvs := hvs.le le4
  replace hvc := hvc.le le4
  replace lE := lE.trans le4
  replace op1 : Cel H2 p1 [(.int .i64 (0)), (.int .i64 (0)), (.slice none 0 0)] := op1
  refine ob_i (hp.nilC) ?_
  refine ob_i (hp.fa 0) ?_
  refine ob_i (hp.ld 0 rfl) ?_
  refine ob_i (a := .bool false) (by kernel_rfl) ?_
  refine cnd_f1 ?_
  refine ob_i (a := .int .i64 2) (by kernel_rfl) ?_
  refine ob_i (a := .int .i64 6) (by kernel_rfl) ?_
  refine ob_i (a := .int .i64 6) (by kernel_rfl) ?_
  refine C.spec_l04New (by first | omega | assumption) (by first | omega | assumption) (by first | omega | assumption) (by first | omega | assumption) (fun  u H5 ou nn7  le6 => ?_)
  have ap1Xu : Apart p1 u := op1.apart nn7
  have nu : Nw H u := nn7.le lE
  replace op1 := op1.le le6
  replace hw := hw.le le6
  replace hp := hp.le le6
  replace hvb := hvb.le le6
  replace hvs := hvs.le le6
  replace hvc := hvc.le le6
  replace lE := lE.trans le6
  refine nw_i (fun q H8 oq nn9 le10 => ?_)
  have ap1Xq : Apart p1 q := op1.apart nn9
  have auXq : Apart u q := ou.apart nn9
  have nq : Nw H q := nn9.le lE
  replace op1 := op1.le le10
  replace ou := ou.le le10
  replace hw := hw.le le10
  replace hp := hp.le le10
  replace hvb := hvb.le le10
  replace hvs := hvs.le le10
  replace hvc := hvc.le le10
  replace lE := lE.trans le10
  replace oq : Cel H8 q [(.int .i64 (0)), (.int .i64 (0)), (.slice none 0 0)] := oq
  refine oq.stn (ws := [(.int .i64 (6)), (.int .i64 (6)), u]) rfl rfl (oc1 rfl (oc1 rfl (oc1 ou.one oc0))) (fun H11 oq off12 => ?_)
  replace op1 := op1.off off12 ap1Xq
  replace ou := ou.off off12 auXq
  replace hw := hw0.le (off12.le lE nq)
  replace hp := hp0.le (off12.le lE nq)
  replace hvb := hvb0.le (off12.le lE nq)
  replace hvs := hvs0.le (off12.le lE nq)
  replace hvc := hvc0.le (off12.le lE nq)
  replace lE := off12.le lE nq
  replace oq : Cel H11 q [(.int .i64 (6)), (.int .i64 (6)), u] := oq
  refine jn_i (fun σ' H' => σ' 0 = w ∧ σ' 4 = p1 ∧ σ' 5 = (.int .i64 (8)) ∧ σ' 6 = (.int .i64 (2)) ∧ σ' 7 = q ∧ Cel H' p1 [(.int .i64 (0)), (.int .i64 (0)), (.slice none 0 0)] ∧ Own eI H' u (nineL b s 8 l) ∧ Cel H' q [(.int .i64 (6)), (.int .i64 (6)), u] ∧ Le H H') (fun σ13 H13 hP => ?_) (fun J13 hJ13 => ?_)
  · skip
    obtain ⟨g0L13, g4L13, g5L13, g6L13, g7L13, op1, ou, oq, lE⟩ := hP
    have hw := hw0.le lE
    have hp := hp0.le lE
    have hvb := hvb0.le lE
    have hvs := hvs0.le lE
    have hvc := hvc0.le lE
    try simp only [g0L13, g4L13, g5L13, g6L13, g7L13]
    refine ob_i (a := .int .i64 4) (by kernel_rfl) ?_
    refine ob_i (a := .int .i64 4) (by kernel_rfl) ?_
    refine C.spec_l04New (by first | omega | assumption) (by first | omega | assumption) (by first | omega | assumption) (by first | omega | assumption) (fun  v H14 ov nn16  le15 => ?_)
    have ap1Xv : Apart p1 v := op1.apart nn16
    have auXv : Apart u v := ou.apart nn16
    have aqXv : Apart q v := oq.apart nn16
    have nv : Nw H v := nn16.le lE
    replace op1 := op1.le le15
    replace ou := ou.le le15
    replace oq := oq.le le15
    replace hw := hw.le le15
    replace hp := hp.le le15
    replace hvb := hvb.le le15
    replace hvs := hvs.le le15
    replace hvc := hvc.le le15
    replace lE := lE.trans le15
    refine nw_i (fun z H17 oz nn18 le19 => ?_)
    have ap1Xz : Apart p1 z := op1.apart nn18
    have auXz : Apart u z := ou.apart nn18
    have aqXz : Apart q z := oq.apart nn18
    have avXz : Apart v z := ov.apart nn18
    have nz : Nw H z := nn18.le lE
    replace op1 := op1.le le19
    replace ou := ou.le le19
    replace oq := oq.le le19
    replace ov := ov.le le19
    replace hw := hw.le le19
    replace hp := hp.le le19
    replace hvb := hvb.le le19
    replace hvs := hvs.le le19
    replace hvc := hvc.le le19
    replace lE := lE.trans le19
    replace oz : Cel H17 z [(.int .i64 (0)), (.int .i64 (0)), (.slice none 0 0)] := oz
    refine oz.stn (ws := [(.int .i64 (4)), (.int .i64 (4)), v]) rfl rfl (oc1 rfl (oc1 rfl (oc1 ov.one oc0))) (fun H20 oz off21 => ?_)
    replace op1 := op1.off off21 ap1Xz
    replace ou := ou.off off21 auXz
    replace oq := oq.off off21 aqXz
    replace ov := ov.off off21 avXz
    replace hw := hw0.le (off21.le lE nz)
    replace hp := hp0.le (off21.le lE nz)
    replace hvb := hvb0.le (off21.le lE nz)
    replace hvs := hvs0.le (off21.le lE nz)
    replace hvc := hvc0.le (off21.le lE nz)
    replace lE := off21.le lE nz
    replace oz : Cel H20 z [(.int .i64 (4)), (.int .i64 (4)), v] := oz
    refine jn_i (fun σ' H' => σ' 4 = p1 ∧ σ' 11 = z ∧ Cel H' p1 [(.int .i64 (0)), (.int .i64 (0)), (.slice none 0 0)] ∧ Own eI H' u (nineL b s 8 l) ∧ Cel H' q [(.int .i64 (6)), (.int .i64 (6)), u] ∧ Own eI H' v (farL b s 8 l) ∧ Cel H' z [(.int .i64 (4)), (.int .i64 (4)), v] ∧ Le H H') (fun σ22 H22 hP => ?_) (fun J22 hJ22 => ?_)
    · skip
      obtain ⟨g4L22, g11L22, op1, ou, oq, ov, oz, lE⟩ := hP
      have hw := hw0.le lE
      have hp := hp0.le lE
      have hvb := hvb0.le lE
      have hvs := hvs0.le lE
      have hvc := hvc0.le lE
      try simp only [g4L22, g11L22]
      refine ob_i (oz.ldn rfl) ?_
      refine op1.stn (ws := [(.int .i64 (4)), (.int .i64 (4)), v]) rfl rfl (oc1 rfl (oc1 rfl (oc1 ov.one oc0))) (fun H23 op1 off24 => ?_)
      replace ou := ou.off off24 ap1Xu.symm
      replace oq := oq.off off24 ap1Xq.symm
      replace ov := ov.off off24 ap1Xv.symm
      replace oz := oz.off off24 ap1Xz.symm
      replace hw := hw0.le (off24.le lE np1)
      replace hp := hp0.le (off24.le lE np1)
      replace hvb := hvb0.le (off24.le lE np1)
      replace hvs := hvs0.le (off24.le lE np1)
      replace hvc := hvc0.le (off24.le lE np1)
      replace lE := off24.le lE np1
      replace op1 : Cel H23 p1 [(.int .i64 (4)), (.int .i64 (4)), v] := op1
      refine ob_i (op1.ldn rfl) ?_
      skip
      exact hk  v _ ov nv  lE
    refine ⟨fun n' σ' H' => ∃ i : Nat, n' = 2 - i ∧ i ≤ 2 ∧ σ' 0 = w ∧ σ' 4 = p1 ∧ σ' 5 = (.int .i64 (8)) ∧ σ' 6 = (.int .i64 (2)) ∧ σ' 7 = q ∧ σ' 11 = z ∧ σ' 12 = (.int .i64 ((i : Int))) ∧ Cel H' p1 [(.int .i64 (0)), (.int .i64 (0)), (.slice none 0 0)] ∧ Own eI H' u (nineL b s 8 l) ∧ Cel H' q [(.int .i64 (6)), (.int .i64 (6)), u] ∧ Own eI H' v (mkL 4 (blkG 2 (fourG b s 8 l) ((i : Int)) (0)) ((4 : Int).toNat * (4 : Int).toNat)) ∧ Cel H' z [(.int .i64 (4)), (.int .i64 (4)), v] ∧ Le H H',
      ⟨_, 0, rfl, by omega, g0L13, g4L13, g5L13, g6L13, g7L13, rfl, (congrArg (Value.int .i64) (by first | omega | rfl | (simp; done))), op1, ou, oq, (Own.cast (blk_zero (C := 4) (q := 2) (by omega) (by omega)) ov), oz, lE⟩, ?_⟩
    rintro n25 σ25 H25 ⟨i, rfl, hiN, g0L25, g4L25, g5L25, g6L25, g7L25, g11L25, g12L25, op1, ou, oq, ov, oz, lE⟩
    have hw := hw0.le lE
    have hp := hp0.le lE
    have hvb := hvb0.le lE
    have hvs := hvs0.le lE
    have hvc := hvc0.le lE
    try simp only [g0L25, g4L25, g5L25, g6L25, g7L25, g11L25, g12L25]
    refine ob_i (vInt_lss _ _ _) ?_
    refine cnd_d (fun hg26 => ?_) (fun hg26 => ?_)
    · skip
      have ti := hg26
      refine jn_i (fun σ' H' => σ' 0 = w ∧ σ' 4 = p1 ∧ σ' 5 = (.int .i64 (8)) ∧ σ' 6 = (.int .i64 (2)) ∧ σ' 7 = q ∧ σ' 11 = z ∧ σ' 12 = (.int .i64 ((i : Int))) ∧ Cel H' p1 [(.int .i64 (0)), (.int .i64 (0)), (.slice none 0 0)] ∧ Own eI H' u (nineL b s 8 l) ∧ Cel H' q [(.int .i64 (6)), (.int .i64 (6)), u] ∧ Own eI H' v (mkL 4 (blkG 2 (fourG b s 8 l) ((i : Int) + 1) (0)) ((4 : Int).toNat * (4 : Int).toNat)) ∧ Cel H' z [(.int .i64 (4)), (.int .i64 (4)), v] ∧ Le H H') (fun σ27 H27 hP => ?_) (fun J27 hJ27 => ?_)
      · skip
        obtain ⟨g0L27, g4L27, g5L27, g6L27, g7L27, g11L27, g12L27, op1, ou, oq, ov, oz, lE⟩ := hP
        have hw := hw0.le lE
        have hp := hp0.le lE
        have hvb := hvb0.le lE
        have hvs := hvs0.le lE
        have hvc := hvc0.le lE
        try simp only [g4L27, g12L27]
        refine ob_i (vInt_add (by omega) (by omega)) ?_
        exact nxt (2 - (i + 1)) (by omega) ⟨i + 1, rfl, by omega, g0L27, g4L27, g5L27, g6L27, g7L27, g11L27, (congrArg (Value.int .i64) (by first | omega | rfl | (simp; done))), op1, ou, oq, ov, oz, lE⟩
      refine ⟨fun n' σ' H' => ∃ k : Nat, n' = 2 - k ∧ k ≤ 2 ∧ σ' 0 = w ∧ σ' 4 = p1 ∧ σ' 5 = (.int .i64 (8)) ∧ σ' 6 = (.int .i64 (2)) ∧ σ' 7 = q ∧ σ' 11 = z ∧ σ' 12 = (.int .i64 ((i : Int))) ∧ σ' 13 = (.int .i64 ((k : Int))) ∧ Cel H' p1 [(.int .i64 (0)), (.int .i64 (0)), (.slice none 0 0)] ∧ Own eI H' u (nineL b s 8 l) ∧ Cel H' q [(.int .i64 (6)), (.int .i64 (6)), u] ∧ Own eI H' v (mkL 4 (blkG 2 (fourG b s 8 l) ((i : Int)) ((k : Int))) ((4 : Int).toNat * (4 : Int).toNat)) ∧ Cel H' z [(.int .i64 (4)), (.int .i64 (4)), v] ∧ Le H H',
        ⟨_, 0, rfl, by omega, g0L25, g4L25, g5L25, g6L25, g7L25, g11L25, g12L25, (congrArg (Value.int .i64) (by first | omega | rfl | (simp; done))), op1, ou, oq, ov, oz, lE⟩, ?_⟩
      rintro n28 σ28 H28 ⟨k, rfl, hkN, g0L28, g4L28, g5L28, g6L28, g7L28, g11L28, g12L28, g13L28, op1, ou, oq, ov, oz, lE⟩
      have hw := hw0.le lE
      have hp := hp0.le lE
      have hvb := hvb0.le lE
      have hvs := hvs0.le lE
      have hvc := hvc0.le lE
      try simp only [g0L28, g4L28, g5L28, g6L28, g7L28, g11L28, g12L28, g13L28]
      refine ob_i (vInt_lss _ _ _) ?_
      refine cnd_d (fun hg29 => ?_) (fun hg29 => ?_)
      · skip
        have tk := hg29
        refine ob_i (vInt_mul (by omega) (by omega)) ?_
        refine ob_i (vInt_mul (by omega) (by omega)) ?_
        refine ob_i (a := .int .i64 4) (by kernel_rfl) ?_
        refine ob_i (a := .int .i64 4) (by kernel_rfl) ?_
        refine C.spec_l05Cut oq ou.sl (by first | omega | assumption) (by first | omega | assumption) (by first | omega | assumption) (by first | omega | assumption) (by first | omega | assumption) (by first | omega | assumption) (by first | omega | assumption) (by first | omega | assumption) (fun  u32 H30 ou32 nn33  le31 => ?_)
        have ap1Xu32 : Apart p1 u32 := op1.apart nn33
        have auXu32 : Apart u u32 := ou.apart nn33
        have aqXu32 : Apart q u32 := oq.apart nn33
        have avXu32 : Apart v u32 := ov.apart nn33
        have azXu32 : Apart z u32 := oz.apart nn33
        have nu32 : Nw H u32 := nn33.le lE
        replace op1 := op1.le le31
        replace ou := ou.le le31
        replace oq := oq.le le31
        replace ov := ov.le le31
        replace oz := oz.le le31
        replace hw := hw.le le31
        replace hp := hp.le le31
        replace hvb := hvb.le le31
        replace hvs := hvs.le le31
        replace hvc := hvc.le le31
        replace lE := lE.trans le31
        refine nw_i (fun p34 H35 op34 nn36 le37 => ?_)
        have ap1Xp34 : Apart p1 p34 := op1.apart nn36
        have auXp34 : Apart u p34 := ou.apart nn36
        have aqXp34 : Apart q p34 := oq.apart nn36
        have avXp34 : Apart v p34 := ov.apart nn36
        have azXp34 : Apart z p34 := oz.apart nn36
        have au32Xp34 : Apart u32 p34 := ou32.apart nn36
        have np34 : Nw H p34 := nn36.le lE
        replace op1 := op1.le le37
        replace ou := ou.le le37
        replace oq := oq.le le37
        replace ov := ov.le le37
        replace oz := oz.le le37
        replace ou32 := ou32.le le37
        replace hw := hw.le le37
        replace hp := hp.le le37
        replace hvb := hvb.le le37
        replace hvs := hvs.le le37
        replace hvc := hvc.le le37
        replace lE := lE.trans le37
        replace op34 : Cel H35 p34 [(.int .i64 (0)), (.int .i64 (0)), (.slice none 0 0)] := op34
        refine op34.stn (ws := [(.int .i64 (4)), (.int .i64 (4)), u32]) rfl rfl (oc1 rfl (oc1 rfl (oc1 ou32.one oc0))) (fun H38 op34 off39 => ?_)
        replace op1 := op1.off off39 ap1Xp34
        replace ou := ou.off off39 auXp34
        replace oq := oq.off off39 aqXp34
        replace ov := ov.off off39 avXp34
        replace oz := oz.off off39 azXp34
        replace ou32 := ou32.off off39 au32Xp34
        replace hw := hw0.le (off39.le lE np34)
        replace hp := hp0.le (off39.le lE np34)
        replace hvb := hvb0.le (off39.le lE np34)
        replace hvs := hvs0.le (off39.le lE np34)
        replace hvc := hvc0.le (off39.le lE np34)
        replace lE := off39.le lE np34
        replace op34 : Cel H38 p34 [(.int .i64 (4)), (.int .i64 (4)), u32] := op34
        refine C.far4 hw op34 hvb hvs ou32.sl (by first | assumption | exact cut_field hf (by omega) (by omega) (by omega) (by omega) (by omega) (by omega) | exact cut_field n9 (by omega) (by omega) (by omega) (by omega) (by omega) (by omega)) (by first | omega | assumption) (by first | omega | assumption) (fun  u42 H40 ou42 nn43  le41 => ?_)
        have ap1Xu42 : Apart p1 u42 := op1.apart nn43
        have auXu42 : Apart u u42 := ou.apart nn43
        have aqXu42 : Apart q u42 := oq.apart nn43
        have avXu42 : Apart v u42 := ov.apart nn43
        have azXu42 : Apart z u42 := oz.apart nn43
        have au32Xu42 : Apart u32 u42 := ou32.apart nn43
        have ap34Xu42 : Apart p34 u42 := op34.apart nn43
        have nu42 : Nw H u42 := nn43.le lE
        replace op1 := op1.le le41
        replace ou := ou.le le41
        replace oq := oq.le le41
        replace ov := ov.le le41
        replace oz := oz.le le41
        replace ou32 := ou32.le le41
        replace op34 := op34.le le41
        replace hw := hw.le le41
        replace hp := hp.le le41
        replace hvb := hvb.le le41
        replace hvs := hvs.le le41
        replace hvc := hvc.le le41
        replace lE := lE.trans le41
        refine op34.stn (ws := [(.int .i64 (2)), (.int .i64 (2)), u42]) rfl rfl (oc1 rfl (oc1 rfl (oc1 ou42.one oc0))) (fun H44 op34 off45 => ?_)
        replace op1 := op1.off off45 ap1Xp34
        replace ou := ou.off off45 auXp34
        replace oq := oq.off off45 aqXp34
        replace ov := ov.off off45 avXp34
        replace oz := oz.off off45 azXp34
        replace ou32 := ou32.off off45 au32Xp34
        replace ou42 := ou42.off off45 ap34Xu42.symm
        replace hw := hw0.le (off45.le lE np34)
        replace hp := hp0.le (off45.le lE np34)
        replace hvb := hvb0.le (off45.le lE np34)
        replace hvs := hvs0.le (off45.le lE np34)
        replace hvc := hvc0.le (off45.le lE np34)
        replace lE := off45.le lE np34
        replace op34 : Cel H44 p34 [(.int .i64 (2)), (.int .i64 (2)), u42] := op34
        refine ob_i (vInt_mul (by omega) (by omega)) ?_
        refine ob_i (vInt_mul (by omega) (by omega)) ?_
        have hmH46 : ((farL b s 4 (mkL 4 (cutG 6 (nineL b s 8 l) ((i : Int) * 2) ((k : Int) * 2)) ((4 : Int).toNat * (4 : Int).toNat))).length : Int) = 2 * 2 := (far_field (b := b) (s := s) (n := 4) (by omega)).2.1
        refine C.spec_l05Put oz op34 ov ou42.ro avXz.symm avXp34.symm avXu42.symm (by omega) (by omega) (by omega) (by omega) (by omega) (by omega) (by omega) (by omega) hmH46 (fun H46 ov off47 => ?_)
        replace op1 := op1.off off47 ap1Xv
        replace ou := ou.off off47 auXv
        replace oq := oq.off off47 aqXv
        replace oz := oz.off off47 avXz.symm
        replace ou32 := ou32.off off47 avXu32.symm
        replace op34 := op34.off off47 avXp34.symm
        replace ou42 := ou42.off off47 avXu42.symm
        replace hw := hw0.le (off47.le lE nv)
        replace hp := hp0.le (off47.le lE nv)
        replace hvb := hvb0.le (off47.le lE nv)
        replace hvs := hvs0.le (off47.le lE nv)
        replace hvc := hvc0.le (off47.le lE nv)
        replace lE := off47.le lE nv
        rw [blk_put (C := 4) (g := fourG b s 8 l) (m := farL b s 4 (mkL 4 (cutG 6 (nineL b s 8 l) ((i : Int) * 2) ((k : Int) * 2)) ((4 : Int).toNat * (4 : Int).toNat))) (q := 2) (i := (i : Int)) (k := (k : Int)) (by omega) (by omega) (fun x y x0 x1 y0 y1 => four_at (b := b) (s := s) (l := l) (n := 8) (by omega) (by omega) (by omega) (by omega) (by omega) x0 (by omega) y0 (by omega))] at ov
        refine ob_i (vInt_add (by omega) (by omega)) ?_
        exact nxt (2 - (k + 1)) (by omega) ⟨k + 1, rfl, by omega, g0L28, g4L28, g5L28, g6L28, g7L28, g11L28, g12L28, (congrArg (Value.int .i64) (by first | omega | rfl | (simp; done))), op1, ou, oq, ov, oz, lE⟩
      · skip
        have tk := hg29
        rw [blk_row (by omega) (by omega) (show (4 : Int) = (k : Int) * 2 by omega)] at ov
        exact hJ27 _ _ ⟨g0L28, g4L28, g5L28, g6L28, g7L28, g11L28, g12L28, op1, ou, oq, ov, oz, lE⟩
    · skip
      have ti := hg26
      have ei : (i : Int) = 2 := by omega
      rw [ei, blk_end (k := 2) (by omega) (by omega) (by omega) (by decide)] at ov
      replace ov : Own eI H25 v (farL b s 8 l) := ov
      exact hJ22 _ _ ⟨g4L25, g11L25, op1, ou, oq, ov, oz, lE⟩
  refine ⟨fun n' σ' H' => ∃ i : Nat, n' = 3 - i ∧ i ≤ 3 ∧ σ' 0 = w ∧ σ' 1 = p ∧ σ' 4 = p1 ∧ σ' 5 = (.int .i64 (8)) ∧ σ' 6 = (.int .i64 (2)) ∧ σ' 7 = q ∧ σ' 8 = (.int .i64 ((i : Int))) ∧ Cel H' p1 [(.int .i64 (0)), (.int .i64 (0)), (.slice none 0 0)] ∧ Own eI H' u (mkL 6 (blkG 2 (nineG b s 8 l) ((i : Int)) (0)) ((6 : Int).toNat * (6 : Int).toNat)) ∧ Cel H' q [(.int .i64 (6)), (.int .i64 (6)), u] ∧ Le H H',
    ⟨_, 0, rfl, by omega, rfl, rfl, rfl, rfl, rfl, rfl, (congrArg (Value.int .i64) (by first | omega | rfl | (simp; done))), op1, (Own.cast (blk_zero (C := 6) (q := 2) (by omega) (by omega)) ou), oq, lE⟩, ?_⟩
  rintro n48 σ48 H48 ⟨i, rfl, hiN, g0L48, g1L48, g4L48, g5L48, g6L48, g7L48, g8L48, op1, ou, oq, lE⟩
  have hw := hw0.le lE
  have hp := hp0.le lE
  have hvb := hvb0.le lE
  have hvs := hvs0.le lE
  have hvc := hvc0.le lE
  try simp only [g0L48, g1L48, g4L48, g5L48, g6L48, g7L48, g8L48]
  refine ob_i (vInt_lss _ _ _) ?_
  refine cnd_d (fun hg49 => ?_) (fun hg49 => ?_)
  · skip
    have ti := hg49
    refine jn_i (fun σ' H' => σ' 0 = w ∧ σ' 1 = p ∧ σ' 4 = p1 ∧ σ' 5 = (.int .i64 (8)) ∧ σ' 6 = (.int .i64 (2)) ∧ σ' 7 = q ∧ σ' 8 = (.int .i64 ((i : Int))) ∧ Cel H' p1 [(.int .i64 (0)), (.int .i64 (0)), (.slice none 0 0)] ∧ Own eI H' u (mkL 6 (blkG 2 (nineG b s 8 l) ((i : Int) + 1) (0)) ((6 : Int).toNat * (6 : Int).toNat)) ∧ Cel H' q [(.int .i64 (6)), (.int .i64 (6)), u] ∧ Le H H') (fun σ50 H50 hP => ?_) (fun J50 hJ50 => ?_)
    · skip
      obtain ⟨g0L50, g1L50, g4L50, g5L50, g6L50, g7L50, g8L50, op1, ou, oq, lE⟩ := hP
      have hw := hw0.le lE
      have hp := hp0.le lE
      have hvb := hvb0.le lE
      have hvs := hvs0.le lE
      have hvc := hvc0.le lE
      try simp only [g4L50, g8L50]
      refine ob_i (vInt_add (by omega) (by omega)) ?_
      exact nxt (3 - (i + 1)) (by omega) ⟨i + 1, rfl, by omega, g0L50, g1L50, g4L50, g5L50, g6L50, g7L50, (congrArg (Value.int .i64) (by first | omega | rfl | (simp; done))), op1, ou, oq, lE⟩
    refine ⟨fun n' σ' H' => ∃ k : Nat, n' = 3 - k ∧ k ≤ 3 ∧ σ' 0 = w ∧ σ' 1 = p ∧ σ' 4 = p1 ∧ σ' 5 = (.int .i64 (8)) ∧ σ' 6 = (.int .i64 (2)) ∧ σ' 7 = q ∧ σ' 8 = (.int .i64 ((i : Int))) ∧ σ' 9 = (.int .i64 ((k : Int))) ∧ Cel H' p1 [(.int .i64 (0)), (.int .i64 (0)), (.slice none 0 0)] ∧ Own eI H' u (mkL 6 (blkG 2 (nineG b s 8 l) ((i : Int)) ((k : Int))) ((6 : Int).toNat * (6 : Int).toNat)) ∧ Cel H' q [(.int .i64 (6)), (.int .i64 (6)), u] ∧ Le H H',
      ⟨_, 0, rfl, by omega, g0L48, g1L48, g4L48, g5L48, g6L48, g7L48, g8L48, (congrArg (Value.int .i64) (by first | omega | rfl | (simp; done))), op1, ou, oq, lE⟩, ?_⟩
    rintro n51 σ51 H51 ⟨k, rfl, hkN, g0L51, g1L51, g4L51, g5L51, g6L51, g7L51, g8L51, g9L51, op1, ou, oq, lE⟩
    have hw := hw0.le lE
    have hp := hp0.le lE
    have hvb := hvb0.le lE
    have hvs := hvs0.le lE
    have hvc := hvc0.le lE
    try simp only [g0L51, g1L51, g4L51, g5L51, g6L51, g7L51, g8L51, g9L51]
    refine ob_i (vInt_lss _ _ _) ?_
    refine cnd_d (fun hg52 => ?_) (fun hg52 => ?_)
    · skip
      have tk := hg52
      refine ob_i (vInt_mul (by omega) (by omega)) ?_
      refine ob_i (vInt_mul (by omega) (by omega)) ?_
      refine ob_i (a := .int .i64 4) (by kernel_rfl) ?_
      refine ob_i (a := .int .i64 4) (by kernel_rfl) ?_
      refine C.spec_l05Cut hp hvc (by first | omega | assumption) (by first | omega | assumption) (by first | omega | assumption) (by first | omega | assumption) (by first | omega | assumption) (by first | omega | assumption) (by first | omega | assumption) (by first | omega | assumption) (fun  u55 H53 ou55 nn56  le54 => ?_)
      have ap1Xu55 : Apart p1 u55 := op1.apart nn56
      have auXu55 : Apart u u55 := ou.apart nn56
      have aqXu55 : Apart q u55 := oq.apart nn56
      have nu55 : Nw H u55 := nn56.le lE
      replace op1 := op1.le le54
      replace ou := ou.le le54
      replace oq := oq.le le54
      replace hw := hw.le le54
      replace hp := hp.le le54
      replace hvb := hvb.le le54
      replace hvs := hvs.le le54
      replace hvc := hvc.le le54
      replace lE := lE.trans le54
      refine nw_i (fun p57 H58 op57 nn59 le60 => ?_)
      have ap1Xp57 : Apart p1 p57 := op1.apart nn59
      have auXp57 : Apart u p57 := ou.apart nn59
      have aqXp57 : Apart q p57 := oq.apart nn59
      have au55Xp57 : Apart u55 p57 := ou55.apart nn59
      have np57 : Nw H p57 := nn59.le lE
      replace op1 := op1.le le60
      replace ou := ou.le le60
      replace oq := oq.le le60
      replace ou55 := ou55.le le60
      replace hw := hw.le le60
      replace hp := hp.le le60
      replace hvb := hvb.le le60
      replace hvs := hvs.le le60
      replace hvc := hvc.le le60
      replace lE := lE.trans le60
      replace op57 : Cel H58 p57 [(.int .i64 (0)), (.int .i64 (0)), (.slice none 0 0)] := op57
      refine op57.stn (ws := [(.int .i64 (4)), (.int .i64 (4)), u55]) rfl rfl (oc1 rfl (oc1 rfl (oc1 ou55.one oc0))) (fun H61 op57 off62 => ?_)
      replace op1 := op1.off off62 ap1Xp57
      replace ou := ou.off off62 auXp57
      replace oq := oq.off off62 aqXp57
      replace ou55 := ou55.off off62 au55Xp57
      replace hw := hw0.le (off62.le lE np57)
      replace hp := hp0.le (off62.le lE np57)
      replace hvb := hvb0.le (off62.le lE np57)
      replace hvs := hvs0.le (off62.le lE np57)
      replace hvc := hvc0.le (off62.le lE np57)
      replace lE := off62.le lE np57
      replace op57 : Cel H61 p57 [(.int .i64 (4)), (.int .i64 (4)), u55] := op57
      refine C.far4 hw op57 hvb hvs ou55.sl (by first | assumption | exact cut_field hf (by omega) (by omega) (by omega) (by omega) (by omega) (by omega) | exact cut_field n9 (by omega) (by omega) (by omega) (by omega) (by omega) (by omega)) (by first | omega | assumption) (by first | omega | assumption) (fun  u65 H63 ou65 nn66  le64 => ?_)
      have ap1Xu65 : Apart p1 u65 := op1.apart nn66
      have auXu65 : Apart u u65 := ou.apart nn66
      have aqXu65 : Apart q u65 := oq.apart nn66
      have au55Xu65 : Apart u55 u65 := ou55.apart nn66
      have ap57Xu65 : Apart p57 u65 := op57.apart nn66
      have nu65 : Nw H u65 := nn66.le lE
      replace op1 := op1.le le64
      replace ou := ou.le le64
      replace oq := oq.le le64
      replace ou55 := ou55.le le64
      replace op57 := op57.le le64
      replace hw := hw.le le64
      replace hp := hp.le le64
      replace hvb := hvb.le le64
      replace hvs := hvs.le le64
      replace hvc := hvc.le le64
      replace lE := lE.trans le64
      refine op57.stn (ws := [(.int .i64 (2)), (.int .i64 (2)), u65]) rfl rfl (oc1 rfl (oc1 rfl (oc1 ou65.one oc0))) (fun H67 op57 off68 => ?_)
      replace op1 := op1.off off68 ap1Xp57
      replace ou := ou.off off68 auXp57
      replace oq := oq.off off68 aqXp57
      replace ou55 := ou55.off off68 au55Xp57
      replace ou65 := ou65.off off68 ap57Xu65.symm
      replace hw := hw0.le (off68.le lE np57)
      replace hp := hp0.le (off68.le lE np57)
      replace hvb := hvb0.le (off68.le lE np57)
      replace hvs := hvs0.le (off68.le lE np57)
      replace hvc := hvc0.le (off68.le lE np57)
      replace lE := off68.le lE np57
      replace op57 : Cel H67 p57 [(.int .i64 (2)), (.int .i64 (2)), u65] := op57
      refine ob_i (vInt_mul (by omega) (by omega)) ?_
      refine ob_i (vInt_mul (by omega) (by omega)) ?_
      have hmH69 : ((farL b s 4 (mkL 4 (cutG 8 l ((i : Int) * 2) ((k : Int) * 2)) ((4 : Int).toNat * (4 : Int).toNat))).length : Int) = 2 * 2 := (far_field (b := b) (s := s) (n := 4) (by omega)).2.1
      refine C.spec_l05Put oq op57 ou ou65.ro auXq.symm auXp57.symm auXu65.symm (by omega) (by omega) (by omega) (by omega) (by omega) (by omega) (by omega) (by omega) hmH69 (fun H69 ou off70 => ?_)
      replace op1 := op1.off off70 ap1Xu
      replace oq := oq.off off70 auXq.symm
      replace ou55 := ou55.off off70 auXu55.symm
      replace op57 := op57.off off70 auXp57.symm
      replace ou65 := ou65.off off70 auXu65.symm
      replace hw := hw0.le (off70.le lE nu)
      replace hp := hp0.le (off70.le lE nu)
      replace hvb := hvb0.le (off70.le lE nu)
      replace hvs := hvs0.le (off70.le lE nu)
      replace hvc := hvc0.le (off70.le lE nu)
      replace lE := off70.le lE nu
      rw [blk_put (C := 6) (g := nineG b s 8 l) (m := farL b s 4 (mkL 4 (cutG 8 l ((i : Int) * 2) ((k : Int) * 2)) ((4 : Int).toNat * (4 : Int).toNat))) (q := 2) (i := (i : Int)) (k := (k : Int)) (by omega) (by omega) (fun x y x0 x1 y0 y1 => nine_at (b := b) (s := s) (l := l) (n := 8) (by omega) hl (by omega) (by omega) (by omega) (by omega) x0 (by omega) y0 (by omega))] at ou
      refine ob_i (vInt_add (by omega) (by omega)) ?_
      exact nxt (3 - (k + 1)) (by omega) ⟨k + 1, rfl, by omega, g0L51, g1L51, g4L51, g5L51, g6L51, g7L51, g8L51, (congrArg (Value.int .i64) (by first | omega | rfl | (simp; done))), op1, ou, oq, lE⟩
    · skip
      have tk := hg52
      rw [blk_row (by omega) (by omega) (show (6 : Int) = (k : Int) * 2 by omega)] at ou
      exact hJ50 _ _ ⟨g0L51, g1L51, g4L51, g5L51, g6L51, g7L51, g8L51, op1, ou, oq, lE⟩
  · skip
    have ti := hg49
    have ei : (i : Int) = 3 := by omega
    rw [ei, blk_end (k := 3) (by omega) (by omega) (by omega) (by decide)] at ou
    replace ou : Own eI H48 u (nineL b s 8 l) := ou
    exact hJ13 _ _ ⟨g0L48, g4L48, g5L48, g6L48, g7L48, op1, ou, oq, lE⟩
theorem C.far16 {w p vb vs vc : Value} {b : List Int} {s : List Int} {l : List Int}  {H : Hp} {K : Value → Hp → Prop} (hw0 : Cel H w [vb, vs]) (hp0 : Cel H p [(.int .i64 (16)), (.int .i64 (16)), vc]) (hvb0 : Sl eI H vb b) (hvs0 : Sl eI H vs s) (hvc0 : Sl eI H vc l) (hf : fieldN 1 16 16 l) (kb : b.length ≤ 9223372036854775807) (ks : s.length ≤ 9223372036854775807)
    (hk : ∀ u1 H', Own eI H' u1 (farL b s 16 l) → Nw H u1 → Le H H' → K (.agg #[(.int .i64 (8)), (.int .i64 (8)), u1]) H') : HT prg I.spec_l05Far [w, p].toArray H K := by
  have lE := Le.refl H
  have hw := hw0
  have hp := hp0
  have hvb := hvb0
  have hvs := hvs0
  have hvc := hvc0
  refine R.spec_l05Far ?_
  unfold F.spec_l05Far
  have hs := hf.1
  have hl := hf.2.1
  have q1 := hs.1
  have q2 := hs.2
  have qm := sidesF_mul hs
  have n9 : fieldN 1 12 12 (nineL b s 16 l) := nineL_field (n := 16) (by omega)
  have s9 := n9.1
  have l9 := n9.2.1
  refine nw_i (fun p1 H2 op1 nn3 le4 => ?_)
  have np1 : Nw H p1 := nn3.le lE
  replace hw := hw.le le4
  replace hp := hp.le le4
  replace hvb := hvb.le le4
  replace hvs := hvs.le le4
  replace hvc := hvc.le le4
  replace lE := lE.trans le4
  replace op1 : Cel H2 p1 [(.int .i64 (0)), (.int .i64 (0)), (.slice none 0 0)] := op1
  refine ob_i (hp.nilC) ?_
  refine ob_i (hp.fa 0) ?_
  refine ob_i (hp.ld 0 rfl) ?_
  refine ob_i (a := .bool false) (by kernel_rfl) ?_
  refine cnd_f1 ?_
  refine ob_i (a := .int .i64 4) (by kernel_rfl) ?_
  refine ob_i (a := .int .i64 12) (by kernel_rfl) ?_
  refine ob_i (a := .int .i64 12) (by kernel_rfl) ?_
  refine C.spec_l04New (by first | omega | assumption) (by first | omega | assumption) (by first | omega | assumption) (by first | omega | assumption) (fun  u H5 ou nn7  le6 => ?_)
  have ap1Xu : Apart p1 u := op1.apart nn7
  have nu : Nw H u := nn7.le lE
  replace op1 := op1.le le6
  replace hw := hw.le le6
  replace hp := hp.le le6
  replace hvb := hvb.le le6
  replace hvs := hvs.le le6
  replace hvc := hvc.le le6
  replace lE := lE.trans le6
  refine nw_i (fun q H8 oq nn9 le10 => ?_)
  have ap1Xq : Apart p1 q := op1.apart nn9
  have auXq : Apart u q := ou.apart nn9
  have nq : Nw H q := nn9.le lE
  replace op1 := op1.le le10
  replace ou := ou.le le10
  replace hw := hw.le le10
  replace hp := hp.le le10
  replace hvb := hvb.le le10
  replace hvs := hvs.le le10
  replace hvc := hvc.le le10
  replace lE := lE.trans le10
  replace oq : Cel H8 q [(.int .i64 (0)), (.int .i64 (0)), (.slice none 0 0)] := oq
  refine oq.stn (ws := [(.int .i64 (12)), (.int .i64 (12)), u]) rfl rfl (oc1 rfl (oc1 rfl (oc1 ou.one oc0))) (fun H11 oq off12 => ?_)
  replace op1 := op1.off off12 ap1Xq
  replace ou := ou.off off12 auXq
  replace hw := hw0.le (off12.le lE nq)
  replace hp := hp0.le (off12.le lE nq)
  replace hvb := hvb0.le (off12.le lE nq)
  replace hvs := hvs0.le (off12.le lE nq)
  replace hvc := hvc0.le (off12.le lE nq)
  replace lE := off12.le lE nq
  replace oq : Cel H11 q [(.int .i64 (12)), (.int .i64 (12)), u] := oq
  refine jn_i (fun σ' H' => σ' 0 = w ∧ σ' 4 = p1 ∧ σ' 5 = (.int .i64 (16)) ∧ σ' 6 = (.int .i64 (4)) ∧ σ' 7 = q ∧ Cel H' p1 [(.int .i64 (0)), (.int .i64 (0)), (.slice none 0 0)] ∧ Own eI H' u (nineL b s 16 l) ∧ Cel H' q [(.int .i64 (12)), (.int .i64 (12)), u] ∧ Le H H') (fun σ13 H13 hP => ?_) (fun J13 hJ13 => ?_)
  · skip
    obtain ⟨g0L13, g4L13, g5L13, g6L13, g7L13, op1, ou, oq, lE⟩ := hP
    have hw := hw0.le lE
    have hp := hp0.le lE
    have hvb := hvb0.le lE
    have hvs := hvs0.le lE
    have hvc := hvc0.le lE
    try simp only [g0L13, g4L13, g5L13, g6L13, g7L13]
    refine ob_i (a := .int .i64 8) (by kernel_rfl) ?_
    refine ob_i (a := .int .i64 8) (by kernel_rfl) ?_
    refine C.spec_l04New (by first | omega | assumption) (by first | omega | assumption) (by first | omega | assumption) (by first | omega | assumption) (fun  v H14 ov nn16  le15 => ?_)
    have ap1Xv : Apart p1 v := op1.apart nn16
    have auXv : Apart u v := ou.apart nn16
    have aqXv : Apart q v := oq.apart nn16
    have nv : Nw H v := nn16.le lE
    replace op1 := op1.le le15
    replace ou := ou.le le15
    replace oq := oq.le le15
    replace hw := hw.le le15
    replace hp := hp.le le15
    replace hvb := hvb.le le15
    replace hvs := hvs.le le15
    replace hvc := hvc.le le15
    replace lE := lE.trans le15
    refine nw_i (fun z H17 oz nn18 le19 => ?_)
    have ap1Xz : Apart p1 z := op1.apart nn18
    have auXz : Apart u z := ou.apart nn18
    have aqXz : Apart q z := oq.apart nn18
    have avXz : Apart v z := ov.apart nn18
    have nz : Nw H z := nn18.le lE
    replace op1 := op1.le le19
    replace ou := ou.le le19
    replace oq := oq.le le19
    replace ov := ov.le le19
    replace hw := hw.le le19
    replace hp := hp.le le19
    replace hvb := hvb.le le19
    replace hvs := hvs.le le19
    replace hvc := hvc.le le19
    replace lE := lE.trans le19
    replace oz : Cel H17 z [(.int .i64 (0)), (.int .i64 (0)), (.slice none 0 0)] := oz
    refine oz.stn (ws := [(.int .i64 (8)), (.int .i64 (8)), v]) rfl rfl (oc1 rfl (oc1 rfl (oc1 ov.one oc0))) (fun H20 oz off21 => ?_)
    replace op1 := op1.off off21 ap1Xz
    replace ou := ou.off off21 auXz
    replace oq := oq.off off21 aqXz
    replace ov := ov.off off21 avXz
    replace hw := hw0.le (off21.le lE nz)
    replace hp := hp0.le (off21.le lE nz)
    replace hvb := hvb0.le (off21.le lE nz)
    replace hvs := hvs0.le (off21.le lE nz)
    replace hvc := hvc0.le (off21.le lE nz)
    replace lE := off21.le lE nz
    replace oz : Cel H20 z [(.int .i64 (8)), (.int .i64 (8)), v] := oz
    refine jn_i (fun σ' H' => σ' 4 = p1 ∧ σ' 11 = z ∧ Cel H' p1 [(.int .i64 (0)), (.int .i64 (0)), (.slice none 0 0)] ∧ Own eI H' u (nineL b s 16 l) ∧ Cel H' q [(.int .i64 (12)), (.int .i64 (12)), u] ∧ Own eI H' v (farL b s 16 l) ∧ Cel H' z [(.int .i64 (8)), (.int .i64 (8)), v] ∧ Le H H') (fun σ22 H22 hP => ?_) (fun J22 hJ22 => ?_)
    · skip
      obtain ⟨g4L22, g11L22, op1, ou, oq, ov, oz, lE⟩ := hP
      have hw := hw0.le lE
      have hp := hp0.le lE
      have hvb := hvb0.le lE
      have hvs := hvs0.le lE
      have hvc := hvc0.le lE
      try simp only [g4L22, g11L22]
      refine ob_i (oz.ldn rfl) ?_
      refine op1.stn (ws := [(.int .i64 (8)), (.int .i64 (8)), v]) rfl rfl (oc1 rfl (oc1 rfl (oc1 ov.one oc0))) (fun H23 op1 off24 => ?_)
      replace ou := ou.off off24 ap1Xu.symm
      replace oq := oq.off off24 ap1Xq.symm
      replace ov := ov.off off24 ap1Xv.symm
      replace oz := oz.off off24 ap1Xz.symm
      replace hw := hw0.le (off24.le lE np1)
      replace hp := hp0.le (off24.le lE np1)
      replace hvb := hvb0.le (off24.le lE np1)
      replace hvs := hvs0.le (off24.le lE np1)
      replace hvc := hvc0.le (off24.le lE np1)
      replace lE := off24.le lE np1
      replace op1 : Cel H23 p1 [(.int .i64 (8)), (.int .i64 (8)), v] := op1
      refine ob_i (op1.ldn rfl) ?_
      skip
      exact hk  v _ ov nv  lE
    refine ⟨fun n' σ' H' => ∃ i : Nat, n' = 2 - i ∧ i ≤ 2 ∧ σ' 0 = w ∧ σ' 4 = p1 ∧ σ' 5 = (.int .i64 (16)) ∧ σ' 6 = (.int .i64 (4)) ∧ σ' 7 = q ∧ σ' 11 = z ∧ σ' 12 = (.int .i64 ((i : Int))) ∧ Cel H' p1 [(.int .i64 (0)), (.int .i64 (0)), (.slice none 0 0)] ∧ Own eI H' u (nineL b s 16 l) ∧ Cel H' q [(.int .i64 (12)), (.int .i64 (12)), u] ∧ Own eI H' v (mkL 8 (blkG 4 (fourG b s 16 l) ((i : Int)) (0)) ((8 : Int).toNat * (8 : Int).toNat)) ∧ Cel H' z [(.int .i64 (8)), (.int .i64 (8)), v] ∧ Le H H',
      ⟨_, 0, rfl, by omega, g0L13, g4L13, g5L13, g6L13, g7L13, rfl, (congrArg (Value.int .i64) (by first | omega | rfl | (simp; done))), op1, ou, oq, (Own.cast (blk_zero (C := 8) (q := 4) (by omega) (by omega)) ov), oz, lE⟩, ?_⟩
    rintro n25 σ25 H25 ⟨i, rfl, hiN, g0L25, g4L25, g5L25, g6L25, g7L25, g11L25, g12L25, op1, ou, oq, ov, oz, lE⟩
    have hw := hw0.le lE
    have hp := hp0.le lE
    have hvb := hvb0.le lE
    have hvs := hvs0.le lE
    have hvc := hvc0.le lE
    try simp only [g0L25, g4L25, g5L25, g6L25, g7L25, g11L25, g12L25]
    refine ob_i (vInt_lss _ _ _) ?_
    refine cnd_d (fun hg26 => ?_) (fun hg26 => ?_)
    · skip
      have ti := hg26
      refine jn_i (fun σ' H' => σ' 0 = w ∧ σ' 4 = p1 ∧ σ' 5 = (.int .i64 (16)) ∧ σ' 6 = (.int .i64 (4)) ∧ σ' 7 = q ∧ σ' 11 = z ∧ σ' 12 = (.int .i64 ((i : Int))) ∧ Cel H' p1 [(.int .i64 (0)), (.int .i64 (0)), (.slice none 0 0)] ∧ Own eI H' u (nineL b s 16 l) ∧ Cel H' q [(.int .i64 (12)), (.int .i64 (12)), u] ∧ Own eI H' v (mkL 8 (blkG 4 (fourG b s 16 l) ((i : Int) + 1) (0)) ((8 : Int).toNat * (8 : Int).toNat)) ∧ Cel H' z [(.int .i64 (8)), (.int .i64 (8)), v] ∧ Le H H') (fun σ27 H27 hP => ?_) (fun J27 hJ27 => ?_)
      · skip
        obtain ⟨g0L27, g4L27, g5L27, g6L27, g7L27, g11L27, g12L27, op1, ou, oq, ov, oz, lE⟩ := hP
        have hw := hw0.le lE
        have hp := hp0.le lE
        have hvb := hvb0.le lE
        have hvs := hvs0.le lE
        have hvc := hvc0.le lE
        try simp only [g4L27, g12L27]
        refine ob_i (vInt_add (by omega) (by omega)) ?_
        exact nxt (2 - (i + 1)) (by omega) ⟨i + 1, rfl, by omega, g0L27, g4L27, g5L27, g6L27, g7L27, g11L27, (congrArg (Value.int .i64) (by first | omega | rfl | (simp; done))), op1, ou, oq, ov, oz, lE⟩
      refine ⟨fun n' σ' H' => ∃ k : Nat, n' = 2 - k ∧ k ≤ 2 ∧ σ' 0 = w ∧ σ' 4 = p1 ∧ σ' 5 = (.int .i64 (16)) ∧ σ' 6 = (.int .i64 (4)) ∧ σ' 7 = q ∧ σ' 11 = z ∧ σ' 12 = (.int .i64 ((i : Int))) ∧ σ' 13 = (.int .i64 ((k : Int))) ∧ Cel H' p1 [(.int .i64 (0)), (.int .i64 (0)), (.slice none 0 0)] ∧ Own eI H' u (nineL b s 16 l) ∧ Cel H' q [(.int .i64 (12)), (.int .i64 (12)), u] ∧ Own eI H' v (mkL 8 (blkG 4 (fourG b s 16 l) ((i : Int)) ((k : Int))) ((8 : Int).toNat * (8 : Int).toNat)) ∧ Cel H' z [(.int .i64 (8)), (.int .i64 (8)), v] ∧ Le H H',
        ⟨_, 0, rfl, by omega, g0L25, g4L25, g5L25, g6L25, g7L25, g11L25, g12L25, (congrArg (Value.int .i64) (by first | omega | rfl | (simp; done))), op1, ou, oq, ov, oz, lE⟩, ?_⟩
      rintro n28 σ28 H28 ⟨k, rfl, hkN, g0L28, g4L28, g5L28, g6L28, g7L28, g11L28, g12L28, g13L28, op1, ou, oq, ov, oz, lE⟩
      have hw := hw0.le lE
      have hp := hp0.le lE
      have hvb := hvb0.le lE
      have hvs := hvs0.le lE
      have hvc := hvc0.le lE
      try simp only [g0L28, g4L28, g5L28, g6L28, g7L28, g11L28, g12L28, g13L28]
      refine ob_i (vInt_lss _ _ _) ?_
      refine cnd_d (fun hg29 => ?_) (fun hg29 => ?_)
      · skip
        have tk := hg29
        refine ob_i (vInt_mul (by omega) (by omega)) ?_
        refine ob_i (vInt_mul (by omega) (by omega)) ?_
        refine ob_i (a := .int .i64 8) (by kernel_rfl) ?_
        refine ob_i (a := .int .i64 8) (by kernel_rfl) ?_
        refine C.spec_l05Cut oq ou.sl (by first | omega | assumption) (by first | omega | assumption) (by first | omega | assumption) (by first | omega | assumption) (by first | omega | assumption) (by first | omega | assumption) (by first | omega | assumption) (by first | omega | assumption) (fun  u32 H30 ou32 nn33  le31 => ?_)
        have ap1Xu32 : Apart p1 u32 := op1.apart nn33
        have auXu32 : Apart u u32 := ou.apart nn33
        have aqXu32 : Apart q u32 := oq.apart nn33
        have avXu32 : Apart v u32 := ov.apart nn33
        have azXu32 : Apart z u32 := oz.apart nn33
        have nu32 : Nw H u32 := nn33.le lE
        replace op1 := op1.le le31
        replace ou := ou.le le31
        replace oq := oq.le le31
        replace ov := ov.le le31
        replace oz := oz.le le31
        replace hw := hw.le le31
        replace hp := hp.le le31
        replace hvb := hvb.le le31
        replace hvs := hvs.le le31
        replace hvc := hvc.le le31
        replace lE := lE.trans le31
        refine nw_i (fun p34 H35 op34 nn36 le37 => ?_)
        have ap1Xp34 : Apart p1 p34 := op1.apart nn36
        have auXp34 : Apart u p34 := ou.apart nn36
        have aqXp34 : Apart q p34 := oq.apart nn36
        have avXp34 : Apart v p34 := ov.apart nn36
        have azXp34 : Apart z p34 := oz.apart nn36
        have au32Xp34 : Apart u32 p34 := ou32.apart nn36
        have np34 : Nw H p34 := nn36.le lE
        replace op1 := op1.le le37
        replace ou := ou.le le37
        replace oq := oq.le le37
        replace ov := ov.le le37
        replace oz := oz.le le37
        replace ou32 := ou32.le le37
        replace hw := hw.le le37
        replace hp := hp.le le37
        replace hvb := hvb.le le37
        replace hvs := hvs.le le37
        replace hvc := hvc.le le37
        replace lE := lE.trans le37
        replace op34 : Cel H35 p34 [(.int .i64 (0)), (.int .i64 (0)), (.slice none 0 0)] := op34
        refine op34.stn (ws := [(.int .i64 (8)), (.int .i64 (8)), u32]) rfl rfl (oc1 rfl (oc1 rfl (oc1 ou32.one oc0))) (fun H38 op34 off39 => ?_)
        replace op1 := op1.off off39 ap1Xp34
        replace ou := ou.off off39 auXp34
        replace oq := oq.off off39 aqXp34
        replace ov := ov.off off39 avXp34
        replace oz := oz.off off39 azXp34
        replace ou32 := ou32.off off39 au32Xp34
        replace hw := hw0.le (off39.le lE np34)
        replace hp := hp0.le (off39.le lE np34)
        replace hvb := hvb0.le (off39.le lE np34)
        replace hvs := hvs0.le (off39.le lE np34)
        replace hvc := hvc0.le (off39.le lE np34)
        replace lE := off39.le lE np34
        replace op34 : Cel H38 p34 [(.int .i64 (8)), (.int .i64 (8)), u32] := op34
        refine C.far8 hw op34 hvb hvs ou32.sl (by first | assumption | exact cut_field hf (by omega) (by omega) (by omega) (by omega) (by omega) (by omega) | exact cut_field n9 (by omega) (by omega) (by omega) (by omega) (by omega) (by omega)) (by first | omega | assumption) (by first | omega | assumption) (fun  u42 H40 ou42 nn43  le41 => ?_)
        have ap1Xu42 : Apart p1 u42 := op1.apart nn43
        have auXu42 : Apart u u42 := ou.apart nn43
        have aqXu42 : Apart q u42 := oq.apart nn43
        have avXu42 : Apart v u42 := ov.apart nn43
        have azXu42 : Apart z u42 := oz.apart nn43
        have au32Xu42 : Apart u32 u42 := ou32.apart nn43
        have ap34Xu42 : Apart p34 u42 := op34.apart nn43
        have nu42 : Nw H u42 := nn43.le lE
        replace op1 := op1.le le41
        replace ou := ou.le le41
        replace oq := oq.le le41
        replace ov := ov.le le41
        replace oz := oz.le le41
        replace ou32 := ou32.le le41
        replace op34 := op34.le le41
        replace hw := hw.le le41
        replace hp := hp.le le41
        replace hvb := hvb.le le41
        replace hvs := hvs.le le41
        replace hvc := hvc.le le41
        replace lE := lE.trans le41
        refine op34.stn (ws := [(.int .i64 (4)), (.int .i64 (4)), u42]) rfl rfl (oc1 rfl (oc1 rfl (oc1 ou42.one oc0))) (fun H44 op34 off45 => ?_)
        replace op1 := op1.off off45 ap1Xp34
        replace ou := ou.off off45 auXp34
        replace oq := oq.off off45 aqXp34
        replace ov := ov.off off45 avXp34
        replace oz := oz.off off45 azXp34
        replace ou32 := ou32.off off45 au32Xp34
        replace ou42 := ou42.off off45 ap34Xu42.symm
        replace hw := hw0.le (off45.le lE np34)
        replace hp := hp0.le (off45.le lE np34)
        replace hvb := hvb0.le (off45.le lE np34)
        replace hvs := hvs0.le (off45.le lE np34)
        replace hvc := hvc0.le (off45.le lE np34)
        replace lE := off45.le lE np34
        replace op34 : Cel H44 p34 [(.int .i64 (4)), (.int .i64 (4)), u42] := op34
        refine ob_i (vInt_mul (by omega) (by omega)) ?_
        refine ob_i (vInt_mul (by omega) (by omega)) ?_
        have hmH46 : ((farL b s 8 (mkL 8 (cutG 12 (nineL b s 16 l) ((i : Int) * 4) ((k : Int) * 4)) ((8 : Int).toNat * (8 : Int).toNat))).length : Int) = 4 * 4 := (far_field (b := b) (s := s) (n := 8) (by omega)).2.1
        refine C.spec_l05Put oz op34 ov ou42.ro avXz.symm avXp34.symm avXu42.symm (by omega) (by omega) (by omega) (by omega) (by omega) (by omega) (by omega) (by omega) hmH46 (fun H46 ov off47 => ?_)
        replace op1 := op1.off off47 ap1Xv
        replace ou := ou.off off47 auXv
        replace oq := oq.off off47 aqXv
        replace oz := oz.off off47 avXz.symm
        replace ou32 := ou32.off off47 avXu32.symm
        replace op34 := op34.off off47 avXp34.symm
        replace ou42 := ou42.off off47 avXu42.symm
        replace hw := hw0.le (off47.le lE nv)
        replace hp := hp0.le (off47.le lE nv)
        replace hvb := hvb0.le (off47.le lE nv)
        replace hvs := hvs0.le (off47.le lE nv)
        replace hvc := hvc0.le (off47.le lE nv)
        replace lE := off47.le lE nv
        rw [blk_put (C := 8) (g := fourG b s 16 l) (m := farL b s 8 (mkL 8 (cutG 12 (nineL b s 16 l) ((i : Int) * 4) ((k : Int) * 4)) ((8 : Int).toNat * (8 : Int).toNat))) (q := 4) (i := (i : Int)) (k := (k : Int)) (by omega) (by omega) (fun x y x0 x1 y0 y1 => four_at (b := b) (s := s) (l := l) (n := 16) (by omega) (by omega) (by omega) (by omega) (by omega) x0 (by omega) y0 (by omega))] at ov
        refine ob_i (vInt_add (by omega) (by omega)) ?_
        exact nxt (2 - (k + 1)) (by omega) ⟨k + 1, rfl, by omega, g0L28, g4L28, g5L28, g6L28, g7L28, g11L28, g12L28, (congrArg (Value.int .i64) (by first | omega | rfl | (simp; done))), op1, ou, oq, ov, oz, lE⟩
      · skip
        have tk := hg29
        rw [blk_row (by omega) (by omega) (show (8 : Int) = (k : Int) * 4 by omega)] at ov
        exact hJ27 _ _ ⟨g0L28, g4L28, g5L28, g6L28, g7L28, g11L28, g12L28, op1, ou, oq, ov, oz, lE⟩
    · skip
      have ti := hg26
      have ei : (i : Int) = 2 := by omega
      rw [ei, blk_end (k := 2) (by omega) (by omega) (by omega) (by decide)] at ov
      replace ov : Own eI H25 v (farL b s 16 l) := ov
      exact hJ22 _ _ ⟨g4L25, g11L25, op1, ou, oq, ov, oz, lE⟩
  refine ⟨fun n' σ' H' => ∃ i : Nat, n' = 3 - i ∧ i ≤ 3 ∧ σ' 0 = w ∧ σ' 1 = p ∧ σ' 4 = p1 ∧ σ' 5 = (.int .i64 (16)) ∧ σ' 6 = (.int .i64 (4)) ∧ σ' 7 = q ∧ σ' 8 = (.int .i64 ((i : Int))) ∧ Cel H' p1 [(.int .i64 (0)), (.int .i64 (0)), (.slice none 0 0)] ∧ Own eI H' u (mkL 12 (blkG 4 (nineG b s 16 l) ((i : Int)) (0)) ((12 : Int).toNat * (12 : Int).toNat)) ∧ Cel H' q [(.int .i64 (12)), (.int .i64 (12)), u] ∧ Le H H',
    ⟨_, 0, rfl, by omega, rfl, rfl, rfl, rfl, rfl, rfl, (congrArg (Value.int .i64) (by first | omega | rfl | (simp; done))), op1, (Own.cast (blk_zero (C := 12) (q := 4) (by omega) (by omega)) ou), oq, lE⟩, ?_⟩
  rintro n48 σ48 H48 ⟨i, rfl, hiN, g0L48, g1L48, g4L48, g5L48, g6L48, g7L48, g8L48, op1, ou, oq, lE⟩
  have hw := hw0.le lE
  have hp := hp0.le lE
  have hvb := hvb0.le lE
  have hvs := hvs0.le lE
  have hvc := hvc0.le lE
  try simp only [g0L48, g1L48, g4L48, g5L48, g6L48, g7L48, g8L48]
  refine ob_i (vInt_lss _ _ _) ?_
  refine cnd_d (fun hg49 => ?_) (fun hg49 => ?_)
  · skip
    have ti := hg49
    refine jn_i (fun σ' H' => σ' 0 = w ∧ σ' 1 = p ∧ σ' 4 = p1 ∧ σ' 5 = (.int .i64 (16)) ∧ σ' 6 = (.int .i64 (4)) ∧ σ' 7 = q ∧ σ' 8 = (.int .i64 ((i : Int))) ∧ Cel H' p1 [(.int .i64 (0)), (.int .i64 (0)), (.slice none 0 0)] ∧ Own eI H' u (mkL 12 (blkG 4 (nineG b s 16 l) ((i : Int) + 1) (0)) ((12 : Int).toNat * (12 : Int).toNat)) ∧ Cel H' q [(.int .i64 (12)), (.int .i64 (12)), u] ∧ Le H H') (fun σ50 H50 hP => ?_) (fun J50 hJ50 => ?_)
    · skip
      obtain ⟨g0L50, g1L50, g4L50, g5L50, g6L50, g7L50, g8L50, op1, ou, oq, lE⟩ := hP
      have hw := hw0.le lE
      have hp := hp0.le lE
      have hvb := hvb0.le lE
      have hvs := hvs0.le lE
      have hvc := hvc0.le lE
      try simp only [g4L50, g8L50]
      refine ob_i (vInt_add (by omega) (by omega)) ?_
      exact nxt (3 - (i + 1)) (by omega) ⟨i + 1, rfl, by omega, g0L50, g1L50, g4L50, g5L50, g6L50, g7L50, (congrArg (Value.int .i64) (by first | omega | rfl | (simp; done))), op1, ou, oq, lE⟩
    refine ⟨fun n' σ' H' => ∃ k : Nat, n' = 3 - k ∧ k ≤ 3 ∧ σ' 0 = w ∧ σ' 1 = p ∧ σ' 4 = p1 ∧ σ' 5 = (.int .i64 (16)) ∧ σ' 6 = (.int .i64 (4)) ∧ σ' 7 = q ∧ σ' 8 = (.int .i64 ((i : Int))) ∧ σ' 9 = (.int .i64 ((k : Int))) ∧ Cel H' p1 [(.int .i64 (0)), (.int .i64 (0)), (.slice none 0 0)] ∧ Own eI H' u (mkL 12 (blkG 4 (nineG b s 16 l) ((i : Int)) ((k : Int))) ((12 : Int).toNat * (12 : Int).toNat)) ∧ Cel H' q [(.int .i64 (12)), (.int .i64 (12)), u] ∧ Le H H',
      ⟨_, 0, rfl, by omega, g0L48, g1L48, g4L48, g5L48, g6L48, g7L48, g8L48, (congrArg (Value.int .i64) (by first | omega | rfl | (simp; done))), op1, ou, oq, lE⟩, ?_⟩
    rintro n51 σ51 H51 ⟨k, rfl, hkN, g0L51, g1L51, g4L51, g5L51, g6L51, g7L51, g8L51, g9L51, op1, ou, oq, lE⟩
    have hw := hw0.le lE
    have hp := hp0.le lE
    have hvb := hvb0.le lE
    have hvs := hvs0.le lE
    have hvc := hvc0.le lE
    try simp only [g0L51, g1L51, g4L51, g5L51, g6L51, g7L51, g8L51, g9L51]
    refine ob_i (vInt_lss _ _ _) ?_
    refine cnd_d (fun hg52 => ?_) (fun hg52 => ?_)
    · skip
      have tk := hg52
      refine ob_i (vInt_mul (by omega) (by omega)) ?_
      refine ob_i (vInt_mul (by omega) (by omega)) ?_
      refine ob_i (a := .int .i64 8) (by kernel_rfl) ?_
      refine ob_i (a := .int .i64 8) (by kernel_rfl) ?_
      refine C.spec_l05Cut hp hvc (by first | omega | assumption) (by first | omega | assumption) (by first | omega | assumption) (by first | omega | assumption) (by first | omega | assumption) (by first | omega | assumption) (by first | omega | assumption) (by first | omega | assumption) (fun  u55 H53 ou55 nn56  le54 => ?_)
      have ap1Xu55 : Apart p1 u55 := op1.apart nn56
      have auXu55 : Apart u u55 := ou.apart nn56
      have aqXu55 : Apart q u55 := oq.apart nn56
      have nu55 : Nw H u55 := nn56.le lE
      replace op1 := op1.le le54
      replace ou := ou.le le54
      replace oq := oq.le le54
      replace hw := hw.le le54
      replace hp := hp.le le54
      replace hvb := hvb.le le54
      replace hvs := hvs.le le54
      replace hvc := hvc.le le54
      replace lE := lE.trans le54
      refine nw_i (fun p57 H58 op57 nn59 le60 => ?_)
      have ap1Xp57 : Apart p1 p57 := op1.apart nn59
      have auXp57 : Apart u p57 := ou.apart nn59
      have aqXp57 : Apart q p57 := oq.apart nn59
      have au55Xp57 : Apart u55 p57 := ou55.apart nn59
      have np57 : Nw H p57 := nn59.le lE
      replace op1 := op1.le le60
      replace ou := ou.le le60
      replace oq := oq.le le60
      replace ou55 := ou55.le le60
      replace hw := hw.le le60
      replace hp := hp.le le60
      replace hvb := hvb.le le60
      replace hvs := hvs.le le60
      replace hvc := hvc.le le60
      replace lE := lE.trans le60
      replace op57 : Cel H58 p57 [(.int .i64 (0)), (.int .i64 (0)), (.slice none 0 0)] := op57
      refine op57.stn (ws := [(.int .i64 (8)), (.int .i64 (8)), u55]) rfl rfl (oc1 rfl (oc1 rfl (oc1 ou55.one oc0))) (fun H61 op57 off62 => ?_)
      replace op1 := op1.off off62 ap1Xp57
      replace ou := ou.off off62 auXp57
      replace oq := oq.off off62 aqXp57
      replace ou55 := ou55.off off62 au55Xp57
      replace hw := hw0.le (off62.le lE np57)
      replace hp := hp0.le (off62.le lE np57)
      replace hvb := hvb0.le (off62.le lE np57)
      replace hvs := hvs0.le (off62.le lE np57)
      replace hvc := hvc0.le (off62.le lE np57)
      replace lE := off62.le lE np57
      replace op57 : Cel H61 p57 [(.int .i64 (8)), (.int .i64 (8)), u55] := op57
      refine C.far8 hw op57 hvb hvs ou55.sl (by first | assumption | exact cut_field hf (by omega) (by omega) (by omega) (by omega) (by omega) (by omega) | exact cut_field n9 (by omega) (by omega) (by omega) (by omega) (by omega) (by omega)) (by first | omega | assumption) (by first | omega | assumption) (fun  u65 H63 ou65 nn66  le64 => ?_)
      have ap1Xu65 : Apart p1 u65 := op1.apart nn66
      have auXu65 : Apart u u65 := ou.apart nn66
      have aqXu65 : Apart q u65 := oq.apart nn66
      have au55Xu65 : Apart u55 u65 := ou55.apart nn66
      have ap57Xu65 : Apart p57 u65 := op57.apart nn66
      have nu65 : Nw H u65 := nn66.le lE
      replace op1 := op1.le le64
      replace ou := ou.le le64
      replace oq := oq.le le64
      replace ou55 := ou55.le le64
      replace op57 := op57.le le64
      replace hw := hw.le le64
      replace hp := hp.le le64
      replace hvb := hvb.le le64
      replace hvs := hvs.le le64
      replace hvc := hvc.le le64
      replace lE := lE.trans le64
      refine op57.stn (ws := [(.int .i64 (4)), (.int .i64 (4)), u65]) rfl rfl (oc1 rfl (oc1 rfl (oc1 ou65.one oc0))) (fun H67 op57 off68 => ?_)
      replace op1 := op1.off off68 ap1Xp57
      replace ou := ou.off off68 auXp57
      replace oq := oq.off off68 aqXp57
      replace ou55 := ou55.off off68 au55Xp57
      replace ou65 := ou65.off off68 ap57Xu65.symm
      replace hw := hw0.le (off68.le lE np57)
      replace hp := hp0.le (off68.le lE np57)
      replace hvb := hvb0.le (off68.le lE np57)
      replace hvs := hvs0.le (off68.le lE np57)
      replace hvc := hvc0.le (off68.le lE np57)
      replace lE := off68.le lE np57
      replace op57 : Cel H67 p57 [(.int .i64 (4)), (.int .i64 (4)), u65] := op57
      refine ob_i (vInt_mul (by omega) (by omega)) ?_
      refine ob_i (vInt_mul (by omega) (by omega)) ?_
      have hmH69 : ((farL b s 8 (mkL 8 (cutG 16 l ((i : Int) * 4) ((k : Int) * 4)) ((8 : Int).toNat * (8 : Int).toNat))).length : Int) = 4 * 4 := (far_field (b := b) (s := s) (n := 8) (by omega)).2.1
      refine C.spec_l05Put oq op57 ou ou65.ro auXq.symm auXp57.symm auXu65.symm (by omega) (by omega) (by omega) (by omega) (by omega) (by omega) (by omega) (by omega) hmH69 (fun H69 ou off70 => ?_)
      replace op1 := op1.off off70 ap1Xu
      replace oq := oq.off off70 auXq.symm
      replace ou55 := ou55.off off70 auXu55.symm
      replace op57 := op57.off off70 auXp57.symm
      replace ou65 := ou65.off off70 auXu65.symm
      replace hw := hw0.le (off70.le lE nu)
      replace hp := hp0.le (off70.le lE nu)
      replace hvb := hvb0.le (off70.le lE nu)
      replace hvs := hvs0.le (off70.le lE nu)
      replace hvc := hvc0.le (off70.le lE nu)
      replace lE := off70.le lE nu
      rw [blk_put (C := 12) (g := nineG b s 16 l) (m := farL b s 8 (mkL 8 (cutG 16 l ((i : Int) * 4) ((k : Int) * 4)) ((8 : Int).toNat * (8 : Int).toNat))) (q := 4) (i := (i : Int)) (k := (k : Int)) (by omega) (by omega) (fun x y x0 x1 y0 y1 => nine_at (b := b) (s := s) (l := l) (n := 16) (by omega) hl (by omega) (by omega) (by omega) (by omega) x0 (by omega) y0 (by omega))] at ou
      refine ob_i (vInt_add (by omega) (by omega)) ?_
      exact nxt (3 - (k + 1)) (by omega) ⟨k + 1, rfl, by omega, g0L51, g1L51, g4L51, g5L51, g6L51, g7L51, g8L51, (congrArg (Value.int .i64) (by first | omega | rfl | (simp; done))), op1, ou, oq, lE⟩
    · skip
      have tk := hg52
      rw [blk_row (by omega) (by omega) (show (12 : Int) = (k : Int) * 4 by omega)] at ou
      exact hJ50 _ _ ⟨g0L51, g1L51, g4L51, g5L51, g6L51, g7L51, g8L51, op1, ou, oq, lE⟩
  · skip
    have ti := hg49
    have ei : (i : Int) = 3 := by omega
    rw [ei, blk_end (k := 3) (by omega) (by omega) (by omega) (by decide)] at ou
    replace ou : Own eI H48 u (nineL b s 16 l) := ou
    exact hJ13 _ _ ⟨g0L48, g4L48, g5L48, g6L48, g7L48, op1, ou, oq, lE⟩
theorem C.far_any {w p vb vs vc : Value} {r c : Int} {b s l : List Int} {H : Hp} {K : Value → Hp → Prop} (hw0 : Cel H w [vb, vs]) (hp0 : Cel H p [.int .i64 r, .int .i64 c, vc]) (hvb0 : Sl eI H vb b) (hvs0 : Sl eI H vs s) (hvc0 : Sl eI H vc l) (hq : sqP r c l) (kb : b.length ≤ 9223372036854775807) (ks : s.length ≤ 9223372036854775807)
    (hk : ∀ u1 H', Own eI H' u1 (farL b s r l) → Nw H u1 → Le H H' → K (.agg #[(.int .i64 (r / 2)), (.int .i64 (r / 2)), u1]) H') : HT prg I.spec_l05Far [w, p].toArray H K := by
  obtain ⟨hf, rfl, h4⟩ := hq
  rcases h4 with rfl | rfl | rfl
  · exact C.far4 hw0 hp0 hvb0 hvs0 hvc0 hf kb ks hk
  · exact C.far8 hw0 hp0 hvb0 hvs0 hvc0 hf kb ks hk
  · exact C.far16 hw0 hp0 hvb0 hvs0 hvc0 hf kb ks hk
theorem C.spec_InnerLife {vb vs vc : Value} {r c : Int} {b : List Int} {s : List Int} {l : List Int}  {H : Hp} {K : Value → Hp → Prop} (hvb0 : Sl eI H vb b) (hvs0 : Sl eI H vs s) (hvc0 : Sl eI H vc l) (kb : b.length ≤ 9223372036854775807) (ks : s.length ≤ 9223372036854775807) (k1 : l.length ≤ 9223372036854775807)
    (hk : ∀ u1 H', Own eI H' u1 (selL (inP b s r c l) (farL b s r l)) → Nw H u1 → Le H H' → K (.tuple #[(.agg #[(.int .i64 (selI (inP b s r c l) (r / 2))), (.int .i64 (selI (inP b s r c l) (c / 2))), u1]), (.bool (decide (inP b s r c l)))]) H') : HT prg I.spec_InnerLife [(.agg #[vb, vs]), (.agg #[(.int .i64 (r)), (.int .i64 (c)), vc])].toArray H K := by
  have lE := Le.refl H
  have hvb := hvb0
  have hvs := hvs0
  have hvc := hvc0
  refine R.spec_InnerLife ?_
  unfold F.spec_InnerLife
  refine nw_i (fun p1 H2 op1 nn3 le4 => ?_)
  have np1 : Nw H p1 := nn3.le lE
  replace hvb := hvb.le le4
  replace hvs := hvs.le le4
  replace hvc := hvc.le le4
  replace lE := lE.trans le4
  replace op1 : Cel H2 p1 [vb, vs] := op1
  refine nw_i (fun p5 H6 op5 nn7 le8 => ?_)
  have ap1Xp5 : Apart p1 p5 := op1.apart nn7
  have np5 : Nw H p5 := nn7.le lE
  replace op1 := op1.le le8
  replace hvb := hvb.le le8
  replace hvs := hvs.le le8
  replace hvc := hvc.le le8
  replace lE := lE.trans le8
  replace op5 : Cel H6 p5 [(.int .i64 (r)), (.int .i64 (c)), vc] := op5
  refine nw_i (fun p9 H10 op9 nn11 le12 => ?_)
  have ap1Xp9 : Apart p1 p9 := op1.apart nn11
  have ap5Xp9 : Apart p5 p9 := op5.apart nn11
  have np9 : Nw H p9 := nn11.le lE
  replace op1 := op1.le le12
  replace op5 := op5.le le12
  replace hvb := hvb.le le12
  replace hvs := hvs.le le12
  replace hvc := hvc.le le12
  replace lE := lE.trans le12
  replace op9 : Cel H10 p9 [(.int .i64 (0)), (.int .i64 (0)), (.slice none 0 0)] := op9
  refine C.spec_l04Life op1 hvb hvs (by first | omega | assumption) (by first | omega | assumption) (fun   H13    le14 => ?_)
  replace op1 := op1.le le14
  replace op5 := op5.le le14
  replace op9 := op9.le le14
  replace hvb := hvb.le le14
  replace hvs := hvs.le le14
  replace hvc := hvc.le le14
  replace lE := lE.trans le14
  refine ob_nd (fun hc15 => ?_) (fun hc15 => ?_)
  · skip
    refine gop_rf ?_
    refine C.spec_l05Square op5 hvc (by first | omega | assumption) (fun   H16    le17 => ?_)
    replace op1 := op1.le le17
    replace op5 := op5.le le17
    replace op9 := op9.le le17
    replace hvb := hvb.le le17
    replace hvs := hvs.le le17
    replace hvc := hvc.le le17
    replace lE := lE.trans le17
    refine gop_rf ?_
    refine ob_nd (fun hc18 => ?_) (fun hc18 => ?_)
    · skip
      have hf := hc18.1
      have hq := hc18.2
      have l1 := fieldN_len hf
      have hs := hf.1
      have hl := hf.2.1
      have q1 := hs.1
      have q2 := hs.2
      have qm := sidesF_mul hs
      have hcr : c = r := by omega
      refine ob_i (vPick_f _ _) ?_
      refine cnd_f1 ?_
      refine C.far_any op1 op5 hvb hvs hvc (by first | omega | assumption) (by first | omega | assumption) (by first | omega | assumption) (fun  u21 H19 ou21 nn22  le20 => ?_)
      have ap1Xu21 : Apart p1 u21 := op1.apart nn22
      have ap5Xu21 : Apart p5 u21 := op5.apart nn22
      have ap9Xu21 : Apart p9 u21 := op9.apart nn22
      have nu21 : Nw H u21 := nn22.le lE
      replace op1 := op1.le le20
      replace op5 := op5.le le20
      replace op9 := op9.le le20
      replace hvb := hvb.le le20
      replace hvs := hvs.le le20
      replace hvc := hvc.le le20
      replace lE := lE.trans le20
      refine op9.stn (ws := [(.int .i64 (r / 2)), (.int .i64 (r / 2)), u21]) rfl rfl (oc1 rfl (oc1 rfl (oc1 ou21.one oc0))) (fun H23 op9 off24 => ?_)
      replace op1 := op1.off off24 ap1Xp9
      replace op5 := op5.off off24 ap5Xp9
      replace ou21 := ou21.off off24 ap9Xu21.symm
      replace hvb := hvb0.le (off24.le lE np9)
      replace hvs := hvs0.le (off24.le lE np9)
      replace hvc := hvc0.le (off24.le lE np9)
      replace lE := off24.le lE np9
      replace op9 : Cel H23 p9 [(.int .i64 (r / 2)), (.int .i64 (r / 2)), u21] := op9
      refine ob_i (op9.ldn rfl) ?_
      skip
      have hok : inP b s r c l := by first | assumption | exact ⟨by assumption, by assumption⟩ | exact ⟨by assumption, by omega⟩
      exact keq (K := K) (by rw [show ((selI (inP b s r c l) (r / 2)) : Int) = (r / 2) from by first | exact selI_t hok | exact selI_f hok | (rw [selI_t hok]; done) | (rw [selI_t hok]; omega)]; rw [show ((selI (inP b s r c l) (c / 2)) : Int) = (r / 2) from by first | exact selI_t hok | exact selI_f hok | (rw [selI_t hok]; done) | (rw [selI_t hok]; omega)]; rw [decide_eq_true (show (inP b s r c l) from by exact hok)]) (hk  u21 _ (Own.cast (show farL b s r l = selL (inP b s r c l) (farL b s r l) by exact (selL_t hok).symm) ou21) nu21  lE)
    · skip
      refine ob_i (vPick_f _ _) ?_
      refine cnd_t1 ?_
      refine ob_i (a := (.agg #[(.int .i64 (0)), (.int .i64 (0)), (.slice none 0 0)])) (by rfl) ?_
      refine op9.stn (ws := [(.int .i64 (0)), (.int .i64 (0)), (.slice none 0 0)]) rfl rfl (oc1 rfl (oc1 rfl (oc1 rfl oc0))) (fun H25 op9 off26 => ?_)
      replace op1 := op1.off off26 ap1Xp9
      replace op5 := op5.off off26 ap5Xp9
      replace hvb := hvb0.le (off26.le lE np9)
      replace hvs := hvs0.le (off26.le lE np9)
      replace hvc := hvc0.le (off26.le lE np9)
      replace lE := off26.le lE np9
      replace op9 : Cel H25 p9 [(.int .i64 (0)), (.int .i64 (0)), (.slice none 0 0)] := op9
      refine ob_i (op9.ldn rfl) ?_
      skip
      have hok : ¬ (inP b s r c l) := by intro h; first | exact absurd h.1 (by assumption) | exact absurd h.2 (by assumption) | (have := h.2; omega)
      exact keq (K := K) (by rw [show ((selI (inP b s r c l) (r / 2)) : Int) = (0) from by first | exact selI_t hok | exact selI_f hok | (rw [selI_t hok]; done) | (rw [selI_t hok]; omega)]; rw [show ((selI (inP b s r c l) (c / 2)) : Int) = (0) from by first | exact selI_t hok | exact selI_f hok | (rw [selI_t hok]; done) | (rw [selI_t hok]; omega)]; rw [decide_eq_false (show ¬ (inP b s r c l) from by exact hok)]) (hk  (.slice none 0 0) _ (Own.cast (show [] = selL (inP b s r c l) (farL b s r l) by exact (selL_f hok).symm) (Own.nil_of none)) (fun b hb => by simp [bk] at hb)  lE)
  · skip
    refine gop_st ?_
    refine gop_st ?_
    refine ob_i (vPick_t _ _) ?_
    refine cnd_t1 ?_
    refine ob_i (a := (.agg #[(.int .i64 (0)), (.int .i64 (0)), (.slice none 0 0)])) (by rfl) ?_
    refine op9.stn (ws := [(.int .i64 (0)), (.int .i64 (0)), (.slice none 0 0)]) rfl rfl (oc1 rfl (oc1 rfl (oc1 rfl oc0))) (fun H27 op9 off28 => ?_)
    replace op1 := op1.off off28 ap1Xp9
    replace op5 := op5.off off28 ap5Xp9
    replace hvb := hvb0.le (off28.le lE np9)
    replace hvs := hvs0.le (off28.le lE np9)
    replace hvc := hvc0.le (off28.le lE np9)
    replace lE := off28.le lE np9
    replace op9 : Cel H27 p9 [(.int .i64 (0)), (.int .i64 (0)), (.slice none 0 0)] := op9
    refine ob_i (op9.ldn rfl) ?_
    skip
    have hok : ¬ (inP b s r c l) := by intro h; first | exact absurd h.1 (by assumption) | exact absurd h.2 (by assumption) | (have := h.2; omega)
    exact keq (K := K) (by rw [show ((selI (inP b s r c l) (r / 2)) : Int) = (0) from by first | exact selI_t hok | exact selI_f hok | (rw [selI_t hok]; done) | (rw [selI_t hok]; omega)]; rw [show ((selI (inP b s r c l) (c / 2)) : Int) = (0) from by first | exact selI_t hok | exact selI_f hok | (rw [selI_t hok]; done) | (rw [selI_t hok]; omega)]; rw [decide_eq_false (show ¬ (inP b s r c l) from by exact hok)]) (hk  (.slice none 0 0) _ (Own.cast (show [] = selL (inP b s r c l) (farL b s r l) by exact (selL_f hok).symm) (Own.nil_of none)) (fun b hb => by simp [bk] at hb)  lE)
theorem C.impl_InnerLife {vb vs vc : Value} {r c : Int} {b : List Int} {s : List Int} {l : List Int}  {H : Hp} {K : Value → Hp → Prop} (hvb0 : Sl eI H vb b) (hvs0 : Sl eI H vs s) (hvc0 : Sl eI H vc l) (kb : b.length ≤ 9223372036854775807) (ks : s.length ≤ 9223372036854775807) (k1 : l.length ≤ 9223372036854775807)
    (hk : ∀ u1 H', Own eI H' u1 (selL (inP b s r c l) (farL b s r l)) → Nw H u1 → Le H H' → K (.tuple #[(.agg #[(.int .i64 (selI (inP b s r c l) (r / 2))), (.int .i64 (selI (inP b s r c l) (c / 2))), u1]), (.bool (decide (inP b s r c l)))]) H') : HT prg I.impl_InnerLife [(.agg #[vb, vs]), (.agg #[(.int .i64 (r)), (.int .i64 (c)), vc])].toArray H K := by
  have lE := Le.refl H
  have hvb := hvb0
  have hvs := hvs0
  have hvc := hvc0
  refine R.impl_InnerLife ?_
  unfold F.impl_InnerLife
  refine nw_i (fun p1 H2 op1 nn3 le4 => ?_)
  have np1 : Nw H p1 := nn3.le lE
  replace hvb := hvb.le le4
  replace hvs := hvs.le le4
  replace hvc := hvc.le le4
  replace lE := lE.trans le4
  replace op1 : Cel H2 p1 [vb, vs] := op1
  refine nw_i (fun p5 H6 op5 nn7 le8 => ?_)
  have ap1Xp5 : Apart p1 p5 := op1.apart nn7
  have np5 : Nw H p5 := nn7.le lE
  replace op1 := op1.le le8
  replace hvb := hvb.le le8
  replace hvs := hvs.le le8
  replace hvc := hvc.le le8
  replace lE := lE.trans le8
  replace op5 : Cel H6 p5 [(.int .i64 (r)), (.int .i64 (c)), vc] := op5
  refine nw_i (fun p9 H10 op9 nn11 le12 => ?_)
  have ap1Xp9 : Apart p1 p9 := op1.apart nn11
  have ap5Xp9 : Apart p5 p9 := op5.apart nn11
  have np9 : Nw H p9 := nn11.le lE
  replace op1 := op1.le le12
  replace op5 := op5.le le12
  replace hvb := hvb.le le12
  replace hvs := hvs.le le12
  replace hvc := hvc.le le12
  replace lE := lE.trans le12
  replace op9 : Cel H10 p9 [(.int .i64 (0)), (.int .i64 (0)), (.slice none 0 0)] := op9
  refine ob_i (op1.ldn rfl) ?_
  refine C.impl_ValidLife hvb hvs (by first | omega | assumption) (by first | omega | assumption) (fun   H13    le14 => ?_)
  replace op1 := op1.le le14
  replace op5 := op5.le le14
  replace op9 := op9.le le14
  replace hvb := hvb.le le14
  replace hvs := hvs.le le14
  replace hvc := hvc.le le14
  replace lE := lE.trans le14
  refine ob_nd (fun hc15 => ?_) (fun hc15 => ?_)
  · skip
    refine gop_rf ?_
    refine ob_i (op5.ldn rfl) ?_
    refine gop_rf ?_
    refine C.impl_isSquare hvc (by first | omega | assumption) (fun   H16    le17 => ?_)
    replace op1 := op1.le le17
    replace op5 := op5.le le17
    replace op9 := op9.le le17
    replace hvb := hvb.le le17
    replace hvs := hvs.le le17
    replace hvc := hvc.le le17
    replace lE := lE.trans le17
    refine gop_rf ?_
    refine ob_nd (fun hc18 => ?_) (fun hc18 => ?_)
    · skip
      have hf := hc18.1
      have hq := hc18.2
      have l1 := fieldN_len hf
      have hs := hf.1
      have hl := hf.2.1
      have q1 := hs.1
      have q2 := hs.2
      have qm := sidesF_mul hs
      have hcr : c = r := by omega
      refine ob_i (vPick_f _ _) ?_
      refine cnd_f1 ?_
      refine ob_i (op5.ldn rfl) ?_
      refine nw_i (fun q H19 oq nn20 le21 => ?_)
      have ap1Xq : Apart p1 q := op1.apart nn20
      have ap5Xq : Apart p5 q := op5.apart nn20
      have ap9Xq : Apart p9 q := op9.apart nn20
      have nq : Nw H q := nn20.le lE
      replace op1 := op1.le le21
      replace op5 := op5.le le21
      replace op9 := op9.le le21
      replace hvb := hvb.le le21
      replace hvs := hvs.le le21
      replace hvc := hvc.le le21
      replace lE := lE.trans le21
      replace oq : Cel H19 q [(.int .i64 (0)), (.int .i64 (0)), (.slice none 0 0)] := oq
      refine oq.stn (ws := [(.int .i64 (r)), (.int .i64 (c)), vc]) rfl rfl (oc1 rfl (oc1 rfl (oc1 hvc.one oc0))) (fun H22 oq off23 => ?_)
      replace op1 := op1.off off23 ap1Xq
      replace op5 := op5.off off23 ap5Xq
      replace op9 := op9.off off23 ap9Xq
      replace hvb := hvb0.le (off23.le lE nq)
      replace hvs := hvs0.le (off23.le lE nq)
      replace hvc := hvc0.le (off23.le lE nq)
      replace lE := off23.le lE nq
      replace oq : Cel H22 q [(.int .i64 (r)), (.int .i64 (c)), vc] := oq
      refine jn_i (fun σ' H' => ∃ u, σ' 4 = p9 ∧ σ' 6 = q ∧ Cel H' p1 [vb, vs] ∧ Cel H' p5 [(.int .i64 (r)), (.int .i64 (c)), vc] ∧ Cel H' p9 [(.int .i64 (0)), (.int .i64 (0)), (.slice none 0 0)] ∧ Cel H' q [(.int .i64 (r / 2)), (.int .i64 (c / 2)), u] ∧ Own eI H' u (farL b s r l) ∧ Nw H u ∧ Apart p1 u ∧ Apart p5 u ∧ Apart p9 u ∧ Apart q u ∧ Le H H') (fun σ24 H24 hP => ?_) (fun J24 hJ24 => ?_)
      · skip
        obtain ⟨u, g4L24, g6L24, op1, op5, op9, oq, ou, nu, ap1Xu, ap5Xu, ap9Xu, aqXu, lE⟩ := hP
        have hvb := hvb0.le lE
        have hvs := hvs0.le lE
        have hvc := hvc0.le lE
        try simp only [g4L24, g6L24]
        refine ob_i (oq.ldn rfl) ?_
        refine op9.stn (ws := [(.int .i64 (r / 2)), (.int .i64 (c / 2)), u]) rfl rfl (oc1 rfl (oc1 rfl (oc1 ou.one oc0))) (fun H25 op9 off26 => ?_)
        replace op1 := op1.off off26 ap1Xp9
        replace op5 := op5.off off26 ap5Xp9
        replace oq := oq.off off26 ap9Xq.symm
        replace ou := ou.off off26 ap9Xu.symm
        replace hvb := hvb0.le (off26.le lE np9)
        replace hvs := hvs0.le (off26.le lE np9)
        replace hvc := hvc0.le (off26.le lE np9)
        replace lE := off26.le lE np9
        replace op9 : Cel H25 p9 [(.int .i64 (r / 2)), (.int .i64 (c / 2)), u] := op9
        refine ob_i (op9.ldn rfl) ?_
        skip
        have hok : inP b s r c l := by first | assumption | exact ⟨by assumption, by assumption⟩ | exact ⟨by assumption, by omega⟩
        exact keq (K := K) (by rw [show ((selI (inP b s r c l) (r / 2)) : Int) = (r / 2) from by first | exact selI_t hok | exact selI_f hok | (rw [selI_t hok]; done) | (rw [selI_t hok]; omega)]; rw [show ((selI (inP b s r c l) (c / 2)) : Int) = (c / 2) from by first | exact selI_t hok | exact selI_f hok | (rw [selI_t hok]; done) | (rw [selI_t hok]; omega)]; rw [decide_eq_true (show (inP b s r c l) from by exact hok)]) (hk  u _ (Own.cast (show farL b s r l = selL (inP b s r c l) (farL b s r l) by exact (selL_t hok).symm) ou) nu  lE)
      refine ob_i (op5.fa 0) ?_
      refine ob_i (op5.ld 0 rfl) ?_
      refine ob_i (vInt_quoN (by omega) (by omega) (by omega)) ?_
      refine ⟨fun n' σ' H' => ∃ i : Nat, n' = (r / 4).toNat - i ∧ i ≤ (r / 4).toNat ∧ ∃ u, σ' 2 = p1 ∧ σ' 4 = p9 ∧ σ' 6 = q ∧ σ' 19 = (.int .i64 (r / 4)) ∧ σ' 20 = (.int .i64 ((i : Int))) ∧ Cel H' p1 [vb, vs] ∧ Cel H' p5 [(.int .i64 (r)), (.int .i64 (c)), vc] ∧ Cel H' p9 [(.int .i64 (0)), (.int .i64 (0)), (.slice none 0 0)] ∧ Cel H' q [(.int .i64 (r - 2 * (i : Int))), (.int .i64 (c - 2 * (i : Int))), u] ∧ Ro eI H' u (inrL b s r l i) ∧ Apart p1 u ∧ Apart p5 u ∧ Apart p9 u ∧ Apart q u ∧ Le H H' ∧ (0 < i → Own eI H' u (inrL b s r l i) ∧ Nw H u),
        ⟨_, 0, rfl, by omega, vc, rfl, rfl, rfl, rfl, (congrArg (Value.int .i64) (by first | omega | rfl | (simp; done))), op1, op5, op9, (Cel.cast (by simp) oq), (Ro.cast (by first | rfl | (simp; done)) (Ro.of_sl hvc (by omega))), ((Ro.of_sl hvc0 (by omega)).apart np1).symm, ((Ro.of_sl hvc0 (by omega)).apart np5).symm, ((Ro.of_sl hvc0 (by omega)).apart np9).symm, ((Ro.of_sl hvc0 (by omega)).apart nq).symm, lE, (fun h => absurd h (by omega))⟩, ?_⟩
      rintro n27 σ27 H27 ⟨i, rfl, hiN, u, g2L27, g4L27, g6L27, g19L27, g20L27, op1, op5, op9, oq, ou, ap1Xu, ap5Xu, ap9Xu, aqXu, lE, hm0⟩
      have hvb := hvb0.le lE
      have hvs := hvs0.le lE
      have hvc := hvc0.le lE
      try simp only [g2L27, g4L27, g6L27, g19L27, g20L27]
      have hfi : fieldN 1 (r - 2 * (i : Int)) (c - 2 * (i : Int)) (inrL b s r l i) := by rw [hcr]; exact inr_field (by rw [hcr] at hf; exact hf) i (by omega)
      have li := fieldN_len hfi
      refine ob_i (vInt_lss _ _ _) ?_
      refine cnd_d (fun hg28 => ?_) (fun hg28 => ?_)
      · skip
        have ti := hg28
        refine ob_i (op1.ldn rfl) ?_
        refine ob_i (oq.ldn rfl) ?_
        refine C.impl_Life_inner hvb hvs ou.sl (by first | omega | assumption) (by first | omega | assumption) (by first | omega | assumption) (by first | omega | assumption) (by first | omega | assumption) (fun  u31 H29 ou31 nn32  le30 => ?_)
        have ap1Xu31 : Apart p1 u31 := op1.apart nn32
        have ap5Xu31 : Apart p5 u31 := op5.apart nn32
        have ap9Xu31 : Apart p9 u31 := op9.apart nn32
        have aqXu31 : Apart q u31 := oq.apart nn32
        have auXu31 : Apart u u31 := ou.apart nn32
        have nu31 : Nw H u31 := nn32.le lE
        replace op1 := op1.le le30
        replace op5 := op5.le le30
        replace op9 := op9.le le30
        replace oq := oq.le le30
        replace ou := ou.le le30
        replace hvb := hvb.le le30
        replace hvs := hvs.le le30
        replace hvc := hvc.le le30
        replace lE := lE.trans le30
        refine oq.stn (ws := [(.int .i64 ((r - 2 * (i : Int)) - 2)), (.int .i64 ((c - 2 * (i : Int)) - 2)), u31]) rfl rfl (oc1 rfl (oc1 rfl (oc1 ou31.one oc0))) (fun H33 oq off34 => ?_)
        replace op1 := op1.off off34 ap1Xq
        replace op5 := op5.off off34 ap5Xq
        replace op9 := op9.off off34 ap9Xq
        replace ou := ou.off off34 aqXu.symm
        replace ou31 := ou31.off off34 aqXu31.symm
        replace hvb := hvb0.le (off34.le lE nq)
        replace hvs := hvs0.le (off34.le lE nq)
        replace hvc := hvc0.le (off34.le lE nq)
        replace lE := off34.le lE nq
        replace oq : Cel H33 q [(.int .i64 ((r - 2 * (i : Int)) - 2)), (.int .i64 ((c - 2 * (i : Int)) - 2)), u31] := oq
        refine ob_i (vInt_add (by omega) (by omega)) ?_
        exact nxt ((r / 4).toNat - (i + 1)) (by omega) ⟨i + 1, rfl, by omega, u31, g2L27, g4L27, g6L27, g19L27, (congrArg (Value.int .i64) (by first | omega | rfl | (simp; done))), op1, op5, op9, (Cel.cast (by rw [show r - 2 * ((i + 1 : Nat) : Int) = r - 2 * (i : Int) - 2 by omega, show c - 2 * ((i + 1 : Nat) : Int) = c - 2 * (i : Int) - 2 by omega]) oq), (Ro.cast (by rw [hcr]; rfl) ou31.ro), ap1Xu31, ap5Xu31, ap9Xu31, aqXu31, lE, (fun _ => ⟨Own.cast (by rw [hcr]; rfl) ou31, nu31⟩)⟩
      · skip
        have ti := hg28
        obtain ⟨ou2, nu⟩ := hm0 (by omega)
        replace ou := ou2
        rw [show i = (r / 4).toNat by omega, inr_far (by rw [hcr] at hf; exact hf) (by omega)] at ou
        rw [show r - 2 * (i : Int) = r / 2 by omega, show c - 2 * (i : Int) = c / 2 by omega] at oq
        exact hJ24 _ _ ⟨u, g4L27, g6L27, op1, op5, op9, oq, ou, nu, ap1Xu, ap5Xu, ap9Xu, aqXu, lE⟩
    · skip
      refine ob_i (vPick_f _ _) ?_
      refine cnd_t1 ?_
      refine ob_i (a := (.agg #[(.int .i64 (0)), (.int .i64 (0)), (.slice none 0 0)])) (by rfl) ?_
      refine op9.stn (ws := [(.int .i64 (0)), (.int .i64 (0)), (.slice none 0 0)]) rfl rfl (oc1 rfl (oc1 rfl (oc1 rfl oc0))) (fun H35 op9 off36 => ?_)
      replace op1 := op1.off off36 ap1Xp9
      replace op5 := op5.off off36 ap5Xp9
      replace hvb := hvb0.le (off36.le lE np9)
      replace hvs := hvs0.le (off36.le lE np9)
      replace hvc := hvc0.le (off36.le lE np9)
      replace lE := off36.le lE np9
      replace op9 : Cel H35 p9 [(.int .i64 (0)), (.int .i64 (0)), (.slice none 0 0)] := op9
      refine ob_i (op9.ldn rfl) ?_
      skip
      have hok : ¬ (inP b s r c l) := by intro h; first | exact absurd h.1 (by assumption) | exact absurd h.2 (by assumption) | (have := h.2; omega)
      exact keq (K := K) (by rw [show ((selI (inP b s r c l) (r / 2)) : Int) = (0) from by first | exact selI_t hok | exact selI_f hok | (rw [selI_t hok]; done) | (rw [selI_t hok]; omega)]; rw [show ((selI (inP b s r c l) (c / 2)) : Int) = (0) from by first | exact selI_t hok | exact selI_f hok | (rw [selI_t hok]; done) | (rw [selI_t hok]; omega)]; rw [decide_eq_false (show ¬ (inP b s r c l) from by exact hok)]) (hk  (.slice none 0 0) _ (Own.cast (show [] = selL (inP b s r c l) (farL b s r l) by exact (selL_f hok).symm) (Own.nil_of none)) (fun b hb => by simp [bk] at hb)  lE)
  · skip
    refine gop_st ?_
    refine gop_st ?_
    refine gop_st ?_
    refine ob_i (vPick_t _ _) ?_
    refine cnd_t1 ?_
    refine ob_i (a := (.agg #[(.int .i64 (0)), (.int .i64 (0)), (.slice none 0 0)])) (by rfl) ?_
    refine op9.stn (ws := [(.int .i64 (0)), (.int .i64 (0)), (.slice none 0 0)]) rfl rfl (oc1 rfl (oc1 rfl (oc1 rfl oc0))) (fun H37 op9 off38 => ?_)
    replace op1 := op1.off off38 ap1Xp9
    replace op5 := op5.off off38 ap5Xp9
    replace hvb := hvb0.le (off38.le lE np9)
    replace hvs := hvs0.le (off38.le lE np9)
    replace hvc := hvc0.le (off38.le lE np9)
    replace lE := off38.le lE np9
    replace op9 : Cel H37 p9 [(.int .i64 (0)), (.int .i64 (0)), (.slice none 0 0)] := op9
    refine ob_i (op9.ldn rfl) ?_
    skip
    have hok : ¬ (inP b s r c l) := by intro h; first | exact absurd h.1 (by assumption) | exact absurd h.2 (by assumption) | (have := h.2; omega)
    exact keq (K := K) (by rw [show ((selI (inP b s r c l) (r / 2)) : Int) = (0) from by first | exact selI_t hok | exact selI_f hok | (rw [selI_t hok]; done) | (rw [selI_t hok]; omega)]; rw [show ((selI (inP b s r c l) (c / 2)) : Int) = (0) from by first | exact selI_t hok | exact selI_f hok | (rw [selI_t hok]; done) | (rw [selI_t hok]; omega)]; rw [decide_eq_false (show ¬ (inP b s r c l) from by exact hok)]) (hk  (.slice none 0 0) _ (Own.cast (show [] = selL (inP b s r c l) (farL b s r l) by exact (selL_f hok).symm) (Own.nil_of none)) (fun b hb => by simp [bk] at hb)  lE)
end Go.Proofs.Ythbffbpdoankjaa
