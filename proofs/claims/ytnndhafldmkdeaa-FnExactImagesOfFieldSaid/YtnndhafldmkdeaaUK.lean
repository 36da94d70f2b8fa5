/- Fields that are turned and mirrored: the program's and the reference's. -/
import Derived.Test.YtnndhafldmkdeaaUI
namespace Go.Proofs.Ytnndhafldmkdeaa
open HL
set_option maxRecDepth 100000
theorem C.spec_l05Turn {p vc : Value} {r c : Int} {l : List Int}  {H : Hp} {K : Value → Hp → Prop} (hp0 : Cel H p [(.int .i64 (r)), (.int .i64 (c)), vc]) (hvc0 : Sl eI H vc l) (hf : fieldN 1 r c l)
    (hk : ∀ u1 H', Own eI H' u1 (turL r c l) → Nw H u1 → Le H H' → K (.agg #[(.int .i64 (c)), (.int .i64 (r)), u1]) H') : HT prg I.spec_l05Turn [p].toArray H K := by
  have lE := Le.refl H
  have hp := hp0
  have hvc := hvc0
  refine R.spec_l05Turn ?_
  unfold F.spec_l05Turn
  have hs := hf.1
  have hl := hf.2.1
  have q1 := hs.1
  have q2 := hs.2
  have qm := sidesF_mul hs
  have qm2 : c * r = r * c := Int.mul_comm _ _
  refine nw_i (fun p1 H2 op1 nn3 le4 => ?_)
  have np1 : Nw H p1 := nn3.le lE
  replace hp := hp.le le4
  replace hvc := hvc.le le4
  replace lE := lE.trans le4
  replace op1 : Cel H2 p1 [(.int .i64 (0)), (.int .i64 (0)), (.slice none 0 0)] := op1
  refine ob_i (hp.nilC) ?_
  refine ob_i (hp.fa 1) ?_
  refine ob_i (hp.ld 1 rfl) ?_
  refine ob_i (hp.nilC) ?_
  refine ob_i (hp.fa 0) ?_
  refine ob_i (hp.ld 0 rfl) ?_
  refine C.spec_l04New (by first | omega | assumption) (by first | omega | assumption) (by first | omega | assumption) (by first | omega | assumption) (fun  u H5 ou nn7  le6 => ?_)
  have ap1Xu : Apart p1 u := op1.apart nn7
  have nu : Nw H u := nn7.le lE
  replace op1 := op1.le le6
  replace hp := hp.le le6
  replace hvc := hvc.le le6
  replace lE := lE.trans le6
  refine ⟨le6, ?_⟩
  refine nw_i (fun q H8 oq nn9 le10 => ?_)
  have ap1Xq : Apart p1 q := op1.apart nn9
  have auXq : Apart u q := ou.apart nn9
  have nq : Nw H q := nn9.le lE
  replace op1 := op1.le le10
  replace ou := ou.le le10
  replace hp := hp.le le10
  replace hvc := hvc.le le10
  replace lE := lE.trans le10
  replace oq : Cel H8 q [(.int .i64 (0)), (.int .i64 (0)), (.slice none 0 0)] := oq
  refine oq.stn (ws := [(.int .i64 (c)), (.int .i64 (r)), u]) rfl rfl (oc1 rfl (oc1 rfl (oc1 ou.one oc0))) (fun H11 oq off12 => ?_)
  replace op1 := op1.off off12 ap1Xq
  replace ou := ou.off off12 auXq
  replace hp := hp0.le (off12.le lE nq)
  replace hvc := hvc0.le (off12.le lE nq)
  replace lE := off12.le lE nq
  replace oq : Cel H11 q [(.int .i64 (c)), (.int .i64 (r)), u] := oq
  refine jn_i (fun σ' H' => σ' 2 = p1 ∧ σ' 3 = q ∧ Cel H' p1 [(.int .i64 (0)), (.int .i64 (0)), (.slice none 0 0)] ∧ Own eI H' u (mkL r (turG r c l) (c.toNat * r.toNat)) ∧ Cel H' q [(.int .i64 (c)), (.int .i64 (r)), u] ∧ Le H H') (fun σ13 H13 hP => ?_) (fun J13 hJ13 => ?_)
  · skip
    obtain ⟨g2L13, g3L13, op1, ou, oq, lE⟩ := hP
    have hp := hp0.le lE
    have hvc := hvc0.le lE
    try simp only [g2L13, g3L13]
    refine ob_i (oq.ldn rfl) ?_
    refine op1.stn (ws := [(.int .i64 (c)), (.int .i64 (r)), u]) rfl rfl (oc1 rfl (oc1 rfl (oc1 ou.one oc0))) (fun H14 op1 off15 => ?_)
    replace ou := ou.off off15 ap1Xu.symm
    replace oq := oq.off off15 ap1Xq.symm
    replace hp := hp0.le (off15.le lE np1)
    replace hvc := hvc0.le (off15.le lE np1)
    replace lE := off15.le lE np1
    replace op1 : Cel H14 p1 [(.int .i64 (c)), (.int .i64 (r)), u] := op1
    refine ob_i (op1.ldn rfl) ?_
    skip
    exact hk  u _ (Own.cast (show mkL r (turG r c l) (c.toNat * r.toNat) = turL r c l by rfl) ou) nu  lE
  refine ⟨fun n' σ' H' => ∃ i : Nat, n' = c.toNat - i ∧ i ≤ c.toNat ∧ σ' 0 = p ∧ σ' 2 = p1 ∧ σ' 3 = q ∧ σ' 4 = (.int .i64 ((i : Int))) ∧ Cel H' p1 [(.int .i64 (0)), (.int .i64 (0)), (.slice none 0 0)] ∧ Own eI H' u (fillL r (turG r c l) (c.toNat * r.toNat) (i * r.toNat)) ∧ Cel H' q [(.int .i64 (c)), (.int .i64 (r)), u] ∧ Le H H',
    ⟨_, 0, rfl, by omega, rfl, rfl, rfl, (congrArg (Value.int .i64) (by first | omega | rfl | (simp; done))), op1, (by rw [Nat.zero_mul, fillL_zero]; exact ou), oq, lE⟩, ?_⟩
  rintro n16 σ16 H16 ⟨i, rfl, hiN, g0L16, g2L16, g3L16, g4L16, op1, ou, oq, lE⟩
  have hp := hp0.le lE
  have hvc := hvc0.le lE
  try simp only [g0L16, g2L16, g3L16, g4L16]
  refine ob_i (oq.fa 0) ?_
  refine ob_i (oq.ld 0 rfl) ?_
  refine ob_i (vInt_lss _ _ _) ?_
  refine cnd_d (fun hg17 => ?_) (fun hg17 => ?_)
  · skip
    have ti := hg17
    refine jn_i (fun σ' H' => σ' 0 = p ∧ σ' 2 = p1 ∧ σ' 3 = q ∧ σ' 4 = (.int .i64 ((i : Int))) ∧ Cel H' p1 [(.int .i64 (0)), (.int .i64 (0)), (.slice none 0 0)] ∧ Own eI H' u (fillL r (turG r c l) (c.toNat * r.toNat) ((i + 1) * r.toNat)) ∧ Cel H' q [(.int .i64 (c)), (.int .i64 (r)), u] ∧ Le H H') (fun σ18 H18 hP => ?_) (fun J18 hJ18 => ?_)
    · skip
      obtain ⟨g0L18, g2L18, g3L18, g4L18, op1, ou, oq, lE⟩ := hP
      have hp := hp0.le lE
      have hvc := hvc0.le lE
      try simp only [g2L18, g4L18]
      refine ob_i (vInt_add (by omega) (by omega)) ?_
      exact nxt (c.toNat - (i + 1)) (by omega) ⟨i + 1, rfl, by omega, g0L18, g2L18, g3L18, (congrArg (Value.int .i64) (by first | omega | rfl | (simp; done))), op1, ou, oq, lE⟩
    refine ⟨fun n' σ' H' => ∃ k : Nat, n' = r.toNat - k ∧ k ≤ r.toNat ∧ σ' 0 = p ∧ σ' 2 = p1 ∧ σ' 3 = q ∧ σ' 4 = (.int .i64 ((i : Int))) ∧ σ' 5 = (.int .i64 ((k : Int))) ∧ Cel H' p1 [(.int .i64 (0)), (.int .i64 (0)), (.slice none 0 0)] ∧ Own eI H' u (fillL r (turG r c l) (c.toNat * r.toNat) (i * r.toNat + k)) ∧ Cel H' q [(.int .i64 (c)), (.int .i64 (r)), u] ∧ Le H H',
      ⟨_, 0, rfl, by omega, g0L16, g2L16, g3L16, g4L16, (congrArg (Value.int .i64) (by first | omega | rfl | (simp; done))), op1, ou, oq, lE⟩, ?_⟩
    rintro n19 σ19 H19 ⟨k, rfl, hkN, g0L19, g2L19, g3L19, g4L19, g5L19, op1, ou, oq, lE⟩
    have hp := hp0.le lE
    have hvc := hvc0.le lE
    try simp only [g0L19, g2L19, g3L19, g4L19, g5L19]
    refine ob_i (oq.fa 1) ?_
    refine ob_i (oq.ld 1 rfl) ?_
    refine ob_i (vInt_lss _ _ _) ?_
    refine cnd_d (fun hg20 => ?_) (fun hg20 => ?_)
    · skip
      have tk := hg20
      have x1 := ix_lt (a := (i : Int)) (b := (k : Int)) (r := c) (c := r) (by omega) (by omega) (by omega) (by omega)
      have x3 := fillL_len (c := r) (g := turG r c l) (rr := c) (cc := r) (t := i * r.toNat + k) (by omega) (by omega)
      have x2 := ix_lt (a := r - 1 - (k : Int)) (b := (i : Int)) (r := r) (c := c) (by omega) (by omega) (by omega) (by omega)
      refine ob_i (oq.fa 2) ?_
      refine ob_i (oq.ld 2 rfl) ?_
      refine ob_i (oq.fa 1) ?_
      refine ob_i (oq.ld 1 rfl) ?_
      refine ob_i (vInt_mul (by omega) (by omega)) ?_
      refine ob_i (vInt_add (by omega) (by omega)) ?_
      refine ob_i (hp.nilC) ?_
      refine ob_i (hp.fa 2) ?_
      refine ob_i (hp.ld 2 rfl) ?_
      refine ob_i (hp.nilC) ?_
      refine ob_i (hp.fa 0) ?_
      refine ob_i (hp.ld 0 rfl) ?_
      refine ob_i (vInt_sub (by omega) (by omega)) ?_
      refine ob_i (vInt_sub (by omega) (by omega)) ?_
      refine ob_i (hp.nilC) ?_
      refine ob_i (hp.fa 1) ?_
      refine ob_i (hp.ld 1 rfl) ?_
      refine ob_i (vInt_mul (by omega) (by omega)) ?_
      refine ob_i (vInt_add (by omega) (by omega)) ?_
      refine ob_i (hvc.ix (by omega) (by omega)) ?_
      refine ob_i (hvc.ld 0 (by omega) (by omega)) ?_
      refine ob_i (ou.sl.ix (by omega) (by omega)) ?_
      refine ou.st (x := at_ 0 (l) ((((r - 1) - (k : Int)) * c) + (i : Int))) (by omega) (by omega) rfl rfl (fun H21 ou off22 => ?_)
      replace op1 := op1.off off22 ap1Xu
      replace oq := oq.off off22 auXq.symm
      replace hp := hp0.le (off22.le lE nu)
      replace hvc := hvc0.le (off22.le lE nu)
      replace lE := off22.le lE nu
      refine ob_i (vInt_add (by omega) (by omega)) ?_
      replace ou : Own eI H21 u (fillL r (turG r c l) (c.toNat * r.toNat) (i * r.toNat + (k + 1))) := by rw [← Nat.add_assoc, ← fillL_set (c := r) (g := turG r c l) (i := (i : Int)) (k := (k : Int)) (by omega) (by omega) (by omega) (cast_ix (by omega)) (by omega)]; exact ou
      exact nxt (r.toNat - (k + 1)) (by omega) ⟨k + 1, rfl, by omega, g0L19, g2L19, g3L19, g4L19, (congrArg (Value.int .i64) (by first | omega | rfl | (simp; done))), op1, ou, oq, lE⟩
    · skip
      have tk := hg20
      rw [show i * r.toNat + k = (i + 1) * r.toNat by rw [Nat.add_mul, Nat.one_mul]; omega] at ou
      exact hJ18 _ _ ⟨g0L19, g2L19, g3L19, g4L19, op1, ou, oq, lE⟩
  · skip
    have ti := hg17
    rw [fillL_end (by rw [show i = c.toNat by omega]; exact Nat.le_refl _)] at ou
    exact hJ13 _ _ ⟨g2L16, g3L16, op1, ou, oq, lE⟩
theorem C.spec_l05Mirror {p vc : Value} {r c : Int} {l : List Int}  {H : Hp} {K : Value → Hp → Prop} (hp0 : Cel H p [(.int .i64 (r)), (.int .i64 (c)), vc]) (hvc0 : Sl eI H vc l) (hf : fieldN 1 r c l)
    (hk : ∀ u1 H', Own eI H' u1 (mirL r c l) → Nw H u1 → Le H H' → K (.agg #[(.int .i64 (r)), (.int .i64 (c)), u1]) H') : HT prg I.spec_l05Mirror [p].toArray H K := by
  have lE := Le.refl H
  have hp := hp0
  have hvc := hvc0
  refine R.spec_l05Mirror ?_
  unfold F.spec_l05Mirror
  have hs := hf.1
  have hl := hf.2.1
  have q1 := hs.1
  have q2 := hs.2
  have qm := sidesF_mul hs
  refine nw_i (fun p1 H2 op1 nn3 le4 => ?_)
  have np1 : Nw H p1 := nn3.le lE
  replace hp := hp.le le4
  replace hvc := hvc.le le4
  replace lE := lE.trans le4
  replace op1 : Cel H2 p1 [(.int .i64 (0)), (.int .i64 (0)), (.slice none 0 0)] := op1
  refine ob_i (hp.nilC) ?_
  refine ob_i (hp.fa 0) ?_
  refine ob_i (hp.ld 0 rfl) ?_
  refine ob_i (hp.nilC) ?_
  refine ob_i (hp.fa 1) ?_
  refine ob_i (hp.ld 1 rfl) ?_
  refine C.spec_l04New (by first | omega | assumption) (by first | omega | assumption) (by first | omega | assumption) (by first | omega | assumption) (fun  u H5 ou nn7  le6 => ?_)
  have ap1Xu : Apart p1 u := op1.apart nn7
  have nu : Nw H u := nn7.le lE
  replace op1 := op1.le le6
  replace hp := hp.le le6
  replace hvc := hvc.le le6
  replace lE := lE.trans le6
  refine ⟨le6, ?_⟩
  refine nw_i (fun q H8 oq nn9 le10 => ?_)
  have ap1Xq : Apart p1 q := op1.apart nn9
  have auXq : Apart u q := ou.apart nn9
  have nq : Nw H q := nn9.le lE
  replace op1 := op1.le le10
  replace ou := ou.le le10
  replace hp := hp.le le10
  replace hvc := hvc.le le10
  replace lE := lE.trans le10
  replace oq : Cel H8 q [(.int .i64 (0)), (.int .i64 (0)), (.slice none 0 0)] := oq
  refine oq.stn (ws := [(.int .i64 (r)), (.int .i64 (c)), u]) rfl rfl (oc1 rfl (oc1 rfl (oc1 ou.one oc0))) (fun H11 oq off12 => ?_)
  replace op1 := op1.off off12 ap1Xq
  replace ou := ou.off off12 auXq
  replace hp := hp0.le (off12.le lE nq)
  replace hvc := hvc0.le (off12.le lE nq)
  replace lE := off12.le lE nq
  replace oq : Cel H11 q [(.int .i64 (r)), (.int .i64 (c)), u] := oq
  refine jn_i (fun σ' H' => σ' 2 = p1 ∧ σ' 3 = q ∧ Cel H' p1 [(.int .i64 (0)), (.int .i64 (0)), (.slice none 0 0)] ∧ Own eI H' u (mkL c (mirG c l) (r.toNat * c.toNat)) ∧ Cel H' q [(.int .i64 (r)), (.int .i64 (c)), u] ∧ Le H H') (fun σ13 H13 hP => ?_) (fun J13 hJ13 => ?_)
  · skip
    obtain ⟨g2L13, g3L13, op1, ou, oq, lE⟩ := hP
    have hp := hp0.le lE
    have hvc := hvc0.le lE
    try simp only [g2L13, g3L13]
    refine ob_i (oq.ldn rfl) ?_
    refine op1.stn (ws := [(.int .i64 (r)), (.int .i64 (c)), u]) rfl rfl (oc1 rfl (oc1 rfl (oc1 ou.one oc0))) (fun H14 op1 off15 => ?_)
    replace ou := ou.off off15 ap1Xu.symm
    replace oq := oq.off off15 ap1Xq.symm
    replace hp := hp0.le (off15.le lE np1)
    replace hvc := hvc0.le (off15.le lE np1)
    replace lE := off15.le lE np1
    replace op1 : Cel H14 p1 [(.int .i64 (r)), (.int .i64 (c)), u] := op1
    refine ob_i (op1.ldn rfl) ?_
    skip
    exact hk  u _ (Own.cast (show mkL c (mirG c l) (r.toNat * c.toNat) = mirL r c l by rfl) ou) nu  lE
  refine ⟨fun n' σ' H' => ∃ i : Nat, n' = r.toNat - i ∧ i ≤ r.toNat ∧ σ' 0 = p ∧ σ' 2 = p1 ∧ σ' 3 = q ∧ σ' 4 = (.int .i64 ((i : Int))) ∧ Cel H' p1 [(.int .i64 (0)), (.int .i64 (0)), (.slice none 0 0)] ∧ Own eI H' u (fillL c (mirG c l) (r.toNat * c.toNat) (i * c.toNat)) ∧ Cel H' q [(.int .i64 (r)), (.int .i64 (c)), u] ∧ Le H H',
    ⟨_, 0, rfl, by omega, rfl, rfl, rfl, (congrArg (Value.int .i64) (by first | omega | rfl | (simp; done))), op1, (by rw [Nat.zero_mul, fillL_zero]; exact ou), oq, lE⟩, ?_⟩
  rintro n16 σ16 H16 ⟨i, rfl, hiN, g0L16, g2L16, g3L16, g4L16, op1, ou, oq, lE⟩
  have hp := hp0.le lE
  have hvc := hvc0.le lE
  try simp only [g0L16, g2L16, g3L16, g4L16]
  refine ob_i (hp.nilC) ?_
  refine ob_i (hp.fa 0) ?_
  refine ob_i (hp.ld 0 rfl) ?_
  refine ob_i (vInt_lss _ _ _) ?_
  refine cnd_d (fun hg17 => ?_) (fun hg17 => ?_)
  · skip
    have ti := hg17
    refine jn_i (fun σ' H' => σ' 0 = p ∧ σ' 2 = p1 ∧ σ' 3 = q ∧ σ' 4 = (.int .i64 ((i : Int))) ∧ Cel H' p1 [(.int .i64 (0)), (.int .i64 (0)), (.slice none 0 0)] ∧ Own eI H' u (fillL c (mirG c l) (r.toNat * c.toNat) ((i + 1) * c.toNat)) ∧ Cel H' q [(.int .i64 (r)), (.int .i64 (c)), u] ∧ Le H H') (fun σ18 H18 hP => ?_) (fun J18 hJ18 => ?_)
    · skip
      obtain ⟨g0L18, g2L18, g3L18, g4L18, op1, ou, oq, lE⟩ := hP
      have hp := hp0.le lE
      have hvc := hvc0.le lE
      try simp only [g2L18, g4L18]
      refine ob_i (vInt_add (by omega) (by omega)) ?_
      exact nxt (r.toNat - (i + 1)) (by omega) ⟨i + 1, rfl, by omega, g0L18, g2L18, g3L18, (congrArg (Value.int .i64) (by first | omega | rfl | (simp; done))), op1, ou, oq, lE⟩
    refine ⟨fun n' σ' H' => ∃ k : Nat, n' = c.toNat - k ∧ k ≤ c.toNat ∧ σ' 0 = p ∧ σ' 2 = p1 ∧ σ' 3 = q ∧ σ' 4 = (.int .i64 ((i : Int))) ∧ σ' 5 = (.int .i64 ((k : Int))) ∧ Cel H' p1 [(.int .i64 (0)), (.int .i64 (0)), (.slice none 0 0)] ∧ Own eI H' u (fillL c (mirG c l) (r.toNat * c.toNat) (i * c.toNat + k)) ∧ Cel H' q [(.int .i64 (r)), (.int .i64 (c)), u] ∧ Le H H',
      ⟨_, 0, rfl, by omega, g0L16, g2L16, g3L16, g4L16, (congrArg (Value.int .i64) (by first | omega | rfl | (simp; done))), op1, ou, oq, lE⟩, ?_⟩
    rintro n19 σ19 H19 ⟨k, rfl, hkN, g0L19, g2L19, g3L19, g4L19, g5L19, op1, ou, oq, lE⟩
    have hp := hp0.le lE
    have hvc := hvc0.le lE
    try simp only [g0L19, g2L19, g3L19, g4L19, g5L19]
    refine ob_i (hp.nilC) ?_
    refine ob_i (hp.fa 1) ?_
    refine ob_i (hp.ld 1 rfl) ?_
    refine ob_i (vInt_lss _ _ _) ?_
    refine cnd_d (fun hg20 => ?_) (fun hg20 => ?_)
    · skip
      have tk := hg20
      have x1 := ix_lt (a := (i : Int)) (b := (k : Int)) (r := r) (c := c) (by omega) (by omega) (by omega) (by omega)
      have x3 := fillL_len (c := c) (g := mirG c l) (rr := r) (cc := c) (t := i * c.toNat + k) (by omega) (by omega)
      have eJ : ((i : Int) + 1) * c = (i : Int) * c + c := by rw [Int.add_mul, Int.one_mul]
      have x2 := ix_lt (a := (i : Int)) (b := c - 1 - (k : Int)) (r := r) (c := c) (by omega) (by omega) (by omega) (by omega)
      refine ob_i (oq.fa 2) ?_
      refine ob_i (oq.ld 2 rfl) ?_
      refine ob_i (hp.nilC) ?_
      refine ob_i (hp.fa 1) ?_
      refine ob_i (hp.ld 1 rfl) ?_
      refine ob_i (vInt_mul (by omega) (by omega)) ?_
      refine ob_i (vInt_add (by omega) (by omega)) ?_
      refine ob_i (hp.nilC) ?_
      refine ob_i (hp.fa 2) ?_
      refine ob_i (hp.ld 2 rfl) ?_
      refine ob_i (vInt_add (by omega) (by omega)) ?_
      refine ob_i (hp.nilC) ?_
      refine ob_i (hp.fa 1) ?_
      refine ob_i (hp.ld 1 rfl) ?_
      refine ob_i (vInt_mul (by omega) (by omega)) ?_
      refine ob_i (vInt_sub (by omega) (by omega)) ?_
      refine ob_i (vInt_sub (by omega) (by omega)) ?_
      refine ob_i (hvc.ix (by omega) (by omega)) ?_
      refine ob_i (hvc.ld 0 (by omega) (by omega)) ?_
      refine ob_i (ou.sl.ix (by omega) (by omega)) ?_
      refine ou.st (x := at_ 0 (l) (((((i : Int) + 1) * c) - 1) - (k : Int))) (by omega) (by omega) rfl rfl (fun H21 ou off22 => ?_)
      replace op1 := op1.off off22 ap1Xu
      replace oq := oq.off off22 auXq.symm
      replace hp := hp0.le (off22.le lE nu)
      replace hvc := hvc0.le (off22.le lE nu)
      replace lE := off22.le lE nu
      refine ob_i (vInt_add (by omega) (by omega)) ?_
      rw [show ((i : Int) + 1) * c - 1 - (k : Int) = (i : Int) * c + (c - 1 - (k : Int)) by omega] at ou
      replace ou : Own eI H21 u (fillL c (mirG c l) (r.toNat * c.toNat) (i * c.toNat + (k + 1))) := by rw [← Nat.add_assoc, ← fillL_set (c := c) (g := mirG c l) (i := (i : Int)) (k := (k : Int)) (by omega) (by omega) (by omega) (cast_ix (by omega)) (by omega)]; exact ou
      exact nxt (c.toNat - (k + 1)) (by omega) ⟨k + 1, rfl, by omega, g0L19, g2L19, g3L19, g4L19, (congrArg (Value.int .i64) (by first | omega | rfl | (simp; done))), op1, ou, oq, lE⟩
    · skip
      have tk := hg20
      rw [show i * c.toNat + k = (i + 1) * c.toNat by rw [Nat.add_mul, Nat.one_mul]; omega] at ou
      exact hJ18 _ _ ⟨g0L19, g2L19, g3L19, g4L19, op1, ou, oq, lE⟩
  · skip
    have ti := hg17
    rw [fillL_end (by rw [show i = r.toNat by omega]; exact Nat.le_refl _)] at ou
    exact hJ13 _ _ ⟨g2L16, g3L16, op1, ou, oq, lE⟩
theorem C.impl_Field_right_1 {p vc : Value} {i k r c : Int} {l : List Int}  {H : Hp} {K : Value → Hp → Prop} (hp0 : Cel H p [(.int .i64 (r)), (.int .i64 (c)), vc]) (hvc0 : Sl eI H vc l) (hf : fieldN 1 r c l) (i0 : 0 ≤ i) (j0 : 0 ≤ k) (i1 : i < c) (j1 : k < r)
    (hk : ∀ H', Le H H' → K (.int .i64 (turG r c l i k)) H') : HT prg I.impl_Field_right_1 [(.int .i64 (i)), (.int .i64 (k)), p].toArray H K := by
  have lE := Le.refl H
  have hp := hp0
  have hvc := hvc0
  refine R.impl_Field_right_1 ?_
  unfold F.impl_Field_right_1
  have hs := hf.1
  have hl := hf.2.1
  have q1 := hs.1
  have q2 := hs.2
  have qm := sidesF_mul hs
  have x2 := ix_lt (a := r - 1 - k) (b := i) (r := r) (c := c) (by omega) (by omega) (by omega) (by omega)
  refine ob_i (hp.ldn rfl) ?_
  refine ob_i (hp.fa 0) ?_
  refine ob_i (hp.ld 0 rfl) ?_
  refine ob_i (vInt_sub (by omega) (by omega)) ?_
  refine ob_i (vInt_sub (by omega) (by omega)) ?_
  refine C.impl_Field_at hvc (by first | omega | assumption) (by first | omega | assumption) (by first | omega | assumption) (by first | omega | assumption) (by first | omega | assumption) (fun   H1    le2 => ?_)
  replace hp := hp.le le2
  replace hvc := hvc.le le2
  replace lE := lE.trans le2
  skip
  exact keq (K := K) (by rw [show ((at_ 0 l (((r - 1) - k) * c + i)) : Int) = (turG r c l i k) from by rfl]) (hk   _    lE)
theorem C.impl_Field_mirrored_1 {p vc : Value} {i k r c : Int} {l : List Int}  {H : Hp} {K : Value → Hp → Prop} (hp0 : Cel H p [(.int .i64 (r)), (.int .i64 (c)), vc]) (hvc0 : Sl eI H vc l) (hf : fieldN 1 r c l) (i0 : 0 ≤ i) (j0 : 0 ≤ k) (i1 : i < r) (j1 : k < c)
    (hk : ∀ H', Le H H' → K (.int .i64 (mirG c l i k)) H') : HT prg I.impl_Field_mirrored_1 [(.int .i64 (i)), (.int .i64 (k)), p].toArray H K := by
  have lE := Le.refl H
  have hp := hp0
  have hvc := hvc0
  refine R.impl_Field_mirrored_1 ?_
  unfold F.impl_Field_mirrored_1
  have hs := hf.1
  have hl := hf.2.1
  have q1 := hs.1
  have q2 := hs.2
  have qm := sidesF_mul hs
  have x2 := ix_lt (a := i) (b := c - 1 - k) (r := r) (c := c) (by omega) (by omega) (by omega) (by omega)
  refine ob_i (hp.ldn rfl) ?_
  refine ob_i (hp.fa 1) ?_
  refine ob_i (hp.ld 1 rfl) ?_
  refine ob_i (vInt_sub (by omega) (by omega)) ?_
  refine ob_i (vInt_sub (by omega) (by omega)) ?_
  refine C.impl_Field_at hvc (by first | omega | assumption) (by first | omega | assumption) (by first | omega | assumption) (by first | omega | assumption) (by first | omega | assumption) (fun   H1    le2 => ?_)
  replace hp := hp.le le2
  replace hvc := hvc.le le2
  replace lE := lE.trans le2
  skip
  exact keq (K := K) (by rw [show ((at_ 0 l (i * c + ((c - 1) - k))) : Int) = (mirG c l i k) from by rfl]) (hk   _    lE)
theorem C.impl_Field_right {vc : Value} {r c : Int} {l : List Int}  {H : Hp} {K : Value → Hp → Prop} (hvc0 : Sl eI H vc l) (hf : fieldN 1 r c l)
    (hk : ∀ u1 H', Own eI H' u1 (turL r c l) → Nw H u1 → Le H H' → K (.agg #[(.int .i64 (c)), (.int .i64 (r)), u1]) H') : HT prg I.impl_Field_right [(.agg #[(.int .i64 (r)), (.int .i64 (c)), vc])].toArray H K := by
  have lE := Le.refl H
  have hvc := hvc0
  refine R.impl_Field_right ?_
  unfold F.impl_Field_right
  have hs := hf.1
  have hl := hf.2.1
  have q1 := hs.1
  have q2 := hs.2
  have qm := sidesF_mul hs
  refine nw_i (fun p1 H2 op1 nn3 le4 => ?_)
  have np1 : Nw H p1 := nn3.le lE
  replace hvc := hvc.le le4
  replace lE := lE.trans le4
  replace op1 : Cel H2 p1 [(.int .i64 (r)), (.int .i64 (c)), vc] := op1
  refine nw_i (fun p5 H6 op5 nn7 le8 => ?_)
  have ap1Xp5 : Apart p1 p5 := op1.apart nn7
  have np5 : Nw H p5 := nn7.le lE
  replace op1 := op1.le le8
  replace hvc := hvc.le le8
  replace lE := lE.trans le8
  replace op5 : Cel H6 p5 [(.int .i64 (0)), (.int .i64 (0)), (.slice none 0 0)] := op5
  refine ob_i (op1.fa 1) ?_
  refine ob_i (op1.ld 1 rfl) ?_
  refine ob_i (op1.fa 0) ?_
  refine ob_i (op1.ld 0 rfl) ?_
  refine C.impl_madeField (g := turG r c l) (by omega) (by omega) (by omega) (by omega) (fun H13c i13 k13 Z leZ hi13 hk13 hZ => ?_) (fun u9 H10 ou9 nn11 le12 => ?_)
  · refine ⟨by kernel_rfl, ?_⟩
    replace op1 := op1.le leZ
    replace op5 := op5.le leZ
    replace hvc := hvc.le leZ
    replace lE := lE.trans leZ
    have lZ := Le.refl H13c
    refine C.impl_Field_right_1 op1 hvc (by first | omega | assumption) (by first | omega | assumption) (by first | omega | assumption) (by first | omega | assumption) (by first | omega | assumption) (fun   H14    le15 => ?_)
    replace op1 := op1.le le15
    replace op5 := op5.le le15
    replace hvc := hvc.le le15
    replace lE := lE.trans le15
    replace lZ := lZ.trans le15
    exact keq (K := Z) (by rw [show ((turG r c l (i13 : Int) (k13 : Int)) : Int) = (turG r c l) (i13 : Int) (k13 : Int) from rfl]) (hZ _ lZ)
  have ap1Xu9 : Apart p1 u9 := op1.apart nn11
  have ap5Xu9 : Apart p5 u9 := op5.apart nn11
  have nu9 : Nw H u9 := nn11.le lE
  replace op1 := op1.le le12
  replace op5 := op5.le le12
  replace hvc := hvc.le le12
  replace lE := lE.trans le12
  refine op5.stn (ws := [(.int .i64 (c)), (.int .i64 (r)), u9]) rfl rfl (oc1 rfl (oc1 rfl (oc1 ou9.one oc0))) (fun H16 op5 off17 => ?_)
  replace op1 := op1.off off17 ap1Xp5
  replace ou9 := ou9.off off17 ap5Xu9.symm
  replace hvc := hvc0.le (off17.le lE np5)
  replace lE := off17.le lE np5
  replace op5 : Cel H16 p5 [(.int .i64 (c)), (.int .i64 (r)), u9] := op5
  refine ob_i (op5.ldn rfl) ?_
  skip
  exact hk  u9 _ (Own.cast (show mkL (r) (turG r c l) ((c : Int).toNat * (r : Int).toNat) = turL r c l by rfl) ou9) nu9  lE
theorem C.impl_Field_mirrored {vc : Value} {r c : Int} {l : List Int}  {H : Hp} {K : Value → Hp → Prop} (hvc0 : Sl eI H vc l) (hf : fieldN 1 r c l)
    (hk : ∀ u1 H', Own eI H' u1 (mirL r c l) → Nw H u1 → Le H H' → K (.agg #[(.int .i64 (r)), (.int .i64 (c)), u1]) H') : HT prg I.impl_Field_mirrored [(.agg #[(.int .i64 (r)), (.int .i64 (c)), vc])].toArray H K := by
  have lE := Le.refl H
  have hvc := hvc0
  refine R.impl_Field_mirrored ?_
  unfold F.impl_Field_mirrored
  have hs := hf.1
  have hl := hf.2.1
  have q1 := hs.1
  have q2 := hs.2
  have qm := sidesF_mul hs
  refine nw_i (fun p1 H2 op1 nn3 le4 => ?_)
  have np1 : Nw H p1 := nn3.le lE
  replace hvc := hvc.le le4
  replace lE := lE.trans le4
  replace op1 : Cel H2 p1 [(.int .i64 (r)), (.int .i64 (c)), vc] := op1
  refine nw_i (fun p5 H6 op5 nn7 le8 => ?_)
  have ap1Xp5 : Apart p1 p5 := op1.apart nn7
  have np5 : Nw H p5 := nn7.le lE
  replace op1 := op1.le le8
  replace hvc := hvc.le le8
  replace lE := lE.trans le8
  replace op5 : Cel H6 p5 [(.int .i64 (0)), (.int .i64 (0)), (.slice none 0 0)] := op5
  refine ob_i (op1.fa 0) ?_
  refine ob_i (op1.ld 0 rfl) ?_
  refine ob_i (op1.fa 1) ?_
  refine ob_i (op1.ld 1 rfl) ?_
  refine C.impl_madeField (g := mirG c l) (by omega) (by omega) (by omega) (by omega) (fun H13c i13 k13 Z leZ hi13 hk13 hZ => ?_) (fun u9 H10 ou9 nn11 le12 => ?_)
  · refine ⟨by kernel_rfl, ?_⟩
    replace op1 := op1.le leZ
    replace op5 := op5.le leZ
    replace hvc := hvc.le leZ
    replace lE := lE.trans leZ
    have lZ := Le.refl H13c
    refine C.impl_Field_mirrored_1 op1 hvc (by first | omega | assumption) (by first | omega | assumption) (by first | omega | assumption) (by first | omega | assumption) (by first | omega | assumption) (fun   H14    le15 => ?_)
    replace op1 := op1.le le15
    replace op5 := op5.le le15
    replace hvc := hvc.le le15
    replace lE := lE.trans le15
    replace lZ := lZ.trans le15
    exact keq (K := Z) (by rw [show ((mirG c l (i13 : Int) (k13 : Int)) : Int) = (mirG c l) (i13 : Int) (k13 : Int) from rfl]) (hZ _ lZ)
  have ap1Xu9 : Apart p1 u9 := op1.apart nn11
  have ap5Xu9 : Apart p5 u9 := op5.apart nn11
  have nu9 : Nw H u9 := nn11.le lE
  replace op1 := op1.le le12
  replace op5 := op5.le le12
  replace hvc := hvc.le le12
  replace lE := lE.trans le12
  refine op5.stn (ws := [(.int .i64 (r)), (.int .i64 (c)), u9]) rfl rfl (oc1 rfl (oc1 rfl (oc1 ou9.one oc0))) (fun H16 op5 off17 => ?_)
  replace op1 := op1.off off17 ap1Xp5
  replace ou9 := ou9.off off17 ap5Xu9.symm
  replace hvc := hvc0.le (off17.le lE np5)
  replace lE := off17.le lE np5
  replace op5 : Cel H16 p5 [(.int .i64 (r)), (.int .i64 (c)), u9] := op5
  refine ob_i (op5.ldn rfl) ?_
  skip
  exact hk  u9 _ (Own.cast (show mkL (c) (mirG c l) ((r : Int).toNat * (c : Int).toNat) = mirL r c l by rfl) ou9) nu9  lE
theorem C.impl_copyField {vc : Value} {r c : Int} {l : List Int}  {H : Hp} {K : Value → Hp → Prop} (hvc0 : Sl eI H vc l) (hl : l.length ≤ 68719476736)
    (hk : ∀ u1 H', Own eI H' u1 l → Nw H u1 → Le H H' → K (.agg #[(.int .i64 (r)), (.int .i64 (c)), u1]) H') : HT prg I.impl_copyField [(.agg #[(.int .i64 (r)), (.int .i64 (c)), vc])].toArray H K := by
  have lE := Le.refl H
  have hvc := hvc0
  refine R.impl_copyField ?_
  unfold F.impl_copyField
  refine nw_i (fun p1 H2 op1 nn3 le4 => ?_)
  have np1 : Nw H p1 := nn3.le lE
  replace hvc := hvc.le le4
  replace lE := lE.trans le4
  replace op1 : Cel H2 p1 [(.int .i64 (r)), (.int .i64 (c)), vc] := op1
  refine nw_i (fun p5 H6 op5 nn7 le8 => ?_)
  have ap1Xp5 : Apart p1 p5 := op1.apart nn7
  have np5 : Nw H p5 := nn7.le lE
  replace op1 := op1.le le8
  replace hvc := hvc.le le8
  replace lE := lE.trans le8
  replace op5 : Cel H6 p5 [(.int .i64 (0)), (.int .i64 (0)), (.slice none 0 0)] := op5
  refine ob_i (op1.fa 2) ?_
  refine ob_i (op1.ld 2 rfl) ?_
  refine C.slices_Clone_int64Zint64 hvc (by first | omega | assumption) (fun  u11 H9 ou11 nn12  le10 => ?_)
  have ap1Xu11 : Apart p1 u11 := op1.apart nn12
  have ap5Xu11 : Apart p5 u11 := op5.apart nn12
  have nu11 : Nw H u11 := nn12.le lE
  replace op1 := op1.le le10
  replace op5 := op5.le le10
  replace hvc := hvc.le le10
  replace lE := lE.trans le10
  refine ob_i (op1.fa 2) ?_
  refine op1.st (by simp) ou11.one ou11.cells (fun H13 op1 off14 => ?_)
  replace op5 := op5.off off14 ap1Xp5.symm
  replace ou11 := ou11.off off14 ap1Xu11.symm
  replace hvc := hvc0.le (off14.le lE np1)
  replace lE := off14.le lE np1
  replace op1 : Cel H13 p1 [(.int .i64 (r)), (.int .i64 (c)), u11] := op1
  refine ob_i (op1.ldn rfl) ?_
  refine op5.stn (ws := [(.int .i64 (r)), (.int .i64 (c)), u11]) rfl rfl (oc1 rfl (oc1 rfl (oc1 ou11.one oc0))) (fun H15 op5 off16 => ?_)
  replace op1 := op1.off off16 ap1Xp5
  replace ou11 := ou11.off off16 ap5Xu11.symm
  replace hvc := hvc0.le (off16.le lE np5)
  replace lE := off16.le lE np5
  replace op5 : Cel H15 p5 [(.int .i64 (r)), (.int .i64 (c)), u11] := op5
  refine ob_i (op5.ldn rfl) ?_
  skip
  exact hk  u11 _ ou11 nu11  lE
theorem C.spec_l05Images {p vc : Value} {r c : Int} {l : List Int}  {H : Hp} {K : Value → Hp → Prop} (hp0 : Cel H p [(.int .i64 (r)), (.int .i64 (c)), vc]) (hvc0 : Sl eI H vc l) (hf : fieldN 1 r c l)
    (hk : ∀ u1 Su1 H', Fam H' u1 Su1 (imgs (⟨r, c, l⟩ : FdL) 8) → Nws H Su1 → Le H H' → K u1 H') : HT prg I.spec_l05Images [p].toArray H K := by
  have lE := Le.refl H
  have hp := hp0
  have hvc := hvc0
  refine R.spec_l05Images ?_
  unfold F.spec_l05Images
  have hs := hf.1
  have hl := hf.2.1
  have q1 := hs.1
  have q2 := hs.2
  have qm := sidesF_mul hs
  refine bSE_fam (fun u1 Su1 H2 ou1 nn3 le5 => ?_)
  have nu1 : Nws H Su1 := nn3.le lE
  replace hp := hp.le le5
  replace hvc := hvc.le le5
  replace lE := lE.trans le5
  refine ob_i (hp.nilC) ?_
  refine ob_i (hp.fa 0) ?_
  refine ob_i (hp.ld 0 rfl) ?_
  refine ob_i (hp.nilC) ?_
  refine ob_i (hp.fa 1) ?_
  refine ob_i (hp.ld 1 rfl) ?_
  refine C.spec_l05Cut hp hvc (by first | omega | assumption) (by first | omega | assumption) (by first | omega | assumption) (by first | omega | assumption) (by first | omega | assumption) (by first | omega | assumption) (by first | omega | assumption) (by first | omega | assumption) (fun  u8 H6 ou8 nn9  le7 => ?_)
  have au1Xu8 : Apt Su1 u8 := Apt.of_nw ou1.known nn9
  have nu8 : Nw H u8 := nn9.le lE
  replace ou1 := ou1.le le7
  replace hp := hp.le le7
  replace hvc := hvc.le le7
  replace lE := lE.trans le7
  refine ⟨le7, ?_⟩
  refine nw_i (fun q H10 oq nn11 le12 => ?_)
  have au1Xq : Apt Su1 q := Apt.of_nw ou1.known nn11
  have au8Xq : Apart u8 q := ou8.apart nn11
  have nq : Nw H q := nn11.le lE
  replace ou1 := ou1.le le12
  replace ou8 := ou8.le le12
  replace hp := hp.le le12
  replace hvc := hvc.le le12
  replace lE := lE.trans le12
  replace oq : Cel H10 q [(.int .i64 (0)), (.int .i64 (0)), (.slice none 0 0)] := oq
  refine oq.stn (ws := [(.int .i64 (r)), (.int .i64 (c)), u8]) rfl rfl (oc1 rfl (oc1 rfl (oc1 ou8.one oc0))) (fun H13 oq off14 => ?_)
  replace ou1 := ou1.off off14 au1Xq
  replace ou8 := ou8.off off14 au8Xq
  replace hp := hp0.le (off14.le lE nq)
  replace hvc := hvc0.le (off14.le lE nq)
  replace lE := off14.le lE nq
  replace oq : Cel H13 q [(.int .i64 (r)), (.int .i64 (c)), u8] := oq
  refine jn_i (fun σ' H' => ∃ u, ∃ Su, ∃ g, σ' 3 = u ∧ Cel H' q [(.int .i64 ((imB (⟨r, c, l⟩ : FdL) 2).r)), (.int .i64 ((imB (⟨r, c, l⟩ : FdL) 2).c)), g] ∧ Fam H' u Su (imgs (⟨r, c, l⟩ : FdL) 8) ∧ Own eI H' g ((imB (⟨r, c, l⟩ : FdL) 2).l) ∧ Nws H Su ∧ Apt q Su ∧ Nw H g ∧ Apart q g ∧ Apt Su g ∧ Le H H') (fun σ15 H15 hP => ?_) (fun J15 hJ15 => ?_)
  · skip
    obtain ⟨u, Su, g, g3L15, oq, ou, og, nu, aqXu, ng, aqXg, auXg, lE⟩ := hP
    have hp := hp0.le lE
    have hvc := hvc0.le lE
    try simp only [g3L15]
    skip
    exact hk  u _ _ ou nu  lE
  refine ⟨fun n' σ' H' => ∃ i : Nat, n' = 2 - i ∧ i ≤ 2 ∧ ∃ u, ∃ Su, ∃ g, σ' 0 = p ∧ σ' 3 = u ∧ σ' 4 = q ∧ σ' 5 = (.int .i64 ((i : Int))) ∧ Cel H' q [(.int .i64 ((imB (⟨r, c, l⟩ : FdL) i).r)), (.int .i64 ((imB (⟨r, c, l⟩ : FdL) i).c)), g] ∧ Fam H' u Su (imgs (⟨r, c, l⟩ : FdL) (4 * i)) ∧ Own eI H' g ((imB (⟨r, c, l⟩ : FdL) i).l) ∧ Nws H Su ∧ Apt q Su ∧ Nw H g ∧ Apart q g ∧ Apt Su g ∧ Le H H',
    ⟨_, 0, rfl, by omega, u1, _, u8, rfl, rfl, rfl, (congrArg (Value.int .i64) (by first | omega | rfl | (simp; done))), oq, (Fam.cast (by first | rfl | (simp; done)) ou1), (Own.cast (by exact cut_all (by omega) (by omega) hl) ou8), nu1, au1Xq.symm, nu8, au8Xq.symm, au1Xu8, lE⟩, ?_⟩
  rintro n16 σ16 H16 ⟨i, rfl, hiN, u, Su, g, g0L16, g3L16, g4L16, g5L16, oq, ou, og, nu, aqXu, ng, aqXg, auXg, lE⟩
  have hp := hp0.le lE
  have hvc := hvc0.le lE
  try simp only [g0L16, g3L16, g4L16, g5L16]
  have hB : okF (imB (⟨r, c, l⟩ : FdL) i) := imB_ok (f := (⟨r, c, l⟩ : FdL)) hf i
  have hiL := imgs_len (⟨r, c, l⟩ : FdL) (4 * i)
  refine ob_i (vInt_lss _ _ _) ?_
  refine cnd_d (fun hg17 => ?_) (fun hg17 => ?_)
  · skip
    have ti := hg17
    refine jn_i (fun σ' H' => ∃ u, ∃ Su, ∃ g, σ' 0 = p ∧ σ' 3 = u ∧ σ' 4 = q ∧ σ' 5 = (.int .i64 ((i : Int))) ∧ Cel H' q [(.int .i64 ((imB (⟨r, c, l⟩ : FdL) (i + 1)).r)), (.int .i64 ((imB (⟨r, c, l⟩ : FdL) (i + 1)).c)), g] ∧ Fam H' u Su (imgs (⟨r, c, l⟩ : FdL) (4 * (i + 1))) ∧ Own eI H' g ((imB (⟨r, c, l⟩ : FdL) (i + 1)).l) ∧ Nws H Su ∧ Apt q Su ∧ Nw H g ∧ Apart q g ∧ Apt Su g ∧ Le H H') (fun σ18 H18 hP => ?_) (fun J18 hJ18 => ?_)
    · skip
      obtain ⟨u, Su, g, g0L18, g3L18, g4L18, g5L18, oq, ou, og, nu, aqXu, ng, aqXg, auXg, lE⟩ := hP
      have hp := hp0.le lE
      have hvc := hvc0.le lE
      try simp only [g5L18]
      refine ob_i (vInt_add (by omega) (by omega)) ?_
      exact nxt (2 - (i + 1)) (by omega) ⟨i + 1, rfl, by omega, u, _, g, g0L18, g3L18, g4L18, (congrArg (Value.int .i64) (by first | omega | rfl | (simp; done))), oq, ou, og, nu, aqXu, ng, aqXg, auXg, lE⟩
    refine jn_i (fun σ' H' => ∃ u, ∃ Su, ∃ g, σ' 0 = p ∧ σ' 3 = u ∧ σ' 4 = q ∧ σ' 5 = (.int .i64 ((i : Int))) ∧ Cel H' q [(.int .i64 ((imK (imB (⟨r, c, l⟩ : FdL) i) 4).r)), (.int .i64 ((imK (imB (⟨r, c, l⟩ : FdL) i) 4).c)), g] ∧ Fam H' u Su (imgs (⟨r, c, l⟩ : FdL) (4 * (i + 1))) ∧ Own eI H' g ((imK (imB (⟨r, c, l⟩ : FdL) i) 4).l) ∧ Nws H Su ∧ Apt q Su ∧ Nw H g ∧ Apart q g ∧ Apt Su g ∧ Le H H') (fun σ19 H19 hP => ?_) (fun J19 hJ19 => ?_)
    · skip
      obtain ⟨u, Su, g, g0L19, g3L19, g4L19, g5L19, oq, ou, og, nu, aqXu, ng, aqXg, auXg, lE⟩ := hP
      have hp := hp0.le lE
      have hvc := hvc0.le lE
      try simp only [g0L19, g4L19]
      refine C.spec_l05Mirror hp hvc (by first | omega | assumption) (fun  u22 H20 ou22 nn23  le21 => ?_)
      have aqXu22 : Apart q u22 := oq.apart nn23
      have auXu22 : Apt Su u22 := Apt.of_nw ou.known nn23
      have agXu22 : Apart g u22 := og.apart nn23
      have nu22 : Nw H u22 := nn23.le lE
      replace oq := oq.le le21
      replace ou := ou.le le21
      replace og := og.le le21
      replace hp := hp.le le21
      replace hvc := hvc.le le21
      replace lE := lE.trans le21
      refine oq.stn (ws := [(.int .i64 (r)), (.int .i64 (c)), u22]) rfl rfl (oc1 rfl (oc1 rfl (oc1 ou22.one oc0))) (fun H24 oq off25 => ?_)
      replace ou := ou.off off25 aqXu.symm
      replace og := og.off off25 aqXg.symm
      replace ou22 := ou22.off off25 aqXu22.symm
      replace hp := hp0.le (off25.le lE nq)
      replace hvc := hvc0.le (off25.le lE nq)
      replace lE := off25.le lE nq
      replace oq : Cel H24 q [(.int .i64 (r)), (.int .i64 (c)), u22] := oq
      replace ou22 : Own eI H24 u22 (imB (⟨r, c, l⟩ : FdL) (i + 1)).l := ou22
      replace oq : Cel H24 q [(.int .i64 (imB (⟨r, c, l⟩ : FdL) (i + 1)).r), (.int .i64 (imB (⟨r, c, l⟩ : FdL) (i + 1)).c), u22] := oq
      exact hJ18 _ _ ⟨u, _, u22, g0L19, g3L19, g4L19, g5L19, oq, ou, ou22, nu, aqXu, nu22, aqXu22, auXu22, lE⟩
    refine ⟨fun n' σ' H' => ∃ k : Nat, n' = 4 - k ∧ k ≤ 4 ∧ ∃ u, ∃ Su, ∃ g, σ' 0 = p ∧ σ' 3 = u ∧ σ' 4 = q ∧ σ' 5 = (.int .i64 ((i : Int))) ∧ σ' 6 = (.int .i64 ((k : Int))) ∧ Cel H' q [(.int .i64 ((imK (imB (⟨r, c, l⟩ : FdL) i) k).r)), (.int .i64 ((imK (imB (⟨r, c, l⟩ : FdL) i) k).c)), g] ∧ Fam H' u Su (imgs (⟨r, c, l⟩ : FdL) (4 * i + k)) ∧ Own eI H' g ((imK (imB (⟨r, c, l⟩ : FdL) i) k).l) ∧ Nws H Su ∧ Apt q Su ∧ Nw H g ∧ Apart q g ∧ Apt Su g ∧ Le H H',
      ⟨_, 0, rfl, by omega, u, _, g, g0L16, g3L16, g4L16, g5L16, (congrArg (Value.int .i64) (by first | omega | rfl | (simp; done))), oq, (Fam.cast (by first | rfl | (simp; done)) ou), (Own.cast (by first | rfl | (simp; done)) og), nu, aqXu, ng, aqXg, auXg, lE⟩, ?_⟩
    rintro n26 σ26 H26 ⟨k, rfl, hkN, u, Su, g, g0L26, g3L26, g4L26, g5L26, g6L26, oq, ou, og, nu, aqXu, ng, aqXg, auXg, lE⟩
    have hp := hp0.le lE
    have hvc := hvc0.le lE
    try simp only [g3L26, g4L26, g6L26]
    have hK : fieldN 1 (imK (imB (⟨r, c, l⟩ : FdL) i) k).r (imK (imB (⟨r, c, l⟩ : FdL) i) k).c (imK (imB (⟨r, c, l⟩ : FdL) i) k).l := imK_ok hB k
    have lK := fieldN_len hK
    have hiL2 := imgs_len (⟨r, c, l⟩ : FdL) (4 * i + k)
    refine ob_i (vInt_lss _ _ _) ?_
    refine cnd_d (fun hg27 => ?_) (fun hg27 => ?_)
    · skip
      have tk := hg27
      refine ob_i (oq.ldn rfl) ?_
      refine bSE_one (enc := encFv) (x := (⟨(imK (imB (⟨r, c, l⟩ : FdL) i) k).r, (imK (imB (⟨r, c, l⟩ : FdL) i) k).c, g⟩ : Fv)) rfl rfl (by omega) (by omega) rfl (fun u28 H29 ou28 nn30 le32 => ?_) rfl
      have aqXu28 : Apart q u28 := oq.apart nn30
      have auXu28 : Apt Su u28 := Apt.of_nw ou.known nn30
      have agXu28 : Apart g u28 := og.apart nn30
      have nu28 : Nw H u28 := nn30.le lE
      replace oq := oq.le le32
      replace ou := ou.le le32
      replace og := og.le le32
      replace hp := hp.le le32
      replace hvc := hvc.le le32
      replace lE := lE.trans le32
      refine Fam.push ou rfl (ou28.sl encFv_n) og auXg.symm (by omega) (by first | omega | (simp; omega)) (fun u37 Su37 H33 ou37 off34 hb35 hx36 oxg => ?_)
      have aqXu37 : Apt q Su37 := Apt.push oq.known aqXu aqXg hb35
      have au28Xu37 : Apt u28 Su37 := Apt.push ou28.known auXu28.symm agXu28.symm hb35
      have nu37 : Nws H Su37 := Nws.push lE nu ng hb35
      replace oq := oq.offS off34 aqXu
      replace ou28 := ou28.offS off34 auXu28.symm
      replace hp := hp0.le (off34.le lE nu)
      replace hvc := hvc0.le (off34.le lE nu)
      replace lE := off34.le lE nu
      replace og := oxg.ro
      refine C.spec_l05Turn oq og.sl (by first | omega | assumption) (fun  u40 H38 ou40 nn41  le39 => ?_)
      have aqXu40 : Apart q u40 := oq.apart nn41
      have agXu40 : Apart g u40 := og.apart nn41
      have au28Xu40 : Apart u28 u40 := ou28.apart nn41
      have au37Xu40 : Apt Su37 u40 := Apt.of_nw ou37.known nn41
      have nu40 : Nw H u40 := nn41.le lE
      replace oq := oq.le le39
      replace og := og.le le39
      replace ou28 := ou28.le le39
      replace ou37 := ou37.le le39
      replace hp := hp.le le39
      replace hvc := hvc.le le39
      replace lE := lE.trans le39
      refine oq.stn (ws := [(.int .i64 (((imK (imB (⟨r, c, l⟩ : FdL) i) k).c))), (.int .i64 (((imK (imB (⟨r, c, l⟩ : FdL) i) k).r))), u40]) rfl rfl (oc1 rfl (oc1 rfl (oc1 ou40.one oc0))) (fun H42 oq off43 => ?_)
      replace og := og.off off43 aqXg.symm
      replace ou28 := ou28.off off43 aqXu28.symm
      replace ou37 := ou37.off off43 aqXu37.symm
      replace ou40 := ou40.off off43 aqXu40.symm
      replace hp := hp0.le (off43.le lE nq)
      replace hvc := hvc0.le (off43.le lE nq)
      replace lE := off43.le lE nq
      replace oq : Cel H42 q [(.int .i64 (((imK (imB (⟨r, c, l⟩ : FdL) i) k).c))), (.int .i64 (((imK (imB (⟨r, c, l⟩ : FdL) i) k).r))), u40] := oq
      refine ob_i (vInt_add (by omega) (by omega)) ?_
      exact nxt (4 - (k + 1)) (by omega) ⟨k + 1, rfl, by omega, u37, _, u40, g0L26, rfl, g4L26, g5L26, (congrArg (Value.int .i64) (by first | omega | rfl | (simp; done))), oq, (Fam.cast (imgs_succ (⟨r, c, l⟩ : FdL) (by omega)) ou37), ou40, nu37, aqXu37, nu40, aqXu40, au37Xu40, lE⟩
    · skip
      have tk := hg27
      obtain rfl : k = 4 := by omega
      exact hJ19 _ _ ⟨u, _, g, g0L26, g3L26, g4L26, g5L26, oq, ou, og, nu, aqXu, ng, aqXg, auXg, lE⟩
  · skip
    have ti := hg17
    obtain rfl : i = 2 := by omega
    exact hJ15 _ _ ⟨u, _, g, g3L16, oq, ou, og, nu, aqXu, ng, aqXg, auXg, lE⟩
theorem C.impl_Field_images {vc : Value} {r c : Int} {l : List Int}  {H : Hp} {K : Value → Hp → Prop} (hvc0 : Sl eI H vc l) (hf : fieldN 1 r c l)
    (hk : ∀ u1 Su1 H', Fam H' u1 Su1 (imgs (⟨r, c, l⟩ : FdL) 8) → Nws H Su1 → Le H H' → K u1 H') : HT prg I.impl_Field_images [(.agg #[(.int .i64 (r)), (.int .i64 (c)), vc])].toArray H K := by
  have lE := Le.refl H
  have hvc := hvc0
  refine R.impl_Field_images ?_
  unfold F.impl_Field_images
  have hs := hf.1
  have hl := hf.2.1
  have q1 := hs.1
  have q2 := hs.2
  have qm := sidesF_mul hs
  refine nw_i (fun p1 H2 op1 nn3 le4 => ?_)
  have np1 : Nw H p1 := nn3.le lE
  replace hvc := hvc.le le4
  replace lE := lE.trans le4
  replace op1 : Cel H2 p1 [(.int .i64 (r)), (.int .i64 (c)), vc] := op1
  refine bSE_fam (fun u5 Su5 H6 ou5 nn7 le9 => ?_)
  have ap1Xu5 : Apt p1 Su5 := Apt.of_nws op1.known nn7
  have nu5 : Nws H Su5 := nn7.le lE
  replace op1 := op1.le le9
  replace hvc := hvc.le le9
  replace lE := lE.trans le9
  refine jn_i (fun σ' H' => ∃ u, ∃ Su, ∃ g, ∃ h, σ' 3 = u ∧ Cel H' p1 [(.int .i64 (r)), (.int .i64 (c)), vc] ∧ Fam H' u Su (imgs (⟨r, c, l⟩ : FdL) 8) ∧ Own eI H' g (gL (⟨r, c, l⟩ : FdL) 2) ∧ Own eI H' h (hL (⟨r, c, l⟩ : FdL) 2) ∧ Nws H Su ∧ Apt p1 Su ∧ Nw H g ∧ Apart p1 g ∧ Apt Su g ∧ Nw H h ∧ Apart p1 h ∧ Apt Su h ∧ Apart g h ∧ Le H H') (fun σ10 H10 hP => ?_) (fun J10 hJ10 => ?_)
  · skip
    obtain ⟨u, Su, g, h, g3L10, op1, ou, og, oh, nu, ap1Xu, ng, ap1Xg, auXg, nh, ap1Xh, auXh, agXh, lE⟩ := hP
    have hvc := hvc0.le lE
    try simp only [g3L10]
    skip
    exact hk  u _ _ ou nu  lE
  refine ob_i (op1.ldn rfl) ?_
  refine ob_i (op1.ldn rfl) ?_
  refine C.impl_copyField hvc (by first | omega | assumption) (fun  w H11 ow nn13  le12 => ?_)
  have ap1Xw : Apart p1 w := op1.apart nn13
  have au5Xw : Apt Su5 w := Apt.of_nw ou5.known nn13
  have nw : Nw H w := nn13.le lE
  replace op1 := op1.le le12
  replace ou5 := ou5.le le12
  replace hvc := hvc.le le12
  replace lE := lE.trans le12
  refine ⟨le12, ?_⟩
  refine C.impl_Field_mirrored hvc (by first | omega | assumption) (fun  m H14 om nn16  le15 => ?_)
  have ap1Xm : Apart p1 m := op1.apart nn16
  have au5Xm : Apt Su5 m := Apt.of_nw ou5.known nn16
  have awXm : Apart w m := ow.apart nn16
  have nm : Nw H m := nn16.le lE
  replace op1 := op1.le le15
  replace ou5 := ou5.le le15
  replace ow := ow.le le15
  replace hvc := hvc.le le15
  replace lE := lE.trans le15
  refine ⟨le15, ?_⟩
  refine bSE_i (enc := encFv) (n := 3) (l := ([⟨r, c, w⟩, ⟨r, c, m⟩] : List Fv)) (by omega) rfl encFv_n (by kernel_rfl) (fun e H17 oe nn18 le20 => ?_)
  have ap1Xe : Apart p1 e := op1.apart nn18
  have au5Xe : Apt Su5 e := Apt.of_nw ou5.known nn18
  have awXe : Apart w e := ow.apart nn18
  have amXe : Apart m e := om.apart nn18
  have ne : Nw H e := nn18.le lE
  replace op1 := op1.le le20
  replace ou5 := ou5.le le20
  replace ow := ow.le le20
  replace om := om.le le20
  replace hvc := hvc.le le20
  replace lE := lE.trans le20
  refine ob_i (a := .int .i64 2) oe.len ?_
  refine ⟨fun n' σ' H' => ∃ i : Nat, n' = 2 - i ∧ i ≤ 2 ∧ ∃ u, ∃ Su, ∃ g, ∃ h, σ' 3 = u ∧ σ' 11 = e ∧ σ' 12 = (.int .i64 (2)) ∧ σ' 13 = (.int .i64 ((i : Int))) ∧ Cel H' p1 [(.int .i64 (r)), (.int .i64 (c)), vc] ∧ OwnE 3 encFv H' e ([⟨r, c, w⟩, ⟨r, c, m⟩]) ∧ Fam H' u Su (imgs (⟨r, c, l⟩ : FdL) (4 * i)) ∧ Own eI H' g (gL (⟨r, c, l⟩ : FdL) i) ∧ Own eI H' h (hL (⟨r, c, l⟩ : FdL) i) ∧ Nws H Su ∧ Apt p1 Su ∧ Apt e Su ∧ Nw H g ∧ Apart p1 g ∧ Apart e g ∧ Apt Su g ∧ Nw H h ∧ Apart p1 h ∧ Apart e h ∧ Apt Su h ∧ Apart g h ∧ Le H H' ∧ ((i : Int) < 2 → at_ fv0 ([⟨r, c, w⟩, ⟨r, c, m⟩] : List Fv) (i : Int) = ⟨r, c, g⟩) ∧ (i = 0 → h = m),
    ⟨_, 0, rfl, by omega, u5, _, w, m, rfl, rfl, rfl, (congrArg (Value.int .i64) (by first | omega | rfl | (simp; done))), op1, oe, (Fam.cast (by first | rfl | (simp; done)) ou5), (Own.cast (by first | rfl | (simp; done)) ow), (Own.cast (by first | rfl | (simp; done)) om), nu5, ap1Xu5, au5Xe.symm, nw, ap1Xw, awXe.symm, au5Xw, nm, ap1Xm, amXe.symm, au5Xm, awXm, lE, (fun _ => rfl), (fun _ => rfl)⟩, ?_⟩
  rintro n21 σ21 H21 ⟨i, rfl, hiN, u, Su, g, h, g3L21, g11L21, g12L21, g13L21, op1, oe, ou, og, oh, nu, ap1Xu, aeXu, ng, ap1Xg, aeXg, auXg, nh, ap1Xh, aeXh, auXh, agXh, lE, hm0, hm1⟩
  have hvc := hvc0.le lE
  try simp only [g3L21, g11L21, g12L21, g13L21]
  have hgi := gL_eq (f := (⟨r, c, l⟩ : FdL)) (i := i)
  have hB : okF (imB (⟨r, c, l⟩ : FdL) i) := imB_ok (f := (⟨r, c, l⟩ : FdL)) hf i
  have hiL := imgs_len (⟨r, c, l⟩ : FdL) (4 * i)
  refine ob_i (vInt_lss _ _ _) ?_
  refine cnd_d (fun hg22 => ?_) (fun hg22 => ?_)
  · skip
    have ti := hg22
    refine jn_i (fun σ' H' => ∃ u, ∃ Su, σ' 3 = u ∧ σ' 11 = e ∧ σ' 12 = (.int .i64 (2)) ∧ σ' 13 = (.int .i64 ((i : Int))) ∧ Cel H' p1 [(.int .i64 (r)), (.int .i64 (c)), vc] ∧ OwnE 3 encFv H' e ([⟨r, c, w⟩, ⟨r, c, m⟩]) ∧ Fam H' u Su (imgs (⟨r, c, l⟩ : FdL) (4 * (i + 1))) ∧ Own eI H' h (hL (⟨r, c, l⟩ : FdL) i) ∧ Nws H Su ∧ Apt p1 Su ∧ Apt e Su ∧ Apt Su h ∧ Le H H') (fun σ23 H23 hP => ?_) (fun J23 hJ23 => ?_)
    · skip
      obtain ⟨u, Su, g3L23, g11L23, g12L23, g13L23, op1, oe, ou, oh, nu, ap1Xu, aeXu, auXh, lE⟩ := hP
      have hvc := hvc0.le lE
      try simp only [g13L23]
      refine ob_i (vInt_add (by omega) (by omega)) ?_
      exact nxt (2 - (i + 1)) (by omega) ⟨i + 1, rfl, by omega, u, _, h, _, g3L23, g11L23, g12L23, (congrArg (Value.int .i64) (by first | omega | rfl | (simp; done))), op1, oe, ou, (Own.cast (hgL (⟨r, c, l⟩ : FdL) i) oh), (Own.cast (by simp [hL]) (Own.nil_of none)), nu, ap1Xu, aeXu, nh, ap1Xh, aeXh, auXh, (fun b hb => by simp [bk] at hb), (fun b _ hb => by simp [bk] at hb), (fun b _ hb => by simp [bk] at hb), Apt.nil_r, (fun b _ hb => by simp [bk] at hb), lE, (fun hlt => by obtain rfl : i = 0 := (by omega); rw [hm1 rfl]; first | done | rfl), (fun h0 => absurd h0 (by omega))⟩
    refine ob_i ((oe.sl encFv_n).ix encFv_n (by omega) (by omega) (by first | omega | (simp only [List.length_cons, List.length_nil]; omega))) ?_
    refine ob_i (a := (.agg #[(.int .i64 (r)), (.int .i64 (c)), g])) (by rw [(oe.sl encFv_n).ldn (i := (i : Int)) encFv_n (by omega) fv0 (by omega) (by show _ < ((2 : Nat) : Int); omega), hm0 (by omega)]; try rfl) ?_
    refine nw_i (fun q H24 oq nn25 le26 => ?_)
    have ap1Xq : Apart p1 q := op1.apart nn25
    have aeXq : Apart e q := oe.apart nn25
    have auXq : Apt Su q := Apt.of_nw ou.known nn25
    have agXq : Apart g q := og.apart nn25
    have ahXq : Apart h q := oh.apart nn25
    have nq : Nw H q := nn25.le lE
    replace op1 := op1.le le26
    replace oe := oe.le le26
    replace ou := ou.le le26
    replace og := og.le le26
    replace oh := oh.le le26
    replace hvc := hvc.le le26
    replace lE := lE.trans le26
    replace oq : Cel H24 q [(.int .i64 (0)), (.int .i64 (0)), (.slice none 0 0)] := oq
    refine oq.stn (ws := [(.int .i64 (r)), (.int .i64 (c)), g]) rfl rfl (oc1 rfl (oc1 rfl (oc1 og.one oc0))) (fun H27 oq off28 => ?_)
    replace op1 := op1.off off28 ap1Xq
    replace oe := oe.off off28 aeXq
    replace ou := ou.off off28 auXq
    replace og := og.off off28 agXq
    replace oh := oh.off off28 ahXq
    replace hvc := hvc0.le (off28.le lE nq)
    replace lE := off28.le lE nq
    replace oq : Cel H27 q [(.int .i64 (r)), (.int .i64 (c)), g] := oq
    refine ⟨fun n' σ' H' => ∃ k : Nat, n' = 4 - k ∧ k ≤ 4 ∧ ∃ u, ∃ Su, ∃ x, σ' 3 = u ∧ σ' 5 = q ∧ σ' 11 = e ∧ σ' 12 = (.int .i64 (2)) ∧ σ' 13 = (.int .i64 ((i : Int))) ∧ σ' 17 = (.int .i64 ((k : Int))) ∧ Cel H' p1 [(.int .i64 (r)), (.int .i64 (c)), vc] ∧ OwnE 3 encFv H' e ([⟨r, c, w⟩, ⟨r, c, m⟩]) ∧ Fam H' u Su (imgs (⟨r, c, l⟩ : FdL) (4 * i + k)) ∧ Own eI H' h (hL (⟨r, c, l⟩ : FdL) i) ∧ Cel H' q [(.int .i64 ((imK (imB (⟨r, c, l⟩ : FdL) i) k).r)), (.int .i64 ((imK (imB (⟨r, c, l⟩ : FdL) i) k).c)), x] ∧ Own eI H' x ((imK (imB (⟨r, c, l⟩ : FdL) i) k).l) ∧ Nws H Su ∧ Apt p1 Su ∧ Apt e Su ∧ Apt Su h ∧ Apt Su q ∧ Nw H x ∧ Apart p1 x ∧ Apart e x ∧ Apt Su x ∧ Apart h x ∧ Apart q x ∧ Le H H',
      ⟨_, 0, rfl, by omega, u, _, g, g3L21, rfl, g11L21, g12L21, g13L21, (congrArg (Value.int .i64) (by first | omega | rfl | (simp; done))), op1, oe, (Fam.cast (by first | rfl | (simp; done)) ou), oh, (Cel.cast (by show _ = [Value.int .i64 (imB (⟨r, c, l⟩ : FdL) i).r, .int .i64 (imB (⟨r, c, l⟩ : FdL) i).c, g]; rw [imB_r, imB_c]) oq), (Own.cast (hgi (by omega)) og), nu, ap1Xu, aeXu, auXh, auXq, ng, ap1Xg, aeXg, auXg, agXh.symm, agXq.symm, lE⟩, ?_⟩
    rintro n29 σ29 H29 ⟨k, rfl, hkN, u, Su, x, g3L29, g5L29, g11L29, g12L29, g13L29, g17L29, op1, oe, ou, oh, oq, ox, nu, ap1Xu, aeXu, auXh, auXq, nx, ap1Xx, aeXx, auXx, ahXx, aqXx, lE⟩
    have hvc := hvc0.le lE
    try simp only [g3L29, g5L29, g17L29]
    have hK : fieldN 1 (imK (imB (⟨r, c, l⟩ : FdL) i) k).r (imK (imB (⟨r, c, l⟩ : FdL) i) k).c (imK (imB (⟨r, c, l⟩ : FdL) i) k).l := imK_ok hB k
    have lK := fieldN_len hK
    have hiL2 := imgs_len (⟨r, c, l⟩ : FdL) (4 * i + k)
    refine ob_i (vInt_lss _ _ _) ?_
    refine cnd_d (fun hg30 => ?_) (fun hg30 => ?_)
    · skip
      have tk := hg30
      refine ob_i (oq.ldn rfl) ?_
      refine bSE_one (enc := encFv) (x := (⟨(imK (imB (⟨r, c, l⟩ : FdL) i) k).r, (imK (imB (⟨r, c, l⟩ : FdL) i) k).c, x⟩ : Fv)) rfl rfl (by omega) (by omega) rfl (fun u31 H32 ou31 nn33 le35 => ?_) rfl
      have ap1Xu31 : Apart p1 u31 := op1.apart nn33
      have aeXu31 : Apart e u31 := oe.apart nn33
      have auXu31 : Apt Su u31 := Apt.of_nw ou.known nn33
      have ahXu31 : Apart h u31 := oh.apart nn33
      have aqXu31 : Apart q u31 := oq.apart nn33
      have axXu31 : Apart x u31 := ox.apart nn33
      have nu31 : Nw H u31 := nn33.le lE
      replace op1 := op1.le le35
      replace oe := oe.le le35
      replace ou := ou.le le35
      replace oh := oh.le le35
      replace oq := oq.le le35
      replace ox := ox.le le35
      replace hvc := hvc.le le35
      replace lE := lE.trans le35
      refine Fam.push ou rfl (ou31.sl encFv_n) ox auXx.symm (by omega) (by first | omega | (simp; omega)) (fun u40 Su40 H36 ou40 off37 hb38 hx39 oxx => ?_)
      have ap1Xu40 : Apt p1 Su40 := Apt.push op1.known ap1Xu ap1Xx hb38
      have aeXu40 : Apt e Su40 := Apt.push oe.known aeXu aeXx hb38
      have ahXu40 : Apt h Su40 := Apt.push oh.known auXh.symm ahXx hb38
      have aqXu40 : Apt q Su40 := Apt.push oq.known auXq.symm aqXx hb38
      have au31Xu40 : Apt u31 Su40 := Apt.push ou31.known auXu31.symm axXu31.symm hb38
      have nu40 : Nws H Su40 := Nws.push lE nu nx hb38
      replace op1 := op1.offS off37 ap1Xu
      replace oe := oe.offS off37 aeXu
      replace oh := oh.offS off37 auXh.symm
      replace oq := oq.offS off37 auXq.symm
      replace ou31 := ou31.offS off37 auXu31.symm
      replace hvc := hvc0.le (off37.le lE nu)
      replace lE := off37.le lE nu
      replace ox := oxx.ro
      refine ob_i (oq.ldn rfl) ?_
      refine C.impl_Field_right ox.sl (by first | omega | assumption) (fun  u43 H41 ou43 nn44  le42 => ?_)
      have ap1Xu43 : Apart p1 u43 := op1.apart nn44
      have aeXu43 : Apart e u43 := oe.apart nn44
      have ahXu43 : Apart h u43 := oh.apart nn44
      have aqXu43 : Apart q u43 := oq.apart nn44
      have axXu43 : Apart x u43 := ox.apart nn44
      have au31Xu43 : Apart u31 u43 := ou31.apart nn44
      have au40Xu43 : Apt Su40 u43 := Apt.of_nw ou40.known nn44
      have nu43 : Nw H u43 := nn44.le lE
      replace op1 := op1.le le42
      replace oe := oe.le le42
      replace oh := oh.le le42
      replace oq := oq.le le42
      replace ox := ox.le le42
      replace ou31 := ou31.le le42
      replace ou40 := ou40.le le42
      replace hvc := hvc.le le42
      replace lE := lE.trans le42
      refine oq.stn (ws := [(.int .i64 (((imK (imB (⟨r, c, l⟩ : FdL) i) k).c))), (.int .i64 (((imK (imB (⟨r, c, l⟩ : FdL) i) k).r))), u43]) rfl rfl (oc1 rfl (oc1 rfl (oc1 ou43.one oc0))) (fun H45 oq off46 => ?_)
      replace op1 := op1.off off46 ap1Xq
      replace oe := oe.off off46 aeXq
      replace oh := oh.off off46 ahXq
      replace ox := ox.off off46 aqXx.symm
      replace ou31 := ou31.off off46 aqXu31.symm
      replace ou40 := ou40.off off46 aqXu40.symm
      replace ou43 := ou43.off off46 aqXu43.symm
      replace hvc := hvc0.le (off46.le lE nq)
      replace lE := off46.le lE nq
      replace oq : Cel H45 q [(.int .i64 (((imK (imB (⟨r, c, l⟩ : FdL) i) k).c))), (.int .i64 (((imK (imB (⟨r, c, l⟩ : FdL) i) k).r))), u43] := oq
      refine ob_i (vInt_add (by omega) (by omega)) ?_
      exact nxt (4 - (k + 1)) (by omega) ⟨k + 1, rfl, by omega, u40, _, u43, rfl, g5L29, g11L29, g12L29, g13L29, (congrArg (Value.int .i64) (by first | omega | rfl | (simp; done))), op1, oe, (Fam.cast (imgs_succ (⟨r, c, l⟩ : FdL) (by omega)) ou40), oh, oq, ou43, nu40, ap1Xu40, aeXu40, ahXu40.symm, aqXu40.symm, nu43, ap1Xu43, aeXu43, au40Xu43, ahXu43, aqXu43, lE⟩
    · skip
      have tk := hg30
      obtain rfl : k = 4 := by omega
      exact hJ23 _ _ ⟨u, _, g3L29, g11L29, g12L29, g13L29, op1, oe, ou, oh, nu, ap1Xu, aeXu, auXh, lE⟩
  · skip
    have ti := hg22
    obtain rfl : i = 2 := by omega
    exact hJ10 _ _ ⟨u, _, g, h, g3L21, op1, ou, og, oh, nu, ap1Xu, ng, ap1Xg, auXg, nh, ap1Xh, auXh, agXh, lE⟩
theorem C.spec_ImagesOfField {vc : Value} {r c : Int} {l : List Int}  {H : Hp} {K : Value → Hp → Prop} (hvc0 : Sl eI H vc l) (k1 : l.length ≤ 9223372036854775807)
    (hk : ∀ u1 Su1 H', Fam H' u1 Su1 (selL (fieldN 1 r c l) (imgs (⟨r, c, l⟩ : FdL) 8)) → Nws H Su1 → Le H H' → K (.tuple #[u1, (.bool (decide (fieldN 1 r c l)))]) H') : HT prg I.spec_ImagesOfField [(.agg #[(.int .i64 (r)), (.int .i64 (c)), vc])].toArray H K := by
  have lE := Le.refl H
  have hvc := hvc0
  refine R.spec_ImagesOfField ?_
  unfold F.spec_ImagesOfField
  refine nw_i (fun p1 H2 op1 nn3 le4 => ?_)
  have np1 : Nw H p1 := nn3.le lE
  replace hvc := hvc.le le4
  replace lE := lE.trans le4
  replace op1 : Cel H2 p1 [(.int .i64 (r)), (.int .i64 (c)), vc] := op1
  refine C.spec_l04Plain op1 hvc (by first | omega | assumption) ?_
  refine ob_nd (fun hc5 => ?_) (fun hc5 => ?_)
  · skip
    have hf := hc5
    have l1 := fieldN_len hf
    have hs := hf.1
    have hl := hf.2.1
    have q1 := hs.1
    have q2 := hs.2
    have qm := sidesF_mul hs
    refine cnd_f1 ?_
    refine C.spec_l05Images op1 hvc (by first | omega | assumption) (fun  u8 Su8 H6 ou8 nn9  le7 => ?_)
    have ap1Xu8 : Apt p1 Su8 := Apt.of_nws op1.known nn9
    have nu8 : Nws H Su8 := nn9.le lE
    replace op1 := op1.le le7
    replace hvc := hvc.le le7
    replace lE := lE.trans le7
    skip
    have hok : fieldN 1 r c l := by assumption
    exact keq (K := K) (by rw [decide_eq_true (show (fieldN 1 r c l) from by exact hok)]) (hk  u8 _ _ (Fam.cast (show imgs (⟨r, c, l⟩ : FdL) 8 = selL (fieldN 1 r c l) (imgs (⟨r, c, l⟩ : FdL) 8) by exact (selL_t hok).symm) ou8) nu8  lE)
  · skip
    refine cnd_t1 ?_
    skip
    have hok : ¬ (fieldN 1 r c l) := by assumption
    exact keq (K := K) (by rw [decide_eq_false (show ¬ (fieldN 1 r c l) from by exact hok)]) (hk  (.slice none 0 0) _ _ (Fam.cast (show [] = selL (fieldN 1 r c l) (imgs (⟨r, c, l⟩ : FdL) 8) by exact (selL_f hok).symm) (Fam.nil_of none)) (fun b hb => hb.elim)  lE)
theorem C.impl_ImagesOfField {vc : Value} {r c : Int} {l : List Int}  {H : Hp} {K : Value → Hp → Prop} (hvc0 : Sl eI H vc l) (k1 : l.length ≤ 9223372036854775807)
    (hk : ∀ u1 Su1 H', Fam H' u1 Su1 (selL (fieldN 1 r c l) (imgs (⟨r, c, l⟩ : FdL) 8)) → Nws H Su1 → Le H H' → K (.tuple #[u1, (.bool (decide (fieldN 1 r c l)))]) H') : HT prg I.impl_ImagesOfField [(.agg #[(.int .i64 (r)), (.int .i64 (c)), vc])].toArray H K := by
  have lE := Le.refl H
  have hvc := hvc0
  refine R.impl_ImagesOfField ?_
  unfold F.impl_ImagesOfField
  refine nw_i (fun p1 H2 op1 nn3 le4 => ?_)
  have np1 : Nw H p1 := nn3.le lE
  replace hvc := hvc.le le4
  replace lE := lE.trans le4
  replace op1 : Cel H2 p1 [(.int .i64 (r)), (.int .i64 (c)), vc] := op1
  refine ob_i (op1.ldn rfl) ?_
  refine C.impl_isPlain hvc (by first | omega | assumption) (fun   H5    le6 => ?_)
  replace op1 := op1.le le6
  replace hvc := hvc.le le6
  replace lE := lE.trans le6
  refine ob_nd (fun hc7 => ?_) (fun hc7 => ?_)
  · skip
    have hf := hc7
    have l1 := fieldN_len hf
    have hs := hf.1
    have hl := hf.2.1
    have q1 := hs.1
    have q2 := hs.2
    have qm := sidesF_mul hs
    refine cnd_f1 ?_
    refine ob_i (op1.ldn rfl) ?_
    refine C.impl_Field_images hvc (by first | omega | assumption) (fun  u10 Su10 H8 ou10 nn11  le9 => ?_)
    have ap1Xu10 : Apt p1 Su10 := Apt.of_nws op1.known nn11
    have nu10 : Nws H Su10 := nn11.le lE
    replace op1 := op1.le le9
    replace hvc := hvc.le le9
    replace lE := lE.trans le9
    skip
    have hok : fieldN 1 r c l := by assumption
    exact keq (K := K) (by rw [decide_eq_true (show (fieldN 1 r c l) from by exact hok)]) (hk  u10 _ _ (Fam.cast (show imgs (⟨r, c, l⟩ : FdL) 8 = selL (fieldN 1 r c l) (imgs (⟨r, c, l⟩ : FdL) 8) by exact (selL_t hok).symm) ou10) nu10  lE)
  · skip
    refine cnd_t1 ?_
    skip
    have hok : ¬ (fieldN 1 r c l) := by assumption
    exact keq (K := K) (by rw [decide_eq_false (show ¬ (fieldN 1 r c l) from by exact hok)]) (hk  (.slice none 0 0) _ _ (Fam.cast (show [] = selL (fieldN 1 r c l) (imgs (⟨r, c, l⟩ : FdL) 8) by exact (selL_f hok).symm) (Fam.nil_of none)) (fun b hb => hb.elim)  lE)
end Go.Proofs.Ytnndhafldmkdeaa
