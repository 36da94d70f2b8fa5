/- Several texts in one. -/
import Derived.Test.YtialllbbbpmkbaaDoorMSameShape1
import Derived.Test.YtialllbbbpmkbaaDoorMSameShape0
import Derived.Test.YtialllbbbpmkbaaDoorG0
import Derived.Below
import Derived.WalkKit
import Derived.ProofKit
/- Fields that are turned and mirrored: the program's and the reference's. -/
namespace Go.Proofs.YtialllbbbpmkbaaDoor
open HL
set_option maxRecDepth 100000
theorem C.spec_l05Turn {p vc : Value} {r c : Int} {l : List Int}  {H : Hp} {K : Value → Hp → Prop} (hp0 : Cel H p [(.int .i64 (r)), (.int .i64 (c)), vc]) (hvc0 : Sl eI H vc l) (hf : fieldN 1 r c l)
    (hk : ∀ u1 H', Own eI H' u1 (turL r c l) → Nw H u1 → Le H H' → K (.agg #[(.int .i64 (c)), (.int .i64 (r)), u1]) H') : HT prg I.spec_l05Turn [p].toArray H K := by
  have lE := Le.refl H
  have hp := hp0
  have hvc := hvc0
  refine R.spec_l05Turn ?_
  unfold F.spec_l05Turn
  have hs := hf.1
  have hl := hf.2.1
  have q1 := hs.1
  have q2 := hs.2
  have qm := sidesF_mul hs
  have qm2 : c * r = r * c := Int.mul_comm _ _
  refine nw_i (fun p1 H2 op1 nn3 le4 => ?_)
  have np1 : Nw H p1 := nn3.le lE
  replace hp := hp.le le4
  replace hvc := hvc.le le4
  replace lE := lE.trans le4
  replace op1 : Cel H2 p1 [(.int .i64 (0)), (.int .i64 (0)), (.slice none 0 0)] := op1
  refine ob_i (hp.nilC) ?_
  refine ob_i (hp.fa 1) ?_
  refine ob_i (hp.ld 1 rfl) ?_
  refine ob_i (hp.nilC) ?_
  refine ob_i (hp.fa 0) ?_
  refine ob_i (hp.ld 0 rfl) ?_
  refine C.spec_l04New (by first | omega | assumption) (by first | omega | assumption) (by first | omega | assumption) (by first | omega | assumption) (fun  u H5 ou nn7  le6 => ?_)
  have ap1Xu : Apart p1 u := op1.apart nn7
  have nu : Nw H u := nn7.le lE
  replace op1 := op1.le le6
  replace hp := hp.le le6
  replace hvc := hvc.le le6
  replace lE := lE.trans le6
  refine ⟨le6, ?_⟩
  refine nw_i (fun q H8 oq nn9 le10 => ?_)
  have ap1Xq : Apart p1 q := op1.apart nn9
  have auXq : Apart u q := ou.apart nn9
  have nq : Nw H q := nn9.le lE
  replace op1 := op1.le le10
  replace ou := ou.le le10
  replace hp := hp.le le10
  replace hvc := hvc.le le10
  replace lE := lE.trans le10
  replace oq : Cel H8 q [(.int .i64 (0)), (.int .i64 (0)), (.slice none 0 0)] := oq
  refine oq.stn (ws := [(.int .i64 (c)), (.int .i64 (r)), u]) rfl rfl (oc1 rfl (oc1 rfl (oc1 ou.one oc0))) (fun H11 oq off12 => ?_)
  replace op1 := op1.off off12 ap1Xq
  replace ou := ou.off off12 auXq
  replace hp := hp0.le (off12.le lE nq)
  replace hvc := hvc0.le (off12.le lE nq)
  replace lE := off12.le lE nq
  replace oq : Cel H11 q [(.int .i64 (c)), (.int .i64 (r)), u] := oq
  refine jn_i (fun σ' H' => σ' 2 = p1 ∧ σ' 3 = q ∧ Cel H' p1 [(.int .i64 (0)), (.int .i64 (0)), (.slice none 0 0)] ∧ Own eI H' u (mkL r (turG r c l) (c.toNat * r.toNat)) ∧ Cel H' q [(.int .i64 (c)), (.int .i64 (r)), u] ∧ Le H H') (fun σ13 H13 hP => ?_) (fun J13 hJ13 => ?_)
  · skip
    obtain ⟨g2L13, g3L13, op1, ou, oq, lE⟩ := hP
    have hp := hp0.le lE
    have hvc := hvc0.le lE
    try simp only [g2L13, g3L13]
    refine ob_i (oq.ldn rfl) ?_
    refine op1.stn (ws := [(.int .i64 (c)), (.int .i64 (r)), u]) rfl rfl (oc1 rfl (oc1 rfl (oc1 ou.one oc0))) (fun H14 op1 off15 => ?_)
    replace ou := ou.off off15 ap1Xu.symm
    replace oq := oq.off off15 ap1Xq.symm
    replace hp := hp0.le (off15.le lE np1)
    replace hvc := hvc0.le (off15.le lE np1)
    replace lE := off15.le lE np1
    replace op1 : Cel H14 p1 [(.int .i64 (c)), (.int .i64 (r)), u] := op1
    refine ob_i (op1.ldn rfl) ?_
    skip
    exact hk  u _ (Own.cast (show mkL r (turG r c l) (c.toNat * r.toNat) = turL r c l by rfl) ou) nu  lE
  refine ⟨fun n' σ' H' => ∃ i : Nat, n' = c.toNat - i ∧ i ≤ c.toNat ∧ σ' 0 = p ∧ σ' 2 = p1 ∧ σ' 3 = q ∧ σ' 4 = (.int .i64 ((i : Int))) ∧ Cel H' p1 [(.int .i64 (0)), (.int .i64 (0)), (.slice none 0 0)] ∧ Own eI H' u (fillL r (turG r c l) (c.toNat * r.toNat) (i * r.toNat)) ∧ Cel H' q [(.int .i64 (c)), (.int .i64 (r)), u] ∧ Le H H',
    ⟨_, 0, rfl, by omega, rfl, rfl, rfl, (congrArg (Value.int .i64) (by first | omega | rfl | (simp; done))), op1, (by rw [Nat.zero_mul, fillL_zero]; exact ou), oq, lE⟩, ?_⟩
  rintro n16 σ16 H16 ⟨i, rfl, hiN, g0L16, g2L16, g3L16, g4L16, op1, ou, oq, lE⟩
  have hp := hp0.le lE
  have hvc := hvc0.le lE
  try simp only [g0L16, g2L16, g3L16, g4L16]
  refine ob_i (oq.fa 0) ?_
  refine ob_i (oq.ld 0 rfl) ?_
  refine ob_i (vInt_lss _ _ _) ?_
  refine cnd_d (fun hg17 => ?_) (fun hg17 => ?_)
  · skip
    have ti := hg17
    refine jn_i (fun σ' H' => σ' 0 = p ∧ σ' 2 = p1 ∧ σ' 3 = q ∧ σ' 4 = (.int .i64 ((i : Int))) ∧ Cel H' p1 [(.int .i64 (0)), (.int .i64 (0)), (.slice none 0 0)] ∧ Own eI H' u (fillL r (turG r c l) (c.toNat * r.toNat) ((i + 1) * r.toNat)) ∧ Cel H' q [(.int .i64 (c)), (.int .i64 (r)), u] ∧ Le H H') (fun σ18 H18 hP => ?_) (fun J18 hJ18 => ?_)
    · skip
      obtain ⟨g0L18, g2L18, g3L18, g4L18, op1, ou, oq, lE⟩ := hP
      have hp := hp0.le lE
      have hvc := hvc0.le lE
      try simp only [g2L18, g4L18]
      refine ob_i (vInt_add (by omega) (by omega)) ?_
      exact nxt (c.toNat - (i + 1)) (by omega) ⟨i + 1, rfl, by omega, g0L18, g2L18, g3L18, (congrArg (Value.int .i64) (by first | omega | rfl | (simp; done))), op1, ou, oq, lE⟩
    refine ⟨fun n' σ' H' => ∃ k : Nat, n' = r.toNat - k ∧ k ≤ r.toNat ∧ σ' 0 = p ∧ σ' 2 = p1 ∧ σ' 3 = q ∧ σ' 4 = (.int .i64 ((i : Int))) ∧ σ' 5 = (.int .i64 ((k : Int))) ∧ Cel H' p1 [(.int .i64 (0)), (.int .i64 (0)), (.slice none 0 0)] ∧ Own eI H' u (fillL r (turG r c l) (c.toNat * r.toNat) (i * r.toNat + k)) ∧ Cel H' q [(.int .i64 (c)), (.int .i64 (r)), u] ∧ Le H H',
      ⟨_, 0, rfl, by omega, g0L16, g2L16, g3L16, g4L16, (congrArg (Value.int .i64) (by first | omega | rfl | (simp; done))), op1, ou, oq, lE⟩, ?_⟩
    rintro n19 σ19 H19 ⟨k, rfl, hkN, g0L19, g2L19, g3L19, g4L19, g5L19, op1, ou, oq, lE⟩
    have hp := hp0.le lE
    have hvc := hvc0.le lE
    try simp only [g0L19, g2L19, g3L19, g4L19, g5L19]
    refine ob_i (oq.fa 1) ?_
    refine ob_i (oq.ld 1 rfl) ?_
    refine ob_i (vInt_lss _ _ _) ?_
    refine cnd_d (fun hg20 => ?_) (fun hg20 => ?_)
    · skip
      have tk := hg20
      have x1 := ix_lt (a := (i : Int)) (b := (k : Int)) (r := c) (c := r) (by omega) (by omega) (by omega) (by omega)
      have x3 := fillL_len (c := r) (g := turG r c l) (rr := c) (cc := r) (t := i * r.toNat + k) (by omega) (by omega)
      have x2 := ix_lt (a := r - 1 - (k : Int)) (b := (i : Int)) (r := r) (c := c) (by omega) (by omega) (by omega) (by omega)
      refine ob_i (oq.fa 2) ?_
      refine ob_i (oq.ld 2 rfl) ?_
      refine ob_i (oq.fa 1) ?_
      refine ob_i (oq.ld 1 rfl) ?_
      refine ob_i (vInt_mul (by omega) (by omega)) ?_
      refine ob_i (vInt_add (by omega) (by omega)) ?_
      refine ob_i (hp.nilC) ?_
      refine ob_i (hp.fa 2) ?_
      refine ob_i (hp.ld 2 rfl) ?_
      refine ob_i (hp.nilC) ?_
      refine ob_i (hp.fa 0) ?_
      refine ob_i (hp.ld 0 rfl) ?_
      refine ob_i (vInt_sub (by omega) (by omega)) ?_
      refine ob_i (vInt_sub (by omega) (by omega)) ?_
      refine ob_i (hp.nilC) ?_
      refine ob_i (hp.fa 1) ?_
      refine ob_i (hp.ld 1 rfl) ?_
      refine ob_i (vInt_mul (by omega) (by omega)) ?_
      refine ob_i (vInt_add (by omega) (by omega)) ?_
      refine ob_i (hvc.ix (by omega) (by omega)) ?_
      refine ob_i (hvc.ld 0 (by omega) (by omega)) ?_
      refine ob_i (ou.sl.ix (by omega) (by omega)) ?_
      refine ou.st (x := at_ 0 (l) ((((r - 1) - (k : Int)) * c) + (i : Int))) (by omega) (by omega) rfl rfl (fun H21 ou off22 => ?_)
      replace op1 := op1.off off22 ap1Xu
      replace oq := oq.off off22 auXq.symm
      replace hp := hp0.le (off22.le lE nu)
      replace hvc := hvc0.le (off22.le lE nu)
      replace lE := off22.le lE nu
      refine ob_i (vInt_add (by omega) (by omega)) ?_
      replace ou : Own eI H21 u (fillL r (turG r c l) (c.toNat * r.toNat) (i * r.toNat + (k + 1))) := by rw [← Nat.add_assoc, ← fillL_set (c := r) (g := turG r c l) (i := (i : Int)) (k := (k : Int)) (by omega) (by omega) (by omega) (cast_ix (by omega)) (by omega)]; exact ou
      exact nxt (r.toNat - (k + 1)) (by omega) ⟨k + 1, rfl, by omega, g0L19, g2L19, g3L19, g4L19, (congrArg (Value.int .i64) (by first | omega | rfl | (simp; done))), op1, ou, oq, lE⟩
    · skip
      have tk := hg20
      rw [show i * r.toNat + k = (i + 1) * r.toNat by rw [Nat.add_mul, Nat.one_mul]; omega] at ou
      exact hJ18 _ _ ⟨g0L19, g2L19, g3L19, g4L19, op1, ou, oq, lE⟩
  · skip
    have ti := hg17
    rw [fillL_end (by rw [show i = c.toNat by omega]; exact Nat.le_refl _)] at ou
    exact hJ13 _ _ ⟨g2L16, g3L16, op1, ou, oq, lE⟩
theorem C.spec_l05Mirror {p vc : Value} {r c : Int} {l : List Int}  {H : Hp} {K : Value → Hp → Prop} (hp0 : Cel H p [(.int .i64 (r)), (.int .i64 (c)), vc]) (hvc0 : Sl eI H vc l) (hf : fieldN 1 r c l)
    (hk : ∀ u1 H', Own eI H' u1 (mirL r c l) → Nw H u1 → Le H H' → K (.agg #[(.int .i64 (r)), (.int .i64 (c)), u1]) H') : HT prg I.spec_l05Mirror [p].toArray H K := by
  have lE := Le.refl H
  have hp := hp0
  have hvc := hvc0
  refine R.spec_l05Mirror ?_
  unfold F.spec_l05Mirror
  have hs := hf.1
  have hl := hf.2.1
  have q1 := hs.1
  have q2 := hs.2
  have qm := sidesF_mul hs
  refine nw_i (fun p1 H2 op1 nn3 le4 => ?_)
  have np1 : Nw H p1 := nn3.le lE
  replace hp := hp.le le4
  replace hvc := hvc.le le4
  replace lE := lE.trans le4
  replace op1 : Cel H2 p1 [(.int .i64 (0)), (.int .i64 (0)), (.slice none 0 0)] := op1
  refine ob_i (hp.nilC) ?_
  refine ob_i (hp.fa 0) ?_
  refine ob_i (hp.ld 0 rfl) ?_
  refine ob_i (hp.nilC) ?_
  refine ob_i (hp.fa 1) ?_
  refine ob_i (hp.ld 1 rfl) ?_
  refine C.spec_l04New (by first | omega | assumption) (by first | omega | assumption) (by first | omega | assumption) (by first | omega | assumption) (fun  u H5 ou nn7  le6 => ?_)
  have ap1Xu : Apart p1 u := op1.apart nn7
  have nu : Nw H u := nn7.le lE
  replace op1 := op1.le le6
  replace hp := hp.le le6
  replace hvc := hvc.le le6
  replace lE := lE.trans le6
  refine ⟨le6, ?_⟩
  refine nw_i (fun q H8 oq nn9 le10 => ?_)
  have ap1Xq : Apart p1 q := op1.apart nn9
  have auXq : Apart u q := ou.apart nn9
  have nq : Nw H q := nn9.le lE
  replace op1 := op1.le le10
  replace ou := ou.le le10
  replace hp := hp.le le10
  replace hvc := hvc.le le10
  replace lE := lE.trans le10
  replace oq : Cel H8 q [(.int .i64 (0)), (.int .i64 (0)), (.slice none 0 0)] := oq
  refine oq.stn (ws := [(.int .i64 (r)), (.int .i64 (c)), u]) rfl rfl (oc1 rfl (oc1 rfl (oc1 ou.one oc0))) (fun H11 oq off12 => ?_)
  replace op1 := op1.off off12 ap1Xq
  replace ou := ou.off off12 auXq
  replace hp := hp0.le (off12.le lE nq)
  replace hvc := hvc0.le (off12.le lE nq)
  replace lE := off12.le lE nq
  replace oq : Cel H11 q [(.int .i64 (r)), (.int .i64 (c)), u] := oq
  refine jn_i (fun σ' H' => σ' 2 = p1 ∧ σ' 3 = q ∧ Cel H' p1 [(.int .i64 (0)), (.int .i64 (0)), (.slice none 0 0)] ∧ Own eI H' u (mkL c (mirG c l) (r.toNat * c.toNat)) ∧ Cel H' q [(.int .i64 (r)), (.int .i64 (c)), u] ∧ Le H H') (fun σ13 H13 hP => ?_) (fun J13 hJ13 => ?_)
  · skip
    obtain ⟨g2L13, g3L13, op1, ou, oq, lE⟩ := hP
    have hp := hp0.le lE
    have hvc := hvc0.le lE
    try simp only [g2L13, g3L13]
    refine ob_i (oq.ldn rfl) ?_
    refine op1.stn (ws := [(.int .i64 (r)), (.int .i64 (c)), u]) rfl rfl (oc1 rfl (oc1 rfl (oc1 ou.one oc0))) (fun H14 op1 off15 => ?_)
    replace ou := ou.off off15 ap1Xu.symm
    replace oq := oq.off off15 ap1Xq.symm
    replace hp := hp0.le (off15.le lE np1)
    replace hvc := hvc0.le (off15.le lE np1)
    replace lE := off15.le lE np1
    replace op1 : Cel H14 p1 [(.int .i64 (r)), (.int .i64 (c)), u] := op1
    refine ob_i (op1.ldn rfl) ?_
    skip
    exact hk  u _ (Own.cast (show mkL c (mirG c l) (r.toNat * c.toNat) = mirL r c l by rfl) ou) nu  lE
  refine ⟨fun n' σ' H' => ∃ i : Nat, n' = r.toNat - i ∧ i ≤ r.toNat ∧ σ' 0 = p ∧ σ' 2 = p1 ∧ σ' 3 = q ∧ σ' 4 = (.int .i64 ((i : Int))) ∧ Cel H' p1 [(.int .i64 (0)), (.int .i64 (0)), (.slice none 0 0)] ∧ Own eI H' u (fillL c (mirG c l) (r.toNat * c.toNat) (i * c.toNat)) ∧ Cel H' q [(.int .i64 (r)), (.int .i64 (c)), u] ∧ Le H H',
    ⟨_, 0, rfl, by omega, rfl, rfl, rfl, (congrArg (Value.int .i64) (by first | omega | rfl | (simp; done))), op1, (by rw [Nat.zero_mul, fillL_zero]; exact ou), oq, lE⟩, ?_⟩
  rintro n16 σ16 H16 ⟨i, rfl, hiN, g0L16, g2L16, g3L16, g4L16, op1, ou, oq, lE⟩
  have hp := hp0.le lE
  have hvc := hvc0.le lE
  try simp only [g0L16, g2L16, g3L16, g4L16]
  refine ob_i (hp.nilC) ?_
  refine ob_i (hp.fa 0) ?_
  refine ob_i (hp.ld 0 rfl) ?_
  refine ob_i (vInt_lss _ _ _) ?_
  refine cnd_d (fun hg17 => ?_) (fun hg17 => ?_)
  · skip
    have ti := hg17
    refine jn_i (fun σ' H' => σ' 0 = p ∧ σ' 2 = p1 ∧ σ' 3 = q ∧ σ' 4 = (.int .i64 ((i : Int))) ∧ Cel H' p1 [(.int .i64 (0)), (.int .i64 (0)), (.slice none 0 0)] ∧ Own eI H' u (fillL c (mirG c l) (r.toNat * c.toNat) ((i + 1) * c.toNat)) ∧ Cel H' q [(.int .i64 (r)), (.int .i64 (c)), u] ∧ Le H H') (fun σ18 H18 hP => ?_) (fun J18 hJ18 => ?_)
    · skip
      obtain ⟨g0L18, g2L18, g3L18, g4L18, op1, ou, oq, lE⟩ := hP
      have hp := hp0.le lE
      have hvc := hvc0.le lE
      try simp only [g2L18, g4L18]
      refine ob_i (vInt_add (by omega) (by omega)) ?_
      exact nxt (r.toNat - (i + 1)) (by omega) ⟨i + 1, rfl, by omega, g0L18, g2L18, g3L18, (congrArg (Value.int .i64) (by first | omega | rfl | (simp; done))), op1, ou, oq, lE⟩
    refine ⟨fun n' σ' H' => ∃ k : Nat, n' = c.toNat - k ∧ k ≤ c.toNat ∧ σ' 0 = p ∧ σ' 2 = p1 ∧ σ' 3 = q ∧ σ' 4 = (.int .i64 ((i : Int))) ∧ σ' 5 = (.int .i64 ((k : Int))) ∧ Cel H' p1 [(.int .i64 (0)), (.int .i64 (0)), (.slice none 0 0)] ∧ Own eI H' u (fillL c (mirG c l) (r.toNat * c.toNat) (i * c.toNat + k)) ∧ Cel H' q [(.int .i64 (r)), (.int .i64 (c)), u] ∧ Le H H',
      ⟨_, 0, rfl, by omega, g0L16, g2L16, g3L16, g4L16, (congrArg (Value.int .i64) (by first | omega | rfl | (simp; done))), op1, ou, oq, lE⟩, ?_⟩
    rintro n19 σ19 H19 ⟨k, rfl, hkN, g0L19, g2L19, g3L19, g4L19, g5L19, op1, ou, oq, lE⟩
    have hp := hp0.le lE
    have hvc := hvc0.le lE
    try simp only [g0L19, g2L19, g3L19, g4L19, g5L19]
    refine ob_i (hp.nilC) ?_
    refine ob_i (hp.fa 1) ?_
    refine ob_i (hp.ld 1 rfl) ?_
    refine ob_i (vInt_lss _ _ _) ?_
    refine cnd_d (fun hg20 => ?_) (fun hg20 => ?_)
    · skip
      have tk := hg20
      have x1 := ix_lt (a := (i : Int)) (b := (k : Int)) (r := r) (c := c) (by omega) (by omega) (by omega) (by omega)
      have x3 := fillL_len (c := c) (g := mirG c l) (rr := r) (cc := c) (t := i * c.toNat + k) (by omega) (by omega)
      have eJ : ((i : Int) + 1) * c = (i : Int) * c + c := by rw [Int.add_mul, Int.one_mul]
      have x2 := ix_lt (a := (i : Int)) (b := c - 1 - (k : Int)) (r := r) (c := c) (by omega) (by omega) (by omega) (by omega)
      refine ob_i (oq.fa 2) ?_
      refine ob_i (oq.ld 2 rfl) ?_
      refine ob_i (hp.nilC) ?_
      refine ob_i (hp.fa 1) ?_
      refine ob_i (hp.ld 1 rfl) ?_
      refine ob_i (vInt_mul (by omega) (by omega)) ?_
      refine ob_i (vInt_add (by omega) (by omega)) ?_
      refine ob_i (hp.nilC) ?_
      refine ob_i (hp.fa 2) ?_
      refine ob_i (hp.ld 2 rfl) ?_
      refine ob_i (vInt_add (by omega) (by omega)) ?_
      refine ob_i (hp.nilC) ?_
      refine ob_i (hp.fa 1) ?_
      refine ob_i (hp.ld 1 rfl) ?_
      refine ob_i (vInt_mul (by omega) (by omega)) ?_
      refine ob_i (vInt_sub (by omega) (by omega)) ?_
      refine ob_i (vInt_sub (by omega) (by omega)) ?_
      refine ob_i (hvc.ix (by omega) (by omega)) ?_
      refine ob_i (hvc.ld 0 (by omega) (by omega)) ?_
      refine ob_i (ou.sl.ix (by omega) (by omega)) ?_
      refine ou.st (x := at_ 0 (l) (((((i : Int) + 1) * c) - 1) - (k : Int))) (by omega) (by omega) rfl rfl (fun H21 ou off22 => ?_)
      replace op1 := op1.off off22 ap1Xu
      replace oq := oq.off off22 auXq.symm
      replace hp := hp0.le (off22.le lE nu)
      replace hvc := hvc0.le (off22.le lE nu)
      replace lE := off22.le lE nu
      refine ob_i (vInt_add (by omega) (by omega)) ?_
      rw [show ((i : Int) + 1) * c - 1 - (k : Int) = (i : Int) * c + (c - 1 - (k : Int)) by omega] at ou
      replace ou : Own eI H21 u (fillL c (mirG c l) (r.toNat * c.toNat) (i * c.toNat + (k + 1))) := by rw [← Nat.add_assoc, ← fillL_set (c := c) (g := mirG c l) (i := (i : Int)) (k := (k : Int)) (by omega) (by omega) (by omega) (cast_ix (by omega)) (by omega)]; exact ou
      exact nxt (c.toNat - (k + 1)) (by omega) ⟨k + 1, rfl, by omega, g0L19, g2L19, g3L19, g4L19, (congrArg (Value.int .i64) (by first | omega | rfl | (simp; done))), op1, ou, oq, lE⟩
    · skip
      have tk := hg20
      rw [show i * c.toNat + k = (i + 1) * c.toNat by rw [Nat.add_mul, Nat.one_mul]; omega] at ou
      exact hJ18 _ _ ⟨g0L19, g2L19, g3L19, g4L19, op1, ou, oq, lE⟩
  · skip
    have ti := hg17
    rw [fillL_end (by rw [show i = r.toNat by omega]; exact Nat.le_refl _)] at ou
    exact hJ13 _ _ ⟨g2L16, g3L16, op1, ou, oq, lE⟩
theorem C.impl_Field_right_1 {p vc : Value} {i k r c : Int} {l : List Int}  {H : Hp} {K : Value → Hp → Prop} (hp0 : Cel H p [(.int .i64 (r)), (.int .i64 (c)), vc]) (hvc0 : Sl eI H vc l) (hf : fieldN 1 r c l) (i0 : 0 ≤ i) (j0 : 0 ≤ k) (i1 : i < c) (j1 : k < r)
    (hk : ∀ H', Le H H' → K (.int .i64 (turG r c l i k)) H') : HT prg I.impl_Field_right_1 [(.int .i64 (i)), (.int .i64 (k)), p].toArray H K := by
  have lE := Le.refl H
  have hp := hp0
  have hvc := hvc0
  refine R.impl_Field_right_1 ?_
  unfold F.impl_Field_right_1
  have hs := hf.1
  have hl := hf.2.1
  have q1 := hs.1
  have q2 := hs.2
  have qm := sidesF_mul hs
  have x2 := ix_lt (a := r - 1 - k) (b := i) (r := r) (c := c) (by omega) (by omega) (by omega) (by omega)
  refine ob_i (hp.ldn rfl) ?_
  refine ob_i (hp.fa 0) ?_
  refine ob_i (hp.ld 0 rfl) ?_
  refine ob_i (vInt_sub (by omega) (by omega)) ?_
  refine ob_i (vInt_sub (by omega) (by omega)) ?_
  refine C.impl_Field_at hvc (by first | omega | assumption) (by first | omega | assumption) (by first | omega | assumption) (by first | omega | assumption) (by first | omega | assumption) (fun   H1    le2 => ?_)
  replace hp := hp.le le2
  replace hvc := hvc.le le2
  replace lE := lE.trans le2
  skip
  exact keq (K := K) (by rw [show ((at_ 0 l (((r - 1) - k) * c + i)) : Int) = (turG r c l i k) from by rfl]) (hk   _    lE)
theorem C.impl_Field_mirrored_1 {p vc : Value} {i k r c : Int} {l : List Int}  {H : Hp} {K : Value → Hp → Prop} (hp0 : Cel H p [(.int .i64 (r)), (.int .i64 (c)), vc]) (hvc0 : Sl eI H vc l) (hf : fieldN 1 r c l) (i0 : 0 ≤ i) (j0 : 0 ≤ k) (i1 : i < r) (j1 : k < c)
    (hk : ∀ H', Le H H' → K (.int .i64 (mirG c l i k)) H') : HT prg I.impl_Field_mirrored_1 [(.int .i64 (i)), (.int .i64 (k)), p].toArray H K := by
  have lE := Le.refl H
  have hp := hp0
  have hvc := hvc0
  refine R.impl_Field_mirrored_1 ?_
  unfold F.impl_Field_mirrored_1
  have hs := hf.1
  have hl := hf.2.1
  have q1 := hs.1
  have q2 := hs.2
  have qm := sidesF_mul hs
  have x2 := ix_lt (a := i) (b := c - 1 - k) (r := r) (c := c) (by omega) (by omega) (by omega) (by omega)
  refine ob_i (hp.ldn rfl) ?_
  refine ob_i (hp.fa 1) ?_
  refine ob_i (hp.ld 1 rfl) ?_
  refine ob_i (vInt_sub (by omega) (by omega)) ?_
  refine ob_i (vInt_sub (by omega) (by omega)) ?_
  refine C.impl_Field_at hvc (by first | omega | assumption) (by first | omega | assumption) (by first | omega | assumption) (by first | omega | assumption) (by first | omega | assumption) (fun   H1    le2 => ?_)
  replace hp := hp.le le2
  replace hvc := hvc.le le2
  replace lE := lE.trans le2
  skip
  exact keq (K := K) (by rw [show ((at_ 0 l (i * c + ((c - 1) - k))) : Int) = (mirG c l i k) from by rfl]) (hk   _    lE)
theorem C.impl_Field_right {vc : Value} {r c : Int} {l : List Int}  {H : Hp} {K : Value → Hp → Prop} (hvc0 : Sl eI H vc l) (hf : fieldN 1 r c l)
    (hk : ∀ u1 H', Own eI H' u1 (turL r c l) → Nw H u1 → Le H H' → K (.agg #[(.int .i64 (c)), (.int .i64 (r)), u1]) H') : HT prg I.impl_Field_right [(.agg #[(.int .i64 (r)), (.int .i64 (c)), vc])].toArray H K := by
  have lE := Le.refl H
  have hvc := hvc0
  refine R.impl_Field_right ?_
  unfold F.impl_Field_right
  have hs := hf.1
  have hl := hf.2.1
  have q1 := hs.1
  have q2 := hs.2
  have qm := sidesF_mul hs
  refine nw_i (fun p1 H2 op1 nn3 le4 => ?_)
  have np1 : Nw H p1 := nn3.le lE
  replace hvc := hvc.le le4
  replace lE := lE.trans le4
  replace op1 : Cel H2 p1 [(.int .i64 (r)), (.int .i64 (c)), vc] := op1
  refine nw_i (fun p5 H6 op5 nn7 le8 => ?_)
  have ap1Xp5 : Apart p1 p5 := op1.apart nn7
  have np5 : Nw H p5 := nn7.le lE
  replace op1 := op1.le le8
  replace hvc := hvc.le le8
  replace lE := lE.trans le8
  replace op5 : Cel H6 p5 [(.int .i64 (0)), (.int .i64 (0)), (.slice none 0 0)] := op5
  refine ob_i (op1.fa 1) ?_
  refine ob_i (op1.ld 1 rfl) ?_
  refine ob_i (op1.fa 0) ?_
  refine ob_i (op1.ld 0 rfl) ?_
  refine C.impl_madeField (g := turG r c l) (by omega) (by omega) (by omega) (by omega) (fun H13c i13 k13 Z leZ hi13 hk13 hZ => ?_) (fun u9 H10 ou9 nn11 le12 => ?_)
  · refine ⟨by kernel_rfl, ?_⟩
    replace op1 := op1.le leZ
    replace op5 := op5.le leZ
    replace hvc := hvc.le leZ
    replace lE := lE.trans leZ
    have lZ := Le.refl H13c
    refine C.impl_Field_right_1 op1 hvc (by first | omega | assumption) (by first | omega | assumption) (by first | omega | assumption) (by first | omega | assumption) (by first | omega | assumption) (fun   H14    le15 => ?_)
    replace op1 := op1.le le15
    replace op5 := op5.le le15
    replace hvc := hvc.le le15
    replace lE := lE.trans le15
    replace lZ := lZ.trans le15
    exact keq (K := Z) (by rw [show ((turG r c l (i13 : Int) (k13 : Int)) : Int) = (turG r c l) (i13 : Int) (k13 : Int) from rfl]) (hZ _ lZ)
  have ap1Xu9 : Apart p1 u9 := op1.apart nn11
  have ap5Xu9 : Apart p5 u9 := op5.apart nn11
  have nu9 : Nw H u9 := nn11.le lE
  replace op1 := op1.le le12
  replace op5 := op5.le le12
  replace hvc := hvc.le le12
  replace lE := lE.trans le12
  refine op5.stn (ws := [(.int .i64 (c)), (.int .i64 (r)), u9]) rfl rfl (oc1 rfl (oc1 rfl (oc1 ou9.one oc0))) (fun H16 op5 off17 => ?_)
  replace op1 := op1.off off17 ap1Xp5
  replace ou9 := ou9.off off17 ap5Xu9.symm
  replace hvc := hvc0.le (off17.le lE np5)
  replace lE := off17.le lE np5
  replace op5 : Cel H16 p5 [(.int .i64 (c)), (.int .i64 (r)), u9] := op5
  refine ob_i (op5.ldn rfl) ?_
  skip
  exact hk  u9 _ (Own.cast (show mkL (r) (turG r c l) ((c : Int).toNat * (r : Int).toNat) = turL r c l by rfl) ou9) nu9  lE
theorem C.impl_Field_mirrored {vc : Value} {r c : Int} {l : List Int}  {H : Hp} {K : Value → Hp → Prop} (hvc0 : Sl eI H vc l) (hf : fieldN 1 r c l)
    (hk : ∀ u1 H', Own eI H' u1 (mirL r c l) → Nw H u1 → Le H H' → K (.agg #[(.int .i64 (r)), (.int .i64 (c)), u1]) H') : HT prg I.impl_Field_mirrored [(.agg #[(.int .i64 (r)), (.int .i64 (c)), vc])].toArray H K := by
  have lE := Le.refl H
  have hvc := hvc0
  refine R.impl_Field_mirrored ?_
  unfold F.impl_Field_mirrored
  have hs := hf.1
  have hl := hf.2.1
  have q1 := hs.1
  have q2 := hs.2
  have qm := sidesF_mul hs
  refine nw_i (fun p1 H2 op1 nn3 le4 => ?_)
  have np1 : Nw H p1 := nn3.le lE
  replace hvc := hvc.le le4
  replace lE := lE.trans le4
  replace op1 : Cel H2 p1 [(.int .i64 (r)), (.int .i64 (c)), vc] := op1
  refine nw_i (fun p5 H6 op5 nn7 le8 => ?_)
  have ap1Xp5 : Apart p1 p5 := op1.apart nn7
  have np5 : Nw H p5 := nn7.le lE
  replace op1 := op1.le le8
  replace hvc := hvc.le le8
  replace lE := lE.trans le8
  replace op5 : Cel H6 p5 [(.int .i64 (0)), (.int .i64 (0)), (.slice none 0 0)] := op5
  refine ob_i (op1.fa 0) ?_
  refine ob_i (op1.ld 0 rfl) ?_
  refine ob_i (op1.fa 1) ?_
  refine ob_i (op1.ld 1 rfl) ?_
  refine C.impl_madeField (g := mirG c l) (by omega) (by omega) (by omega) (by omega) (fun H13c i13 k13 Z leZ hi13 hk13 hZ => ?_) (fun u9 H10 ou9 nn11 le12 => ?_)
  · refine ⟨by kernel_rfl, ?_⟩
    replace op1 := op1.le leZ
    replace op5 := op5.le leZ
    replace hvc := hvc.le leZ
    replace lE := lE.trans leZ
    have lZ := Le.refl H13c
    refine C.impl_Field_mirrored_1 op1 hvc (by first | omega | assumption) (by first | omega | assumption) (by first | omega | assumption) (by first | omega | assumption) (by first | omega | assumption) (fun   H14    le15 => ?_)
    replace op1 := op1.le le15
    replace op5 := op5.le le15
    replace hvc := hvc.le le15
    replace lE := lE.trans le15
    replace lZ := lZ.trans le15
    exact keq (K := Z) (by rw [show ((mirG c l (i13 : Int) (k13 : Int)) : Int) = (mirG c l) (i13 : Int) (k13 : Int) from rfl]) (hZ _ lZ)
  have ap1Xu9 : Apart p1 u9 := op1.apart nn11
  have ap5Xu9 : Apart p5 u9 := op5.apart nn11
  have nu9 : Nw H u9 := nn11.le lE
  replace op1 := op1.le le12
  replace op5 := op5.le le12
  replace hvc := hvc.le le12
  replace lE := lE.trans le12
  refine op5.stn (ws := [(.int .i64 (r)), (.int .i64 (c)), u9]) rfl rfl (oc1 rfl (oc1 rfl (oc1 ou9.one oc0))) (fun H16 op5 off17 => ?_)
  replace op1 := op1.off off17 ap1Xp5
  replace ou9 := ou9.off off17 ap5Xu9.symm
  replace hvc := hvc0.le (off17.le lE np5)
  replace lE := off17.le lE np5
  replace op5 : Cel H16 p5 [(.int .i64 (r)), (.int .i64 (c)), u9] := op5
  refine ob_i (op5.ldn rfl) ?_
  skip
  exact hk  u9 _ (Own.cast (show mkL (c) (mirG c l) ((r : Int).toNat * (c : Int).toNat) = mirL r c l by rfl) ou9) nu9  lE
theorem C.impl_copyField {vc : Value} {r c : Int} {l : List Int}  {H : Hp} {K : Value → Hp → Prop} (hvc0 : Sl eI H vc l) (hl : l.length ≤ 68719476736)
    (hk : ∀ u1 H', Own eI H' u1 l → Nw H u1 → Le H H' → K (.agg #[(.int .i64 (r)), (.int .i64 (c)), u1]) H') : HT prg I.impl_copyField [(.agg #[(.int .i64 (r)), (.int .i64 (c)), vc])].toArray H K := by
  have lE := Le.refl H
  have hvc := hvc0
  refine R.impl_copyField ?_
  unfold F.impl_copyField
  refine nw_i (fun p1 H2 op1 nn3 le4 => ?_)
  have np1 : Nw H p1 := nn3.le lE
  replace hvc := hvc.le le4
  replace lE := lE.trans le4
  replace op1 : Cel H2 p1 [(.int .i64 (r)), (.int .i64 (c)), vc] := op1
  refine nw_i (fun p5 H6 op5 nn7 le8 => ?_)
  have ap1Xp5 : Apart p1 p5 := op1.apart nn7
  have np5 : Nw H p5 := nn7.le lE
  replace op1 := op1.le le8
  replace hvc := hvc.le le8
  replace lE := lE.trans le8
  replace op5 : Cel H6 p5 [(.int .i64 (0)), (.int .i64 (0)), (.slice none 0 0)] := op5
  refine ob_i (op1.fa 2) ?_
  refine ob_i (op1.ld 2 rfl) ?_
  refine C.slices_Clone_int64Zint64 hvc (by first | omega | assumption) (fun  u11 H9 ou11 nn12  le10 => ?_)
  have ap1Xu11 : Apart p1 u11 := op1.apart nn12
  have ap5Xu11 : Apart p5 u11 := op5.apart nn12
  have nu11 : Nw H u11 := nn12.le lE
  replace op1 := op1.le le10
  replace op5 := op5.le le10
  replace hvc := hvc.le le10
  replace lE := lE.trans le10
  refine ob_i (op1.fa 2) ?_
  refine op1.st (by simp) ou11.one ou11.cells (fun H13 op1 off14 => ?_)
  replace op5 := op5.off off14 ap1Xp5.symm
  replace ou11 := ou11.off off14 ap1Xu11.symm
  replace hvc := hvc0.le (off14.le lE np1)
  replace lE := off14.le lE np1
  replace op1 : Cel H13 p1 [(.int .i64 (r)), (.int .i64 (c)), u11] := op1
  refine ob_i (op1.ldn rfl) ?_
  refine op5.stn (ws := [(.int .i64 (r)), (.int .i64 (c)), u11]) rfl rfl (oc1 rfl (oc1 rfl (oc1 ou11.one oc0))) (fun H15 op5 off16 => ?_)
  replace op1 := op1.off off16 ap1Xp5
  replace ou11 := ou11.off off16 ap5Xu11.symm
  replace hvc := hvc0.le (off16.le lE np5)
  replace lE := off16.le lE np5
  replace op5 : Cel H15 p5 [(.int .i64 (r)), (.int .i64 (c)), u11] := op5
  refine ob_i (op5.ldn rfl) ?_
  skip
  exact hk  u11 _ ou11 nu11  lE
theorem C.spec_l05Images {p vc : Value} {r c : Int} {l : List Int}  {H : Hp} {K : Value → Hp → Prop} (hp0 : Cel H p [(.int .i64 (r)), (.int .i64 (c)), vc]) (hvc0 : Sl eI H vc l) (hf : fieldN 1 r c l)
    (hk : ∀ u1 Su1 H', Fam H' u1 Su1 (imgs (⟨r, c, l⟩ : FdL) 8) → Nws H Su1 → Le H H' → K u1 H') : HT prg I.spec_l05Images [p].toArray H K := by
  have lE := Le.refl H
  have hp := hp0
  have hvc := hvc0
  refine R.spec_l05Images ?_
  unfold F.spec_l05Images
  have hs := hf.1
  have hl := hf.2.1
  have q1 := hs.1
  have q2 := hs.2
  have qm := sidesF_mul hs
  refine bSE_fam (fun u1 Su1 H2 ou1 nn3 le5 => ?_)
  have nu1 : Nws H Su1 := nn3.le lE
  replace hp := hp.le le5
  replace hvc := hvc.le le5
  replace lE := lE.trans le5
  refine ob_i (hp.nilC) ?_
  refine ob_i (hp.fa 0) ?_
  refine ob_i (hp.ld 0 rfl) ?_
  refine ob_i (hp.nilC) ?_
  refine ob_i (hp.fa 1) ?_
  refine ob_i (hp.ld 1 rfl) ?_
  refine C.spec_l05Cut hp hvc (by first | omega | assumption) (by first | omega | assumption) (by first | omega | assumption) (by first | omega | assumption) (by first | omega | assumption) (by first | omega | assumption) (by first | omega | assumption) (by first | omega | assumption) (fun  u8 H6 ou8 nn9  le7 => ?_)
  have au1Xu8 : Apt Su1 u8 := Apt.of_nw ou1.known nn9
  have nu8 : Nw H u8 := nn9.le lE
  replace ou1 := ou1.le le7
  replace hp := hp.le le7
  replace hvc := hvc.le le7
  replace lE := lE.trans le7
  refine ⟨le7, ?_⟩
  refine nw_i (fun q H10 oq nn11 le12 => ?_)
  have au1Xq : Apt Su1 q := Apt.of_nw ou1.known nn11
  have au8Xq : Apart u8 q := ou8.apart nn11
  have nq : Nw H q := nn11.le lE
  replace ou1 := ou1.le le12
  replace ou8 := ou8.le le12
  replace hp := hp.le le12
  replace hvc := hvc.le le12
  replace lE := lE.trans le12
  replace oq : Cel H10 q [(.int .i64 (0)), (.int .i64 (0)), (.slice none 0 0)] := oq
  refine oq.stn (ws := [(.int .i64 (r)), (.int .i64 (c)), u8]) rfl rfl (oc1 rfl (oc1 rfl (oc1 ou8.one oc0))) (fun H13 oq off14 => ?_)
  replace ou1 := ou1.off off14 au1Xq
  replace ou8 := ou8.off off14 au8Xq
  replace hp := hp0.le (off14.le lE nq)
  replace hvc := hvc0.le (off14.le lE nq)
  replace lE := off14.le lE nq
  replace oq : Cel H13 q [(.int .i64 (r)), (.int .i64 (c)), u8] := oq
  refine jn_i (fun σ' H' => ∃ u, ∃ Su, ∃ g, σ' 3 = u ∧ Cel H' q [(.int .i64 ((imB (⟨r, c, l⟩ : FdL) 2).r)), (.int .i64 ((imB (⟨r, c, l⟩ : FdL) 2).c)), g] ∧ Fam H' u Su (imgs (⟨r, c, l⟩ : FdL) 8) ∧ Own eI H' g ((imB (⟨r, c, l⟩ : FdL) 2).l) ∧ Nws H Su ∧ Apt q Su ∧ Nw H g ∧ Apart q g ∧ Apt Su g ∧ Le H H') (fun σ15 H15 hP => ?_) (fun J15 hJ15 => ?_)
  · skip
    obtain ⟨u, Su, g, g3L15, oq, ou, og, nu, aqXu, ng, aqXg, auXg, lE⟩ := hP
    have hp := hp0.le lE
    have hvc := hvc0.le lE
    try simp only [g3L15]
    skip
    exact hk  u _ _ ou nu  lE
  refine ⟨fun n' σ' H' => ∃ i : Nat, n' = 2 - i ∧ i ≤ 2 ∧ ∃ u, ∃ Su, ∃ g, σ' 0 = p ∧ σ' 3 = u ∧ σ' 4 = q ∧ σ' 5 = (.int .i64 ((i : Int))) ∧ Cel H' q [(.int .i64 ((imB (⟨r, c, l⟩ : FdL) i).r)), (.int .i64 ((imB (⟨r, c, l⟩ : FdL) i).c)), g] ∧ Fam H' u Su (imgs (⟨r, c, l⟩ : FdL) (4 * i)) ∧ Own eI H' g ((imB (⟨r, c, l⟩ : FdL) i).l) ∧ Nws H Su ∧ Apt q Su ∧ Nw H g ∧ Apart q g ∧ Apt Su g ∧ Le H H',
    ⟨_, 0, rfl, by omega, u1, _, u8, rfl, rfl, rfl, (congrArg (Value.int .i64) (by first | omega | rfl | (simp; done))), oq, (Fam.cast (by first | rfl | (simp; done)) ou1), (Own.cast (by exact cut_all (by omega) (by omega) hl) ou8), nu1, au1Xq.symm, nu8, au8Xq.symm, au1Xu8, lE⟩, ?_⟩
  rintro n16 σ16 H16 ⟨i, rfl, hiN, u, Su, g, g0L16, g3L16, g4L16, g5L16, oq, ou, og, nu, aqXu, ng, aqXg, auXg, lE⟩
  have hp := hp0.le lE
  have hvc := hvc0.le lE
  try simp only [g0L16, g3L16, g4L16, g5L16]
  have hB : okF (imB (⟨r, c, l⟩ : FdL) i) := imB_ok (f := (⟨r, c, l⟩ : FdL)) hf i
  have hiL := imgs_len (⟨r, c, l⟩ : FdL) (4 * i)
  refine ob_i (vInt_lss _ _ _) ?_
  refine cnd_d (fun hg17 => ?_) (fun hg17 => ?_)
  · skip
    have ti := hg17
    refine jn_i (fun σ' H' => ∃ u, ∃ Su, ∃ g, σ' 0 = p ∧ σ' 3 = u ∧ σ' 4 = q ∧ σ' 5 = (.int .i64 ((i : Int))) ∧ Cel H' q [(.int .i64 ((imB (⟨r, c, l⟩ : FdL) (i + 1)).r)), (.int .i64 ((imB (⟨r, c, l⟩ : FdL) (i + 1)).c)), g] ∧ Fam H' u Su (imgs (⟨r, c, l⟩ : FdL) (4 * (i + 1))) ∧ Own eI H' g ((imB (⟨r, c, l⟩ : FdL) (i + 1)).l) ∧ Nws H Su ∧ Apt q Su ∧ Nw H g ∧ Apart q g ∧ Apt Su g ∧ Le H H') (fun σ18 H18 hP => ?_) (fun J18 hJ18 => ?_)
    · skip
      obtain ⟨u, Su, g, g0L18, g3L18, g4L18, g5L18, oq, ou, og, nu, aqXu, ng, aqXg, auXg, lE⟩ := hP
      have hp := hp0.le lE
      have hvc := hvc0.le lE
      try simp only [g5L18]
      refine ob_i (vInt_add (by omega) (by omega)) ?_
      exact nxt (2 - (i + 1)) (by omega) ⟨i + 1, rfl, by omega, u, _, g, g0L18, g3L18, g4L18, (congrArg (Value.int .i64) (by first | omega | rfl | (simp; done))), oq, ou, og, nu, aqXu, ng, aqXg, auXg, lE⟩
    refine jn_i (fun σ' H' => ∃ u, ∃ Su, ∃ g, σ' 0 = p ∧ σ' 3 = u ∧ σ' 4 = q ∧ σ' 5 = (.int .i64 ((i : Int))) ∧ Cel H' q [(.int .i64 ((imK (imB (⟨r, c, l⟩ : FdL) i) 4).r)), (.int .i64 ((imK (imB (⟨r, c, l⟩ : FdL) i) 4).c)), g] ∧ Fam H' u Su (imgs (⟨r, c, l⟩ : FdL) (4 * (i + 1))) ∧ Own eI H' g ((imK (imB (⟨r, c, l⟩ : FdL) i) 4).l) ∧ Nws H Su ∧ Apt q Su ∧ Nw H g ∧ Apart q g ∧ Apt Su g ∧ Le H H') (fun σ19 H19 hP => ?_) (fun J19 hJ19 => ?_)
    · skip
      obtain ⟨u, Su, g, g0L19, g3L19, g4L19, g5L19, oq, ou, og, nu, aqXu, ng, aqXg, auXg, lE⟩ := hP
      have hp := hp0.le lE
      have hvc := hvc0.le lE
      try simp only [g0L19, g4L19]
      refine C.spec_l05Mirror hp hvc (by first | omega | assumption) (fun  u22 H20 ou22 nn23  le21 => ?_)
      have aqXu22 : Apart q u22 := oq.apart nn23
      have auXu22 : Apt Su u22 := Apt.of_nw ou.known nn23
      have agXu22 : Apart g u22 := og.apart nn23
      have nu22 : Nw H u22 := nn23.le lE
      replace oq := oq.le le21
      replace ou := ou.le le21
      replace og := og.le le21
      replace hp := hp.le le21
      replace hvc := hvc.le le21
      replace lE := lE.trans le21
      refine oq.stn (ws := [(.int .i64 (r)), (.int .i64 (c)), u22]) rfl rfl (oc1 rfl (oc1 rfl (oc1 ou22.one oc0))) (fun H24 oq off25 => ?_)
      replace ou := ou.off off25 aqXu.symm
      replace og := og.off off25 aqXg.symm
      replace ou22 := ou22.off off25 aqXu22.symm
      replace hp := hp0.le (off25.le lE nq)
      replace hvc := hvc0.le (off25.le lE nq)
      replace lE := off25.le lE nq
      replace oq : Cel H24 q [(.int .i64 (r)), (.int .i64 (c)), u22] := oq
      replace ou22 : Own eI H24 u22 (imB (⟨r, c, l⟩ : FdL) (i + 1)).l := ou22
      replace oq : Cel H24 q [(.int .i64 (imB (⟨r, c, l⟩ : FdL) (i + 1)).r), (.int .i64 (imB (⟨r, c, l⟩ : FdL) (i + 1)).c), u22] := oq
      exact hJ18 _ _ ⟨u, _, u22, g0L19, g3L19, g4L19, g5L19, oq, ou, ou22, nu, aqXu, nu22, aqXu22, auXu22, lE⟩
    refine ⟨fun n' σ' H' => ∃ k : Nat, n' = 4 - k ∧ k ≤ 4 ∧ ∃ u, ∃ Su, ∃ g, σ' 0 = p ∧ σ' 3 = u ∧ σ' 4 = q ∧ σ' 5 = (.int .i64 ((i : Int))) ∧ σ' 6 = (.int .i64 ((k : Int))) ∧ Cel H' q [(.int .i64 ((imK (imB (⟨r, c, l⟩ : FdL) i) k).r)), (.int .i64 ((imK (imB (⟨r, c, l⟩ : FdL) i) k).c)), g] ∧ Fam H' u Su (imgs (⟨r, c, l⟩ : FdL) (4 * i + k)) ∧ Own eI H' g ((imK (imB (⟨r, c, l⟩ : FdL) i) k).l) ∧ Nws H Su ∧ Apt q Su ∧ Nw H g ∧ Apart q g ∧ Apt Su g ∧ Le H H',
      ⟨_, 0, rfl, by omega, u, _, g, g0L16, g3L16, g4L16, g5L16, (congrArg (Value.int .i64) (by first | omega | rfl | (simp; done))), oq, (Fam.cast (by first | rfl | (simp; done)) ou), (Own.cast (by first | rfl | (simp; done)) og), nu, aqXu, ng, aqXg, auXg, lE⟩, ?_⟩
    rintro n26 σ26 H26 ⟨k, rfl, hkN, u, Su, g, g0L26, g3L26, g4L26, g5L26, g6L26, oq, ou, og, nu, aqXu, ng, aqXg, auXg, lE⟩
    have hp := hp0.le lE
    have hvc := hvc0.le lE
    try simp only [g3L26, g4L26, g6L26]
    have hK : fieldN 1 (imK (imB (⟨r, c, l⟩ : FdL) i) k).r (imK (imB (⟨r, c, l⟩ : FdL) i) k).c (imK (imB (⟨r, c, l⟩ : FdL) i) k).l := imK_ok hB k
    have lK := fieldN_len hK
    have hiL2 := imgs_len (⟨r, c, l⟩ : FdL) (4 * i + k)
    refine ob_i (vInt_lss _ _ _) ?_
    refine cnd_d (fun hg27 => ?_) (fun hg27 => ?_)
    · skip
      have tk := hg27
      refine ob_i (oq.ldn rfl) ?_
      refine bSE_one (enc := encFv) (x := (⟨(imK (imB (⟨r, c, l⟩ : FdL) i) k).r, (imK (imB (⟨r, c, l⟩ : FdL) i) k).c, g⟩ : Fv)) rfl rfl (by omega) (by omega) rfl (fun u28 H29 ou28 nn30 le32 => ?_) rfl
      have aqXu28 : Apart q u28 := oq.apart nn30
      have auXu28 : Apt Su u28 := Apt.of_nw ou.known nn30
      have agXu28 : Apart g u28 := og.apart nn30
      have nu28 : Nw H u28 := nn30.le lE
      replace oq := oq.le le32
      replace ou := ou.le le32
      replace og := og.le le32
      replace hp := hp.le le32
      replace hvc := hvc.le le32
      replace lE := lE.trans le32
      refine Fam.push ou rfl (ou28.sl encFv_n) og auXg.symm (by omega) (by first | omega | (simp; omega)) (fun u37 Su37 H33 ou37 off34 hb35 hx36 oxg => ?_)
      have aqXu37 : Apt q Su37 := Apt.push oq.known aqXu aqXg hb35
      have au28Xu37 : Apt u28 Su37 := Apt.push ou28.known auXu28.symm agXu28.symm hb35
      have nu37 : Nws H Su37 := Nws.push lE nu ng hb35
      replace oq := oq.offS off34 aqXu
      replace ou28 := ou28.offS off34 auXu28.symm
      replace hp := hp0.le (off34.le lE nu)
      replace hvc := hvc0.le (off34.le lE nu)
      replace lE := off34.le lE nu
      replace og := oxg.ro
      refine C.spec_l05Turn oq og.sl (by first | omega | assumption) (fun  u40 H38 ou40 nn41  le39 => ?_)
      have aqXu40 : Apart q u40 := oq.apart nn41
      have agXu40 : Apart g u40 := og.apart nn41
      have au28Xu40 : Apart u28 u40 := ou28.apart nn41
      have au37Xu40 : Apt Su37 u40 := Apt.of_nw ou37.known nn41
      have nu40 : Nw H u40 := nn41.le lE
      replace oq := oq.le le39
      replace og := og.le le39
      replace ou28 := ou28.le le39
      replace ou37 := ou37.le le39
      replace hp := hp.le le39
      replace hvc := hvc.le le39
      replace lE := lE.trans le39
      refine oq.stn (ws := [(.int .i64 (((imK (imB (⟨r, c, l⟩ : FdL) i) k).c))), (.int .i64 (((imK (imB (⟨r, c, l⟩ : FdL) i) k).r))), u40]) rfl rfl (oc1 rfl (oc1 rfl (oc1 ou40.one oc0))) (fun H42 oq off43 => ?_)
      replace og := og.off off43 aqXg.symm
      replace ou28 := ou28.off off43 aqXu28.symm
      replace ou37 := ou37.off off43 aqXu37.symm
      replace ou40 := ou40.off off43 aqXu40.symm
      replace hp := hp0.le (off43.le lE nq)
      replace hvc := hvc0.le (off43.le lE nq)
      replace lE := off43.le lE nq
      replace oq : Cel H42 q [(.int .i64 (((imK (imB (⟨r, c, l⟩ : FdL) i) k).c))), (.int .i64 (((imK (imB (⟨r, c, l⟩ : FdL) i) k).r))), u40] := oq
      refine ob_i (vInt_add (by omega) (by omega)) ?_
      exact nxt (4 - (k + 1)) (by omega) ⟨k + 1, rfl, by omega, u37, _, u40, g0L26, rfl, g4L26, g5L26, (congrArg (Value.int .i64) (by first | omega | rfl | (simp; done))), oq, (Fam.cast (imgs_succ (⟨r, c, l⟩ : FdL) (by omega)) ou37), ou40, nu37, aqXu37, nu40, aqXu40, au37Xu40, lE⟩
    · skip
      have tk := hg27
      obtain rfl : k = 4 := by omega
      exact hJ19 _ _ ⟨u, _, g, g0L26, g3L26, g4L26, g5L26, oq, ou, og, nu, aqXu, ng, aqXg, auXg, lE⟩
  · skip
    have ti := hg17
    obtain rfl : i = 2 := by omega
    exact hJ15 _ _ ⟨u, _, g, g3L16, oq, ou, og, nu, aqXu, ng, aqXg, auXg, lE⟩
theorem C.impl_Field_images {vc : Value} {r c : Int} {l : List Int}  {H : Hp} {K : Value → Hp → Prop} (hvc0 : Sl eI H vc l) (hf : fieldN 1 r c l)
    (hk : ∀ u1 Su1 H', Fam H' u1 Su1 (imgs (⟨r, c, l⟩ : FdL) 8) → Nws H Su1 → Le H H' → K u1 H') : HT prg I.impl_Field_images [(.agg #[(.int .i64 (r)), (.int .i64 (c)), vc])].toArray H K := by
  have lE := Le.refl H
  have hvc := hvc0
  refine R.impl_Field_images ?_
  unfold F.impl_Field_images
  have hs := hf.1
  have hl := hf.2.1
  have q1 := hs.1
  have q2 := hs.2
  have qm := sidesF_mul hs
  refine nw_i (fun p1 H2 op1 nn3 le4 => ?_)
  have np1 : Nw H p1 := nn3.le lE
  replace hvc := hvc.le le4
  replace lE := lE.trans le4
  replace op1 : Cel H2 p1 [(.int .i64 (r)), (.int .i64 (c)), vc] := op1
  refine bSE_fam (fun u5 Su5 H6 ou5 nn7 le9 => ?_)
  have ap1Xu5 : Apt p1 Su5 := Apt.of_nws op1.known nn7
  have nu5 : Nws H Su5 := nn7.le lE
  replace op1 := op1.le le9
  replace hvc := hvc.le le9
  replace lE := lE.trans le9
  refine jn_i (fun σ' H' => ∃ u, ∃ Su, ∃ g, ∃ h, σ' 3 = u ∧ Cel H' p1 [(.int .i64 (r)), (.int .i64 (c)), vc] ∧ Fam H' u Su (imgs (⟨r, c, l⟩ : FdL) 8) ∧ Own eI H' g (gL (⟨r, c, l⟩ : FdL) 2) ∧ Own eI H' h (hL (⟨r, c, l⟩ : FdL) 2) ∧ Nws H Su ∧ Apt p1 Su ∧ Nw H g ∧ Apart p1 g ∧ Apt Su g ∧ Nw H h ∧ Apart p1 h ∧ Apt Su h ∧ Apart g h ∧ Le H H') (fun σ10 H10 hP => ?_) (fun J10 hJ10 => ?_)
  · skip
    obtain ⟨u, Su, g, h, g3L10, op1, ou, og, oh, nu, ap1Xu, ng, ap1Xg, auXg, nh, ap1Xh, auXh, agXh, lE⟩ := hP
    have hvc := hvc0.le lE
    try simp only [g3L10]
    skip
    exact hk  u _ _ ou nu  lE
  refine ob_i (op1.ldn rfl) ?_
  refine ob_i (op1.ldn rfl) ?_
  refine C.impl_copyField hvc (by first | omega | assumption) (fun  w H11 ow nn13  le12 => ?_)
  have ap1Xw : Apart p1 w := op1.apart nn13
  have au5Xw : Apt Su5 w := Apt.of_nw ou5.known nn13
  have nw : Nw H w := nn13.le lE
  replace op1 := op1.le le12
  replace ou5 := ou5.le le12
  replace hvc := hvc.le le12
  replace lE := lE.trans le12
  refine ⟨le12, ?_⟩
  refine C.impl_Field_mirrored hvc (by first | omega | assumption) (fun  m H14 om nn16  le15 => ?_)
  have ap1Xm : Apart p1 m := op1.apart nn16
  have au5Xm : Apt Su5 m := Apt.of_nw ou5.known nn16
  have awXm : Apart w m := ow.apart nn16
  have nm : Nw H m := nn16.le lE
  replace op1 := op1.le le15
  replace ou5 := ou5.le le15
  replace ow := ow.le le15
  replace hvc := hvc.le le15
  replace lE := lE.trans le15
  refine ⟨le15, ?_⟩
  refine bSE_i (enc := encFv) (n := 3) (l := ([⟨r, c, w⟩, ⟨r, c, m⟩] : List Fv)) (by omega) rfl encFv_n (by kernel_rfl) (fun e H17 oe nn18 le20 => ?_)
  have ap1Xe : Apart p1 e := op1.apart nn18
  have au5Xe : Apt Su5 e := Apt.of_nw ou5.known nn18
  have awXe : Apart w e := ow.apart nn18
  have amXe : Apart m e := om.apart nn18
  have ne : Nw H e := nn18.le lE
  replace op1 := op1.le le20
  replace ou5 := ou5.le le20
  replace ow := ow.le le20
  replace om := om.le le20
  replace hvc := hvc.le le20
  replace lE := lE.trans le20
  refine ob_i (a := .int .i64 2) oe.len ?_
  refine ⟨fun n' σ' H' => ∃ i : Nat, n' = 2 - i ∧ i ≤ 2 ∧ ∃ u, ∃ Su, ∃ g, ∃ h, σ' 3 = u ∧ σ' 11 = e ∧ σ' 12 = (.int .i64 (2)) ∧ σ' 13 = (.int .i64 ((i : Int))) ∧ Cel H' p1 [(.int .i64 (r)), (.int .i64 (c)), vc] ∧ OwnE 3 encFv H' e ([⟨r, c, w⟩, ⟨r, c, m⟩]) ∧ Fam H' u Su (imgs (⟨r, c, l⟩ : FdL) (4 * i)) ∧ Own eI H' g (gL (⟨r, c, l⟩ : FdL) i) ∧ Own eI H' h (hL (⟨r, c, l⟩ : FdL) i) ∧ Nws H Su ∧ Apt p1 Su ∧ Apt e Su ∧ Nw H g ∧ Apart p1 g ∧ Apart e g ∧ Apt Su g ∧ Nw H h ∧ Apart p1 h ∧ Apart e h ∧ Apt Su h ∧ Apart g h ∧ Le H H' ∧ ((i : Int) < 2 → at_ fv0 ([⟨r, c, w⟩, ⟨r, c, m⟩] : List Fv) (i : Int) = ⟨r, c, g⟩) ∧ (i = 0 → h = m),
    ⟨_, 0, rfl, by omega, u5, _, w, m, rfl, rfl, rfl, (congrArg (Value.int .i64) (by first | omega | rfl | (simp; done))), op1, oe, (Fam.cast (by first | rfl | (simp; done)) ou5), (Own.cast (by first | rfl | (simp; done)) ow), (Own.cast (by first | rfl | (simp; done)) om), nu5, ap1Xu5, au5Xe.symm, nw, ap1Xw, awXe.symm, au5Xw, nm, ap1Xm, amXe.symm, au5Xm, awXm, lE, (fun _ => rfl), (fun _ => rfl)⟩, ?_⟩
  rintro n21 σ21 H21 ⟨i, rfl, hiN, u, Su, g, h, g3L21, g11L21, g12L21, g13L21, op1, oe, ou, og, oh, nu, ap1Xu, aeXu, ng, ap1Xg, aeXg, auXg, nh, ap1Xh, aeXh, auXh, agXh, lE, hm0, hm1⟩
  have hvc := hvc0.le lE
  try simp only [g3L21, g11L21, g12L21, g13L21]
  have hgi := gL_eq (f := (⟨r, c, l⟩ : FdL)) (i := i)
  have hB : okF (imB (⟨r, c, l⟩ : FdL) i) := imB_ok (f := (⟨r, c, l⟩ : FdL)) hf i
  have hiL := imgs_len (⟨r, c, l⟩ : FdL) (4 * i)
  refine ob_i (vInt_lss _ _ _) ?_
  refine cnd_d (fun hg22 => ?_) (fun hg22 => ?_)
  · skip
    have ti := hg22
    refine jn_i (fun σ' H' => ∃ u, ∃ Su, σ' 3 = u ∧ σ' 11 = e ∧ σ' 12 = (.int .i64 (2)) ∧ σ' 13 = (.int .i64 ((i : Int))) ∧ Cel H' p1 [(.int .i64 (r)), (.int .i64 (c)), vc] ∧ OwnE 3 encFv H' e ([⟨r, c, w⟩, ⟨r, c, m⟩]) ∧ Fam H' u Su (imgs (⟨r, c, l⟩ : FdL) (4 * (i + 1))) ∧ Own eI H' h (hL (⟨r, c, l⟩ : FdL) i) ∧ Nws H Su ∧ Apt p1 Su ∧ Apt e Su ∧ Apt Su h ∧ Le H H') (fun σ23 H23 hP => ?_) (fun J23 hJ23 => ?_)
    · skip
      obtain ⟨u, Su, g3L23, g11L23, g12L23, g13L23, op1, oe, ou, oh, nu, ap1Xu, aeXu, auXh, lE⟩ := hP
      have hvc := hvc0.le lE
      try simp only [g13L23]
      refine ob_i (vInt_add (by omega) (by omega)) ?_
      exact nxt (2 - (i + 1)) (by omega) ⟨i + 1, rfl, by omega, u, _, h, _, g3L23, g11L23, g12L23, (congrArg (Value.int .i64) (by first | omega | rfl | (simp; done))), op1, oe, ou, (Own.cast (hgL (⟨r, c, l⟩ : FdL) i) oh), (Own.cast (by simp [hL]) (Own.nil_of none)), nu, ap1Xu, aeXu, nh, ap1Xh, aeXh, auXh, (fun b hb => by simp [bk] at hb), (fun b _ hb => by simp [bk] at hb), (fun b _ hb => by simp [bk] at hb), Apt.nil_r, (fun b _ hb => by simp [bk] at hb), lE, (fun hlt => by obtain rfl : i = 0 := (by omega); rw [hm1 rfl]; first | done | rfl), (fun h0 => absurd h0 (by omega))⟩
    refine ob_i ((oe.sl encFv_n).ix encFv_n (by omega) (by omega) (by first | omega | (simp only [List.length_cons, List.length_nil]; omega))) ?_
    refine ob_i (a := (.agg #[(.int .i64 (r)), (.int .i64 (c)), g])) (by rw [(oe.sl encFv_n).ldn (i := (i : Int)) encFv_n (by omega) fv0 (by omega) (by show _ < ((2 : Nat) : Int); omega), hm0 (by omega)]; try rfl) ?_
    refine nw_i (fun q H24 oq nn25 le26 => ?_)
    have ap1Xq : Apart p1 q := op1.apart nn25
    have aeXq : Apart e q := oe.apart nn25
    have auXq : Apt Su q := Apt.of_nw ou.known nn25
    have agXq : Apart g q := og.apart nn25
    have ahXq : Apart h q := oh.apart nn25
    have nq : Nw H q := nn25.le lE
    replace op1 := op1.le le26
    replace oe := oe.le le26
    replace ou := ou.le le26
    replace og := og.le le26
    replace oh := oh.le le26
    replace hvc := hvc.le le26
    replace lE := lE.trans le26
    replace oq : Cel H24 q [(.int .i64 (0)), (.int .i64 (0)), (.slice none 0 0)] := oq
    refine oq.stn (ws := [(.int .i64 (r)), (.int .i64 (c)), g]) rfl rfl (oc1 rfl (oc1 rfl (oc1 og.one oc0))) (fun H27 oq off28 => ?_)
    replace op1 := op1.off off28 ap1Xq
    replace oe := oe.off off28 aeXq
    replace ou := ou.off off28 auXq
    replace og := og.off off28 agXq
    replace oh := oh.off off28 ahXq
    replace hvc := hvc0.le (off28.le lE nq)
    replace lE := off28.le lE nq
    replace oq : Cel H27 q [(.int .i64 (r)), (.int .i64 (c)), g] := oq
    refine ⟨fun n' σ' H' => ∃ k : Nat, n' = 4 - k ∧ k ≤ 4 ∧ ∃ u, ∃ Su, ∃ x, σ' 3 = u ∧ σ' 5 = q ∧ σ' 11 = e ∧ σ' 12 = (.int .i64 (2)) ∧ σ' 13 = (.int .i64 ((i : Int))) ∧ σ' 17 = (.int .i64 ((k : Int))) ∧ Cel H' p1 [(.int .i64 (r)), (.int .i64 (c)), vc] ∧ OwnE 3 encFv H' e ([⟨r, c, w⟩, ⟨r, c, m⟩]) ∧ Fam H' u Su (imgs (⟨r, c, l⟩ : FdL) (4 * i + k)) ∧ Own eI H' h (hL (⟨r, c, l⟩ : FdL) i) ∧ Cel H' q [(.int .i64 ((imK (imB (⟨r, c, l⟩ : FdL) i) k).r)), (.int .i64 ((imK (imB (⟨r, c, l⟩ : FdL) i) k).c)), x] ∧ Own eI H' x ((imK (imB (⟨r, c, l⟩ : FdL) i) k).l) ∧ Nws H Su ∧ Apt p1 Su ∧ Apt e Su ∧ Apt Su h ∧ Apt Su q ∧ Nw H x ∧ Apart p1 x ∧ Apart e x ∧ Apt Su x ∧ Apart h x ∧ Apart q x ∧ Le H H',
      ⟨_, 0, rfl, by omega, u, _, g, g3L21, rfl, g11L21, g12L21, g13L21, (congrArg (Value.int .i64) (by first | omega | rfl | (simp; done))), op1, oe, (Fam.cast (by first | rfl | (simp; done)) ou), oh, (Cel.cast (by show _ = [Value.int .i64 (imB (⟨r, c, l⟩ : FdL) i).r, .int .i64 (imB (⟨r, c, l⟩ : FdL) i).c, g]; rw [imB_r, imB_c]) oq), (Own.cast (hgi (by omega)) og), nu, ap1Xu, aeXu, auXh, auXq, ng, ap1Xg, aeXg, auXg, agXh.symm, agXq.symm, lE⟩, ?_⟩
    rintro n29 σ29 H29 ⟨k, rfl, hkN, u, Su, x, g3L29, g5L29, g11L29, g12L29, g13L29, g17L29, op1, oe, ou, oh, oq, ox, nu, ap1Xu, aeXu, auXh, auXq, nx, ap1Xx, aeXx, auXx, ahXx, aqXx, lE⟩
    have hvc := hvc0.le lE
    try simp only [g3L29, g5L29, g17L29]
    have hK : fieldN 1 (imK (imB (⟨r, c, l⟩ : FdL) i) k).r (imK (imB (⟨r, c, l⟩ : FdL) i) k).c (imK (imB (⟨r, c, l⟩ : FdL) i) k).l := imK_ok hB k
    have lK := fieldN_len hK
    have hiL2 := imgs_len (⟨r, c, l⟩ : FdL) (4 * i + k)
    refine ob_i (vInt_lss _ _ _) ?_
    refine cnd_d (fun hg30 => ?_) (fun hg30 => ?_)
    · skip
      have tk := hg30
      refine ob_i (oq.ldn rfl) ?_
      refine bSE_one (enc := encFv) (x := (⟨(imK (imB (⟨r, c, l⟩ : FdL) i) k).r, (imK (imB (⟨r, c, l⟩ : FdL) i) k).c, x⟩ : Fv)) rfl rfl (by omega) (by omega) rfl (fun u31 H32 ou31 nn33 le35 => ?_) rfl
      have ap1Xu31 : Apart p1 u31 := op1.apart nn33
      have aeXu31 : Apart e u31 := oe.apart nn33
      have auXu31 : Apt Su u31 := Apt.of_nw ou.known nn33
      have ahXu31 : Apart h u31 := oh.apart nn33
      have aqXu31 : Apart q u31 := oq.apart nn33
      have axXu31 : Apart x u31 := ox.apart nn33
      have nu31 : Nw H u31 := nn33.le lE
      replace op1 := op1.le le35
      replace oe := oe.le le35
      replace ou := ou.le le35
      replace oh := oh.le le35
      replace oq := oq.le le35
      replace ox := ox.le le35
      replace hvc := hvc.le le35
      replace lE := lE.trans le35
      refine Fam.push ou rfl (ou31.sl encFv_n) ox auXx.symm (by omega) (by first | omega | (simp; omega)) (fun u40 Su40 H36 ou40 off37 hb38 hx39 oxx => ?_)
      have ap1Xu40 : Apt p1 Su40 := Apt.push op1.known ap1Xu ap1Xx hb38
      have aeXu40 : Apt e Su40 := Apt.push oe.known aeXu aeXx hb38
      have ahXu40 : Apt h Su40 := Apt.push oh.known auXh.symm ahXx hb38
      have aqXu40 : Apt q Su40 := Apt.push oq.known auXq.symm aqXx hb38
      have au31Xu40 : Apt u31 Su40 := Apt.push ou31.known auXu31.symm axXu31.symm hb38
      have nu40 : Nws H Su40 := Nws.push lE nu nx hb38
      replace op1 := op1.offS off37 ap1Xu
      replace oe := oe.offS off37 aeXu
      replace oh := oh.offS off37 auXh.symm
      replace oq := oq.offS off37 auXq.symm
      replace ou31 := ou31.offS off37 auXu31.symm
      replace hvc := hvc0.le (off37.le lE nu)
      replace lE := off37.le lE nu
      replace ox := oxx.ro
      refine ob_i (oq.ldn rfl) ?_
      refine C.impl_Field_right ox.sl (by first | omega | assumption) (fun  u43 H41 ou43 nn44  le42 => ?_)
      have ap1Xu43 : Apart p1 u43 := op1.apart nn44
      have aeXu43 : Apart e u43 := oe.apart nn44
      have ahXu43 : Apart h u43 := oh.apart nn44
      have aqXu43 : Apart q u43 := oq.apart nn44
      have axXu43 : Apart x u43 := ox.apart nn44
      have au31Xu43 : Apart u31 u43 := ou31.apart nn44
      have au40Xu43 : Apt Su40 u43 := Apt.of_nw ou40.known nn44
      have nu43 : Nw H u43 := nn44.le lE
      replace op1 := op1.le le42
      replace oe := oe.le le42
      replace oh := oh.le le42
      replace oq := oq.le le42
      replace ox := ox.le le42
      replace ou31 := ou31.le le42
      replace ou40 := ou40.le le42
      replace hvc := hvc.le le42
      replace lE := lE.trans le42
      refine oq.stn (ws := [(.int .i64 (((imK (imB (⟨r, c, l⟩ : FdL) i) k).c))), (.int .i64 (((imK (imB (⟨r, c, l⟩ : FdL) i) k).r))), u43]) rfl rfl (oc1 rfl (oc1 rfl (oc1 ou43.one oc0))) (fun H45 oq off46 => ?_)
      replace op1 := op1.off off46 ap1Xq
      replace oe := oe.off off46 aeXq
      replace oh := oh.off off46 ahXq
      replace ox := ox.off off46 aqXx.symm
      replace ou31 := ou31.off off46 aqXu31.symm
      replace ou40 := ou40.off off46 aqXu40.symm
      replace ou43 := ou43.off off46 aqXu43.symm
      replace hvc := hvc0.le (off46.le lE nq)
      replace lE := off46.le lE nq
      replace oq : Cel H45 q [(.int .i64 (((imK (imB (⟨r, c, l⟩ : FdL) i) k).c))), (.int .i64 (((imK (imB (⟨r, c, l⟩ : FdL) i) k).r))), u43] := oq
      refine ob_i (vInt_add (by omega) (by omega)) ?_
      exact nxt (4 - (k + 1)) (by omega) ⟨k + 1, rfl, by omega, u40, _, u43, rfl, g5L29, g11L29, g12L29, g13L29, (congrArg (Value.int .i64) (by first | omega | rfl | (simp; done))), op1, oe, (Fam.cast (imgs_succ (⟨r, c, l⟩ : FdL) (by omega)) ou40), oh, oq, ou43, nu40, ap1Xu40, aeXu40, ahXu40.symm, aqXu40.symm, nu43, ap1Xu43, aeXu43, au40Xu43, ahXu43, aqXu43, lE⟩
    · skip
      have tk := hg30
      obtain rfl : k = 4 := by omega
      exact hJ23 _ _ ⟨u, _, g3L29, g11L29, g12L29, g13L29, op1, oe, ou, oh, nu, ap1Xu, aeXu, auXh, lE⟩
  · skip
    have ti := hg22
    obtain rfl : i = 2 := by omega
    exact hJ10 _ _ ⟨u, _, g, h, g3L21, op1, ou, og, oh, nu, ap1Xu, ng, ap1Xg, auXg, nh, ap1Xh, auXh, agXh, lE⟩
end Go.Proofs.YtialllbbbpmkbaaDoor
/- Names of fields. -/
namespace Go.Proofs.YtialllbbbpmkbaaDoor
open HL
set_option maxRecDepth 100000
attribute [local irreducible] vStr
theorem C.spec_l05Name {p vc : Value} {r c : Int} {l : List Int}  {H : Hp} {K : Value → Hp → Prop} (hp0 : Cel H p [(.int .i64 (r)), (.int .i64 (c)), vc]) (hvc0 : Sl eI H vc l) (hf : fieldN 1 r c l)
    (hk : ∀ H', Le H H' → K (vS (nameT r c l)) H') : HT prg I.spec_l05Name [p].toArray H K := by
  have lE := Le.refl H
  have hp := hp0
  have hvc := hvc0
  refine R.spec_l05Name ?_
  unfold F.spec_l05Name
  have hs := hf.1
  have hl := hf.2.1
  have q1 := hs.1
  have q2 := hs.2
  have qm := sidesF_mul hs
  have l1 := fieldN_len hf
  have il := imgs_len (⟨(trR r c l), (trC r c l), (trL r c l)⟩ : FdL) 8
  refine C.spec_l05Trim hp hvc (by first | omega | assumption) (by first | omega | assumption) (fun hc1  H2    le3 => ?_) (fun hc4 u7 H5 ou7 nn8  le6 => ?_)
  · skip
    replace hp := hp.le le3
    replace hvc := hvc.le le3
    replace lE := lE.trans le3
    refine ob_i (vExt_40 _ _ _ _) ?_
    refine ob_i (vExt_41 _ _ _ _) ?_
    refine ob_i (vExt_42 _ _ _ _) ?_
    refine ob_i (vExt_43 _ _ _ _) ?_
    refine nw_i (fun pt H9 opt nn10 le11 => ?_)
    have npt : Nw H pt := nn10.le lE
    replace hp := hp.le le11
    replace hvc := hvc.le le11
    replace lE := lE.trans le11
    replace opt : Cel H9 pt [(.int .i64 (0)), (.int .i64 (0)), (.slice none 0 0)] := opt
    refine opt.stn (ws := [(.int .i64 (0)), (.int .i64 (0)), (.slice none 0 0)]) rfl rfl (oc1 rfl (oc1 rfl (oc1 rfl oc0))) (fun H12 opt off13 => ?_)
    replace hp := hp0.le (off13.le lE npt)
    replace hvc := hvc0.le (off13.le lE npt)
    replace lE := off13.le lE npt
    replace opt : Cel H12 pt [(.int .i64 (0)), (.int .i64 (0)), (.slice none 0 0)] := opt
    refine ob_i (a := .bool true) rfl ?_
    refine cnd_t1 ?_
    skip
    exact keq (K := K) (by rw [show (nameT r c l) = (([] : List UInt8)) from by exact nameT_f hc1]; try rfl) (hk   _    lE)
  · skip
    have hpos := hc4
    have nu7 : Nw H u7 := nn8.le lE
    replace hp := hp.le le6
    replace hvc := hvc.le le6
    replace lE := lE.trans le6
    refine ob_i (vExt_40 _ _ _ _) ?_
    refine ob_i (vExt_41 _ _ _ _) ?_
    refine ob_i (vExt_42 _ _ _ _) ?_
    refine ob_i (vExt_43 _ _ _ _) ?_
    refine nw_i (fun pt H14 opt nn15 le16 => ?_)
    have au7Xpt : Apart u7 pt := ou7.apart nn15
    have npt : Nw H pt := nn15.le lE
    replace ou7 := ou7.le le16
    replace hp := hp.le le16
    replace hvc := hvc.le le16
    replace lE := lE.trans le16
    replace opt : Cel H14 pt [(.int .i64 (0)), (.int .i64 (0)), (.slice none 0 0)] := opt
    refine opt.stn (ws := [(.int .i64 (trR r c l)), (.int .i64 (trC r c l)), u7]) rfl rfl (oc1 rfl (oc1 rfl (oc1 ou7.one oc0))) (fun H17 opt off18 => ?_)
    replace ou7 := ou7.off off18 au7Xpt
    replace hp := hp0.le (off18.le lE npt)
    replace hvc := hvc0.le (off18.le lE npt)
    replace lE := off18.le lE npt
    replace opt : Cel H17 pt [(.int .i64 (trR r c l)), (.int .i64 (trC r c l)), u7] := opt
    refine ob_i (a := .bool false) rfl ?_
    refine cnd_f1 ?_
    refine C.spec_l05Images opt ou7.sl (by exact trF_ok hf hpos) (fun  im Sim H19 oim nn21  le20 => ?_)
    have au7Xim : Apt u7 Sim := Apt.of_nws ou7.known nn21
    have aptXim : Apt pt Sim := Apt.of_nws opt.known nn21
    have nim : Nws H Sim := nn21.le lE
    replace ou7 := ou7.le le20
    replace opt := opt.le le20
    replace hp := hp.le le20
    replace hvc := hvc.le le20
    replace lE := lE.trans le20
    refine jn_i (fun σ' H' => σ' 8 = (vS (minF (imT (tmF r c l) 8))) ∧ Own eI H' u7 (trL r c l) ∧ Cel H' pt [(.int .i64 (trR r c l)), (.int .i64 (trC r c l)), u7] ∧ Fam H' im Sim (imgs (⟨(trR r c l), (trC r c l), (trL r c l)⟩ : FdL) 8) ∧ Le H H') (fun σ22 H22 hP => ?_) (fun J22 hJ22 => ?_)
    · skip
      obtain ⟨g8L22, ou7, opt, oim, lE⟩ := hP
      have hp := hp0.le lE
      have hvc := hvc0.le lE
      try simp only [g8L22]
      skip
      exact keq (K := K) (by rw [show (nameT r c l) = (minF (imT (tmF r c l) 8)) from by exact nameT_t hpos]; try rfl) (hk   _    lE)
    refine ob_i (oim.len) ?_
    refine ⟨fun n' σ' H' => ∃ i : Nat, n' = 8 - i ∧ i ≤ 8 ∧ σ' 7 = im ∧ σ' 8 = (vS (minF (imT (tmF r c l) i))) ∧ σ' 22 = (.int .i64 (((imgs (⟨(trR r c l), (trC r c l), (trL r c l)⟩ : FdL) 8).length : Int))) ∧ σ' 23 = (.int .i64 ((i : Int))) ∧ Own eI H' u7 (trL r c l) ∧ Cel H' pt [(.int .i64 (trR r c l)), (.int .i64 (trC r c l)), u7] ∧ Fam H' im Sim (imgs (⟨(trR r c l), (trC r c l), (trL r c l)⟩ : FdL) 8) ∧ Le H H',
      ⟨_, 0, rfl, by omega, rfl, rfl, rfl, (congrArg (Value.int .i64) (by first | omega | rfl | (simp; done))), ou7, opt, oim, lE⟩, ?_⟩
    rintro n23 σ23 H23 ⟨i, rfl, hiN, g7L23, g8L23, g22L23, g23L23, ou7, opt, oim, lE⟩
    have hp := hp0.le lE
    have hvc := hvc0.le lE
    try simp only [g7L23, g8L23, g22L23, g23L23]
    refine ob_i (vInt_lss _ _ _) ?_
    refine cnd_d (fun hg24 => ?_) (fun hg24 => ?_)
    · skip
      have ti := hg24
      obtain ⟨P25, y26, hb27a, oP25, oy26, hb27p, hb27x⟩ := oim.el (i := (i : Int)) (f := ⟨(imF (tmF r c l) i).r, (imF (tmF r c l) i).c, (imF (tmF r c l) i).l⟩) (by omega) (by first | omega | (simp; omega)) (imF_at (f := (tmF r c l)) (by omega))
      have au7XP25 : Apart u7 P25 := fun b h1 h2 => au7Xim b h1 (hb27p b h2)
      have aptXP25 : Apart pt P25 := fun b h1 h2 => aptXim b h1 (hb27p b h2)
      have au7Xy26 : Apart u7 y26 := fun b h1 h2 => au7Xim b h1 (hb27x b h2)
      have aptXy26 : Apart pt y26 := fun b h1 h2 => aptXim b h1 (hb27x b h2)
      replace oP25 : CelR H23 P25 [(.int .i64 ((imF (tmF r c l) i).r)), (.int .i64 ((imF (tmF r c l) i).c)), y26] := oP25
      replace oy26 : Ro eI H23 y26 ((imF (tmF r c l) i).l) := oy26
      refine ob_i (hb27a) ?_
      refine C.spec_l05Write oP25 oy26.sl (by exact imF_ok (f := (tmF r c l)) (trF_ok hf hpos) i) (fun   H28    le29 => ?_)
      replace ou7 := ou7.le le29
      replace opt := opt.le le29
      replace oim := oim.le le29
      replace oP25 := oP25.le le29
      replace oy26 := oy26.le le29
      replace hp := hp.le le29
      replace hvc := hvc.le le29
      replace lE := lE.trans le29
      refine ob_i (vInt_eql _ _ _) ?_
      by_cases hc30 : (i : Int) = 0
      · skip
        refine gop_e (decide_eq_true hc30) ?_
        refine gop_st ?_
        refine gop_e (decide_eq_true hc30) ?_
        refine gop_st ?_
        refine gop_e (decide_eq_true hc30) ?_
        refine gop_st ?_
        refine ob_i (vPick_et (decide_eq_true hc30) _ _) ?_
        refine cnd_t1 ?_
        refine ob_i (vInt_add (by omega) (by omega)) ?_
        exact nxt (8 - (i + 1)) (by omega) ⟨i + 1, rfl, by omega, g7L23, (congrArg vS (minF_first (by omega)).symm), g22L23, (congrArg (Value.int .i64) (by first | omega | rfl | (simp; done))), ou7, opt, oim, lE⟩
      · skip
        refine gop_e (decide_eq_false hc30) ?_
        refine gop_rf ?_
        refine gop_e (decide_eq_false hc30) ?_
        refine gop_rf ?_
        refine gop_e (decide_eq_false hc30) ?_
        refine gop_rf ?_
        refine ob_i (vStr_lss (fieldT ((imF (tmF r c l) i).r) ((imF (tmF r c l) i).c) ((imF (tmF r c l) i).l)) (minF (imT (tmF r c l) i))) ?_
        refine ob_i (vPick_ef (decide_eq_false hc30) _ _) ?_
        refine cnd_i (fun hg31 => ?_) (fun hg31 => ?_)
        · skip
          refine ob_i (vInt_add (by omega) (by omega)) ?_
          exact nxt (8 - (i + 1)) (by omega) ⟨i + 1, rfl, by omega, g7L23, (congrArg vS (by rw [minF_next (by omega), minT_t hg31])), g22L23, (congrArg (Value.int .i64) (by first | omega | rfl | (simp; done))), ou7, opt, oim, lE⟩
        · skip
          refine ob_i (vInt_add (by omega) (by omega)) ?_
          exact nxt (8 - (i + 1)) (by omega) ⟨i + 1, rfl, by omega, g7L23, (g8L23.trans (congrArg vS (by rw [minF_next (by omega), minT_f (by simp [hg31])]))), g22L23, (congrArg (Value.int .i64) (by first | omega | rfl | (simp; done))), ou7, opt, oim, lE⟩
    · skip
      have ti := hg24
      exact hJ22 _ _ ⟨(g8L23.trans (congrArg vS (by rw [show i = 8 by omega]))), ou7, opt, oim, lE⟩
theorem C.slices_Min_string_string {v : Value} {ls : List (List UInt8)}  {H : Hp} {K : Value → Hp → Prop} (hv0 : Sl vS H v ls) (h1 : 1 ≤ ls.length) (h2 : ls.length ≤ 9223372036854775807)
    (hk : ∀ H', Le H H' → K (vS (minF ls)) H') : HT prg I.slices_Min_string_string [v].toArray H K := by
  have lE := Le.refl H
  have hv := hv0
  refine R.slices_Min_string_string ?_
  unfold F.slices_Min_string_string
  refine jn_i (fun σ' H' => σ' 0 = v ∧ Le H H') (fun σ1 H1 hP => ?_) (fun J1 hJ1 => ?_)
  · skip
    obtain ⟨g0L1, lE⟩ := hP
    have hv := hv0.le lE
    try simp only [g0L1]
    refine ob_i (hv.ix (by omega) (by omega)) ?_
    refine ob_i (hv.ld [] (by omega) (by omega)) ?_
    refine jn_i (fun σ' H' => σ' 3 = (vS (minF ls)) ∧ Le H H') (fun σ2 H2 hP => ?_) (fun J2 hJ2 => ?_)
    · skip
      obtain ⟨g3L2, lE⟩ := hP
      have hv := hv0.le lE
      try simp only [g3L2]
      skip
      exact hk   _    lE
    refine ⟨fun n' σ' H' => ∃ i : Nat, n' = ls.length - i ∧ i ≤ ls.length ∧ σ' 0 = v ∧ σ' 3 = (vS (minF (ls.take (i + 1)))) ∧ σ' 4 = (.int .i64 ((i : Int) + 1)) ∧ Le H H' ∧ i + 1 ≤ ls.length,
      ⟨_, 0, rfl, by omega, g0L1, (congrArg vS (minF_take1 h1).symm), (congrArg (Value.int .i64) (by first | omega | rfl | (simp; done))), lE, (by omega)⟩, ?_⟩
    rintro n3 σ3 H3 ⟨i, rfl, hiN, g0L3, g3L3, g4L3, lE, hle⟩
    have hv := hv0.le lE
    try simp only [g0L3, g3L3, g4L3]
    refine ob_i (hv.len) ?_
    refine ob_i (vInt_lss _ _ _) ?_
    refine cnd_d (fun hg4 => ?_) (fun hg4 => ?_)
    · skip
      have ti := hg4
      refine ob_i (hv.ix (by omega) (by omega)) ?_
      refine ob_i (hv.ld [] (by omega) (by omega)) ?_
      refine min_tr ?_
      refine ob_i (vInt_add (by omega) (by omega)) ?_
      exact nxt (ls.length - (i + 1)) (by omega) ⟨i + 1, rfl, by omega, g0L3, (congrArg vS (minF_take (by omega) (by omega)).symm), (congrArg (Value.int .i64) (by first | omega | rfl | (simp; done))), lE, (by omega)⟩
    · skip
      have ti := hg4
      exact hJ2 _ _ ⟨(g3L3.trans (congrArg vS (by rw [List.take_of_length_le (by omega)]))), lE⟩
  refine ob_i (hv.len) ?_
  refine ob_i (vInt_lss _ _ _) ?_
  refine cnd_d (fun hg5 => ?_) (fun hg5 => ?_)
  · skip
    exact absurd hg5 ((by omega))
  · skip
    exact hJ1 _ _ ⟨rfl, lE⟩
theorem C.impl_Field_name {vc : Value} {r c : Int} {l : List Int}  {H : Hp} {K : Value → Hp → Prop} (hvc0 : Sl eI H vc l) (hf : fieldN 1 r c l)
    (hk : ∀ H', Le H H' → K (vS (nameT r c l)) H') : HT prg I.impl_Field_name [(.agg #[(.int .i64 (r)), (.int .i64 (c)), vc])].toArray H K := by
  have lE := Le.refl H
  have hvc := hvc0
  refine R.impl_Field_name ?_
  unfold F.impl_Field_name
  have hs := hf.1
  have hl := hf.2.1
  have q1 := hs.1
  have q2 := hs.2
  have qm := sidesF_mul hs
  have l1 := fieldN_len hf
  have il := imgs_len (⟨(trR r c l), (trC r c l), (trL r c l)⟩ : FdL) 8
  refine nw_i (fun p1 H2 op1 nn3 le4 => ?_)
  have np1 : Nw H p1 := nn3.le lE
  replace hvc := hvc.le le4
  replace lE := lE.trans le4
  replace op1 : Cel H2 p1 [(.int .i64 (r)), (.int .i64 (c)), vc] := op1
  refine ob_i (op1.ldn rfl) ?_
  refine C.impl_Field_trimmed hvc (by first | omega | assumption) (by first | omega | assumption) (fun hc5  H6    le7 => ?_) (fun hc8 u11 H9 ou11 nn12  le10 => ?_)
  · skip
    replace op1 := op1.le le7
    replace hvc := hvc.le le7
    replace lE := lE.trans le7
    refine ob_i (vExt_40 _ _ _ _) ?_
    refine ob_i (vExt_41 _ _ _ _) ?_
    refine ob_i (vExt_42 _ _ _ _) ?_
    refine ob_i (vExt_43 _ _ _ _) ?_
    refine nw_i (fun pt H13 opt nn14 le15 => ?_)
    have ap1Xpt : Apart p1 pt := op1.apart nn14
    have npt : Nw H pt := nn14.le lE
    replace op1 := op1.le le15
    replace hvc := hvc.le le15
    replace lE := lE.trans le15
    replace opt : Cel H13 pt [(.int .i64 (0)), (.int .i64 (0)), (.slice none 0 0)] := opt
    refine opt.stn (ws := [(.int .i64 (0)), (.int .i64 (0)), (.slice none 0 0)]) rfl rfl (oc1 rfl (oc1 rfl (oc1 rfl oc0))) (fun H16 opt off17 => ?_)
    replace op1 := op1.off off17 ap1Xpt
    replace hvc := hvc0.le (off17.le lE npt)
    replace lE := off17.le lE npt
    replace opt : Cel H16 pt [(.int .i64 (0)), (.int .i64 (0)), (.slice none 0 0)] := opt
    refine ob_i (a := .bool true) rfl ?_
    refine cnd_t1 ?_
    skip
    exact keq (K := K) (by rw [show (nameT r c l) = (([] : List UInt8)) from by exact nameT_f hc5]; try rfl) (hk   _    lE)
  · skip
    have hpos := hc8
    have ap1Xu11 : Apart p1 u11 := op1.apart nn12
    have nu11 : Nw H u11 := nn12.le lE
    replace op1 := op1.le le10
    replace hvc := hvc.le le10
    replace lE := lE.trans le10
    refine ob_i (vExt_40 _ _ _ _) ?_
    refine ob_i (vExt_41 _ _ _ _) ?_
    refine ob_i (vExt_42 _ _ _ _) ?_
    refine ob_i (vExt_43 _ _ _ _) ?_
    refine nw_i (fun pt H18 opt nn19 le20 => ?_)
    have ap1Xpt : Apart p1 pt := op1.apart nn19
    have au11Xpt : Apart u11 pt := ou11.apart nn19
    have npt : Nw H pt := nn19.le lE
    replace op1 := op1.le le20
    replace ou11 := ou11.le le20
    replace hvc := hvc.le le20
    replace lE := lE.trans le20
    replace opt : Cel H18 pt [(.int .i64 (0)), (.int .i64 (0)), (.slice none 0 0)] := opt
    refine opt.stn (ws := [(.int .i64 (trR r c l)), (.int .i64 (trC r c l)), u11]) rfl rfl (oc1 rfl (oc1 rfl (oc1 ou11.one oc0))) (fun H21 opt off22 => ?_)
    replace op1 := op1.off off22 ap1Xpt
    replace ou11 := ou11.off off22 au11Xpt
    replace hvc := hvc0.le (off22.le lE npt)
    replace lE := off22.le lE npt
    replace opt : Cel H21 pt [(.int .i64 (trR r c l)), (.int .i64 (trC r c l)), u11] := opt
    refine ob_i (a := .bool false) rfl ?_
    refine cnd_f1 ?_
    refine bS_nil (enc := vS) (fun ts H23 ots nn24 kk25 le26 => ?_)
    have ap1Xts : Apart p1 ts := op1.apart nn24
    have au11Xts : Apart u11 ts := ou11.apart nn24
    have aptXts : Apart pt ts := opt.apart nn24
    have nts : Nw H ts := nn24.le lE
    replace op1 := op1.le le26
    replace ou11 := ou11.le le26
    replace opt := opt.le le26
    replace hvc := hvc.le le26
    replace lE := lE.trans le26
    refine jn_i (fun σ' H' => ∃ ts, σ' 7 = ts ∧ Cel H' p1 [(.int .i64 (r)), (.int .i64 (c)), vc] ∧ Own eI H' u11 (trL r c l) ∧ Cel H' pt [(.int .i64 (trR r c l)), (.int .i64 (trC r c l)), u11] ∧ Own vS H' ts (imT (tmF r c l) 8) ∧ Nw H ts ∧ Apart p1 ts ∧ Apart u11 ts ∧ Apart pt ts ∧ Le H H') (fun σ27 H27 hP => ?_) (fun J27 hJ27 => ?_)
    · skip
      obtain ⟨ts, g7L27, op1, ou11, opt, ots, nts, ap1Xts, au11Xts, aptXts, lE⟩ := hP
      have hvc := hvc0.le lE
      try simp only [g7L27]
      refine C.slices_Min_string_string ots.sl (by rw [imT_len]; omega) (by rw [imT_len]; omega) (fun   H28    le29 => ?_)
      replace op1 := op1.le le29
      replace ou11 := ou11.le le29
      replace opt := opt.le le29
      replace ots := ots.le le29
      replace hvc := hvc.le le29
      replace lE := lE.trans le29
      skip
      exact keq (K := K) (by rw [show (nameT r c l) = (minF (imT (tmF r c l) 8)) from by exact nameT_t hpos]; try rfl) (hk   _    lE)
    refine ob_i (opt.ldn rfl) ?_
    refine C.impl_Field_images ou11.sl (by exact trF_ok hf hpos) (fun  im Sim H30 oim nn32  le31 => ?_)
    have ap1Xim : Apt p1 Sim := Apt.of_nws op1.known nn32
    have au11Xim : Apt u11 Sim := Apt.of_nws ou11.known nn32
    have aptXim : Apt pt Sim := Apt.of_nws opt.known nn32
    have atsXim : Apt ts Sim := Apt.of_nws ots.known nn32
    have nim : Nws H Sim := nn32.le lE
    replace op1 := op1.le le31
    replace ou11 := ou11.le le31
    replace opt := opt.le le31
    replace ots := ots.le le31
    replace hvc := hvc.le le31
    replace lE := lE.trans le31
    refine ob_i (oim.len) ?_
    refine ⟨fun n' σ' H' => ∃ i : Nat, n' = 8 - i ∧ i ≤ 8 ∧ ∃ ts, σ' 7 = ts ∧ σ' 21 = im ∧ σ' 22 = (.int .i64 (((imgs (⟨(trR r c l), (trC r c l), (trL r c l)⟩ : FdL) 8).length : Int))) ∧ σ' 23 = (.int .i64 ((i : Int))) ∧ Cel H' p1 [(.int .i64 (r)), (.int .i64 (c)), vc] ∧ Own eI H' u11 (trL r c l) ∧ Cel H' pt [(.int .i64 (trR r c l)), (.int .i64 (trC r c l)), u11] ∧ Own vS H' ts (imT (tmF r c l) i) ∧ Fam H' im Sim (imgs (⟨(trR r c l), (trC r c l), (trL r c l)⟩ : FdL) 8) ∧ Nw H ts ∧ Apart p1 ts ∧ Apart u11 ts ∧ Apart pt ts ∧ Apt ts Sim ∧ Le H H',
      ⟨_, 0, rfl, by omega, ts, rfl, rfl, rfl, (congrArg (Value.int .i64) (by first | omega | rfl | (simp; done))), op1, ou11, opt, (Own.cast (by first | rfl | (simp; done)) ots), oim, nts, ap1Xts, au11Xts, aptXts, atsXim, lE⟩, ?_⟩
    rintro n33 σ33 H33 ⟨i, rfl, hiN, ts, g7L33, g21L33, g22L33, g23L33, op1, ou11, opt, ots, oim, nts, ap1Xts, au11Xts, aptXts, atsXim, lE⟩
    have hvc := hvc0.le lE
    try simp only [g7L33, g21L33, g22L33, g23L33]
    have tl := imT_len (f := (tmF r c l)) (n := i)
    refine ob_i (vInt_lss _ _ _) ?_
    refine cnd_d (fun hg34 => ?_) (fun hg34 => ?_)
    · skip
      have ti := hg34
      obtain ⟨P35, y36, hb37a, oP35, oy36, hb37p, hb37x⟩ := oim.el (i := (i : Int)) (f := ⟨(imF (tmF r c l) i).r, (imF (tmF r c l) i).c, (imF (tmF r c l) i).l⟩) (by omega) (by first | omega | (simp; omega)) (imF_at (f := (tmF r c l)) (by omega))
      have ap1XP35 : Apart p1 P35 := fun b h1 h2 => ap1Xim b h1 (hb37p b h2)
      have au11XP35 : Apart u11 P35 := fun b h1 h2 => au11Xim b h1 (hb37p b h2)
      have aptXP35 : Apart pt P35 := fun b h1 h2 => aptXim b h1 (hb37p b h2)
      have atsXP35 : Apart ts P35 := fun b h1 h2 => atsXim b h1 (hb37p b h2)
      have ap1Xy36 : Apart p1 y36 := fun b h1 h2 => ap1Xim b h1 (hb37x b h2)
      have au11Xy36 : Apart u11 y36 := fun b h1 h2 => au11Xim b h1 (hb37x b h2)
      have aptXy36 : Apart pt y36 := fun b h1 h2 => aptXim b h1 (hb37x b h2)
      have atsXy36 : Apart ts y36 := fun b h1 h2 => atsXim b h1 (hb37x b h2)
      replace oP35 : CelR H33 P35 [(.int .i64 ((imF (tmF r c l) i).r)), (.int .i64 ((imF (tmF r c l) i).c)), y36] := oP35
      replace oy36 : Ro eI H33 y36 ((imF (tmF r c l) i).l) := oy36
      refine ob_i (hb37a) ?_
      refine ob_i (oP35.ldn rfl) ?_
      refine nw_i (fun p38 H39 op38 nn40 le41 => ?_)
      have ap1Xp38 : Apart p1 p38 := op1.apart nn40
      have au11Xp38 : Apart u11 p38 := ou11.apart nn40
      have aptXp38 : Apart pt p38 := opt.apart nn40
      have atsXp38 : Apart ts p38 := ots.apart nn40
      have aimXp38 : Apt Sim p38 := Apt.of_nw oim.known nn40
      have aP35Xp38 : Apart P35 p38 := oP35.apart nn40
      have ay36Xp38 : Apart y36 p38 := oy36.apart nn40
      have np38 : Nw H p38 := nn40.le lE
      replace op1 := op1.le le41
      replace ou11 := ou11.le le41
      replace opt := opt.le le41
      replace ots := ots.le le41
      replace oim := oim.le le41
      replace oP35 := oP35.le le41
      replace oy36 := oy36.le le41
      replace hvc := hvc.le le41
      replace lE := lE.trans le41
      replace op38 : Cel H39 p38 [(.int .i64 (0)), (.int .i64 (0)), (.slice none 0 0)] := op38
      refine op38.stn (ws := [(.int .i64 ((imF (tmF r c l) i).r)), (.int .i64 ((imF (tmF r c l) i).c)), y36]) rfl rfl (oc1 rfl (oc1 rfl (oc1 oy36.one oc0))) (fun H42 op38 off43 => ?_)
      replace op1 := op1.off off43 ap1Xp38
      replace ou11 := ou11.off off43 au11Xp38
      replace opt := opt.off off43 aptXp38
      replace ots := ots.off off43 atsXp38
      replace oim := oim.off off43 aimXp38
      replace oP35 := oP35.off off43 aP35Xp38
      replace oy36 := oy36.off off43 ay36Xp38
      replace hvc := hvc0.le (off43.le lE np38)
      replace lE := off43.le lE np38
      replace op38 : Cel H42 p38 [(.int .i64 ((imF (tmF r c l) i).r)), (.int .i64 ((imF (tmF r c l) i).c)), y36] := op38
      refine ob_i (op38.ldn rfl) ?_
      refine C.impl_Field_text oy36.sl (by exact imF_ok (f := (tmF r c l)) (trF_ok hf hpos) i) (fun   H44    le45 => ?_)
      replace op1 := op1.le le45
      replace ou11 := ou11.le le45
      replace opt := opt.le le45
      replace ots := ots.le le45
      replace oim := oim.le le45
      replace oP35 := oP35.le le45
      replace oy36 := oy36.le le45
      replace op38 := op38.le le45
      replace hvc := hvc.le le45
      replace lE := lE.trans le45
      refine bS_i (enc := vS) (l := [fieldT ((imF (tmF r c l) i).r) ((imF (tmF r c l) i).c) ((imF (tmF r c l) i).l)]) (by omega) rfl (by kernel_rfl) (fun u46 H47 ou46 nn48 le50 => ?_)
      have ap1Xu46 : Apart p1 u46 := op1.apart nn48
      have au11Xu46 : Apart u11 u46 := ou11.apart nn48
      have aptXu46 : Apart pt u46 := opt.apart nn48
      have atsXu46 : Apart ts u46 := ots.apart nn48
      have aimXu46 : Apt Sim u46 := Apt.of_nw oim.known nn48
      have aP35Xu46 : Apart P35 u46 := oP35.apart nn48
      have ay36Xu46 : Apart y36 u46 := oy36.apart nn48
      have ap38Xu46 : Apart p38 u46 := op38.apart nn48
      have nu46 : Nw H u46 := nn48.le lE
      replace op1 := op1.le le50
      replace ou11 := ou11.le le50
      replace opt := opt.le le50
      replace ots := ots.le le50
      replace oim := oim.le le50
      replace oP35 := oP35.le le50
      replace oy36 := oy36.le le50
      replace op38 := op38.le le50
      replace hvc := hvc.le le50
      replace lE := lE.trans le50
      refine apd_any ots ou46.sl (fun _ => rfl) (by omega) (by first | omega | (simp only [List.length_cons, List.length_nil, List.length_append, List.length_replicate, List.length_map, List.length_range]; omega)) (fun u54 H51 ou54 off52 hb53 => ?_)
      have ap1Xu54 : Apart p1 u54 := Apart.ap2 op1.known ap1Xts hb53
      have au11Xu54 : Apart u11 u54 := Apart.ap2 ou11.known au11Xts hb53
      have aptXu54 : Apart pt u54 := Apart.ap2 opt.known aptXts hb53
      have aimXu54 : Apt Sim u54 := Apt.ap2 oim.known atsXim.symm hb53
      have aP35Xu54 : Apart P35 u54 := Apart.ap2 oP35.known atsXP35.symm hb53
      have ay36Xu54 : Apart y36 u54 := Apart.ap2 oy36.known atsXy36.symm hb53
      have ap38Xu54 : Apart p38 u54 := Apart.ap2 op38.known atsXp38.symm hb53
      have au46Xu54 : Apart u46 u54 := Apart.ap2 ou46.known atsXu46.symm hb53
      have nu54 : Nw H u54 := Nw.ap2 nts lE hb53
      replace op1 := op1.off off52 ap1Xts
      replace ou11 := ou11.off off52 au11Xts
      replace opt := opt.off off52 aptXts
      replace oim := oim.off off52 atsXim.symm
      replace oP35 := oP35.off off52 atsXP35.symm
      replace oy36 := oy36.off off52 atsXy36.symm
      replace op38 := op38.off off52 atsXp38.symm
      replace ou46 := ou46.off off52 atsXu46.symm
      replace hvc := hvc0.le (off52.le lE nts)
      replace lE := off52.le lE nts
      refine ob_i (vInt_add (by omega) (by omega)) ?_
      exact nxt (8 - (i + 1)) (by omega) ⟨i + 1, rfl, by omega, u54, rfl, g21L33, g22L33, (congrArg (Value.int .i64) (by first | omega | rfl | (simp; done))), op1, ou11, opt, (Own.cast imT_succ.symm ou54), oim, nu54, ap1Xu54, au11Xu54, aptXu54, aimXu54.symm, lE⟩
    · skip
      have ti := hg34
      obtain rfl : i = 8 := by omega
      exact hJ27 _ _ ⟨ts, g7L33, op1, ou11, opt, ots, nts, ap1Xts, au11Xts, aptXts, lE⟩
theorem C.impl_NameOf {vc : Value} {r c : Int} {l : List Int}  {H : Hp} {K : Value → Hp → Prop} (hvc0 : Sl eI H vc l) (k1 : l.length ≤ 9223372036854775807)
    (hk : ∀ H', Le H H' → K (.tuple #[(vS (selL (fieldN 1 r c l) (nameT r c l))), (.bool (decide (fieldN 1 r c l)))]) H') : HT prg I.impl_NameOf [(.agg #[(.int .i64 (r)), (.int .i64 (c)), vc])].toArray H K := by
  have lE := Le.refl H
  have hvc := hvc0
  refine R.impl_NameOf ?_
  unfold F.impl_NameOf
  refine nw_i (fun p1 H2 op1 nn3 le4 => ?_)
  have np1 : Nw H p1 := nn3.le lE
  replace hvc := hvc.le le4
  replace lE := lE.trans le4
  replace op1 : Cel H2 p1 [(.int .i64 (r)), (.int .i64 (c)), vc] := op1
  refine ob_i (op1.ldn rfl) ?_
  refine C.impl_isPlain hvc (by first | omega | assumption) (fun   H5    le6 => ?_)
  replace op1 := op1.le le6
  replace hvc := hvc.le le6
  replace lE := lE.trans le6
  refine ob_nd (fun hc7 => ?_) (fun hc7 => ?_)
  · skip
    have hf := hc7
    refine cnd_f1 ?_
    refine ob_i (op1.ldn rfl) ?_
    refine C.impl_Field_name hvc (by first | omega | assumption) (fun   H8    le9 => ?_)
    replace op1 := op1.le le9
    replace hvc := hvc.le le9
    replace lE := lE.trans le9
    skip
    have hok : fieldN 1 r c l := by assumption
    exact keq (K := K) (by rw [show (selL (fieldN 1 r c l) (nameT r c l)) = (nameT r c l) from by first | exact selL_t hok | exact selL_f hok]; rw [decide_eq_true (show (fieldN 1 r c l) from by exact hok)]; try rfl) (hk   _    lE)
  · skip
    refine cnd_t1 ?_
    skip
    have hok : ¬ (fieldN 1 r c l) := by assumption
    exact keq (K := K) (by rw [show (selL (fieldN 1 r c l) (nameT r c l)) = (([] : List UInt8)) from by first | exact selL_t hok | exact selL_f hok]; rw [decide_eq_false (show ¬ (fieldN 1 r c l) from by exact hok)]; try rfl) (hk   _    lE)
theorem C.spec_NameOf {vc : Value} {r c : Int} {l : List Int}  {H : Hp} {K : Value → Hp → Prop} (hvc0 : Sl eI H vc l) (k1 : l.length ≤ 9223372036854775807)
    (hk : ∀ H', Le H H' → K (.tuple #[(vS (selL (fieldN 1 r c l) (nameT r c l))), (.bool (decide (fieldN 1 r c l)))]) H') : HT prg I.spec_NameOf [(.agg #[(.int .i64 (r)), (.int .i64 (c)), vc])].toArray H K := by
  have lE := Le.refl H
  have hvc := hvc0
  refine R.spec_NameOf ?_
  unfold F.spec_NameOf
  refine nw_i (fun p1 H2 op1 nn3 le4 => ?_)
  have np1 : Nw H p1 := nn3.le lE
  replace hvc := hvc.le le4
  replace lE := lE.trans le4
  replace op1 : Cel H2 p1 [(.int .i64 (r)), (.int .i64 (c)), vc] := op1
  refine C.spec_l04Plain op1 hvc (by first | omega | assumption) ?_
  refine ob_nd (fun hc5 => ?_) (fun hc5 => ?_)
  · skip
    have hf := hc5
    refine cnd_f1 ?_
    refine C.spec_l05Name op1 hvc (by first | omega | assumption) (fun   H6    le7 => ?_)
    replace op1 := op1.le le7
    replace hvc := hvc.le le7
    replace lE := lE.trans le7
    skip
    have hok : fieldN 1 r c l := by assumption
    exact keq (K := K) (by rw [show (selL (fieldN 1 r c l) (nameT r c l)) = (nameT r c l) from by first | exact selL_t hok | exact selL_f hok]; rw [decide_eq_true (show (fieldN 1 r c l) from by exact hok)]; try rfl) (hk   _    lE)
  · skip
    refine cnd_t1 ?_
    skip
    have hok : ¬ (fieldN 1 r c l) := by assumption
    exact keq (K := K) (by rw [show (selL (fieldN 1 r c l) (nameT r c l)) = (([] : List UInt8)) from by first | exact selL_t hok | exact selL_f hok]; rw [decide_eq_false (show ¬ (fieldN 1 r c l) from by exact hok)]; try rfl) (hk   _    lE)
theorem C.impl_SameShape {vc vd : Value} {r c r2 c2 : Int} {l : List Int} {m : List Int}  {H : Hp} {K : Value → Hp → Prop} (hvc0 : Sl eI H vc l) (hvd0 : Sl eI H vd m) (k1 : l.length ≤ 9223372036854775807) (k2 : m.length ≤ 9223372036854775807)
    (hk : ∀ H', Le H H' → K (.tuple #[(.bool (decide ((fieldN 1 r c l ∧ fieldN 1 r2 c2 m) ∧ (nameT r c l = nameT r2 c2 m)))), (.bool (decide (fieldN 1 r c l ∧ fieldN 1 r2 c2 m)))]) H') : HT prg I.impl_SameShape [(.agg #[(.int .i64 (r)), (.int .i64 (c)), vc]), (.agg #[(.int .i64 (r2)), (.int .i64 (c2)), vd])].toArray H K := by
  have lE := Le.refl H
  have hvc := hvc0
  have hvd := hvd0
  refine R.impl_SameShape ?_
  unfold F.impl_SameShape
  refine nw_i (fun p1 H2 op1 nn3 le4 => ?_)
  have np1 : Nw H p1 := nn3.le lE
  replace hvc := hvc.le le4
  replace hvd := hvd.le le4
  replace lE := lE.trans le4
  replace op1 : Cel H2 p1 [(.int .i64 (r)), (.int .i64 (c)), vc] := op1
  refine nw_i (fun p5 H6 op5 nn7 le8 => ?_)
  have ap1Xp5 : Apart p1 p5 := op1.apart nn7
  have np5 : Nw H p5 := nn7.le lE
  replace op1 := op1.le le8
  replace hvc := hvc.le le8
  replace hvd := hvd.le le8
  replace lE := lE.trans le8
  replace op5 : Cel H6 p5 [(.int .i64 (r2)), (.int .i64 (c2)), vd] := op5
  refine ob_i (op1.ldn rfl) ?_
  refine C.impl_isPlain hvc (by first | omega | assumption) (fun   H9    le10 => ?_)
  replace op1 := op1.le le10
  replace op5 := op5.le le10
  replace hvc := hvc.le le10
  replace hvd := hvd.le le10
  replace lE := lE.trans le10
  refine ob_nd (fun hc11 => ?_) (fun hc11 => ?_)
  · skip
    have hf := hc11
    refine gop_rf ?_
    refine ob_i (op5.ldn rfl) ?_
    refine gop_rf ?_
    refine C.impl_isPlain hvd (by first | omega | assumption) (fun   H12    le13 => ?_)
    replace op1 := op1.le le13
    replace op5 := op5.le le13
    replace hvc := hvc.le le13
    replace hvd := hvd.le le13
    replace lE := lE.trans le13
    refine gop_rf ?_
    refine ob_nd (fun hc14 => ?_) (fun hc14 => ?_)
    · skip
      have hg := hc14
      refine ob_i (vPick_f _ _) ?_
      refine cnd_f1 ?_
      refine ob_i (op1.ldn rfl) ?_
      refine ob_i (op5.ldn rfl) ?_
      refine C.impl_Field_name hvc (by first | omega | assumption) (fun   H15    le16 => ?_)
      replace op1 := op1.le le16
      replace op5 := op5.le le16
      replace hvc := hvc.le le16
      replace hvd := hvd.le le16
      replace lE := lE.trans le16
      refine ⟨le16, ?_⟩
      refine C.impl_Field_name hvd (by first | omega | assumption) (fun   H17    le18 => ?_)
      replace op1 := op1.le le18
      replace op5 := op5.le le18
      replace hvc := hvc.le le18
      replace hvd := hvd.le le18
      replace lE := lE.trans le18
      refine ⟨le18, ?_⟩
      refine ob_i (vStr_eql (nameT r c l) (nameT r2 c2 m)) ?_
      skip
      have hok : fieldN 1 r c l ∧ fieldN 1 r2 c2 m := by exact ⟨by assumption, by assumption⟩
      exact keq (K := K) (by rw [show decide ((nameT r c l) = (nameT r2 c2 m)) = decide ((fieldN 1 r c l ∧ fieldN 1 r2 c2 m) ∧ (nameT r c l = nameT r2 c2 m)) from decide_eq_decide.mpr (by first | exact hok | exact fun h => hok h.1 | exact ⟨fun h => ⟨hok, h⟩, fun h => h.2⟩)]; rw [decide_eq_true (show (fieldN 1 r c l ∧ fieldN 1 r2 c2 m) from by first | exact hok | exact fun h => hok h.1 | exact ⟨fun h => ⟨hok, h⟩, fun h => h.2⟩)]; try rfl) (hk   _    lE)
    · skip
      refine ob_i (vPick_f _ _) ?_
      refine cnd_t1 ?_
      skip
      have hok : ¬ (fieldN 1 r c l ∧ fieldN 1 r2 c2 m) := by intro h; first | exact absurd h.1 (by assumption) | exact absurd h.2 (by assumption)
      exact keq (K := K) (by rw [decide_eq_false (show ¬ ((fieldN 1 r c l ∧ fieldN 1 r2 c2 m) ∧ (nameT r c l = nameT r2 c2 m)) from by first | exact hok | exact fun h => hok h.1 | exact ⟨fun h => ⟨hok, h⟩, fun h => h.2⟩)]; rw [decide_eq_false (show ¬ (fieldN 1 r c l ∧ fieldN 1 r2 c2 m) from by first | exact hok | exact fun h => hok h.1 | exact ⟨fun h => ⟨hok, h⟩, fun h => h.2⟩)]; try rfl) (hk   _    lE)
  · skip
    refine gop_st ?_
    refine gop_st ?_
    refine gop_st ?_
    refine ob_i (vPick_t _ _) ?_
    refine cnd_t1 ?_
    skip
    have hok : ¬ (fieldN 1 r c l ∧ fieldN 1 r2 c2 m) := by intro h; first | exact absurd h.1 (by assumption) | exact absurd h.2 (by assumption)
    exact keq (K := K) (by rw [decide_eq_false (show ¬ ((fieldN 1 r c l ∧ fieldN 1 r2 c2 m) ∧ (nameT r c l = nameT r2 c2 m)) from by first | exact hok | exact fun h => hok h.1 | exact ⟨fun h => ⟨hok, h⟩, fun h => h.2⟩)]; rw [decide_eq_false (show ¬ (fieldN 1 r c l ∧ fieldN 1 r2 c2 m) from by first | exact hok | exact fun h => hok h.1 | exact ⟨fun h => ⟨hok, h⟩, fun h => h.2⟩)]; try rfl) (hk   _    lE)
theorem C.spec_SameShape {vc vd : Value} {r c r2 c2 : Int} {l : List Int} {m : List Int}  {H : Hp} {K : Value → Hp → Prop} (hvc0 : Sl eI H vc l) (hvd0 : Sl eI H vd m) (k1 : l.length ≤ 9223372036854775807) (k2 : m.length ≤ 9223372036854775807)
    (hk : ∀ H', Le H H' → K (.tuple #[(.bool (decide ((fieldN 1 r c l ∧ fieldN 1 r2 c2 m) ∧ (nameT r c l = nameT r2 c2 m)))), (.bool (decide (fieldN 1 r c l ∧ fieldN 1 r2 c2 m)))]) H') : HT prg I.spec_SameShape [(.agg #[(.int .i64 (r)), (.int .i64 (c)), vc]), (.agg #[(.int .i64 (r2)), (.int .i64 (c2)), vd])].toArray H K := by
  have lE := Le.refl H
  have hvc := hvc0
  have hvd := hvd0
  refine R.spec_SameShape ?_
  unfold F.spec_SameShape
  refine nw_i (fun p1 H2 op1 nn3 le4 => ?_)
  have np1 : Nw H p1 := nn3.le lE
  replace hvc := hvc.le le4
  replace hvd := hvd.le le4
  replace lE := lE.trans le4
  replace op1 : Cel H2 p1 [(.int .i64 (r)), (.int .i64 (c)), vc] := op1
  refine nw_i (fun p5 H6 op5 nn7 le8 => ?_)
  have ap1Xp5 : Apart p1 p5 := op1.apart nn7
  have np5 : Nw H p5 := nn7.le lE
  replace op1 := op1.le le8
  replace hvc := hvc.le le8
  replace hvd := hvd.le le8
  replace lE := lE.trans le8
  replace op5 : Cel H6 p5 [(.int .i64 (r2)), (.int .i64 (c2)), vd] := op5
  refine C.spec_l04Plain op1 hvc (by first | omega | assumption) ?_
  refine ob_nd (fun hc9 => ?_) (fun hc9 => ?_)
  · skip
    have hf := hc9
    refine gop_rf ?_
    refine C.spec_l04Plain op5 hvd (by first | omega | assumption) ?_
    refine gop_rf ?_
    refine ob_nd (fun hc10 => ?_) (fun hc10 => ?_)
    · skip
      have hg := hc10
      refine ob_i (vPick_f _ _) ?_
      refine cnd_f1 ?_
      refine C.spec_l05Name op1 hvc (by first | omega | assumption) (fun   H11    le12 => ?_)
      replace op1 := op1.le le12
      replace op5 := op5.le le12
      replace hvc := hvc.le le12
      replace hvd := hvd.le le12
      replace lE := lE.trans le12
      refine C.spec_l05Name op5 hvd (by first | omega | assumption) (fun   H13    le14 => ?_)
      replace op1 := op1.le le14
      replace op5 := op5.le le14
      replace hvc := hvc.le le14
      replace hvd := hvd.le le14
      replace lE := lE.trans le14
      refine ob_i (vStr_eql (nameT r c l) (nameT r2 c2 m)) ?_
      skip
      have hok : fieldN 1 r c l ∧ fieldN 1 r2 c2 m := by exact ⟨by assumption, by assumption⟩
      exact keq (K := K) (by rw [show decide ((nameT r c l) = (nameT r2 c2 m)) = decide ((fieldN 1 r c l ∧ fieldN 1 r2 c2 m) ∧ (nameT r c l = nameT r2 c2 m)) from decide_eq_decide.mpr (by first | exact hok | exact fun h => hok h.1 | exact ⟨fun h => ⟨hok, h⟩, fun h => h.2⟩)]; rw [decide_eq_true (show (fieldN 1 r c l ∧ fieldN 1 r2 c2 m) from by first | exact hok | exact fun h => hok h.1 | exact ⟨fun h => ⟨hok, h⟩, fun h => h.2⟩)]; try rfl) (hk   _    lE)
    · skip
      refine ob_i (vPick_f _ _) ?_
      refine cnd_t1 ?_
      skip
      have hok : ¬ (fieldN 1 r c l ∧ fieldN 1 r2 c2 m) := by intro h; first | exact absurd h.1 (by assumption) | exact absurd h.2 (by assumption)
      exact keq (K := K) (by rw [decide_eq_false (show ¬ ((fieldN 1 r c l ∧ fieldN 1 r2 c2 m) ∧ (nameT r c l = nameT r2 c2 m)) from by first | exact hok | exact fun h => hok h.1 | exact ⟨fun h => ⟨hok, h⟩, fun h => h.2⟩)]; rw [decide_eq_false (show ¬ (fieldN 1 r c l ∧ fieldN 1 r2 c2 m) from by first | exact hok | exact fun h => hok h.1 | exact ⟨fun h => ⟨hok, h⟩, fun h => h.2⟩)]; try rfl) (hk   _    lE)
  · skip
    refine gop_st ?_
    refine gop_st ?_
    refine ob_i (vPick_t _ _) ?_
    refine cnd_t1 ?_
    skip
    have hok : ¬ (fieldN 1 r c l ∧ fieldN 1 r2 c2 m) := by intro h; first | exact absurd h.1 (by assumption) | exact absurd h.2 (by assumption)
    exact keq (K := K) (by rw [decide_eq_false (show ¬ ((fieldN 1 r c l ∧ fieldN 1 r2 c2 m) ∧ (nameT r c l = nameT r2 c2 m)) from by first | exact hok | exact fun h => hok h.1 | exact ⟨fun h => ⟨hok, h⟩, fun h => h.2⟩)]; rw [decide_eq_false (show ¬ (fieldN 1 r c l ∧ fieldN 1 r2 c2 m) from by first | exact hok | exact fun h => hok h.1 | exact ⟨fun h => ⟨hok, h⟩, fun h => h.2⟩)]; try rfl) (hk   _    lE)
end Go.Proofs.YtialllbbbpmkbaaDoor
/- What the small functions of structs come to: copies, sizes, what is alike. -/
namespace Go.Proofs.YtialllbbbpmkbaaDoor
open HL
set_option maxRecDepth 100000
end Go.Proofs.YtialllbbbpmkbaaDoor
/- From a contract over a whole heap to a call's end: what the statement asks. -/
namespace Go.Proofs.YtialllbbbpmkbaaDoor.HL
open Go.RowKit

/-- All of a world's blocks. -/
def whole (W : World) : Hp := fun b => W.heap[b]?
theorem whole_sub (W : World) : Sub (whole W) W := fun _ _ h => h

theorem calls_true {P : Program} {f : FuncId} {args : Array Value} {W : World} (h : HT P f args (whole W) (fun v H' => v = .bool true ∧ Le (whole W) H')) :
    Calls P f args W (fun e W' => e = .returned (.bool true) ∧ Below W.heap.size W W') := by
  refine (h W (whole_sub W)).mono ?_
  rintro e W' ⟨v, H', rfl, hs, fr, rfl, hle⟩
  refine ⟨rfl, fr.os, fr.tape, fr.output, fr.size, fun k hk => ?_⟩
  have h1 : whole W k = some W.heap[k] := by unfold whole; exact Array.getElem?_eq_getElem hk
  have h2 := hs k _ (hle k _ h1)
  rw [h2, Array.getElem?_eq_getElem hk]

/-- A row of numbers of the world, as the kit's rows tell it. -/
def IsRow (k : IntKind) (w : World) (a : Option Addr) (len cap : Nat) (zs : List Int) : Prop :=
  (a = none ∧ len = 0 ∧ cap = 0 ∧ zs = []) ∨
  ∃ x, a = some x ∧ len ≤ cap ∧ cap ≤ maxLen ∧ zs.length = cap ∧ (∀ i, i < zs.length → w.cell? (x.add i) = some (.int k (zs.getD i 0))) ∧ ∀ n ∈ zs, (Lit.int k n).wf = true

theorem sl_of_row {W : World} {a : Option Addr} {len cap : Nat} {zs : List Int} (h : IsRow .i64 W a len cap zs) : Sl eI (whole W) (.slice a len cap) (zs.take len) := by
  rcases h with ⟨rfl, rfl, rfl, rfl⟩ | ⟨x, rfl, h1, _, h3, h4, _⟩
  · exact Sl.nil 0 none
  · have hlen : (zs.take len).length = len := by simp; omega
    refine ⟨some x, cap, by rw [hlen], by omega, fun i hi => ⟨x, rfl, ?_⟩⟩
    have hi' : i < zs.length := by simp at hi; omega
    have := h4 i hi'
    rw [List.getElem_take]
    rw [List.getD_eq_getElem?_getD, List.getElem?_eq_getElem hi'] at this
    exact this
theorem row_max {W : World} {a : Option Addr} {len cap : Nat} {zs : List Int} (h : IsRow .i64 W a len cap zs) : (zs.take len).length ≤ 9223372036854775807 := by
  rcases h with ⟨rfl, rfl, rfl, rfl⟩ | ⟨x, rfl, h1, h2, h3, _, _⟩
  · simp
  · have : maxLen = 9223372036854775807 := by decide
    simp; omega
theorem addr_zero (a : Addr) : a.add 0 = a := by unfold Addr.add; simp
theorem list_of {α : Type} : ∀ (n : Nat) (Q : Nat → α → Prop), (∀ i, i < n → ∃ b, Q i b) → ∃ l : List α, l.length = n ∧ ∀ i (h : i < l.length), Q i l[i]
  | 0, _, _ => ⟨[], rfl, fun i h => absurd h (by simp)⟩
  | n + 1, Q, h => by
    obtain ⟨l, hl, hq⟩ := list_of n Q (fun i hi => h i (by omega))
    obtain ⟨b, hb⟩ := h n (by omega)
    refine ⟨l ++ [b], by simp [hl], fun i hi => ?_⟩
    by_cases e : i < l.length
    · rw [List.getElem_append_left e]; exact hq i e
    · have : i = l.length := by simp at hi; omega
      subst this
      rw [List.getElem_append_right (by omega)]
      simp only [Nat.sub_self, List.getElem_cons_zero]
      rw [hl]; exact hb
theorem arr3 {α : Type} {a : Array α} (h : a.size = 3) : ∃ x0 x1 x2, a = #[x0, x1, x2] := by
  obtain ⟨l⟩ := a
  match l, h with
  | [x0, x1, x2], _ => exact ⟨x0, x1, x2, rfl⟩
theorem arr2 {α : Type} {a : Array α} (h : a.size = 2) : ∃ x0 x1, a = #[x0, x1] := by
  obtain ⟨l⟩ := a
  match l, h with
  | [x0, x1], _ => exact ⟨x0, x1, rfl⟩
theorem arr4 {α : Type} {a : Array α} (h : a.size = 4) : ∃ x0 x1 x2 x3, a = #[x0, x1, x2, x3] := by
  obtain ⟨l⟩ := a
  match l, h with
  | [x0, x1, x2, x3], _ => exact ⟨x0, x1, x2, x3, rfl⟩
theorem arr5 {α : Type} {a : Array α} (h : a.size = 5) : ∃ x0 x1 x2 x3 x4, a = #[x0, x1, x2, x3, x4] := by
  obtain ⟨l⟩ := a
  match l, h with
  | [x0, x1, x2, x3, x4], _ => exact ⟨x0, x1, x2, x3, x4, rfl⟩
theorem int_wf {n : Int} (h : (Lit.int .i64 n).wf = true) : -9223372036854775808 ≤ n ∧ n < 9223372036854775808 := by
  unfold Lit.wf at h
  simp [IntKind.min, IntKind.max, IntKind.signed, IntKind.bits] at h
  omega
open Go.ChangeShapes Go.WideShapes Go.ChangeAt in
theorem sl_of_elems {α B : Type} {en : α → Value} {Pr : α → Prop} {enc : TypeId × Value → B} {P : Program} {W : World} {base : Nat} {sp : Nat → Bool} {held : Bool} {t e : TypeId} {fuel : Nat} {cs : List Value} {x : DataW B × List MemPlace}
    (ht : P.underlying t = some (.slice e)) (hc : P.cellsOf e = 1) (each : ∀ n v y, DataW.trod enc P W base sp held n e [v] = some y → ∃ a, v = en a ∧ Pr a)
    (h : DataW.trod enc P W base sp held fuel t cs = some x) : ∃ v l, cs = [v] ∧ Sl en (whole W) v l ∧ l.length ≤ 9223372036854775807 ∧ ∀ a ∈ l, Pr a := by
  rcases DataW.trod_slice ht h with ⟨h0, _⟩ | ⟨a, len, cap, elems, rest, n, _, rfl, _, _, hl, hm, hlen, hel, _, _⟩
  · exact ⟨_, [], h0, Sl.nil 0 none, by simp, by simp⟩
  · have one : ∀ i, i < len → ∃ b, W.cell? (a.add i) = some (en b) ∧ Pr b := by
      intro i hi
      have h1 := hel i hi
      rw [hc, Nat.mul_one] at h1
      have h2 : elems[i]? = some (elems[i]'(by omega)) := List.getElem?_eq_getElem _
      rw [h2, Option.bind_eq_some_iff] at h1
      obtain ⟨cs', hcs, hy⟩ := h1
      have h3 : ∃ v, W.cell? (a.add i) = some v ∧ cs' = [v] := by
        unfold World.cells? at hcs
        split at hcs
        · simp only [List.range_succ, List.range_zero, List.nil_append, List.mapM_cons, List.mapM_nil, addr_zero] at hcs
          cases hw : W.cell? (a.add i) with
          | none => simp [hw] at hcs
          | some v => simp [hw] at hcs; exact ⟨v, rfl, hcs.symm⟩
        · simp at hcs
      obtain ⟨v, hv, rfl⟩ := h3
      obtain ⟨b, rfl, hb⟩ := each n v _ hy
      exact ⟨b, hv, hb⟩
    obtain ⟨l, hll, hlc⟩ := list_of len (fun i b => W.cell? (a.add i) = some (en b) ∧ Pr b) one
    refine ⟨_, l, rfl, ⟨some a, cap, by rw [hll], by omega, fun i hi => ⟨a, rfl, (hlc i hi).1⟩⟩, ?_, ?_⟩
    · have : maxLen = 9223372036854775807 := by decide
      omega
    · intro b hb
      obtain ⟨i, hi, rfl⟩ := List.getElem_of_mem hb
      exact (hlc i hi).2
open Go.ChangeShapes Go.WideShapes Go.ChangeAt in
theorem sl_of_ints {B : Type} {enc : TypeId × Value → B} {P : Program} {W : World} {base : Nat} {sp : Nat → Bool} {held : Bool} {t e : TypeId} {fuel : Nat} {cs : List Value} {x : DataW B × List MemPlace}
    (ht : P.underlying t = some (.slice e)) (he : P.underlying e = some (.int .i64)) (hc : P.cellsOf e = 1) (h : DataW.trod enc P W base sp held fuel t cs = some x) :
    ∃ v l, cs = [v] ∧ Sl eI (whole W) v l ∧ l.length ≤ 9223372036854775807 ∧ ∀ a ∈ l, -9223372036854775808 ≤ a ∧ a < 9223372036854775808 :=
  sl_of_elems ht hc (fun n v y hy => by obtain ⟨m, hm, _, hw⟩ := DataW.trod_int he hy; exact ⟨m, by simpa using hm, int_wf hw⟩) h
open Go.ChangeShapes Go.WideShapes Go.ChangeAt in
theorem sl_of_bools {B : Type} {enc : TypeId × Value → B} {P : Program} {W : World} {base : Nat} {sp : Nat → Bool} {held : Bool} {t e : TypeId} {fuel : Nat} {cs : List Value} {x : DataW B × List MemPlace}
    (ht : P.underlying t = some (.slice e)) (he : P.underlying e = some .bool) (hc : P.cellsOf e = 1) (h : DataW.trod enc P W base sp held fuel t cs = some x) :
    ∃ v l, cs = [v] ∧ Sl eB (whole W) v l ∧ l.length ≤ 9223372036854775807 ∧ ∀ a ∈ l, True :=
  sl_of_elems ht hc (fun n v y hy => by obtain ⟨m, hm, _⟩ := DataW.trod_bool he hy; exact ⟨m, by simpa using hm, trivial⟩) h
theorem trod_f32 {B : Type} {enc : TypeId × Value → B} {P : Program} {W : World} {base : Nat} {sp : Nat → Bool} {held : Bool} {e : TypeId} {n : Nat} {v : Value} {y : DataW B × List MemPlace}
    (he : P.underlying e = some (.float .f32)) (h : DataW.trod enc P W base sp held n e [v] = some y) : ∃ b, v = .float .f32 b ∧ b < 4294967296 := by
  cases n with
  | zero => simp [DataW.trod] at h
  | succ n =>
    cases v with
    | float k b =>
      simp only [DataW.trod, he] at h
      by_cases c : k = .f32 ∧ (Lit.float .f32 b).wf = true
      · obtain ⟨rfl, c2⟩ := c
        exact ⟨_, rfl, by simpa [Lit.wf] using c2⟩
      · rw [if_neg c] at h; simp at h
    | _ => simp [DataW.trod, he] at h
open Go.ChangeShapes Go.WideShapes Go.ChangeAt in
theorem sl_of_floats {B : Type} {enc : TypeId × Value → B} {P : Program} {W : World} {base : Nat} {sp : Nat → Bool} {held : Bool} {t e : TypeId} {fuel : Nat} {cs : List Value} {x : DataW B × List MemPlace}
    (ht : P.underlying t = some (.slice e)) (he : P.underlying e = some (.float .f32)) (hc : P.cellsOf e = 1) (h : DataW.trod enc P W base sp held fuel t cs = some x) :
    ∃ v l, cs = [v] ∧ Sl eF (whole W) v l ∧ l.length ≤ 9223372036854775807 ∧ ∀ a ∈ l, a < 4294967296 :=
  sl_of_elems ht hc (fun n v y hy => by obtain ⟨m, hm, hb⟩ := trod_f32 he hy; exact ⟨m, hm, hb⟩) h
end Go.Proofs.YtialllbbbpmkbaaDoor.HL
