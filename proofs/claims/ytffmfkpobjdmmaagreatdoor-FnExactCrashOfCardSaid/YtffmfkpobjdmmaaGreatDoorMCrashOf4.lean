/- Several texts in one. -/
import Derived.Test.YtffmfkpobjdmmaaGreatDoorMCrashOf2
import Derived.Test.YtffmfkpobjdmmaaGreatDoorMCrashOf3
import Derived.Test.YtffmfkpobjdmmaaGreatDoorMCrashOf0
import Derived.Sort.Grow
import Derived.Test.YtffmfkpobjdmmaaGreatDoorYS
/- Fields that are turned and mirrored: the program's and the reference's. -/
namespace Go.Proofs.YtffmfkpobjdmmaaGreatDoor
open HL
set_option maxRecDepth 100000
theorem C.spec_l05Turn {p vc : Value} {r c : Int} {l : List Int}  {H : Hp} {K : Value → Hp → Prop} (hp0 : Cel H p [(.int .i64 (r)), (.int .i64 (c)), vc]) (hvc0 : Sl eI H vc l) (hf : fieldN 1 r c l)
    (hk : ∀ u1 H', Own eI H' u1 (turL r c l) → Nw H u1 → Le H H' → K (.agg #[(.int .i64 (c)), (.int .i64 (r)), u1]) H') : HT prg I.spec_l05Turn [p].toArray H K := by
 have lE := Le.refl H
 have hp := hp0
 have hvc := hvc0
 refine R.spec_l05Turn ?_
 unfold F.spec_l05Turn
 have hs := hf.1
 have hl := hf.2.1
 have q1 := hs.1
 have q2 := hs.2
 have qm := sidesF_mul hs
 have qm2 : c * r = r * c := Int.mul_comm _ _
 refine nw_i (fun p1 H2 op1 nn3 le4 => ?_)
 have np1 : Nw H p1 := nn3.le lE
 replace hp := hp.le le4
 replace hvc := hvc.le le4
 replace lE := lE.trans le4
 replace op1 : Cel H2 p1 [(.int .i64 (0)), (.int .i64 (0)), (.slice none 0 0)] := op1
 refine ob_i (hp.nilC) ?_
 refine ob_i (hp.fa 1) ?_
 refine ob_i (hp.ld 1 rfl) ?_
 refine ob_i (hp.nilC) ?_
 refine ob_i (hp.fa 0) ?_
 refine ob_i (hp.ld 0 rfl) ?_
 refine C.spec_l04New (by first | omega | assumption) (by first | omega | assumption) (by first | omega | assumption) (by first | omega | assumption) (fun  u H5 ou nn7  le6 => ?_)
 have ap1Xu : Apart p1 u := op1.apart nn7
 have nu : Nw H u := nn7.le lE
 replace op1 := op1.le le6
 replace hp := hp.le le6
 replace hvc := hvc.le le6
 replace lE := lE.trans le6
 refine ⟨le6, ?_⟩
 refine nw_i (fun q H8 oq nn9 le10 => ?_)
 have ap1Xq : Apart p1 q := op1.apart nn9
 have auXq : Apart u q := ou.apart nn9
 have nq : Nw H q := nn9.le lE
 replace op1 := op1.le le10
 replace ou := ou.le le10
 replace hp := hp.le le10
 replace hvc := hvc.le le10
 replace lE := lE.trans le10
 replace oq : Cel H8 q [(.int .i64 (0)), (.int .i64 (0)), (.slice none 0 0)] := oq
 refine oq.stn (ws := [(.int .i64 (c)), (.int .i64 (r)), u]) rfl rfl (oc1 rfl (oc1 rfl (oc1 ou.one oc0))) (fun H11 oq off12 => ?_)
 replace op1 := op1.off off12 ap1Xq
 replace ou := ou.off off12 auXq
 replace hp := hp0.le (off12.le lE nq)
 replace hvc := hvc0.le (off12.le lE nq)
 replace lE := off12.le lE nq
 replace oq : Cel H11 q [(.int .i64 (c)), (.int .i64 (r)), u] := oq
 refine jn_i (fun σ' H' => σ' 2 = p1 ∧ σ' 3 = q ∧ Cel H' p1 [(.int .i64 (0)), (.int .i64 (0)), (.slice none 0 0)] ∧ Own eI H' u (mkL r (turG r c l) (c.toNat * r.toNat)) ∧ Cel H' q [(.int .i64 (c)), (.int .i64 (r)), u] ∧ Le H H') (fun σ13 H13 hP => ?_) (fun J13 hJ13 => ?_)
 ·skip
  obtain ⟨g2L13, g3L13, op1, ou, oq, lE⟩ := hP
  have hp := hp0.le lE
  have hvc := hvc0.le lE
  try simp only [g2L13, g3L13]
  refine ob_i (oq.ldn rfl) ?_
  refine op1.stn (ws := [(.int .i64 (c)), (.int .i64 (r)), u]) rfl rfl (oc1 rfl (oc1 rfl (oc1 ou.one oc0))) (fun H14 op1 off15 => ?_)
  replace ou := ou.off off15 ap1Xu.symm
  replace hp := hp0.le (off15.le lE np1)
  replace hvc := hvc0.le (off15.le lE np1)
  replace lE := off15.le lE np1
  replace op1 : Cel H14 p1 [(.int .i64 (c)), (.int .i64 (r)), u] := op1
  refine ob_i (op1.ldn rfl) ?_
  skip
  exact hk  u _ (Own.cast (show mkL r (turG r c l) (c.toNat * r.toNat) = turL r c l by rfl) ou) nu  lE
 refine ⟨fun n' σ' H' => ∃ i : Nat, n' = c.toNat - i ∧ i ≤ c.toNat ∧ σ' 0 = p ∧ σ' 2 = p1 ∧ σ' 3 = q ∧ σ' 4 = (.int .i64 ((i : Int))) ∧ Cel H' p1 [(.int .i64 (0)), (.int .i64 (0)), (.slice none 0 0)] ∧ Own eI H' u (fillL r (turG r c l) (c.toNat * r.toNat) (i * r.toNat)) ∧ Cel H' q [(.int .i64 (c)), (.int .i64 (r)), u] ∧ Le H H',
  ⟨_, 0, rfl, by omega, rfl, rfl, rfl, (congrArg (Value.int .i64) (by first | omega | rfl | (simp; done))), op1, (by rw [Nat.zero_mul, fillL_zero]; exact ou), oq, lE⟩, ?_⟩
 rintro n16 σ16 H16 ⟨i, rfl, hiN, g0L16, g2L16, g3L16, g4L16, op1, ou, oq, lE⟩
 have hp := hp0.le lE
 have hvc := hvc0.le lE
 try simp only [g3L16, g4L16]
 refine ob_i (oq.fa 0) ?_
 refine ob_i (oq.ld 0 rfl) ?_
 refine ob_i (vInt_lss _ _ _) ?_
 refine cnd_d (fun hg17 => ?_) (fun hg17 => ?_)
 ·skip
  have ti := hg17
  refine jn_i (fun σ' H' => σ' 0 = p ∧ σ' 2 = p1 ∧ σ' 3 = q ∧ σ' 4 = (.int .i64 ((i : Int))) ∧ Cel H' p1 [(.int .i64 (0)), (.int .i64 (0)), (.slice none 0 0)] ∧ Own eI H' u (fillL r (turG r c l) (c.toNat * r.toNat) ((i + 1) * r.toNat)) ∧ Cel H' q [(.int .i64 (c)), (.int .i64 (r)), u] ∧ Le H H') (fun σ18 H18 hP => ?_) (fun J18 hJ18 => ?_)
  ·skip
   obtain ⟨g0L18, g2L18, g3L18, g4L18, op1, ou, oq, lE⟩ := hP
   try simp only [g4L18]
   refine ob_i (vInt_add (by omega) (by omega)) ?_
   exact nxt (c.toNat - (i + 1)) (by omega) ⟨i + 1, rfl, by omega, g0L18, g2L18, g3L18, (congrArg (Value.int .i64) (by first | omega | rfl | (simp; done))), op1, ou, oq, lE⟩
  refine ⟨fun n' σ' H' => ∃ k : Nat, n' = r.toNat - k ∧ k ≤ r.toNat ∧ σ' 0 = p ∧ σ' 2 = p1 ∧ σ' 3 = q ∧ σ' 4 = (.int .i64 ((i : Int))) ∧ σ' 5 = (.int .i64 ((k : Int))) ∧ Cel H' p1 [(.int .i64 (0)), (.int .i64 (0)), (.slice none 0 0)] ∧ Own eI H' u (fillL r (turG r c l) (c.toNat * r.toNat) (i * r.toNat + k)) ∧ Cel H' q [(.int .i64 (c)), (.int .i64 (r)), u] ∧ Le H H',
   ⟨_, 0, rfl, by omega, g0L16, g2L16, g3L16, g4L16, (congrArg (Value.int .i64) (by first | omega | rfl | (simp; done))), op1, ou, oq, lE⟩, ?_⟩
  rintro n19 σ19 H19 ⟨k, rfl, hkN, g0L19, g2L19, g3L19, g4L19, g5L19, op1, ou, oq, lE⟩
  have hp := hp0.le lE
  have hvc := hvc0.le lE
  try simp only [g0L19, g3L19, g4L19, g5L19]
  refine ob_i (oq.fa 1) ?_
  refine ob_i (oq.ld 1 rfl) ?_
  refine ob_i (vInt_lss _ _ _) ?_
  refine cnd_d (fun hg20 => ?_) (fun hg20 => ?_)
  ·skip
   have tk := hg20
   have x1 := ix_lt (a := (i : Int)) (b := (k : Int)) (r := c) (c := r) (by omega) (by omega) (by omega) (by omega)
   have x3 := fillL_len (c := r) (g := turG r c l) (rr := c) (cc := r) (t := i * r.toNat + k) (by omega) (by omega)
   have x2 := ix_lt (a := r - 1 - (k : Int)) (b := (i : Int)) (r := r) (c := c) (by omega) (by omega) (by omega) (by omega)
   refine ob_i (oq.fa 2) ?_
   refine ob_i (oq.ld 2 rfl) ?_
   refine ob_i (oq.fa 1) ?_
   refine ob_i (oq.ld 1 rfl) ?_
   refine ob_i (vInt_mul (by omega) (by omega)) ?_
   refine ob_i (vInt_add (by omega) (by omega)) ?_
   refine ob_i (hp.nilC) ?_
   refine ob_i (hp.fa 2) ?_
   refine ob_i (hp.ld 2 rfl) ?_
   refine ob_i (hp.nilC) ?_
   refine ob_i (hp.fa 0) ?_
   refine ob_i (hp.ld 0 rfl) ?_
   refine ob_i (vInt_sub (by omega) (by omega)) ?_
   refine ob_i (vInt_sub (by omega) (by omega)) ?_
   refine ob_i (hp.nilC) ?_
   refine ob_i (hp.fa 1) ?_
   refine ob_i (hp.ld 1 rfl) ?_
   refine ob_i (vInt_mul (by omega) (by omega)) ?_
   refine ob_i (vInt_add (by omega) (by omega)) ?_
   refine ob_i (hvc.ix (by omega) (by omega)) ?_
   refine ob_i (hvc.ld 0 (by omega) (by omega)) ?_
   refine ob_i (ou.sl.ix (by omega) (by omega)) ?_
   refine ou.st (x := at_ 0 (l) ((((r - 1) - (k : Int)) * c) + (i : Int))) (by omega) (by omega) rfl rfl (fun H21 ou off22 => ?_)
   replace op1 := op1.off off22 ap1Xu
   replace oq := oq.off off22 auXq.symm
   replace hp := hp0.le (off22.le lE nu)
   replace hvc := hvc0.le (off22.le lE nu)
   replace lE := off22.le lE nu
   refine ob_i (vInt_add (by omega) (by omega)) ?_
   replace ou : Own eI H21 u (fillL r (turG r c l) (c.toNat * r.toNat) (i * r.toNat + (k + 1))) := by rw [← Nat.add_assoc, ← fillL_set (c := r) (g := turG r c l) (i := (i : Int)) (k := (k : Int)) (by omega) (by omega) (by omega) (cast_ix (by omega)) (by omega)]; exact ou
   exact nxt (r.toNat - (k + 1)) (by omega) ⟨k + 1, rfl, by omega, g0L19, g2L19, g3L19, g4L19, (congrArg (Value.int .i64) (by first | omega | rfl | (simp; done))), op1, ou, oq, lE⟩
  ·skip
   have tk := hg20
   rw [show i * r.toNat + k = (i + 1) * r.toNat by rw [Nat.add_mul, Nat.one_mul]; omega] at ou
   exact hJ18 _ _ ⟨g0L19, g2L19, g3L19, g4L19, op1, ou, oq, lE⟩
 ·skip
  have ti := hg17
  rw [fillL_end (by rw [show i = c.toNat by omega]; exact Nat.le_refl _)] at ou
  exact hJ13 _ _ ⟨g2L16, g3L16, op1, ou, oq, lE⟩
theorem C.spec_l05Mirror {p vc : Value} {r c : Int} {l : List Int}  {H : Hp} {K : Value → Hp → Prop} (hp0 : Cel H p [(.int .i64 (r)), (.int .i64 (c)), vc]) (hvc0 : Sl eI H vc l) (hf : fieldN 1 r c l)
    (hk : ∀ u1 H', Own eI H' u1 (mirL r c l) → Nw H u1 → Le H H' → K (.agg #[(.int .i64 (r)), (.int .i64 (c)), u1]) H') : HT prg I.spec_l05Mirror [p].toArray H K := by
 have lE := Le.refl H
 have hp := hp0
 have hvc := hvc0
 refine R.spec_l05Mirror ?_
 unfold F.spec_l05Mirror
 have hs := hf.1
 have hl := hf.2.1
 have q1 := hs.1
 have q2 := hs.2
 have qm := sidesF_mul hs
 refine nw_i (fun p1 H2 op1 nn3 le4 => ?_)
 have np1 : Nw H p1 := nn3.le lE
 replace hp := hp.le le4
 replace hvc := hvc.le le4
 replace lE := lE.trans le4
 replace op1 : Cel H2 p1 [(.int .i64 (0)), (.int .i64 (0)), (.slice none 0 0)] := op1
 refine ob_i (hp.nilC) ?_
 refine ob_i (hp.fa 0) ?_
 refine ob_i (hp.ld 0 rfl) ?_
 refine ob_i (hp.nilC) ?_
 refine ob_i (hp.fa 1) ?_
 refine ob_i (hp.ld 1 rfl) ?_
 refine C.spec_l04New (by first | omega | assumption) (by first | omega | assumption) (by first | omega | assumption) (by first | omega | assumption) (fun  u H5 ou nn7  le6 => ?_)
 have ap1Xu : Apart p1 u := op1.apart nn7
 have nu : Nw H u := nn7.le lE
 replace op1 := op1.le le6
 replace hp := hp.le le6
 replace hvc := hvc.le le6
 replace lE := lE.trans le6
 refine ⟨le6, ?_⟩
 refine nw_i (fun q H8 oq nn9 le10 => ?_)
 have ap1Xq : Apart p1 q := op1.apart nn9
 have auXq : Apart u q := ou.apart nn9
 have nq : Nw H q := nn9.le lE
 replace op1 := op1.le le10
 replace ou := ou.le le10
 replace hp := hp.le le10
 replace hvc := hvc.le le10
 replace lE := lE.trans le10
 replace oq : Cel H8 q [(.int .i64 (0)), (.int .i64 (0)), (.slice none 0 0)] := oq
 refine oq.stn (ws := [(.int .i64 (r)), (.int .i64 (c)), u]) rfl rfl (oc1 rfl (oc1 rfl (oc1 ou.one oc0))) (fun H11 oq off12 => ?_)
 replace op1 := op1.off off12 ap1Xq
 replace ou := ou.off off12 auXq
 replace hp := hp0.le (off12.le lE nq)
 replace hvc := hvc0.le (off12.le lE nq)
 replace lE := off12.le lE nq
 replace oq : Cel H11 q [(.int .i64 (r)), (.int .i64 (c)), u] := oq
 refine jn_i (fun σ' H' => σ' 2 = p1 ∧ σ' 3 = q ∧ Cel H' p1 [(.int .i64 (0)), (.int .i64 (0)), (.slice none 0 0)] ∧ Own eI H' u (mkL c (mirG c l) (r.toNat * c.toNat)) ∧ Cel H' q [(.int .i64 (r)), (.int .i64 (c)), u] ∧ Le H H') (fun σ13 H13 hP => ?_) (fun J13 hJ13 => ?_)
 ·skip
  obtain ⟨g2L13, g3L13, op1, ou, oq, lE⟩ := hP
  have hp := hp0.le lE
  have hvc := hvc0.le lE
  try simp only [g2L13, g3L13]
  refine ob_i (oq.ldn rfl) ?_
  refine op1.stn (ws := [(.int .i64 (r)), (.int .i64 (c)), u]) rfl rfl (oc1 rfl (oc1 rfl (oc1 ou.one oc0))) (fun H14 op1 off15 => ?_)
  replace ou := ou.off off15 ap1Xu.symm
  replace hp := hp0.le (off15.le lE np1)
  replace hvc := hvc0.le (off15.le lE np1)
  replace lE := off15.le lE np1
  replace op1 : Cel H14 p1 [(.int .i64 (r)), (.int .i64 (c)), u] := op1
  refine ob_i (op1.ldn rfl) ?_
  skip
  exact hk  u _ (Own.cast (show mkL c (mirG c l) (r.toNat * c.toNat) = mirL r c l by rfl) ou) nu  lE
 refine ⟨fun n' σ' H' => ∃ i : Nat, n' = r.toNat - i ∧ i ≤ r.toNat ∧ σ' 0 = p ∧ σ' 2 = p1 ∧ σ' 3 = q ∧ σ' 4 = (.int .i64 ((i : Int))) ∧ Cel H' p1 [(.int .i64 (0)), (.int .i64 (0)), (.slice none 0 0)] ∧ Own eI H' u (fillL c (mirG c l) (r.toNat * c.toNat) (i * c.toNat)) ∧ Cel H' q [(.int .i64 (r)), (.int .i64 (c)), u] ∧ Le H H',
  ⟨_, 0, rfl, by omega, rfl, rfl, rfl, (congrArg (Value.int .i64) (by first | omega | rfl | (simp; done))), op1, (by rw [Nat.zero_mul, fillL_zero]; exact ou), oq, lE⟩, ?_⟩
 rintro n16 σ16 H16 ⟨i, rfl, hiN, g0L16, g2L16, g3L16, g4L16, op1, ou, oq, lE⟩
 have hp := hp0.le lE
 have hvc := hvc0.le lE
 try simp only [g0L16, g4L16]
 refine ob_i (hp.nilC) ?_
 refine ob_i (hp.fa 0) ?_
 refine ob_i (hp.ld 0 rfl) ?_
 refine ob_i (vInt_lss _ _ _) ?_
 refine cnd_d (fun hg17 => ?_) (fun hg17 => ?_)
 ·skip
  have ti := hg17
  refine jn_i (fun σ' H' => σ' 0 = p ∧ σ' 2 = p1 ∧ σ' 3 = q ∧ σ' 4 = (.int .i64 ((i : Int))) ∧ Cel H' p1 [(.int .i64 (0)), (.int .i64 (0)), (.slice none 0 0)] ∧ Own eI H' u (fillL c (mirG c l) (r.toNat * c.toNat) ((i + 1) * c.toNat)) ∧ Cel H' q [(.int .i64 (r)), (.int .i64 (c)), u] ∧ Le H H') (fun σ18 H18 hP => ?_) (fun J18 hJ18 => ?_)
  ·skip
   obtain ⟨g0L18, g2L18, g3L18, g4L18, op1, ou, oq, lE⟩ := hP
   try simp only [g4L18]
   refine ob_i (vInt_add (by omega) (by omega)) ?_
   exact nxt (r.toNat - (i + 1)) (by omega) ⟨i + 1, rfl, by omega, g0L18, g2L18, g3L18, (congrArg (Value.int .i64) (by first | omega | rfl | (simp; done))), op1, ou, oq, lE⟩
  refine ⟨fun n' σ' H' => ∃ k : Nat, n' = c.toNat - k ∧ k ≤ c.toNat ∧ σ' 0 = p ∧ σ' 2 = p1 ∧ σ' 3 = q ∧ σ' 4 = (.int .i64 ((i : Int))) ∧ σ' 5 = (.int .i64 ((k : Int))) ∧ Cel H' p1 [(.int .i64 (0)), (.int .i64 (0)), (.slice none 0 0)] ∧ Own eI H' u (fillL c (mirG c l) (r.toNat * c.toNat) (i * c.toNat + k)) ∧ Cel H' q [(.int .i64 (r)), (.int .i64 (c)), u] ∧ Le H H',
   ⟨_, 0, rfl, by omega, g0L16, g2L16, g3L16, g4L16, (congrArg (Value.int .i64) (by first | omega | rfl | (simp; done))), op1, ou, oq, lE⟩, ?_⟩
  rintro n19 σ19 H19 ⟨k, rfl, hkN, g0L19, g2L19, g3L19, g4L19, g5L19, op1, ou, oq, lE⟩
  have hp := hp0.le lE
  have hvc := hvc0.le lE
  try simp only [g0L19, g3L19, g4L19, g5L19]
  refine ob_i (hp.nilC) ?_
  refine ob_i (hp.fa 1) ?_
  refine ob_i (hp.ld 1 rfl) ?_
  refine ob_i (vInt_lss _ _ _) ?_
  refine cnd_d (fun hg20 => ?_) (fun hg20 => ?_)
  ·skip
   have tk := hg20
   have x1 := ix_lt (a := (i : Int)) (b := (k : Int)) (r := r) (c := c) (by omega) (by omega) (by omega) (by omega)
   have x3 := fillL_len (c := c) (g := mirG c l) (rr := r) (cc := c) (t := i * c.toNat + k) (by omega) (by omega)
   have eJ : ((i : Int) + 1) * c = (i : Int) * c + c := by rw [Int.add_mul, Int.one_mul]
   have x2 := ix_lt (a := (i : Int)) (b := c - 1 - (k : Int)) (r := r) (c := c) (by omega) (by omega) (by omega) (by omega)
   refine ob_i (oq.fa 2) ?_
   refine ob_i (oq.ld 2 rfl) ?_
   refine ob_i (hp.nilC) ?_
   refine ob_i (hp.fa 1) ?_
   refine ob_i (hp.ld 1 rfl) ?_
   refine ob_i (vInt_mul (by omega) (by omega)) ?_
   refine ob_i (vInt_add (by omega) (by omega)) ?_
   refine ob_i (hp.nilC) ?_
   refine ob_i (hp.fa 2) ?_
   refine ob_i (hp.ld 2 rfl) ?_
   refine ob_i (vInt_add (by omega) (by omega)) ?_
   refine ob_i (hp.nilC) ?_
   refine ob_i (hp.fa 1) ?_
   refine ob_i (hp.ld 1 rfl) ?_
   refine ob_i (vInt_mul (by omega) (by omega)) ?_
   refine ob_i (vInt_sub (by omega) (by omega)) ?_
   refine ob_i (vInt_sub (by omega) (by omega)) ?_
   refine ob_i (hvc.ix (by omega) (by omega)) ?_
   refine ob_i (hvc.ld 0 (by omega) (by omega)) ?_
   refine ob_i (ou.sl.ix (by omega) (by omega)) ?_
   refine ou.st (x := at_ 0 (l) (((((i : Int) + 1) * c) - 1) - (k : Int))) (by omega) (by omega) rfl rfl (fun H21 ou off22 => ?_)
   replace op1 := op1.off off22 ap1Xu
   replace oq := oq.off off22 auXq.symm
   replace hp := hp0.le (off22.le lE nu)
   replace hvc := hvc0.le (off22.le lE nu)
   replace lE := off22.le lE nu
   refine ob_i (vInt_add (by omega) (by omega)) ?_
   rw [show ((i : Int) + 1) * c - 1 - (k : Int) = (i : Int) * c + (c - 1 - (k : Int)) by omega] at ou
   replace ou : Own eI H21 u (fillL c (mirG c l) (r.toNat * c.toNat) (i * c.toNat + (k + 1))) := by rw [← Nat.add_assoc, ← fillL_set (c := c) (g := mirG c l) (i := (i : Int)) (k := (k : Int)) (by omega) (by omega) (by omega) (cast_ix (by omega)) (by omega)]; exact ou
   exact nxt (c.toNat - (k + 1)) (by omega) ⟨k + 1, rfl, by omega, g0L19, g2L19, g3L19, g4L19, (congrArg (Value.int .i64) (by first | omega | rfl | (simp; done))), op1, ou, oq, lE⟩
  ·skip
   have tk := hg20
   rw [show i * c.toNat + k = (i + 1) * c.toNat by rw [Nat.add_mul, Nat.one_mul]; omega] at ou
   exact hJ18 _ _ ⟨g0L19, g2L19, g3L19, g4L19, op1, ou, oq, lE⟩
 ·skip
  have ti := hg17
  rw [fillL_end (by rw [show i = r.toNat by omega]; exact Nat.le_refl _)] at ou
  exact hJ13 _ _ ⟨g2L16, g3L16, op1, ou, oq, lE⟩
theorem C.impl_Field_right_1 {p vc : Value} {i k r c : Int} {l : List Int}  {H : Hp} {K : Value → Hp → Prop} (hp0 : Cel H p [(.int .i64 (r)), (.int .i64 (c)), vc]) (hvc0 : Sl eI H vc l) (hf : fieldN 1 r c l) (i0 : 0 ≤ i) (j0 : 0 ≤ k) (i1 : i < c) (j1 : k < r)
    (hk : ∀ H', Le H H' → K (.int .i64 (turG r c l i k)) H') : HT prg I.impl_Field_right_1 [(.int .i64 (i)), (.int .i64 (k)), p].toArray H K := by
 have lE := Le.refl H
 have hp := hp0
 have hvc := hvc0
 refine R.impl_Field_right_1 ?_
 unfold F.impl_Field_right_1
 have hs := hf.1
 have hl := hf.2.1
 have q1 := hs.1
 have q2 := hs.2
 have qm := sidesF_mul hs
 have x2 := ix_lt (a := r - 1 - k) (b := i) (r := r) (c := c) (by omega) (by omega) (by omega) (by omega)
 refine ob_i (hp.ldn rfl) ?_
 refine ob_i (hp.fa 0) ?_
 refine ob_i (hp.ld 0 rfl) ?_
 refine ob_i (vInt_sub (by omega) (by omega)) ?_
 refine ob_i (vInt_sub (by omega) (by omega)) ?_
 refine C.impl_Field_at hvc (by first | omega | assumption) (by first | omega | assumption) (by first | omega | assumption) (by first | omega | assumption) (by first | omega | assumption) (fun   H1    le2 => ?_)
 replace lE := lE.trans le2
 skip
 exact keq (K := K) (by rw [show ((at_ 0 l (((r - 1) - k) * c + i)) : Int) = (turG r c l i k) from by rfl]) (hk   _    lE)
theorem C.impl_Field_mirrored_1 {p vc : Value} {i k r c : Int} {l : List Int}  {H : Hp} {K : Value → Hp → Prop} (hp0 : Cel H p [(.int .i64 (r)), (.int .i64 (c)), vc]) (hvc0 : Sl eI H vc l) (hf : fieldN 1 r c l) (i0 : 0 ≤ i) (j0 : 0 ≤ k) (i1 : i < r) (j1 : k < c)
    (hk : ∀ H', Le H H' → K (.int .i64 (mirG c l i k)) H') : HT prg I.impl_Field_mirrored_1 [(.int .i64 (i)), (.int .i64 (k)), p].toArray H K := by
 have lE := Le.refl H
 have hp := hp0
 have hvc := hvc0
 refine R.impl_Field_mirrored_1 ?_
 unfold F.impl_Field_mirrored_1
 have hs := hf.1
 have hl := hf.2.1
 have q1 := hs.1
 have q2 := hs.2
 have qm := sidesF_mul hs
 have x2 := ix_lt (a := i) (b := c - 1 - k) (r := r) (c := c) (by omega) (by omega) (by omega) (by omega)
 refine ob_i (hp.ldn rfl) ?_
 refine ob_i (hp.fa 1) ?_
 refine ob_i (hp.ld 1 rfl) ?_
 refine ob_i (vInt_sub (by omega) (by omega)) ?_
 refine ob_i (vInt_sub (by omega) (by omega)) ?_
 refine C.impl_Field_at hvc (by first | omega | assumption) (by first | omega | assumption) (by first | omega | assumption) (by first | omega | assumption) (by first | omega | assumption) (fun   H1    le2 => ?_)
 replace lE := lE.trans le2
 skip
 exact keq (K := K) (by rw [show ((at_ 0 l (i * c + ((c - 1) - k))) : Int) = (mirG c l i k) from by rfl]) (hk   _    lE)
theorem C.impl_Field_right {vc : Value} {r c : Int} {l : List Int}  {H : Hp} {K : Value → Hp → Prop} (hvc0 : Sl eI H vc l) (hf : fieldN 1 r c l)
    (hk : ∀ u1 H', Own eI H' u1 (turL r c l) → Nw H u1 → Le H H' → K (.agg #[(.int .i64 (c)), (.int .i64 (r)), u1]) H') : HT prg I.impl_Field_right [(.agg #[(.int .i64 (r)), (.int .i64 (c)), vc])].toArray H K := by
 have lE := Le.refl H
 have hvc := hvc0
 refine R.impl_Field_right ?_
 unfold F.impl_Field_right
 have hs := hf.1
 have hl := hf.2.1
 have q1 := hs.1
 have q2 := hs.2
 have qm := sidesF_mul hs
 refine nw_i (fun p1 H2 op1 nn3 le4 => ?_)
 replace hvc := hvc.le le4
 replace lE := lE.trans le4
 replace op1 : Cel H2 p1 [(.int .i64 (r)), (.int .i64 (c)), vc] := op1
 refine nw_i (fun p5 H6 op5 nn7 le8 => ?_)
 have np5 : Nw H p5 := nn7.le lE
 replace op1 := op1.le le8
 replace hvc := hvc.le le8
 replace lE := lE.trans le8
 replace op5 : Cel H6 p5 [(.int .i64 (0)), (.int .i64 (0)), (.slice none 0 0)] := op5
 refine ob_i (op1.fa 1) ?_
 refine ob_i (op1.ld 1 rfl) ?_
 refine ob_i (op1.fa 0) ?_
 refine ob_i (op1.ld 0 rfl) ?_
 refine C.impl_madeField (g := turG r c l) (by omega) (by omega) (by omega) (by omega) (fun H13c i13 k13 Z leZ hi13 hk13 hZ => ?_) (fun u9 H10 ou9 nn11 le12 => ?_)
 ·refine ⟨by kernel_rfl, ?_⟩
  replace op1 := op1.le leZ
  replace hvc := hvc.le leZ
  replace lE := lE.trans leZ
  have lZ := Le.refl H13c
  refine C.impl_Field_right_1 op1 hvc (by first | omega | assumption) (by first | omega | assumption) (by first | omega | assumption) (by first | omega | assumption) (by first | omega | assumption) (fun   H14    le15 => ?_)
  replace lE := lE.trans le15
  replace lZ := lZ.trans le15
  exact keq (K := Z) (by rw [show ((turG r c l (i13 : Int) (k13 : Int)) : Int) = (turG r c l) (i13 : Int) (k13 : Int) from rfl]) (hZ _ lZ)
 have ap5Xu9 : Apart p5 u9 := op5.apart nn11
 have nu9 : Nw H u9 := nn11.le lE
 replace op5 := op5.le le12
 replace hvc := hvc.le le12
 replace lE := lE.trans le12
 refine op5.stn (ws := [(.int .i64 (c)), (.int .i64 (r)), u9]) rfl rfl (oc1 rfl (oc1 rfl (oc1 ou9.one oc0))) (fun H16 op5 off17 => ?_)
 replace ou9 := ou9.off off17 ap5Xu9.symm
 replace hvc := hvc0.le (off17.le lE np5)
 replace lE := off17.le lE np5
 replace op5 : Cel H16 p5 [(.int .i64 (c)), (.int .i64 (r)), u9] := op5
 refine ob_i (op5.ldn rfl) ?_
 skip
 exact hk  u9 _ (Own.cast (show mkL (r) (turG r c l) ((c : Int).toNat * (r : Int).toNat) = turL r c l by rfl) ou9) nu9  lE
theorem C.impl_Field_mirrored {vc : Value} {r c : Int} {l : List Int}  {H : Hp} {K : Value → Hp → Prop} (hvc0 : Sl eI H vc l) (hf : fieldN 1 r c l)
    (hk : ∀ u1 H', Own eI H' u1 (mirL r c l) → Nw H u1 → Le H H' → K (.agg #[(.int .i64 (r)), (.int .i64 (c)), u1]) H') : HT prg I.impl_Field_mirrored [(.agg #[(.int .i64 (r)), (.int .i64 (c)), vc])].toArray H K := by
 have lE := Le.refl H
 have hvc := hvc0
 refine R.impl_Field_mirrored ?_
 unfold F.impl_Field_mirrored
 have hs := hf.1
 have hl := hf.2.1
 have q1 := hs.1
 have q2 := hs.2
 have qm := sidesF_mul hs
 refine nw_i (fun p1 H2 op1 nn3 le4 => ?_)
 replace hvc := hvc.le le4
 replace lE := lE.trans le4
 replace op1 : Cel H2 p1 [(.int .i64 (r)), (.int .i64 (c)), vc] := op1
 refine nw_i (fun p5 H6 op5 nn7 le8 => ?_)
 have np5 : Nw H p5 := nn7.le lE
 replace op1 := op1.le le8
 replace hvc := hvc.le le8
 replace lE := lE.trans le8
 replace op5 : Cel H6 p5 [(.int .i64 (0)), (.int .i64 (0)), (.slice none 0 0)] := op5
 refine ob_i (op1.fa 0) ?_
 refine ob_i (op1.ld 0 rfl) ?_
 refine ob_i (op1.fa 1) ?_
 refine ob_i (op1.ld 1 rfl) ?_
 refine C.impl_madeField (g := mirG c l) (by omega) (by omega) (by omega) (by omega) (fun H13c i13 k13 Z leZ hi13 hk13 hZ => ?_) (fun u9 H10 ou9 nn11 le12 => ?_)
 ·refine ⟨by kernel_rfl, ?_⟩
  replace op1 := op1.le leZ
  replace hvc := hvc.le leZ
  replace lE := lE.trans leZ
  have lZ := Le.refl H13c
  refine C.impl_Field_mirrored_1 op1 hvc (by first | omega | assumption) (by first | omega | assumption) (by first | omega | assumption) (by first | omega | assumption) (by first | omega | assumption) (fun   H14    le15 => ?_)
  replace lE := lE.trans le15
  replace lZ := lZ.trans le15
  exact keq (K := Z) (by rw [show ((mirG c l (i13 : Int) (k13 : Int)) : Int) = (mirG c l) (i13 : Int) (k13 : Int) from rfl]) (hZ _ lZ)
 have ap5Xu9 : Apart p5 u9 := op5.apart nn11
 have nu9 : Nw H u9 := nn11.le lE
 replace op5 := op5.le le12
 replace hvc := hvc.le le12
 replace lE := lE.trans le12
 refine op5.stn (ws := [(.int .i64 (r)), (.int .i64 (c)), u9]) rfl rfl (oc1 rfl (oc1 rfl (oc1 ou9.one oc0))) (fun H16 op5 off17 => ?_)
 replace ou9 := ou9.off off17 ap5Xu9.symm
 replace hvc := hvc0.le (off17.le lE np5)
 replace lE := off17.le lE np5
 replace op5 : Cel H16 p5 [(.int .i64 (r)), (.int .i64 (c)), u9] := op5
 refine ob_i (op5.ldn rfl) ?_
 skip
 exact hk  u9 _ (Own.cast (show mkL (c) (mirG c l) ((r : Int).toNat * (c : Int).toNat) = mirL r c l by rfl) ou9) nu9  lE
theorem C.spec_l05Images {p vc : Value} {r c : Int} {l : List Int}  {H : Hp} {K : Value → Hp → Prop} (hp0 : Cel H p [(.int .i64 (r)), (.int .i64 (c)), vc]) (hvc0 : Sl eI H vc l) (hf : fieldN 1 r c l)
    (hk : ∀ u1 Su1 H', Fam H' u1 Su1 (imgs (⟨r, c, l⟩ : FdL) 8) → Nws H Su1 → Le H H' → K u1 H') : HT prg I.spec_l05Images [p].toArray H K := by
 have lE := Le.refl H
 have hp := hp0
 have hvc := hvc0
 refine R.spec_l05Images ?_
 unfold F.spec_l05Images
 have hs := hf.1
 have hl := hf.2.1
 have q1 := hs.1
 have q2 := hs.2
 have qm := sidesF_mul hs
 refine bSE_fam (fun u1 Su1 H2 ou1 nn3 le5 => ?_)
 have nu1 : Nws H Su1 := nn3.le lE
 replace hp := hp.le le5
 replace hvc := hvc.le le5
 replace lE := lE.trans le5
 refine ob_i (hp.nilC) ?_
 refine ob_i (hp.fa 0) ?_
 refine ob_i (hp.ld 0 rfl) ?_
 refine ob_i (hp.nilC) ?_
 refine ob_i (hp.fa 1) ?_
 refine ob_i (hp.ld 1 rfl) ?_
 refine C.spec_l05Cut hp hvc (by first | omega | assumption) (by first | omega | assumption) (by first | omega | assumption) (by first | omega | assumption) (by first | omega | assumption) (by first | omega | assumption) (by first | omega | assumption) (by first | omega | assumption) (fun  u8 H6 ou8 nn9  le7 => ?_)
 have au1Xu8 : Apt Su1 u8 := Apt.of_nw ou1.known nn9
 have nu8 : Nw H u8 := nn9.le lE
 replace ou1 := ou1.le le7
 replace hp := hp.le le7
 replace hvc := hvc.le le7
 replace lE := lE.trans le7
 refine ⟨le7, ?_⟩
 refine nw_i (fun q H10 oq nn11 le12 => ?_)
 have au1Xq : Apt Su1 q := Apt.of_nw ou1.known nn11
 have au8Xq : Apart u8 q := ou8.apart nn11
 have nq : Nw H q := nn11.le lE
 replace ou1 := ou1.le le12
 replace ou8 := ou8.le le12
 replace hp := hp.le le12
 replace hvc := hvc.le le12
 replace lE := lE.trans le12
 replace oq : Cel H10 q [(.int .i64 (0)), (.int .i64 (0)), (.slice none 0 0)] := oq
 refine oq.stn (ws := [(.int .i64 (r)), (.int .i64 (c)), u8]) rfl rfl (oc1 rfl (oc1 rfl (oc1 ou8.one oc0))) (fun H13 oq off14 => ?_)
 replace ou1 := ou1.off off14 au1Xq
 replace ou8 := ou8.off off14 au8Xq
 replace hp := hp0.le (off14.le lE nq)
 replace hvc := hvc0.le (off14.le lE nq)
 replace lE := off14.le lE nq
 replace oq : Cel H13 q [(.int .i64 (r)), (.int .i64 (c)), u8] := oq
 refine jn_i (fun σ' H' => ∃ u, ∃ Su, ∃ g, σ' 3 = u ∧ Cel H' q [(.int .i64 ((imB (⟨r, c, l⟩ : FdL) 2).r)), (.int .i64 ((imB (⟨r, c, l⟩ : FdL) 2).c)), g] ∧ Fam H' u Su (imgs (⟨r, c, l⟩ : FdL) 8) ∧ Own eI H' g ((imB (⟨r, c, l⟩ : FdL) 2).l) ∧ Nws H Su ∧ Apt q Su ∧ Nw H g ∧ Apart q g ∧ Apt Su g ∧ Le H H') (fun σ15 H15 hP => ?_) (fun J15 hJ15 => ?_)
 ·skip
  obtain ⟨u, Su, g, g3L15, oq, ou, og, nu, aqXu, ng, aqXg, auXg, lE⟩ := hP
  try simp only [g3L15]
  skip
  exact hk  u _ _ ou nu  lE
 refine ⟨fun n' σ' H' => ∃ i : Nat, n' = 2 - i ∧ i ≤ 2 ∧ ∃ u, ∃ Su, ∃ g, σ' 0 = p ∧ σ' 3 = u ∧ σ' 4 = q ∧ σ' 5 = (.int .i64 ((i : Int))) ∧ Cel H' q [(.int .i64 ((imB (⟨r, c, l⟩ : FdL) i).r)), (.int .i64 ((imB (⟨r, c, l⟩ : FdL) i).c)), g] ∧ Fam H' u Su (imgs (⟨r, c, l⟩ : FdL) (4 * i)) ∧ Own eI H' g ((imB (⟨r, c, l⟩ : FdL) i).l) ∧ Nws H Su ∧ Apt q Su ∧ Nw H g ∧ Apart q g ∧ Apt Su g ∧ Le H H',
  ⟨_, 0, rfl, by omega, u1, _, u8, rfl, rfl, rfl, (congrArg (Value.int .i64) (by first | omega | rfl | (simp; done))), oq, (Fam.cast (by first | rfl | (simp; done)) ou1), (Own.cast (by exact cut_all (by omega) (by omega) hl) ou8), nu1, au1Xq.symm, nu8, au8Xq.symm, au1Xu8, lE⟩, ?_⟩
 rintro n16 σ16 H16 ⟨i, rfl, hiN, u, Su, g, g0L16, g3L16, g4L16, g5L16, oq, ou, og, nu, aqXu, ng, aqXg, auXg, lE⟩
 have hp := hp0.le lE
 have hvc := hvc0.le lE
 try simp only [g5L16]
 have hB : okF (imB (⟨r, c, l⟩ : FdL) i) := imB_ok (f := (⟨r, c, l⟩ : FdL)) hf i
 have hiL := imgs_len (⟨r, c, l⟩ : FdL) (4 * i)
 refine ob_i (vInt_lss _ _ _) ?_
 refine cnd_d (fun hg17 => ?_) (fun hg17 => ?_)
 ·skip
  have ti := hg17
  refine jn_i (fun σ' H' => ∃ u, ∃ Su, ∃ g, σ' 0 = p ∧ σ' 3 = u ∧ σ' 4 = q ∧ σ' 5 = (.int .i64 ((i : Int))) ∧ Cel H' q [(.int .i64 ((imB (⟨r, c, l⟩ : FdL) (i + 1)).r)), (.int .i64 ((imB (⟨r, c, l⟩ : FdL) (i + 1)).c)), g] ∧ Fam H' u Su (imgs (⟨r, c, l⟩ : FdL) (4 * (i + 1))) ∧ Own eI H' g ((imB (⟨r, c, l⟩ : FdL) (i + 1)).l) ∧ Nws H Su ∧ Apt q Su ∧ Nw H g ∧ Apart q g ∧ Apt Su g ∧ Le H H') (fun σ18 H18 hP => ?_) (fun J18 hJ18 => ?_)
  ·skip
   obtain ⟨u, Su, g, g0L18, g3L18, g4L18, g5L18, oq, ou, og, nu, aqXu, ng, aqXg, auXg, lE⟩ := hP
   try simp only [g5L18]
   refine ob_i (vInt_add (by omega) (by omega)) ?_
   exact nxt (2 - (i + 1)) (by omega) ⟨i + 1, rfl, by omega, u, _, g, g0L18, g3L18, g4L18, (congrArg (Value.int .i64) (by first | omega | rfl | (simp; done))), oq, ou, og, nu, aqXu, ng, aqXg, auXg, lE⟩
  refine jn_i (fun σ' H' => ∃ u, ∃ Su, ∃ g, σ' 0 = p ∧ σ' 3 = u ∧ σ' 4 = q ∧ σ' 5 = (.int .i64 ((i : Int))) ∧ Cel H' q [(.int .i64 ((imK (imB (⟨r, c, l⟩ : FdL) i) 4).r)), (.int .i64 ((imK (imB (⟨r, c, l⟩ : FdL) i) 4).c)), g] ∧ Fam H' u Su (imgs (⟨r, c, l⟩ : FdL) (4 * (i + 1))) ∧ Own eI H' g ((imK (imB (⟨r, c, l⟩ : FdL) i) 4).l) ∧ Nws H Su ∧ Apt q Su ∧ Nw H g ∧ Apart q g ∧ Apt Su g ∧ Le H H') (fun σ19 H19 hP => ?_) (fun J19 hJ19 => ?_)
  ·skip
   obtain ⟨u, Su, g, g0L19, g3L19, g4L19, g5L19, oq, ou, og, nu, aqXu, ng, aqXg, auXg, lE⟩ := hP
   have hp := hp0.le lE
   have hvc := hvc0.le lE
   try simp only [g0L19, g4L19]
   refine C.spec_l05Mirror hp hvc (by first | omega | assumption) (fun  u22 H20 ou22 nn23  le21 => ?_)
   have aqXu22 : Apart q u22 := oq.apart nn23
   have auXu22 : Apt Su u22 := Apt.of_nw ou.known nn23
   have nu22 : Nw H u22 := nn23.le lE
   replace oq := oq.le le21
   replace ou := ou.le le21
   replace hp := hp.le le21
   replace hvc := hvc.le le21
   replace lE := lE.trans le21
   refine oq.stn (ws := [(.int .i64 (r)), (.int .i64 (c)), u22]) rfl rfl (oc1 rfl (oc1 rfl (oc1 ou22.one oc0))) (fun H24 oq off25 => ?_)
   replace ou := ou.off off25 aqXu.symm
   replace ou22 := ou22.off off25 aqXu22.symm
   replace hp := hp0.le (off25.le lE nq)
   replace hvc := hvc0.le (off25.le lE nq)
   replace lE := off25.le lE nq
   replace oq : Cel H24 q [(.int .i64 (r)), (.int .i64 (c)), u22] := oq
   replace ou22 : Own eI H24 u22 (imB (⟨r, c, l⟩ : FdL) (i + 1)).l := ou22
   replace oq : Cel H24 q [(.int .i64 (imB (⟨r, c, l⟩ : FdL) (i + 1)).r), (.int .i64 (imB (⟨r, c, l⟩ : FdL) (i + 1)).c), u22] := oq
   exact hJ18 _ _ ⟨u, _, u22, g0L19, g3L19, g4L19, g5L19, oq, ou, ou22, nu, aqXu, nu22, aqXu22, auXu22, lE⟩
  refine ⟨fun n' σ' H' => ∃ k : Nat, n' = 4 - k ∧ k ≤ 4 ∧ ∃ u, ∃ Su, ∃ g, σ' 0 = p ∧ σ' 3 = u ∧ σ' 4 = q ∧ σ' 5 = (.int .i64 ((i : Int))) ∧ σ' 6 = (.int .i64 ((k : Int))) ∧ Cel H' q [(.int .i64 ((imK (imB (⟨r, c, l⟩ : FdL) i) k).r)), (.int .i64 ((imK (imB (⟨r, c, l⟩ : FdL) i) k).c)), g] ∧ Fam H' u Su (imgs (⟨r, c, l⟩ : FdL) (4 * i + k)) ∧ Own eI H' g ((imK (imB (⟨r, c, l⟩ : FdL) i) k).l) ∧ Nws H Su ∧ Apt q Su ∧ Nw H g ∧ Apart q g ∧ Apt Su g ∧ Le H H',
   ⟨_, 0, rfl, by omega, u, _, g, g0L16, g3L16, g4L16, g5L16, (congrArg (Value.int .i64) (by first | omega | rfl | (simp; done))), oq, (Fam.cast (by first | rfl | (simp; done)) ou), (Own.cast (by first | rfl | (simp; done)) og), nu, aqXu, ng, aqXg, auXg, lE⟩, ?_⟩
  rintro n26 σ26 H26 ⟨k, rfl, hkN, u, Su, g, g0L26, g3L26, g4L26, g5L26, g6L26, oq, ou, og, nu, aqXu, ng, aqXg, auXg, lE⟩
  have hp := hp0.le lE
  have hvc := hvc0.le lE
  try simp only [g3L26, g4L26, g6L26]
  have hK : fieldN 1 (imK (imB (⟨r, c, l⟩ : FdL) i) k).r (imK (imB (⟨r, c, l⟩ : FdL) i) k).c (imK (imB (⟨r, c, l⟩ : FdL) i) k).l := imK_ok hB k
  have lK := fieldN_len hK
  have hiL2 := imgs_len (⟨r, c, l⟩ : FdL) (4 * i + k)
  refine ob_i (vInt_lss _ _ _) ?_
  refine cnd_d (fun hg27 => ?_) (fun hg27 => ?_)
  ·skip
   have tk := hg27
   refine ob_i (oq.ldn rfl) ?_
   refine bSE_one (enc := encFv) (x := (⟨(imK (imB (⟨r, c, l⟩ : FdL) i) k).r, (imK (imB (⟨r, c, l⟩ : FdL) i) k).c, g⟩ : Fv)) rfl rfl (by omega) (by omega) rfl (fun u28 H29 ou28 nn30 le32 => ?_) rfl
   replace oq := oq.le le32
   replace ou := ou.le le32
   replace og := og.le le32
   replace hp := hp.le le32
   replace hvc := hvc.le le32
   replace lE := lE.trans le32
   refine Fam.push ou rfl (ou28.sl encFv_n) og auXg.symm (by omega) (by first | omega | (simp; omega)) (fun u37 Su37 H33 ou37 off34 hb35 hx36 oxg => ?_)
   have aqXu37 : Apt q Su37 := Apt.push oq.known aqXu aqXg hb35
   have nu37 : Nws H Su37 := Nws.push lE nu ng hb35
   replace oq := oq.offS off34 aqXu
   replace hp := hp0.le (off34.le lE nu)
   replace hvc := hvc0.le (off34.le lE nu)
   replace lE := off34.le lE nu
   replace og := oxg.ro
   refine C.spec_l05Turn oq og.sl (by first | omega | assumption) (fun  u40 H38 ou40 nn41  le39 => ?_)
   have aqXu40 : Apart q u40 := oq.apart nn41
   have au37Xu40 : Apt Su37 u40 := Apt.of_nw ou37.known nn41
   have nu40 : Nw H u40 := nn41.le lE
   replace oq := oq.le le39
   replace ou37 := ou37.le le39
   replace hp := hp.le le39
   replace hvc := hvc.le le39
   replace lE := lE.trans le39
   refine oq.stn (ws := [(.int .i64 (((imK (imB (⟨r, c, l⟩ : FdL) i) k).c))), (.int .i64 (((imK (imB (⟨r, c, l⟩ : FdL) i) k).r))), u40]) rfl rfl (oc1 rfl (oc1 rfl (oc1 ou40.one oc0))) (fun H42 oq off43 => ?_)
   replace ou37 := ou37.off off43 aqXu37.symm
   replace ou40 := ou40.off off43 aqXu40.symm
   replace hp := hp0.le (off43.le lE nq)
   replace hvc := hvc0.le (off43.le lE nq)
   replace lE := off43.le lE nq
   replace oq : Cel H42 q [(.int .i64 (((imK (imB (⟨r, c, l⟩ : FdL) i) k).c))), (.int .i64 (((imK (imB (⟨r, c, l⟩ : FdL) i) k).r))), u40] := oq
   refine ob_i (vInt_add (by omega) (by omega)) ?_
   exact nxt (4 - (k + 1)) (by omega) ⟨k + 1, rfl, by omega, u37, _, u40, g0L26, rfl, g4L26, g5L26, (congrArg (Value.int .i64) (by first | omega | rfl | (simp; done))), oq, (Fam.cast (imgs_succ (⟨r, c, l⟩ : FdL) (by omega)) ou37), ou40, nu37, aqXu37, nu40, aqXu40, au37Xu40, lE⟩
  ·skip
   have tk := hg27
   obtain rfl : k = 4 := by omega
   exact hJ19 _ _ ⟨u, _, g, g0L26, g3L26, g4L26, g5L26, oq, ou, og, nu, aqXu, ng, aqXg, auXg, lE⟩
 ·skip
  have ti := hg17
  obtain rfl : i = 2 := by omega
  exact hJ15 _ _ ⟨u, _, g, g3L16, oq, ou, og, nu, aqXu, ng, aqXg, auXg, lE⟩
theorem C.impl_Field_images {vc : Value} {r c : Int} {l : List Int}  {H : Hp} {K : Value → Hp → Prop} (hvc0 : Sl eI H vc l) (hf : fieldN 1 r c l)
    (hk : ∀ u1 Su1 H', Fam H' u1 Su1 (imgs (⟨r, c, l⟩ : FdL) 8) → Nws H Su1 → Le H H' → K u1 H') : HT prg I.impl_Field_images [(.agg #[(.int .i64 (r)), (.int .i64 (c)), vc])].toArray H K := by
 have lE := Le.refl H
 have hvc := hvc0
 refine R.impl_Field_images ?_
 unfold F.impl_Field_images
 have hs := hf.1
 have hl := hf.2.1
 have q1 := hs.1
 have q2 := hs.2
 have qm := sidesF_mul hs
 refine nw_i (fun p1 H2 op1 nn3 le4 => ?_)
 replace hvc := hvc.le le4
 replace lE := lE.trans le4
 replace op1 : Cel H2 p1 [(.int .i64 (r)), (.int .i64 (c)), vc] := op1
 refine bSE_fam (fun u5 Su5 H6 ou5 nn7 le9 => ?_)
 have ap1Xu5 : Apt p1 Su5 := Apt.of_nws op1.known nn7
 have nu5 : Nws H Su5 := nn7.le lE
 replace op1 := op1.le le9
 replace hvc := hvc.le le9
 replace lE := lE.trans le9
 refine jn_i (fun σ' H' => ∃ u, ∃ Su, ∃ g, ∃ h, σ' 3 = u ∧ Cel H' p1 [(.int .i64 (r)), (.int .i64 (c)), vc] ∧ Fam H' u Su (imgs (⟨r, c, l⟩ : FdL) 8) ∧ Own eI H' g (gL (⟨r, c, l⟩ : FdL) 2) ∧ Own eI H' h (hL (⟨r, c, l⟩ : FdL) 2) ∧ Nws H Su ∧ Apt p1 Su ∧ Nw H g ∧ Apart p1 g ∧ Apt Su g ∧ Nw H h ∧ Apart p1 h ∧ Apt Su h ∧ Apart g h ∧ Le H H') (fun σ10 H10 hP => ?_) (fun J10 hJ10 => ?_)
 ·skip
  obtain ⟨u, Su, g, h, g3L10, op1, ou, og, oh, nu, ap1Xu, ng, ap1Xg, auXg, nh, ap1Xh, auXh, agXh, lE⟩ := hP
  try simp only [g3L10]
  skip
  exact hk  u _ _ ou nu  lE
 refine ob_i (op1.ldn rfl) ?_
 refine ob_i (op1.ldn rfl) ?_
 refine C.impl_copyField hvc (by first | omega | assumption) (fun  w H11 ow nn13  le12 => ?_)
 have ap1Xw : Apart p1 w := op1.apart nn13
 have au5Xw : Apt Su5 w := Apt.of_nw ou5.known nn13
 have nw : Nw H w := nn13.le lE
 replace op1 := op1.le le12
 replace ou5 := ou5.le le12
 replace hvc := hvc.le le12
 replace lE := lE.trans le12
 refine ⟨le12, ?_⟩
 refine C.impl_Field_mirrored hvc (by first | omega | assumption) (fun  m H14 om nn16  le15 => ?_)
 have ap1Xm : Apart p1 m := op1.apart nn16
 have au5Xm : Apt Su5 m := Apt.of_nw ou5.known nn16
 have awXm : Apart w m := ow.apart nn16
 have nm : Nw H m := nn16.le lE
 replace op1 := op1.le le15
 replace ou5 := ou5.le le15
 replace ow := ow.le le15
 replace hvc := hvc.le le15
 replace lE := lE.trans le15
 refine ⟨le15, ?_⟩
 refine bSE_i (enc := encFv) (n := 3) (l := ([⟨r, c, w⟩, ⟨r, c, m⟩] : List Fv)) (by omega) rfl encFv_n (by kernel_rfl) (fun e H17 oe nn18 le20 => ?_)
 have au5Xe : Apt Su5 e := Apt.of_nw ou5.known nn18
 have awXe : Apart w e := ow.apart nn18
 have amXe : Apart m e := om.apart nn18
 replace op1 := op1.le le20
 replace ou5 := ou5.le le20
 replace ow := ow.le le20
 replace om := om.le le20
 replace hvc := hvc.le le20
 replace lE := lE.trans le20
 refine ob_i (a := .int .i64 2) oe.len ?_
 refine ⟨fun n' σ' H' => ∃ i : Nat, n' = 2 - i ∧ i ≤ 2 ∧ ∃ u, ∃ Su, ∃ g, ∃ h, σ' 3 = u ∧ σ' 11 = e ∧ σ' 12 = (.int .i64 (2)) ∧ σ' 13 = (.int .i64 ((i : Int))) ∧ Cel H' p1 [(.int .i64 (r)), (.int .i64 (c)), vc] ∧ OwnE 3 encFv H' e ([⟨r, c, w⟩, ⟨r, c, m⟩]) ∧ Fam H' u Su (imgs (⟨r, c, l⟩ : FdL) (4 * i)) ∧ Own eI H' g (gL (⟨r, c, l⟩ : FdL) i) ∧ Own eI H' h (hL (⟨r, c, l⟩ : FdL) i) ∧ Nws H Su ∧ Apt p1 Su ∧ Apt e Su ∧ Nw H g ∧ Apart p1 g ∧ Apart e g ∧ Apt Su g ∧ Nw H h ∧ Apart p1 h ∧ Apart e h ∧ Apt Su h ∧ Apart g h ∧ Le H H' ∧ ((i : Int) < 2 → at_ fv0 ([⟨r, c, w⟩, ⟨r, c, m⟩] : List Fv) (i : Int) = ⟨r, c, g⟩) ∧ (i = 0 → h = m),
  ⟨_, 0, rfl, by omega, u5, _, w, m, rfl, rfl, rfl, (congrArg (Value.int .i64) (by first | omega | rfl | (simp; done))), op1, oe, (Fam.cast (by first | rfl | (simp; done)) ou5), (Own.cast (by first | rfl | (simp; done)) ow), (Own.cast (by first | rfl | (simp; done)) om), nu5, ap1Xu5, au5Xe.symm, nw, ap1Xw, awXe.symm, au5Xw, nm, ap1Xm, amXe.symm, au5Xm, awXm, lE, (fun _ => rfl), (fun _ => rfl)⟩, ?_⟩
 rintro n21 σ21 H21 ⟨i, rfl, hiN, u, Su, g, h, g3L21, g11L21, g12L21, g13L21, op1, oe, ou, og, oh, nu, ap1Xu, aeXu, ng, ap1Xg, aeXg, auXg, nh, ap1Xh, aeXh, auXh, agXh, lE, hm0, hm1⟩
 have hvc := hvc0.le lE
 try simp only [g11L21, g12L21, g13L21]
 have hgi := gL_eq (f := (⟨r, c, l⟩ : FdL)) (i := i)
 have hB : okF (imB (⟨r, c, l⟩ : FdL) i) := imB_ok (f := (⟨r, c, l⟩ : FdL)) hf i
 have hiL := imgs_len (⟨r, c, l⟩ : FdL) (4 * i)
 refine ob_i (vInt_lss _ _ _) ?_
 refine cnd_d (fun hg22 => ?_) (fun hg22 => ?_)
 ·skip
  have ti := hg22
  refine jn_i (fun σ' H' => ∃ u, ∃ Su, σ' 3 = u ∧ σ' 11 = e ∧ σ' 12 = (.int .i64 (2)) ∧ σ' 13 = (.int .i64 ((i : Int))) ∧ Cel H' p1 [(.int .i64 (r)), (.int .i64 (c)), vc] ∧ OwnE 3 encFv H' e ([⟨r, c, w⟩, ⟨r, c, m⟩]) ∧ Fam H' u Su (imgs (⟨r, c, l⟩ : FdL) (4 * (i + 1))) ∧ Own eI H' h (hL (⟨r, c, l⟩ : FdL) i) ∧ Nws H Su ∧ Apt p1 Su ∧ Apt e Su ∧ Apt Su h ∧ Le H H') (fun σ23 H23 hP => ?_) (fun J23 hJ23 => ?_)
  ·skip
   obtain ⟨u, Su, g3L23, g11L23, g12L23, g13L23, op1, oe, ou, oh, nu, ap1Xu, aeXu, auXh, lE⟩ := hP
   try simp only [g13L23]
   refine ob_i (vInt_add (by omega) (by omega)) ?_
   exact nxt (2 - (i + 1)) (by omega) ⟨i + 1, rfl, by omega, u, _, h, _, g3L23, g11L23, g12L23, (congrArg (Value.int .i64) (by first | omega | rfl | (simp; done))), op1, oe, ou, (Own.cast (hgL (⟨r, c, l⟩ : FdL) i) oh), (Own.cast (by simp [hL]) (Own.nil_of none)), nu, ap1Xu, aeXu, nh, ap1Xh, aeXh, auXh, (fun b hb => by simp [bk] at hb), (fun b _ hb => by simp [bk] at hb), (fun b _ hb => by simp [bk] at hb), Apt.nil_r, (fun b _ hb => by simp [bk] at hb), lE, (fun hlt => by obtain rfl : i = 0 := (by omega); rw [hm1 rfl]; first | done | rfl), (fun h0 => absurd h0 (by omega))⟩
  refine ob_i ((oe.sl encFv_n).ix encFv_n (by omega) (by omega) (by first | omega | (simp only [List.length_cons, List.length_nil]; omega))) ?_
  refine ob_i (a := (.agg #[(.int .i64 (r)), (.int .i64 (c)), g])) (by rw [(oe.sl encFv_n).ldn (i := (i : Int)) encFv_n (by omega) fv0 (by omega) (by show _ < ((2 : Nat) : Int); omega), hm0 (by omega)]; try rfl) ?_
  refine nw_i (fun q H24 oq nn25 le26 => ?_)
  have ap1Xq : Apart p1 q := op1.apart nn25
  have aeXq : Apart e q := oe.apart nn25
  have auXq : Apt Su q := Apt.of_nw ou.known nn25
  have agXq : Apart g q := og.apart nn25
  have ahXq : Apart h q := oh.apart nn25
  have nq : Nw H q := nn25.le lE
  replace op1 := op1.le le26
  replace oe := oe.le le26
  replace ou := ou.le le26
  replace og := og.le le26
  replace oh := oh.le le26
  replace hvc := hvc.le le26
  replace lE := lE.trans le26
  replace oq : Cel H24 q [(.int .i64 (0)), (.int .i64 (0)), (.slice none 0 0)] := oq
  refine oq.stn (ws := [(.int .i64 (r)), (.int .i64 (c)), g]) rfl rfl (oc1 rfl (oc1 rfl (oc1 og.one oc0))) (fun H27 oq off28 => ?_)
  replace op1 := op1.off off28 ap1Xq
  replace oe := oe.off off28 aeXq
  replace ou := ou.off off28 auXq
  replace og := og.off off28 agXq
  replace oh := oh.off off28 ahXq
  replace hvc := hvc0.le (off28.le lE nq)
  replace lE := off28.le lE nq
  replace oq : Cel H27 q [(.int .i64 (r)), (.int .i64 (c)), g] := oq
  refine ⟨fun n' σ' H' => ∃ k : Nat, n' = 4 - k ∧ k ≤ 4 ∧ ∃ u, ∃ Su, ∃ x, σ' 3 = u ∧ σ' 5 = q ∧ σ' 11 = e ∧ σ' 12 = (.int .i64 (2)) ∧ σ' 13 = (.int .i64 ((i : Int))) ∧ σ' 17 = (.int .i64 ((k : Int))) ∧ Cel H' p1 [(.int .i64 (r)), (.int .i64 (c)), vc] ∧ OwnE 3 encFv H' e ([⟨r, c, w⟩, ⟨r, c, m⟩]) ∧ Fam H' u Su (imgs (⟨r, c, l⟩ : FdL) (4 * i + k)) ∧ Own eI H' h (hL (⟨r, c, l⟩ : FdL) i) ∧ Cel H' q [(.int .i64 ((imK (imB (⟨r, c, l⟩ : FdL) i) k).r)), (.int .i64 ((imK (imB (⟨r, c, l⟩ : FdL) i) k).c)), x] ∧ Own eI H' x ((imK (imB (⟨r, c, l⟩ : FdL) i) k).l) ∧ Nws H Su ∧ Apt p1 Su ∧ Apt e Su ∧ Apt Su h ∧ Apt Su q ∧ Nw H x ∧ Apart p1 x ∧ Apart e x ∧ Apt Su x ∧ Apart h x ∧ Apart q x ∧ Le H H',
   ⟨_, 0, rfl, by omega, u, _, g, g3L21, rfl, g11L21, g12L21, g13L21, (congrArg (Value.int .i64) (by first | omega | rfl | (simp; done))), op1, oe, (Fam.cast (by first | rfl | (simp; done)) ou), oh, (Cel.cast (by show _ = [Value.int .i64 (imB (⟨r, c, l⟩ : FdL) i).r, .int .i64 (imB (⟨r, c, l⟩ : FdL) i).c, g]; rw [imB_r, imB_c]) oq), (Own.cast (hgi (by omega)) og), nu, ap1Xu, aeXu, auXh, auXq, ng, ap1Xg, aeXg, auXg, agXh.symm, agXq.symm, lE⟩, ?_⟩
  rintro n29 σ29 H29 ⟨k, rfl, hkN, u, Su, x, g3L29, g5L29, g11L29, g12L29, g13L29, g17L29, op1, oe, ou, oh, oq, ox, nu, ap1Xu, aeXu, auXh, auXq, nx, ap1Xx, aeXx, auXx, ahXx, aqXx, lE⟩
  have hvc := hvc0.le lE
  try simp only [g3L29, g5L29, g17L29]
  have hK : fieldN 1 (imK (imB (⟨r, c, l⟩ : FdL) i) k).r (imK (imB (⟨r, c, l⟩ : FdL) i) k).c (imK (imB (⟨r, c, l⟩ : FdL) i) k).l := imK_ok hB k
  have lK := fieldN_len hK
  have hiL2 := imgs_len (⟨r, c, l⟩ : FdL) (4 * i + k)
  refine ob_i (vInt_lss _ _ _) ?_
  refine cnd_d (fun hg30 => ?_) (fun hg30 => ?_)
  ·skip
   have tk := hg30
   refine ob_i (oq.ldn rfl) ?_
   refine bSE_one (enc := encFv) (x := (⟨(imK (imB (⟨r, c, l⟩ : FdL) i) k).r, (imK (imB (⟨r, c, l⟩ : FdL) i) k).c, x⟩ : Fv)) rfl rfl (by omega) (by omega) rfl (fun u31 H32 ou31 nn33 le35 => ?_) rfl
   replace op1 := op1.le le35
   replace oe := oe.le le35
   replace ou := ou.le le35
   replace oh := oh.le le35
   replace oq := oq.le le35
   replace ox := ox.le le35
   replace hvc := hvc.le le35
   replace lE := lE.trans le35
   refine Fam.push ou rfl (ou31.sl encFv_n) ox auXx.symm (by omega) (by first | omega | (simp; omega)) (fun u40 Su40 H36 ou40 off37 hb38 hx39 oxx => ?_)
   have ap1Xu40 : Apt p1 Su40 := Apt.push op1.known ap1Xu ap1Xx hb38
   have aeXu40 : Apt e Su40 := Apt.push oe.known aeXu aeXx hb38
   have ahXu40 : Apt h Su40 := Apt.push oh.known auXh.symm ahXx hb38
   have aqXu40 : Apt q Su40 := Apt.push oq.known auXq.symm aqXx hb38
   have nu40 : Nws H Su40 := Nws.push lE nu nx hb38
   replace op1 := op1.offS off37 ap1Xu
   replace oe := oe.offS off37 aeXu
   replace oh := oh.offS off37 auXh.symm
   replace oq := oq.offS off37 auXq.symm
   replace hvc := hvc0.le (off37.le lE nu)
   replace lE := off37.le lE nu
   replace ox := oxx.ro
   refine ob_i (oq.ldn rfl) ?_
   refine C.impl_Field_right ox.sl (by first | omega | assumption) (fun  u43 H41 ou43 nn44  le42 => ?_)
   have ap1Xu43 : Apart p1 u43 := op1.apart nn44
   have aeXu43 : Apart e u43 := oe.apart nn44
   have ahXu43 : Apart h u43 := oh.apart nn44
   have aqXu43 : Apart q u43 := oq.apart nn44
   have au40Xu43 : Apt Su40 u43 := Apt.of_nw ou40.known nn44
   have nu43 : Nw H u43 := nn44.le lE
   replace op1 := op1.le le42
   replace oe := oe.le le42
   replace oh := oh.le le42
   replace oq := oq.le le42
   replace ou40 := ou40.le le42
   replace hvc := hvc.le le42
   replace lE := lE.trans le42
   refine oq.stn (ws := [(.int .i64 (((imK (imB (⟨r, c, l⟩ : FdL) i) k).c))), (.int .i64 (((imK (imB (⟨r, c, l⟩ : FdL) i) k).r))), u43]) rfl rfl (oc1 rfl (oc1 rfl (oc1 ou43.one oc0))) (fun H45 oq off46 => ?_)
   replace op1 := op1.off off46 ap1Xq
   replace oe := oe.off off46 aeXq
   replace oh := oh.off off46 ahXq
   replace ou40 := ou40.off off46 aqXu40.symm
   replace ou43 := ou43.off off46 aqXu43.symm
   replace hvc := hvc0.le (off46.le lE nq)
   replace lE := off46.le lE nq
   replace oq : Cel H45 q [(.int .i64 (((imK (imB (⟨r, c, l⟩ : FdL) i) k).c))), (.int .i64 (((imK (imB (⟨r, c, l⟩ : FdL) i) k).r))), u43] := oq
   refine ob_i (vInt_add (by omega) (by omega)) ?_
   exact nxt (4 - (k + 1)) (by omega) ⟨k + 1, rfl, by omega, u40, _, u43, rfl, g5L29, g11L29, g12L29, g13L29, (congrArg (Value.int .i64) (by first | omega | rfl | (simp; done))), op1, oe, (Fam.cast (imgs_succ (⟨r, c, l⟩ : FdL) (by omega)) ou40), oh, oq, ou43, nu40, ap1Xu40, aeXu40, ahXu40.symm, aqXu40.symm, nu43, ap1Xu43, aeXu43, au40Xu43, ahXu43, aqXu43, lE⟩
  ·skip
   have tk := hg30
   obtain rfl : k = 4 := by omega
   exact hJ23 _ _ ⟨u, _, g3L29, g11L29, g12L29, g13L29, op1, oe, ou, oh, nu, ap1Xu, aeXu, auXh, lE⟩
 ·skip
  have ti := hg22
  obtain rfl : i = 2 := by omega
  exact hJ10 _ _ ⟨u, _, g, h, g3L21, op1, ou, og, oh, nu, ap1Xu, ng, ap1Xg, auXg, nh, ap1Xh, auXh, agXh, lE⟩
end Go.Proofs.YtffmfkpobjdmmaaGreatDoor
/- Names of fields. -/
namespace Go.Proofs.YtffmfkpobjdmmaaGreatDoor
open HL
set_option maxRecDepth 100000
attribute [local irreducible] vStr
theorem C.slices_Min_string_string {v : Value} {ls : List (List UInt8)}  {H : Hp} {K : Value → Hp → Prop} (hv0 : Sl vS H v ls) (h1 : 1 ≤ ls.length) (h2 : ls.length ≤ 9223372036854775807)
    (hk : ∀ H', Le H H' → K (vS (minF ls)) H') : HT prg I.slices_Min_string_string [v].toArray H K := by
 have lE := Le.refl H
 have hv := hv0
 refine R.slices_Min_string_string ?_
 unfold F.slices_Min_string_string
 refine jn_i (fun σ' H' => σ' 0 = v ∧ Le H H') (fun σ1 H1 hP => ?_) (fun J1 hJ1 => ?_)
 ·skip
  obtain ⟨g0L1, lE⟩ := hP
  have hv := hv0.le lE
  try simp only [g0L1]
  refine ob_i (hv.ix (by omega) (by omega)) ?_
  refine ob_i (hv.ld [] (by omega) (by omega)) ?_
  refine jn_i (fun σ' H' => σ' 3 = (vS (minF ls)) ∧ Le H H') (fun σ2 H2 hP => ?_) (fun J2 hJ2 => ?_)
  ·skip
   obtain ⟨g3L2, lE⟩ := hP
   try simp only [g3L2]
   skip
   exact hk   _    lE
  refine ⟨fun n' σ' H' => ∃ i : Nat, n' = ls.length - i ∧ i ≤ ls.length ∧ σ' 0 = v ∧ σ' 3 = (vS (minF (ls.take (i + 1)))) ∧ σ' 4 = (.int .i64 ((i : Int) + 1)) ∧ Le H H' ∧ i + 1 ≤ ls.length,
   ⟨_, 0, rfl, by omega, g0L1, (congrArg vS (minF_take1 h1).symm), (congrArg (Value.int .i64) (by first | omega | rfl | (simp; done))), lE, (by omega)⟩, ?_⟩
  rintro n3 σ3 H3 ⟨i, rfl, hiN, g0L3, g3L3, g4L3, lE, hle⟩
  have hv := hv0.le lE
  try simp only [g0L3, g3L3, g4L3]
  refine ob_i (hv.len) ?_
  refine ob_i (vInt_lss _ _ _) ?_
  refine cnd_d (fun hg4 => ?_) (fun hg4 => ?_)
  ·skip
   have ti := hg4
   refine ob_i (hv.ix (by omega) (by omega)) ?_
   refine ob_i (hv.ld [] (by omega) (by omega)) ?_
   refine min_tr ?_
   refine ob_i (vInt_add (by omega) (by omega)) ?_
   exact nxt (ls.length - (i + 1)) (by omega) ⟨i + 1, rfl, by omega, g0L3, (congrArg vS (minF_take (by omega) (by omega)).symm), (congrArg (Value.int .i64) (by first | omega | rfl | (simp; done))), lE, (by omega)⟩
  ·skip
   have ti := hg4
   exact hJ2 _ _ ⟨(g3L3.trans (congrArg vS (by rw [List.take_of_length_le (by omega)]))), lE⟩
 refine ob_i (hv.len) ?_
 refine ob_i (vInt_lss _ _ _) ?_
 refine cnd_d (fun hg5 => ?_) (fun hg5 => ?_)
 ·skip
  exact absurd hg5 ((by omega))
 ·skip
  exact hJ1 _ _ ⟨rfl, lE⟩
theorem C.impl_Field_name {vc : Value} {r c : Int} {l : List Int}  {H : Hp} {K : Value → Hp → Prop} (hvc0 : Sl eI H vc l) (hf : fieldN 1 r c l)
    (hk : ∀ H', Le H H' → K (vS (nameT r c l)) H') : HT prg I.impl_Field_name [(.agg #[(.int .i64 (r)), (.int .i64 (c)), vc])].toArray H K := by
 have lE := Le.refl H
 have hvc := hvc0
 refine R.impl_Field_name ?_
 unfold F.impl_Field_name
 have hs := hf.1
 have hl := hf.2.1
 have q1 := hs.1
 have q2 := hs.2
 have qm := sidesF_mul hs
 have l1 := fieldN_len hf
 have il := imgs_len (⟨(trR r c l), (trC r c l), (trL r c l)⟩ : FdL) 8
 refine nw_i (fun p1 H2 op1 nn3 le4 => ?_)
 replace hvc := hvc.le le4
 replace lE := lE.trans le4
 replace op1 : Cel H2 p1 [(.int .i64 (r)), (.int .i64 (c)), vc] := op1
 refine ob_i (op1.ldn rfl) ?_
 refine C.impl_Field_trimmed hvc (by first | omega | assumption) (by first | omega | assumption) (fun hc5  H6    le7 => ?_) (fun hc8 u11 H9 ou11 nn12  le10 => ?_)
 ·skip
  replace hvc := hvc.le le7
  replace lE := lE.trans le7
  refine ob_i (vExt_40 _ _ _ _) ?_
  refine ob_i (vExt_41 _ _ _ _) ?_
  refine ob_i (vExt_42 _ _ _ _) ?_
  refine ob_i (vExt_43 _ _ _ _) ?_
  refine nw_i (fun pt H13 opt nn14 le15 => ?_)
  have npt : Nw H pt := nn14.le lE
  replace hvc := hvc.le le15
  replace lE := lE.trans le15
  replace opt : Cel H13 pt [(.int .i64 (0)), (.int .i64 (0)), (.slice none 0 0)] := opt
  refine opt.stn (ws := [(.int .i64 (0)), (.int .i64 (0)), (.slice none 0 0)]) rfl rfl (oc1 rfl (oc1 rfl (oc1 rfl oc0))) (fun H16 opt off17 => ?_)
  replace hvc := hvc0.le (off17.le lE npt)
  replace lE := off17.le lE npt
  replace opt : Cel H16 pt [(.int .i64 (0)), (.int .i64 (0)), (.slice none 0 0)] := opt
  refine ob_i (a := .bool true) rfl ?_
  refine cnd_t1 ?_
  skip
  exact keq (K := K) (by rw [show (nameT r c l) = (([] : List UInt8)) from by exact nameT_f hc5]; try rfl) (hk   _    lE)
 ·skip
  have hpos := hc8
  replace op1 := op1.le le10
  replace hvc := hvc.le le10
  replace lE := lE.trans le10
  refine ob_i (vExt_40 _ _ _ _) ?_
  refine ob_i (vExt_41 _ _ _ _) ?_
  refine ob_i (vExt_42 _ _ _ _) ?_
  refine ob_i (vExt_43 _ _ _ _) ?_
  refine nw_i (fun pt H18 opt nn19 le20 => ?_)
  have ap1Xpt : Apart p1 pt := op1.apart nn19
  have au11Xpt : Apart u11 pt := ou11.apart nn19
  have npt : Nw H pt := nn19.le lE
  replace op1 := op1.le le20
  replace ou11 := ou11.le le20
  replace hvc := hvc.le le20
  replace lE := lE.trans le20
  replace opt : Cel H18 pt [(.int .i64 (0)), (.int .i64 (0)), (.slice none 0 0)] := opt
  refine opt.stn (ws := [(.int .i64 (trR r c l)), (.int .i64 (trC r c l)), u11]) rfl rfl (oc1 rfl (oc1 rfl (oc1 ou11.one oc0))) (fun H21 opt off22 => ?_)
  replace op1 := op1.off off22 ap1Xpt
  replace ou11 := ou11.off off22 au11Xpt
  replace hvc := hvc0.le (off22.le lE npt)
  replace lE := off22.le lE npt
  replace opt : Cel H21 pt [(.int .i64 (trR r c l)), (.int .i64 (trC r c l)), u11] := opt
  refine ob_i (a := .bool false) rfl ?_
  refine cnd_f1 ?_
  refine bS_nil (enc := vS) (fun ts H23 ots nn24 kk25 le26 => ?_)
  have ap1Xts : Apart p1 ts := op1.apart nn24
  have au11Xts : Apart u11 ts := ou11.apart nn24
  have aptXts : Apart pt ts := opt.apart nn24
  have nts : Nw H ts := nn24.le lE
  replace op1 := op1.le le26
  replace ou11 := ou11.le le26
  replace opt := opt.le le26
  replace hvc := hvc.le le26
  replace lE := lE.trans le26
  refine jn_i (fun σ' H' => ∃ ts, σ' 7 = ts ∧ Cel H' p1 [(.int .i64 (r)), (.int .i64 (c)), vc] ∧ Own eI H' u11 (trL r c l) ∧ Cel H' pt [(.int .i64 (trR r c l)), (.int .i64 (trC r c l)), u11] ∧ Own vS H' ts (imT (tmF r c l) 8) ∧ Nw H ts ∧ Apart p1 ts ∧ Apart u11 ts ∧ Apart pt ts ∧ Le H H') (fun σ27 H27 hP => ?_) (fun J27 hJ27 => ?_)
  ·skip
   obtain ⟨ts, g7L27, op1, ou11, opt, ots, nts, ap1Xts, au11Xts, aptXts, lE⟩ := hP
   try simp only [g7L27]
   refine C.slices_Min_string_string ots.sl (by rw [imT_len]; omega) (by rw [imT_len]; omega) (fun   H28    le29 => ?_)
   replace lE := lE.trans le29
   skip
   exact keq (K := K) (by rw [show (nameT r c l) = (minF (imT (tmF r c l) 8)) from by exact nameT_t hpos]; try rfl) (hk   _    lE)
  refine ob_i (opt.ldn rfl) ?_
  refine C.impl_Field_images ou11.sl (by exact trF_ok hf hpos) (fun  im Sim H30 oim nn32  le31 => ?_)
  have atsXim : Apt ts Sim := Apt.of_nws ots.known nn32
  replace op1 := op1.le le31
  replace ou11 := ou11.le le31
  replace opt := opt.le le31
  replace ots := ots.le le31
  replace hvc := hvc.le le31
  replace lE := lE.trans le31
  refine ob_i (oim.len) ?_
  refine ⟨fun n' σ' H' => ∃ i : Nat, n' = 8 - i ∧ i ≤ 8 ∧ ∃ ts, σ' 7 = ts ∧ σ' 21 = im ∧ σ' 22 = (.int .i64 (((imgs (⟨(trR r c l), (trC r c l), (trL r c l)⟩ : FdL) 8).length : Int))) ∧ σ' 23 = (.int .i64 ((i : Int))) ∧ Cel H' p1 [(.int .i64 (r)), (.int .i64 (c)), vc] ∧ Own eI H' u11 (trL r c l) ∧ Cel H' pt [(.int .i64 (trR r c l)), (.int .i64 (trC r c l)), u11] ∧ Own vS H' ts (imT (tmF r c l) i) ∧ Fam H' im Sim (imgs (⟨(trR r c l), (trC r c l), (trL r c l)⟩ : FdL) 8) ∧ Nw H ts ∧ Apart p1 ts ∧ Apart u11 ts ∧ Apart pt ts ∧ Apt ts Sim ∧ Le H H',
   ⟨_, 0, rfl, by omega, ts, rfl, rfl, rfl, (congrArg (Value.int .i64) (by first | omega | rfl | (simp; done))), op1, ou11, opt, (Own.cast (by first | rfl | (simp; done)) ots), oim, nts, ap1Xts, au11Xts, aptXts, atsXim, lE⟩, ?_⟩
  rintro n33 σ33 H33 ⟨i, rfl, hiN, ts, g7L33, g21L33, g22L33, g23L33, op1, ou11, opt, ots, oim, nts, ap1Xts, au11Xts, aptXts, atsXim, lE⟩
  have hvc := hvc0.le lE
  try simp only [g7L33, g21L33, g22L33, g23L33]
  have tl := imT_len (f := (tmF r c l)) (n := i)
  refine ob_i (vInt_lss _ _ _) ?_
  refine cnd_d (fun hg34 => ?_) (fun hg34 => ?_)
  ·skip
   have ti := hg34
   obtain ⟨P35, y36, hb37a, oP35, oy36, hb37p, hb37x⟩ := oim.el (i := (i : Int)) (f := ⟨(imF (tmF r c l) i).r, (imF (tmF r c l) i).c, (imF (tmF r c l) i).l⟩) (by omega) (by first | omega | (simp; omega)) (imF_at (f := (tmF r c l)) (by omega))
   replace oP35 : CelR H33 P35 [(.int .i64 ((imF (tmF r c l) i).r)), (.int .i64 ((imF (tmF r c l) i).c)), y36] := oP35
   replace oy36 : Ro eI H33 y36 ((imF (tmF r c l) i).l) := oy36
   refine ob_i (hb37a) ?_
   refine ob_i (oP35.ldn rfl) ?_
   refine nw_i (fun p38 H39 op38 nn40 le41 => ?_)
   have ap1Xp38 : Apart p1 p38 := op1.apart nn40
   have au11Xp38 : Apart u11 p38 := ou11.apart nn40
   have aptXp38 : Apart pt p38 := opt.apart nn40
   have atsXp38 : Apart ts p38 := ots.apart nn40
   have aimXp38 : Apt Sim p38 := Apt.of_nw oim.known nn40
   have ay36Xp38 : Apart y36 p38 := oy36.apart nn40
   have np38 : Nw H p38 := nn40.le lE
   replace op1 := op1.le le41
   replace ou11 := ou11.le le41
   replace opt := opt.le le41
   replace ots := ots.le le41
   replace oim := oim.le le41
   replace oy36 := oy36.le le41
   replace hvc := hvc.le le41
   replace lE := lE.trans le41
   replace op38 : Cel H39 p38 [(.int .i64 (0)), (.int .i64 (0)), (.slice none 0 0)] := op38
   refine op38.stn (ws := [(.int .i64 ((imF (tmF r c l) i).r)), (.int .i64 ((imF (tmF r c l) i).c)), y36]) rfl rfl (oc1 rfl (oc1 rfl (oc1 oy36.one oc0))) (fun H42 op38 off43 => ?_)
   replace op1 := op1.off off43 ap1Xp38
   replace ou11 := ou11.off off43 au11Xp38
   replace opt := opt.off off43 aptXp38
   replace ots := ots.off off43 atsXp38
   replace oim := oim.off off43 aimXp38
   replace oy36 := oy36.off off43 ay36Xp38
   replace hvc := hvc0.le (off43.le lE np38)
   replace lE := off43.le lE np38
   replace op38 : Cel H42 p38 [(.int .i64 ((imF (tmF r c l) i).r)), (.int .i64 ((imF (tmF r c l) i).c)), y36] := op38
   refine ob_i (op38.ldn rfl) ?_
   refine C.impl_Field_text oy36.sl (by exact imF_ok (f := (tmF r c l)) (trF_ok hf hpos) i) (fun   H44    le45 => ?_)
   replace op1 := op1.le le45
   replace ou11 := ou11.le le45
   replace opt := opt.le le45
   replace ots := ots.le le45
   replace oim := oim.le le45
   replace hvc := hvc.le le45
   replace lE := lE.trans le45
   refine bS_i (enc := vS) (l := [fieldT ((imF (tmF r c l) i).r) ((imF (tmF r c l) i).c) ((imF (tmF r c l) i).l)]) (by omega) rfl (by kernel_rfl) (fun u46 H47 ou46 nn48 le50 => ?_)
   replace op1 := op1.le le50
   replace ou11 := ou11.le le50
   replace opt := opt.le le50
   replace ots := ots.le le50
   replace oim := oim.le le50
   replace hvc := hvc.le le50
   replace lE := lE.trans le50
   refine apd_any ots ou46.sl (fun _ => rfl) (by omega) (by first | omega | (simp only [List.length_cons, List.length_nil]; omega)) (fun u54 H51 ou54 off52 hb53 => ?_)
   have ap1Xu54 : Apart p1 u54 := Apart.ap2 op1.known ap1Xts hb53
   have au11Xu54 : Apart u11 u54 := Apart.ap2 ou11.known au11Xts hb53
   have aptXu54 : Apart pt u54 := Apart.ap2 opt.known aptXts hb53
   have aimXu54 : Apt Sim u54 := Apt.ap2 oim.known atsXim.symm hb53
   have nu54 : Nw H u54 := Nw.ap2 nts lE hb53
   replace op1 := op1.off off52 ap1Xts
   replace ou11 := ou11.off off52 au11Xts
   replace opt := opt.off off52 aptXts
   replace oim := oim.off off52 atsXim.symm
   replace hvc := hvc0.le (off52.le lE nts)
   replace lE := off52.le lE nts
   refine ob_i (vInt_add (by omega) (by omega)) ?_
   exact nxt (8 - (i + 1)) (by omega) ⟨i + 1, rfl, by omega, u54, rfl, g21L33, g22L33, (congrArg (Value.int .i64) (by first | omega | rfl | (simp; done))), op1, ou11, opt, (Own.cast imT_succ.symm ou54), oim, nu54, ap1Xu54, au11Xu54, aptXu54, aimXu54.symm, lE⟩
  ·skip
   have ti := hg34
   obtain rfl : i = 8 := by omega
   exact hJ27 _ _ ⟨ts, g7L33, op1, ou11, opt, ots, nts, ap1Xts, au11Xts, aptXts, lE⟩
end Go.Proofs.YtffmfkpobjdmmaaGreatDoor
/- The library's sort: from the given contract to what a partial heap knows. -/
namespace Go.Proofs.YtffmfkpobjdmmaaGreatDoor
open HL
set_option maxRecDepth 100000
namespace HL
open Go.Sort in
theorem HT_sort {α : Type} [Inhabited α] {P : Program} {f : FuncId} {enc : α → Value} {v : Value} {l m : List α} {H : Hp} {K : Value → Hp → Prop} (ho : Own enc H v l) (hl : 0 < l.length) (hm : m.length = l.length)
    (hc : ∀ (blk off cap : Nat) (w : World), Holds enc w blk off l.toArray → blk < w.heap.size → Calls P f #[.slice (some ⟨blk, off, none⟩) l.length cap] w fun e w' =>
      e = .returned (.tuple #[]) ∧ ∃ n os, w' = grow (putRow enc (Go.Sort.ahead w n) blk off m.toArray) os)
    (hk : ∀ H', Own enc H' v m → Off v H H' → K (.tuple #[]) H') : HT P f #[v] H K := by
  obtain ⟨a, c, rfl, hlc, hr⟩ := ho
  obtain ⟨b, off, cs, e, rfl, hb, hs, hcs⟩ := hr (by omega)
  intro w hw
  have hwb := hw b _ hb
  have hbs : b < w.heap.size := by
    rcases Nat.lt_or_ge b w.heap.size with h | h
    · exact h
    · rw [Array.getElem?_eq_none h] at hwb; exact absurd hwb (by simp)
  have hH : Holds enc w b off l.toArray := fun j hj => by
    have hj' : j < l.length := by simpa using hj
    refine ⟨?_, ?_⟩
    · simp only [World.cell?, hwb]
      rw [getElem!_pos _ j hj]
      simpa using hcs j hj'
    · rw [hw.frozen (a := ⟨b, off + j, none⟩) hb]
      simp only [Hp.frozen?, hb]
      rfl
  refine (hc b off c w hH hbs).mono fun e' w' ⟨he, n, os, hw'⟩ => ?_
  subst hw'
  have hmod : ∀ x, x < w.heap.size → (grow (putRow enc (Go.Sort.ahead w n) b off m.toArray) os).heap[x]? = if b = x then (w.heap[x]?).map (onCells (putCells enc off m.toArray)) else w.heap[x]? := fun x hx => by
    simp only [grow, putRow, mapBlock, Go.Sort.ahead]
    rw [Array.getElem?_append_left (by simpa using hx), Array.getElem?_modify]
  have hsz : (grow (putRow enc (Go.Sort.ahead w n) b off m.toArray) os).heap.size = w.heap.size + os.size := by
    simp only [grow, putRow, mapBlock, Go.Sort.ahead, Array.size_append, Array.size_modify]
  refine ⟨.tuple #[], H.put b (.cells (putCells enc off m.toArray cs) e (0, 0)), he, fun x o hx => ?_, ⟨by omega, fun x hx hn => ?_, rfl, rfl, rfl⟩, hk _ ⟨_, c, by rw [hm], by omega, fun _ => ⟨b, off, _, e, rfl, Hp.put_same _ _ _, by simpa [putCells] using hs, fun i hi => ?_⟩⟩ (fun x o hx hv => ?_)⟩
  · by_cases hxb : x = b
    · subst hxb
      rw [Hp.put_same] at hx
      rw [hmod x hbs, if_pos rfl, hwb]
      simpa [onCells] using hx
    · rw [Hp.put_ne _ _ hxb] at hx
      have hwx := hw x o hx
      have hxs : x < w.heap.size := by
        rcases Nat.lt_or_ge x w.heap.size with h | h
        · exact h
        · rw [Array.getElem?_eq_none h] at hwx; exact absurd hwx (by simp)
      rw [hmod x hxs, if_neg (Ne.symm hxb)]
      exact hwx
  · have hxb : x ≠ b := by rintro rfl; rw [hb] at hn; exact absurd hn (by simp)
    rw [Hp.put_ne _ _ hxb, hmod x hx, if_neg (Ne.symm hxb)]
    exact ⟨hn, rfl⟩
  · have : off + i < cs.size := by omega
    simp only [putCells, Array.getElem?_mapIdx, Array.getElem?_eq_getElem this, Option.map_some]
    rw [if_pos ⟨by omega, by simp; omega⟩, show off + i - off = i by omega, getElem!_pos _ i (by simpa using hi)]
    simp
  · have hxb : x ≠ b := by
      rintro rfl
      refine hv ?_
      simp only [bk]
      rw [if_neg (by omega)]
    rw [Hp.put_ne _ _ hxb]
    exact hx
end HL
end Go.Proofs.YtffmfkpobjdmmaaGreatDoor
/- The names of a field's parts; the library's sort of texts. -/
namespace Go.Proofs.YtffmfkpobjdmmaaGreatDoor
open HL
set_option maxRecDepth 100000
section
variable {r c : Int} {l : List Int} {L : List Nat}
theorem aloL_01 (s : Nat) : ∀ x ∈ aloL c l s, 0 ≤ x ∧ x ≤ 1 := fun x hx => by
  simp only [aloL, List.mem_map] at hx
  obtain ⟨j, _, rfl⟩ := hx
  split <;> omega
theorem prtF_ok (hf : fieldN 1 r c l) {s : Nat} (h : onP l s) : fieldN 1 (prtF r c l s).r (prtF r c l s).c (prtF r c l s).l :=
  trF_ok (l := aloL c l s) ⟨hf.1, by rw [aloL_len]; exact hf.2.1, aloL_01 s⟩ (alo_pos hf.1 hf.2.1 h)
/-- A part's name. -/
noncomputable def nmP (r c : Int) (l : List Int) (s : Nat) : Txt := nameT (prtF r c l s).r (prtF r c l s).c (prtF r c l s).l
noncomputable def nmL (r c : Int) (l : List Int) (L : List Nat) : List Txt := L.map (nmP r c l)
theorem nmL_len : (nmL r c l L).length = L.length := by simp [nmL]
theorem nmL_take {t : Nat} (ht : t < L.length) : nmL r c l (L.take (t + 1)) = nmL r c l (L.take t) ++ [nameT (prtF r c l (at_ 0 L (t : Int))).r (prtF r c l (at_ 0 L (t : Int))).c (prtF r c l (at_ 0 L (t : Int))).l] := by
  rw [take_at 0 L ht]
  simp [nmL, nmP]
theorem prt_at {t : Nat} (ht : t < L.length) : at_ fd0 (prtL r c l L) (t : Int) = ⟨(prtF r c l (at_ 0 L (t : Int))).r, (prtF r c l (at_ 0 L (t : Int))).c, (prtF r c l (at_ 0 L (t : Int))).l⟩ := by
  rw [at_eq fd0 _ (by simpa [prtL] using ht), at_eq 0 L ht]
  simp [prtL]
theorem part_ok (hf : fieldN 1 r c l) {t : Nat} (ht : t < (stsL c l l.length).length) : fieldN 1 (prtF r c l (at_ 0 (stsL c l l.length) (t : Int))).r (prtF r c l (at_ 0 (stsL c l l.length) (t : Int))).c (prtF r c l (at_ 0 (stsL c l l.length) (t : Int))).l :=
  prtF_ok hf (stsL_on (at_mem 0 _ (i := (t : Int)) (by omega) (by omega))).1
end
theorem C.PartsOf_c {vc : Value} {r c : Int} {l : List Int} {H : Hp} {K : Value → Hp → Prop} (hvc : Sl eI H vc l) (k1 : l.length ≤ 9223372036854775807)
    (hk1 : fieldN 1 r c l → ∀ u1 S1 u2 H', Fam H' u1 S1 (prtL r c l (stsL c l l.length)) → Own eI H' u2 (plcL r c l (stsL c l l.length)) → Nws H S1 → Nw H u2 → Apt S1 u2 → Le H H' → K (.tuple #[u1, u2, .bool true]) H')
    (hk2 : ¬ fieldN 1 r c l → ∀ u1 u2 H', Le H H' → K (.tuple #[u1, u2, .bool false]) H') : HT prg I.impl_PartsOf [.agg #[.int .i64 r, .int .i64 c, vc]].toArray H K := by
  refine C.impl_PartsOf hvc k1 (fun u1 S1 u2 H' o1 o2 n1 n2 a le => ?_)
  by_cases h : fieldN 1 r c l
  · rw [selL_t h] at o1 o2
    rw [decide_eq_true h]
    exact hk1 h u1 S1 u2 H' o1 o2 n1 n2 a le
  · rw [decide_eq_false h]
    exact hk2 h u1 u2 H' le
theorem C.bits_Len0 {H : Hp} {K : Value → Hp → Prop} (hk : K (.int .i64 0) H) : HT prg I.math_bits_Len [.int .u64 0].toArray H K := by
 refine R.math_bits_Len ?_
 unfold F.math_bits_Len
 refine cnd_f1 ?_
 refine R.math_bits_Len64 ?_
 unfold F.math_bits_Len64
 refine jn_i (fun σ H' => σ 0 = .int .u64 0 ∧ σ 2 = .int .i64 0 ∧ H' = H) (fun σ H1 hP => ?_) (fun J hJ => ?_)
 ·obtain ⟨g0, g2, rfl⟩ := hP
  refine jn_i (fun σ' H' => σ' 0 = .int .u64 0 ∧ σ' 2 = .int .i64 0 ∧ H' = H1) (fun σ2 H2 hP => ?_) (fun J2 hJ2 => ?_)
  ·obtain ⟨g0, g2, rfl⟩ := hP
   rw [g0, g2]
   refine ob_i (a := .bool false) (by kernel_rfl) ?_
   refine cnd_f1 ?_
   refine ob_i (a := .int .u8 0) (by kernel_rfl) ?_
   refine ob_i (a := .int .u8 0) (by kernel_rfl) ?_
   refine ob_i (a := .int .i64 0) (by kernel_rfl) ?_
   refine ob_i (a := .int .i64 0) (by kernel_rfl) ?_
   exact hk
  ·rw [g0, g2]
   refine ob_i (a := .bool false) (by kernel_rfl) ?_
   refine cnd_f1 ?_
   exact hJ2 _ _ ⟨g0, g2, rfl⟩
 ·refine ob_i (a := .bool false) (by kernel_rfl) ?_
  refine cnd_f1 ?_
  exact hJ _ _ ⟨rfl, rfl, rfl⟩
theorem C.slices_Sort_T {v : Value} {ls : List Txt} {H : Hp} {K : Value → Hp → Prop} (ho : Own vS H v ls) (hl : ls.length ≤ 1000000) (hk : ∀ H', Own vS H' v (srtT ls) → Off v H H' → K (.tuple #[]) H') : HT prg I.slices_Sort_string_string [v].toArray H K := by
 rcases Nat.eq_zero_or_pos ls.length with h | h
 ·obtain rfl : ls = [] := List.length_eq_zero_iff.mp h
  have hs : srtT ([] : List Txt) = [] := by simp [srtT]
  refine R.slices_Sort_string_string ?_
  unfold F.slices_Sort_string_string
  refine ob_i ho.len ?_
  refine ob_i (a := .int .u64 0) (by kernel_rfl) ?_
  refine C.bits_Len0 ?_
  refine R.slices_pdqsortOrdered_string ?_
  unfold F.slices_pdqsortOrdered_string
  refine ⟨fun n σ H' => n = 0 ∧ σ 0 = v ∧ σ 1 = .int .i64 0 ∧ σ 2 = .int .i64 0 ∧ H' = H, ⟨0, rfl, rfl, rfl, rfl, rfl⟩, ?_⟩
  rintro n σ H1 ⟨rfl, g0, g1, g2, rfl⟩
  simp only [g0, g1, g2]
  refine ob_i (a := .int .i64 0) (by kernel_rfl) ?_
  refine ob_i (a := .bool true) (by kernel_rfl) ?_
  refine cnd_t1 ?_
  refine R.slices_insertionSortOrdered_string ?_
  unfold F.slices_insertionSortOrdered_string
  refine ob_i (a := .int .i64 1) (by kernel_rfl) ?_
  refine ⟨fun n σ H' => n = 0 ∧ σ 6 = .int .i64 1 ∧ σ 2 = .int .i64 0 ∧ H' = H1, ⟨0, rfl, rfl, rfl, rfl⟩, ?_⟩
  rintro n σ H2 ⟨rfl, g6, g2, rfl⟩
  simp only [g6, g2]
  refine ob_i (a := .bool false) (by kernel_rfl) ?_
  refine cnd_f1 ?_
  exact hk H2 (by rw [hs]; exact ho) (Off.of_le (Le.refl H2))
 ·exact HT_sort ho h (srtT_len ls) (fun blk off cap w hH hb => sortT_calls blk off cap ls w hH hb (by omega)) hk
end Go.Proofs.YtffmfkpobjdmmaaGreatDoor
/- A census of a field's parts: the program's, and the reference's. -/
namespace Go.Proofs.YtffmfkpobjdmmaaGreatDoor
open HL
set_option maxRecDepth 100000
attribute [local irreducible] vStr
theorem C.spec_l05Cut_r {p vc : Value} {r c row col rows cols : Int} {l : List Int} {H : Hp} {K : Value → Hp → Prop} (hp0 : CelR H p [.int .i64 r, .int .i64 c, vc]) (hvc0 : Sl eI H vc l) (hs : sidesF r c) (hl : (l.length : Int) = r * c)
    (h0 : 0 ≤ row) (h1 : 0 ≤ col) (h2 : 1 ≤ rows) (h3 : 1 ≤ cols) (h4 : row + rows ≤ r) (h5 : col + cols ≤ c) (hk : ∀ u H', Own eI H' u (mkL cols (cutG c l row col) (rows.toNat * cols.toNat)) → Nw H u → Le H H' → K (.agg #[.int .i64 rows, .int .i64 cols, u]) H') :
    HT prg I.spec_l05Cut [p, .int .i64 row, .int .i64 col, .int .i64 rows, .int .i64 cols].toArray H K := by
 have q1 := hs.1
 have q2 := hs.2
 have lE := Le.refl H
 have hp := hp0
 have hvc := hvc0
 refine R.spec_l05Cut ?_
 unfold F.spec_l05Cut
 refine nw_i (fun q H1 oq nn2 le3 => ?_)
 have nq : Nw H q := nn2.le lE
 replace hp := hp.le le3
 replace hvc := hvc.le le3
 replace lE := lE.trans le3
 replace oq : Cel H1 q [(.int .i64 (0)), (.int .i64 (0)), (.slice none 0 0)] := oq
 refine C.spec_l04New (by omega) (by omega) (by omega) (by omega) (fun u H4 ou nn6  le5 => ?_)
 have aqXu : Apart q u := oq.apart nn6
 have nu : Nw H u := nn6.le lE
 replace oq := oq.le le5
 replace hp := hp.le le5
 replace hvc := hvc.le le5
 replace lE := lE.trans le5
 refine nw_i (fun s H7 os nn8 le9 => ?_)
 have aqXs : Apart q s := oq.apart nn8
 have auXs : Apart u s := ou.apart nn8
 have ns : Nw H s := nn8.le lE
 replace oq := oq.le le9
 replace ou := ou.le le9
 replace hp := hp.le le9
 replace hvc := hvc.le le9
 replace lE := lE.trans le9
 replace os : Cel H7 s [(.int .i64 (0)), (.int .i64 (0)), (.slice none 0 0)] := os
 refine os.stn (ws := [(.int .i64 (rows)), (.int .i64 (cols)), u]) rfl rfl (oc1 rfl (oc1 rfl (oc1 ou.one oc0))) (fun H10 os off11 => ?_)
 replace oq := oq.off off11 aqXs
 replace ou := ou.off off11 auXs
 replace hp := hp0.le (off11.le lE ns)
 replace hvc := hvc0.le (off11.le lE ns)
 replace lE := off11.le lE ns
 replace os : Cel H10 s [(.int .i64 (rows)), (.int .i64 (cols)), u] := os
 refine jn_i (fun σ' H' => σ' 10 = q ∧ σ' 11 = s ∧ Cel H' q [(.int .i64 (0)), (.int .i64 (0)), (.slice none 0 0)] ∧ Own eI H' u (mkL cols (cutG c l row col) (rows.toNat * cols.toNat)) ∧ Cel H' s [(.int .i64 (rows)), (.int .i64 (cols)), u] ∧ Le H H') (fun σ12 H12 hP => ?_) (fun J12 hJ12 => ?_)
 ·skip
  obtain ⟨g10L12, g11L12, oq, ou, os, lE⟩ := hP
  have hp := hp0.le lE
  have hvc := hvc0.le lE
  simp only [g10L12, g11L12]
  refine ob_i (os.ldn rfl) ?_
  refine oq.stn (ws := [(.int .i64 (rows)), (.int .i64 (cols)), u]) rfl rfl (oc1 rfl (oc1 rfl (oc1 ou.one oc0))) (fun H13 oq off14 => ?_)
  replace ou := ou.off off14 aqXu.symm
  replace hp := hp0.le (off14.le lE nq)
  replace hvc := hvc0.le (off14.le lE nq)
  replace lE := off14.le lE nq
  replace oq : Cel H13 q [(.int .i64 (rows)), (.int .i64 (cols)), u] := oq
  refine ob_i (oq.ldn rfl) ?_
  exact hk u _ ou nu lE
 refine ⟨fun n' σ' H' => ∃ i : Nat, n' = rows.toNat - i ∧ i ≤ rows.toNat ∧ σ' 0 = p ∧ σ' 1 = (.int .i64 (row)) ∧ σ' 2 = (.int .i64 (col)) ∧ σ' 3 = (.int .i64 (rows)) ∧ σ' 4 = (.int .i64 (cols)) ∧ σ' 10 = q ∧ σ' 11 = s ∧ σ' 12 = (.int .i64 ((i : Int))) ∧ Cel H' q [(.int .i64 (0)), (.int .i64 (0)), (.slice none 0 0)] ∧ Own eI H' u (fillL cols (cutG c l row col) (rows.toNat * cols.toNat) (i * cols.toNat)) ∧ Cel H' s [(.int .i64 (rows)), (.int .i64 (cols)), u] ∧ Le H H',
  ⟨_, 0, rfl, by omega, rfl, rfl, rfl, rfl, rfl, rfl, rfl, rfl, oq, by rw [Nat.zero_mul, fillL_zero]; exact ou, os, lE⟩, ?_⟩
 rintro n15 σ15 H15 ⟨i, rfl, hiN, g0L15, g1L15, g2L15, g3L15, g4L15, g10L15, g11L15, g12L15, oq, ou, os, lE⟩
 have hp := hp0.le lE
 have hvc := hvc0.le lE
 simp only [g3L15, g12L15]
 refine ob_i (vInt_lss _ _ _) ?_
 refine cnd_d (fun hg16 => ?_) (fun hg16 => ?_)
 ·skip
  have ti := hg16
  refine jn_i (fun σ' H' => σ' 0 = p ∧ σ' 1 = (.int .i64 (row)) ∧ σ' 2 = (.int .i64 (col)) ∧ σ' 3 = (.int .i64 (rows)) ∧ σ' 4 = (.int .i64 (cols)) ∧ σ' 10 = q ∧ σ' 11 = s ∧ σ' 12 = (.int .i64 ((i : Int))) ∧ Cel H' q [(.int .i64 (0)), (.int .i64 (0)), (.slice none 0 0)] ∧ Own eI H' u (fillL cols (cutG c l row col) (rows.toNat * cols.toNat) ((i + 1) * cols.toNat)) ∧ Cel H' s [(.int .i64 (rows)), (.int .i64 (cols)), u] ∧ Le H H') (fun σ17 H17 hP => ?_) (fun J17 hJ17 => ?_)
  ·skip
   obtain ⟨g0L17, g1L17, g2L17, g3L17, g4L17, g10L17, g11L17, g12L17, oq, ou, os, lE⟩ := hP
   simp only [g12L17]
   refine ob_i (vInt_add (by omega) (by omega)) ?_
   exact nxt (rows.toNat - (i + 1)) (by omega) ⟨i + 1, rfl, by omega, g0L17, g1L17, g2L17, g3L17, g4L17, g10L17, g11L17, rfl, oq, ou, os, lE⟩
  refine ⟨fun n' σ' H' => ∃ k : Nat, n' = cols.toNat - k ∧ k ≤ cols.toNat ∧ σ' 0 = p ∧ σ' 1 = (.int .i64 (row)) ∧ σ' 2 = (.int .i64 (col)) ∧ σ' 3 = (.int .i64 (rows)) ∧ σ' 4 = (.int .i64 (cols)) ∧ σ' 10 = q ∧ σ' 11 = s ∧ σ' 12 = (.int .i64 ((i : Int))) ∧ σ' 13 = (.int .i64 ((k : Int))) ∧ Cel H' q [(.int .i64 (0)), (.int .i64 (0)), (.slice none 0 0)] ∧ Own eI H' u (fillL cols (cutG c l row col) (rows.toNat * cols.toNat) (i * cols.toNat + k)) ∧ Cel H' s [(.int .i64 (rows)), (.int .i64 (cols)), u] ∧ Le H H',
   ⟨_, 0, rfl, by omega, g0L15, g1L15, g2L15, g3L15, g4L15, g10L15, g11L15, g12L15, rfl, oq, ou, os, lE⟩, ?_⟩
  rintro n18 σ18 H18 ⟨k, rfl, hkN, g0L18, g1L18, g2L18, g3L18, g4L18, g10L18, g11L18, g12L18, g13L18, oq, ou, os, lE⟩
  have hp := hp0.le lE
  have hvc := hvc0.le lE
  simp only [g0L18, g1L18, g2L18, g4L18, g11L18, g12L18, g13L18]
  refine ob_i (vInt_lss _ _ _) ?_
  refine cnd_d (fun hg19 => ?_) (fun hg19 => ?_)
  ·skip
   have tk := hg19
   have x1 := ix_lt (a := row + i) (b := col + k) (r := r) (c := c) (by omega) (by omega) (by omega) (by omega)
   have x2 := ix_lt (a := (i : Int)) (b := (k : Int)) (r := rows) (c := cols) (by omega) (by omega) (by omega) (by omega)
   have x3 := fillL_len (c := cols) (g := cutG c l row col) (rr := rows) (cc := cols) (t := i * cols.toNat + k) (by omega) (by omega)
   have x4 := sidesF_mul hs
   have x5 := ix_le (a := rows) (b := cols) (by omega) (by omega) (by omega) (by omega)
   refine ob_i (os.fa 2) ?_
   refine ob_i (os.ld 2 rfl) ?_
   refine ob_i (vInt_mul (by omega) (by omega)) ?_
   refine ob_i (vInt_add (by omega) (by omega)) ?_
   refine ob_i (hp.nilC) ?_
   refine ob_i (hp.fa 2) ?_
   refine ob_i (hp.ld 2 rfl) ?_
   refine ob_i (vInt_add (by omega) (by omega)) ?_
   refine ob_i (hp.nilC) ?_
   refine ob_i (hp.fa 1) ?_
   refine ob_i (hp.ld 1 rfl) ?_
   refine ob_i (vInt_mul (by omega) (by omega)) ?_
   refine ob_i (vInt_add (by omega) (by omega)) ?_
   refine ob_i (vInt_add (by omega) (by omega)) ?_
   refine ob_i (hvc.ix (by omega) (by omega)) ?_
   refine ob_i (hvc.ld 0 (by omega) (by omega)) ?_
   refine ob_i (ou.sl.ix (by omega) (by omega)) ?_
   refine ou.st (x := at_ 0 (l) ((((row + (i : Int)) * c) + col) + (k : Int))) (by omega) (by omega) rfl rfl (fun H20 ou off21 => ?_)
   replace oq := oq.off off21 aqXu
   replace os := os.off off21 auXs.symm
   replace hp := hp0.le (off21.le lE nu)
   replace hvc := hvc0.le (off21.le lE nu)
   replace lE := off21.le lE nu
   refine ob_i (vInt_add (by omega) (by omega)) ?_
   have e := fillL_set (c := cols) (g := cutG c l row col) (N := (rows.toNat * cols.toNat)) (i := i) (k := k) (t := i * cols.toNat + k) (by omega) (by omega) (by omega) (cast_ix (by omega)) (by omega)
   replace ou : Own eI H20 u (fillL cols (cutG c l row col) (rows.toNat * cols.toNat) (i * cols.toNat + (k + 1))) := by rw [← Nat.add_assoc, ← e]; exact ou
   exact nxt (cols.toNat - (k + 1)) (by omega) ⟨k + 1, rfl, by omega, g0L18, g1L18, g2L18, g3L18, g4L18, g10L18, g11L18, g12L18, rfl, oq, ou, os, lE⟩
  ·skip
   have tk := hg19
   rw [show i * cols.toNat + k = (i + 1) * cols.toNat by rw [Nat.add_mul, Nat.one_mul]; omega] at ou
   exact hJ17 _ _ ⟨g0L18, g1L18, g2L18, g3L18, g4L18, g10L18, g11L18, g12L18, oq, ou, os, lE⟩
 ·skip
  have ti := hg16
  rw [fillL_end (by rw [show i = rows.toNat by omega]; exact Nat.le_refl _)] at ou
  exact hJ12 _ _ ⟨g10L15, g11L15, oq, ou, os, lE⟩
theorem C.spec_l05Trim_r {p vc : Value} {r c : Int} {l : List Int} {H : Hp} {K : Value → Hp → Prop} (hp0 : CelR H p [.int .i64 r, .int .i64 c, vc]) (hvc0 : Sl eI H vc l) (hs : sidesF r c) (hl : (l.length : Int) = r * c)
    (hk1 : (trm r c l).2.1 < 0 → ∀ H', Le H H' → K (.tuple #[.agg #[.int .i64 0, .int .i64 0, .slice none 0 0], .int .i64 0, .int .i64 0, .bool false]) H')
    (hk2 : 0 ≤ (trm r c l).2.1 → ∀ u H', Own eI H' u (trL r c l) → Nw H u → Le H H' → K (.tuple #[.agg #[.int .i64 (trR r c l), .int .i64 (trC r c l), u], .int .i64 (trm r c l).1, .int .i64 (trm r c l).2.2.1, .bool true]) H') :
    HT prg I.spec_l05Trim [p].toArray H K := by
 have q1 := hs.1
 have q2 := hs.2
 have m := sidesF_mul hs
 change (trS r c l (r * c).toNat).2.1 < 0 → _ at hk1
 change 0 ≤ (trS r c l (r * c).toNat).2.1 → _ at hk2
 have lE := Le.refl H
 have hp := hp0
 have hvc := hvc0
 refine R.spec_l05Trim ?_
 unfold F.spec_l05Trim
 refine nw_i (fun q H1 oq nn2 le3 => ?_)
 have nq : Nw H q := nn2.le lE
 replace hp := hp.le le3
 replace hvc := hvc.le le3
 replace lE := lE.trans le3
 replace oq : Cel H1 q [(.int .i64 (0)), (.int .i64 (0)), (.slice none 0 0)] := oq
 refine ob_i (hp.nilC) ?_
 refine ob_i (hp.fa 0) ?_
 refine ob_i (hp.ld 0 rfl) ?_
 refine ob_i (hp.nilC) ?_
 refine ob_i (hp.fa 1) ?_
 refine ob_i (hp.ld 1 rfl) ?_
 refine jn_i (fun σ' H' => σ' 0 = p ∧ σ' 2 = q ∧ σ' 6 = (.int .i64 ((trS r c l ((r * c).toNat)).1)) ∧ σ' 7 = (.int .i64 ((trS r c l ((r * c).toNat)).2.1)) ∧ σ' 8 = (.int .i64 ((trS r c l ((r * c).toNat)).2.2.1)) ∧ σ' 9 = (.int .i64 ((trS r c l ((r * c).toNat)).2.2.2)) ∧ Cel H' q [(.int .i64 (0)), (.int .i64 (0)), (.slice none 0 0)] ∧ Le H H') (fun σ4 H4 hP => ?_) (fun J4 hJ4 => ?_)
 ·skip
  obtain ⟨g0L4, g2L4, g6L4, g7L4, g8L4, g9L4, oq, lE⟩ := hP
  have hp := hp0.le lE
  have hvc := hvc0.le lE
  simp only [g0L4, g2L4, g6L4, g7L4, g8L4, g9L4]
  have b := trS_bnd (l := l) hs (r * c).toNat (by omega)
  have b2 := trS_ok (l := l) hs (r * c).toNat (by omega)
  refine ob_i (vInt_lss _ _ _) ?_
  refine cnd_d (fun hg5 => ?_) (fun hg5 => ?_)
  ·skip
   refine ob_i (a := (.agg #[(.int .i64 (0)), (.int .i64 (0)), (.slice none 0 0)])) (by rfl) ?_
   refine oq.stn (ws := [(.int .i64 (0)), (.int .i64 (0)), (.slice none 0 0)]) rfl rfl (oc1 rfl (oc1 rfl (oc1 rfl oc0))) (fun H6 oq off7 => ?_)
   replace hp := hp0.le (off7.le lE nq)
   replace hvc := hvc0.le (off7.le lE nq)
   replace lE := off7.le lE nq
   replace oq : Cel H6 q [(.int .i64 (0)), (.int .i64 (0)), (.slice none 0 0)] := oq
   refine ob_i (oq.ldn rfl) ?_
   exact hk1 (by omega) _ lE
  ·skip
   refine ob_i (vInt_sub (by omega) (by omega)) ?_
   refine ob_i (vInt_add (by omega) (by omega)) ?_
   refine ob_i (vInt_sub (by omega) (by omega)) ?_
   refine ob_i (vInt_add (by omega) (by omega)) ?_
   refine C.spec_l05Cut_r hp hvc hs hl (by omega) (by omega) (by omega) (by omega) (by omega) (by omega) (fun u10 H8 ou10 nn11  le9 => ?_)
   have aqXu10 : Apart q u10 := oq.apart nn11
   have nu10 : Nw H u10 := nn11.le lE
   replace oq := oq.le le9
   replace hp := hp.le le9
   replace hvc := hvc.le le9
   replace lE := lE.trans le9
   refine oq.stn (ws := [(.int .i64 ((((trS r c l ((r * c).toNat)).2.1) - ((trS r c l ((r * c).toNat)).1)) + 1)), (.int .i64 ((((trS r c l ((r * c).toNat)).2.2.2) - ((trS r c l ((r * c).toNat)).2.2.1)) + 1)), u10]) rfl rfl (oc1 rfl (oc1 rfl (oc1 ou10.one oc0))) (fun H12 oq off13 => ?_)
   replace ou10 := ou10.off off13 aqXu10.symm
   replace hp := hp0.le (off13.le lE nq)
   replace hvc := hvc0.le (off13.le lE nq)
   replace lE := off13.le lE nq
   replace oq : Cel H12 q [(.int .i64 ((((trS r c l ((r * c).toNat)).2.1) - ((trS r c l ((r * c).toNat)).1)) + 1)), (.int .i64 ((((trS r c l ((r * c).toNat)).2.2.2) - ((trS r c l ((r * c).toNat)).2.2.1)) + 1)), u10] := oq
   refine ob_i (oq.ldn rfl) ?_
   exact hk2 (by omega) u10 _ ou10 nu10 lE
 refine ⟨fun n' σ' H' => ∃ i : Nat, n' = r.toNat - i ∧ i ≤ r.toNat ∧ σ' 0 = p ∧ σ' 2 = q ∧ σ' 6 = (.int .i64 ((trS r c l (i * c.toNat)).1)) ∧ σ' 7 = (.int .i64 ((trS r c l (i * c.toNat)).2.1)) ∧ σ' 8 = (.int .i64 ((trS r c l (i * c.toNat)).2.2.1)) ∧ σ' 9 = (.int .i64 ((trS r c l (i * c.toNat)).2.2.2)) ∧ σ' 10 = (.int .i64 ((i : Int))) ∧ Cel H' q [(.int .i64 (0)), (.int .i64 (0)), (.slice none 0 0)] ∧ Le H H',
  ⟨_, 0, rfl, by omega, rfl, rfl, by rw [Nat.zero_mul]; rfl, by rw [Nat.zero_mul]; rfl, by rw [Nat.zero_mul]; rfl, by rw [Nat.zero_mul]; rfl, rfl, oq, lE⟩, ?_⟩
 rintro n14 σ14 H14 ⟨i, rfl, hiN, g0L14, g2L14, g6L14, g7L14, g8L14, g9L14, g10L14, oq, lE⟩
 have hp := hp0.le lE
 have hvc := hvc0.le lE
 simp only [g0L14, g10L14]
 refine ob_i (hp.nilC) ?_
 refine ob_i (hp.fa 0) ?_
 refine ob_i (hp.ld 0 rfl) ?_
 refine ob_i (vInt_lss _ _ _) ?_
 refine cnd_d (fun hg15 => ?_) (fun hg15 => ?_)
 ·skip
  have ti := hg15
  refine jn_i (fun σ' H' => σ' 0 = p ∧ σ' 2 = q ∧ σ' 6 = (.int .i64 ((trS r c l ((i + 1) * c.toNat)).1)) ∧ σ' 7 = (.int .i64 ((trS r c l ((i + 1) * c.toNat)).2.1)) ∧ σ' 8 = (.int .i64 ((trS r c l ((i + 1) * c.toNat)).2.2.1)) ∧ σ' 9 = (.int .i64 ((trS r c l ((i + 1) * c.toNat)).2.2.2)) ∧ σ' 10 = (.int .i64 ((i : Int))) ∧ Cel H' q [(.int .i64 (0)), (.int .i64 (0)), (.slice none 0 0)] ∧ Le H H') (fun σ16 H16 hP => ?_) (fun J16 hJ16 => ?_)
  ·skip
   obtain ⟨g0L16, g2L16, g6L16, g7L16, g8L16, g9L16, g10L16, oq, lE⟩ := hP
   simp only [g10L16]
   refine ob_i (vInt_add (by omega) (by omega)) ?_
   exact nxt (r.toNat - (i + 1)) (by omega) ⟨i + 1, rfl, by omega, g0L16, g2L16, g6L16, g7L16, g8L16, g9L16, rfl, oq, lE⟩
  refine ⟨fun n' σ' H' => ∃ k : Nat, n' = c.toNat - k ∧ k ≤ c.toNat ∧ σ' 0 = p ∧ σ' 2 = q ∧ σ' 6 = (.int .i64 ((trS r c l (i * c.toNat + k)).1)) ∧ σ' 7 = (.int .i64 ((trS r c l (i * c.toNat + k)).2.1)) ∧ σ' 8 = (.int .i64 ((trS r c l (i * c.toNat + k)).2.2.1)) ∧ σ' 9 = (.int .i64 ((trS r c l (i * c.toNat + k)).2.2.2)) ∧ σ' 10 = (.int .i64 ((i : Int))) ∧ σ' 11 = (.int .i64 ((k : Int))) ∧ Cel H' q [(.int .i64 (0)), (.int .i64 (0)), (.slice none 0 0)] ∧ Le H H',
   ⟨_, 0, rfl, by omega, g0L14, g2L14, g6L14, g7L14, g8L14, g9L14, g10L14, rfl, oq, lE⟩, ?_⟩
  rintro n17 σ17 H17 ⟨k, rfl, hkN, g0L17, g2L17, g6L17, g7L17, g8L17, g9L17, g10L17, g11L17, oq, lE⟩
  have hp := hp0.le lE
  have hvc := hvc0.le lE
  simp only [g0L17, g6L17, g7L17, g8L17, g9L17, g10L17, g11L17]
  refine ob_i (hp.nilC) ?_
  refine ob_i (hp.fa 1) ?_
  refine ob_i (hp.ld 1 rfl) ?_
  refine ob_i (vInt_lss _ _ _) ?_
  refine cnd_d (fun hg18 => ?_) (fun hg18 => ?_)
  ·skip
   have tk := hg18
   have x1 := ix_lt (a := (i : Int)) (b := (k : Int)) (r := r) (c := c) (by omega) (by omega) (by omega) (by omega)
   have x4 := sidesF_mul hs
   refine ob_i (hp.nilC) ?_
   refine ob_i (hp.fa 2) ?_
   refine ob_i (hp.ld 2 rfl) ?_
   refine ob_i (hp.nilC) ?_
   refine ob_i (hp.fa 1) ?_
   refine ob_i (hp.ld 1 rfl) ?_
   refine ob_i (vInt_mul (by omega) (by omega)) ?_
   refine ob_i (vInt_add (by omega) (by omega)) ?_
   refine ob_i (hvc.ix (by omega) (by omega)) ?_
   refine ob_i (hvc.ld 0 (by omega) (by omega)) ?_
   refine ob_i (vInt_eql _ _ _) ?_
   refine cnd_d (fun hg19 => ?_) (fun hg19 => ?_)
   ·skip
    refine C.spec_l00Min  ?_
    refine C.spec_l00Max  ?_
    refine C.spec_l00Min  ?_
    refine C.spec_l00Max  ?_
    refine ob_i (vInt_add (by omega) (by omega)) ?_
    have eT := trS_t2 (r := r) (c := c) (i := (i : Int)) (k := (k : Int)) (t := i * c.toNat + k) (by omega) (by omega) (by omega) (cast_ix (by omega)) hg19
    exact nxt (c.toNat - (k + 1)) (by omega) ⟨k + 1, rfl, by omega, g0L17, g2L17, (by rw [← Nat.add_assoc, eT]; rfl), (by rw [← Nat.add_assoc, eT]; rfl), (by rw [← Nat.add_assoc, eT]; rfl), (by rw [← Nat.add_assoc, eT]; rfl), g10L17, rfl, oq, lE⟩
   ·skip
    refine ob_i (vInt_add (by omega) (by omega)) ?_
    have eT := trS_f2 (r := r) (c := c) (i := (i : Int)) (k := (k : Int)) (t := i * c.toNat + k) (cast_ix (by omega)) hg19
    exact nxt (c.toNat - (k + 1)) (by omega) ⟨k + 1, rfl, by omega, g0L17, g2L17, (by rw [← Nat.add_assoc, eT]; exact g6L17), (by rw [← Nat.add_assoc, eT]; exact g7L17), (by rw [← Nat.add_assoc, eT]; exact g8L17), (by rw [← Nat.add_assoc, eT]; exact g9L17), g10L17, rfl, oq, lE⟩
  ·skip
   have tk := hg18
   exact hJ16 _ _ ⟨g0L17, g2L17, (by rw [← show i * c.toNat + k = (i + 1) * c.toNat by rw [Nat.add_mul, Nat.one_mul]; congr 1; omega]; exact g6L17), (by rw [← show i * c.toNat + k = (i + 1) * c.toNat by rw [Nat.add_mul, Nat.one_mul]; congr 1; omega]; exact g7L17), (by rw [← show i * c.toNat + k = (i + 1) * c.toNat by rw [Nat.add_mul, Nat.one_mul]; congr 1; omega]; exact g8L17), (by rw [← show i * c.toNat + k = (i + 1) * c.toNat by rw [Nat.add_mul, Nat.one_mul]; congr 1; omega]; exact g9L17), g10L17, oq, lE⟩
 ·skip
  have ti := hg15
  exact hJ4 _ _ ⟨g0L14, g2L14, (by rw [← show i * c.toNat = (r * c).toNat by rw [Int.toNat_mul (by omega) (by omega)]; congr 1; omega]; exact g6L14), (by rw [← show i * c.toNat = (r * c).toNat by rw [Int.toNat_mul (by omega) (by omega)]; congr 1; omega]; exact g7L14), (by rw [← show i * c.toNat = (r * c).toNat by rw [Int.toNat_mul (by omega) (by omega)]; congr 1; omega]; exact g8L14), (by rw [← show i * c.toNat = (r * c).toNat by rw [Int.toNat_mul (by omega) (by omega)]; congr 1; omega]; exact g9L14), oq, lE⟩
theorem C.spec_l05Name_r {p vc : Value} {r c : Int} {l : List Int}  {H : Hp} {K : Value → Hp → Prop} (hp0 : CelR H p [(.int .i64 (r)), (.int .i64 (c)), vc]) (hvc0 : Sl eI H vc l) (hf : fieldN 1 r c l)
    (hk : ∀ H', Le H H' → K (vS (nameT r c l)) H') : HT prg I.spec_l05Name [p].toArray H K := by
 have lE := Le.refl H
 have hp := hp0
 have hvc := hvc0
 refine R.spec_l05Name ?_
 unfold F.spec_l05Name
 have hs := hf.1
 have hl := hf.2.1
 have q1 := hs.1
 have q2 := hs.2
 have qm := sidesF_mul hs
 have l1 := fieldN_len hf
 have il := imgs_len (⟨(trR r c l), (trC r c l), (trL r c l)⟩ : FdL) 8
 refine C.spec_l05Trim_r hp hvc (by first | omega | assumption) (by first | omega | assumption) (fun hc1  H2    le3 => ?_) (fun hc4 u7 H5 ou7 nn8  le6 => ?_)
 ·skip
  replace hp := hp.le le3
  replace hvc := hvc.le le3
  replace lE := lE.trans le3
  refine ob_i (vExt_40 _ _ _ _) ?_
  refine ob_i (vExt_41 _ _ _ _) ?_
  refine ob_i (vExt_42 _ _ _ _) ?_
  refine ob_i (vExt_43 _ _ _ _) ?_
  refine nw_i (fun pt H9 opt nn10 le11 => ?_)
  have npt : Nw H pt := nn10.le lE
  replace hp := hp.le le11
  replace hvc := hvc.le le11
  replace lE := lE.trans le11
  replace opt : Cel H9 pt [(.int .i64 (0)), (.int .i64 (0)), (.slice none 0 0)] := opt
  refine opt.stn (ws := [(.int .i64 (0)), (.int .i64 (0)), (.slice none 0 0)]) rfl rfl (oc1 rfl (oc1 rfl (oc1 rfl oc0))) (fun H12 opt off13 => ?_)
  replace hp := hp0.le (off13.le lE npt)
  replace hvc := hvc0.le (off13.le lE npt)
  replace lE := off13.le lE npt
  replace opt : Cel H12 pt [(.int .i64 (0)), (.int .i64 (0)), (.slice none 0 0)] := opt
  refine ob_i (a := .bool true) rfl ?_
  refine cnd_t1 ?_
  skip
  exact keq (K := K) (by rw [show (nameT r c l) = (([] : List UInt8)) from by exact nameT_f hc1]; try rfl) (hk   _    lE)
 ·skip
  have hpos := hc4
  replace hp := hp.le le6
  replace hvc := hvc.le le6
  replace lE := lE.trans le6
  refine ob_i (vExt_40 _ _ _ _) ?_
  refine ob_i (vExt_41 _ _ _ _) ?_
  refine ob_i (vExt_42 _ _ _ _) ?_
  refine ob_i (vExt_43 _ _ _ _) ?_
  refine nw_i (fun pt H14 opt nn15 le16 => ?_)
  have au7Xpt : Apart u7 pt := ou7.apart nn15
  have npt : Nw H pt := nn15.le lE
  replace ou7 := ou7.le le16
  replace hp := hp.le le16
  replace hvc := hvc.le le16
  replace lE := lE.trans le16
  replace opt : Cel H14 pt [(.int .i64 (0)), (.int .i64 (0)), (.slice none 0 0)] := opt
  refine opt.stn (ws := [(.int .i64 (trR r c l)), (.int .i64 (trC r c l)), u7]) rfl rfl (oc1 rfl (oc1 rfl (oc1 ou7.one oc0))) (fun H17 opt off18 => ?_)
  replace ou7 := ou7.off off18 au7Xpt
  replace hp := hp0.le (off18.le lE npt)
  replace hvc := hvc0.le (off18.le lE npt)
  replace lE := off18.le lE npt
  replace opt : Cel H17 pt [(.int .i64 (trR r c l)), (.int .i64 (trC r c l)), u7] := opt
  refine ob_i (a := .bool false) rfl ?_
  refine cnd_f1 ?_
  refine C.spec_l05Images opt ou7.sl (by exact trF_ok hf hpos) (fun  im Sim H19 oim nn21  le20 => ?_)
  replace ou7 := ou7.le le20
  replace opt := opt.le le20
  replace lE := lE.trans le20
  refine jn_i (fun σ' H' => σ' 8 = (vS (minF (imT (tmF r c l) 8))) ∧ Own eI H' u7 (trL r c l) ∧ Cel H' pt [(.int .i64 (trR r c l)), (.int .i64 (trC r c l)), u7] ∧ Fam H' im Sim (imgs (⟨(trR r c l), (trC r c l), (trL r c l)⟩ : FdL) 8) ∧ Le H H') (fun σ22 H22 hP => ?_) (fun J22 hJ22 => ?_)
  ·skip
   obtain ⟨g8L22, ou7, opt, oim, lE⟩ := hP
   try simp only [g8L22]
   skip
   exact keq (K := K) (by rw [show (nameT r c l) = (minF (imT (tmF r c l) 8)) from by exact nameT_t hpos]; try rfl) (hk   _    lE)
  refine ob_i (oim.len) ?_
  refine ⟨fun n' σ' H' => ∃ i : Nat, n' = 8 - i ∧ i ≤ 8 ∧ σ' 7 = im ∧ σ' 8 = (vS (minF (imT (tmF r c l) i))) ∧ σ' 22 = (.int .i64 (((imgs (⟨(trR r c l), (trC r c l), (trL r c l)⟩ : FdL) 8).length : Int))) ∧ σ' 23 = (.int .i64 ((i : Int))) ∧ Own eI H' u7 (trL r c l) ∧ Cel H' pt [(.int .i64 (trR r c l)), (.int .i64 (trC r c l)), u7] ∧ Fam H' im Sim (imgs (⟨(trR r c l), (trC r c l), (trL r c l)⟩ : FdL) 8) ∧ Le H H',
   ⟨_, 0, rfl, by omega, rfl, rfl, rfl, (congrArg (Value.int .i64) (by first | omega | rfl | (simp; done))), ou7, opt, oim, lE⟩, ?_⟩
  rintro n23 σ23 H23 ⟨i, rfl, hiN, g7L23, g8L23, g22L23, g23L23, ou7, opt, oim, lE⟩
  try simp only [g7L23, g8L23, g22L23, g23L23]
  refine ob_i (vInt_lss _ _ _) ?_
  refine cnd_d (fun hg24 => ?_) (fun hg24 => ?_)
  ·skip
   have ti := hg24
   obtain ⟨P25, y26, hb27a, oP25, oy26, hb27p, hb27x⟩ := oim.el (i := (i : Int)) (f := ⟨(imF (tmF r c l) i).r, (imF (tmF r c l) i).c, (imF (tmF r c l) i).l⟩) (by omega) (by first | omega | (simp; omega)) (imF_at (f := (tmF r c l)) (by omega))
   replace oP25 : CelR H23 P25 [(.int .i64 ((imF (tmF r c l) i).r)), (.int .i64 ((imF (tmF r c l) i).c)), y26] := oP25
   replace oy26 : Ro eI H23 y26 ((imF (tmF r c l) i).l) := oy26
   refine ob_i (hb27a) ?_
   refine C.spec_l05Write oP25 oy26.sl (by exact imF_ok (f := (tmF r c l)) (trF_ok hf hpos) i) (fun   H28    le29 => ?_)
   replace ou7 := ou7.le le29
   replace opt := opt.le le29
   replace oim := oim.le le29
   replace lE := lE.trans le29
   refine ob_i (vInt_eql _ _ _) ?_
   by_cases hc30 : (i : Int) = 0
   ·skip
    refine gop_e (decide_eq_true hc30) ?_
    refine gop_st ?_
    refine gop_e (decide_eq_true hc30) ?_
    refine gop_st ?_
    refine gop_e (decide_eq_true hc30) ?_
    refine gop_st ?_
    refine ob_i (vPick_et (decide_eq_true hc30) _ _) ?_
    refine cnd_t1 ?_
    refine ob_i (vInt_add (by omega) (by omega)) ?_
    exact nxt (8 - (i + 1)) (by omega) ⟨i + 1, rfl, by omega, g7L23, (congrArg vS (minF_first (by omega)).symm), g22L23, (congrArg (Value.int .i64) (by first | omega | rfl | (simp; done))), ou7, opt, oim, lE⟩
   ·skip
    refine gop_e (decide_eq_false hc30) ?_
    refine gop_rf ?_
    refine gop_e (decide_eq_false hc30) ?_
    refine gop_rf ?_
    refine gop_e (decide_eq_false hc30) ?_
    refine gop_rf ?_
    refine ob_i (vStr_lss (fieldT ((imF (tmF r c l) i).r) ((imF (tmF r c l) i).c) ((imF (tmF r c l) i).l)) (minF (imT (tmF r c l) i))) ?_
    refine ob_i (vPick_ef (decide_eq_false hc30) _ _) ?_
    refine cnd_i (fun hg31 => ?_) (fun hg31 => ?_)
    ·skip
     refine ob_i (vInt_add (by omega) (by omega)) ?_
     exact nxt (8 - (i + 1)) (by omega) ⟨i + 1, rfl, by omega, g7L23, (congrArg vS (by rw [minF_next (by omega), minT_t hg31])), g22L23, (congrArg (Value.int .i64) (by first | omega | rfl | (simp; done))), ou7, opt, oim, lE⟩
    ·skip
     refine ob_i (vInt_add (by omega) (by omega)) ?_
     exact nxt (8 - (i + 1)) (by omega) ⟨i + 1, rfl, by omega, g7L23, (g8L23.trans (congrArg vS (by rw [minF_next (by omega), minT_f (by simp [hg31])]))), g22L23, (congrArg (Value.int .i64) (by first | omega | rfl | (simp; done))), ou7, opt, oim, lE⟩
  ·skip
   have ti := hg24
   exact hJ22 _ _ ⟨(g8L23.trans (congrArg vS (by rw [show i = 8 by omega]))), ou7, opt, oim, lE⟩
section
variable {ns : List Txt} {cs : List Int} {L : List Txt} {i : Nat}
theorem cen_cast {ns' L' : List Txt} {cs' : List Int} (h : Cen ns cs L) (e1 : ns' = ns) (e2 : cs' = cs) (e3 : L' = L) : Cen ns' cs' L' := by subst e1 e2 e3; exact h
theorem cen_any (h : Cen ns cs L) (z : Int) : 0 ≤ at_ 0 cs z ∧ at_ 0 cs z ≤ L.length := by
  unfold at_
  rw [List.getD_eq_getElem?_getD]
  cases hz : cs[z.toNat]? with
  | none => simp
  | some x => exact h.bnd (List.mem_of_getElem? hz)
theorem snoc_last (cs : List Int) : (cs ++ [0]).length = cs.length + 1 ∧ at_ 0 (cs ++ [0]) ((((cs ++ [0]).length : Nat) : Int) - 1) = 0 := by
  have e0 : (((cs ++ [0]).length : Nat) : Int) - 1 = (cs.length : Int) := by simp
  refine ⟨by simp, ?_⟩
  rw [e0, at_eq 0 _ (by simp)]
  simp
theorem cen_last (h : Cen ns cs ((srtT L).take i)) (hi : i < (srtT L).length) {j : Nat} (hj : j < ns.length) : ¬ LtT (at_ [] (srtT L) (i : Int)) (at_ [] ns (j : Int)) := by
  have hm := (h.mem (at_ [] ns (j : Int))).mp (at_mem [] ns (by omega) (by omega))
  obtain ⟨k, hk, e⟩ := List.getElem_of_mem hm
  rw [List.length_take] at hk
  rw [← e, List.getElem_take, ← at_eq [] (srtT L) (by omega)]
  exact srtT_le L (by omega) hi
/-- A new name behind the others. -/
theorem cen_more (h : Cen ns cs ((srtT L).take i)) (hi : i < (srtT L).length) (hn : (ns.length : Int) = 0 ∨ at_ [] ns ((ns.length : Int) - 1) ≠ at_ [] (srtT L) (i : Int)) :
    Cen (ns ++ [at_ [] (srtT L) (i : Int)]) ((cs ++ [0]).set ((((cs ++ [0]).length : Int) - 1)).toNat (at_ 0 (cs ++ [0]) (((cs ++ [0]).length : Int) - 1) + 1)) ((srtT L).take (i + 1)) := by
  have hcl := h.len
  have := cen_at_new (p := ns.length) (x := at_ [] (srtT L) (i : Int)) h (Nat.le_refl _) (fun j hj => ?_) (fun hh => absurd hh (by omega))
  · refine cen_cast this (by simp) ?_ (take_at [] _ hi)
    have e0 : (((cs ++ [0]).length : Nat) : Int) - 1 = (cs.length : Int) := by simp
    rw [e0, Int.toNat_natCast]
    rw [show at_ 0 (cs ++ [0]) (cs.length : Int) = 0 by rw [at_eq 0 _ (by simp)]; simp]
    rw [List.set_append_right _ _ (by omega), ← hcl]
    simp
  · have h1 := cen_last h hi hj
    rcases Nat.lt_or_ge j (ns.length - 1) with h2 | h2
    · have h3 := cen_last h hi (show ns.length - 1 < ns.length by omega)
      have h4 : LtT (at_ [] ns (j : Int)) (at_ [] ns ((ns.length - 1 : Nat) : Int)) := by
        rw [at_eq [] ns hj, at_eq [] ns (by omega)]
        exact List.pairwise_iff_getElem.mp h.srt _ _ _ _ h2
      by_cases h5 : at_ [] ns ((ns.length - 1 : Nat) : Int) = at_ [] (srtT L) (i : Int)
      · rw [h5] at h4; exact h4
      · exact ltT_trans h4 (ltT_tri h3 (fun e => h5 e.symm))
    · refine ltT_tri h1 (fun e => ?_)
      rcases hn with hn | hn
      · omega
      · refine hn ?_
        rw [e, show ((ns.length : Int) - 1) = (j : Int) by omega]
/-- The last name once more. -/
theorem cen_same (h : Cen ns cs ((srtT L).take i)) (hi : i < (srtT L).length) (hn : ¬ (ns.length : Int) = 0) (he : at_ [] ns ((ns.length : Int) - 1) = at_ [] (srtT L) (i : Int)) :
    Cen ns (cs.set ((cs.length : Int) - 1).toNat (at_ 0 cs ((cs.length : Int) - 1) + 1)) ((srtT L).take (i + 1)) := by
  have hcl := h.len
  have e1 : ((ns.length - 1 : Nat) : Int) = (ns.length : Int) - 1 := by omega
  have := cen_at_hit (p := ns.length - 1) (x := at_ [] (srtT L) (i : Int)) h (by omega) (by rw [e1]; exact he)
  rw [e1] at this
  exact cen_cast this rfl (by rw [hcl, show ((ns.length : Int) - 1).toNat = ns.length - 1 by omega]) (take_at [] _ hi)
end
set_option maxHeartbeats 2000000 in
theorem C.impl_CensusOf {vc : Value} {r c : Int} {l : List Int}  {H : Hp} {K : Value → Hp → Prop} (hvc0 : Sl eI H vc l) (k1 : l.length ≤ 9223372036854775807)
    (hk : ∀ u1 u2 H', Own vS H' u1 (selL (fieldN 1 r c l ∧ (cenN (nmL r c l (stsL c l l.length))).length ≤ 64) (cenN (nmL r c l (stsL c l l.length)))) → Own eI H' u2 (selL (fieldN 1 r c l ∧ (cenN (nmL r c l (stsL c l l.length))).length ≤ 64) (cenC (nmL r c l (stsL c l l.length)))) → Nw H u1 → Nw H u2 → Apart u1 u2 → Le H H' → K (.tuple #[u1, u2, (.bool (decide (fieldN 1 r c l ∧ (cenN (nmL r c l (stsL c l l.length))).length ≤ 64)))]) H') : HT prg I.impl_CensusOf [(.agg #[(.int .i64 (r)), (.int .i64 (c)), vc])].toArray H K := by
 have lE := Le.refl H
 have hvc := hvc0
 refine R.impl_CensusOf ?_
 unfold F.impl_CensusOf
 refine nw_i (fun p1 H2 op1 nn3 le4 => ?_)
 replace hvc := hvc.le le4
 replace lE := lE.trans le4
 replace op1 : Cel H2 p1 [(.int .i64 (r)), (.int .i64 (c)), vc] := op1
 refine ob_i (op1.ldn rfl) ?_
 refine C.PartsOf_c hvc (by omega) (fun hf pu Spu pv H5 opu opv nn7 nn8 apuXpv le6 => ?_) (fun hn y1 y2 H5 le6 => ?_)
 ·skip
  replace op1 := op1.le le6
  replace hvc := hvc.le le6
  replace lE := lE.trans le6
  have hs := hf.1
  have hl := hf.2.1
  have q1 := hs.1
  have q2 := hs.2
  have qm := sidesF_mul hs
  have l1 := fieldN_len hf
  have sl := stsL_len (c := c) (l := l) l.length
  have pl1 := prtL_len (r := r) (c := c) (l := l) (L := (stsL c l l.length))
  have nl0 := nmL_len (r := r) (c := c) (l := l) (L := (stsL c l l.length))
  refine ob_i (vExt_30 _ _ _) ?_
  refine ob_i (vExt_31 _ _ _) ?_
  refine ob_i (vExt_32 _ _ _) ?_
  refine ob_i (a := .bool false) rfl ?_
  refine cnd_f1 ?_
  refine bS_nil (enc := vS) (fun ts H10 ots nn11 kk12 le13 => ?_)
  have ap1Xts : Apart p1 ts := op1.apart nn11
  have apuXts : Apt Spu ts := Apt.of_nw opu.known nn11
  have apvXts : Apart pv ts := opv.apart nn11
  have nts : Nw H ts := nn11.le lE
  replace op1 := op1.le le13
  replace opu := opu.le le13
  replace opv := opv.le le13
  replace hvc := hvc.le le13
  replace lE := lE.trans le13
  refine jn_i (fun σ' H' => ∃ ts, σ' 8 = ts ∧ Cel H' p1 [(.int .i64 (r)), (.int .i64 (c)), vc] ∧ Fam H' pu Spu (prtL r c l (stsL c l l.length)) ∧ Own eI H' pv (plcL r c l (stsL c l l.length)) ∧ Own vS H' ts (nmL r c l (stsL c l l.length)) ∧ Nw H ts ∧ Apart p1 ts ∧ Apt Spu ts ∧ Apart pv ts ∧ Le H H') (fun σ14 H14 hP => ?_) (fun J14 hJ14 => ?_)
  ·skip
   obtain ⟨ts, g8L14, op1, opu, opv, ots, nts, ap1Xts, apuXts, apvXts, lE⟩ := hP
   have hvc := hvc0.le lE
   try simp only [g8L14]
   refine C.slices_Sort_T ots (by omega) (fun H15 ots off16 => ?_)
   replace op1 := op1.off off16 ap1Xts
   replace opu := opu.off off16 apuXts
   replace opv := opv.off off16 apvXts
   replace hvc := hvc0.le (off16.le lE nts)
   replace lE := off16.le lE nts
   refine bS_nil (enc := vS) (fun ns H17 ons nn18 kk19 le20 => ?_)
   have ap1Xns : Apart p1 ns := op1.apart nn18
   have apuXns : Apt Spu ns := Apt.of_nw opu.known nn18
   have apvXns : Apart pv ns := opv.apart nn18
   have atsXns : Apart ts ns := ots.apart nn18
   have nns : Nw H ns := nn18.le lE
   replace op1 := op1.le le20
   replace opu := opu.le le20
   replace opv := opv.le le20
   replace ots := ots.le le20
   replace hvc := hvc.le le20
   replace lE := lE.trans le20
   refine bS_nil (enc := eI) (fun cs H21 ocs nn22 kk23 le24 => ?_)
   have ap1Xcs : Apart p1 cs := op1.apart nn22
   have apuXcs : Apt Spu cs := Apt.of_nw opu.known nn22
   have apvXcs : Apart pv cs := opv.apart nn22
   have atsXcs : Apart ts cs := ots.apart nn22
   have ansXcs : Apart ns cs := ons.apart nn22
   have ncs : Nw H cs := nn22.le lE
   replace op1 := op1.le le24
   replace opu := opu.le le24
   replace opv := opv.le le24
   replace ots := ots.le le24
   replace ons := ons.le le24
   replace hvc := hvc.le le24
   replace lE := lE.trans le24
   refine jn_i (fun σ' H' => ∃ ns, ∃ cs, σ' 11 = ns ∧ σ' 12 = cs ∧ Cel H' p1 [(.int .i64 (r)), (.int .i64 (c)), vc] ∧ Fam H' pu Spu (prtL r c l (stsL c l l.length)) ∧ Own eI H' pv (plcL r c l (stsL c l l.length)) ∧ Own vS H' ts (srtT (nmL r c l (stsL c l l.length))) ∧ Own vS H' ns (cenN (nmL r c l (stsL c l l.length))) ∧ Own eI H' cs (cenC (nmL r c l (stsL c l l.length))) ∧ Nw H ns ∧ Apart p1 ns ∧ Apt Spu ns ∧ Apart pv ns ∧ Apart ts ns ∧ Nw H cs ∧ Apart p1 cs ∧ Apt Spu cs ∧ Apart pv cs ∧ Apart ts cs ∧ Apart ns cs ∧ Le H H') (fun σ25 H25 hP => ?_) (fun J25 hJ25 => ?_)
   ·skip
    obtain ⟨ns, cs, g11L25, g12L25, op1, opu, opv, ots, ons, ocs, nns, ap1Xns, apuXns, apvXns, atsXns, ncs, ap1Xcs, apuXcs, apvXcs, atsXcs, ansXcs, lE⟩ := hP
    try simp only [g11L25, g12L25]
    refine ob_i (ons.len) ?_
    refine ob_i (vInt_gtr _ _ _) ?_
    refine cnd_d (fun hg26 => ?_) (fun hg26 => ?_)
    ·skip
     skip
     have hok : ¬ (fieldN 1 r c l ∧ (cenN (nmL r c l (stsL c l l.length))).length ≤ 64) := by intro h; first | exact absurd h.1 (by assumption) | (have := h.2; omega)
     exact keq (K := K) (by rw [decide_eq_false (show ¬ (fieldN 1 r c l ∧ (cenN (nmL r c l (stsL c l l.length))).length ≤ 64) from by exact hok)]; try rfl) (hk  (.slice none 0 0) (.slice none 0 0) _ (Own.cast (show [] = selL (fieldN 1 r c l ∧ (cenN (nmL r c l (stsL c l l.length))).length ≤ 64) (cenN (nmL r c l (stsL c l l.length))) by exact (selL_f hok).symm) (Own.nil_of none)) (Own.cast (show [] = selL (fieldN 1 r c l ∧ (cenN (nmL r c l (stsL c l l.length))).length ≤ 64) (cenC (nmL r c l (stsL c l l.length))) by exact (selL_f hok).symm) (Own.nil_of none)) (fun b hb => by simp [bk] at hb) (fun b hb => by simp [bk] at hb) (fun b hb => by simp [bk] at hb) lE)
    ·skip
     skip
     have hok : fieldN 1 r c l ∧ (cenN (nmL r c l (stsL c l l.length))).length ≤ 64 := by exact ⟨hf, by omega⟩
     exact keq (K := K) (by rw [decide_eq_true (show (fieldN 1 r c l ∧ (cenN (nmL r c l (stsL c l l.length))).length ≤ 64) from by exact hok)]; try rfl) (hk  ns cs _ (Own.cast (show cenN (nmL r c l (stsL c l l.length)) = selL (fieldN 1 r c l ∧ (cenN (nmL r c l (stsL c l l.length))).length ≤ 64) (cenN (nmL r c l (stsL c l l.length))) by exact (selL_t hok).symm) ons) (Own.cast (show cenC (nmL r c l (stsL c l l.length)) = selL (fieldN 1 r c l ∧ (cenN (nmL r c l (stsL c l l.length))).length ≤ 64) (cenC (nmL r c l (stsL c l l.length))) by exact (selL_t hok).symm) ocs) nns ncs ansXcs lE)
   refine ob_i (ots.len) ?_
   refine ⟨fun n' σ' H' => ∃ i : Nat, n' = (srtT (nmL r c l (stsL c l l.length))).length - i ∧ i ≤ (srtT (nmL r c l (stsL c l l.length))).length ∧ ∃ ns, ∃ cs, ∃ nl : List Txt, ∃ cl : List Int, σ' 11 = ns ∧ σ' 12 = cs ∧ σ' 40 = ts ∧ σ' 41 = (.int .i64 (((srtT (nmL r c l (stsL c l l.length))).length : Int))) ∧ σ' 42 = (.int .i64 ((i : Int))) ∧ Cel H' p1 [(.int .i64 (r)), (.int .i64 (c)), vc] ∧ Fam H' pu Spu (prtL r c l (stsL c l l.length)) ∧ Own eI H' pv (plcL r c l (stsL c l l.length)) ∧ Own vS H' ts (srtT (nmL r c l (stsL c l l.length))) ∧ Own vS H' ns (nl) ∧ Own eI H' cs (cl) ∧ Nw H ns ∧ Apart p1 ns ∧ Apt Spu ns ∧ Apart pv ns ∧ Apart ts ns ∧ Nw H cs ∧ Apart p1 cs ∧ Apt Spu cs ∧ Apart pv cs ∧ Apart ts cs ∧ Apart ns cs ∧ Le H H' ∧ Cen nl cl ((srtT (nmL r c l (stsL c l l.length))).take i),
    ⟨_, 0, rfl, by omega, ns, cs, [], [], rfl, rfl, rfl, rfl, (congrArg (Value.int .i64) (by first | omega | rfl | (simp; done))), op1, opu, opv, ots, (Own.cast (by first | rfl | (simp; done)) ons), (Own.cast (by first | rfl | (simp; done)) ocs), nns, ap1Xns, apuXns, apvXns, atsXns, ncs, ap1Xcs, apuXcs, apvXcs, atsXcs, ansXcs, lE, (by rw [List.take_zero]; exact cen_nil)⟩, ?_⟩
   rintro n27 σ27 H27 ⟨i, rfl, hiN, ns, cs, nl, cl, g11L27, g12L27, g40L27, g41L27, g42L27, op1, opu, opv, ots, ons, ocs, nns, ap1Xns, apuXns, apvXns, atsXns, ncs, ap1Xcs, apuXcs, apvXcs, atsXcs, ansXcs, lE, hcen⟩
   have hvc := hvc0.le lE
   try simp only [g11L27, g12L27, g40L27, g41L27, g42L27]
   have srl := srtT_len (nmL r c l (stsL c l l.length))
   have cl1 := hcen.len
   have cl2 := hcen.le
   rw [List.length_take] at cl2
   have cb := cen_any hcen ((cl.length : Int) - 1)
   rw [List.length_take] at cb
   have cs1 := snoc_last cl
   refine ob_i (vInt_lss _ _ _) ?_
   refine cnd_d (fun hg28 => ?_) (fun hg28 => ?_)
   ·skip
    have ti := hg28
    refine ob_i (ots.sl.ix (by omega) (by omega)) ?_
    refine ob_i (ots.sl.ld [] (by omega) (by omega)) ?_
    refine ob_i (ons.len) ?_
    refine ob_i (vInt_eql _ _ _) ?_
    by_cases hc29 : (((nl).length : Int)) = 0
    ·skip
     refine gop_e (decide_eq_true hc29) ?_
     refine gop_st ?_
     refine gop_e (decide_eq_true hc29) ?_
     refine gop_st ?_
     refine gop_e (decide_eq_true hc29) ?_
     refine gop_st ?_
     refine gop_e (decide_eq_true hc29) ?_
     refine gop_st ?_
     refine gop_e (decide_eq_true hc29) ?_
     refine gop_st ?_
     refine gop_e (decide_eq_true hc29) ?_
     refine gop_st ?_
     refine gop_e (decide_eq_true hc29) ?_
     refine gop_st ?_
     refine gop_e (decide_eq_true hc29) ?_
     refine gop_st ?_
     refine ob_i (vPick_et (decide_eq_true hc29) _ _) ?_
     refine cnd_t1 ?_
     refine bS_i (enc := vS) (l := [at_ [] (srtT (nmL r c l (stsL c l l.length))) ((i : Int))]) (by omega) rfl (by kernel_rfl) (fun u30 H31 ou30 nn32 le34 => ?_)
     replace op1 := op1.le le34
     replace opu := opu.le le34
     replace opv := opv.le le34
     replace ots := ots.le le34
     replace ons := ons.le le34
     replace ocs := ocs.le le34
     replace hvc := hvc.le le34
     replace lE := lE.trans le34
     refine apd_any ons ou30.sl (fun _ => rfl) (by omega) (by first | omega | (simp only [List.length_cons, List.length_nil]; omega)) (fun u38 H35 ou38 off36 hb37 => ?_)
     have ap1Xu38 : Apart p1 u38 := Apart.ap2 op1.known ap1Xns hb37
     have apuXu38 : Apt Spu u38 := Apt.ap2 opu.known apuXns hb37
     have apvXu38 : Apart pv u38 := Apart.ap2 opv.known apvXns hb37
     have atsXu38 : Apart ts u38 := Apart.ap2 ots.known atsXns hb37
     have acsXu38 : Apart cs u38 := Apart.ap2 ocs.known ansXcs.symm hb37
     have nu38 : Nw H u38 := Nw.ap2 nns lE hb37
     replace op1 := op1.off off36 ap1Xns
     replace opu := opu.off off36 apuXns
     replace opv := opv.off off36 apvXns
     replace ots := ots.off off36 atsXns
     replace ocs := ocs.off off36 ansXcs.symm
     replace hvc := hvc0.le (off36.le lE nns)
     replace lE := off36.le lE nns
     refine bS_i (enc := eI) (l := [(0 : Int)]) (by omega) rfl (by kernel_rfl) (fun u39 H40 ou39 nn41 le43 => ?_)
     replace op1 := op1.le le43
     replace opu := opu.le le43
     replace opv := opv.le le43
     replace ots := ots.le le43
     replace ocs := ocs.le le43
     replace ou38 := ou38.le le43
     replace hvc := hvc.le le43
     replace lE := lE.trans le43
     refine apd_any ocs ou39.sl (fun _ => rfl) (by omega) (by first | omega | (simp only [List.length_cons, List.length_nil]; omega)) (fun u47 H44 ou47 off45 hb46 => ?_)
     have ap1Xu47 : Apart p1 u47 := Apart.ap2 op1.known ap1Xcs hb46
     have apuXu47 : Apt Spu u47 := Apt.ap2 opu.known apuXcs hb46
     have apvXu47 : Apart pv u47 := Apart.ap2 opv.known apvXcs hb46
     have atsXu47 : Apart ts u47 := Apart.ap2 ots.known atsXcs hb46
     have au38Xu47 : Apart u38 u47 := Apart.ap2 ou38.known acsXu38.symm hb46
     have nu47 : Nw H u47 := Nw.ap2 ncs lE hb46
     replace op1 := op1.off off45 ap1Xcs
     replace opu := opu.off off45 apuXcs
     replace opv := opv.off off45 apvXcs
     replace ots := ots.off off45 atsXcs
     replace ou38 := ou38.off off45 acsXu38.symm
     replace hvc := hvc0.le (off45.le lE ncs)
     replace lE := off45.le lE ncs
     refine ob_i (ou47.len) ?_
     refine ob_i (vInt_sub (by omega) (by omega)) ?_
     refine ob_i (ou47.sl.ix (by omega) (by omega)) ?_
     refine ob_i (ou47.sl.ld 0 (by omega) (by omega)) ?_
     refine ob_i (vInt_add (by omega) (by omega)) ?_
     refine ob_i (ou47.sl.ix (by omega) (by omega)) ?_
     refine ou47.st (x := (at_ 0 (cl ++ ([(0 : Int)])) ((((cl ++ ([(0 : Int)])).length : Int)) - 1)) + 1) (by omega) (by omega) rfl rfl (fun H48 ou47 off49 => ?_)
     replace op1 := op1.off off49 ap1Xu47
     replace opu := opu.off off49 apuXu47
     replace opv := opv.off off49 apvXu47
     replace ots := ots.off off49 atsXu47
     replace ou38 := ou38.off off49 au38Xu47
     replace hvc := hvc0.le (off49.le lE nu47)
     replace lE := off49.le lE nu47
     refine ob_i (vInt_add (by omega) (by omega)) ?_
     exact nxt ((srtT (nmL r c l (stsL c l l.length))).length - (i + 1)) (by omega) ⟨i + 1, rfl, by omega, u38, u47, _, _, rfl, rfl, g40L27, g41L27, (congrArg (Value.int .i64) (by first | omega | rfl | (simp; done))), op1, opu, opv, ots, ou38, ou47, nu38, ap1Xu38, apuXu38, apvXu38, atsXu38, nu47, ap1Xu47, apuXu47, apvXu47, atsXu47, au38Xu47, lE, (cen_more hcen (by omega) (.inl (by omega)))⟩
    ·skip
     refine gop_e (decide_eq_false hc29) ?_
     refine gop_rf ?_
     refine gop_e (decide_eq_false hc29) ?_
     refine gop_rf ?_
     refine gop_e (decide_eq_false hc29) ?_
     refine gop_rf ?_
     refine ob_i (ons.len) ?_
     refine gop_e (decide_eq_false hc29) ?_
     refine gop_rf ?_
     refine ob_i (vInt_sub (by omega) (by omega)) ?_
     refine gop_e (decide_eq_false hc29) ?_
     refine gop_rf ?_
     refine ob_i (ons.sl.ix (by omega) (by omega)) ?_
     refine gop_e (decide_eq_false hc29) ?_
     refine gop_rf ?_
     refine ob_i (ons.sl.ld [] (by omega) (by omega)) ?_
     refine gop_e (decide_eq_false hc29) ?_
     refine gop_rf ?_
     refine gop_e (decide_eq_false hc29) ?_
     refine gop_rf ?_
     refine ob_i (vStr_neq (at_ [] (nl) ((((nl).length : Int)) - 1)) (at_ [] (srtT (nmL r c l (stsL c l l.length))) ((i : Int)))) ?_
     refine ob_i (vPick_ef (decide_eq_false hc29) _ _) ?_
     refine cnd_d (fun hg50 => ?_) (fun hg50 => ?_)
     ·skip
      refine bS_i (enc := vS) (l := [at_ [] (srtT (nmL r c l (stsL c l l.length))) ((i : Int))]) (by omega) rfl (by kernel_rfl) (fun u51 H52 ou51 nn53 le55 => ?_)
      replace op1 := op1.le le55
      replace opu := opu.le le55
      replace opv := opv.le le55
      replace ots := ots.le le55
      replace ons := ons.le le55
      replace ocs := ocs.le le55
      replace hvc := hvc.le le55
      replace lE := lE.trans le55
      refine apd_any ons ou51.sl (fun _ => rfl) (by omega) (by first | omega | (simp only [List.length_cons, List.length_nil]; omega)) (fun u59 H56 ou59 off57 hb58 => ?_)
      have ap1Xu59 : Apart p1 u59 := Apart.ap2 op1.known ap1Xns hb58
      have apuXu59 : Apt Spu u59 := Apt.ap2 opu.known apuXns hb58
      have apvXu59 : Apart pv u59 := Apart.ap2 opv.known apvXns hb58
      have atsXu59 : Apart ts u59 := Apart.ap2 ots.known atsXns hb58
      have acsXu59 : Apart cs u59 := Apart.ap2 ocs.known ansXcs.symm hb58
      have nu59 : Nw H u59 := Nw.ap2 nns lE hb58
      replace op1 := op1.off off57 ap1Xns
      replace opu := opu.off off57 apuXns
      replace opv := opv.off off57 apvXns
      replace ots := ots.off off57 atsXns
      replace ocs := ocs.off off57 ansXcs.symm
      replace hvc := hvc0.le (off57.le lE nns)
      replace lE := off57.le lE nns
      refine bS_i (enc := eI) (l := [(0 : Int)]) (by omega) rfl (by kernel_rfl) (fun u60 H61 ou60 nn62 le64 => ?_)
      replace op1 := op1.le le64
      replace opu := opu.le le64
      replace opv := opv.le le64
      replace ots := ots.le le64
      replace ocs := ocs.le le64
      replace ou59 := ou59.le le64
      replace hvc := hvc.le le64
      replace lE := lE.trans le64
      refine apd_any ocs ou60.sl (fun _ => rfl) (by omega) (by first | omega | (simp only [List.length_cons, List.length_nil]; omega)) (fun u68 H65 ou68 off66 hb67 => ?_)
      have ap1Xu68 : Apart p1 u68 := Apart.ap2 op1.known ap1Xcs hb67
      have apuXu68 : Apt Spu u68 := Apt.ap2 opu.known apuXcs hb67
      have apvXu68 : Apart pv u68 := Apart.ap2 opv.known apvXcs hb67
      have atsXu68 : Apart ts u68 := Apart.ap2 ots.known atsXcs hb67
      have au59Xu68 : Apart u59 u68 := Apart.ap2 ou59.known acsXu59.symm hb67
      have nu68 : Nw H u68 := Nw.ap2 ncs lE hb67
      replace op1 := op1.off off66 ap1Xcs
      replace opu := opu.off off66 apuXcs
      replace opv := opv.off off66 apvXcs
      replace ots := ots.off off66 atsXcs
      replace ou59 := ou59.off off66 acsXu59.symm
      replace hvc := hvc0.le (off66.le lE ncs)
      replace lE := off66.le lE ncs
      refine ob_i (ou68.len) ?_
      refine ob_i (vInt_sub (by omega) (by omega)) ?_
      refine ob_i (ou68.sl.ix (by omega) (by omega)) ?_
      refine ob_i (ou68.sl.ld 0 (by omega) (by omega)) ?_
      refine ob_i (vInt_add (by omega) (by omega)) ?_
      refine ob_i (ou68.sl.ix (by omega) (by omega)) ?_
      refine ou68.st (x := (at_ 0 (cl ++ ([(0 : Int)])) ((((cl ++ ([(0 : Int)])).length : Int)) - 1)) + 1) (by omega) (by omega) rfl rfl (fun H69 ou68 off70 => ?_)
      replace op1 := op1.off off70 ap1Xu68
      replace opu := opu.off off70 apuXu68
      replace opv := opv.off off70 apvXu68
      replace ots := ots.off off70 atsXu68
      replace ou59 := ou59.off off70 au59Xu68
      replace hvc := hvc0.le (off70.le lE nu68)
      replace lE := off70.le lE nu68
      refine ob_i (vInt_add (by omega) (by omega)) ?_
      exact nxt ((srtT (nmL r c l (stsL c l l.length))).length - (i + 1)) (by omega) ⟨i + 1, rfl, by omega, u59, u68, _, _, rfl, rfl, g40L27, g41L27, (congrArg (Value.int .i64) (by first | omega | rfl | (simp; done))), op1, opu, opv, ots, ou59, ou68, nu59, ap1Xu59, apuXu59, apvXu59, atsXu59, nu68, ap1Xu68, apuXu68, apvXu68, atsXu68, au59Xu68, lE, (cen_more hcen (by omega) (.inr hg50))⟩
     ·skip
      refine ob_i (ocs.len) ?_
      refine ob_i (vInt_sub (by omega) (by omega)) ?_
      refine ob_i (ocs.sl.ix (by omega) (by omega)) ?_
      refine ob_i (ocs.sl.ld 0 (by omega) (by omega)) ?_
      refine ob_i (vInt_add (by omega) (by omega)) ?_
      refine ob_i (ocs.sl.ix (by omega) (by omega)) ?_
      refine ocs.st (x := (at_ 0 (cl) ((((cl).length : Int)) - 1)) + 1) (by omega) (by omega) rfl rfl (fun H71 ocs off72 => ?_)
      replace op1 := op1.off off72 ap1Xcs
      replace opu := opu.off off72 apuXcs
      replace opv := opv.off off72 apvXcs
      replace ots := ots.off off72 atsXcs
      replace ons := ons.off off72 ansXcs
      replace hvc := hvc0.le (off72.le lE ncs)
      replace lE := off72.le lE ncs
      refine ob_i (vInt_add (by omega) (by omega)) ?_
      exact nxt ((srtT (nmL r c l (stsL c l l.length))).length - (i + 1)) (by omega) ⟨i + 1, rfl, by omega, ns, cs, _, _, g11L27, g12L27, g40L27, g41L27, (congrArg (Value.int .i64) (by first | omega | rfl | (simp; done))), op1, opu, opv, ots, ons, ocs, nns, ap1Xns, apuXns, apvXns, atsXns, ncs, ap1Xcs, apuXcs, apvXcs, atsXcs, ansXcs, lE, (cen_same hcen (by omega) hc29 (Decidable.not_not.mp hg50))⟩
   ·skip
    have ti := hg28
    have hce := cen_eq (M := (nmL r c l (stsL c l l.length))) hcen (by rw [List.take_of_length_le (by omega)]; exact srtT_perm _)
    exact hJ25 _ _ ⟨ns, cs, g11L27, g12L27, op1, opu, opv, ots, (Own.cast hce.1 ons), (Own.cast hce.2 ocs), nns, ap1Xns, apuXns, apvXns, atsXns, ncs, ap1Xcs, apuXcs, apvXcs, atsXcs, ansXcs, lE⟩
  refine ob_i (opu.len) ?_
  refine ⟨fun n' σ' H' => ∃ t : Nat, n' = (stsL c l l.length).length - t ∧ t ≤ (stsL c l l.length).length ∧ ∃ ts, σ' 8 = ts ∧ σ' 24 = pu ∧ σ' 25 = (.int .i64 (((prtL r c l (stsL c l l.length)).length : Int))) ∧ σ' 26 = (.int .i64 ((t : Int))) ∧ Cel H' p1 [(.int .i64 (r)), (.int .i64 (c)), vc] ∧ Fam H' pu Spu (prtL r c l (stsL c l l.length)) ∧ Own eI H' pv (plcL r c l (stsL c l l.length)) ∧ Own vS H' ts (nmL r c l ((stsL c l l.length).take t)) ∧ Nw H ts ∧ Apart p1 ts ∧ Apt Spu ts ∧ Apart pv ts ∧ Le H H',
   ⟨_, 0, rfl, by omega, ts, rfl, rfl, rfl, (congrArg (Value.int .i64) (by first | omega | rfl | (simp; done))), op1, opu, opv, (Own.cast (by first | rfl | (simp; done)) ots), nts, ap1Xts, apuXts, apvXts, lE⟩, ?_⟩
  rintro n73 σ73 H73 ⟨t, rfl, htN, ts, g8L73, g24L73, g25L73, g26L73, op1, opu, opv, ots, nts, ap1Xts, apuXts, apvXts, lE⟩
  have hvc := hvc0.le lE
  try simp only [g8L73, g24L73, g25L73, g26L73]
  have tl := nmL_len (r := r) (c := c) (l := l) (L := (stsL c l l.length).take t)
  have tl2 : ((stsL c l l.length).take t).length = t := by rw [List.length_take]; omega
  refine ob_i (vInt_lss _ _ _) ?_
  refine cnd_d (fun hg74 => ?_) (fun hg74 => ?_)
  ·skip
   have tt := hg74
   obtain ⟨P75, y76, hb77a, oP75, oy76, hb77p, hb77x⟩ := opu.el (i := (t : Int)) (f := ⟨(prtF r c l (at_ 0 (stsL c l l.length) (t : Int))).r, (prtF r c l (at_ 0 (stsL c l l.length) (t : Int))).c, (prtF r c l (at_ 0 (stsL c l l.length) (t : Int))).l⟩) (by omega) (by first | omega | (simp; omega)) (prt_at (by omega))
   replace oP75 : CelR H73 P75 [(.int .i64 ((prtF r c l (at_ 0 (stsL c l l.length) (t : Int))).r)), (.int .i64 ((prtF r c l (at_ 0 (stsL c l l.length) (t : Int))).c)), y76] := oP75
   replace oy76 : Ro eI H73 y76 ((prtF r c l (at_ 0 (stsL c l l.length) (t : Int))).l) := oy76
   refine ob_i (hb77a) ?_
   refine ob_i (oP75.ldn rfl) ?_
   refine nw_i (fun p78 H79 op78 nn80 le81 => ?_)
   have ap1Xp78 : Apart p1 p78 := op1.apart nn80
   have apuXp78 : Apt Spu p78 := Apt.of_nw opu.known nn80
   have apvXp78 : Apart pv p78 := opv.apart nn80
   have atsXp78 : Apart ts p78 := ots.apart nn80
   have ay76Xp78 : Apart y76 p78 := oy76.apart nn80
   have np78 : Nw H p78 := nn80.le lE
   replace op1 := op1.le le81
   replace opu := opu.le le81
   replace opv := opv.le le81
   replace ots := ots.le le81
   replace oy76 := oy76.le le81
   replace hvc := hvc.le le81
   replace lE := lE.trans le81
   replace op78 : Cel H79 p78 [(.int .i64 (0)), (.int .i64 (0)), (.slice none 0 0)] := op78
   refine op78.stn (ws := [(.int .i64 ((prtF r c l (at_ 0 (stsL c l l.length) (t : Int))).r)), (.int .i64 ((prtF r c l (at_ 0 (stsL c l l.length) (t : Int))).c)), y76]) rfl rfl (oc1 rfl (oc1 rfl (oc1 oy76.one oc0))) (fun H82 op78 off83 => ?_)
   replace op1 := op1.off off83 ap1Xp78
   replace opu := opu.off off83 apuXp78
   replace opv := opv.off off83 apvXp78
   replace ots := ots.off off83 atsXp78
   replace oy76 := oy76.off off83 ay76Xp78
   replace hvc := hvc0.le (off83.le lE np78)
   replace lE := off83.le lE np78
   replace op78 : Cel H82 p78 [(.int .i64 ((prtF r c l (at_ 0 (stsL c l l.length) (t : Int))).r)), (.int .i64 ((prtF r c l (at_ 0 (stsL c l l.length) (t : Int))).c)), y76] := op78
   refine ob_i (op78.ldn rfl) ?_
   refine C.impl_Field_name oy76.sl (by exact part_ok hf (by omega)) (fun   H84    le85 => ?_)
   replace op1 := op1.le le85
   replace opu := opu.le le85
   replace opv := opv.le le85
   replace ots := ots.le le85
   replace hvc := hvc.le le85
   replace lE := lE.trans le85
   refine bS_i (enc := vS) (l := [nameT ((prtF r c l (at_ 0 (stsL c l l.length) (t : Int))).r) ((prtF r c l (at_ 0 (stsL c l l.length) (t : Int))).c) ((prtF r c l (at_ 0 (stsL c l l.length) (t : Int))).l)]) (by omega) rfl (by kernel_rfl) (fun u86 H87 ou86 nn88 le90 => ?_)
   replace op1 := op1.le le90
   replace opu := opu.le le90
   replace opv := opv.le le90
   replace ots := ots.le le90
   replace hvc := hvc.le le90
   replace lE := lE.trans le90
   refine apd_any ots ou86.sl (fun _ => rfl) (by omega) (by first | omega | (simp only [List.length_cons, List.length_nil]; omega)) (fun u94 H91 ou94 off92 hb93 => ?_)
   have ap1Xu94 : Apart p1 u94 := Apart.ap2 op1.known ap1Xts hb93
   have apuXu94 : Apt Spu u94 := Apt.ap2 opu.known apuXts hb93
   have apvXu94 : Apart pv u94 := Apart.ap2 opv.known apvXts hb93
   have nu94 : Nw H u94 := Nw.ap2 nts lE hb93
   replace op1 := op1.off off92 ap1Xts
   replace opu := opu.off off92 apuXts
   replace opv := opv.off off92 apvXts
   replace hvc := hvc0.le (off92.le lE nts)
   replace lE := off92.le lE nts
   refine ob_i (vInt_add (by omega) (by omega)) ?_
   exact nxt ((stsL c l l.length).length - (t + 1)) (by omega) ⟨t + 1, rfl, by omega, u94, rfl, g24L73, g25L73, (congrArg (Value.int .i64) (by first | omega | rfl | (simp; done))), op1, opu, opv, (Own.cast (nmL_take (by omega)).symm ou94), nu94, ap1Xu94, apuXu94, apvXu94, lE⟩
  ·skip
   have tt := hg74
   rw [List.take_of_length_le (by omega)] at ots
   exact hJ14 _ _ ⟨ts, g8L73, op1, opu, opv, ots, nts, ap1Xts, apuXts, apvXts, lE⟩
 ·skip
  replace lE := lE.trans le6
  refine ob_i (vExt_30 _ _ _) ?_
  refine ob_i (vExt_31 _ _ _) ?_
  refine ob_i (vExt_32 _ _ _) ?_
  refine ob_i (a := .bool true) rfl ?_
  refine cnd_t1 ?_
  skip
  have hok : ¬ (fieldN 1 r c l ∧ (cenN (nmL r c l (stsL c l l.length))).length ≤ 64) := by intro h; first | exact absurd h.1 (by assumption) | (have := h.2; omega)
  exact keq (K := K) (by rw [decide_eq_false (show ¬ (fieldN 1 r c l ∧ (cenN (nmL r c l (stsL c l l.length))).length ≤ 64) from by exact hok)]; try rfl) (hk  (.slice none 0 0) (.slice none 0 0) _ (Own.cast (show [] = selL (fieldN 1 r c l ∧ (cenN (nmL r c l (stsL c l l.length))).length ≤ 64) (cenN (nmL r c l (stsL c l l.length))) by exact (selL_f hok).symm) (Own.nil_of none)) (Own.cast (show [] = selL (fieldN 1 r c l ∧ (cenN (nmL r c l (stsL c l l.length))).length ≤ 64) (cenC (nmL r c l (stsL c l l.length))) by exact (selL_f hok).symm) (Own.nil_of none)) (fun b hb => by simp [bk] at hb) (fun b hb => by simp [bk] at hb) (fun b hb => by simp [bk] at hb) lE)
theorem lt_snoc {k : Nat} {P : Nat → Prop} (h : ∀ j, j < k → P j) (hk : P k) : ∀ j, j < k + 1 → P j := fun j hj => by
  rcases Nat.lt_or_ge j k with h1 | h1
  · exact h j h1
  · obtain rfl : j = k := by omega
    exact hk
theorem mid_eq' {ns : List Txt} (cs : List Int) {p : Nat} (h : cs.length = ns.length) : ((cs.drop (0 : Int).toNat).take ((p : Int).toNat - (0 : Int).toNat) ++ [1]) ++ (cs.drop (p : Int).toNat).take (((cs.length : Nat) : Int).toNat - (p : Int).toNat) = cs.take p ++ [1] ++ cs.drop p := by
  rw [Int.toNat_natCast, Int.toNat_natCast, List.take_of_length_le (l := cs.drop p) (by simp)]
  rfl
theorem mid_eq {α : Type} (l : List α) (x : α) (p : Nat) : ((l.drop (0 : Int).toNat).take ((p : Int).toNat - (0 : Int).toNat) ++ [x]) ++ (l.drop (p : Int).toNat).take (((l.length : Nat) : Int).toNat - (p : Int).toNat) = l.take p ++ [x] ++ l.drop p := by
  rw [Int.toNat_natCast, Int.toNat_natCast, List.take_of_length_le (l := l.drop p) (by simp)]
  rfl
set_option maxHeartbeats 2000000 in
theorem C.spec_l05Census {p0 vc : Value} {r c : Int} {l : List Int}  {H : Hp} {K : Value → Hp → Prop} (hp00 : Cel H p0 [(.int .i64 (r)), (.int .i64 (c)), vc]) (hvc0 : Sl eI H vc l) (hf : fieldN 1 r c l)
    (hk : ∀ u1 u2 H', Own vS H' u1 (cenN (nmL r c l (stsL c l l.length))) → Own eI H' u2 (cenC (nmL r c l (stsL c l l.length))) → Nw H u1 → Nw H u2 → Apart u1 u2 → Le H H' → K (.tuple #[u1, u2, (.bool (decide (((cenN (nmL r c l (stsL c l l.length))).length : Int) ≤ 64)))]) H') : HT prg I.spec_l05Census [p0].toArray H K := by
 have lE := Le.refl H
 have hp0 := hp00
 have hvc := hvc0
 refine R.spec_l05Census ?_
 unfold F.spec_l05Census
 have hs := hf.1
 have hl := hf.2.1
 have q1 := hs.1
 have q2 := hs.2
 have qm := sidesF_mul hs
 have l1 := fieldN_len hf
 have sl := stsL_len (c := c) (l := l) l.length
 have pl1 := prtL_len (r := r) (c := c) (l := l) (L := (stsL c l l.length))
 have nl0 := nmL_len (r := r) (c := c) (l := l) (L := (stsL c l l.length))
 refine C.spec_l05Parts hp0 hvc (by first | omega | assumption) (fun  u3 Su3 u4 H1 ou3 ou4 nn5 nn6 au3Xu4 le2 => ?_)
 replace hp0 := hp0.le le2
 replace hvc := hvc.le le2
 replace lE := lE.trans le2
 refine ob_i (vExt_20 _ _) ?_
 refine ob_i (vExt_21 _ _) ?_
 refine bS_nil (enc := vS) (fun ns H7 ons nn8 kk9 le10 => ?_)
 have au3Xns : Apt Su3 ns := Apt.of_nw ou3.known nn8
 have au4Xns : Apart u4 ns := ou4.apart nn8
 have nns : Nw H ns := nn8.le lE
 replace ou3 := ou3.le le10
 replace ou4 := ou4.le le10
 replace hp0 := hp0.le le10
 replace hvc := hvc.le le10
 replace lE := lE.trans le10
 refine bS_nil (enc := eI) (fun cs H11 ocs nn12 kk13 le14 => ?_)
 have au3Xcs : Apt Su3 cs := Apt.of_nw ou3.known nn12
 have au4Xcs : Apart u4 cs := ou4.apart nn12
 have ansXcs : Apart ns cs := ons.apart nn12
 have ncs : Nw H cs := nn12.le lE
 replace ou3 := ou3.le le14
 replace ou4 := ou4.le le14
 replace ons := ons.le le14
 replace hp0 := hp0.le le14
 replace hvc := hvc.le le14
 replace lE := lE.trans le14
 refine jn_i (fun σ' H' => ∃ ns, ∃ cs, σ' 7 = ns ∧ σ' 8 = cs ∧ Fam H' u3 Su3 (prtL r c l (stsL c l l.length)) ∧ Own eI H' u4 (plcL r c l (stsL c l l.length)) ∧ Own vS H' ns (cenN (nmL r c l (stsL c l l.length))) ∧ Own eI H' cs (cenC (nmL r c l (stsL c l l.length))) ∧ Nw H ns ∧ Apt Su3 ns ∧ Apart u4 ns ∧ Nw H cs ∧ Apt Su3 cs ∧ Apart u4 cs ∧ Apart ns cs ∧ Le H H') (fun σ15 H15 hP => ?_) (fun J15 hJ15 => ?_)
 ·skip
  obtain ⟨ns, cs, g7L15, g8L15, ou3, ou4, ons, ocs, nns, au3Xns, au4Xns, ncs, au3Xcs, au4Xcs, ansXcs, lE⟩ := hP
  try simp only [g7L15, g8L15]
  refine ob_i (ons.len) ?_
  refine ob_i (vInt_leq _ _ _) ?_
  skip
  exact keq (K := K) (by rw [show decide ((((cenN (nmL r c l (stsL c l l.length))).length : Int)) ≤ 64) = decide (((cenN (nmL r c l (stsL c l l.length))).length : Int) ≤ 64) from decide_eq_decide.mpr (by first | omega | assumption)]; try rfl) (hk  ns cs _ ons ocs nns ncs ansXcs lE)
 refine ob_i (ou3.len) ?_
 refine ⟨fun n' σ' H' => ∃ t : Nat, n' = (stsL c l l.length).length - t ∧ t ≤ (stsL c l l.length).length ∧ ∃ ns, ∃ cs, ∃ nl : List Txt, ∃ cl : List Int, σ' 5 = u3 ∧ σ' 7 = ns ∧ σ' 8 = cs ∧ σ' 22 = (.int .i64 (((prtL r c l (stsL c l l.length)).length : Int))) ∧ σ' 23 = (.int .i64 ((t : Int))) ∧ Fam H' u3 Su3 (prtL r c l (stsL c l l.length)) ∧ Own eI H' u4 (plcL r c l (stsL c l l.length)) ∧ Own vS H' ns (nl) ∧ Own eI H' cs (cl) ∧ Nw H ns ∧ Apt Su3 ns ∧ Apart u4 ns ∧ Nw H cs ∧ Apt Su3 cs ∧ Apart u4 cs ∧ Apart ns cs ∧ Le H H' ∧ Cen nl cl (nmL r c l ((stsL c l l.length).take t)),
  ⟨_, 0, rfl, by omega, ns, cs, [], [], rfl, rfl, rfl, rfl, (congrArg (Value.int .i64) (by first | omega | rfl | (simp; done))), ou3, ou4, (Own.cast (by first | rfl | (simp; done)) ons), (Own.cast (by first | rfl | (simp; done)) ocs), nns, au3Xns, au4Xns, ncs, au3Xcs, au4Xcs, ansXcs, lE, (by rw [List.take_zero]; exact cen_nil)⟩, ?_⟩
 rintro n16 σ16 H16 ⟨t, rfl, htN, ns, cs, nl, cl, g5L16, g7L16, g8L16, g22L16, g23L16, ou3, ou4, ons, ocs, nns, au3Xns, au4Xns, ncs, au3Xcs, au4Xcs, ansXcs, lE, hcen⟩
 have hp0 := hp00.le lE
 have hvc := hvc0.le lE
 try simp only [g5L16, g22L16, g23L16]
 have tl := nmL_len (r := r) (c := c) (l := l) (L := (stsL c l l.length).take t)
 have tl2 : ((stsL c l l.length).take t).length = t := by rw [List.length_take]; omega
 have cl1 := hcen.len
 have cl2 := hcen.le
 refine ob_i (vInt_lss _ _ _) ?_
 refine cnd_d (fun hg17 => ?_) (fun hg17 => ?_)
 ·skip
  have tt := hg17
  refine jn_i (fun σ' H' => ∃ ns, ∃ cs, ∃ nl2 : List Txt, ∃ cl2 : List Int, σ' 5 = u3 ∧ σ' 7 = ns ∧ σ' 8 = cs ∧ σ' 22 = (.int .i64 (((prtL r c l (stsL c l l.length)).length : Int))) ∧ σ' 23 = (.int .i64 ((t : Int))) ∧ Fam H' u3 Su3 (prtL r c l (stsL c l l.length)) ∧ Own eI H' u4 (plcL r c l (stsL c l l.length)) ∧ Own vS H' ns (nl2) ∧ Own eI H' cs (cl2) ∧ Nw H ns ∧ Apt Su3 ns ∧ Apart u4 ns ∧ Nw H cs ∧ Apt Su3 cs ∧ Apart u4 cs ∧ Apart ns cs ∧ Le H H' ∧ Cen nl2 cl2 (nmL r c l ((stsL c l l.length).take (t + 1)))) (fun σ18 H18 hP => ?_) (fun J18 hJ18 => ?_)
  ·skip
   obtain ⟨ns, cs, nl2, cl2, g5L18, g7L18, g8L18, g22L18, g23L18, ou3, ou4, ons, ocs, nns, au3Xns, au4Xns, ncs, au3Xcs, au4Xcs, ansXcs, lE, hcen2⟩ := hP
   try simp only [g23L18]
   refine ob_i (vInt_add (by omega) (by omega)) ?_
   exact nxt ((stsL c l l.length).length - (t + 1)) (by omega) ⟨t + 1, rfl, by omega, ns, cs, _, _, g5L18, g7L18, g8L18, g22L18, (congrArg (Value.int .i64) (by first | omega | rfl | (simp; done))), ou3, ou4, ons, ocs, nns, au3Xns, au4Xns, ncs, au3Xcs, au4Xcs, ansXcs, lE, hcen2⟩
  obtain ⟨P19, y20, hb21a, oP19, oy20, hb21p, hb21x⟩ := ou3.el (i := (t : Int)) (f := ⟨(prtF r c l (at_ 0 (stsL c l l.length) (t : Int))).r, (prtF r c l (at_ 0 (stsL c l l.length) (t : Int))).c, (prtF r c l (at_ 0 (stsL c l l.length) (t : Int))).l⟩) (by omega) (by first | omega | (simp; omega)) (prt_at (by omega))
  replace oP19 : CelR H16 P19 [(.int .i64 ((prtF r c l (at_ 0 (stsL c l l.length) (t : Int))).r)), (.int .i64 ((prtF r c l (at_ 0 (stsL c l l.length) (t : Int))).c)), y20] := oP19
  replace oy20 : Ro eI H16 y20 ((prtF r c l (at_ 0 (stsL c l l.length) (t : Int))).l) := oy20
  refine ob_i (hb21a) ?_
  refine C.spec_l05Name_r oP19 oy20.sl (by exact part_ok hf (by omega)) (fun   H22    le23 => ?_)
  replace ou3 := ou3.le le23
  replace ou4 := ou4.le le23
  replace ons := ons.le le23
  replace ocs := ocs.le le23
  replace oP19 := oP19.le le23
  replace oy20 := oy20.le le23
  replace hp0 := hp0.le le23
  replace hvc := hvc.le le23
  replace lE := lE.trans le23
  refine jn_i (fun σ' H' => ∃ p : Nat, σ' 5 = u3 ∧ σ' 7 = ns ∧ σ' 8 = cs ∧ σ' 10 = (vS (nameT ((prtF r c l (at_ 0 (stsL c l l.length) (t : Int))).r) ((prtF r c l (at_ 0 (stsL c l l.length) (t : Int))).c) ((prtF r c l (at_ 0 (stsL c l l.length) (t : Int))).l))) ∧ σ' 11 = (.int .i64 ((p : Int))) ∧ σ' 22 = (.int .i64 (((prtL r c l (stsL c l l.length)).length : Int))) ∧ σ' 23 = (.int .i64 ((t : Int))) ∧ Fam H' u3 Su3 (prtL r c l (stsL c l l.length)) ∧ Own eI H' u4 (plcL r c l (stsL c l l.length)) ∧ Own vS H' ns (nl) ∧ Own eI H' cs (cl) ∧ CelR H' P19 [(.int .i64 ((prtF r c l (at_ 0 (stsL c l l.length) (t : Int))).r)), (.int .i64 ((prtF r c l (at_ 0 (stsL c l l.length) (t : Int))).c)), y20] ∧ Ro eI H' y20 ((prtF r c l (at_ 0 (stsL c l l.length) (t : Int))).l) ∧ Le H H' ∧ (∀ j : Nat, j < p → LtT (at_ [] nl (j : Int)) (nameT (prtF r c l (at_ 0 (stsL c l l.length) (t : Int))).r (prtF r c l (at_ 0 (stsL c l l.length) (t : Int))).c (prtF r c l (at_ 0 (stsL c l l.length) (t : Int))).l)) ∧ p ≤ nl.length ∧ (p < nl.length → ¬ LtT (at_ [] nl (p : Int)) (nameT (prtF r c l (at_ 0 (stsL c l l.length) (t : Int))).r (prtF r c l (at_ 0 (stsL c l l.length) (t : Int))).c (prtF r c l (at_ 0 (stsL c l l.length) (t : Int))).l))) (fun σ24 H24 hP => ?_) (fun J24 hJ24 => ?_)
  ·skip
   obtain ⟨p, g5L24, g7L24, g8L24, g10L24, g11L24, g22L24, g23L24, ou3, ou4, ons, ocs, oP19, oy20, lE, hlt, hple, hge⟩ := hP
   have hp0 := hp00.le lE
   have hvc := hvc0.le lE
   try simp only [g7L24, g8L24, g10L24, g11L24]
   have c1nl : (((nl).drop (0 : Int).toNat).take ((p : Int).toNat - (0 : Int).toNat)).length = p := by rw [List.length_take, List.length_drop]; omega
   have c2nl : (((nl).drop (p : Int).toNat).take ((((nl).length : Nat) : Int).toNat - (p : Int).toNat)).length = nl.length - p := by rw [List.length_take, List.length_drop]; omega
   have c1cl : (((cl).drop (0 : Int).toNat).take ((p : Int).toNat - (0 : Int).toNat)).length = p := by rw [List.length_take, List.length_drop]; omega
   have c2cl : (((cl).drop (p : Int).toNat).take ((((cl).length : Nat) : Int).toNat - (p : Int).toNat)).length = cl.length - p := by rw [List.length_take, List.length_drop]; omega
   have cb := cen_any hcen (p : Int)
   refine ob_i (ons.len) ?_
   refine ob_i (vInt_lss _ _ _) ?_
   by_cases hc25 : (p : Int) < (((nl).length : Int))
   ·skip
    refine gop_e (decide_eq_true hc25) ?_
    refine gop_rt ?_
    refine gop_e (decide_eq_true hc25) ?_
    refine gop_rt ?_
    refine gop_e (decide_eq_true hc25) ?_
    refine gop_rt ?_
    refine ob_i (ons.sl.ix (by omega) (by omega)) ?_
    refine gop_e (decide_eq_true hc25) ?_
    refine gop_rt ?_
    refine ob_i (ons.sl.ld [] (by omega) (by omega)) ?_
    refine gop_e (decide_eq_true hc25) ?_
    refine gop_rt ?_
    refine gop_e (decide_eq_true hc25) ?_
    refine gop_rt ?_
    refine ob_i (vStr_eql (at_ [] (nl) ((p : Int))) (nameT ((prtF r c l (at_ 0 (stsL c l l.length) (t : Int))).r) ((prtF r c l (at_ 0 (stsL c l l.length) (t : Int))).c) ((prtF r c l (at_ 0 (stsL c l l.length) (t : Int))).l))) ?_
    refine ob_i (vPick_et (decide_eq_true hc25) _ _) ?_
    refine cnd_d (fun hg26 => ?_) (fun hg26 => ?_)
    ·skip
     refine ob_i (ocs.sl.ix (by omega) (by omega)) ?_
     refine ob_i (ocs.sl.ld 0 (by omega) (by omega)) ?_
     refine ob_i (vInt_add (by omega) (by omega)) ?_
     refine ob_i (ocs.sl.ix (by omega) (by omega)) ?_
     refine ocs.st (x := (at_ 0 (cl) ((p : Int))) + 1) (by omega) (by omega) rfl rfl (fun H27 ocs off28 => ?_)
     replace ou3 := ou3.off off28 au3Xcs
     replace ou4 := ou4.off off28 au4Xcs
     replace ons := ons.off off28 ansXcs
     replace hp0 := hp00.le (off28.le lE ncs)
     replace hvc := hvc0.le (off28.le lE ncs)
     replace lE := off28.le lE ncs
     exact hJ18 _ _ ⟨ns, cs, _, _, g5L24, g7L24, g8L24, g22L24, g23L24, ou3, ou4, ons, ocs, nns, au3Xns, au4Xns, ncs, au3Xcs, au4Xcs, ansXcs, lE, (cen_cast (cen_at_hit hcen (by omega) hg26) rfl (by rw [Int.toNat_natCast]) (nmL_take (by omega)))⟩
    ·skip
     refine bS_nil (enc := vS) (fun u29 H30 ou29 nn31 kk32 le33 => ?_)
     replace ou3 := ou3.le le33
     replace ou4 := ou4.le le33
     replace ons := ons.le le33
     replace ocs := ocs.le le33
     replace hp0 := hp0.le le33
     replace hvc := hvc.le le33
     replace lE := lE.trans le33
     obtain ⟨x34, eq35a, eq35b, eq35c, eq35d, hx340, hb36⟩ := ons.sl.cut (lo := (0 : Int)) (hi := (p : Int)) (by omega) (by omega) (by omega)
     refine ob_i (eq35c rfl) ?_
     have ox34 : Ro vS H30 x34 (((nl).drop ((0 : Int)).toNat).take (((p : Int)).toNat - ((0 : Int)).toNat)) := ⟨hx340, fun b hb => ons.known b (hb36 b hb)⟩
     refine apd_nil ou29 kk32 ox34.sl (fun _ => rfl) (by omega) (by omega) (fun u40 H37 ou40 nn41 le42 => ?_)
     have au3Xu40 : Apt Su3 u40 := Apt.of_nw ou3.known nn41
     have au4Xu40 : Apart u4 u40 := ou4.apart nn41
     have ansXu40 : Apart ns u40 := ons.apart nn41
     have acsXu40 : Apart cs u40 := ocs.apart nn41
     have nu40 : Nw H u40 := nn41.le lE
     replace ou3 := ou3.le le42
     replace ou4 := ou4.le le42
     replace ons := ons.le le42
     replace ocs := ocs.le le42
     replace hp0 := hp0.le le42
     replace hvc := hvc.le le42
     replace lE := lE.trans le42
     refine bS_i (enc := vS) (l := [nameT ((prtF r c l (at_ 0 (stsL c l l.length) (t : Int))).r) ((prtF r c l (at_ 0 (stsL c l l.length) (t : Int))).c) ((prtF r c l (at_ 0 (stsL c l l.length) (t : Int))).l)]) (by omega) rfl (by kernel_rfl) (fun u43 H44 ou43 nn45 le47 => ?_)
     replace ou3 := ou3.le le47
     replace ou4 := ou4.le le47
     replace ons := ons.le le47
     replace ocs := ocs.le le47
     replace ou40 := ou40.le le47
     replace hp0 := hp0.le le47
     replace hvc := hvc.le le47
     replace lE := lE.trans le47
     refine apd_any ou40 ou43.sl (fun _ => rfl) (by omega) (by first | omega | (simp only [List.length_cons, List.length_nil]; omega)) (fun u51 H48 ou51 off49 hb50 => ?_)
     have au3Xu51 : Apt Su3 u51 := Apt.ap2 ou3.known au3Xu40 hb50
     have au4Xu51 : Apart u4 u51 := Apart.ap2 ou4.known au4Xu40 hb50
     have acsXu51 : Apart cs u51 := Apart.ap2 ocs.known acsXu40 hb50
     have nu51 : Nw H u51 := Nw.ap2 nu40 lE hb50
     replace ou3 := ou3.off off49 au3Xu40
     replace ou4 := ou4.off off49 au4Xu40
     replace ons := ons.off off49 ansXu40
     replace ocs := ocs.off off49 acsXu40
     replace hp0 := hp00.le (off49.le lE nu40)
     replace hvc := hvc0.le (off49.le lE nu40)
     replace lE := off49.le lE nu40
     obtain ⟨x52, eq53a, eq53b, eq53c, eq53d, hx520, hb54⟩ := ons.sl.cut (lo := (p : Int)) (hi := ((nl).length : Int)) (by omega) (by omega) (by omega)
     refine ob_i (eq53b rfl) ?_
     have ox52 : Ro vS H48 x52 (((nl).drop ((p : Int)).toNat).take ((((nl).length : Int)).toNat - ((p : Int)).toNat)) := ⟨hx520, fun b hb => ons.known b (hb54 b hb)⟩
     refine apd_any ou51 ox52.sl (fun _ => rfl) (by omega) (by first | omega | (simp only [List.length_cons, List.length_nil, List.length_append]; omega)) (fun u58 H55 ou58 off56 hb57 => ?_)
     have au3Xu58 : Apt Su3 u58 := Apt.ap2 ou3.known au3Xu51 hb57
     have au4Xu58 : Apart u4 u58 := Apart.ap2 ou4.known au4Xu51 hb57
     have nu58 : Nw H u58 := Nw.ap2 nu51 lE hb57
     replace ou3 := ou3.off off56 au3Xu51
     replace ou4 := ou4.off off56 au4Xu51
     replace ocs := ocs.off off56 acsXu51
     replace hp0 := hp00.le (off56.le lE nu51)
     replace hvc := hvc0.le (off56.le lE nu51)
     replace lE := off56.le lE nu51
     refine bS_nil (enc := eI) (fun u59 H60 ou59 nn61 kk62 le63 => ?_)
     replace ou3 := ou3.le le63
     replace ou4 := ou4.le le63
     replace ocs := ocs.le le63
     replace ou58 := ou58.le le63
     replace hp0 := hp0.le le63
     replace hvc := hvc.le le63
     replace lE := lE.trans le63
     obtain ⟨x64, eq65a, eq65b, eq65c, eq65d, hx640, hb66⟩ := ocs.sl.cut (lo := (0 : Int)) (hi := (p : Int)) (by omega) (by omega) (by omega)
     refine ob_i (eq65c rfl) ?_
     have ox64 : Ro eI H60 x64 (((cl).drop ((0 : Int)).toNat).take (((p : Int)).toNat - ((0 : Int)).toNat)) := ⟨hx640, fun b hb => ocs.known b (hb66 b hb)⟩
     refine apd_nil ou59 kk62 ox64.sl (fun _ => rfl) (by omega) (by omega) (fun u70 H67 ou70 nn71 le72 => ?_)
     have au3Xu70 : Apt Su3 u70 := Apt.of_nw ou3.known nn71
     have au4Xu70 : Apart u4 u70 := ou4.apart nn71
     have acsXu70 : Apart cs u70 := ocs.apart nn71
     have au58Xu70 : Apart u58 u70 := ou58.apart nn71
     have nu70 : Nw H u70 := nn71.le lE
     replace ou3 := ou3.le le72
     replace ou4 := ou4.le le72
     replace ocs := ocs.le le72
     replace ou58 := ou58.le le72
     replace hp0 := hp0.le le72
     replace hvc := hvc.le le72
     replace lE := lE.trans le72
     refine bS_i (enc := eI) (l := [(1 : Int)]) (by omega) rfl (by kernel_rfl) (fun u73 H74 ou73 nn75 le77 => ?_)
     replace ou3 := ou3.le le77
     replace ou4 := ou4.le le77
     replace ocs := ocs.le le77
     replace ou58 := ou58.le le77
     replace ou70 := ou70.le le77
     replace hp0 := hp0.le le77
     replace hvc := hvc.le le77
     replace lE := lE.trans le77
     refine apd_any ou70 ou73.sl (fun _ => rfl) (by omega) (by first | omega | (simp only [List.length_cons, List.length_nil]; omega)) (fun u81 H78 ou81 off79 hb80 => ?_)
     have au3Xu81 : Apt Su3 u81 := Apt.ap2 ou3.known au3Xu70 hb80
     have au4Xu81 : Apart u4 u81 := Apart.ap2 ou4.known au4Xu70 hb80
     have au58Xu81 : Apart u58 u81 := Apart.ap2 ou58.known au58Xu70 hb80
     have nu81 : Nw H u81 := Nw.ap2 nu70 lE hb80
     replace ou3 := ou3.off off79 au3Xu70
     replace ou4 := ou4.off off79 au4Xu70
     replace ocs := ocs.off off79 acsXu70
     replace ou58 := ou58.off off79 au58Xu70
     replace hp0 := hp00.le (off79.le lE nu70)
     replace hvc := hvc0.le (off79.le lE nu70)
     replace lE := off79.le lE nu70
     obtain ⟨x82, eq83a, eq83b, eq83c, eq83d, hx820, hb84⟩ := ocs.sl.cut (lo := (p : Int)) (hi := ((cl).length : Int)) (by omega) (by omega) (by omega)
     refine ob_i (eq83b rfl) ?_
     have ox82 : Ro eI H78 x82 (((cl).drop ((p : Int)).toNat).take ((((cl).length : Int)).toNat - ((p : Int)).toNat)) := ⟨hx820, fun b hb => ocs.known b (hb84 b hb)⟩
     refine apd_any ou81 ox82.sl (fun _ => rfl) (by omega) (by first | omega | (simp only [List.length_cons, List.length_nil, List.length_append]; omega)) (fun u88 H85 ou88 off86 hb87 => ?_)
     have au3Xu88 : Apt Su3 u88 := Apt.ap2 ou3.known au3Xu81 hb87
     have au4Xu88 : Apart u4 u88 := Apart.ap2 ou4.known au4Xu81 hb87
     have au58Xu88 : Apart u58 u88 := Apart.ap2 ou58.known au58Xu81 hb87
     have nu88 : Nw H u88 := Nw.ap2 nu81 lE hb87
     replace ou3 := ou3.off off86 au3Xu81
     replace ou4 := ou4.off off86 au4Xu81
     replace ou58 := ou58.off off86 au58Xu81
     replace hp0 := hp00.le (off86.le lE nu81)
     replace hvc := hvc0.le (off86.le lE nu81)
     replace lE := off86.le lE nu81
     exact hJ18 _ _ ⟨u58, u88, _, _, g5L24, rfl, rfl, g22L24, g23L24, ou3, ou4, ou58, ou88, nu58, au3Xu58, au4Xu58, nu88, au3Xu88, au4Xu88, au58Xu88, lE, (cen_cast (cen_at_new hcen (by omega) hlt (fun hh => ⟨hge hh, hg26⟩)) (mid_eq nl _ p) (mid_eq' cl cl1) (nmL_take (by omega)))⟩
   ·skip
    refine gop_e (decide_eq_false hc25) ?_
    refine gop_sf ?_
    refine gop_e (decide_eq_false hc25) ?_
    refine gop_sf ?_
    refine gop_e (decide_eq_false hc25) ?_
    refine gop_sf ?_
    refine gop_e (decide_eq_false hc25) ?_
    refine gop_sf ?_
    refine gop_e (decide_eq_false hc25) ?_
    refine gop_sf ?_
    refine gop_e (decide_eq_false hc25) ?_
    refine gop_sf ?_
    refine ob_i (vPick_ef (decide_eq_false hc25) _ _) ?_
    refine cnd_f1 ?_
    refine bS_nil (enc := vS) (fun u89 H90 ou89 nn91 kk92 le93 => ?_)
    replace ou3 := ou3.le le93
    replace ou4 := ou4.le le93
    replace ons := ons.le le93
    replace ocs := ocs.le le93
    replace hp0 := hp0.le le93
    replace hvc := hvc.le le93
    replace lE := lE.trans le93
    obtain ⟨x94, eq95a, eq95b, eq95c, eq95d, hx940, hb96⟩ := ons.sl.cut (lo := (0 : Int)) (hi := (p : Int)) (by omega) (by omega) (by omega)
    refine ob_i (eq95c rfl) ?_
    have ox94 : Ro vS H90 x94 (((nl).drop ((0 : Int)).toNat).take (((p : Int)).toNat - ((0 : Int)).toNat)) := ⟨hx940, fun b hb => ons.known b (hb96 b hb)⟩
    refine apd_nil ou89 kk92 ox94.sl (fun _ => rfl) (by omega) (by omega) (fun u100 H97 ou100 nn101 le102 => ?_)
    have au3Xu100 : Apt Su3 u100 := Apt.of_nw ou3.known nn101
    have au4Xu100 : Apart u4 u100 := ou4.apart nn101
    have ansXu100 : Apart ns u100 := ons.apart nn101
    have acsXu100 : Apart cs u100 := ocs.apart nn101
    have nu100 : Nw H u100 := nn101.le lE
    replace ou3 := ou3.le le102
    replace ou4 := ou4.le le102
    replace ons := ons.le le102
    replace ocs := ocs.le le102
    replace hp0 := hp0.le le102
    replace hvc := hvc.le le102
    replace lE := lE.trans le102
    refine bS_i (enc := vS) (l := [nameT ((prtF r c l (at_ 0 (stsL c l l.length) (t : Int))).r) ((prtF r c l (at_ 0 (stsL c l l.length) (t : Int))).c) ((prtF r c l (at_ 0 (stsL c l l.length) (t : Int))).l)]) (by omega) rfl (by kernel_rfl) (fun u103 H104 ou103 nn105 le107 => ?_)
    replace ou3 := ou3.le le107
    replace ou4 := ou4.le le107
    replace ons := ons.le le107
    replace ocs := ocs.le le107
    replace ou100 := ou100.le le107
    replace hp0 := hp0.le le107
    replace hvc := hvc.le le107
    replace lE := lE.trans le107
    refine apd_any ou100 ou103.sl (fun _ => rfl) (by omega) (by first | omega | (simp only [List.length_cons, List.length_nil]; omega)) (fun u111 H108 ou111 off109 hb110 => ?_)
    have au3Xu111 : Apt Su3 u111 := Apt.ap2 ou3.known au3Xu100 hb110
    have au4Xu111 : Apart u4 u111 := Apart.ap2 ou4.known au4Xu100 hb110
    have acsXu111 : Apart cs u111 := Apart.ap2 ocs.known acsXu100 hb110
    have nu111 : Nw H u111 := Nw.ap2 nu100 lE hb110
    replace ou3 := ou3.off off109 au3Xu100
    replace ou4 := ou4.off off109 au4Xu100
    replace ons := ons.off off109 ansXu100
    replace ocs := ocs.off off109 acsXu100
    replace hp0 := hp00.le (off109.le lE nu100)
    replace hvc := hvc0.le (off109.le lE nu100)
    replace lE := off109.le lE nu100
    obtain ⟨x112, eq113a, eq113b, eq113c, eq113d, hx1120, hb114⟩ := ons.sl.cut (lo := (p : Int)) (hi := ((nl).length : Int)) (by omega) (by omega) (by omega)
    refine ob_i (eq113b rfl) ?_
    have ox112 : Ro vS H108 x112 (((nl).drop ((p : Int)).toNat).take ((((nl).length : Int)).toNat - ((p : Int)).toNat)) := ⟨hx1120, fun b hb => ons.known b (hb114 b hb)⟩
    refine apd_any ou111 ox112.sl (fun _ => rfl) (by omega) (by first | omega | (simp only [List.length_cons, List.length_nil, List.length_append]; omega)) (fun u118 H115 ou118 off116 hb117 => ?_)
    have au3Xu118 : Apt Su3 u118 := Apt.ap2 ou3.known au3Xu111 hb117
    have au4Xu118 : Apart u4 u118 := Apart.ap2 ou4.known au4Xu111 hb117
    have nu118 : Nw H u118 := Nw.ap2 nu111 lE hb117
    replace ou3 := ou3.off off116 au3Xu111
    replace ou4 := ou4.off off116 au4Xu111
    replace ocs := ocs.off off116 acsXu111
    replace hp0 := hp00.le (off116.le lE nu111)
    replace hvc := hvc0.le (off116.le lE nu111)
    replace lE := off116.le lE nu111
    refine bS_nil (enc := eI) (fun u119 H120 ou119 nn121 kk122 le123 => ?_)
    replace ou3 := ou3.le le123
    replace ou4 := ou4.le le123
    replace ocs := ocs.le le123
    replace ou118 := ou118.le le123
    replace hp0 := hp0.le le123
    replace hvc := hvc.le le123
    replace lE := lE.trans le123
    obtain ⟨x124, eq125a, eq125b, eq125c, eq125d, hx1240, hb126⟩ := ocs.sl.cut (lo := (0 : Int)) (hi := (p : Int)) (by omega) (by omega) (by omega)
    refine ob_i (eq125c rfl) ?_
    have ox124 : Ro eI H120 x124 (((cl).drop ((0 : Int)).toNat).take (((p : Int)).toNat - ((0 : Int)).toNat)) := ⟨hx1240, fun b hb => ocs.known b (hb126 b hb)⟩
    refine apd_nil ou119 kk122 ox124.sl (fun _ => rfl) (by omega) (by omega) (fun u130 H127 ou130 nn131 le132 => ?_)
    have au3Xu130 : Apt Su3 u130 := Apt.of_nw ou3.known nn131
    have au4Xu130 : Apart u4 u130 := ou4.apart nn131
    have acsXu130 : Apart cs u130 := ocs.apart nn131
    have au118Xu130 : Apart u118 u130 := ou118.apart nn131
    have nu130 : Nw H u130 := nn131.le lE
    replace ou3 := ou3.le le132
    replace ou4 := ou4.le le132
    replace ocs := ocs.le le132
    replace ou118 := ou118.le le132
    replace hp0 := hp0.le le132
    replace hvc := hvc.le le132
    replace lE := lE.trans le132
    refine bS_i (enc := eI) (l := [(1 : Int)]) (by omega) rfl (by kernel_rfl) (fun u133 H134 ou133 nn135 le137 => ?_)
    replace ou3 := ou3.le le137
    replace ou4 := ou4.le le137
    replace ocs := ocs.le le137
    replace ou118 := ou118.le le137
    replace ou130 := ou130.le le137
    replace hp0 := hp0.le le137
    replace hvc := hvc.le le137
    replace lE := lE.trans le137
    refine apd_any ou130 ou133.sl (fun _ => rfl) (by omega) (by first | omega | (simp only [List.length_cons, List.length_nil]; omega)) (fun u141 H138 ou141 off139 hb140 => ?_)
    have au3Xu141 : Apt Su3 u141 := Apt.ap2 ou3.known au3Xu130 hb140
    have au4Xu141 : Apart u4 u141 := Apart.ap2 ou4.known au4Xu130 hb140
    have au118Xu141 : Apart u118 u141 := Apart.ap2 ou118.known au118Xu130 hb140
    have nu141 : Nw H u141 := Nw.ap2 nu130 lE hb140
    replace ou3 := ou3.off off139 au3Xu130
    replace ou4 := ou4.off off139 au4Xu130
    replace ocs := ocs.off off139 acsXu130
    replace ou118 := ou118.off off139 au118Xu130
    replace hp0 := hp00.le (off139.le lE nu130)
    replace hvc := hvc0.le (off139.le lE nu130)
    replace lE := off139.le lE nu130
    obtain ⟨x142, eq143a, eq143b, eq143c, eq143d, hx1420, hb144⟩ := ocs.sl.cut (lo := (p : Int)) (hi := ((cl).length : Int)) (by omega) (by omega) (by omega)
    refine ob_i (eq143b rfl) ?_
    have ox142 : Ro eI H138 x142 (((cl).drop ((p : Int)).toNat).take ((((cl).length : Int)).toNat - ((p : Int)).toNat)) := ⟨hx1420, fun b hb => ocs.known b (hb144 b hb)⟩
    refine apd_any ou141 ox142.sl (fun _ => rfl) (by omega) (by first | omega | (simp only [List.length_cons, List.length_nil, List.length_append]; omega)) (fun u148 H145 ou148 off146 hb147 => ?_)
    have au3Xu148 : Apt Su3 u148 := Apt.ap2 ou3.known au3Xu141 hb147
    have au4Xu148 : Apart u4 u148 := Apart.ap2 ou4.known au4Xu141 hb147
    have au118Xu148 : Apart u118 u148 := Apart.ap2 ou118.known au118Xu141 hb147
    have nu148 : Nw H u148 := Nw.ap2 nu141 lE hb147
    replace ou3 := ou3.off off146 au3Xu141
    replace ou4 := ou4.off off146 au4Xu141
    replace ou118 := ou118.off off146 au118Xu141
    replace hp0 := hp00.le (off146.le lE nu141)
    replace hvc := hvc0.le (off146.le lE nu141)
    replace lE := off146.le lE nu141
    exact hJ18 _ _ ⟨u118, u148, _, _, g5L24, rfl, rfl, g22L24, g23L24, ou3, ou4, ou118, ou148, nu118, au3Xu118, au4Xu118, nu148, au3Xu148, au4Xu148, au118Xu148, lE, (cen_cast (cen_at_new hcen (by omega) hlt (fun hh => ⟨hge hh, fun _ => absurd hh (by omega)⟩)) (mid_eq nl _ p) (mid_eq' cl cl1) (nmL_take (by omega)))⟩
  refine ⟨fun n' σ' H' => ∃ k : Nat, n' = nl.length - k ∧ k ≤ nl.length ∧ σ' 5 = u3 ∧ σ' 7 = ns ∧ σ' 8 = cs ∧ σ' 10 = (vS (nameT ((prtF r c l (at_ 0 (stsL c l l.length) (t : Int))).r) ((prtF r c l (at_ 0 (stsL c l l.length) (t : Int))).c) ((prtF r c l (at_ 0 (stsL c l l.length) (t : Int))).l))) ∧ σ' 11 = (.int .i64 ((k : Int))) ∧ σ' 22 = (.int .i64 (((prtL r c l (stsL c l l.length)).length : Int))) ∧ σ' 23 = (.int .i64 ((t : Int))) ∧ Fam H' u3 Su3 (prtL r c l (stsL c l l.length)) ∧ Own eI H' u4 (plcL r c l (stsL c l l.length)) ∧ Own vS H' ns (nl) ∧ Own eI H' cs (cl) ∧ CelR H' P19 [(.int .i64 ((prtF r c l (at_ 0 (stsL c l l.length) (t : Int))).r)), (.int .i64 ((prtF r c l (at_ 0 (stsL c l l.length) (t : Int))).c)), y20] ∧ Ro eI H' y20 ((prtF r c l (at_ 0 (stsL c l l.length) (t : Int))).l) ∧ Le H H' ∧ (∀ j : Nat, j < k → LtT (at_ [] nl (j : Int)) (nameT (prtF r c l (at_ 0 (stsL c l l.length) (t : Int))).r (prtF r c l (at_ 0 (stsL c l l.length) (t : Int))).c (prtF r c l (at_ 0 (stsL c l l.length) (t : Int))).l)),
   ⟨_, 0, rfl, by omega, g5L16, g7L16, g8L16, rfl, (congrArg (Value.int .i64) (by first | omega | rfl | (simp; done))), g22L16, g23L16, ou3, ou4, ons, ocs, oP19, oy20, lE, (fun j hj => absurd hj (by omega))⟩, ?_⟩
  rintro n149 σ149 H149 ⟨k, rfl, hkN, g5L149, g7L149, g8L149, g10L149, g11L149, g22L149, g23L149, ou3, ou4, ons, ocs, oP19, oy20, lE, hlt⟩
  try simp only [g7L149, g10L149, g11L149]
  refine ob_i (ons.len) ?_
  refine ob_i (vInt_lss _ _ _) ?_
  by_cases hc150 : (k : Int) < (((nl).length : Int))
  ·skip
   refine gop_e (decide_eq_true hc150) ?_
   refine gop_rt ?_
   refine gop_e (decide_eq_true hc150) ?_
   refine gop_rt ?_
   refine gop_e (decide_eq_true hc150) ?_
   refine gop_rt ?_
   refine ob_i (ons.sl.ix (by omega) (by omega)) ?_
   refine gop_e (decide_eq_true hc150) ?_
   refine gop_rt ?_
   refine ob_i (ons.sl.ld [] (by omega) (by omega)) ?_
   refine gop_e (decide_eq_true hc150) ?_
   refine gop_rt ?_
   refine gop_e (decide_eq_true hc150) ?_
   refine gop_rt ?_
   refine ob_i (vStr_lss (at_ [] (nl) ((k : Int))) (nameT ((prtF r c l (at_ 0 (stsL c l l.length) (t : Int))).r) ((prtF r c l (at_ 0 (stsL c l l.length) (t : Int))).c) ((prtF r c l (at_ 0 (stsL c l l.length) (t : Int))).l))) ?_
   refine ob_i (vPick_et (decide_eq_true hc150) _ _) ?_
   refine cnd_i (fun hg151 => ?_) (fun hg151 => ?_)
   ·skip
    refine ob_i (vInt_add (by omega) (by omega)) ?_
    exact nxt (nl.length - (k + 1)) (by omega) ⟨k + 1, rfl, by omega, g5L149, g7L149, g8L149, g10L149, (congrArg (Value.int .i64) (by first | omega | rfl | (simp; done))), g22L149, g23L149, ou3, ou4, ons, ocs, oP19, oy20, lE, (lt_snoc hlt hg151)⟩
   ·skip
    exact hJ24 _ _ ⟨k, g5L149, g7L149, g8L149, g10L149, (g11L149.trans (congrArg (Value.int .i64) (by first | omega | rfl | (simp; done)))), g22L149, g23L149, ou3, ou4, ons, ocs, oP19, oy20, lE, hlt, (by omega), (fun _ h9 => absurd (h9.symm.trans hg151) (by decide))⟩
  ·skip
   refine gop_e (decide_eq_false hc150) ?_
   refine gop_sf ?_
   refine gop_e (decide_eq_false hc150) ?_
   refine gop_sf ?_
   refine gop_e (decide_eq_false hc150) ?_
   refine gop_sf ?_
   refine gop_e (decide_eq_false hc150) ?_
   refine gop_sf ?_
   refine gop_e (decide_eq_false hc150) ?_
   refine gop_sf ?_
   refine gop_e (decide_eq_false hc150) ?_
   refine gop_sf ?_
   refine ob_i (vPick_ef (decide_eq_false hc150) _ _) ?_
   refine cnd_f1 ?_
   exact hJ24 _ _ ⟨k, g5L149, g7L149, g8L149, g10L149, (g11L149.trans (congrArg (Value.int .i64) (by first | omega | rfl | (simp; done)))), g22L149, g23L149, ou3, ou4, ons, ocs, oP19, oy20, lE, hlt, (by omega), (fun h9 => absurd h9 (by omega))⟩
 ·skip
  have tt := hg17
  have hce := cen_eq (M := (nmL r c l (stsL c l l.length))) hcen (by rw [List.take_of_length_le (by omega)])
  exact hJ15 _ _ ⟨ns, cs, g7L16, g8L16, ou3, ou4, (Own.cast hce.1 ons), (Own.cast hce.2 ocs), nns, au3Xns, au4Xns, ncs, au3Xcs, au4Xcs, ansXcs, lE⟩
end Go.Proofs.YtffmfkpobjdmmaaGreatDoor
/- What soups become. -/
namespace Go.Proofs.YtffmfkpobjdmmaaGreatDoor
open HL
set_option maxRecDepth 100000
attribute [local irreducible] vStr
theorem C.cen_c {vc : Value} {r c : Int} {l : List Int} {H : Hp} {K : Value → Hp → Prop} (hvc0 : Sl eI H vc l) (k1 : l.length ≤ 9223372036854775807)
    (hk1 : (fieldN 1 r c l ∧ (cenN (nmL r c l (stsL c l l.length))).length ≤ 64) → ∀ u1 u2 H', Own vS H' u1 (cenN (nmL r c l (stsL c l l.length))) → Own eI H' u2 (cenC (nmL r c l (stsL c l l.length))) → Nw H u1 → Nw H u2 → Apart u1 u2 → Le H H' → K (.tuple #[u1, u2, .bool true]) H')
    (hk2 : ¬ (fieldN 1 r c l ∧ (cenN (nmL r c l (stsL c l l.length))).length ≤ 64) → ∀ u1 u2 H', Own vS H' u1 [] → Own eI H' u2 [] → Nw H u1 → Nw H u2 → Apart u1 u2 → Le H H' → K (.tuple #[u1, u2, .bool false]) H') : HT prg I.impl_CensusOf [.agg #[.int .i64 r, .int .i64 c, vc]].toArray H K := by
  refine C.impl_CensusOf hvc0 k1 (fun u1 u2 H' o1 o2 n1 n2 a le => ?_)
  by_cases h : fieldN 1 r c l ∧ (cenN (nmL r c l (stsL c l l.length))).length ≤ 64
  · rw [selL_t h] at o1 o2
    rw [decide_eq_true h]
    exact hk1 h u1 u2 H' o1 o2 n1 n2 a le
  · rw [selL_f h] at o1 o2
    rw [decide_eq_false h]
    exact hk2 h u1 u2 H' o1 o2 n1 n2 a le
end Go.Proofs.YtffmfkpobjdmmaaGreatDoor
