/- Masses and speeds of flows. -/
import Derived.Test.YtcjamajenfgddaaFP
namespace Go.Proofs.Ytcjamajenfgddaa
open HL
set_option maxRecDepth 100000
theorem C.spec_l06Part {q : Int}  {H : Hp} {K : Value → Hp → Prop} (q0 : 0 ≤ q) (q9 : q < 9)
    (hk : ∀ H', Le H H' → K (.tuple #[(.int .i64 (at_ 0 downs q)), (.int .i64 (at_ 0 rights q))]) H') : HT prg I.spec_l06Part [(.int .i64 (q))].toArray H K := by
  have lE := Le.refl H
  refine R.spec_l06Part ?_
  unfold F.spec_l06Part
  refine bS_i (enc := eI) (l := [0, 0, 1, 0, (-1), 1, 1, (-1), (-1)]) (by omega) rfl (by kernel_rfl) (fun u1 H2 ou1 nn3 le5 => ?_)
  have nu1 : Nw H u1 := nn3.le lE
  replace lE := lE.trans le5
  refine ob_i (ou1.sl.ix (by omega) (by omega)) ?_
  refine ob_i (ou1.sl.ld 0 (by omega) (by omega)) ?_
  refine bS_i (enc := eI) (l := [0, 1, 0, (-1), 0, 1, (-1), (-1), 1]) (by omega) rfl (by kernel_rfl) (fun u6 H7 ou6 nn8 le10 => ?_)
  have au1Xu6 : Apart u1 u6 := ou1.apart nn8
  have nu6 : Nw H u6 := nn8.le lE
  replace ou1 := ou1.le le10
  replace lE := lE.trans le10
  refine ob_i (ou6.sl.ix (by omega) (by omega)) ?_
  refine ob_i (ou6.sl.ld 0 (by omega) (by omega)) ?_
  skip
  exact keq (K := K) (by rw [show ((at_ 0 ([0, 0, 1, 0, (-1), 1, 1, (-1), (-1)]) (q)) : Int) = (at_ 0 downs q) from by rfl]; rw [show ((at_ 0 ([0, 1, 0, (-1), 0, 1, (-1), (-1), 1]) (q)) : Int) = (at_ 0 rights q) from by rfl]) (hk   _    lE)
theorem C.impl_partGoes {q : Int}  {H : Hp} {K : Value → Hp → Prop} (q0 : 0 ≤ q) (q9 : q < 9)
    (hk : ∀ H', Le H H' → K (.tuple #[(.int .i64 (at_ 0 downs q)), (.int .i64 (at_ 0 rights q))]) H') : HT prg I.impl_partGoes [(.int .i64 (q))].toArray H K := by
  have lE := Le.refl H
  refine R.impl_partGoes ?_
  unfold F.impl_partGoes
  refine hp_val (v := (.agg #[(.int .i64 (0)), (.int .i64 (0)), (.int .i64 (1)), (.int .i64 (0)), (.int .i64 ((-1))), (.int .i64 (1)), (.int .i64 (1)), (.int .i64 ((-1))), (.int .i64 ((-1)))])) (fun K => by kernel_rfl) ?_
  refine nw_i (fun p1 H2 op1 nn3 le4 => ?_)
  have np1 : Nw H p1 := nn3.le lE
  replace lE := lE.trans le4
  replace op1 : Cel H2 p1 [(.int .i64 (0)), (.int .i64 (0)), (.int .i64 (0)), (.int .i64 (0)), (.int .i64 (0)), (.int .i64 (0)), (.int .i64 (0)), (.int .i64 (0)), (.int .i64 (0))] := op1
  refine op1.stn (ws := [(.int .i64 (0)), (.int .i64 (0)), (.int .i64 (1)), (.int .i64 (0)), (.int .i64 ((-1))), (.int .i64 (1)), (.int .i64 (1)), (.int .i64 ((-1))), (.int .i64 ((-1)))]) rfl rfl (oc1 rfl (oc1 rfl (oc1 rfl (oc1 rfl (oc1 rfl (oc1 rfl (oc1 rfl (oc1 rfl (oc1 rfl oc0))))))))) (fun H5 op1 off6 => ?_)
  replace lE := off6.le lE np1
  replace op1 : Cel H5 p1 [(.int .i64 (0)), (.int .i64 (0)), (.int .i64 (1)), (.int .i64 (0)), (.int .i64 ((-1))), (.int .i64 (1)), (.int .i64 (1)), (.int .i64 ((-1))), (.int .i64 ((-1)))] := op1
  refine hp_val (v := (.agg #[(.int .i64 (0)), (.int .i64 (1)), (.int .i64 (0)), (.int .i64 ((-1))), (.int .i64 (0)), (.int .i64 (1)), (.int .i64 ((-1))), (.int .i64 ((-1))), (.int .i64 (1))])) (fun K => by kernel_rfl) ?_
  refine nw_i (fun p7 H8 op7 nn9 le10 => ?_)
  have ap1Xp7 : Apart p1 p7 := op1.apart nn9
  have np7 : Nw H p7 := nn9.le lE
  replace op1 := op1.le le10
  replace lE := lE.trans le10
  replace op7 : Cel H8 p7 [(.int .i64 (0)), (.int .i64 (0)), (.int .i64 (0)), (.int .i64 (0)), (.int .i64 (0)), (.int .i64 (0)), (.int .i64 (0)), (.int .i64 (0)), (.int .i64 (0))] := op7
  refine op7.stn (ws := [(.int .i64 (0)), (.int .i64 (1)), (.int .i64 (0)), (.int .i64 ((-1))), (.int .i64 (0)), (.int .i64 (1)), (.int .i64 ((-1))), (.int .i64 ((-1))), (.int .i64 (1))]) rfl rfl (oc1 rfl (oc1 rfl (oc1 rfl (oc1 rfl (oc1 rfl (oc1 rfl (oc1 rfl (oc1 rfl (oc1 rfl oc0))))))))) (fun H11 op7 off12 => ?_)
  replace op1 := op1.off off12 ap1Xp7
  replace lE := off12.le lE np7
  replace op7 : Cel H11 p7 [(.int .i64 (0)), (.int .i64 (1)), (.int .i64 (0)), (.int .i64 ((-1))), (.int .i64 (0)), (.int .i64 (1)), (.int .i64 ((-1))), (.int .i64 ((-1))), (.int .i64 (1))] := op7
  refine ob_i (op1.ixA (by omega) (by omega)) ?_
  refine ob_i (HL.Cel.ldA (l := [0, 0, 1, 0, (-1), 1, 1, (-1), (-1)]) op1 (by omega) (by simp only [List.length_cons, List.length_nil]; omega)) ?_
  refine ob_i (op7.ixA (by omega) (by omega)) ?_
  refine ob_i (HL.Cel.ldA (l := [0, 1, 0, (-1), 0, 1, (-1), (-1), 1]) op7 (by omega) (by simp only [List.length_cons, List.length_nil]; omega)) ?_
  skip
  exact keq (K := K) (by rw [show ((at_ 0 [0, 0, 1, 0, (-1), 1, 1, (-1), (-1)] (q)) : Int) = (at_ 0 downs q) from by rfl]; rw [show ((at_ 0 [0, 1, 0, (-1), 0, 1, (-1), (-1), 1] (q)) : Int) = (at_ 0 rights q) from by rfl]) (hk   _    lE)
theorem C.impl_massOf {a : Value} {l : List Nat}  {H : Hp} {K : Value → Hp → Prop} (ha0 : Sl eF H a l) (hl : l.length = 9)
    (hk : ∀ z1, FR .f32 (massO l 9) z1 → ∀ H', Le H H' → K (.float .f32 z1) H') : HT prg I.impl_massOf [a].toArray H K := by
  have lE := Le.refl H
  have ha := ha0
  refine R.impl_massOf ?_
  unfold F.impl_massOf
  refine jn_i (fun σ' H' => ∃ x, σ' 3 = (.float .f32 x) ∧ Le H H' ∧ FR .f32 (massO l 9) x) (fun σ1 H1 hP => ?_) (fun J1 hJ1 => ?_)
  · skip
    obtain ⟨x, g3L1, lE, hx⟩ := hP
    have ha := ha0.le lE
    try simp only [g3L1]
    skip
    exact hk  x hx  _    lE
  refine ob_i (ha.len) ?_
  refine ⟨fun n' σ' H' => ∃ i : Nat, n' = l.length - i ∧ i ≤ l.length ∧ ∃ x, σ' 3 = (.float .f32 x) ∧ σ' 6 = a ∧ σ' 7 = (.int .i64 (((l).length : Int))) ∧ σ' 8 = (.int .i64 ((i : Int))) ∧ Le H H' ∧ FR .f32 (massO l i) x,
    ⟨_, 0, rfl, by omega, 0, rfl, rfl, rfl, (congrArg (Value.int .i64) (by first | omega | rfl | (simp; done))), lE, (FR_some _)⟩, ?_⟩
  rintro n2 σ2 H2 ⟨i, rfl, hiN, x, g3L2, g6L2, g7L2, g8L2, lE, hx⟩
  have ha := ha0.le lE
  try simp only [g3L2, g6L2, g7L2, g8L2]
  refine ob_i (vInt_lss _ _ _) ?_
  refine cnd_d (fun hg3 => ?_) (fun hg3 => ?_)
  · skip
    have ti := hg3
    refine ob_i (ha.ix (by omega) (by omega)) ?_
    refine ob_i (ha.ld 0 (by omega) (by omega)) ?_
    refine fA_add (a := (massO l i)) (b := (cl (at_ 0 (l) ((i : Int))))) hx (FR_cl _) (fun z4 hz4 => ?_)
    refine ob_i (vInt_add (by omega) (by omega)) ?_
    exact nxt (l.length - (i + 1)) (by omega) ⟨i + 1, rfl, by omega, z4, rfl, g6L2, g7L2, (congrArg (Value.int .i64) (by first | omega | rfl | (simp; done))), lE, hz4⟩
  · skip
    have ti := hg3
    obtain rfl : i = 9 := by omega
    exact hJ1 _ _ ⟨_, g3L2, lE, hx⟩
theorem C.impl_speeds {a : Value} {l : List Nat}  {H : Hp} {K : Value → Hp → Prop} (ha0 : Sl eF H a l) (hl : l.length = 9)
    (hk : ∀ z1 z2, FR .f32 (speedO downs l) z1 → FR .f32 (speedO rights l) z2 → ∀ H', Le H H' → K (.tuple #[(.float .f32 z1), (.float .f32 z2)]) H') : HT prg I.impl_speeds [a].toArray H K := by
  have lE := Le.refl H
  have ha := ha0
  refine R.impl_speeds ?_
  unfold F.impl_speeds
  refine C.impl_massOf ha (by first | omega | assumption) (fun  z1 hz1  H2    le3 => ?_)
  replace ha := ha.le le3
  replace lE := lE.trans le3
  refine jn_i (fun σ' H' => ∃ x, ∃ y, σ' 4 = (.float .f32 z1) ∧ σ' 5 = (.float .f32 x) ∧ σ' 6 = (.float .f32 y) ∧ Le H H' ∧ FR .f32 (wayO downs l 9) x ∧ FR .f32 (wayO rights l 9) y) (fun σ4 H4 hP => ?_) (fun J4 hJ4 => ?_)
  · skip
    obtain ⟨x, y, g4L4, g5L4, g6L4, lE, hx, hy⟩ := hP
    have ha := ha0.le lE
    try simp only [g4L4, g5L4, g6L4]
    refine fA_quo (a := (wayO downs l 9)) (b := (massO l 9)) hx hz1 (fun z5 hz5 => ?_)
    refine fA_quo (a := (wayO rights l 9)) (b := (massO l 9)) hy hz1 (fun z6 hz6 => ?_)
    skip
    exact hk  z5 z6 (FR_cast (by rfl) hz5) (FR_cast (by rfl) hz6)  _    lE
  refine ob_i (ha.len) ?_
  refine ⟨fun n' σ' H' => ∃ i : Nat, n' = l.length - i ∧ i ≤ l.length ∧ ∃ x, ∃ y, σ' 4 = (.float .f32 z1) ∧ σ' 5 = (.float .f32 x) ∧ σ' 6 = (.float .f32 y) ∧ σ' 13 = a ∧ σ' 14 = (.int .i64 (((l).length : Int))) ∧ σ' 15 = (.int .i64 ((i : Int))) ∧ Le H H' ∧ FR .f32 (wayO downs l i) x ∧ FR .f32 (wayO rights l i) y,
    ⟨_, 0, rfl, by omega, 0, 0, rfl, rfl, rfl, rfl, rfl, (congrArg (Value.int .i64) (by first | omega | rfl | (simp; done))), lE, (FR_some _), (FR_some _)⟩, ?_⟩
  rintro n7 σ7 H7 ⟨i, rfl, hiN, x, y, g4L7, g5L7, g6L7, g13L7, g14L7, g15L7, lE, hx, hy⟩
  have ha := ha0.le lE
  try simp only [g5L7, g6L7, g13L7, g14L7, g15L7]
  refine ob_i (vInt_lss _ _ _) ?_
  refine cnd_d (fun hg8 => ?_) (fun hg8 => ?_)
  · skip
    have ti := hg8
    refine ob_i (ha.ix (by omega) (by omega)) ?_
    refine ob_i (ha.ld 0 (by omega) (by omega)) ?_
    refine C.impl_partGoes (by first | omega | assumption) (by first | omega | assumption) (fun   H9    le10 => ?_)
    replace ha := ha.le le10
    replace lE := lE.trans le10
    refine ob_i (vExt_20 _ _) ?_
    refine ob_i (vExt_21 _ _) ?_
    refine ob_i (a := (.float .f32 (FloatKind.nearest .f32 (at_ 0 downs (i : Int))))) rfl ?_
    refine fA_mul (a := (fI (at_ 0 downs (i : Int)))) (b := (cl (at_ 0 (l) ((i : Int))))) (FR_some _) (FR_cl _) (fun z11 hz11 => ?_)
    refine fA_add (a := (wayO downs l i)) (b := (fMul (fI (at_ 0 downs (i : Int))) (cl (at_ 0 (l) ((i : Int)))))) hx hz11 (fun z12 hz12 => ?_)
    refine ob_i (a := (.float .f32 (FloatKind.nearest .f32 (at_ 0 rights (i : Int))))) rfl ?_
    refine fA_mul (a := (fI (at_ 0 rights (i : Int)))) (b := (cl (at_ 0 (l) ((i : Int))))) (FR_some _) (FR_cl _) (fun z13 hz13 => ?_)
    refine fA_add (a := (wayO rights l i)) (b := (fMul (fI (at_ 0 rights (i : Int))) (cl (at_ 0 (l) ((i : Int)))))) hy hz13 (fun z14 hz14 => ?_)
    refine ob_i (vInt_add (by omega) (by omega)) ?_
    exact nxt (l.length - (i + 1)) (by omega) ⟨i + 1, rfl, by omega, z12, z14, g4L7, rfl, rfl, g13L7, g14L7, (congrArg (Value.int .i64) (by first | omega | rfl | (simp; done))), lE, hz12, hz14⟩
  · skip
    have ti := hg8
    obtain rfl : i = 9 := by omega
    exact hJ4 _ _ ⟨_, _, g4L7, g5L7, g6L7, lE, hx, hy⟩
theorem C.spec_l06Mass {a : Value} {l : List Nat}  {H : Hp} {K : Value → Hp → Prop} (ha0 : Sl eF H a l) (hl : l.length = 9)
    (hk : ∀ z1 z2 z3, FR .f32 (massO l 9) z1 → FR .f32 (speedO downs l) z2 → FR .f32 (speedO rights l) z3 → ∀ H', Le H H' → K (.tuple #[(.float .f32 z1), (.float .f32 z2), (.float .f32 z3)]) H') : HT prg I.spec_l06Mass [a].toArray H K := by
  have lE := Le.refl H
  have ha := ha0
  refine R.spec_l06Mass ?_
  unfold F.spec_l06Mass
  refine jn_i (fun σ' H' => ∃ m, ∃ x, ∃ y, σ' 5 = (.float .f32 m) ∧ σ' 6 = (.float .f32 x) ∧ σ' 7 = (.float .f32 y) ∧ Le H H' ∧ FR .f32 (massO l 9) m ∧ FR .f32 (wayO downs l 9) x ∧ FR .f32 (wayO rights l 9) y) (fun σ1 H1 hP => ?_) (fun J1 hJ1 => ?_)
  · skip
    obtain ⟨m, x, y, g5L1, g6L1, g7L1, lE, hm, hx, hy⟩ := hP
    have ha := ha0.le lE
    try simp only [g5L1, g6L1, g7L1]
    refine fA_quo (a := (wayO downs l 9)) (b := (massO l 9)) hx hm (fun z2 hz2 => ?_)
    refine fA_quo (a := (wayO rights l 9)) (b := (massO l 9)) hy hm (fun z3 hz3 => ?_)
    skip
    exact hk  m z2 z3 hm (FR_cast (by rfl) hz2) (FR_cast (by rfl) hz3)  _    lE
  refine ⟨fun n' σ' H' => ∃ i : Nat, n' = 9 - i ∧ i ≤ 9 ∧ ∃ m, ∃ x, ∃ y, σ' 0 = a ∧ σ' 5 = (.float .f32 m) ∧ σ' 6 = (.float .f32 x) ∧ σ' 7 = (.float .f32 y) ∧ σ' 8 = (.int .i64 ((i : Int))) ∧ Le H H' ∧ FR .f32 (massO l i) m ∧ FR .f32 (wayO downs l i) x ∧ FR .f32 (wayO rights l i) y,
    ⟨_, 0, rfl, by omega, 0, 0, 0, rfl, rfl, rfl, rfl, (congrArg (Value.int .i64) (by first | omega | rfl | (simp; done))), lE, (FR_some _), (FR_some _), (FR_some _)⟩, ?_⟩
  rintro n4 σ4 H4 ⟨i, rfl, hiN, m, x, y, g0L4, g5L4, g6L4, g7L4, g8L4, lE, hm, hx, hy⟩
  have ha := ha0.le lE
  try simp only [g0L4, g5L4, g6L4, g7L4, g8L4]
  refine ob_i (vInt_lss _ _ _) ?_
  refine cnd_d (fun hg5 => ?_) (fun hg5 => ?_)
  · skip
    have ti := hg5
    refine C.spec_l06Part (by first | omega | assumption) (by first | omega | assumption) (fun   H6    le7 => ?_)
    replace ha := ha.le le7
    replace lE := lE.trans le7
    refine ob_i (vExt_20 _ _) ?_
    refine ob_i (vExt_21 _ _) ?_
    refine ob_i (ha.ix (by omega) (by omega)) ?_
    refine ob_i (ha.ld 0 (by omega) (by omega)) ?_
    refine fA_add (a := (massO l i)) (b := (cl (at_ 0 (l) ((i : Int))))) hm (FR_cl _) (fun z8 hz8 => ?_)
    refine ob_i (a := (.float .f32 (FloatKind.nearest .f32 (at_ 0 downs (i : Int))))) rfl ?_
    refine ob_i (ha.ix (by omega) (by omega)) ?_
    refine ob_i (ha.ld 0 (by omega) (by omega)) ?_
    refine fA_mul (a := (fI (at_ 0 downs (i : Int)))) (b := (cl (at_ 0 (l) ((i : Int))))) (FR_some _) (FR_cl _) (fun z9 hz9 => ?_)
    refine fA_add (a := (wayO downs l i)) (b := (fMul (fI (at_ 0 downs (i : Int))) (cl (at_ 0 (l) ((i : Int)))))) hx hz9 (fun z10 hz10 => ?_)
    refine ob_i (a := (.float .f32 (FloatKind.nearest .f32 (at_ 0 rights (i : Int))))) rfl ?_
    refine ob_i (ha.ix (by omega) (by omega)) ?_
    refine ob_i (ha.ld 0 (by omega) (by omega)) ?_
    refine fA_mul (a := (fI (at_ 0 rights (i : Int)))) (b := (cl (at_ 0 (l) ((i : Int))))) (FR_some _) (FR_cl _) (fun z11 hz11 => ?_)
    refine fA_add (a := (wayO rights l i)) (b := (fMul (fI (at_ 0 rights (i : Int))) (cl (at_ 0 (l) ((i : Int)))))) hy hz11 (fun z12 hz12 => ?_)
    refine ob_i (vInt_add (by omega) (by omega)) ?_
    exact nxt (9 - (i + 1)) (by omega) ⟨i + 1, rfl, by omega, z8, z10, z12, g0L4, rfl, rfl, rfl, (congrArg (Value.int .i64) (by first | omega | rfl | (simp; done))), lE, hz8, hz10, hz12⟩
  · skip
    have ti := hg5
    obtain rfl : i = 9 := by omega
    exact hJ1 _ _ ⟨_, _, _, g5L4, g6L4, g7L4, lE, hm, hx, hy⟩
theorem C.spec_l06All {p vp vw : Value} {r c : Int} {l : List Nat} {m : List Bool}  {H : Hp} {K : Value → Hp → Prop} (hp0 : Cel H p [(.int .i64 (r)), (.int .i64 (c)), vp, vw]) (hvp0 : Sl eF H vp l) (hvw0 : Sl eB H vw m) (hv : validFlow r c l m)
    (hk : ∀ z1, FR .f32 (sumO l (r * c).toNat) z1 → ∀ H', Le H H' → K (.float .f32 z1) H') : HT prg I.spec_l06All [p].toArray H K := by
  have lE := Le.refl H
  have hp := hp0
  have hvp := hvp0
  have hvw := hvw0
  refine R.spec_l06All ?_
  unfold F.spec_l06All
  have q1 := sides_mul hv.1
  have q2 := hv.2.1
  refine jn_i (fun σ' H' => ∃ x, σ' 3 = (.float .f32 x) ∧ Le H H' ∧ FR .f32 (sumO l (r * c).toNat) x) (fun σ1 H1 hP => ?_) (fun J1 hJ1 => ?_)
  · skip
    obtain ⟨x, g3L1, lE, hx⟩ := hP
    have hp := hp0.le lE
    have hvp := hvp0.le lE
    have hvw := hvw0.le lE
    try simp only [g3L1]
    skip
    exact hk  x hx  _    lE
  refine ⟨fun n' σ' H' => ∃ i : Nat, n' = (r * c).toNat - i ∧ i ≤ (r * c).toNat ∧ ∃ x, σ' 0 = p ∧ σ' 3 = (.float .f32 x) ∧ σ' 4 = (.int .i64 ((i : Int))) ∧ Le H H' ∧ FR .f32 (sumO l i) x,
    ⟨_, 0, rfl, by omega, 0, rfl, rfl, (congrArg (Value.int .i64) (by first | omega | rfl | (simp; done))), lE, (FR_some _)⟩, ?_⟩
  rintro n2 σ2 H2 ⟨i, rfl, hiN, x, g0L2, g3L2, g4L2, lE, hx⟩
  have hp := hp0.le lE
  have hvp := hvp0.le lE
  have hvw := hvw0.le lE
  try simp only [g0L2, g3L2, g4L2]
  refine ob_i (hp.nilC) ?_
  refine ob_i (hp.fa 0) ?_
  refine ob_i (hp.ld 0 rfl) ?_
  refine ob_i (hp.nilC) ?_
  refine ob_i (hp.fa 1) ?_
  refine ob_i (hp.ld 1 rfl) ?_
  refine ob_i (vInt_mul (by omega) (by omega)) ?_
  refine ob_i (vInt_lss _ _ _) ?_
  refine cnd_d (fun hg3 => ?_) (fun hg3 => ?_)
  · skip
    have ti := hg3
    refine R.spec_l06Cell ?_
    unfold F.spec_l06Cell
    refine ob_i (hp.nilC) ?_
    refine ob_i (hp.fa 2) ?_
    refine ob_i (hp.ld 2 rfl) ?_
    refine ob_i (vInt_mul (by omega) (by omega)) ?_
    refine ob_i (vInt_mul (by omega) (by omega)) ?_
    refine ob_i (vInt_add (by omega) (by omega)) ?_
    obtain ⟨x4, eq5a, eq5b, eq5c, eq5d, hx40, hb6⟩ := hvp0.cut (lo := 9 * (i : Int)) (hi := (9 * (i : Int)) + 9) (by omega) (by omega) (by omega)
    refine ob_i (eq5a) ?_
    have hx4 := hx40.le lE
    refine C.spec_l06Mass hx4 (by exact cellL_len (by omega) (by omega)) (fun  z7 z8 z9 hz7 hz8 hz9  H10    le11 => ?_)
    replace hp := hp.le le11
    replace hvp := hvp.le le11
    replace hvw := hvw.le le11
    replace hx4 := hx4.le le11
    replace lE := lE.trans le11
    refine ob_i (vExt_30 _ _ _) ?_
    refine ob_i (vExt_31 _ _ _) ?_
    refine ob_i (vExt_32 _ _ _) ?_
    refine fA_add (a := (sumO l i)) (b := (massO (((l).drop (9 * (i : Int)).toNat).take (((9 * (i : Int)) + 9).toNat - (9 * (i : Int)).toNat)) 9)) hx hz7 (fun z12 hz12 => ?_)
    refine ob_i (vInt_add (by omega) (by omega)) ?_
    exact nxt ((r * c).toNat - (i + 1)) (by omega) ⟨i + 1, rfl, by omega, z12, g0L2, rfl, (congrArg (Value.int .i64) (by first | omega | rfl | (simp; done))), lE, hz12⟩
  · skip
    have ti := hg3
    obtain rfl : i = (r * c).toNat := by omega
    exact hJ1 _ _ ⟨_, g3L2, lE, hx⟩
theorem C.spec_MassOf {vp vw : Value} {r c : Int} {l : List Nat} {m : List Bool}  {H : Hp} {K : Value → Hp → Prop} (hvp0 : Sl eF H vp l) (hvw0 : Sl eB H vw m) (k1 : l.length ≤ 9223372036854775807) (k2 : m.length ≤ 9223372036854775807)
    (hk : ∀ H', Le H H' → K (.tuple #[(.float .f32 (selF (masP r c l m) (vO (sumO l (r * c).toNat)))), (.bool (decide (masP r c l m)))]) H') : HT prg I.spec_MassOf [(.agg #[(.int .i64 (r)), (.int .i64 (c)), vp, vw])].toArray H K := by
  have lE := Le.refl H
  have hvp := hvp0
  have hvw := hvw0
  refine R.spec_MassOf ?_
  unfold F.spec_MassOf
  refine nw_i (fun p1 H2 op1 nn3 le4 => ?_)
  have np1 : Nw H p1 := nn3.le lE
  replace hvp := hvp.le le4
  replace hvw := hvw.le le4
  replace lE := lE.trans le4
  replace op1 : Cel H2 p1 [(.int .i64 (r)), (.int .i64 (c)), vp, vw] := op1
  refine C.spec_l06Flow op1 hvp hvw (by first | omega | assumption) ?_
  refine ob_nd (fun hc5 => ?_) (fun hc5 => ?_)
  · skip
    have hv := hc5
    have q1 := sides_mul hv.1
    have q2 := hv.2.1
    have q3 := hv.2.2.1
    have q4 := hv.1.1
    have q5 := hv.1.2
    refine cnd_f1 ?_
    refine C.spec_l06All op1 hvp hvw (by first | omega | assumption) (fun  z6 hz6  H7    le8 => ?_)
    replace op1 := op1.le le8
    replace hvp := hvp.le le8
    replace hvw := hvw.le le8
    replace lE := lE.trans le8
    refine R.spec_l02Number ?_
    unfold F.spec_l02Number
    refine C.spec_l01Finite ?_
    rw [finO_of (a := (sumO l (r * c).toNat)) hz6]
    refine ob_i (vUn_not _) ?_
    refine cnd_i (fun hg9 => ?_) (fun hg9 => ?_)
    · skip
      refine ob_i (vExt_20 _ _) ?_
      refine ob_i (vExt_21 _ _) ?_
      skip
      have hok : ¬ (masP r c l m) := by first | (intro h; exact absurd h.1 (by assumption)) | (intro h; have := h.2; simp_all)
      exact keq (K := K) (by rw [show (selF (masP r c l m) (vO (sumO l (r * c).toNat))) = 0 from by first | exact selF_f hok | (rw [selF_t hok]; exact (vO_of (by assumption) hok.2).symm)]; rw [decide_eq_false (show ¬ (masP r c l m) from by exact hok)]) (hk   _    lE)
    · skip
      refine ob_i (vExt_20 _ _) ?_
      refine ob_i (vExt_21 _ _) ?_
      skip
      have hok : masP r c l m := by exact ⟨by assumption, by simp_all⟩
      exact keq (K := K) (by rw [show (selF (masP r c l m) (vO (sumO l (r * c).toNat))) = z6 from by first | exact selF_f hok | (rw [selF_t hok]; exact (vO_of (by assumption) hok.2).symm)]; rw [decide_eq_true (show (masP r c l m) from by exact hok)]) (hk   _    lE)
  · skip
    refine cnd_t1 ?_
    skip
    have hok : ¬ (masP r c l m) := by first | (intro h; exact absurd h.1 (by assumption)) | (intro h; have := h.2; simp_all)
    exact keq (K := K) (by rw [show (selF (masP r c l m) (vO (sumO l (r * c).toNat))) = 0 from by first | exact selF_f hok | (rw [selF_t hok]; exact (vO_of (by assumption) hok.2).symm)]; rw [decide_eq_false (show ¬ (masP r c l m) from by exact hok)]) (hk   _    lE)
theorem C.impl_MassOf {vp vw : Value} {r c : Int} {l : List Nat} {m : List Bool}  {H : Hp} {K : Value → Hp → Prop} (hvp0 : Sl eF H vp l) (hvw0 : Sl eB H vw m) (k1 : l.length ≤ 9223372036854775807) (k2 : m.length ≤ 9223372036854775807)
    (hk : ∀ H', Le H H' → K (.tuple #[(.float .f32 (selF (masP r c l m) (vO (sumO l (r * c).toNat)))), (.bool (decide (masP r c l m)))]) H') : HT prg I.impl_MassOf [(.agg #[(.int .i64 (r)), (.int .i64 (c)), vp, vw])].toArray H K := by
  have lE := Le.refl H
  have hvp := hvp0
  have hvw := hvw0
  refine R.impl_MassOf ?_
  unfold F.impl_MassOf
  refine nw_i (fun p1 H2 op1 nn3 le4 => ?_)
  have np1 : Nw H p1 := nn3.le lE
  replace hvp := hvp.le le4
  replace hvw := hvw.le le4
  replace lE := lE.trans le4
  replace op1 : Cel H2 p1 [(.int .i64 (r)), (.int .i64 (c)), vp, vw] := op1
  refine ob_i (op1.ldn rfl) ?_
  refine C.impl_ValidFlow hvp hvw (by first | omega | assumption) (by first | omega | assumption) (fun   H5    le6 => ?_)
  replace op1 := op1.le le6
  replace hvp := hvp.le le6
  replace hvw := hvw.le le6
  replace lE := lE.trans le6
  refine ob_nd (fun hc7 => ?_) (fun hc7 => ?_)
  · skip
    have hv := hc7
    have q1 := sides_mul hv.1
    have q2 := hv.2.1
    have q3 := hv.2.2.1
    have q4 := hv.1.1
    have q5 := hv.1.2
    refine cnd_f1 ?_
    refine jn_i (fun σ' H' => ∃ x, σ' 4 = (.float .f32 x) ∧ Cel H' p1 [(.int .i64 (r)), (.int .i64 (c)), vp, vw] ∧ Le H H' ∧ FR .f32 (sumO l (r * c).toNat) x) (fun σ8 H8 hP => ?_) (fun J8 hJ8 => ?_)
    · skip
      obtain ⟨x, g4L8, op1, lE, hx⟩ := hP
      have hvp := hvp0.le lE
      have hvw := hvw0.le lE
      try simp only [g4L8]
      refine C.impl_IsFinite ?_
      rw [finO_of (a := (sumO l (r * c).toNat)) hx]
      refine ob_i (vUn_not _) ?_
      refine cnd_i (fun hg9 => ?_) (fun hg9 => ?_)
      · skip
        skip
        have hok : ¬ (masP r c l m) := by first | (intro h; exact absurd h.1 (by assumption)) | (intro h; have := h.2; simp_all)
        exact keq (K := K) (by rw [show (selF (masP r c l m) (vO (sumO l (r * c).toNat))) = 0 from by first | exact selF_f hok | (rw [selF_t hok]; exact (vO_of (by assumption) hok.2).symm)]; rw [decide_eq_false (show ¬ (masP r c l m) from by exact hok)]) (hk   _    lE)
      · skip
        skip
        have hok : masP r c l m := by exact ⟨by assumption, by simp_all⟩
        exact keq (K := K) (by rw [show (selF (masP r c l m) (vO (sumO l (r * c).toNat))) = x from by first | exact selF_f hok | (rw [selF_t hok]; exact (vO_of (by assumption) hok.2).symm)]; rw [decide_eq_true (show (masP r c l m) from by exact hok)]) (hk   _    lE)
    refine ob_i (op1.fa 0) ?_
    refine ob_i (op1.ld 0 rfl) ?_
    refine ob_i (op1.fa 1) ?_
    refine ob_i (op1.ld 1 rfl) ?_
    refine ob_i (vInt_mul (by omega) (by omega)) ?_
    refine ⟨fun n' σ' H' => ∃ i : Nat, n' = (r * c).toNat - i ∧ i ≤ (r * c).toNat ∧ ∃ x, σ' 1 = p1 ∧ σ' 4 = (.float .f32 x) ∧ σ' 13 = (.int .i64 (r * c)) ∧ σ' 14 = (.int .i64 ((i : Int))) ∧ Cel H' p1 [(.int .i64 (r)), (.int .i64 (c)), vp, vw] ∧ Le H H' ∧ FR .f32 (sumO l i) x,
      ⟨_, 0, rfl, by omega, 0, rfl, rfl, rfl, (congrArg (Value.int .i64) (by first | omega | rfl | (simp; done))), op1, lE, (FR_some _)⟩, ?_⟩
    rintro n10 σ10 H10 ⟨i, rfl, hiN, x, g1L10, g4L10, g13L10, g14L10, op1, lE, hx⟩
    have hvp := hvp0.le lE
    have hvw := hvw0.le lE
    try simp only [g1L10, g4L10, g13L10, g14L10]
    refine ob_i (vInt_lss _ _ _) ?_
    refine cnd_d (fun hg11 => ?_) (fun hg11 => ?_)
    · skip
      have ti := hg11
      refine ob_i (op1.ldn rfl) ?_
      refine R.impl_Flow_cell ?_
      unfold F.impl_Flow_cell
      refine nw_i (fun p12 H13 op12 nn14 le15 => ?_)
      have ap1Xp12 : Apart p1 p12 := op1.apart nn14
      have np12 : Nw H p12 := nn14.le lE
      replace op1 := op1.le le15
      replace hvp := hvp.le le15
      replace hvw := hvw.le le15
      replace lE := lE.trans le15
      replace op12 : Cel H13 p12 [(.int .i64 (r)), (.int .i64 (c)), vp, vw] := op12
      refine ob_i (op12.fa 2) ?_
      refine ob_i (op12.ld 2 rfl) ?_
      refine ob_i (vInt_mul (by omega) (by omega)) ?_
      refine ob_i (vInt_mul (by omega) (by omega)) ?_
      refine ob_i (vInt_add (by omega) (by omega)) ?_
      obtain ⟨x16, eq17a, eq17b, eq17c, eq17d, hx160, hb18⟩ := hvp0.cut (lo := 9 * (i : Int)) (hi := (9 * (i : Int)) + 9) (by omega) (by omega) (by omega)
      refine ob_i (eq17a) ?_
      have hx16 := hx160.le lE
      refine C.impl_massOf hx16 (by exact cellL_len (by omega) (by omega)) (fun  z19 hz19  H20    le21 => ?_)
      replace op1 := op1.le le21
      replace op12 := op12.le le21
      replace hvp := hvp.le le21
      replace hvw := hvw.le le21
      replace hx16 := hx16.le le21
      replace lE := lE.trans le21
      refine fA_add (a := (sumO l i)) (b := (massO (((l).drop (9 * (i : Int)).toNat).take (((9 * (i : Int)) + 9).toNat - (9 * (i : Int)).toNat)) 9)) hx hz19 (fun z22 hz22 => ?_)
      refine ob_i (vInt_add (by omega) (by omega)) ?_
      exact nxt ((r * c).toNat - (i + 1)) (by omega) ⟨i + 1, rfl, by omega, z22, g1L10, rfl, g13L10, (congrArg (Value.int .i64) (by first | omega | rfl | (simp; done))), op1, lE, hz22⟩
    · skip
      have ti := hg11
      obtain rfl : i = (r * c).toNat := by omega
      exact hJ8 _ _ ⟨_, g4L10, op1, lE, hx⟩
  · skip
    refine cnd_t1 ?_
    skip
    have hok : ¬ (masP r c l m) := by first | (intro h; exact absurd h.1 (by assumption)) | (intro h; have := h.2; simp_all)
    exact keq (K := K) (by rw [show (selF (masP r c l m) (vO (sumO l (r * c).toNat))) = 0 from by first | exact selF_f hok | (rw [selF_t hok]; exact (vO_of (by assumption) hok.2).symm)]; rw [decide_eq_false (show ¬ (masP r c l m) from by exact hok)]) (hk   _    lE)
theorem C.spec_CellOfFlow {vp vw : Value} {r c i k : Int} {l : List Nat} {m : List Bool}  {H : Hp} {K : Value → Hp → Prop} (hvp0 : Sl eF H vp l) (hvw0 : Sl eB H vw m) (k1 : l.length ≤ 9223372036854775807) (k2 : m.length ≤ 9223372036854775807)
    (hk : ∀ H', Le H H' → K (.tuple #[(.float .f32 (selF (celP r c l m i k) (vO (massO (cellL l (i * c + k)) 9)))), (.float .f32 (selF (celP r c l m i k) (vO (speedO downs (cellL l (i * c + k)))))), (.float .f32 (selF (celP r c l m i k) (vO (speedO rights (cellL l (i * c + k)))))), (.bool (decide (celP r c l m i k)))]) H') : HT prg I.spec_CellOfFlow [(.agg #[(.int .i64 (r)), (.int .i64 (c)), vp, vw]), (.int .i64 (i)), (.int .i64 (k))].toArray H K := by
  have lE := Le.refl H
  have hvp := hvp0
  have hvw := hvw0
  refine R.spec_CellOfFlow ?_
  unfold F.spec_CellOfFlow
  refine nw_i (fun p1 H2 op1 nn3 le4 => ?_)
  have np1 : Nw H p1 := nn3.le lE
  replace hvp := hvp.le le4
  replace hvw := hvw.le le4
  replace lE := lE.trans le4
  replace op1 : Cel H2 p1 [(.int .i64 (r)), (.int .i64 (c)), vp, vw] := op1
  refine C.spec_l06Flow op1 hvp hvw (by first | omega | assumption) ?_
  refine ob_nd (fun hc5 => ?_) (fun hc5 => ?_)
  · skip
    have hv := hc5
    have q1 := sides_mul hv.1
    have q2 := hv.2.1
    have q3 := hv.2.2.1
    have q4 := hv.1.1
    have q5 := hv.1.2
    refine gop_rf ?_
    refine gop_rf ?_
    refine ob_i (op1.fa 0) ?_
    refine gop_rf ?_
    refine ob_i (op1.ld 0 rfl) ?_
    refine gop_rf ?_
    refine ob_i (vInt_sub (by omega) (by omega)) ?_
    refine gop_rf ?_
    refine C.spec_l00In  ?_
    refine gop_rf ?_
    refine ob_nd (fun hc6 => ?_) (fun hc6 => ?_)
    · skip
      refine ob_i (vPick_f _ _) ?_
      refine gop_rf ?_
      refine gop_rf ?_
      refine ob_i (op1.fa 1) ?_
      refine gop_rf ?_
      refine ob_i (op1.ld 1 rfl) ?_
      refine gop_rf ?_
      refine ob_i (vInt_sub (by omega) (by omega)) ?_
      refine gop_rf ?_
      refine C.spec_l00In  ?_
      refine gop_rf ?_
      refine ob_nd (fun hc7 => ?_) (fun hc7 => ?_)
      · skip
        have x1 := ix_lt (a := i) (b := k) (r := r) (c := c) (by omega) (by omega) (by omega) (by omega)
        refine ob_i (vPick_f _ _) ?_
        refine cnd_f1 ?_
        refine ob_i (op1.fa 1) ?_
        refine ob_i (op1.ld 1 rfl) ?_
        refine ob_i (vInt_mul (by omega) (by omega)) ?_
        refine ob_i (vInt_add (by omega) (by omega)) ?_
        refine R.spec_l06Cell ?_
        unfold F.spec_l06Cell
        refine ob_i (op1.nilC) ?_
        refine ob_i (op1.fa 2) ?_
        refine ob_i (op1.ld 2 rfl) ?_
        refine ob_i (vInt_mul (by omega) (by omega)) ?_
        refine ob_i (vInt_mul (by omega) (by omega)) ?_
        refine ob_i (vInt_add (by omega) (by omega)) ?_
        obtain ⟨x8, eq9a, eq9b, eq9c, eq9d, hx80, hb10⟩ := hvp0.cut (lo := 9 * ((i * c) + k)) (hi := (9 * ((i * c) + k)) + 9) (by omega) (by omega) (by omega)
        refine ob_i (eq9a) ?_
        have hx8 := hx80.le lE
        refine C.spec_l06Mass hx8 (by exact cellL_len (by omega) (by omega)) (fun  z11 z12 z13 hz11 hz12 hz13  H14    le15 => ?_)
        replace op1 := op1.le le15
        replace hvp := hvp.le le15
        replace hvw := hvw.le le15
        replace hx8 := hx8.le le15
        replace lE := lE.trans le15
        refine ob_i (vExt_30 _ _ _) ?_
        refine ob_i (vExt_31 _ _ _) ?_
        refine ob_i (vExt_32 _ _ _) ?_
        refine R.spec_l02Above ?_
        unfold F.spec_l02Above
        refine C.spec_l01Finite ?_
        rw [finO_of (a := (massO (((l).drop (9 * ((i * c) + k)).toNat).take (((9 * ((i * c) + k)) + 9).toNat - (9 * ((i * c) + k)).toNat)) 9)) hz11]
        by_cases hc16 : (finO (massO (((l).drop (9 * ((i * c) + k)).toNat).take (((9 * ((i * c) + k)) + 9).toNat - (9 * ((i * c) + k)).toNat)) 9)) = true
        · skip
          refine gop_e (hc16) ?_
          refine gop_rt ?_
          refine gop_e (hc16) ?_
          refine gop_rt ?_
          refine ob_i (vFO_gtr (a := (massO (((l).drop (9 * ((i * c) + k)).toNat).take (((9 * ((i * c) + k)) + 9).toNat - (9 * ((i * c) + k)).toNat)) 9)) hz11) ?_
          refine ob_i (vPick_et (hc16) _ _) ?_
          refine ob_i (vUn_not _) ?_
          by_cases hc17 : (!(posO (massO (((l).drop (9 * ((i * c) + k)).toNat).take (((9 * ((i * c) + k)) + 9).toNat - (9 * ((i * c) + k)).toNat)) 9))) = true
          · skip
            refine gop_e (hc17) ?_
            refine gop_st ?_
            refine gop_e (hc17) ?_
            refine gop_st ?_
            refine gop_e (hc17) ?_
            refine gop_st ?_
            refine ob_i (vPick_et (hc17) _ _) ?_
            refine gop_st ?_
            refine gop_st ?_
            refine gop_st ?_
            refine ob_i (vPick_t _ _) ?_
            refine cnd_t1 ?_
            skip
            have hok : ¬ (celP r c l m i k) := by first | (intro h; exact absurd h.1.1 (by assumption)) | (intro h; exact absurd h.1.2.1 (by assumption)) | (intro h; exact absurd h.1.2.2 (by assumption)) | (intro h; have := h.2; simp_all [cellL])
            exact keq (K := K) (by rw [show (selF (celP r c l m i k) (vO (massO (cellL l (i * c + k)) 9))) = 0 from by first | exact selF_f hok | (rw [selF_t hok]; first | exact (vO_of (by assumption) hok.2.2.1).symm | exact (vO_of (by assumption) hok.2.2.2.1).symm | exact (vO_of (by assumption) hok.2.2.2.2).symm)]; rw [show (selF (celP r c l m i k) (vO (speedO downs (cellL l (i * c + k))))) = 0 from by first | exact selF_f hok | (rw [selF_t hok]; first | exact (vO_of (by assumption) hok.2.2.1).symm | exact (vO_of (by assumption) hok.2.2.2.1).symm | exact (vO_of (by assumption) hok.2.2.2.2).symm)]; rw [show (selF (celP r c l m i k) (vO (speedO rights (cellL l (i * c + k))))) = 0 from by first | exact selF_f hok | (rw [selF_t hok]; first | exact (vO_of (by assumption) hok.2.2.1).symm | exact (vO_of (by assumption) hok.2.2.2.1).symm | exact (vO_of (by assumption) hok.2.2.2.2).symm)]; rw [decide_eq_false (show ¬ (celP r c l m i k) from by exact hok)]) (hk   _    lE)
          · skip
            refine gop_e (eq_false_of_ne_true hc17) ?_
            refine gop_rf ?_
            refine gop_e (eq_false_of_ne_true hc17) ?_
            refine gop_rf ?_
            refine C.spec_l01Finite ?_
            rw [finO_of (a := (speedO downs (((l).drop (9 * ((i * c) + k)).toNat).take (((9 * ((i * c) + k)) + 9).toNat - (9 * ((i * c) + k)).toNat)))) hz12]
            refine gop_e (eq_false_of_ne_true hc17) ?_
            refine gop_rf ?_
            refine ob_i (vUn_not _) ?_
            refine ob_i (vPick_ef (eq_false_of_ne_true hc17) _ _) ?_
            by_cases hc18 : (!(finO (speedO downs (((l).drop (9 * ((i * c) + k)).toNat).take (((9 * ((i * c) + k)) + 9).toNat - (9 * ((i * c) + k)).toNat))))) = true
            · skip
              refine gop_e (hc18) ?_
              refine gop_st ?_
              refine gop_e (hc18) ?_
              refine gop_st ?_
              refine gop_e (hc18) ?_
              refine gop_st ?_
              refine ob_i (vPick_et (hc18) _ _) ?_
              refine cnd_t1 ?_
              skip
              have hok : ¬ (celP r c l m i k) := by first | (intro h; exact absurd h.1.1 (by assumption)) | (intro h; exact absurd h.1.2.1 (by assumption)) | (intro h; exact absurd h.1.2.2 (by assumption)) | (intro h; have := h.2; simp_all [cellL])
              exact keq (K := K) (by rw [show (selF (celP r c l m i k) (vO (massO (cellL l (i * c + k)) 9))) = 0 from by first | exact selF_f hok | (rw [selF_t hok]; first | exact (vO_of (by assumption) hok.2.2.1).symm | exact (vO_of (by assumption) hok.2.2.2.1).symm | exact (vO_of (by assumption) hok.2.2.2.2).symm)]; rw [show (selF (celP r c l m i k) (vO (speedO downs (cellL l (i * c + k))))) = 0 from by first | exact selF_f hok | (rw [selF_t hok]; first | exact (vO_of (by assumption) hok.2.2.1).symm | exact (vO_of (by assumption) hok.2.2.2.1).symm | exact (vO_of (by assumption) hok.2.2.2.2).symm)]; rw [show (selF (celP r c l m i k) (vO (speedO rights (cellL l (i * c + k))))) = 0 from by first | exact selF_f hok | (rw [selF_t hok]; first | exact (vO_of (by assumption) hok.2.2.1).symm | exact (vO_of (by assumption) hok.2.2.2.1).symm | exact (vO_of (by assumption) hok.2.2.2.2).symm)]; rw [decide_eq_false (show ¬ (celP r c l m i k) from by exact hok)]) (hk   _    lE)
            · skip
              refine gop_e (eq_false_of_ne_true hc18) ?_
              refine gop_rf ?_
              refine gop_e (eq_false_of_ne_true hc18) ?_
              refine gop_rf ?_
              refine C.spec_l01Finite ?_
              rw [finO_of (a := (speedO rights (((l).drop (9 * ((i * c) + k)).toNat).take (((9 * ((i * c) + k)) + 9).toNat - (9 * ((i * c) + k)).toNat)))) hz13]
              refine gop_e (eq_false_of_ne_true hc18) ?_
              refine gop_rf ?_
              refine ob_i (vUn_not _) ?_
              refine ob_i (vPick_ef (eq_false_of_ne_true hc18) _ _) ?_
              refine cnd_i (fun hg19 => ?_) (fun hg19 => ?_)
              · skip
                skip
                have hok : ¬ (celP r c l m i k) := by first | (intro h; exact absurd h.1.1 (by assumption)) | (intro h; exact absurd h.1.2.1 (by assumption)) | (intro h; exact absurd h.1.2.2 (by assumption)) | (intro h; have := h.2; simp_all [cellL])
                exact keq (K := K) (by rw [show (selF (celP r c l m i k) (vO (massO (cellL l (i * c + k)) 9))) = 0 from by first | exact selF_f hok | (rw [selF_t hok]; first | exact (vO_of (by assumption) hok.2.2.1).symm | exact (vO_of (by assumption) hok.2.2.2.1).symm | exact (vO_of (by assumption) hok.2.2.2.2).symm)]; rw [show (selF (celP r c l m i k) (vO (speedO downs (cellL l (i * c + k))))) = 0 from by first | exact selF_f hok | (rw [selF_t hok]; first | exact (vO_of (by assumption) hok.2.2.1).symm | exact (vO_of (by assumption) hok.2.2.2.1).symm | exact (vO_of (by assumption) hok.2.2.2.2).symm)]; rw [show (selF (celP r c l m i k) (vO (speedO rights (cellL l (i * c + k))))) = 0 from by first | exact selF_f hok | (rw [selF_t hok]; first | exact (vO_of (by assumption) hok.2.2.1).symm | exact (vO_of (by assumption) hok.2.2.2.1).symm | exact (vO_of (by assumption) hok.2.2.2.2).symm)]; rw [decide_eq_false (show ¬ (celP r c l m i k) from by exact hok)]) (hk   _    lE)
              · skip
                skip
                have hok : celP r c l m i k := by refine ⟨⟨by assumption, by assumption, by assumption⟩, ?_⟩; simp_all [cellL]
                exact keq (K := K) (by rw [show (selF (celP r c l m i k) (vO (massO (cellL l (i * c + k)) 9))) = z11 from by first | exact selF_f hok | (rw [selF_t hok]; first | exact (vO_of (by assumption) hok.2.2.1).symm | exact (vO_of (by assumption) hok.2.2.2.1).symm | exact (vO_of (by assumption) hok.2.2.2.2).symm)]; rw [show (selF (celP r c l m i k) (vO (speedO downs (cellL l (i * c + k))))) = z12 from by first | exact selF_f hok | (rw [selF_t hok]; first | exact (vO_of (by assumption) hok.2.2.1).symm | exact (vO_of (by assumption) hok.2.2.2.1).symm | exact (vO_of (by assumption) hok.2.2.2.2).symm)]; rw [show (selF (celP r c l m i k) (vO (speedO rights (cellL l (i * c + k))))) = z13 from by first | exact selF_f hok | (rw [selF_t hok]; first | exact (vO_of (by assumption) hok.2.2.1).symm | exact (vO_of (by assumption) hok.2.2.2.1).symm | exact (vO_of (by assumption) hok.2.2.2.2).symm)]; rw [decide_eq_true (show (celP r c l m i k) from by exact hok)]) (hk   _    lE)
        · skip
          refine gop_e (eq_false_of_ne_true hc16) ?_
          refine gop_sf ?_
          refine gop_e (eq_false_of_ne_true hc16) ?_
          refine gop_sf ?_
          refine ob_i (vPick_ef (eq_false_of_ne_true hc16) _ _) ?_
          refine ob_i (a := .bool true) rfl ?_
          refine gop_st ?_
          refine gop_st ?_
          refine gop_st ?_
          refine ob_i (vPick_t _ _) ?_
          refine gop_st ?_
          refine gop_st ?_
          refine gop_st ?_
          refine ob_i (vPick_t _ _) ?_
          refine cnd_t1 ?_
          skip
          have hok : ¬ (celP r c l m i k) := by first | (intro h; exact absurd h.1.1 (by assumption)) | (intro h; exact absurd h.1.2.1 (by assumption)) | (intro h; exact absurd h.1.2.2 (by assumption)) | (intro h; have := h.2; simp_all [cellL])
          exact keq (K := K) (by rw [show (selF (celP r c l m i k) (vO (massO (cellL l (i * c + k)) 9))) = 0 from by first | exact selF_f hok | (rw [selF_t hok]; first | exact (vO_of (by assumption) hok.2.2.1).symm | exact (vO_of (by assumption) hok.2.2.2.1).symm | exact (vO_of (by assumption) hok.2.2.2.2).symm)]; rw [show (selF (celP r c l m i k) (vO (speedO downs (cellL l (i * c + k))))) = 0 from by first | exact selF_f hok | (rw [selF_t hok]; first | exact (vO_of (by assumption) hok.2.2.1).symm | exact (vO_of (by assumption) hok.2.2.2.1).symm | exact (vO_of (by assumption) hok.2.2.2.2).symm)]; rw [show (selF (celP r c l m i k) (vO (speedO rights (cellL l (i * c + k))))) = 0 from by first | exact selF_f hok | (rw [selF_t hok]; first | exact (vO_of (by assumption) hok.2.2.1).symm | exact (vO_of (by assumption) hok.2.2.2.1).symm | exact (vO_of (by assumption) hok.2.2.2.2).symm)]; rw [decide_eq_false (show ¬ (celP r c l m i k) from by exact hok)]) (hk   _    lE)
      · skip
        refine ob_i (vPick_f _ _) ?_
        refine cnd_t1 ?_
        skip
        have hok : ¬ (celP r c l m i k) := by first | (intro h; exact absurd h.1.1 (by assumption)) | (intro h; exact absurd h.1.2.1 (by assumption)) | (intro h; exact absurd h.1.2.2 (by assumption)) | (intro h; have := h.2; simp_all [cellL])
        exact keq (K := K) (by rw [show (selF (celP r c l m i k) (vO (massO (cellL l (i * c + k)) 9))) = 0 from by first | exact selF_f hok | (rw [selF_t hok]; first | exact (vO_of (by assumption) hok.2.2.1).symm | exact (vO_of (by assumption) hok.2.2.2.1).symm | exact (vO_of (by assumption) hok.2.2.2.2).symm)]; rw [show (selF (celP r c l m i k) (vO (speedO downs (cellL l (i * c + k))))) = 0 from by first | exact selF_f hok | (rw [selF_t hok]; first | exact (vO_of (by assumption) hok.2.2.1).symm | exact (vO_of (by assumption) hok.2.2.2.1).symm | exact (vO_of (by assumption) hok.2.2.2.2).symm)]; rw [show (selF (celP r c l m i k) (vO (speedO rights (cellL l (i * c + k))))) = 0 from by first | exact selF_f hok | (rw [selF_t hok]; first | exact (vO_of (by assumption) hok.2.2.1).symm | exact (vO_of (by assumption) hok.2.2.2.1).symm | exact (vO_of (by assumption) hok.2.2.2.2).symm)]; rw [decide_eq_false (show ¬ (celP r c l m i k) from by exact hok)]) (hk   _    lE)
    · skip
      refine ob_i (vPick_f _ _) ?_
      refine gop_st ?_
      refine gop_st ?_
      refine gop_st ?_
      refine gop_st ?_
      refine gop_st ?_
      refine gop_st ?_
      refine ob_i (vPick_t _ _) ?_
      refine cnd_t1 ?_
      skip
      have hok : ¬ (celP r c l m i k) := by first | (intro h; exact absurd h.1.1 (by assumption)) | (intro h; exact absurd h.1.2.1 (by assumption)) | (intro h; exact absurd h.1.2.2 (by assumption)) | (intro h; have := h.2; simp_all [cellL])
      exact keq (K := K) (by rw [show (selF (celP r c l m i k) (vO (massO (cellL l (i * c + k)) 9))) = 0 from by first | exact selF_f hok | (rw [selF_t hok]; first | exact (vO_of (by assumption) hok.2.2.1).symm | exact (vO_of (by assumption) hok.2.2.2.1).symm | exact (vO_of (by assumption) hok.2.2.2.2).symm)]; rw [show (selF (celP r c l m i k) (vO (speedO downs (cellL l (i * c + k))))) = 0 from by first | exact selF_f hok | (rw [selF_t hok]; first | exact (vO_of (by assumption) hok.2.2.1).symm | exact (vO_of (by assumption) hok.2.2.2.1).symm | exact (vO_of (by assumption) hok.2.2.2.2).symm)]; rw [show (selF (celP r c l m i k) (vO (speedO rights (cellL l (i * c + k))))) = 0 from by first | exact selF_f hok | (rw [selF_t hok]; first | exact (vO_of (by assumption) hok.2.2.1).symm | exact (vO_of (by assumption) hok.2.2.2.1).symm | exact (vO_of (by assumption) hok.2.2.2.2).symm)]; rw [decide_eq_false (show ¬ (celP r c l m i k) from by exact hok)]) (hk   _    lE)
  · skip
    refine gop_st ?_
    refine gop_st ?_
    refine gop_st ?_
    refine gop_st ?_
    refine gop_st ?_
    refine gop_st ?_
    refine ob_i (vPick_t _ _) ?_
    refine gop_st ?_
    refine gop_st ?_
    refine gop_st ?_
    refine gop_st ?_
    refine gop_st ?_
    refine gop_st ?_
    refine ob_i (vPick_t _ _) ?_
    refine cnd_t1 ?_
    skip
    have hok : ¬ (celP r c l m i k) := by first | (intro h; exact absurd h.1.1 (by assumption)) | (intro h; exact absurd h.1.2.1 (by assumption)) | (intro h; exact absurd h.1.2.2 (by assumption)) | (intro h; have := h.2; simp_all [cellL])
    exact keq (K := K) (by rw [show (selF (celP r c l m i k) (vO (massO (cellL l (i * c + k)) 9))) = 0 from by first | exact selF_f hok | (rw [selF_t hok]; first | exact (vO_of (by assumption) hok.2.2.1).symm | exact (vO_of (by assumption) hok.2.2.2.1).symm | exact (vO_of (by assumption) hok.2.2.2.2).symm)]; rw [show (selF (celP r c l m i k) (vO (speedO downs (cellL l (i * c + k))))) = 0 from by first | exact selF_f hok | (rw [selF_t hok]; first | exact (vO_of (by assumption) hok.2.2.1).symm | exact (vO_of (by assumption) hok.2.2.2.1).symm | exact (vO_of (by assumption) hok.2.2.2.2).symm)]; rw [show (selF (celP r c l m i k) (vO (speedO rights (cellL l (i * c + k))))) = 0 from by first | exact selF_f hok | (rw [selF_t hok]; first | exact (vO_of (by assumption) hok.2.2.1).symm | exact (vO_of (by assumption) hok.2.2.2.1).symm | exact (vO_of (by assumption) hok.2.2.2.2).symm)]; rw [decide_eq_false (show ¬ (celP r c l m i k) from by exact hok)]) (hk   _    lE)
theorem C.impl_CellOfFlow {vp vw : Value} {r c i k : Int} {l : List Nat} {m : List Bool}  {H : Hp} {K : Value → Hp → Prop} (hvp0 : Sl eF H vp l) (hvw0 : Sl eB H vw m) (k1 : l.length ≤ 9223372036854775807) (k2 : m.length ≤ 9223372036854775807)
    (hk : ∀ H', Le H H' → K (.tuple #[(.float .f32 (selF (celP r c l m i k) (vO (massO (cellL l (i * c + k)) 9)))), (.float .f32 (selF (celP r c l m i k) (vO (speedO downs (cellL l (i * c + k)))))), (.float .f32 (selF (celP r c l m i k) (vO (speedO rights (cellL l (i * c + k)))))), (.bool (decide (celP r c l m i k)))]) H') : HT prg I.impl_CellOfFlow [(.agg #[(.int .i64 (r)), (.int .i64 (c)), vp, vw]), (.int .i64 (i)), (.int .i64 (k))].toArray H K := by
  have lE := Le.refl H
  have hvp := hvp0
  have hvw := hvw0
  refine R.impl_CellOfFlow ?_
  unfold F.impl_CellOfFlow
  refine nw_i (fun p1 H2 op1 nn3 le4 => ?_)
  have np1 : Nw H p1 := nn3.le lE
  replace hvp := hvp.le le4
  replace hvw := hvw.le le4
  replace lE := lE.trans le4
  replace op1 : Cel H2 p1 [(.int .i64 (r)), (.int .i64 (c)), vp, vw] := op1
  refine ob_i (op1.ldn rfl) ?_
  refine C.impl_ValidFlow hvp hvw (by first | omega | assumption) (by first | omega | assumption) (fun   H5    le6 => ?_)
  replace op1 := op1.le le6
  replace hvp := hvp.le le6
  replace hvw := hvw.le le6
  replace lE := lE.trans le6
  refine ob_nd (fun hc7 => ?_) (fun hc7 => ?_)
  · skip
    have hv := hc7
    have q1 := sides_mul hv.1
    have q2 := hv.2.1
    have q3 := hv.2.2.1
    have q4 := hv.1.1
    have q5 := hv.1.2
    refine gop_rf ?_
    refine gop_rf ?_
    refine ob_i (op1.fa 0) ?_
    refine gop_rf ?_
    refine ob_i (op1.ld 0 rfl) ?_
    refine gop_rf ?_
    refine ob_i (vInt_sub (by omega) (by omega)) ?_
    refine gop_rf ?_
    refine C.impl_within  ?_
    refine gop_rf ?_
    refine ob_nd (fun hc8 => ?_) (fun hc8 => ?_)
    · skip
      refine ob_i (vPick_f _ _) ?_
      refine gop_rf ?_
      refine gop_rf ?_
      refine ob_i (op1.fa 1) ?_
      refine gop_rf ?_
      refine ob_i (op1.ld 1 rfl) ?_
      refine gop_rf ?_
      refine ob_i (vInt_sub (by omega) (by omega)) ?_
      refine gop_rf ?_
      refine C.impl_within  ?_
      refine gop_rf ?_
      refine ob_nd (fun hc9 => ?_) (fun hc9 => ?_)
      · skip
        have x1 := ix_lt (a := i) (b := k) (r := r) (c := c) (by omega) (by omega) (by omega) (by omega)
        refine ob_i (vPick_f _ _) ?_
        refine cnd_f1 ?_
        refine ob_i (op1.ldn rfl) ?_
        refine ob_i (op1.fa 1) ?_
        refine ob_i (op1.ld 1 rfl) ?_
        refine ob_i (vInt_mul (by omega) (by omega)) ?_
        refine ob_i (vInt_add (by omega) (by omega)) ?_
        refine R.impl_Flow_cell ?_
        unfold F.impl_Flow_cell
        refine nw_i (fun p10 H11 op10 nn12 le13 => ?_)
        have ap1Xp10 : Apart p1 p10 := op1.apart nn12
        have np10 : Nw H p10 := nn12.le lE
        replace op1 := op1.le le13
        replace hvp := hvp.le le13
        replace hvw := hvw.le le13
        replace lE := lE.trans le13
        replace op10 : Cel H11 p10 [(.int .i64 (r)), (.int .i64 (c)), vp, vw] := op10
        refine ob_i (op10.fa 2) ?_
        refine ob_i (op10.ld 2 rfl) ?_
        refine ob_i (vInt_mul (by omega) (by omega)) ?_
        refine ob_i (vInt_mul (by omega) (by omega)) ?_
        refine ob_i (vInt_add (by omega) (by omega)) ?_
        obtain ⟨x14, eq15a, eq15b, eq15c, eq15d, hx140, hb16⟩ := hvp0.cut (lo := 9 * ((i * c) + k)) (hi := (9 * ((i * c) + k)) + 9) (by omega) (by omega) (by omega)
        refine ob_i (eq15a) ?_
        have hx14 := hx140.le lE
        refine C.impl_massOf hx14 (by exact cellL_len (by omega) (by omega)) (fun  z17 hz17  H18    le19 => ?_)
        replace op1 := op1.le le19
        replace op10 := op10.le le19
        replace hvp := hvp.le le19
        replace hvw := hvw.le le19
        replace hx14 := hx14.le le19
        replace lE := lE.trans le19
        refine C.impl_speeds hx14 (by exact cellL_len (by omega) (by omega)) (fun  z20 z21 hz20 hz21  H22    le23 => ?_)
        replace op1 := op1.le le23
        replace op10 := op10.le le23
        replace hvp := hvp.le le23
        replace hvw := hvw.le le23
        replace hx14 := hx14.le le23
        replace lE := lE.trans le23
        refine ob_i (vExt_20 _ _) ?_
        refine ob_i (vExt_21 _ _) ?_
        refine ob_i (vFO_gtr (a := (massO (((l).drop (9 * ((i * c) + k)).toNat).take (((9 * ((i * c) + k)) + 9).toNat - (9 * ((i * c) + k)).toNat)) 9)) hz17) ?_
        refine ob_i (vUn_not _) ?_
        by_cases hc24 : (!(posO (massO (((l).drop (9 * ((i * c) + k)).toNat).take (((9 * ((i * c) + k)) + 9).toNat - (9 * ((i * c) + k)).toNat)) 9))) = true
        · skip
          refine gop_e (hc24) ?_
          refine gop_st ?_
          refine gop_e (hc24) ?_
          refine gop_st ?_
          refine gop_e (hc24) ?_
          refine gop_st ?_
          refine gop_e (hc24) ?_
          refine gop_st ?_
          refine gop_e (hc24) ?_
          refine gop_st ?_
          refine gop_e (hc24) ?_
          refine gop_st ?_
          refine ob_i (vPick_et (hc24) _ _) ?_
          refine cnd_t1 ?_
          skip
          have hok : ¬ (celP r c l m i k) := by first | (intro h; exact absurd h.1.1 (by assumption)) | (intro h; exact absurd h.1.2.1 (by assumption)) | (intro h; exact absurd h.1.2.2 (by assumption)) | (intro h; exact absurd ((all3 hz17 hz20 hz21).mpr h.2.2) (by assumption)) | (intro h; have h4 : posO (massO (cellL l (i * c + k)) 9) = true := h.2.1; simp_all [cellL])
          exact keq (K := K) (by rw [show (selF (celP r c l m i k) (vO (massO (cellL l (i * c + k)) 9))) = 0 from by first | exact selF_f hok | (rw [selF_t hok]; first | exact (vO_of (by assumption) hok.2.2.1).symm | exact (vO_of (by assumption) hok.2.2.2.1).symm | exact (vO_of (by assumption) hok.2.2.2.2).symm)]; rw [show (selF (celP r c l m i k) (vO (speedO downs (cellL l (i * c + k))))) = 0 from by first | exact selF_f hok | (rw [selF_t hok]; first | exact (vO_of (by assumption) hok.2.2.1).symm | exact (vO_of (by assumption) hok.2.2.2.1).symm | exact (vO_of (by assumption) hok.2.2.2.2).symm)]; rw [show (selF (celP r c l m i k) (vO (speedO rights (cellL l (i * c + k))))) = 0 from by first | exact selF_f hok | (rw [selF_t hok]; first | exact (vO_of (by assumption) hok.2.2.1).symm | exact (vO_of (by assumption) hok.2.2.2.1).symm | exact (vO_of (by assumption) hok.2.2.2.2).symm)]; rw [decide_eq_false (show ¬ (celP r c l m i k) from by exact hok)]) (hk   _    lE)
        · skip
          refine gop_e (eq_false_of_ne_true hc24) ?_
          refine gop_rf ?_
          refine gop_e (eq_false_of_ne_true hc24) ?_
          refine gop_rf ?_
          refine gop_e (eq_false_of_ne_true hc24) ?_
          refine gop_rf ?_
          refine gop_e (eq_false_of_ne_true hc24) ?_
          refine gop_rf ?_
          refine bS_i (enc := eF) (l := [z17, z20, z21]) (by omega) rfl (by kernel_rfl) (fun u25 H26 ou25 nn27 le29 => ?_)
          have ap1Xu25 : Apart p1 u25 := op1.apart nn27
          have ap10Xu25 : Apart p10 u25 := op10.apart nn27
          have nu25 : Nw H u25 := nn27.le lE
          replace op1 := op1.le le29
          replace op10 := op10.le le29
          replace hvp := hvp.le le29
          replace hvw := hvw.le le29
          replace hx14 := hx14.le le29
          replace lE := lE.trans le29
          refine gop_e (eq_false_of_ne_true hc24) ?_
          refine gop_rf ?_
          refine C.impl_areFinite ou25.sl (by first | omega | assumption | simp) ?_
          refine gop_e (eq_false_of_ne_true hc24) ?_
          refine gop_rf ?_
          refine ob_nd (fun hc30 => ?_) (fun hc30 => ?_)
          · skip
            refine ob_i (vPick_ef (eq_false_of_ne_true hc24) _ _) ?_
            refine cnd_f1 ?_
            skip
            have hok : celP r c l m i k := by have h3 := (all3 hz17 hz20 hz21).mp (by assumption); exact ⟨⟨by assumption, by assumption, by assumption⟩, by simp_all [cellL], h3⟩
            exact keq (K := K) (by rw [show (selF (celP r c l m i k) (vO (massO (cellL l (i * c + k)) 9))) = z17 from by first | exact selF_f hok | (rw [selF_t hok]; first | exact (vO_of (by assumption) hok.2.2.1).symm | exact (vO_of (by assumption) hok.2.2.2.1).symm | exact (vO_of (by assumption) hok.2.2.2.2).symm)]; rw [show (selF (celP r c l m i k) (vO (speedO downs (cellL l (i * c + k))))) = z20 from by first | exact selF_f hok | (rw [selF_t hok]; first | exact (vO_of (by assumption) hok.2.2.1).symm | exact (vO_of (by assumption) hok.2.2.2.1).symm | exact (vO_of (by assumption) hok.2.2.2.2).symm)]; rw [show (selF (celP r c l m i k) (vO (speedO rights (cellL l (i * c + k))))) = z21 from by first | exact selF_f hok | (rw [selF_t hok]; first | exact (vO_of (by assumption) hok.2.2.1).symm | exact (vO_of (by assumption) hok.2.2.2.1).symm | exact (vO_of (by assumption) hok.2.2.2.2).symm)]; rw [decide_eq_true (show (celP r c l m i k) from by exact hok)]) (hk   _    lE)
          · skip
            refine ob_i (vPick_ef (eq_false_of_ne_true hc24) _ _) ?_
            refine cnd_t1 ?_
            skip
            have hok : ¬ (celP r c l m i k) := by first | (intro h; exact absurd h.1.1 (by assumption)) | (intro h; exact absurd h.1.2.1 (by assumption)) | (intro h; exact absurd h.1.2.2 (by assumption)) | (intro h; exact absurd ((all3 hz17 hz20 hz21).mpr h.2.2) (by assumption)) | (intro h; have h4 : posO (massO (cellL l (i * c + k)) 9) = true := h.2.1; simp_all [cellL])
            exact keq (K := K) (by rw [show (selF (celP r c l m i k) (vO (massO (cellL l (i * c + k)) 9))) = 0 from by first | exact selF_f hok | (rw [selF_t hok]; first | exact (vO_of (by assumption) hok.2.2.1).symm | exact (vO_of (by assumption) hok.2.2.2.1).symm | exact (vO_of (by assumption) hok.2.2.2.2).symm)]; rw [show (selF (celP r c l m i k) (vO (speedO downs (cellL l (i * c + k))))) = 0 from by first | exact selF_f hok | (rw [selF_t hok]; first | exact (vO_of (by assumption) hok.2.2.1).symm | exact (vO_of (by assumption) hok.2.2.2.1).symm | exact (vO_of (by assumption) hok.2.2.2.2).symm)]; rw [show (selF (celP r c l m i k) (vO (speedO rights (cellL l (i * c + k))))) = 0 from by first | exact selF_f hok | (rw [selF_t hok]; first | exact (vO_of (by assumption) hok.2.2.1).symm | exact (vO_of (by assumption) hok.2.2.2.1).symm | exact (vO_of (by assumption) hok.2.2.2.2).symm)]; rw [decide_eq_false (show ¬ (celP r c l m i k) from by exact hok)]) (hk   _    lE)
      · skip
        refine ob_i (vPick_f _ _) ?_
        refine cnd_t1 ?_
        skip
        have hok : ¬ (celP r c l m i k) := by first | (intro h; exact absurd h.1.1 (by assumption)) | (intro h; exact absurd h.1.2.1 (by assumption)) | (intro h; exact absurd h.1.2.2 (by assumption))
        exact keq (K := K) (by rw [show (selF (celP r c l m i k) (vO (massO (cellL l (i * c + k)) 9))) = 0 from by first | exact selF_f hok | (rw [selF_t hok]; first | exact (vO_of (by assumption) hok.2.2.1).symm | exact (vO_of (by assumption) hok.2.2.2.1).symm | exact (vO_of (by assumption) hok.2.2.2.2).symm)]; rw [show (selF (celP r c l m i k) (vO (speedO downs (cellL l (i * c + k))))) = 0 from by first | exact selF_f hok | (rw [selF_t hok]; first | exact (vO_of (by assumption) hok.2.2.1).symm | exact (vO_of (by assumption) hok.2.2.2.1).symm | exact (vO_of (by assumption) hok.2.2.2.2).symm)]; rw [show (selF (celP r c l m i k) (vO (speedO rights (cellL l (i * c + k))))) = 0 from by first | exact selF_f hok | (rw [selF_t hok]; first | exact (vO_of (by assumption) hok.2.2.1).symm | exact (vO_of (by assumption) hok.2.2.2.1).symm | exact (vO_of (by assumption) hok.2.2.2.2).symm)]; rw [decide_eq_false (show ¬ (celP r c l m i k) from by exact hok)]) (hk   _    lE)
    · skip
      refine ob_i (vPick_f _ _) ?_
      refine gop_st ?_
      refine gop_st ?_
      refine gop_st ?_
      refine gop_st ?_
      refine gop_st ?_
      refine gop_st ?_
      refine ob_i (vPick_t _ _) ?_
      refine cnd_t1 ?_
      skip
      have hok : ¬ (celP r c l m i k) := by first | (intro h; exact absurd h.1.1 (by assumption)) | (intro h; exact absurd h.1.2.1 (by assumption)) | (intro h; exact absurd h.1.2.2 (by assumption))
      exact keq (K := K) (by rw [show (selF (celP r c l m i k) (vO (massO (cellL l (i * c + k)) 9))) = 0 from by first | exact selF_f hok | (rw [selF_t hok]; first | exact (vO_of (by assumption) hok.2.2.1).symm | exact (vO_of (by assumption) hok.2.2.2.1).symm | exact (vO_of (by assumption) hok.2.2.2.2).symm)]; rw [show (selF (celP r c l m i k) (vO (speedO downs (cellL l (i * c + k))))) = 0 from by first | exact selF_f hok | (rw [selF_t hok]; first | exact (vO_of (by assumption) hok.2.2.1).symm | exact (vO_of (by assumption) hok.2.2.2.1).symm | exact (vO_of (by assumption) hok.2.2.2.2).symm)]; rw [show (selF (celP r c l m i k) (vO (speedO rights (cellL l (i * c + k))))) = 0 from by first | exact selF_f hok | (rw [selF_t hok]; first | exact (vO_of (by assumption) hok.2.2.1).symm | exact (vO_of (by assumption) hok.2.2.2.1).symm | exact (vO_of (by assumption) hok.2.2.2.2).symm)]; rw [decide_eq_false (show ¬ (celP r c l m i k) from by exact hok)]) (hk   _    lE)
  · skip
    refine gop_st ?_
    refine gop_st ?_
    refine gop_st ?_
    refine gop_st ?_
    refine gop_st ?_
    refine gop_st ?_
    refine ob_i (vPick_t _ _) ?_
    refine gop_st ?_
    refine gop_st ?_
    refine gop_st ?_
    refine gop_st ?_
    refine gop_st ?_
    refine gop_st ?_
    refine ob_i (vPick_t _ _) ?_
    refine cnd_t1 ?_
    skip
    have hok : ¬ (celP r c l m i k) := by first | (intro h; exact absurd h.1.1 (by assumption)) | (intro h; exact absurd h.1.2.1 (by assumption)) | (intro h; exact absurd h.1.2.2 (by assumption))
    exact keq (K := K) (by rw [show (selF (celP r c l m i k) (vO (massO (cellL l (i * c + k)) 9))) = 0 from by first | exact selF_f hok | (rw [selF_t hok]; first | exact (vO_of (by assumption) hok.2.2.1).symm | exact (vO_of (by assumption) hok.2.2.2.1).symm | exact (vO_of (by assumption) hok.2.2.2.2).symm)]; rw [show (selF (celP r c l m i k) (vO (speedO downs (cellL l (i * c + k))))) = 0 from by first | exact selF_f hok | (rw [selF_t hok]; first | exact (vO_of (by assumption) hok.2.2.1).symm | exact (vO_of (by assumption) hok.2.2.2.1).symm | exact (vO_of (by assumption) hok.2.2.2.2).symm)]; rw [show (selF (celP r c l m i k) (vO (speedO rights (cellL l (i * c + k))))) = 0 from by first | exact selF_f hok | (rw [selF_t hok]; first | exact (vO_of (by assumption) hok.2.2.1).symm | exact (vO_of (by assumption) hok.2.2.2.1).symm | exact (vO_of (by assumption) hok.2.2.2.2).symm)]; rw [decide_eq_false (show ¬ (celP r c l m i k) from by exact hok)]) (hk   _    lE)
end Go.Proofs.Ytcjamajenfgddaa
