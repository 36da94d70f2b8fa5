/- Rules that add, and how far they go. -/
import Derived.Test.YtelcmohhjkgjoaaRG
namespace Go.Proofs.Ytelcmohhjkgjoaa
open HL
set_option maxRecDepth 100000
theorem C.impl_ringed_1 {va vw p q : Value} {st rc : Int} {l : List Int} {vt : Value} {H : Hp} {K : Value → Hp → Prop} (hp : Cel H p [.int .i64 st, .int .i64 rc, vt]) (hq : Cel H q [vw]) (hw : Sl id H vw [va]) (hva : Sl eI H va l) (k1 : l.length ≤ 9223372036854775807)
    (hk : ∀ H', Le H H' → K (.bool (!decide ((st = 2 ∨ st = 3) ∧ ringP st l))) H') : HT prg I.impl_ringed_1 [va, p, q].toArray H K := by
  refine R.impl_ringed_1 ?_
  unfold F.impl_ringed_1
  refine ob_i (hp.fa 0) (ob_i (hp.ld 0 rfl) ?_)
  refine C.impl_IsRing hva k1 (fun H1 le => ?_)
  by_cases h : (st = 2 ∨ st = 3) ∧ ringP st l
  · rw [decide_eq_true h, vUn_not, ob_some]
    refine gop_rf (gop_rf (ob_i hva.len (gop_rf (ob_i ((hq.le le).ld0 rfl) (gop_rf (ob_i ((hw.le le).ix (by omega) (by simp)) (gop_rf (ob_i ((hw.le le).ld undef (by omega) (by simp)) ?_))))))))
    refine gop_rf (ob_i (x := vLenSl _) hva.len (gop_rf (ob_i (vInt_neq_same _ _) ?_)))
    refine ob_i (vPick_f _ _) ?_
    have := hk H1 le
    rw [decide_eq_true h] at this
    exact this
  · rw [decide_eq_false h, vUn_not, ob_some]
    refine gop_st (gop_st (gop_st (gop_st (gop_st (gop_st (gop_st (ob_i (vPick_t _ _) ?_)))))))
    have := hk H1 le
    rw [decide_eq_false h] at this
    exact this
theorem C.impl_ringed {vt va vv : Value} {st rc : Int} {T : List Int} {l : List Int}  {H : Hp} {K : Value → Hp → Prop} (hvt0 : Sl eI H vt T) (hva0 : Sl eI H va l) (hvv0 : Sl id H vv ([va])) (k1 : T.length ≤ 9223372036854775807) (k2 : l.length ≤ 9223372036854775807)
    (hk : ∀ H', Le H H' → K (.bool (decide (ruleP st rc T ∧ ringP st l))) H') : HT prg I.impl_ringed [(.agg #[(.int .i64 (st)), (.int .i64 (rc)), vt]), vv].toArray H K := by
  have lE := Le.refl H
  have hvt := hvt0
  have hva := hva0
  have hvv := hvv0
  refine R.impl_ringed ?_
  unfold F.impl_ringed
  refine nw_i (fun p1 H2 op1 nn3 le4 => ?_)
  have np1 : Nw H p1 := nn3.le lE
  replace hvt := hvt.le le4
  replace hva := hva.le le4
  replace hvv := hvv.le le4
  replace lE := lE.trans le4
  replace op1 : Cel H2 p1 [(.int .i64 (st)), (.int .i64 (rc)), vt] := op1
  rw [hvv.cells]
  refine nw_i (fun p5 H6 op5 nn7 le8 => ?_)
  have ap1Xp5 : Apart p1 p5 := op1.apart nn7
  have np5 : Nw H p5 := nn7.le lE
  replace op1 := op1.le le8
  replace hvt := hvt.le le8
  replace hva := hva.le le8
  replace hvv := hvv.le le8
  replace lE := lE.trans le8
  replace op5 : Cel H6 p5 [vv] := op5
  refine ob_i (op1.ldn rfl) ?_
  refine C.impl_ValidRule hvt (by first | omega | assumption) (fun   H9    le10 => ?_)
  replace op1 := op1.le le10
  replace op5 := op5.le le10
  replace hvt := hvt.le le10
  replace hva := hva.le le10
  replace hvv := hvv.le le10
  replace lE := lE.trans le10
  by_cases hc11 : ruleP st rc T
  · skip
    refine gop_e (decide_eq_true hc11) ?_
    refine gop_rt ?_
    refine ob_i (op5.ld0 rfl) ?_
    refine gop_e (decide_eq_true hc11) ?_
    refine gop_rt ?_
    refine gop_e (decide_eq_true hc11) ?_
    refine gop_rt ?_
    refine C.ContainsFunc_ring1 (q := !decide ((st = 2 ∨ st = 3) ∧ ringP st l)) hvv (fun Hc Z leZ hZ => ⟨by kernel_rfl, ?_⟩) (fun H12 le13 => ?_)
    · exact C.impl_ringed_1 (op1.le leZ) (op5.le leZ) (hvv.le leZ) (hva.le leZ) (by omega) hZ
    replace op1 := op1.le le13
    replace op5 := op5.le le13
    replace hvt := hvt.le le13
    replace hva := hva.le le13
    replace hvv := hvv.le le13
    replace lE := lE.trans le13
    refine gop_e (decide_eq_true hc11) ?_
    refine gop_rt ?_
    refine ob_i (vUn_not _) ?_
    refine ob_i (vPick_et (decide_eq_true hc11) _ _) ?_
    skip
    exact keq (K := K) (by rw [show (!(!decide ((st = 2 ∨ st = 3) ∧ ringP st l))) = decide (ruleP st rc T ∧ ringP st l) from by rw [Bool.not_not]; exact decide_eq_decide.mpr ⟨fun h => ⟨by assumption, h.2⟩, fun h => ⟨h.1.1, h.2⟩⟩]) (hk   _    lE)
  · skip
    refine gop_e (decide_eq_false hc11) ?_
    refine gop_sf ?_
    refine gop_e (decide_eq_false hc11) ?_
    refine gop_sf ?_
    refine gop_e (decide_eq_false hc11) ?_
    refine gop_sf ?_
    refine gop_e (decide_eq_false hc11) ?_
    refine gop_sf ?_
    refine ob_i (vPick_ef (decide_eq_false hc11) _ _) ?_
    skip
    exact keq (K := K) (by rw [decide_eq_false (show ¬ (ruleP st rc T ∧ ringP st l) from by exact fun h => absurd h.1 (by assumption))]) (hk   _    lE)
theorem all_lt {p : Nat → Prop} {h : Nat} (ha : ∀ j : Nat, j < h → p j) (hp : p h) : ∀ j : Nat, j < h + 1 → p j := fun j hj => by
  by_cases e : j = h
  · subst e; exact hp
  · exact ha j (by omega)
theorem C.impl_SameRule {vt vt2 : Value} {st rc st2 rc2 : Int} {T : List Int} {T2 : List Int}  {H : Hp} {K : Value → Hp → Prop} (hvt0 : Sl eI H vt T) (hvt20 : Sl eI H vt2 T2) (k1 : T.length ≤ 9223372036854775807)
    (hk : ∀ H', Le H H' → K (.bool (decide (st = st2 ∧ rc = rc2 ∧ T = T2))) H') : HT prg I.impl_SameRule [(.agg #[(.int .i64 (st)), (.int .i64 (rc)), vt]), (.agg #[(.int .i64 (st2)), (.int .i64 (rc2)), vt2])].toArray H K := by
  have lE := Le.refl H
  have hvt := hvt0
  have hvt2 := hvt20
  refine R.impl_SameRule ?_
  unfold F.impl_SameRule
  refine nw_i (fun p1 H2 op1 nn3 le4 => ?_)
  have np1 : Nw H p1 := nn3.le lE
  replace hvt := hvt.le le4
  replace hvt2 := hvt2.le le4
  replace lE := lE.trans le4
  replace op1 : Cel H2 p1 [(.int .i64 (st)), (.int .i64 (rc)), vt] := op1
  refine nw_i (fun p5 H6 op5 nn7 le8 => ?_)
  have ap1Xp5 : Apart p1 p5 := op1.apart nn7
  have np5 : Nw H p5 := nn7.le lE
  replace op1 := op1.le le8
  replace hvt := hvt.le le8
  replace hvt2 := hvt2.le le8
  replace lE := lE.trans le8
  replace op5 : Cel H6 p5 [(.int .i64 (st2)), (.int .i64 (rc2)), vt2] := op5
  refine ob_i (op1.fa 0) ?_
  refine ob_i (op1.ld 0 rfl) ?_
  refine ob_i (op5.fa 0) ?_
  refine ob_i (op5.ld 0 rfl) ?_
  refine ob_i (vInt_eql _ _ _) ?_
  by_cases hc9 : st = st2
  · skip
    refine gop_e (decide_eq_true hc9) ?_
    refine gop_rt ?_
    refine ob_i (op1.fa 1) ?_
    refine gop_e (decide_eq_true hc9) ?_
    refine gop_rt ?_
    refine ob_i (op1.ld 1 rfl) ?_
    refine gop_e (decide_eq_true hc9) ?_
    refine gop_rt ?_
    refine ob_i (op5.fa 1) ?_
    refine gop_e (decide_eq_true hc9) ?_
    refine gop_rt ?_
    refine ob_i (op5.ld 1 rfl) ?_
    refine gop_e (decide_eq_true hc9) ?_
    refine gop_rt ?_
    refine ob_i (vInt_eql _ _ _) ?_
    refine ob_i (vPick_et (decide_eq_true hc9) _ _) ?_
    by_cases hc10 : rc = rc2
    · skip
      refine gop_e (decide_eq_true hc10) ?_
      refine gop_rt ?_
      refine ob_i (op1.fa 2) ?_
      refine gop_e (decide_eq_true hc10) ?_
      refine gop_rt ?_
      refine ob_i (op1.ld 2 rfl) ?_
      refine gop_e (decide_eq_true hc10) ?_
      refine gop_rt ?_
      refine ob_i (op5.fa 2) ?_
      refine gop_e (decide_eq_true hc10) ?_
      refine gop_rt ?_
      refine ob_i (op5.ld 2 rfl) ?_
      refine gop_e (decide_eq_true hc10) ?_
      refine gop_rt ?_
      refine C.slices_Equal_int64Zint64 hvt hvt2 (by first | omega | assumption) ?_
      refine ob_i (vPick_et (decide_eq_true hc10) _ _) ?_
      skip
      exact keq (K := K) (by rw [show decide (T = T2) = decide (st = st2 ∧ rc = rc2 ∧ T = T2) from decide_eq_decide.mpr (by exact ⟨fun h => ⟨by assumption, by assumption, h⟩, fun h => h.2.2⟩)]) (hk   _    lE)
    · skip
      refine gop_e (decide_eq_false hc10) ?_
      refine gop_sf ?_
      refine gop_e (decide_eq_false hc10) ?_
      refine gop_sf ?_
      refine gop_e (decide_eq_false hc10) ?_
      refine gop_sf ?_
      refine gop_e (decide_eq_false hc10) ?_
      refine gop_sf ?_
      refine gop_e (decide_eq_false hc10) ?_
      refine gop_sf ?_
      refine ob_i (vPick_ef (decide_eq_false hc10) _ _) ?_
      skip
      exact keq (K := K) (by rw [decide_eq_false (show ¬ (st = st2 ∧ rc = rc2 ∧ T = T2) from by intro h; first | exact absurd h.1 (by assumption) | exact absurd h.2.1 (by assumption))]) (hk   _    lE)
  · skip
    refine gop_e (decide_eq_false hc9) ?_
    refine gop_sf ?_
    refine gop_e (decide_eq_false hc9) ?_
    refine gop_sf ?_
    refine gop_e (decide_eq_false hc9) ?_
    refine gop_sf ?_
    refine gop_e (decide_eq_false hc9) ?_
    refine gop_sf ?_
    refine gop_e (decide_eq_false hc9) ?_
    refine gop_sf ?_
    refine ob_i (vPick_ef (decide_eq_false hc9) _ _) ?_
    refine gop_sf ?_
    refine gop_sf ?_
    refine gop_sf ?_
    refine gop_sf ?_
    refine gop_sf ?_
    refine ob_i (vPick_f _ _) ?_
    skip
    exact keq (K := K) (by rw [decide_eq_false (show ¬ (st = st2 ∧ rc = rc2 ∧ T = T2) from by intro h; first | exact absurd h.1 (by assumption) | exact absurd h.2.1 (by assumption))]) (hk   _    lE)
theorem C.impl_weighed_1 {pw ps va vw : Value} {st : Int} {l : List Int} {w : List Int}  {H : Hp} {K : Value → Hp → Prop} (hpw0 : Cel H pw [vw]) (hps0 : Cel H ps [(.int .i64 (st))]) (hva0 : Sl eI H va l) (hvw0 : Sl eI H vw w) (hw : ∀ x ∈ w, 0 ≤ x ∧ x ≤ 2) (hl : ∀ x ∈ l, 0 ≤ x ∧ x ≤ 2) (el : l.length = w.length) (lw : w.length ≤ 16) (s0 : 1 ≤ st) (s1 : st ≤ 3)
    (hk : ∀ H', Le H H' → K (.int .i64 (wgS w l % st)) H') : HT prg I.impl_weighed_1 [va, pw, ps].toArray H K := by
  have lE := Le.refl H
  have hpw := hpw0
  have hps := hps0
  have hva := hva0
  have hvw := hvw0
  refine R.impl_weighed_1 ?_
  unfold F.impl_weighed_1
  refine jn_i (fun σ' H' => σ' 2 = ps ∧ σ' 5 = (.int .i64 (wgS w l)) ∧ Le H H' ∧ 0 ≤ wgS w l ∧ wgS w l ≤ 64) (fun σ1 H1 hP => ?_) (fun J1 hJ1 => ?_)
  · skip
    obtain ⟨g2L1, g5L1, lE, ho0⟩ := hP
    have hpw := hpw0.le lE
    have hps := hps0.le lE
    have hva := hva0.le lE
    have hvw := hvw0.le lE
    try simp only [g2L1, g5L1]
    refine ob_i (hps.ld0 rfl) ?_
    have rm2 := And.intro (Int.emod_nonneg (wgS w l) (b := st) (by omega)) (Int.emod_lt_of_pos (wgS w l) (b := st) (by omega))
    refine ob_i (vInt_remN (by omega) (by omega)) ?_
    skip
    exact keq (K := K) (by rw [show (((wgS w l) % st) : Int) = (wgS w l % st) from by rfl]) (hk   _    lE)
  refine ob_i (hpw.ld0 rfl) ?_
  refine ob_i (hvw.len) ?_
  refine ⟨fun n' σ' H' => ∃ i : Nat, n' = w.length - i ∧ i ≤ w.length ∧ σ' 0 = va ∧ σ' 2 = ps ∧ σ' 5 = (.int .i64 (sumZ (fun i => at_ 0 w (i : Int) * at_ 0 l (i : Int)) i)) ∧ σ' 8 = vw ∧ σ' 9 = (.int .i64 (((w).length : Int))) ∧ σ' 10 = (.int .i64 ((i : Int))) ∧ Le H H',
    ⟨_, 0, rfl, by omega, rfl, rfl, (congrArg (Value.int .i64) (by first | omega | rfl | (simp; done))), rfl, rfl, (congrArg (Value.int .i64) (by first | omega | rfl | (simp; done))), lE⟩, ?_⟩
  rintro n3 σ3 H3 ⟨i, rfl, hiN, g0L3, g2L3, g5L3, g8L3, g9L3, g10L3, lE⟩
  have hpw := hpw0.le lE
  have hps := hps0.le lE
  have hva := hva0.le lE
  have hvw := hvw0.le lE
  try simp only [g0L3, g5L3, g8L3, g9L3, g10L3]
  have sb := sumZ_bnd (a := 0) (b := 4) (by omega) (by omega) (wg_bnd hw hl) i
  have wb := wg_bnd hw hl i
  have wa := at_bnd (by omega) hw (i : Int)
  have wl := at_bnd (by omega) hl (i : Int)
  refine ob_i (vInt_lss _ _ _) ?_
  refine cnd_d (fun hg4 => ?_) (fun hg4 => ?_)
  · skip
    have ti := hg4
    refine ob_i (hvw.ix (by omega) (by omega)) ?_
    refine ob_i (hvw.ld 0 (by omega) (by omega)) ?_
    refine ob_i (hva.ix (by omega) (by omega)) ?_
    refine ob_i (hva.ld 0 (by omega) (by omega)) ?_
    refine ob_i (vInt_mul (by omega) (by omega)) ?_
    refine ob_i (vInt_add (by omega) (by omega)) ?_
    refine ob_i (vInt_add (by omega) (by omega)) ?_
    exact nxt (w.length - (i + 1)) (by omega) ⟨i + 1, rfl, by omega, g0L3, g2L3, (congrArg (Value.int .i64) (by first | omega | rfl | (simp; done))), g8L3, g9L3, (congrArg (Value.int .i64) (by first | omega | rfl | (simp; done))), lE⟩
  · skip
    have ti := hg4
    obtain rfl : i = w.length := by omega
    exact hJ1 _ _ ⟨g2L3, (g5L3.trans (congrArg (Value.int .i64) (by first | omega | rfl | (simp; done)))), lE, (by unfold wgS; omega)⟩
theorem C.impl_weighed {vw : Value} {st : Int} {w : List Int}  {H : Hp} {K : Value → Hp → Prop} (hvw0 : Sl eI H vw w) (s0 : 2 ≤ st) (s1 : st ≤ 3) (hw : ∀ x ∈ w, 0 ≤ x ∧ x ≤ st - 1) (l0 : w.length % 2 = 1) (lw : w.length ≤ 5)
    (hk : ∀ u1 H', Own eI H' u1 (wgL st w) → Nw H u1 → Le H H' → K (.agg #[(.int .i64 (st)), (.int .i64 ((w.length : Int) / 2)), u1]) H') : HT prg I.impl_weighed [(.int .i64 (st)), vw].toArray H K := by
  have lE := Le.refl H
  have hvw := hvw0
  refine R.impl_weighed ?_
  unfold F.impl_weighed
  have e1 : 2 * (((w).length : Int) / 2) + 1 = (w.length : Int) := by omega
  have ep : pwr st (2 * (((w).length : Int) / 2) + 1) = pwr st (w.length : Int) := congrArg (pwr st) e1
  have pb := pwr_bnd (b := st) (n := (w.length : Int)) (by omega) (by omega) (by omega)
  have hw2 := in_two s1 hw
  refine nw_i (fun p1 H2 op1 nn3 le4 => ?_)
  have np1 : Nw H p1 := nn3.le lE
  replace hvw := hvw.le le4
  replace lE := lE.trans le4
  replace op1 : Cel H2 p1 [(.int .i64 (st))] := op1
  rw [hvw.cells]
  refine nw_i (fun p5 H6 op5 nn7 le8 => ?_)
  have ap1Xp5 : Apart p1 p5 := op1.apart nn7
  have np5 : Nw H p5 := nn7.le lE
  replace op1 := op1.le le8
  replace hvw := hvw.le le8
  replace lE := lE.trans le8
  replace op5 : Cel H6 p5 [vw] := op5
  refine nw_i (fun p9 H10 op9 nn11 le12 => ?_)
  have ap1Xp9 : Apart p1 p9 := op1.apart nn11
  have ap5Xp9 : Apart p5 p9 := op5.apart nn11
  have np9 : Nw H p9 := nn11.le lE
  replace op1 := op1.le le12
  replace op5 := op5.le le12
  replace hvw := hvw.le le12
  replace lE := lE.trans le12
  replace op9 : Cel H10 p9 [(.int .i64 (0)), (.int .i64 (0)), (.slice none 0 0)] := op9
  refine ob_i (op1.ld0 rfl) ?_
  refine ob_i (op5.ld0 rfl) ?_
  refine ob_i (hvw.len) ?_
  refine ob_i (vInt_quoN (by omega) (by omega) (by omega)) ?_
  refine R.impl_made ?_
  unfold F.impl_made
  refine nw_i (fun q0 H13 oq0 nn14 le15 => ?_)
  have ap1Xq0 : Apart p1 q0 := op1.apart nn14
  have ap5Xq0 : Apart p5 q0 := op5.apart nn14
  have ap9Xq0 : Apart p9 q0 := op9.apart nn14
  have nq0 : Nw H q0 := nn14.le lE
  replace op1 := op1.le le15
  replace op5 := op5.le le15
  replace op9 := op9.le le15
  replace hvw := hvw.le le15
  replace lE := lE.trans le15
  replace oq0 : Cel H13 q0 [(.int .i64 (0)), (.int .i64 (0)), (.slice none 0 0)] := oq0
  refine ob_i (a := (.agg #[(.int .i64 (st)), (.int .i64 ((((w).length : Int)) / 2)), (.slice none 0 0)])) (by rfl) ?_
  refine nw_i (fun q H16 oq nn17 le18 => ?_)
  have ap1Xq : Apart p1 q := op1.apart nn17
  have ap5Xq : Apart p5 q := op5.apart nn17
  have ap9Xq : Apart p9 q := op9.apart nn17
  have aq0Xq : Apart q0 q := oq0.apart nn17
  have nq : Nw H q := nn17.le lE
  replace op1 := op1.le le18
  replace op5 := op5.le le18
  replace op9 := op9.le le18
  replace oq0 := oq0.le le18
  replace hvw := hvw.le le18
  replace lE := lE.trans le18
  replace oq : Cel H16 q [(.int .i64 (0)), (.int .i64 (0)), (.slice none 0 0)] := oq
  refine oq.stn (ws := [(.int .i64 (st)), (.int .i64 ((((w).length : Int)) / 2)), (.slice none 0 0)]) rfl rfl (oc1 rfl (oc1 rfl (oc1 rfl oc0))) (fun H19 oq off20 => ?_)
  replace op1 := op1.off off20 ap1Xq
  replace op5 := op5.off off20 ap5Xq
  replace op9 := op9.off off20 ap9Xq
  replace oq0 := oq0.off off20 aq0Xq
  replace hvw := hvw0.le (off20.le lE nq)
  replace lE := off20.le lE nq
  replace oq : Cel H19 q [(.int .i64 (st)), (.int .i64 ((((w).length : Int)) / 2)), (.slice none 0 0)] := oq
  refine jn_i (fun σ' H' => ∃ u, σ' 6 = q0 ∧ σ' 7 = q ∧ Cel H' p1 [(.int .i64 (st))] ∧ Cel H' p5 [vw] ∧ Cel H' p9 [(.int .i64 (0)), (.int .i64 (0)), (.slice none 0 0)] ∧ Cel H' q0 [(.int .i64 (0)), (.int .i64 (0)), (.slice none 0 0)] ∧ Cel H' q [(.int .i64 (st)), (.int .i64 (((w).length : Int) / 2)), u] ∧ Own eI H' u (wgL st w) ∧ Nw H u ∧ Apart p1 u ∧ Apart p5 u ∧ Apart p9 u ∧ Apart q0 u ∧ Apart q u ∧ Le H H') (fun σ21 H21 hP => ?_) (fun J21 hJ21 => ?_)
  · skip
    obtain ⟨u, g6L21, g7L21, op1, op5, op9, oq0, oq, ou, nu, ap1Xu, ap5Xu, ap9Xu, aq0Xu, aqXu, lE⟩ := hP
    have hvw := hvw0.le lE
    try simp only [g6L21, g7L21]
    refine ob_i (oq.ldn rfl) ?_
    refine oq0.stn (ws := [(.int .i64 (st)), (.int .i64 (((w).length : Int) / 2)), u]) rfl rfl (oc1 rfl (oc1 rfl (oc1 ou.one oc0))) (fun H22 oq0 off23 => ?_)
    replace op1 := op1.off off23 ap1Xq0
    replace op5 := op5.off off23 ap5Xq0
    replace op9 := op9.off off23 ap9Xq0
    replace oq := oq.off off23 aq0Xq.symm
    replace ou := ou.off off23 aq0Xu.symm
    replace hvw := hvw0.le (off23.le lE nq0)
    replace lE := off23.le lE nq0
    replace oq0 : Cel H22 q0 [(.int .i64 (st)), (.int .i64 (((w).length : Int) / 2)), u] := oq0
    refine ob_i (oq0.ldn rfl) ?_
    refine op9.stn (ws := [(.int .i64 (st)), (.int .i64 (((w).length : Int) / 2)), u]) rfl rfl (oc1 rfl (oc1 rfl (oc1 ou.one oc0))) (fun H24 op9 off25 => ?_)
    replace op1 := op1.off off25 ap1Xp9
    replace op5 := op5.off off25 ap5Xp9
    replace oq0 := oq0.off off25 ap9Xq0.symm
    replace oq := oq.off off25 ap9Xq.symm
    replace ou := ou.off off25 ap9Xu.symm
    replace hvw := hvw0.le (off25.le lE np9)
    replace lE := off25.le lE np9
    replace op9 : Cel H24 p9 [(.int .i64 (st)), (.int .i64 (((w).length : Int) / 2)), u] := op9
    refine ob_i (op9.ldn rfl) ?_
    skip
    exact keq (K := K) (by rw [show ((((w).length : Int) / 2) : Int) = ((w.length : Int) / 2) from by omega]) (hk  u _ ou nu  lE)
  refine ob_i (oq.ldn rfl) ?_
  refine C.impl_Rule_cells (Sl.nil 0 none) (by first | omega | assumption) (by first | omega | assumption) (fun   H26    le27 => ?_)
  replace op1 := op1.le le27
  replace op5 := op5.le le27
  replace op9 := op9.le le27
  replace oq0 := oq0.le le27
  replace oq := oq.le le27
  replace hvw := hvw.le le27
  replace lE := lE.trans le27
  refine C.impl_raised (by first | omega | assumption) (by first | omega | assumption) (by first | omega | assumption) (by first | omega | assumption) (fun   H28    le29 => ?_)
  replace op1 := op1.le le29
  replace op5 := op5.le le29
  replace op9 := op9.le le29
  replace oq0 := oq0.le le29
  replace oq := oq.le le29
  replace hvw := hvw.le le29
  replace lE := lE.trans le29
  refine ⟨fun n' σ' H' => ∃ i : Nat, n' = (pwr st (w.length : Int)).toNat - i ∧ i ≤ (pwr st (w.length : Int)).toNat ∧ ∃ u, σ' 0 = (.int .i64 (st)) ∧ σ' 2 = (.func (.func I.impl_weighed_1) #[] #[p5, p1]) ∧ σ' 6 = q0 ∧ σ' 7 = q ∧ σ' 15 = (.int .i64 (pwr st (2 * ((((w).length : Int)) / 2) + 1))) ∧ σ' 16 = (.int .i64 ((i : Int))) ∧ Cel H' p1 [(.int .i64 (st))] ∧ Cel H' p5 [vw] ∧ Cel H' p9 [(.int .i64 (0)), (.int .i64 (0)), (.slice none 0 0)] ∧ Cel H' q0 [(.int .i64 (0)), (.int .i64 (0)), (.slice none 0 0)] ∧ Cel H' q [(.int .i64 (st)), (.int .i64 (((w).length : Int) / 2)), u] ∧ Own eI H' u (wgF st w i) ∧ Nw H u ∧ Apart p1 u ∧ Apart p5 u ∧ Apart p9 u ∧ Apart q0 u ∧ Apart q u ∧ Le H H',
    ⟨_, 0, rfl, by omega, _, rfl, rfl, rfl, rfl, rfl, (congrArg (Value.int .i64) (by first | omega | rfl | (simp; done))), op1, op5, op9, oq0, oq, (Own.cast (by first | rfl | (simp; done)) (Own.nil_of none)), (fun b hb => by simp [bk] at hb), (fun b _ hb => by simp [bk] at hb), (fun b _ hb => by simp [bk] at hb), (fun b _ hb => by simp [bk] at hb), (fun b _ hb => by simp [bk] at hb), (fun b _ hb => by simp [bk] at hb), lE⟩, ?_⟩
  rintro n30 σ30 H30 ⟨i, rfl, hiN, u, g0L30, g2L30, g6L30, g7L30, g15L30, g16L30, op1, op5, op9, oq0, oq, ou, nu, ap1Xu, ap5Xu, ap9Xu, aq0Xu, aqXu, lE⟩
  have hvw := hvw0.le lE
  try simp only [g0L30, g2L30, g6L30, g7L30, g15L30, g16L30]
  have fl := wgF_len st w i
  refine ob_i (vInt_lss _ _ _) ?_
  refine cnd_d (fun hg31 => ?_) (fun hg31 => ?_)
  · skip
    have ti := hg31
    refine ob_i (oq.fa 2) ?_
    refine ob_i (oq.ld 2 rfl) ?_
    refine ob_i (oq.ldn rfl) ?_
    refine C.impl_Rule_cells ou.sl (by first | omega | assumption) (by first | omega | assumption) (fun   H32    le33 => ?_)
    replace op1 := op1.le le33
    replace op5 := op5.le le33
    replace op9 := op9.le le33
    replace oq0 := oq0.le le33
    replace oq := oq.le le33
    replace ou := ou.le le33
    replace hvw := hvw.le le33
    replace lE := lE.trans le33
    refine ⟨le33, ?_⟩
    refine C.impl_digitsOf (by first | omega | assumption) (by first | omega | assumption) (by first | omega | assumption) (by first | omega | assumption) (by first | omega | assumption) (by first | omega | assumption) (fun  u36 H34 ou36 nn37  le35 => ?_)
    have ap1Xu36 : Apart p1 u36 := op1.apart nn37
    have ap5Xu36 : Apart p5 u36 := op5.apart nn37
    have ap9Xu36 : Apart p9 u36 := op9.apart nn37
    have aq0Xu36 : Apart q0 u36 := oq0.apart nn37
    have aqXu36 : Apart q u36 := oq.apart nn37
    have auXu36 : Apart u u36 := ou.apart nn37
    have nu36 : Nw H u36 := nn37.le lE
    replace op1 := op1.le le35
    replace op5 := op5.le le35
    replace op9 := op9.le le35
    replace oq0 := oq0.le le35
    replace oq := oq.le le35
    replace ou := ou.le le35
    replace hvw := hvw.le le35
    replace lE := lE.trans le35
    refine ⟨le35, ?_⟩
    refine ⟨by kernel_rfl, ?_⟩
    refine C.impl_weighed_1 op5 op1 ou36.sl hvw (by first | omega | assumption) (by exact in_two s1 (digL_in (by omega))) (by rw [digL_len]; omega) (by first | omega | assumption) (by first | omega | assumption) (by first | omega | assumption) (fun   H38    le39 => ?_)
    replace op1 := op1.le le39
    replace op5 := op5.le le39
    replace op9 := op9.le le39
    replace oq0 := oq0.le le39
    replace oq := oq.le le39
    replace ou := ou.le le39
    replace ou36 := ou36.le le39
    replace hvw := hvw.le le39
    replace lE := lE.trans le39
    refine ⟨le39, ?_⟩
    refine bS_i (enc := eI) (l := [wgS w (digL (i : Int) st (2 * (((w).length : Int) / 2) + 1).toNat) % st]) (by omega) rfl (by kernel_rfl) (fun u40 H41 ou40 nn42 le44 => ?_)
    have ap1Xu40 : Apart p1 u40 := op1.apart nn42
    have ap5Xu40 : Apart p5 u40 := op5.apart nn42
    have ap9Xu40 : Apart p9 u40 := op9.apart nn42
    have aq0Xu40 : Apart q0 u40 := oq0.apart nn42
    have aqXu40 : Apart q u40 := oq.apart nn42
    have auXu40 : Apart u u40 := ou.apart nn42
    have au36Xu40 : Apart u36 u40 := ou36.apart nn42
    have nu40 : Nw H u40 := nn42.le lE
    replace op1 := op1.le le44
    replace op5 := op5.le le44
    replace op9 := op9.le le44
    replace oq0 := oq0.le le44
    replace oq := oq.le le44
    replace ou := ou.le le44
    replace ou36 := ou36.le le44
    replace hvw := hvw.le le44
    replace lE := lE.trans le44
    refine apd_any ou ou40.sl (fun _ => rfl) (by omega) (by first | omega | (simp only [List.length_cons, List.length_nil, List.length_append, List.length_replicate, List.length_map, List.length_range]; omega)) (fun u48 H45 ou48 off46 hb47 => ?_)
    have ap1Xu48 : Apart p1 u48 := Apart.ap2 op1.known ap1Xu hb47
    have ap5Xu48 : Apart p5 u48 := Apart.ap2 op5.known ap5Xu hb47
    have ap9Xu48 : Apart p9 u48 := Apart.ap2 op9.known ap9Xu hb47
    have aq0Xu48 : Apart q0 u48 := Apart.ap2 oq0.known aq0Xu hb47
    have aqXu48 : Apart q u48 := Apart.ap2 oq.known aqXu hb47
    have au36Xu48 : Apart u36 u48 := Apart.ap2 ou36.known auXu36.symm hb47
    have au40Xu48 : Apart u40 u48 := Apart.ap2 ou40.known auXu40.symm hb47
    have nu48 : Nw H u48 := Nw.ap2 nu lE hb47
    replace op1 := op1.off off46 ap1Xu
    replace op5 := op5.off off46 ap5Xu
    replace op9 := op9.off off46 ap9Xu
    replace oq0 := oq0.off off46 aq0Xu
    replace oq := oq.off off46 aqXu
    replace ou36 := ou36.off off46 auXu36.symm
    replace ou40 := ou40.off off46 auXu40.symm
    replace hvw := hvw0.le (off46.le lE nu)
    replace lE := off46.le lE nu
    refine ob_i (oq.fa 2) ?_
    refine oq.st (by simp) ou48.one ou48.cells (fun H49 oq off50 => ?_)
    replace op1 := op1.off off50 ap1Xq
    replace op5 := op5.off off50 ap5Xq
    replace op9 := op9.off off50 ap9Xq
    replace oq0 := oq0.off off50 aq0Xq
    replace ou36 := ou36.off off50 aqXu36.symm
    replace ou40 := ou40.off off50 aqXu40.symm
    replace ou48 := ou48.off off50 aqXu48.symm
    replace hvw := hvw0.le (off50.le lE nq)
    replace lE := off50.le lE nq
    replace oq : Cel H49 q [(.int .i64 (st)), (.int .i64 (((w).length : Int) / 2)), u48] := oq
    refine ob_i (vInt_add (by omega) (by omega)) ?_
    exact nxt ((pwr st (w.length : Int)).toNat - (i + 1)) (by omega) ⟨i + 1, rfl, by omega, u48, g0L30, g2L30, g6L30, g7L30, g15L30, (congrArg (Value.int .i64) (by first | omega | rfl | (simp; done))), op1, op5, op9, oq0, oq, (Own.cast (by rw [show (2 * (((w).length : Int) / 2) + 1).toNat = w.length by omega]; exact wgF_succ st w i) ou48), nu48, ap1Xu48, ap5Xu48, ap9Xu48, aq0Xu48, aqXu48, lE⟩
  · skip
    have ti := hg31
    obtain rfl : i = (pwr st (w.length : Int)).toNat := by omega
    exact hJ21 _ _ ⟨u, g6L30, g7L30, op1, op5, op9, oq0, oq, ou, nu, ap1Xu, ap5Xu, ap9Xu, aq0Xu, aqXu, lE⟩
theorem C.impl_Rule_terms {vt : Value} {st rc : Int} {T : List Int}  {H : Hp} {K : Value → Hp → Prop} (hvt0 : Sl eI H vt T) (hr : ruleP st rc T)
    (hk : ∀ u1 H', Own eI H' u1 (tmL st rc T) → Nw H u1 → Le H H' → K u1 H') : HT prg I.impl_Rule_terms [(.agg #[(.int .i64 (st)), (.int .i64 (rc)), vt])].toArray H K := by
  have lE := Le.refl H
  have hvt := hvt0
  refine R.impl_Rule_terms ?_
  unfold F.impl_Rule_terms
  have hr1 := hr.1
  have hr2 := hr.2.1
  have hr3 := ruleP_len hr
  have hr4 := hr.2.2.2
  refine nw_i (fun p1 H2 op1 nn3 le4 => ?_)
  have np1 : Nw H p1 := nn3.le lE
  replace hvt := hvt.le le4
  replace lE := lE.trans le4
  replace op1 : Cel H2 p1 [(.int .i64 (st)), (.int .i64 (rc)), vt] := op1
  refine bS_nil (enc := eI) (fun u5 H6 ou5 nn7 kk8 le9 => ?_)
  have ap1Xu5 : Apart p1 u5 := op1.apart nn7
  have nu5 : Nw H u5 := nn7.le lE
  replace op1 := op1.le le9
  replace hvt := hvt.le le9
  replace lE := lE.trans le9
  refine jn_i (fun σ' H' => ∃ u, σ' 3 = u ∧ Cel H' p1 [(.int .i64 (st)), (.int .i64 (rc)), vt] ∧ Own eI H' u (tmL st rc T) ∧ Nw H u ∧ Apart p1 u ∧ Le H H') (fun σ10 H10 hP => ?_) (fun J10 hJ10 => ?_)
  · skip
    obtain ⟨u, g3L10, op1, ou, nu, ap1Xu, lE⟩ := hP
    have hvt := hvt0.le lE
    try simp only [g3L10]
    skip
    exact hk  u _ ou nu  lE
  refine ob_i (op1.ldn rfl) ?_
  refine C.impl_Rule_cells hvt (by first | omega | assumption) (by first | omega | assumption) (fun   H11    le12 => ?_)
  replace op1 := op1.le le12
  replace ou5 := ou5.le le12
  replace hvt := hvt.le le12
  replace lE := lE.trans le12
  refine ob_i (vInt_sub (by omega) (by omega)) ?_
  refine ⟨fun n' σ' H' => ∃ i : Nat, n' = (2 * rc + 1).toNat - i ∧ i ≤ (2 * rc + 1).toNat ∧ ∃ u, σ' 1 = p1 ∧ σ' 3 = u ∧ σ' 4 = (.int .i64 (2 * rc - (i : Int))) ∧ Cel H' p1 [(.int .i64 (st)), (.int .i64 (rc)), vt] ∧ Own eI H' u (tmF st rc T i) ∧ Nw H u ∧ Apart p1 u ∧ Le H H',
    ⟨_, 0, rfl, by omega, u5, rfl, rfl, (congrArg (Value.int .i64) (by first | omega | rfl | (simp; done))), op1, (Own.cast (by first | rfl | (simp; done)) ou5), nu5, ap1Xu5, lE⟩, ?_⟩
  rintro n13 σ13 H13 ⟨i, rfl, hiN, u, g1L13, g3L13, g4L13, op1, ou, nu, ap1Xu, lE⟩
  have hvt := hvt0.le lE
  try simp only [g1L13, g3L13, g4L13]
  have fl := tmF_len st rc T i
  refine ob_i (vInt_geq _ _ _) ?_
  refine cnd_d (fun hg14 => ?_) (fun hg14 => ?_)
  · skip
    have ti := hg14
    have pl := pwr_lt hr (j := 2 * rc - (i : Int)) (by omega) (by omega)
    refine ob_i (op1.fa 2) ?_
    refine ob_i (op1.ld 2 rfl) ?_
    refine ob_i (op1.fa 0) ?_
    refine ob_i (op1.ld 0 rfl) ?_
    refine C.impl_raised (by first | omega | assumption) (by first | omega | assumption) (by first | omega | assumption) (by first | omega | assumption) (fun   H15    le16 => ?_)
    replace op1 := op1.le le16
    replace ou := ou.le le16
    replace hvt := hvt.le le16
    replace lE := lE.trans le16
    refine ⟨le16, ?_⟩
    refine ob_i (hvt.ix (by omega) (by omega)) ?_
    refine ob_i (hvt.ld 0 (by omega) (by omega)) ?_
    refine bS_i (enc := eI) (l := [at_ 0 (T) (pwr st (2 * rc - (i : Int)))]) (by omega) rfl (by kernel_rfl) (fun u17 H18 ou17 nn19 le21 => ?_)
    have ap1Xu17 : Apart p1 u17 := op1.apart nn19
    have auXu17 : Apart u u17 := ou.apart nn19
    have nu17 : Nw H u17 := nn19.le lE
    replace op1 := op1.le le21
    replace ou := ou.le le21
    replace hvt := hvt.le le21
    replace lE := lE.trans le21
    refine apd_any ou ou17.sl (fun _ => rfl) (by omega) (by first | omega | (simp only [List.length_cons, List.length_nil, List.length_append, List.length_replicate, List.length_map, List.length_range]; omega)) (fun u25 H22 ou25 off23 hb24 => ?_)
    have ap1Xu25 : Apart p1 u25 := Apart.ap2 op1.known ap1Xu hb24
    have au17Xu25 : Apart u17 u25 := Apart.ap2 ou17.known auXu17.symm hb24
    have nu25 : Nw H u25 := Nw.ap2 nu lE hb24
    replace op1 := op1.off off23 ap1Xu
    replace ou17 := ou17.off off23 auXu17.symm
    replace hvt := hvt0.le (off23.le lE nu)
    replace lE := off23.le lE nu
    refine ob_i (vInt_sub (by omega) (by omega)) ?_
    exact nxt ((2 * rc + 1).toNat - (i + 1)) (by omega) ⟨i + 1, rfl, by omega, u25, g1L13, rfl, (congrArg (Value.int .i64) (by first | omega | rfl | (simp; done))), op1, (Own.cast (by rw [show 2 * rc - (i : Int) = 2 * rc - (i : Int) by omega]; exact tmF_succ st rc T i) ou25), nu25, ap1Xu25, lE⟩
  · skip
    have ti := hg14
    rw [show i = (2 * rc + 1).toNat by omega] at ou
    exact hJ10 _ _ ⟨u, g3L13, op1, ou, nu, ap1Xu, lE⟩
theorem C.impl_Rule_adds {vt : Value} {st rc : Int} {T : List Int}  {H : Hp} {K : Value → Hp → Prop} (hvt0 : Sl eI H vt T) (hr : ruleP st rc T)
    (hk : ∀ H', Le H H' → K (.bool (decide (addP st rc T))) H') : HT prg I.impl_Rule_adds [(.agg #[(.int .i64 (st)), (.int .i64 (rc)), vt])].toArray H K := by
  have lE := Le.refl H
  have hvt := hvt0
  refine R.impl_Rule_adds ?_
  unfold F.impl_Rule_adds
  have hr1 := hr.1
  have hr2 := hr.2.1
  have hr3 := ruleP_len hr
  have hr4 := hr.2.2.2
  have tl := tmL_len (st := st) (T := T) hr.2.1.1
  have ti : ∀ x ∈ tmL st rc T, 0 ≤ x ∧ x ≤ st - 1 := tmF_in hr (by omega)
  refine nw_i (fun p1 H2 op1 nn3 le4 => ?_)
  have np1 : Nw H p1 := nn3.le lE
  replace hvt := hvt.le le4
  replace lE := lE.trans le4
  replace op1 : Cel H2 p1 [(.int .i64 (st)), (.int .i64 (rc)), vt] := op1
  refine ob_i (op1.ldn rfl) ?_
  refine ob_i (op1.fa 0) ?_
  refine ob_i (op1.ld 0 rfl) ?_
  refine ob_i (op1.ldn rfl) ?_
  refine C.impl_Rule_terms hvt (by first | omega | assumption) (fun  u7 H5 ou7 nn8  le6 => ?_)
  have ap1Xu7 : Apart p1 u7 := op1.apart nn8
  have nu7 : Nw H u7 := nn8.le lE
  replace op1 := op1.le le6
  replace hvt := hvt.le le6
  replace lE := lE.trans le6
  refine ⟨le6, ?_⟩
  refine C.impl_weighed ou7.sl (by first | omega | assumption) (by first | omega | assumption) (by exact ti) (by first | omega | assumption) (by first | omega | assumption) (fun  u11 H9 ou11 nn12  le10 => ?_)
  have ap1Xu11 : Apart p1 u11 := op1.apart nn12
  have au7Xu11 : Apart u7 u11 := ou7.apart nn12
  have nu11 : Nw H u11 := nn12.le lE
  replace op1 := op1.le le10
  replace ou7 := ou7.le le10
  replace hvt := hvt.le le10
  replace lE := lE.trans le10
  refine ⟨le10, ?_⟩
  refine C.impl_SameRule hvt ou11.sl (by first | omega | assumption) (fun   H13    le14 => ?_)
  replace op1 := op1.le le14
  replace ou7 := ou7.le le14
  replace ou11 := ou11.le le14
  replace hvt := hvt.le le14
  replace lE := lE.trans le14
  refine ⟨le14, ?_⟩
  skip
  exact keq (K := K) (by rw [show decide (st = st ∧ rc = (((tmL st rc T).length : Int) / 2) ∧ T = (wgL st (tmL st rc T))) = decide (addP st rc T) from decide_eq_decide.mpr (by exact ⟨fun h => h.2.2, fun h => ⟨rfl, by omega, h⟩⟩)]) (hk   _    lE)
theorem C.spec_l03Terms {p vt : Value} {st rc : Int} {T : List Int}  {H : Hp} {K : Value → Hp → Prop} (hp0 : Cel H p [(.int .i64 (st)), (.int .i64 (rc)), vt]) (hvt0 : Sl eI H vt T) (hr : ruleP st rc T)
    (hk1 : addP st rc T → ∀ u1 H', Own eI H' u1 (tmL st rc T) → Nw H u1 → Le H H' → K (.tuple #[u1, (.bool true)]) H')
    (hk2 : ¬ addP st rc T → ∀ H', Le H H' → K (.tuple #[(.slice none 0 0), (.bool false)]) H') : HT prg I.spec_l03Terms [p].toArray H K := by
  have lE := Le.refl H
  have hp := hp0
  have hvt := hvt0
  refine R.spec_l03Terms ?_
  unfold F.spec_l03Terms
  have hr1 := hr.1
  have hr2 := hr.2.1
  have hr3 := ruleP_len hr
  have hr4 := hr.2.2.2
  have tl := tmL_len (st := st) (T := T) hr.2.1.1
  have ti : ∀ x ∈ tmL st rc T, 0 ≤ x ∧ x ≤ st - 1 := tmF_in hr (by omega)
  refine C.spec_l03Wide hp hvt (by first | omega | assumption) (by first | omega | assumption) ?_
  refine bS_nil (enc := eI) (fun u1 H2 ou1 nn3 kk4 le5 => ?_)
  have nu1 : Nw H u1 := nn3.le lE
  replace hp := hp.le le5
  replace hvt := hvt.le le5
  replace lE := lE.trans le5
  refine jn_i (fun σ' H' => ∃ u, σ' 0 = p ∧ σ' 4 = (.int .i64 (2 * rc + 1)) ∧ σ' 5 = u ∧ Own eI H' u (tmL st rc T) ∧ Nw H u ∧ Le H H') (fun σ6 H6 hP => ?_) (fun J6 hJ6 => ?_)
  · skip
    obtain ⟨u, g0L6, g4L6, g5L6, ou, nu, lE⟩ := hP
    have hp := hp0.le lE
    have hvt := hvt0.le lE
    try simp only [g0L6, g4L6, g5L6]
    refine jn_i (fun σ' H' => σ' 5 = u ∧ Own eI H' u (tmL st rc T) ∧ Le H H' ∧ (∀ j : Nat, j < T.length → at_ 0 T (j : Int) = wgS (tmL st rc T) (digL j st (2 * rc + 1).toNat) % st)) (fun σ7 H7 hP => ?_) (fun J7 hJ7 => ?_)
    · skip
      obtain ⟨g5L7, ou, lE, hall⟩ := hP
      have hp := hp0.le lE
      have hvt := hvt0.le lE
      try simp only [g5L7]
      skip
      exact hk1 (by exact add_of hr hall) u _ ou nu  lE
    refine ob_i (hp.nilC) ?_
    refine ob_i (hp.fa 2) ?_
    refine ob_i (hp.ld 2 rfl) ?_
    refine ob_i (hvt.len) ?_
    refine ⟨fun n' σ' H' => ∃ h : Nat, n' = T.length - h ∧ h ≤ T.length ∧ σ' 0 = p ∧ σ' 4 = (.int .i64 (2 * rc + 1)) ∧ σ' 5 = u ∧ σ' 41 = (.int .i64 (((T).length : Int))) ∧ σ' 42 = (.int .i64 ((h : Int))) ∧ Own eI H' u (tmL st rc T) ∧ Le H H' ∧ (∀ j : Nat, j < h → at_ 0 T (j : Int) = wgS (tmL st rc T) (digL j st (2 * rc + 1).toNat) % st),
      ⟨_, 0, rfl, by omega, g0L6, g4L6, g5L6, rfl, (congrArg (Value.int .i64) (by first | omega | rfl | (simp; done))), ou, lE, (fun j hj => by omega)⟩, ?_⟩
    rintro n8 σ8 H8 ⟨h, rfl, hhN, g0L8, g4L8, g5L8, g41L8, g42L8, ou, lE, hah⟩
    have hp := hp0.le lE
    have hvt := hvt0.le lE
    try simp only [g0L8, g4L8, g5L8, g41L8, g42L8]
    have dl := digL_len (h : Int) st (2 * rc + 1).toNat
    have di := in_two (by omega) (digL_in (n := (h : Int)) (k := (2 * rc + 1).toNat) (show 1 ≤ st by omega))
    have ti2 := in_two (by omega) ti
    have hl3 := hr.2.2.1
    refine ob_i (vInt_lss _ _ _) ?_
    refine cnd_d (fun hg9 => ?_) (fun hg9 => ?_)
    · skip
      have th := hg9
      refine jn_i (fun σ' H' => σ' 0 = p ∧ σ' 4 = (.int .i64 (2 * rc + 1)) ∧ σ' 5 = u ∧ σ' 41 = (.int .i64 (((T).length : Int))) ∧ σ' 42 = (.int .i64 ((h : Int))) ∧ Own eI H' u (tmL st rc T) ∧ Le H H' ∧ at_ 0 T (h : Int) = wgS (tmL st rc T) (digL h st (2 * rc + 1).toNat) % st) (fun σ10 H10 hP => ?_) (fun J10 hJ10 => ?_)
      · skip
        obtain ⟨g0L10, g4L10, g5L10, g41L10, g42L10, ou, lE, hnx⟩ := hP
        have hp := hp0.le lE
        have hvt := hvt0.le lE
        try simp only [g42L10]
        refine ob_i (vInt_add (by omega) (by omega)) ?_
        exact nxt (T.length - (h + 1)) (by omega) ⟨h + 1, rfl, by omega, g0L10, g4L10, g5L10, g41L10, (congrArg (Value.int .i64) (by first | omega | rfl | (simp; done))), ou, lE, (all_lt hah hnx)⟩
      refine ob_i (hp.nilC) ?_
      refine ob_i (hp.fa 0) ?_
      refine ob_i (hp.ld 0 rfl) ?_
      refine C.spec_l03Cells (by first | omega | assumption) (by first | omega | assumption) (by first | omega | assumption) (by first | omega | assumption) (by first | omega | assumption) (by first | omega | assumption) (fun  u13 H11 ou13 nn14  le12 => ?_)
      have auXu13 : Apart u u13 := ou.apart nn14
      have nu13 : Nw H u13 := nn14.le lE
      replace ou := ou.le le12
      replace hp := hp.le le12
      replace hvt := hvt.le le12
      replace lE := lE.trans le12
      refine jn_i (fun σ' H' => σ' 0 = p ∧ σ' 4 = (.int .i64 (2 * rc + 1)) ∧ σ' 5 = u ∧ σ' 7 = (.int .i64 ((h : Int))) ∧ σ' 9 = (.int .i64 (sumZ (fun i => at_ 0 (tmL st rc T) (i : Int) * at_ 0 (digL (h : Int) st (2 * rc + 1).toNat) (i : Int)) (2 * rc + 1).toNat)) ∧ σ' 41 = (.int .i64 (((T).length : Int))) ∧ σ' 42 = (.int .i64 ((h : Int))) ∧ Own eI H' u (tmL st rc T) ∧ Own eI H' u13 (digL (h : Int) st (2 * rc + 1).toNat) ∧ Le H H' ∧ 0 ≤ sumZ (fun i => at_ 0 (tmL st rc T) (i : Int) * at_ 0 (digL (h : Int) st (2 * rc + 1).toNat) (i : Int)) (2 * rc + 1).toNat ∧ sumZ (fun i => at_ 0 (tmL st rc T) (i : Int) * at_ 0 (digL (h : Int) st (2 * rc + 1).toNat) (i : Int)) (2 * rc + 1).toNat ≤ 64) (fun σ15 H15 hP => ?_) (fun J15 hJ15 => ?_)
      · skip
        obtain ⟨g0L15, g4L15, g5L15, g7L15, g9L15, g41L15, g42L15, ou, ou13, lE, ho0⟩ := hP
        have hp := hp0.le lE
        have hvt := hvt0.le lE
        try simp only [g0L15, g7L15, g9L15]
        refine ob_i (hp.nilC) ?_
        refine ob_i (hp.fa 0) ?_
        refine ob_i (hp.ld 0 rfl) ?_
        have rm16 := And.intro (Int.emod_nonneg (sumZ (fun i => at_ 0 (tmL st rc T) (i : Int) * at_ 0 (digL (h : Int) st (2 * rc + 1).toNat) (i : Int)) (2 * rc + 1).toNat) (b := st) (by omega)) (Int.emod_lt_of_pos (sumZ (fun i => at_ 0 (tmL st rc T) (i : Int) * at_ 0 (digL (h : Int) st (2 * rc + 1).toNat) (i : Int)) (2 * rc + 1).toNat) (b := st) (by omega))
        refine ob_i (vInt_remN (by omega) (by omega)) ?_
        refine ob_i (hp.nilC) ?_
        refine ob_i (hp.fa 2) ?_
        refine ob_i (hp.ld 2 rfl) ?_
        refine ob_i (hvt.ix (by omega) (by omega)) ?_
        refine ob_i (hvt.ld 0 (by omega) (by omega)) ?_
        refine ob_i (vInt_neq _ _ _) ?_
        refine cnd_d (fun hg17 => ?_) (fun hg17 => ?_)
        · skip
          refine retK (K := K) (v' := (.tuple #[(.slice none 0 0), (.bool false)])) rfl ?_
          skip
          exact hk2 (by exact add_not hr (j := h) (by omega) (by first | assumption | (rw [show wgS (tmL st rc T) (digL (h : Int) st (2 * rc + 1).toNat) = sumZ (fun i => at_ 0 (tmL st rc T) (i : Int) * at_ 0 (digL (h : Int) st (2 * rc + 1).toNat) (i : Int)) (2 * rc + 1).toNat by unfold wgS; rw [show (tmL st rc T).length = (2 * rc + 1).toNat by omega]]; assumption)))  _    lE
        · skip
          exact hJ10 _ _ ⟨g0L15, g4L15, g5L15, g41L15, g42L15, ou, lE, (by rw [show wgS (tmL st rc T) (digL (h : Int) st (2 * rc + 1).toNat) = sumZ (fun i => at_ 0 (tmL st rc T) (i : Int) * at_ 0 (digL (h : Int) st (2 * rc + 1).toNat) (i : Int)) (2 * rc + 1).toNat by unfold wgS; rw [show (tmL st rc T).length = (2 * rc + 1).toNat by omega]]; omega)⟩
      refine ob_i (ou13.len) ?_
      refine ⟨fun n' σ' H' => ∃ m : Nat, n' = (2 * rc + 1).toNat - m ∧ m ≤ (2 * rc + 1).toNat ∧ σ' 0 = p ∧ σ' 4 = (.int .i64 (2 * rc + 1)) ∧ σ' 5 = u ∧ σ' 7 = (.int .i64 ((h : Int))) ∧ σ' 8 = u13 ∧ σ' 9 = (.int .i64 (sumZ (fun i => at_ 0 (tmL st rc T) (i : Int) * at_ 0 (digL (h : Int) st (2 * rc + 1).toNat) (i : Int)) m)) ∧ σ' 41 = (.int .i64 (((T).length : Int))) ∧ σ' 42 = (.int .i64 ((h : Int))) ∧ σ' 53 = (.int .i64 (((digL (h : Int) st (2 * rc + 1).toNat).length : Int))) ∧ σ' 54 = (.int .i64 ((m : Int))) ∧ Own eI H' u (tmL st rc T) ∧ Own eI H' u13 (digL (h : Int) st (2 * rc + 1).toNat) ∧ Le H H',
        ⟨_, 0, rfl, by omega, g0L8, g4L8, g5L8, rfl, rfl, (congrArg (Value.int .i64) (by first | omega | rfl | (simp; done))), g41L8, g42L8, rfl, (congrArg (Value.int .i64) (by first | omega | rfl | (simp; done))), ou, ou13, lE⟩, ?_⟩
      rintro n18 σ18 H18 ⟨m, rfl, hmN, g0L18, g4L18, g5L18, g7L18, g8L18, g9L18, g41L18, g42L18, g53L18, g54L18, ou, ou13, lE⟩
      have hp := hp0.le lE
      have hvt := hvt0.le lE
      try simp only [g5L18, g8L18, g9L18, g53L18, g54L18]
      have sb := sumZ_bnd (a := 0) (b := 4) (by omega) (by omega) (wg_bnd ti2 di) m
      have wb := wg_bnd ti2 di m
      have wc := Int.mul_comm (at_ 0 (digL (h : Int) st (2 * rc + 1).toNat) (m : Int)) (at_ 0 (tmL st rc T) (m : Int))
      refine ob_i (vInt_lss _ _ _) ?_
      refine cnd_d (fun hg19 => ?_) (fun hg19 => ?_)
      · skip
        have tm := hg19
        refine ob_i (ou13.sl.ix (by omega) (by omega)) ?_
        refine ob_i (ou13.sl.ld 0 (by omega) (by omega)) ?_
        refine ob_i (ou.sl.ix (by omega) (by omega)) ?_
        refine ob_i (ou.sl.ld 0 (by omega) (by omega)) ?_
        refine ob_i (vInt_mul (by omega) (by omega)) ?_
        refine ob_i (vInt_add (by omega) (by omega)) ?_
        refine ob_i (vInt_add (by omega) (by omega)) ?_
        exact nxt ((2 * rc + 1).toNat - (m + 1)) (by omega) ⟨m + 1, rfl, by omega, g0L18, g4L18, g5L18, g7L18, g8L18, (congrArg (Value.int .i64) (by rw [wc]; rfl)), g41L18, g42L18, g53L18, (congrArg (Value.int .i64) (by first | omega | rfl | (simp; done))), ou, ou13, lE⟩
      · skip
        have tm := hg19
        obtain rfl : m = (2 * rc + 1).toNat := by omega
        exact hJ15 _ _ ⟨g0L18, g4L18, g5L18, g7L18, (g9L18.trans (congrArg (Value.int .i64) (by first | omega | rfl | (simp; done)))), g41L18, g42L18, ou, ou13, lE, ⟨by omega, by omega⟩⟩
    · skip
      have th := hg9
      exact hJ7 _ _ ⟨g5L8, ou, lE, (by rw [show T.length = h by omega]; exact hah)⟩
  refine ⟨fun n' σ' H' => ∃ i : Nat, n' = (2 * rc + 1).toNat - i ∧ i ≤ (2 * rc + 1).toNat ∧ ∃ u, σ' 0 = p ∧ σ' 4 = (.int .i64 (2 * rc + 1)) ∧ σ' 5 = u ∧ σ' 6 = (.int .i64 ((i : Int))) ∧ Own eI H' u (tmF st rc T i) ∧ Nw H u ∧ Le H H',
    ⟨_, 0, rfl, by omega, u1, rfl, rfl, rfl, (congrArg (Value.int .i64) (by first | omega | rfl | (simp; done))), (Own.cast (by first | rfl | (simp; done)) ou1), nu1, lE⟩, ?_⟩
  rintro n20 σ20 H20 ⟨i, rfl, hiN, u, g0L20, g4L20, g5L20, g6L20, ou, nu, lE⟩
  have hp := hp0.le lE
  have hvt := hvt0.le lE
  try simp only [g0L20, g4L20, g5L20, g6L20]
  have fl := tmF_len st rc T i
  refine ob_i (vInt_lss _ _ _) ?_
  refine cnd_d (fun hg21 => ?_) (fun hg21 => ?_)
  · skip
    have ti := hg21
    have pl := pwr_lt hr (j := 2 * rc - (i : Int)) (by omega) (by omega)
    have pe : pwr st (2 * rc + 1 - 1 - (i : Int)) = pwr st (2 * rc - (i : Int)) := congrArg (pwr st) (by omega)
    refine ob_i (hp.nilC) ?_
    refine ob_i (hp.fa 2) ?_
    refine ob_i (hp.ld 2 rfl) ?_
    refine ob_i (hp.nilC) ?_
    refine ob_i (hp.fa 0) ?_
    refine ob_i (hp.ld 0 rfl) ?_
    refine ob_i (vInt_sub (by omega) (by omega)) ?_
    refine ob_i (vInt_sub (by omega) (by omega)) ?_
    refine C.spec_l03Power (by first | omega | assumption) (by first | omega | assumption) (by first | omega | assumption) (by first | omega | assumption) (fun   H22    le23 => ?_)
    replace ou := ou.le le23
    replace hp := hp.le le23
    replace hvt := hvt.le le23
    replace lE := lE.trans le23
    refine ⟨le23, ?_⟩
    refine ob_i (hvt.ix (by omega) (by omega)) ?_
    refine ob_i (hvt.ld 0 (by omega) (by omega)) ?_
    refine bS_i (enc := eI) (l := [at_ 0 (T) (pwr st (((2 * rc + 1) - 1) - (i : Int)))]) (by omega) rfl (by kernel_rfl) (fun u24 H25 ou24 nn26 le28 => ?_)
    have auXu24 : Apart u u24 := ou.apart nn26
    have nu24 : Nw H u24 := nn26.le lE
    replace ou := ou.le le28
    replace hp := hp.le le28
    replace hvt := hvt.le le28
    replace lE := lE.trans le28
    refine apd_any ou ou24.sl (fun _ => rfl) (by omega) (by first | omega | (simp only [List.length_cons, List.length_nil, List.length_append, List.length_replicate, List.length_map, List.length_range]; omega)) (fun u32 H29 ou32 off30 hb31 => ?_)
    have au24Xu32 : Apart u24 u32 := Apart.ap2 ou24.known auXu24.symm hb31
    have nu32 : Nw H u32 := Nw.ap2 nu lE hb31
    replace ou24 := ou24.off off30 auXu24.symm
    replace hp := hp0.le (off30.le lE nu)
    replace hvt := hvt0.le (off30.le lE nu)
    replace lE := off30.le lE nu
    refine ob_i (vInt_add (by omega) (by omega)) ?_
    exact nxt ((2 * rc + 1).toNat - (i + 1)) (by omega) ⟨i + 1, rfl, by omega, u32, g0L20, g4L20, rfl, (congrArg (Value.int .i64) (by first | omega | rfl | (simp; done))), (Own.cast (by rw [show 2 * rc + 1 - 1 - (i : Int) = 2 * rc - (i : Int) by omega]; exact tmF_succ st rc T i) ou32), nu32, lE⟩
  · skip
    have ti := hg21
    rw [show i = (2 * rc + 1).toNat by omega] at ou
    exact hJ6 _ _ ⟨u, g0L20, g4L20, g5L20, ou, nu, lE⟩
theorem qr_exit {a b : List Int} {k n : Nat} (hn : n ≤ a.length) (hz : 0 < n → at_ 0 b (k : Int) ≠ 0) (h : n = a.length ∨ at_ 0 b (k : Int) = 0) : qrF a b k n = qrF a b (k + 1) 0 := by
  rcases h with rfl | h
  · exact qrF_row a b k
  · have : n = 0 := by
      rcases Nat.eq_zero_or_pos n with h2 | h2
      · exact h2
      · exact absurd h (hz h2)
    subst this
    exact qrF_skip h
set_option maxHeartbeats 800000 in
theorem C.impl_product {va vb : Value} {st : Int} {a : List Int} {b : List Int}  {H : Hp} {K : Value → Hp → Prop} (hva0 : Sl eI H va a) (hvb0 : Sl eI H vb b) (s0 : 2 ≤ st) (s1 : st ≤ 3) (ha : ∀ x ∈ a, 0 ≤ x ∧ x ≤ st - 1) (hb : ∀ x ∈ b, 0 ≤ x ∧ x ≤ st - 1) (el : b.length = a.length) (l0 : 0 < a.length) (l1 : a.length ≤ 64)
    (hk : ∀ u1 H', Own eI H' u1 (prL st a b) → Nw H u1 → Le H H' → K u1 H') : HT prg I.impl_product [va, vb, (.int .i64 (st))].toArray H K := by
  have lE := Le.refl H
  have hva := hva0
  have hvb := hvb0
  refine R.impl_product ?_
  unfold F.impl_product
  have ha2 := in_two s1 ha
  have hb2 := in_two s1 hb
  refine ob_i (hva.len) ?_
  refine Own.mk_ (z := (0 : Int)) (by omega) (by omega) (by omega) (by omega) (fun u H1 ou nn2 le3 => ?_)
  have nu : Nw H u := nn2.le lE
  replace hva := hva.le le3
  replace hvb := hvb.le le3
  replace lE := lE.trans le3
  refine jn_i (fun σ' H' => σ' 8 = u ∧ Own eI H' u (prL st a b) ∧ Le H H') (fun σ4 H4 hP => ?_) (fun J4 hJ4 => ?_)
  · skip
    obtain ⟨g8L4, ou, lE⟩ := hP
    have hva := hva0.le lE
    have hvb := hvb0.le lE
    try simp only [g8L4]
    skip
    exact hk  u _ ou nu  lE
  refine ob_i (hva.len) ?_
  refine ⟨fun n' σ' H' => ∃ i : Nat, n' = a.length - i ∧ i ≤ a.length ∧ σ' 1 = vb ∧ σ' 2 = (.int .i64 (st)) ∧ σ' 7 = (.int .i64 (((a).length : Int))) ∧ σ' 8 = u ∧ σ' 17 = va ∧ σ' 18 = (.int .i64 (((a).length : Int))) ∧ σ' 19 = (.int .i64 ((i : Int))) ∧ Own eI H' u (prF st a b i 0) ∧ Le H H',
    ⟨_, 0, rfl, by omega, rfl, rfl, rfl, rfl, rfl, rfl, (congrArg (Value.int .i64) (by first | omega | rfl | (simp; done))), (Own.cast (prF_zero a b).symm ou), lE⟩, ?_⟩
  rintro n5 σ5 H5 ⟨i, rfl, hiN, g1L5, g2L5, g7L5, g8L5, g17L5, g18L5, g19L5, ou, lE⟩
  have hva := hva0.le lE
  have hvb := hvb0.le lE
  try simp only [g1L5, g2L5, g7L5, g8L5, g17L5, g18L5, g19L5]
  have pl := fun k => prF_len st a b i k
  refine ob_i (vInt_lss _ _ _) ?_
  refine cnd_d (fun hg6 => ?_) (fun hg6 => ?_)
  · skip
    have ti := hg6
    refine jn_i (fun σ' H' => σ' 1 = vb ∧ σ' 2 = (.int .i64 (st)) ∧ σ' 7 = (.int .i64 (((a).length : Int))) ∧ σ' 8 = u ∧ σ' 17 = va ∧ σ' 18 = (.int .i64 (((a).length : Int))) ∧ σ' 19 = (.int .i64 ((i : Int))) ∧ Own eI H' u (prF st a b (i + 1) 0) ∧ Le H H') (fun σ7 H7 hP => ?_) (fun J7 hJ7 => ?_)
    · skip
      obtain ⟨g1L7, g2L7, g7L7, g8L7, g17L7, g18L7, g19L7, ou, lE⟩ := hP
      have hva := hva0.le lE
      have hvb := hvb0.le lE
      try simp only [g19L7]
      refine ob_i (vInt_add (by omega) (by omega)) ?_
      exact nxt (a.length - (i + 1)) (by omega) ⟨i + 1, rfl, by omega, g1L7, g2L7, g7L7, g8L7, g17L7, g18L7, (congrArg (Value.int .i64) (by first | omega | rfl | (simp; done))), ou, lE⟩
    refine ob_i (hva.ix (by omega) (by omega)) ?_
    refine ob_i (hva.ld 0 (by omega) (by omega)) ?_
    refine ob_i (vInt_eql _ _ _) ?_
    refine cnd_d (fun hg8 => ?_) (fun hg8 => ?_)
    · skip
      have hz := hg8
      rw [prF_skip hz] at ou
      exact hJ7 _ _ ⟨g1L5, g2L5, g7L5, g8L5, g17L5, g18L5, g19L5, ou, lE⟩
    · skip
      refine ob_i (hvb.len) ?_
      refine ⟨fun n' σ' H' => ∃ k : Nat, n' = b.length - k ∧ k ≤ b.length ∧ σ' 1 = vb ∧ σ' 2 = (.int .i64 (st)) ∧ σ' 7 = (.int .i64 (((a).length : Int))) ∧ σ' 8 = u ∧ σ' 9 = (.int .i64 ((i : Int))) ∧ σ' 10 = (.int .i64 (at_ 0 (a) ((i : Int)))) ∧ σ' 17 = va ∧ σ' 18 = (.int .i64 (((a).length : Int))) ∧ σ' 19 = (.int .i64 ((i : Int))) ∧ σ' 26 = vb ∧ σ' 27 = (.int .i64 (((b).length : Int))) ∧ σ' 28 = (.int .i64 ((k : Int))) ∧ Own eI H' u (prF st a b i k) ∧ Le H H',
        ⟨_, 0, rfl, by omega, g1L5, g2L5, g7L5, g8L5, rfl, rfl, g17L5, g18L5, g19L5, rfl, rfl, (congrArg (Value.int .i64) (by first | omega | rfl | (simp; done))), ou, lE⟩, ?_⟩
      rintro n9 σ9 H9 ⟨k, rfl, hkN, g1L9, g2L9, g7L9, g8L9, g9L9, g10L9, g17L9, g18L9, g19L9, g26L9, g27L9, g28L9, ou, lE⟩
      have hva := hva0.le lE
      have hvb := hvb0.le lE
      try simp only [g2L9, g7L9, g8L9, g9L9, g10L9, g26L9, g27L9, g28L9]
      have pl2 := pl k
      refine ob_i (vInt_lss _ _ _) ?_
      refine cnd_d (fun hg10 => ?_) (fun hg10 => ?_)
      · skip
        have tk := hg10
        have j0 := Int.emod_nonneg ((i : Int) + (k : Int)) (b := (a.length : Int)) (by omega)
        have j1 := Int.emod_lt_of_pos ((i : Int) + (k : Int)) (b := (a.length : Int)) (by omega)
        have xa := at_bnd (by omega) ha2 (i : Int)
        have xb := at_bnd (by omega) hb2 (k : Int)
        have xm := Int.mul_nonneg xa.1 xb.1
        have xn := Int.mul_le_mul xa.2 xb.2 xb.1 (by omega)
        have xf := prF_at (st := st) (a := a) (b := b) (i := i) (k := k) j0 j1
        have x5 := Int.emod_nonneg (sumZ (prS a b a.length (((i : Int) + (k : Int)) % (a.length : Int))) i + sumZ (prT a b a.length (((i : Int) + (k : Int)) % (a.length : Int)) i) k) (b := st) (by omega)
        have x6 := Int.emod_lt_of_pos (sumZ (prS a b a.length (((i : Int) + (k : Int)) % (a.length : Int))) i + sumZ (prT a b a.length (((i : Int) + (k : Int)) % (a.length : Int)) i) k) (b := st) (by omega)
        refine ob_i (hvb.ix (by omega) (by omega)) ?_
        refine ob_i (hvb.ld 0 (by omega) (by omega)) ?_
        refine ob_i (vInt_add (by omega) (by omega)) ?_
        have rm11 := And.intro (Int.emod_nonneg ((i : Int) + (k : Int)) (b := ((a).length : Int)) (by omega)) (Int.emod_lt_of_pos ((i : Int) + (k : Int)) (b := ((a).length : Int)) (by omega))
        refine ob_i (vInt_remN (by omega) (by omega)) ?_
        refine ob_i (vInt_add (by omega) (by omega)) ?_
        have rm12 := And.intro (Int.emod_nonneg ((i : Int) + (k : Int)) (b := ((a).length : Int)) (by omega)) (Int.emod_lt_of_pos ((i : Int) + (k : Int)) (b := ((a).length : Int)) (by omega))
        refine ob_i (vInt_remN (by omega) (by omega)) ?_
        refine ob_i (ou.sl.ix (by omega) (by omega)) ?_
        refine ob_i (ou.sl.ld 0 (by omega) (by omega)) ?_
        refine ob_i (vInt_mul (by omega) (by omega)) ?_
        refine ob_i (vInt_add (by omega) (by omega)) ?_
        have rm13 := And.intro (Int.emod_nonneg ((at_ 0 (prF st a b i k) (((i : Int) + (k : Int)) % (((a).length : Int)))) + ((at_ 0 (a) ((i : Int))) * (at_ 0 (b) ((k : Int))))) (b := st) (by omega)) (Int.emod_lt_of_pos ((at_ 0 (prF st a b i k) (((i : Int) + (k : Int)) % (((a).length : Int)))) + ((at_ 0 (a) ((i : Int))) * (at_ 0 (b) ((k : Int))))) (b := st) (by omega))
        refine ob_i (vInt_remN (by omega) (by omega)) ?_
        refine ob_i (ou.sl.ix (by omega) (by omega)) ?_
        refine ou.st (x := ((at_ 0 (prF st a b i k) (((i : Int) + (k : Int)) % (((a).length : Int)))) + ((at_ 0 (a) ((i : Int))) * (at_ 0 (b) ((k : Int))))) % st) (by omega) (by omega) rfl rfl (fun H14 ou off15 => ?_)
        replace hva := hva0.le (off15.le lE nu)
        replace hvb := hvb0.le (off15.le lE nu)
        replace lE := off15.le lE nu
        refine ob_i (vInt_add (by omega) (by omega)) ?_
        exact nxt (b.length - (k + 1)) (by omega) ⟨k + 1, rfl, by omega, g1L9, g2L9, g7L9, g8L9, g9L9, g10L9, g17L9, g18L9, g19L9, g26L9, g27L9, (congrArg (Value.int .i64) (by first | omega | rfl | (simp; done))), (Own.cast (prF_set rfl j0 j1) ou), lE⟩
      · skip
        have tk := hg10
        obtain rfl : k = b.length := by omega
        rw [prF_row] at ou
        exact hJ7 _ _ ⟨g1L9, g2L9, g7L9, g8L9, g17L9, g18L9, g19L9, ou, lE⟩
  · skip
    have ti := hg6
    obtain rfl : i = a.length := by omega
    rw [prF_end] at ou
    exact hJ4 _ _ ⟨g8L5, ou, lE⟩
set_option maxHeartbeats 800000 in
theorem C.spec_l03Around {va vb : Value} {st : Int} {a : List Int} {b : List Int}  {H : Hp} {K : Value → Hp → Prop} (hva0 : Sl eI H va a) (hvb0 : Sl eI H vb b) (s0 : 2 ≤ st) (s1 : st ≤ 3) (ha : ∀ x ∈ a, 0 ≤ x ∧ x ≤ st - 1) (hb : ∀ x ∈ b, 0 ≤ x ∧ x ≤ st - 1) (el : b.length = a.length) (l0 : 0 < a.length) (l1 : a.length ≤ 64)
    (hk : ∀ u1 H', Own eI H' u1 (prL st a b) → Nw H u1 → Le H H' → K u1 H') : HT prg I.spec_l03Around [va, vb, (.int .i64 (st))].toArray H K := by
  have lE := Le.refl H
  have hva := hva0
  have hvb := hvb0
  refine R.spec_l03Around ?_
  unfold F.spec_l03Around
  have ha2 := in_two s1 ha
  have hb2 := in_two s1 hb
  refine ob_i (hva.len) ?_
  refine Own.mk_ (z := (0 : Int)) (by omega) (by omega) (by omega) (by omega) (fun u H1 ou nn2 le3 => ?_)
  have nu : Nw H u := nn2.le lE
  replace hva := hva.le le3
  replace hvb := hvb.le le3
  replace lE := lE.trans le3
  refine jn_i (fun σ' H' => σ' 2 = (.int .i64 (st)) ∧ σ' 8 = u ∧ Own eI H' u (qrF a b b.length 0) ∧ Le H H') (fun σ4 H4 hP => ?_) (fun J4 hJ4 => ?_)
  · skip
    obtain ⟨g2L4, g8L4, ou, lE⟩ := hP
    have hva := hva0.le lE
    have hvb := hvb0.le lE
    try simp only [g2L4, g8L4]
    refine jn_i (fun σ' H' => σ' 8 = u ∧ Own eI H' u (prL st a b) ∧ Le H H') (fun σ5 H5 hP => ?_) (fun J5 hJ5 => ?_)
    · skip
      obtain ⟨g8L5, ou, lE⟩ := hP
      have hva := hva0.le lE
      have hvb := hvb0.le lE
      try simp only [g8L5]
      skip
      exact hk  u _ ou nu  lE
    refine ob_i (ou.len) ?_
    refine ⟨fun n' σ' H' => ∃ i : Nat, n' = a.length - i ∧ i ≤ a.length ∧ σ' 2 = (.int .i64 (st)) ∧ σ' 8 = u ∧ σ' 54 = (.int .i64 (((qrF a b b.length 0).length : Int))) ∧ σ' 55 = (.int .i64 ((i : Int))) ∧ Own eI H' u (rmF st (qrF a b b.length 0) i) ∧ Le H H',
      ⟨_, 0, rfl, by omega, g2L4, g8L4, rfl, (congrArg (Value.int .i64) (by first | omega | rfl | (simp; done))), (Own.cast (by simp [rmF]) ou), lE⟩, ?_⟩
    rintro n6 σ6 H6 ⟨i, rfl, hiN, g2L6, g8L6, g54L6, g55L6, ou, lE⟩
    have hva := hva0.le lE
    have hvb := hvb0.le lE
    try simp only [g2L6, g8L6, g54L6, g55L6]
    have rl := rmF_len st (qrF a b b.length 0) i
    have ql := qrF_len a b b.length 0
    refine ob_i (vInt_lss _ _ _) ?_
    refine cnd_d (fun hg7 => ?_) (fun hg7 => ?_)
    · skip
      have ti := hg7
      have xf := qrF_bnd ha2 hb2 l1 (i := 0) (k := b.length) (by omega) (by omega) (j := (i : Int)) (by omega) (by omega)
      have xr := rmF_at (st := st) (l := qrF a b b.length 0) (i := i) (by omega)
      refine ob_i (ou.sl.ix (by omega) (by omega)) ?_
      refine ob_i (ou.sl.ld 0 (by omega) (by omega)) ?_
      have rm8 := And.intro (Int.emod_nonneg (at_ 0 (rmF st (qrF a b b.length 0) i) ((i : Int))) (b := st) (by omega)) (Int.emod_lt_of_pos (at_ 0 (rmF st (qrF a b b.length 0) i) ((i : Int))) (b := st) (by omega))
      refine ob_i (vInt_remN (by omega) (by omega)) ?_
      refine ob_i (ou.sl.ix (by omega) (by omega)) ?_
      refine ou.st (x := (at_ 0 (rmF st (qrF a b b.length 0) i) ((i : Int))) % st) (by omega) (by omega) rfl rfl (fun H9 ou off10 => ?_)
      replace hva := hva0.le (off10.le lE nu)
      replace hvb := hvb0.le (off10.le lE nu)
      replace lE := off10.le lE nu
      refine ob_i (vInt_add (by omega) (by omega)) ?_
      exact nxt (a.length - (i + 1)) (by omega) ⟨i + 1, rfl, by omega, g2L6, g8L6, g54L6, (congrArg (Value.int .i64) (by first | omega | rfl | (simp; done))), (Own.cast (by rw [xr]; exact rmF_set (by omega)) ou), lE⟩
    · skip
      have ti := hg7
      obtain rfl : i = a.length := by omega
      rw [qr_pr] at ou
      exact hJ5 _ _ ⟨g8L6, ou, lE⟩
  refine ob_i (hvb.len) ?_
  refine ⟨fun n' σ' H' => ∃ k : Nat, n' = b.length - k ∧ k ≤ b.length ∧ σ' 0 = va ∧ σ' 1 = vb ∧ σ' 2 = (.int .i64 (st)) ∧ σ' 7 = (.int .i64 (((a).length : Int))) ∧ σ' 8 = u ∧ σ' 17 = (.int .i64 (((b).length : Int))) ∧ σ' 18 = (.int .i64 ((k : Int))) ∧ Own eI H' u (qrF a b k 0) ∧ Le H H',
    ⟨_, 0, rfl, by omega, rfl, rfl, rfl, rfl, rfl, rfl, (congrArg (Value.int .i64) (by first | omega | rfl | (simp; done))), (Own.cast (qrF_zero a b).symm ou), lE⟩, ?_⟩
  rintro n11 σ11 H11 ⟨k, rfl, hkN, g0L11, g1L11, g2L11, g7L11, g8L11, g17L11, g18L11, ou, lE⟩
  have hva := hva0.le lE
  have hvb := hvb0.le lE
  try simp only [g0L11, g1L11, g7L11, g8L11, g17L11, g18L11]
  have pl := fun i => qrF_len a b k i
  refine ob_i (vInt_lss _ _ _) ?_
  refine cnd_d (fun hg12 => ?_) (fun hg12 => ?_)
  · skip
    have tk := hg12
    refine jn_i (fun σ' H' => σ' 0 = va ∧ σ' 1 = vb ∧ σ' 2 = (.int .i64 (st)) ∧ σ' 7 = (.int .i64 (((a).length : Int))) ∧ σ' 8 = u ∧ σ' 17 = (.int .i64 (((b).length : Int))) ∧ σ' 18 = (.int .i64 ((k : Int))) ∧ Own eI H' u (qrF a b (k + 1) 0) ∧ Le H H') (fun σ13 H13 hP => ?_) (fun J13 hJ13 => ?_)
    · skip
      obtain ⟨g0L13, g1L13, g2L13, g7L13, g8L13, g17L13, g18L13, ou, lE⟩ := hP
      have hva := hva0.le lE
      have hvb := hvb0.le lE
      try simp only [g18L13]
      refine ob_i (vInt_add (by omega) (by omega)) ?_
      exact nxt (b.length - (k + 1)) (by omega) ⟨k + 1, rfl, by omega, g0L13, g1L13, g2L13, g7L13, g8L13, g17L13, (congrArg (Value.int .i64) (by first | omega | rfl | (simp; done))), ou, lE⟩
    refine ⟨fun n' σ' H' => ∃ i : Nat, n' = a.length - i ∧ i ≤ a.length ∧ σ' 0 = va ∧ σ' 1 = vb ∧ σ' 2 = (.int .i64 (st)) ∧ σ' 7 = (.int .i64 (((a).length : Int))) ∧ σ' 8 = u ∧ σ' 9 = (.int .i64 ((k : Int))) ∧ σ' 10 = (.int .i64 ((i : Int))) ∧ σ' 17 = (.int .i64 (((b).length : Int))) ∧ σ' 18 = (.int .i64 ((k : Int))) ∧ Own eI H' u (qrF a b k i) ∧ Le H H' ∧ (0 < i → at_ 0 b (k : Int) ≠ 0),
      ⟨_, 0, rfl, by omega, g0L11, g1L11, g2L11, g7L11, g8L11, rfl, (congrArg (Value.int .i64) (by first | omega | rfl | (simp; done))), g17L11, g18L11, ou, lE, (fun h => absurd h (by omega))⟩, ?_⟩
    rintro n14 σ14 H14 ⟨i, rfl, hiN, g0L14, g1L14, g2L14, g7L14, g8L14, g9L14, g10L14, g17L14, g18L14, ou, lE, hnz⟩
    have hva := hva0.le lE
    have hvb := hvb0.le lE
    try simp only [g0L14, g1L14, g7L14, g8L14, g9L14, g10L14]
    have pl2 := pl i
    refine ob_i (vInt_lss _ _ _) ?_
    by_cases hc15 : (i : Int) < (((a).length : Int))
    · skip
      have j0 := Int.emod_nonneg ((i : Int) + (k : Int)) (b := (a.length : Int)) (by omega)
      have j1 := Int.emod_lt_of_pos ((i : Int) + (k : Int)) (b := (a.length : Int)) (by omega)
      have xa := at_bnd (by omega) ha2 (i : Int)
      have xb := at_bnd (by omega) hb2 (k : Int)
      have xm := Int.mul_nonneg xa.1 xb.1
      have xn := Int.mul_le_mul xa.2 xb.2 xb.1 (by omega)
      have xf := fun h => qrF_bnd ha2 hb2 l1 (i := i) (k := k) h (by omega) j0 j1
      refine gop_e (decide_eq_true hc15) ?_
      refine gop_rt ?_
      refine gop_e (decide_eq_true hc15) ?_
      refine gop_rt ?_
      refine gop_e (decide_eq_true hc15) ?_
      refine gop_rt ?_
      refine ob_i (hvb.ix (by omega) (by omega)) ?_
      refine gop_e (decide_eq_true hc15) ?_
      refine gop_rt ?_
      refine ob_i (hvb.ld 0 (by omega) (by omega)) ?_
      refine gop_e (decide_eq_true hc15) ?_
      refine gop_rt ?_
      refine ob_i (vInt_neq _ _ _) ?_
      refine ob_i (vPick_et (decide_eq_true hc15) _ _) ?_
      refine cnd_d (fun hg16 => ?_) (fun hg16 => ?_)
      · skip
        refine ob_i (vInt_add (by omega) (by omega)) ?_
        have rm17 := And.intro (Int.emod_nonneg ((i : Int) + (k : Int)) (b := ((a).length : Int)) (by omega)) (Int.emod_lt_of_pos ((i : Int) + (k : Int)) (b := ((a).length : Int)) (by omega))
        refine ob_i (vInt_remN (by omega) (by omega)) ?_
        refine ob_i (ou.sl.ix (by omega) (by omega)) ?_
        refine ob_i (ou.sl.ld 0 (by omega) (by omega)) ?_
        refine ob_i (hva.ix (by omega) (by omega)) ?_
        refine ob_i (hva.ld 0 (by omega) (by omega)) ?_
        refine ob_i (hvb.ix (by omega) (by omega)) ?_
        refine ob_i (hvb.ld 0 (by omega) (by omega)) ?_
        refine ob_i (vInt_mul (by omega) (by omega)) ?_
        refine ob_i (vInt_add (by omega) (by omega)) ?_
        refine ob_i (ou.sl.ix (by omega) (by omega)) ?_
        refine ou.st (x := (at_ 0 (qrF a b k i) (((i : Int) + (k : Int)) % (((a).length : Int)))) + ((at_ 0 (a) ((i : Int))) * (at_ 0 (b) ((k : Int))))) (by omega) (by omega) rfl rfl (fun H18 ou off19 => ?_)
        replace hva := hva0.le (off19.le lE nu)
        replace hvb := hvb0.le (off19.le lE nu)
        replace lE := off19.le lE nu
        refine ob_i (vInt_add (by omega) (by omega)) ?_
        exact nxt (a.length - (i + 1)) (by omega) ⟨i + 1, rfl, by omega, g0L14, g1L14, g2L14, g7L14, g8L14, g9L14, (congrArg (Value.int .i64) (by first | omega | rfl | (simp; done))), g17L14, g18L14, (Own.cast (qrF_set rfl j0 j1) ou), lE, (fun _ => (by assumption))⟩
      · skip
        replace ou : Own eI H14 u (qrF a b (k + 1) 0) := Own.cast (qr_exit (n := i) (by omega) hnz (by first | (left; omega) | (right; first | assumption | exact Decidable.not_not.mp (by assumption)))) ou
        exact hJ13 _ _ ⟨g0L14, g1L14, g2L14, g7L14, g8L14, g17L14, g18L14, ou, lE⟩
    · skip
      refine gop_e (decide_eq_false hc15) ?_
      refine gop_sf ?_
      refine gop_e (decide_eq_false hc15) ?_
      refine gop_sf ?_
      refine gop_e (decide_eq_false hc15) ?_
      refine gop_sf ?_
      refine gop_e (decide_eq_false hc15) ?_
      refine gop_sf ?_
      refine gop_e (decide_eq_false hc15) ?_
      refine gop_sf ?_
      refine ob_i (vPick_ef (decide_eq_false hc15) _ _) ?_
      refine cnd_f1 ?_
      replace ou : Own eI H14 u (qrF a b (k + 1) 0) := Own.cast (qr_exit (n := i) (by omega) hnz (by first | (left; omega) | (right; first | assumption | exact Decidable.not_not.mp (by assumption)))) ou
      exact hJ13 _ _ ⟨g0L14, g1L14, g2L14, g7L14, g8L14, g17L14, g18L14, ou, lE⟩
  · skip
    have tk := hg12
    obtain rfl : k = b.length := by omega
    exact hJ4 _ _ ⟨g2L11, g8L11, ou, lE⟩
theorem C.impl_impulse {n : Int}  {H : Hp} {K : Value → Hp → Prop} (n0 : 1 ≤ n) (n1 : n ≤ 1000)
    (hk : ∀ u1 H', Own eI H' u1 (impL n.toNat) → Nw H u1 → Le H H' → K u1 H') : HT prg I.impl_impulse [(.int .i64 (n))].toArray H K := by
  have lE := Le.refl H
  refine R.impl_impulse ?_
  unfold F.impl_impulse
  have rl : (List.replicate (n : Int).toNat (0 : Int)).length = n.toNat := by simp
  refine Own.mk_ (z := (0 : Int)) (by omega) (by omega) (by omega) (by omega) (fun u1 H2 ou1 nn3 le4 => ?_)
  have nu1 : Nw H u1 := nn3.le lE
  replace lE := lE.trans le4
  refine ob_i (ou1.sl.ix (by omega) (by omega)) ?_
  refine ou1.st (x := 1) (by omega) (by omega) rfl rfl (fun H5 ou1 off6 => ?_)
  replace lE := off6.le lE nu1
  skip
  exact hk  u1 _ (Own.cast (show (List.replicate (n : Int).toNat 0).set (0 : Int).toNat (1) = impL n.toNat by rfl) ou1) nu1  lE
theorem C.spec_l03Once {p vt vw : Value} {n st rc : Int} {T : List Int} {w : List Int}  {H : Hp} {K : Value → Hp → Prop} (hp0 : Cel H p [(.int .i64 (st)), (.int .i64 (rc)), vt]) (hvt0 : Sl eI H vt T) (hvw0 : Sl eI H vw w) (hr : ruleP st rc T) (hw : ∀ x ∈ w, 0 ≤ x ∧ x ≤ st - 1) (lw : (w.length : Int) = 2 * rc + 1) (n0 : 2 * rc + 1 ≤ n) (n1 : n ≤ 64)
    (hk : ∀ u1 H', Own eI H' u1 (onF st rc w n.toNat (2 * rc + 1).toNat) → Nw H u1 → Le H H' → K u1 H') : HT prg I.spec_l03Once [p, vw, (.int .i64 (n))].toArray H K := by
  have lE := Le.refl H
  have hp := hp0
  have hvt := hvt0
  have hvw := hvw0
  refine R.spec_l03Once ?_
  unfold F.spec_l03Once
  have hr1 := hr.1
  have hr2 := hr.2.1
  have hr3 := ruleP_len hr
  have hr4 := hr.2.2.2
  refine Own.mk_ (z := (0 : Int)) (by omega) (by omega) (by omega) (by omega) (fun u H1 ou nn2 le3 => ?_)
  have nu : Nw H u := nn2.le lE
  replace hp := hp.le le3
  replace hvt := hvt.le le3
  replace hvw := hvw.le le3
  replace lE := lE.trans le3
  refine jn_i (fun σ' H' => σ' 7 = u ∧ Own eI H' u (onF st rc w n.toNat (2 * rc + 1).toNat) ∧ Le H H') (fun σ4 H4 hP => ?_) (fun J4 hJ4 => ?_)
  · skip
    obtain ⟨g7L4, ou, lE⟩ := hP
    have hp := hp0.le lE
    have hvt := hvt0.le lE
    have hvw := hvw0.le lE
    try simp only [g7L4]
    skip
    exact hk  u _ ou nu  lE
  refine ob_i (hvw.len) ?_
  refine ⟨fun n' σ' H' => ∃ i : Nat, n' = (2 * rc + 1).toNat - i ∧ i ≤ (2 * rc + 1).toNat ∧ σ' 0 = p ∧ σ' 1 = vw ∧ σ' 2 = (.int .i64 (n)) ∧ σ' 7 = u ∧ σ' 13 = (.int .i64 (((w).length : Int))) ∧ σ' 14 = (.int .i64 ((i : Int))) ∧ Own eI H' u (onF st rc w n.toNat i) ∧ Le H H',
    ⟨_, 0, rfl, by omega, rfl, rfl, rfl, rfl, rfl, (congrArg (Value.int .i64) (by first | omega | rfl | (simp; done))), (Own.cast (onF_zero st rc w n.toNat).symm ou), lE⟩, ?_⟩
  rintro n5 σ5 H5 ⟨i, rfl, hiN, g0L5, g1L5, g2L5, g7L5, g13L5, g14L5, ou, lE⟩
  have hp := hp0.le lE
  have hvt := hvt0.le lE
  have hvw := hvw0.le lE
  try simp only [g0L5, g1L5, g2L5, g7L5, g13L5, g14L5]
  have ol := onF_len st rc w n.toNat i
  refine ob_i (vInt_lss _ _ _) ?_
  refine cnd_d (fun hg6 => ?_) (fun hg6 => ?_)
  · skip
    have ti := hg6
    have ee : (rc - (i : Int) + 2 * n) % n = (rc - (i : Int)) % (n.toNat : Int) := by rw [show ((n.toNat : Nat) : Int) = n by omega, Int.mul_comm, Int.add_mul_emod_self_left]
    have j0 := Int.emod_nonneg (rc - (i : Int)) (b := (n.toNat : Int)) (by omega)
    have j1 := Int.emod_lt_of_pos (rc - (i : Int)) (b := (n.toNat : Int)) (by omega)
    have xf := onF_at (st := st) (rc := rc) (w := w) (t := i) j0 j1
    have xw := hw _ (at_mem 0 w (i := (i : Int)) (by omega) (by omega))
    have x5 := Int.emod_nonneg (sumZ (fun t => if (rc - (t : Int)) % (n.toNat : Int) = (rc - (i : Int)) % (n.toNat : Int) then at_ 0 w (t : Int) else 0) i) (b := st) (by omega)
    have x6 := Int.emod_lt_of_pos (sumZ (fun t => if (rc - (t : Int)) % (n.toNat : Int) = (rc - (i : Int)) % (n.toNat : Int) then at_ 0 w (t : Int) else 0) i) (b := st) (by omega)
    rw [← ee] at xf j0 j1 x5 x6
    refine ob_i (hp.nilC) ?_
    refine ob_i (hp.fa 1) ?_
    refine ob_i (hp.ld 1 rfl) ?_
    refine ob_i (vInt_sub (by omega) (by omega)) ?_
    refine ob_i (vInt_mul (by omega) (by omega)) ?_
    refine ob_i (vInt_add (by omega) (by omega)) ?_
    have rm7 := And.intro (Int.emod_nonneg ((rc - (i : Int)) + (2 * n)) (b := n) (by omega)) (Int.emod_lt_of_pos ((rc - (i : Int)) + (2 * n)) (b := n) (by omega))
    refine ob_i (vInt_remN (by omega) (by omega)) ?_
    refine ob_i (ou.sl.ix (by omega) (by omega)) ?_
    refine ob_i (ou.sl.ld 0 (by omega) (by omega)) ?_
    refine ob_i (hvw.ix (by omega) (by omega)) ?_
    refine ob_i (hvw.ld 0 (by omega) (by omega)) ?_
    refine ob_i (vInt_add (by omega) (by omega)) ?_
    refine ob_i (hp.nilC) ?_
    refine ob_i (hp.fa 0) ?_
    refine ob_i (hp.ld 0 rfl) ?_
    have rm8 := And.intro (Int.emod_nonneg ((at_ 0 (onF st rc w n.toNat i) (((rc - (i : Int)) + (2 * n)) % n)) + (at_ 0 (w) ((i : Int)))) (b := st) (by omega)) (Int.emod_lt_of_pos ((at_ 0 (onF st rc w n.toNat i) (((rc - (i : Int)) + (2 * n)) % n)) + (at_ 0 (w) ((i : Int)))) (b := st) (by omega))
    refine ob_i (vInt_remN (by omega) (by omega)) ?_
    refine ob_i (ou.sl.ix (by omega) (by omega)) ?_
    refine ou.st (x := ((at_ 0 (onF st rc w n.toNat i) (((rc - (i : Int)) + (2 * n)) % n)) + (at_ 0 (w) ((i : Int)))) % st) (by omega) (by omega) rfl rfl (fun H9 ou off10 => ?_)
    replace hp := hp0.le (off10.le lE nu)
    replace hvt := hvt0.le (off10.le lE nu)
    replace hvw := hvw0.le (off10.le lE nu)
    replace lE := off10.le lE nu
    refine ob_i (vInt_add (by omega) (by omega)) ?_
    exact nxt ((2 * rc + 1).toNat - (i + 1)) (by omega) ⟨i + 1, rfl, by omega, g0L5, g1L5, g2L5, g7L5, g13L5, (congrArg (Value.int .i64) (by first | omega | rfl | (simp; done))), (Own.cast (onF_set ee j0 j1) ou), lE⟩
  · skip
    have ti := hg6
    obtain rfl : i = (2 * rc + 1).toNat := by omega
    exact hJ4 _ _ ⟨g7L5, ou, lE⟩
theorem C.impl_FarAhead {vt va : Value} {st rc m : Int} {T : List Int} {l : List Int}  {H : Hp} {K : Value → Hp → Prop} (hvt0 : Sl eI H vt T) (hva0 : Sl eI H va l) (k1 : T.length ≤ 9223372036854775807) (k2 : l.length ≤ 9223372036854775807)
    (hk : ∀ u1 H', Own eI H' u1 (selL (farP st rc T l m) (farL st rc T l m)) → Nw H u1 → Le H H' → K (.tuple #[u1, (.bool (decide (farP st rc T l m)))]) H') : HT prg I.impl_FarAhead [(.agg #[(.int .i64 (st)), (.int .i64 (rc)), vt]), va, (.int .i64 (m))].toArray H K := by
  have lE := Le.refl H
  have hvt := hvt0
  have hva := hva0
  refine R.impl_FarAhead ?_
  unfold F.impl_FarAhead
  refine nw_i (fun p1 H2 op1 nn3 le4 => ?_)
  have np1 : Nw H p1 := nn3.le lE
  replace hvt := hvt.le le4
  replace hva := hva.le le4
  replace lE := lE.trans le4
  replace op1 : Cel H2 p1 [(.int .i64 (st)), (.int .i64 (rc)), vt] := op1
  refine ob_i (op1.ldn rfl) ?_
  refine bS_i (enc := id) (l := [va]) (by omega) rfl (by obtain ⟨_, _, _, rfl⟩ := hva.isSl; kernel_rfl) (fun u5 H6 ou5 nn7 le8 => ?_)
  have ap1Xu5 : Apart p1 u5 := op1.apart nn7
  have nu5 : Nw H u5 := nn7.le lE
  replace op1 := op1.le le8
  replace hvt := hvt.le le8
  replace hva := hva.le le8
  replace lE := lE.trans le8
  refine C.impl_ringed hvt hva ou5.sl (by first | omega | assumption) (by first | omega | assumption) (fun   H9    le10 => ?_)
  replace op1 := op1.le le10
  replace ou5 := ou5.le le10
  replace hvt := hvt.le le10
  replace hva := hva.le le10
  replace lE := lE.trans le10
  refine ob_nd (fun hc11 => ?_) (fun hc11 => ?_)
  · skip
    have hr := hc11.1
    have hg := hc11.2
    have hg1 := hg.1
    have hg2 := hg.2
    have hr1 := hr.1
    have hr2 := hr.2.1
    have hr3 := ruleP_len hr
    have hr4 := hr.2.2.2
    refine gop_rf ?_
    refine gop_rf ?_
    refine ob_i (hva.len) ?_
    refine gop_rf ?_
    refine ob_i (op1.ldn rfl) ?_
    refine gop_rf ?_
    refine C.impl_Rule_cells hvt (by first | omega | assumption) (by first | omega | assumption) (fun   H12    le13 => ?_)
    replace op1 := op1.le le13
    replace ou5 := ou5.le le13
    replace hvt := hvt.le le13
    replace hva := hva.le le13
    replace lE := lE.trans le13
    refine gop_rf ?_
    refine ob_i (vInt_lss _ _ _) ?_
    refine ob_i (vPick_f _ _) ?_
    by_cases hc14 : (((l).length : Int)) < (2 * rc + 1)
    · skip
      refine gop_e (decide_eq_true hc14) ?_
      refine gop_st ?_
      refine gop_e (decide_eq_true hc14) ?_
      refine gop_st ?_
      refine gop_e (decide_eq_true hc14) ?_
      refine gop_st ?_
      refine ob_i (vPick_et (decide_eq_true hc14) _ _) ?_
      refine gop_st ?_
      refine gop_st ?_
      refine gop_st ?_
      refine ob_i (vPick_t _ _) ?_
      refine cnd_t1 ?_
      skip
      have hok : ¬ (farP st rc T l m) := by intro h; obtain ⟨h1, h2, h3, h4, h5, h6⟩ := h; first | contradiction | omega | exact absurd (show ruleP st rc T ∧ ringP st l from ⟨h1, h2⟩) (by assumption)
      exact keq (K := K) (by rw [decide_eq_false (show ¬ (farP st rc T l m) from by exact hok)]) (hk  (.slice none 0 0) _ (Own.cast (show [] = selL (farP st rc T l m) (farL st rc T l m) by exact (selL_f hok).symm) (Own.nil_of none)) (fun b hb => by simp [bk] at hb)  lE)
    · skip
      refine gop_e (decide_eq_false hc14) ?_
      refine gop_rf ?_
      refine ob_i (op1.ldn rfl) ?_
      refine gop_e (decide_eq_false hc14) ?_
      refine gop_rf ?_
      refine C.impl_Rule_adds hvt (by first | omega | assumption) (fun   H15    le16 => ?_)
      replace op1 := op1.le le16
      replace ou5 := ou5.le le16
      replace hvt := hvt.le le16
      replace hva := hva.le le16
      replace lE := lE.trans le16
      refine gop_e (decide_eq_false hc14) ?_
      refine gop_rf ?_
      refine ob_nd (fun hc17 => ?_) (fun hc17 => ?_)
      · skip
        have tl := tmL_len (st := st) (T := T) hr.2.1.1
        have ti : ∀ x ∈ tmL st rc T, 0 ≤ x ∧ x ≤ st - 1 := tmF_in hr (by omega)
        have i0 := impL_len l.length
        have i0b : (impL ((l.length : Int)).toNat).length = l.length := impL_len l.length
        have i1 := impL_in (st := st) (by omega) l.length
        have s0 := stpL_len st rc T (impL l.length)
        have s1 : ∀ x ∈ (stpL st rc T (impL l.length)), 0 ≤ x ∧ x ≤ st - 1 := stpF_in hr i1 (by omega) _
        refine ob_i (vPick_ef (decide_eq_false hc14) _ _) ?_
        refine gop_rf ?_
        refine gop_rf ?_
        refine C.impl_within  ?_
        refine gop_rf ?_
        refine ob_nd (fun hc18 => ?_) (fun hc18 => ?_)
        · skip
          refine ob_i (vPick_f _ _) ?_
          refine cnd_f1 ?_
          refine C.slices_Clone_int64Zint64 hva (by first | omega | assumption) (fun  u21 H19 ou21 nn22  le20 => ?_)
          have ap1Xu21 : Apart p1 u21 := op1.apart nn22
          have au5Xu21 : Apart u5 u21 := ou5.apart nn22
          have nu21 : Nw H u21 := nn22.le lE
          replace op1 := op1.le le20
          replace ou5 := ou5.le le20
          replace hvt := hvt.le le20
          replace hva := hva.le le20
          replace lE := lE.trans le20
          refine ob_i (op1.ldn rfl) ?_
          refine ob_i (hva.len) ?_
          refine C.impl_impulse (by first | omega | assumption) (by first | omega | assumption) (fun  u25 H23 ou25 nn26  le24 => ?_)
          have ap1Xu25 : Apart p1 u25 := op1.apart nn26
          have au5Xu25 : Apart u5 u25 := ou5.apart nn26
          have au21Xu25 : Apart u21 u25 := ou21.apart nn26
          have nu25 : Nw H u25 := nn26.le lE
          replace op1 := op1.le le24
          replace ou5 := ou5.le le24
          replace ou21 := ou21.le le24
          replace hvt := hvt.le le24
          replace hva := hva.le le24
          replace lE := lE.trans le24
          refine ⟨le24, ?_⟩
          refine C.impl_Rule_step hvt ou25.sl (by first | omega | assumption) (by omega) (by omega) (by first | exact i1 | exact hg1) (fun  u29 H27 ou29 nn30  le28 => ?_)
          have ap1Xu29 : Apart p1 u29 := op1.apart nn30
          have au5Xu29 : Apart u5 u29 := ou5.apart nn30
          have au21Xu29 : Apart u21 u29 := ou21.apart nn30
          have au25Xu29 : Apart u25 u29 := ou25.apart nn30
          have nu29 : Nw H u29 := nn30.le lE
          replace op1 := op1.le le28
          replace ou5 := ou5.le le28
          replace ou21 := ou21.le le28
          replace ou25 := ou25.le le28
          replace hvt := hvt.le le28
          replace hva := hva.le le28
          replace lE := lE.trans le28
          refine ⟨le28, ?_⟩
          refine jn_i (fun σ' H' => ∃ o, σ' 8 = o ∧ Cel H' p1 [(.int .i64 (st)), (.int .i64 (rc)), vt] ∧ Own id H' u5 ([va]) ∧ Own eI H' u25 (impL (((l).length : Int)).toNat) ∧ Own eI H' o (farL st rc T l m) ∧ Nw H o ∧ Apart p1 o ∧ Apart u5 o ∧ Apart u25 o ∧ Le H H') (fun σ31 H31 hP => ?_) (fun J31 hJ31 => ?_)
          · skip
            obtain ⟨o, g8L31, op1, ou5, ou25, oo, no, ap1Xo, au5Xo, au25Xo, lE⟩ := hP
            have hvt := hvt0.le lE
            have hva := hva0.le lE
            try simp only [g8L31]
            skip
            have hok : farP st rc T l m := by exact ⟨hr, hg, by omega, by assumption, by omega, by omega⟩
            exact keq (K := K) (by rw [decide_eq_true (show (farP st rc T l m) from by exact hok)]) (hk  o _ (Own.cast (show farL st rc T l m = selL (farP st rc T l m) (farL st rc T l m) by exact (selL_t hok).symm) oo) no  lE)
          refine ⟨fun n' σ' H' => ∃ i : Nat, n' = 41 - i ∧ i ≤ 41 ∧ ∃ o, ∃ b2, σ' 2 = (.int .i64 (m / 2 ^ i)) ∧ σ' 3 = p1 ∧ σ' 8 = o ∧ σ' 9 = b2 ∧ Cel H' p1 [(.int .i64 (st)), (.int .i64 (rc)), vt] ∧ Own id H' u5 ([va]) ∧ Own eI H' u25 (impL (((l).length : Int)).toNat) ∧ Own eI H' o ((faS st l (stpL st rc T (impL l.length)) m i).1) ∧ Own eI H' b2 ((faS st l (stpL st rc T (impL l.length)) m i).2) ∧ Nw H o ∧ Apart p1 o ∧ Apart u5 o ∧ Apart u25 o ∧ Nw H b2 ∧ Apart p1 b2 ∧ Apart u5 b2 ∧ Apart u25 b2 ∧ Apart o b2 ∧ Le H H',
            ⟨_, 0, rfl, by omega, u21, u29, (congrArg (Value.int .i64) (by rw [Int.pow_zero, Int.ediv_one])), rfl, rfl, rfl, op1, ou5, ou25, (Own.cast (by first | rfl | (simp; done)) ou21), (Own.cast (by first | rfl | exact (on_imp hr (by assumption) (by omega)).symm) ou29), nu21, ap1Xu21, au5Xu21, au21Xu25.symm, nu29, ap1Xu29, au5Xu29, au25Xu29, au21Xu29, lE⟩, ?_⟩
          rintro n32 σ32 H32 ⟨i, rfl, hiN, o, b2, g2L32, g3L32, g8L32, g9L32, op1, ou5, ou25, oo, ob2, no, ap1Xo, au5Xo, au25Xo, nb2, ap1Xb2, au5Xb2, au25Xb2, aoXb2, lE⟩
          have hvt := hvt0.le lE
          have hva := hva0.le lE
          try simp only [g2L32, g3L32, g8L32, g9L32]
          have db := div_pow_bnd (b := 2) (n := m) (by omega) (by omega) i
          have fl := faS_len (st := st) (l := l) (b := (stpL st rc T (impL l.length))) (m := m) (by omega) i
          have fi := faS_in (m := m) (show 1 ≤ st by omega) hg1 s1 i
          have hlt : 0 < m / 2 ^ i → i < 41 := fun h => div2_lt (by omega) (by omega) h
          have fi1 := fi.1
          have fi2 := fi.2
          refine ob_i (vInt_gtr _ _ _) ?_
          refine cnd_d (fun hg33 => ?_) (fun hg33 => ?_)
          · skip
            have ti := hg33
            refine ob_i (vInt_remN (by omega) (by omega)) ?_
            refine ob_i (vInt_eql _ _ _) ?_
            refine cnd_d (fun hg34 => ?_) (fun hg34 => ?_)
            · skip
              refine ob_i (op1.fa 0) ?_
              refine ob_i (op1.ld 0 rfl) ?_
              refine C.impl_product oo.sl ob2.sl (by first | omega | assumption) (by first | omega | assumption) (by first | assumption | exact fi1 | exact fi2) (by first | assumption | exact fi1 | exact fi2) (by omega) (by first | omega | assumption) (by first | omega | assumption) (fun  u37 H35 ou37 nn38  le36 => ?_)
              have ap1Xu37 : Apart p1 u37 := op1.apart nn38
              have au5Xu37 : Apart u5 u37 := ou5.apart nn38
              have au25Xu37 : Apart u25 u37 := ou25.apart nn38
              have aoXu37 : Apart o u37 := oo.apart nn38
              have ab2Xu37 : Apart b2 u37 := ob2.apart nn38
              have nu37 : Nw H u37 := nn38.le lE
              replace op1 := op1.le le36
              replace ou5 := ou5.le le36
              replace ou25 := ou25.le le36
              replace oo := oo.le le36
              replace ob2 := ob2.le le36
              replace hvt := hvt.le le36
              replace hva := hva.le le36
              replace lE := lE.trans le36
              refine ob_i (op1.fa 0) ?_
              refine ob_i (op1.ld 0 rfl) ?_
              refine C.impl_product ob2.sl ob2.sl (by first | omega | assumption) (by first | omega | assumption) (by first | assumption | exact fi1 | exact fi2) (by first | assumption | exact fi1 | exact fi2) (by omega) (by first | omega | assumption) (by first | omega | assumption) (fun  u41 H39 ou41 nn42  le40 => ?_)
              have ap1Xu41 : Apart p1 u41 := op1.apart nn42
              have au5Xu41 : Apart u5 u41 := ou5.apart nn42
              have au25Xu41 : Apart u25 u41 := ou25.apart nn42
              have aoXu41 : Apart o u41 := oo.apart nn42
              have ab2Xu41 : Apart b2 u41 := ob2.apart nn42
              have au37Xu41 : Apart u37 u41 := ou37.apart nn42
              have nu41 : Nw H u41 := nn42.le lE
              replace op1 := op1.le le40
              replace ou5 := ou5.le le40
              replace ou25 := ou25.le le40
              replace oo := oo.le le40
              replace ob2 := ob2.le le40
              replace ou37 := ou37.le le40
              replace hvt := hvt.le le40
              replace hva := hva.le le40
              replace lE := lE.trans le40
              refine ob_i (vInt_quoN (by omega) (by omega) (by omega)) ?_
              exact nxt (41 - (i + 1)) (by omega) ⟨i + 1, rfl, by omega, u37, u41, (congrArg (Value.int .i64) (div_pow_succ (by omega) i)), g3L32, rfl, rfl, op1, ou5, ou25, (Own.cast (faS_odd hg34) ou37), (Own.cast rfl ou41), nu37, ap1Xu37, au5Xu37, au25Xu37, nu41, ap1Xu41, au5Xu41, au25Xu41, au37Xu41, lE⟩
            · skip
              refine ob_i (op1.fa 0) ?_
              refine ob_i (op1.ld 0 rfl) ?_
              refine C.impl_product ob2.sl ob2.sl (by first | omega | assumption) (by first | omega | assumption) (by first | assumption | exact fi1 | exact fi2) (by first | assumption | exact fi1 | exact fi2) (by omega) (by first | omega | assumption) (by first | omega | assumption) (fun  u45 H43 ou45 nn46  le44 => ?_)
              have ap1Xu45 : Apart p1 u45 := op1.apart nn46
              have au5Xu45 : Apart u5 u45 := ou5.apart nn46
              have au25Xu45 : Apart u25 u45 := ou25.apart nn46
              have aoXu45 : Apart o u45 := oo.apart nn46
              have ab2Xu45 : Apart b2 u45 := ob2.apart nn46
              have nu45 : Nw H u45 := nn46.le lE
              replace op1 := op1.le le44
              replace ou5 := ou5.le le44
              replace ou25 := ou25.le le44
              replace oo := oo.le le44
              replace ob2 := ob2.le le44
              replace hvt := hvt.le le44
              replace hva := hva.le le44
              replace lE := lE.trans le44
              refine ob_i (vInt_quoN (by omega) (by omega) (by omega)) ?_
              exact nxt (41 - (i + 1)) (by omega) ⟨i + 1, rfl, by omega, o, u45, (congrArg (Value.int .i64) (div_pow_succ (by omega) i)), g3L32, g8L32, rfl, op1, ou5, ou25, (Own.cast (faS_even hg34) oo), (Own.cast rfl ou45), no, ap1Xo, au5Xo, au25Xo, nu45, ap1Xu45, au5Xu45, au25Xu45, aoXu45, lE⟩
          · skip
            have ti := hg33
            rw [faS_end (by omega) (by omega) (by assumption)] at oo
            exact hJ31 _ _ ⟨o, g8L32, op1, ou5, ou25, oo, no, ap1Xo, au5Xo, au25Xo, lE⟩
        · skip
          refine ob_i (vPick_f _ _) ?_
          refine cnd_t1 ?_
          skip
          have hok : ¬ (farP st rc T l m) := by intro h; obtain ⟨h1, h2, h3, h4, h5, h6⟩ := h; first | contradiction | omega | exact absurd (show ruleP st rc T ∧ ringP st l from ⟨h1, h2⟩) (by assumption)
          exact keq (K := K) (by rw [decide_eq_false (show ¬ (farP st rc T l m) from by exact hok)]) (hk  (.slice none 0 0) _ (Own.cast (show [] = selL (farP st rc T l m) (farL st rc T l m) by exact (selL_f hok).symm) (Own.nil_of none)) (fun b hb => by simp [bk] at hb)  lE)
      · skip
        refine ob_i (vPick_ef (decide_eq_false hc14) _ _) ?_
        refine gop_st ?_
        refine gop_st ?_
        refine gop_st ?_
        refine ob_i (vPick_t _ _) ?_
        refine cnd_t1 ?_
        skip
        have hok : ¬ (farP st rc T l m) := by intro h; obtain ⟨h1, h2, h3, h4, h5, h6⟩ := h; first | contradiction | omega | exact absurd (show ruleP st rc T ∧ ringP st l from ⟨h1, h2⟩) (by assumption)
        exact keq (K := K) (by rw [decide_eq_false (show ¬ (farP st rc T l m) from by exact hok)]) (hk  (.slice none 0 0) _ (Own.cast (show [] = selL (farP st rc T l m) (farL st rc T l m) by exact (selL_f hok).symm) (Own.nil_of none)) (fun b hb => by simp [bk] at hb)  lE)
  · skip
    refine gop_st ?_
    refine gop_st ?_
    refine gop_st ?_
    refine gop_st ?_
    refine gop_st ?_
    refine ob_i (vPick_t _ _) ?_
    refine gop_st ?_
    refine gop_st ?_
    refine gop_st ?_
    refine ob_i (vPick_t _ _) ?_
    refine gop_st ?_
    refine gop_st ?_
    refine gop_st ?_
    refine ob_i (vPick_t _ _) ?_
    refine cnd_t1 ?_
    skip
    have hok : ¬ (farP st rc T l m) := by intro h; obtain ⟨h1, h2, h3, h4, h5, h6⟩ := h; first | contradiction | omega | exact absurd (show ruleP st rc T ∧ ringP st l from ⟨h1, h2⟩) (by assumption)
    exact keq (K := K) (by rw [decide_eq_false (show ¬ (farP st rc T l m) from by exact hok)]) (hk  (.slice none 0 0) _ (Own.cast (show [] = selL (farP st rc T l m) (farL st rc T l m) by exact (selL_f hok).symm) (Own.nil_of none)) (fun b hb => by simp [bk] at hb)  lE)
theorem C.spec_FarAhead {vt va : Value} {st rc m : Int} {T : List Int} {l : List Int}  {H : Hp} {K : Value → Hp → Prop} (hvt0 : Sl eI H vt T) (hva0 : Sl eI H va l) (k1 : T.length ≤ 9223372036854775807) (k2 : l.length ≤ 9223372036854775807)
    (hk : ∀ u1 H', Own eI H' u1 (selL (farP st rc T l m) (farL st rc T l m)) → Nw H u1 → Le H H' → K (.tuple #[u1, (.bool (decide (farP st rc T l m)))]) H') : HT prg I.spec_FarAhead [(.agg #[(.int .i64 (st)), (.int .i64 (rc)), vt]), va, (.int .i64 (m))].toArray H K := by
  have lE := Le.refl H
  have hvt := hvt0
  have hva := hva0
  refine R.spec_FarAhead ?_
  unfold F.spec_FarAhead
  refine nw_i (fun p1 H2 op1 nn3 le4 => ?_)
  have np1 : Nw H p1 := nn3.le lE
  replace hvt := hvt.le le4
  replace hva := hva.le le4
  replace lE := lE.trans le4
  replace op1 : Cel H2 p1 [(.int .i64 (st)), (.int .i64 (rc)), vt] := op1
  refine C.spec_l02Is op1 hvt (by first | omega | assumption) (fun   H5    le6 => ?_)
  replace op1 := op1.le le6
  replace hvt := hvt.le le6
  replace hva := hva.le le6
  replace lE := lE.trans le6
  refine ob_nd (fun hc7 => ?_) (fun hc7 => ?_)
  · skip
    have hr := hc7
    have hr1 := hr.1
    have hr2 := hr.2.1
    have hr3 := ruleP_len hr
    have hr4 := hr.2.2.2
    refine gop_rf ?_
    refine gop_rf ?_
    refine ob_i (op1.fa 0) ?_
    refine gop_rf ?_
    refine ob_i (op1.ld 0 rfl) ?_
    refine gop_rf ?_
    refine C.spec_l02Ring hva (by first | omega | assumption) (by first | omega | assumption) (by first | omega | assumption) (fun   H8    le9 => ?_)
    replace op1 := op1.le le9
    replace hvt := hvt.le le9
    replace hva := hva.le le9
    replace lE := lE.trans le9
    refine gop_rf ?_
    refine ob_nd (fun hc10 => ?_) (fun hc10 => ?_)
    · skip
      have hg := hc10
      have hg1 := hg.1
      have hg2 := hg.2
      refine ob_i (vPick_f _ _) ?_
      refine gop_rf ?_
      refine gop_rf ?_
      refine ob_i (hva.len) ?_
      refine gop_rf ?_
      refine C.spec_l03Wide op1 hvt (by first | omega | assumption) (by first | omega | assumption) ?_
      refine gop_rf ?_
      refine ob_i (vInt_lss _ _ _) ?_
      refine ob_i (vPick_f _ _) ?_
      by_cases hc11 : (((l).length : Int)) < (2 * rc + 1)
      · skip
        refine gop_e (decide_eq_true hc11) ?_
        refine gop_st ?_
        refine gop_e (decide_eq_true hc11) ?_
        refine gop_st ?_
        refine gop_e (decide_eq_true hc11) ?_
        refine gop_st ?_
        refine ob_i (vPick_et (decide_eq_true hc11) _ _) ?_
        refine cnd_t1 ?_
        skip
        have hok : ¬ (farP st rc T l m) := by intro h; obtain ⟨h1, h2, h3, h4, h5, h6⟩ := h; first | contradiction | omega | exact absurd (show ruleP st rc T ∧ ringP st l from ⟨h1, h2⟩) (by assumption)
        exact keq (K := K) (by rw [decide_eq_false (show ¬ (farP st rc T l m) from by exact hok)]) (hk  (.slice none 0 0) _ (Own.cast (show [] = selL (farP st rc T l m) (farL st rc T l m) by exact (selL_f hok).symm) (Own.nil_of none)) (fun b hb => by simp [bk] at hb)  lE)
      · skip
        refine gop_e (decide_eq_false hc11) ?_
        refine gop_rf ?_
        refine gop_e (decide_eq_false hc11) ?_
        refine gop_rf ?_
        refine C.spec_l00In  ?_
        refine gop_e (decide_eq_false hc11) ?_
        refine gop_rf ?_
        refine ob_nd (fun hc12 => ?_) (fun hc12 => ?_)
        · skip
          refine ob_i (vPick_ef (decide_eq_false hc11) _ _) ?_
          refine cnd_f1 ?_
          refine C.spec_l03Terms op1 hvt (by first | omega | assumption) (fun hc13 u16 H14 ou16 nn17  le15 => ?_) (fun hc18  H19    le20 => ?_)
          · skip
            have tl := tmL_len (st := st) (T := T) hr.2.1.1
            have ti : ∀ x ∈ tmL st rc T, 0 ≤ x ∧ x ≤ st - 1 := tmF_in hr (by omega)
            have i0 := impL_len l.length
            have i0b : (impL ((l.length : Int)).toNat).length = l.length := impL_len l.length
            have i1 := impL_in (st := st) (by omega) l.length
            have s0 := stpL_len st rc T (impL l.length)
            have s1 : ∀ x ∈ (stpL st rc T (impL l.length)), 0 ≤ x ∧ x ≤ st - 1 := stpF_in hr i1 (by omega) _
            have ap1Xu16 : Apart p1 u16 := op1.apart nn17
            have nu16 : Nw H u16 := nn17.le lE
            replace op1 := op1.le le15
            replace hvt := hvt.le le15
            replace hva := hva.le le15
            replace lE := lE.trans le15
            refine ob_i (vExt_20 _ _) ?_
            refine ob_i (vExt_21 _ _) ?_
            refine ob_i (a := .bool false) rfl ?_
            refine cnd_f1 ?_
            refine bS_nil (enc := eI) (fun u21 H22 ou21 nn23 kk24 le25 => ?_)
            have ap1Xu21 : Apart p1 u21 := op1.apart nn23
            have au16Xu21 : Apart u16 u21 := ou16.apart nn23
            have nu21 : Nw H u21 := nn23.le lE
            replace op1 := op1.le le25
            replace ou16 := ou16.le le25
            replace hvt := hvt.le le25
            replace hva := hva.le le25
            replace lE := lE.trans le25
            refine apd_nil ou21 kk24 hva (fun _ => rfl) (by omega) (by omega) (fun u29 H26 ou29 nn30 le31 => ?_)
            have ap1Xu29 : Apart p1 u29 := op1.apart nn30
            have au16Xu29 : Apart u16 u29 := ou16.apart nn30
            have au21Xu29 : Apart u21 u29 := ou21.apart nn30
            have nu29 : Nw H u29 := nn30.le lE
            replace op1 := op1.le le31
            replace ou16 := ou16.le le31
            replace ou21 := ou21.le le31
            replace hvt := hvt.le le31
            replace hva := hva.le le31
            replace lE := lE.trans le31
            refine ob_i (hva.len) ?_
            refine C.spec_l03Once op1 hvt ou16.sl (by first | omega | assumption) (by first | exact ti | assumption) (by omega) (by first | omega | assumption) (by first | omega | assumption) (fun  u34 H32 ou34 nn35  le33 => ?_)
            have ap1Xu34 : Apart p1 u34 := op1.apart nn35
            have au16Xu34 : Apart u16 u34 := ou16.apart nn35
            have au21Xu34 : Apart u21 u34 := ou21.apart nn35
            have au29Xu34 : Apart u29 u34 := ou29.apart nn35
            have nu34 : Nw H u34 := nn35.le lE
            replace op1 := op1.le le33
            replace ou16 := ou16.le le33
            replace ou21 := ou21.le le33
            replace ou29 := ou29.le le33
            replace hvt := hvt.le le33
            replace hva := hva.le le33
            replace lE := lE.trans le33
            refine jn_i (fun σ' H' => ∃ o, σ' 10 = o ∧ Cel H' p1 [(.int .i64 (st)), (.int .i64 (rc)), vt] ∧ Own eI H' u16 (tmL st rc T) ∧ Own eI H' u21 ([]) ∧ Own eI H' o (farL st rc T l m) ∧ Nw H o ∧ Apart p1 o ∧ Apart u16 o ∧ Apart u21 o ∧ Le H H') (fun σ36 H36 hP => ?_) (fun J36 hJ36 => ?_)
            · skip
              obtain ⟨o, g10L36, op1, ou16, ou21, oo, no, ap1Xo, au16Xo, au21Xo, lE⟩ := hP
              have hvt := hvt0.le lE
              have hva := hva0.le lE
              try simp only [g10L36]
              skip
              have hok : farP st rc T l m := by exact ⟨hr, hg, by omega, by assumption, by omega, by omega⟩
              exact keq (K := K) (by rw [decide_eq_true (show (farP st rc T l m) from by exact hok)]) (hk  o _ (Own.cast (show farL st rc T l m = selL (farP st rc T l m) (farL st rc T l m) by exact (selL_t hok).symm) oo) no  lE)
            refine ⟨fun n' σ' H' => ∃ i : Nat, n' = 41 - i ∧ i ≤ 41 ∧ ∃ o, ∃ b2, σ' 2 = (.int .i64 (m / 2 ^ i)) ∧ σ' 3 = p1 ∧ σ' 10 = o ∧ σ' 11 = b2 ∧ Cel H' p1 [(.int .i64 (st)), (.int .i64 (rc)), vt] ∧ Own eI H' u16 (tmL st rc T) ∧ Own eI H' u21 ([]) ∧ Own eI H' o ((faS st l (stpL st rc T (impL l.length)) m i).1) ∧ Own eI H' b2 ((faS st l (stpL st rc T (impL l.length)) m i).2) ∧ Nw H o ∧ Apart p1 o ∧ Apart u16 o ∧ Apart u21 o ∧ Nw H b2 ∧ Apart p1 b2 ∧ Apart u16 b2 ∧ Apart u21 b2 ∧ Apart o b2 ∧ Le H H',
              ⟨_, 0, rfl, by omega, u29, u34, (congrArg (Value.int .i64) (by rw [Int.pow_zero, Int.ediv_one])), rfl, rfl, rfl, op1, ou16, ou21, (Own.cast (by first | rfl | (simp; done)) ou29), (Own.cast (by first | rfl | exact (on_imp hr (by assumption) (by omega)).symm) ou34), nu29, ap1Xu29, au16Xu29, au21Xu29, nu34, ap1Xu34, au16Xu34, au21Xu34, au29Xu34, lE⟩, ?_⟩
            rintro n37 σ37 H37 ⟨i, rfl, hiN, o, b2, g2L37, g3L37, g10L37, g11L37, op1, ou16, ou21, oo, ob2, no, ap1Xo, au16Xo, au21Xo, nb2, ap1Xb2, au16Xb2, au21Xb2, aoXb2, lE⟩
            have hvt := hvt0.le lE
            have hva := hva0.le lE
            try simp only [g2L37, g3L37, g10L37, g11L37]
            have db := div_pow_bnd (b := 2) (n := m) (by omega) (by omega) i
            have fl := faS_len (st := st) (l := l) (b := (stpL st rc T (impL l.length))) (m := m) (by omega) i
            have fi := faS_in (m := m) (show 1 ≤ st by omega) hg1 s1 i
            have hlt : 0 < m / 2 ^ i → i < 41 := fun h => div2_lt (by omega) (by omega) h
            have fi1 := fi.1
            have fi2 := fi.2
            refine ob_i (vInt_gtr _ _ _) ?_
            refine cnd_d (fun hg38 => ?_) (fun hg38 => ?_)
            · skip
              have ti := hg38
              refine ob_i (vInt_remN (by omega) (by omega)) ?_
              refine ob_i (vInt_eql _ _ _) ?_
              refine cnd_d (fun hg39 => ?_) (fun hg39 => ?_)
              · skip
                refine ob_i (op1.fa 0) ?_
                refine ob_i (op1.ld 0 rfl) ?_
                refine C.spec_l03Around oo.sl ob2.sl (by first | omega | assumption) (by first | omega | assumption) (by first | assumption | exact fi1 | exact fi2) (by first | assumption | exact fi1 | exact fi2) (by omega) (by first | omega | assumption) (by first | omega | assumption) (fun  u42 H40 ou42 nn43  le41 => ?_)
                have ap1Xu42 : Apart p1 u42 := op1.apart nn43
                have au16Xu42 : Apart u16 u42 := ou16.apart nn43
                have au21Xu42 : Apart u21 u42 := ou21.apart nn43
                have aoXu42 : Apart o u42 := oo.apart nn43
                have ab2Xu42 : Apart b2 u42 := ob2.apart nn43
                have nu42 : Nw H u42 := nn43.le lE
                replace op1 := op1.le le41
                replace ou16 := ou16.le le41
                replace ou21 := ou21.le le41
                replace oo := oo.le le41
                replace ob2 := ob2.le le41
                replace hvt := hvt.le le41
                replace hva := hva.le le41
                replace lE := lE.trans le41
                refine ob_i (op1.fa 0) ?_
                refine ob_i (op1.ld 0 rfl) ?_
                refine C.spec_l03Around ob2.sl ob2.sl (by first | omega | assumption) (by first | omega | assumption) (by first | assumption | exact fi1 | exact fi2) (by first | assumption | exact fi1 | exact fi2) (by omega) (by first | omega | assumption) (by first | omega | assumption) (fun  u46 H44 ou46 nn47  le45 => ?_)
                have ap1Xu46 : Apart p1 u46 := op1.apart nn47
                have au16Xu46 : Apart u16 u46 := ou16.apart nn47
                have au21Xu46 : Apart u21 u46 := ou21.apart nn47
                have aoXu46 : Apart o u46 := oo.apart nn47
                have ab2Xu46 : Apart b2 u46 := ob2.apart nn47
                have au42Xu46 : Apart u42 u46 := ou42.apart nn47
                have nu46 : Nw H u46 := nn47.le lE
                replace op1 := op1.le le45
                replace ou16 := ou16.le le45
                replace ou21 := ou21.le le45
                replace oo := oo.le le45
                replace ob2 := ob2.le le45
                replace ou42 := ou42.le le45
                replace hvt := hvt.le le45
                replace hva := hva.le le45
                replace lE := lE.trans le45
                refine ob_i (vInt_quoN (by omega) (by omega) (by omega)) ?_
                exact nxt (41 - (i + 1)) (by omega) ⟨i + 1, rfl, by omega, u42, u46, (congrArg (Value.int .i64) (div_pow_succ (by omega) i)), g3L37, rfl, rfl, op1, ou16, ou21, (Own.cast (faS_odd hg39) ou42), (Own.cast rfl ou46), nu42, ap1Xu42, au16Xu42, au21Xu42, nu46, ap1Xu46, au16Xu46, au21Xu46, au42Xu46, lE⟩
              · skip
                refine ob_i (op1.fa 0) ?_
                refine ob_i (op1.ld 0 rfl) ?_
                refine C.spec_l03Around ob2.sl ob2.sl (by first | omega | assumption) (by first | omega | assumption) (by first | assumption | exact fi1 | exact fi2) (by first | assumption | exact fi1 | exact fi2) (by omega) (by first | omega | assumption) (by first | omega | assumption) (fun  u50 H48 ou50 nn51  le49 => ?_)
                have ap1Xu50 : Apart p1 u50 := op1.apart nn51
                have au16Xu50 : Apart u16 u50 := ou16.apart nn51
                have au21Xu50 : Apart u21 u50 := ou21.apart nn51
                have aoXu50 : Apart o u50 := oo.apart nn51
                have ab2Xu50 : Apart b2 u50 := ob2.apart nn51
                have nu50 : Nw H u50 := nn51.le lE
                replace op1 := op1.le le49
                replace ou16 := ou16.le le49
                replace ou21 := ou21.le le49
                replace oo := oo.le le49
                replace ob2 := ob2.le le49
                replace hvt := hvt.le le49
                replace hva := hva.le le49
                replace lE := lE.trans le49
                refine ob_i (vInt_quoN (by omega) (by omega) (by omega)) ?_
                exact nxt (41 - (i + 1)) (by omega) ⟨i + 1, rfl, by omega, o, u50, (congrArg (Value.int .i64) (div_pow_succ (by omega) i)), g3L37, g10L37, rfl, op1, ou16, ou21, (Own.cast (faS_even hg39) oo), (Own.cast rfl ou50), no, ap1Xo, au16Xo, au21Xo, nu50, ap1Xu50, au16Xu50, au21Xu50, aoXu50, lE⟩
            · skip
              have ti := hg38
              rw [faS_end (by omega) (by omega) (by assumption)] at oo
              exact hJ36 _ _ ⟨o, g10L37, op1, ou16, ou21, oo, no, ap1Xo, au16Xo, au21Xo, lE⟩
          · skip
            replace op1 := op1.le le20
            replace hvt := hvt.le le20
            replace hva := hva.le le20
            replace lE := lE.trans le20
            refine ob_i (vExt_20 _ _) ?_
            refine ob_i (vExt_21 _ _) ?_
            refine ob_i (a := .bool true) rfl ?_
            refine cnd_t1 ?_
            skip
            have hok : ¬ (farP st rc T l m) := by intro h; obtain ⟨h1, h2, h3, h4, h5, h6⟩ := h; first | contradiction | omega | exact absurd (show ruleP st rc T ∧ ringP st l from ⟨h1, h2⟩) (by assumption)
            exact keq (K := K) (by rw [decide_eq_false (show ¬ (farP st rc T l m) from by exact hok)]) (hk  (.slice none 0 0) _ (Own.cast (show [] = selL (farP st rc T l m) (farL st rc T l m) by exact (selL_f hok).symm) (Own.nil_of none)) (fun b hb => by simp [bk] at hb)  lE)
        · skip
          refine ob_i (vPick_ef (decide_eq_false hc11) _ _) ?_
          refine cnd_t1 ?_
          skip
          have hok : ¬ (farP st rc T l m) := by intro h; obtain ⟨h1, h2, h3, h4, h5, h6⟩ := h; first | contradiction | omega | exact absurd (show ruleP st rc T ∧ ringP st l from ⟨h1, h2⟩) (by assumption)
          exact keq (K := K) (by rw [decide_eq_false (show ¬ (farP st rc T l m) from by exact hok)]) (hk  (.slice none 0 0) _ (Own.cast (show [] = selL (farP st rc T l m) (farL st rc T l m) by exact (selL_f hok).symm) (Own.nil_of none)) (fun b hb => by simp [bk] at hb)  lE)
    · skip
      refine ob_i (vPick_f _ _) ?_
      refine gop_st ?_
      refine gop_st ?_
      refine gop_st ?_
      refine gop_st ?_
      refine ob_i (vPick_t _ _) ?_
      refine gop_st ?_
      refine gop_st ?_
      refine gop_st ?_
      refine ob_i (vPick_t _ _) ?_
      refine cnd_t1 ?_
      skip
      have hok : ¬ (farP st rc T l m) := by intro h; obtain ⟨h1, h2, h3, h4, h5, h6⟩ := h; first | contradiction | omega | exact absurd (show ruleP st rc T ∧ ringP st l from ⟨h1, h2⟩) (by assumption)
      exact keq (K := K) (by rw [decide_eq_false (show ¬ (farP st rc T l m) from by exact hok)]) (hk  (.slice none 0 0) _ (Own.cast (show [] = selL (farP st rc T l m) (farL st rc T l m) by exact (selL_f hok).symm) (Own.nil_of none)) (fun b hb => by simp [bk] at hb)  lE)
  · skip
    refine gop_st ?_
    refine gop_st ?_
    refine gop_st ?_
    refine gop_st ?_
    refine gop_st ?_
    refine ob_i (vPick_t _ _) ?_
    refine gop_st ?_
    refine gop_st ?_
    refine gop_st ?_
    refine gop_st ?_
    refine ob_i (vPick_t _ _) ?_
    refine gop_st ?_
    refine gop_st ?_
    refine gop_st ?_
    refine ob_i (vPick_t _ _) ?_
    refine cnd_t1 ?_
    skip
    have hok : ¬ (farP st rc T l m) := by intro h; obtain ⟨h1, h2, h3, h4, h5, h6⟩ := h; first | contradiction | omega | exact absurd (show ruleP st rc T ∧ ringP st l from ⟨h1, h2⟩) (by assumption)
    exact keq (K := K) (by rw [decide_eq_false (show ¬ (farP st rc T l m) from by exact hok)]) (hk  (.slice none 0 0) _ (Own.cast (show [] = selL (farP st rc T l m) (farL st rc T l m) by exact (selL_f hok).symm) (Own.nil_of none)) (fun b hb => by simp [bk] at hb)  lE)
end Go.Proofs.Ytelcmohhjkgjoaa
