/- Fields that are drawn, and what they become. -/
import Derived.Test.YthbffbpdoankjaaUG
import Derived.Test.YthbffbpdoankjaaUD
namespace Go.Proofs.Ythbffbpdoankjaa
open HL
set_option maxRecDepth 100000
theorem C.impl_isShare {sh : Nat} {H : Hp} {K : Value → Hp → Prop}
    (hk : ∀ H', Le H H' → K (.bool (decide (shrP sh))) H') : HT prg I.impl_isShare [(.float .f32 sh)].toArray H K := by
  have lE := Le.refl H
  refine R.impl_isShare ?_
  unfold F.impl_isShare
  refine ob_i (vF_geq _ _) ?_
  by_cases hc1 : (fGe sh 0) = true
  · skip
    refine gop_e (hc1) ?_
    refine gop_rt ?_
    refine gop_e (hc1) ?_
    refine gop_rt ?_
    refine ob_i (vF_leq _ _) ?_
    refine ob_i (vPick_et (hc1) _ _) ?_
    skip
    exact keq (K := K) (by rw [show (fLe sh 1065353216) = decide (shrP sh) from by rw [Bool.eq_iff_iff, decide_eq_true_eq]; exact ⟨fun h => ⟨by assumption, h⟩, fun h => h.2⟩]) (hk   _    lE)
  · skip
    refine gop_e (eq_false_of_ne_true hc1) ?_
    refine gop_sf ?_
    refine gop_e (eq_false_of_ne_true hc1) ?_
    refine gop_sf ?_
    refine ob_i (vPick_ef (eq_false_of_ne_true hc1) _ _) ?_
    skip
    exact keq (K := K) (by rw [decide_eq_false (show ¬ (shrP sh) from by exact fun h => by have := h.1; simp_all)]) (hk   _    lE)
theorem C.spec_l02Share {sh : Nat} {H : Hp} {K : Value → Hp → Prop}
    (hk : ∀ H', Le H H' → K (.bool (decide (shrP sh))) H') : HT prg I.spec_l02Share [(.float .f32 sh)].toArray H K := by
  have lE := Le.refl H
  refine R.spec_l02Share ?_
  unfold F.spec_l02Share
  refine ob_i (vF_geq _ _) ?_
  by_cases hc1 : (fGe sh 0) = true
  · skip
    refine gop_e (hc1) ?_
    refine gop_rt ?_
    refine gop_e (hc1) ?_
    refine gop_rt ?_
    refine ob_i (vF_leq _ _) ?_
    refine ob_i (vPick_et (hc1) _ _) ?_
    skip
    exact keq (K := K) (by rw [show (fLe sh 1065353216) = decide (shrP sh) from by rw [Bool.eq_iff_iff, decide_eq_true_eq]; exact ⟨fun h => ⟨by assumption, h⟩, fun h => h.2⟩]) (hk   _    lE)
  · skip
    refine gop_e (eq_false_of_ne_true hc1) ?_
    refine gop_sf ?_
    refine gop_e (eq_false_of_ne_true hc1) ?_
    refine gop_sf ?_
    refine ob_i (vPick_ef (eq_false_of_ne_true hc1) _ _) ?_
    skip
    exact keq (K := K) (by rw [decide_eq_false (show ¬ (shrP sh) from by exact fun h => by have := h.1; simp_all)]) (hk   _    lE)
theorem C.impl_isSeed {x : Int}  {H : Hp} {K : Value → Hp → Prop}
    (hk : ∀ H', Le H H' → K (.bool (decide (0 ≤ x ∧ x ≤ 4294967295))) H') : HT prg I.impl_isSeed [(.int .i64 (x))].toArray H K := by
  have lE := Le.refl H
  refine R.impl_isSeed ?_
  unfold F.impl_isSeed
  refine C.impl_within  ?_
  skip
  exact hk   _    lE
theorem C.impl_areWorkers {x : Int}  {H : Hp} {K : Value → Hp → Prop}
    (hk : ∀ H', Le H H' → K (.bool (decide (1 ≤ x ∧ x ≤ 8))) H') : HT prg I.impl_areWorkers [(.int .i64 (x))].toArray H K := by
  have lE := Le.refl H
  refine R.impl_areWorkers ?_
  unfold F.impl_areWorkers
  refine C.impl_within  ?_
  skip
  exact hk   _    lE
theorem C.spec_l04Sides {r c : Int}  {H : Hp} {K : Value → Hp → Prop}
    (hk : ∀ H', Le H H' → K (.bool (decide ((1 ≤ r ∧ r ≤ 24) ∧ 1 ≤ c ∧ c ≤ 24))) H') : HT prg I.spec_l04Sides [(.int .i64 (r)), (.int .i64 (c))].toArray H K := by
  have lE := Le.refl H
  refine R.spec_l04Sides ?_
  unfold F.spec_l04Sides
  refine C.spec_l00In  ?_
  by_cases hc1 : 1 ≤ r ∧ r ≤ 24
  · skip
    refine gop_e (decide_eq_true hc1) ?_
    refine gop_rt ?_
    refine gop_e (decide_eq_true hc1) ?_
    refine gop_rt ?_
    refine C.spec_l00In  ?_
    refine ob_i (vPick_et (decide_eq_true hc1) _ _) ?_
    skip
    exact keq (K := K) (by rw [show decide (1 ≤ c ∧ c ≤ 24) = decide ((1 ≤ r ∧ r ≤ 24) ∧ 1 ≤ c ∧ c ≤ 24) from decide_eq_decide.mpr (by exact ⟨fun h => ⟨by assumption, h⟩, fun h => h.2⟩)]) (hk   _    lE)
  · skip
    refine gop_e (decide_eq_false hc1) ?_
    refine gop_sf ?_
    refine gop_e (decide_eq_false hc1) ?_
    refine gop_sf ?_
    refine ob_i (vPick_ef (decide_eq_false hc1) _ _) ?_
    skip
    exact keq (K := K) (by rw [decide_eq_false (show ¬ ((1 ≤ r ∧ r ≤ 24) ∧ 1 ≤ c ∧ c ≤ 24) from by exact fun h => absurd h.1 (by assumption))]) (hk   _    lE)
theorem C.impl_nextSeed {x : Int}  {H : Hp} {K : Value → Hp → Prop} (x0 : 0 ≤ x) (x1 : x ≤ 4294967295)
    (hk : K (.int .i64 (nxS x)) H) : HT prg I.impl_nextSeed [(.int .i64 (x))].toArray H K := by
  have lE := Le.refl H
  refine R.impl_nextSeed ?_
  unfold F.impl_nextSeed
  refine ob_i (vInt_mul (by omega) (by omega)) ?_
  refine ob_i (vInt_add (by omega) (by omega)) ?_
  refine ob_i (vInt_remN (by omega) (by omega)) ?_
  skip
  exact keq (K := K) (by rw [show ((((1664525 * x) + 1013904223) % 4294967296) : Int) = (nxS x) from by rfl]) (hk )
theorem C.spec_DrawField {r c x : Int} {sh : Nat} {H : Hp} {K : Value → Hp → Prop}
    (hk1 : ¬ drP r c x sh → ∀ H', Le H H' → K (.tuple #[(.agg #[(.int .i64 (0)), (.int .i64 (0)), (.slice none 0 0)]), (.int .i64 (0)), (.bool false)]) H')
    (hk2 : drP r c x sh → ∀ u1 H', Own eI H' u1 (drL r c x sh) → Nw H u1 → Le H H' → K (.tuple #[(.agg #[(.int .i64 (r)), (.int .i64 (c)), u1]), (.int .i64 (sdS x (r.toNat * c.toNat))), (.bool true)]) H') : HT prg I.spec_DrawField [(.int .i64 (r)), (.int .i64 (c)), (.float .f32 sh), (.int .i64 (x))].toArray H K := by
  have lE := Le.refl H
  refine R.spec_DrawField ?_
  unfold F.spec_DrawField
  refine nw_i (fun p1 H2 op1 nn3 le4 => ?_)
  have np1 : Nw H p1 := nn3.le lE
  replace lE := lE.trans le4
  replace op1 : Cel H2 p1 [(.int .i64 (0)), (.int .i64 (0)), (.slice none 0 0)] := op1
  refine C.spec_l04Sides  (fun   H5    le6 => ?_)
  replace op1 := op1.le le6
  replace lE := lE.trans le6
  refine ob_nd (fun hc7 => ?_) (fun hc7 => ?_)
  · skip
    have hs : sidesF r c := hc7
    have qm := sidesF_mul hs
    have q1 := hs.1
    have q2 := hs.2
    have qc : ((r.toNat * c.toNat : Nat) : Int) = r * c := by rw [← Int.toNat_mul (by omega) (by omega)]; omega
    refine gop_rf ?_
    refine gop_rf ?_
    refine C.spec_l02Share  (fun   H8    le9 => ?_)
    replace op1 := op1.le le9
    replace lE := lE.trans le9
    refine gop_rf ?_
    refine ob_nd (fun hc10 => ?_) (fun hc10 => ?_)
    · skip
      refine ob_i (vPick_f _ _) ?_
      refine gop_rf ?_
      refine gop_rf ?_
      refine C.spec_l00In  ?_
      refine gop_rf ?_
      refine ob_nd (fun hc11 => ?_) (fun hc11 => ?_)
      · skip
        have sb := sdS_bnd (x := x) (by omega) (by omega)
        refine ob_i (vPick_f _ _) ?_
        refine cnd_f1 ?_
        refine C.spec_l04New (by first | omega | assumption) (by first | omega | assumption) (by first | omega | assumption) (by first | omega | assumption) (fun  u14 H12 ou14 nn15  le13 => ?_)
        have ap1Xu14 : Apart p1 u14 := op1.apart nn15
        have nu14 : Nw H u14 := nn15.le lE
        replace op1 := op1.le le13
        replace lE := lE.trans le13
        refine nw_i (fun q H16 oq nn17 le18 => ?_)
        have ap1Xq : Apart p1 q := op1.apart nn17
        have au14Xq : Apart u14 q := ou14.apart nn17
        have nq : Nw H q := nn17.le lE
        replace op1 := op1.le le18
        replace ou14 := ou14.le le18
        replace lE := lE.trans le18
        replace oq : Cel H16 q [(.int .i64 (0)), (.int .i64 (0)), (.slice none 0 0)] := oq
        refine oq.stn (ws := [(.int .i64 (r)), (.int .i64 (c)), u14]) rfl rfl (oc1 rfl (oc1 rfl (oc1 ou14.one oc0))) (fun H19 oq off20 => ?_)
        replace op1 := op1.off off20 ap1Xq
        replace ou14 := ou14.off off20 au14Xq
        replace lE := off20.le lE nq
        replace oq : Cel H19 q [(.int .i64 (r)), (.int .i64 (c)), u14] := oq
        refine jn_i (fun σ' H' => ∃ u, σ' 3 = (.int .i64 (sdS x (r.toNat * c.toNat))) ∧ σ' 8 = p1 ∧ σ' 11 = q ∧ Cel H' p1 [(.int .i64 (0)), (.int .i64 (0)), (.slice none 0 0)] ∧ Cel H' q [(.int .i64 (r)), (.int .i64 (c)), u] ∧ Own eI H' u (drL r c x sh) ∧ Nw H u ∧ Apart p1 u ∧ Apart q u ∧ Le H H') (fun σ21 H21 hP => ?_) (fun J21 hJ21 => ?_)
        · skip
          obtain ⟨u, g3L21, g8L21, g11L21, op1, oq, ou, nu, ap1Xu, aqXu, lE⟩ := hP
          try simp only [g3L21, g8L21, g11L21]
          refine ob_i (oq.ldn rfl) ?_
          refine op1.stn (ws := [(.int .i64 (r)), (.int .i64 (c)), u]) rfl rfl (oc1 rfl (oc1 rfl (oc1 ou.one oc0))) (fun H22 op1 off23 => ?_)
          replace oq := oq.off off23 ap1Xq.symm
          replace ou := ou.off off23 ap1Xu.symm
          replace lE := off23.le lE np1
          replace op1 : Cel H22 p1 [(.int .i64 (r)), (.int .i64 (c)), u] := op1
          refine ob_i (op1.ldn rfl) ?_
          skip
          exact hk2 (by exact ⟨hs, by assumption, by omega⟩) u _ ou nu  lE
        refine ⟨fun n' σ' H' => ∃ i : Nat, n' = (r.toNat * c.toNat) - i ∧ i ≤ (r.toNat * c.toNat) ∧ ∃ u, σ' 2 = (.float .f32 sh) ∧ σ' 3 = (.int .i64 (sdS x i)) ∧ σ' 8 = p1 ∧ σ' 11 = q ∧ σ' 12 = (.int .i64 ((i : Int))) ∧ Cel H' p1 [(.int .i64 (0)), (.int .i64 (0)), (.slice none 0 0)] ∧ Cel H' q [(.int .i64 (r)), (.int .i64 (c)), u] ∧ Own eI H' u (fillL c (drG c x sh) (r.toNat * c.toNat) i) ∧ Nw H u ∧ Apart p1 u ∧ Apart q u ∧ Le H H',
          ⟨_, 0, rfl, by omega, u14, rfl, (congrArg (Value.int .i64) (by first | omega | rfl | (simp; done))), rfl, rfl, (congrArg (Value.int .i64) (by first | omega | rfl | (simp; done))), op1, oq, (Own.cast (by exact (fillL_zero _ _ _).symm) ou14), nu14, ap1Xu14, au14Xq.symm, lE⟩, ?_⟩
        rintro n24 σ24 H24 ⟨i, rfl, hiN, u, g2L24, g3L24, g8L24, g11L24, g12L24, op1, oq, ou, nu, ap1Xu, aqXu, lE⟩
        try simp only [g2L24, g3L24, g8L24, g11L24, g12L24]
        have si := sb i
        have fl := fillL_length c (drG c x sh) (r.toNat * c.toNat) i
        refine ob_i (oq.fa 2) ?_
        refine ob_i (oq.ld 2 rfl) ?_
        refine ob_i (ou.len) ?_
        refine ob_i (vInt_lss _ _ _) ?_
        refine cnd_d (fun hg25 => ?_) (fun hg25 => ?_)
        · skip
          have ti := hg25
          refine ob_i (vInt_mul (by omega) (by omega)) ?_
          refine ob_i (vInt_add (by omega) (by omega)) ?_
          refine ob_i (vInt_remN (by omega) (by omega)) ?_
          refine ob_i (vInt_quoN (by omega) (by omega) (by omega)) ?_
          refine ob_i (a := (.float .f32 (FloatKind.nearest .f32 ((((1664525 * (sdS x i)) + 1013904223) % 4294967296) / 256)))) rfl ?_
          refine fA_i (o := (FloatKind.f32.format.div (FloatKind.nearest .f32 ((((1664525 * (sdS x i)) + 1013904223) % 4294967296) / 256)) 1266679808)) rfl (fun t => nan_bits32 _ _ t) (fun z26 hz26 => ?_)
          refine ob_i (vF_lss _ _) ?_
          refine cnd_i (fun hg27 => ?_) (fun hg27 => ?_)
          · skip
            refine ob_i (oq.fa 2) ?_
            refine ob_i (oq.ld 2 rfl) ?_
            refine ob_i (ou.sl.ix (by omega) (by omega)) ?_
            refine ou.st (x := 1) (by omega) (by omega) rfl rfl (fun H28 ou off29 => ?_)
            replace op1 := op1.off off29 ap1Xu
            replace oq := oq.off off29 aqXu
            replace lE := off29.le lE nu
            refine ob_i (vInt_add (by omega) (by omega)) ?_
            have eB : fLt z26 sh = shB (sdS x (i + 1)) sh := fLtO_of hz26
            have eG : drG c x sh ((i : Int) / c) ((i : Int) % c) = 1 := by rw [dr_ix (by omega), if_pos (eB.symm.trans hg27)]
            replace ou : Own eI H28 u (fillL c (drG c x sh) (r.toNat * c.toNat) (i + 1)) := by have e := fillL_set1 (c := c) (g := drG c x sh) (N := (r.toNat * c.toNat)) (t := i); rw [eG] at e; rw [Int.toNat_natCast] at ou; rw [← e]; exact ou
            exact nxt ((r.toNat * c.toNat) - (i + 1)) (by omega) ⟨i + 1, rfl, by omega, u, g2L24, (congrArg (Value.int .i64) (by first | omega | rfl | (simp; done))), g8L24, g11L24, (congrArg (Value.int .i64) (by first | omega | rfl | (simp; done))), op1, oq, ou, nu, ap1Xu, aqXu, lE⟩
          · skip
            refine ob_i (vInt_add (by omega) (by omega)) ?_
            have eB : fLt z26 sh = shB (sdS x (i + 1)) sh := fLtO_of hz26
            have eG : drG c x sh ((i : Int) / c) ((i : Int) % c) = 0 := by rw [dr_ix (by omega), if_neg (by rw [← eB, hg27]; simp)]
            replace ou : Own eI H24 u (fillL c (drG c x sh) (r.toNat * c.toNat) (i + 1)) := by rw [← fillL_skip1 eG]; exact ou
            exact nxt ((r.toNat * c.toNat) - (i + 1)) (by omega) ⟨i + 1, rfl, by omega, u, g2L24, (congrArg (Value.int .i64) (by first | omega | rfl | (simp; done))), g8L24, g11L24, (congrArg (Value.int .i64) (by first | omega | rfl | (simp; done))), op1, oq, ou, nu, ap1Xu, aqXu, lE⟩
        · skip
          have ti := hg25
          obtain rfl : i = (r.toNat * c.toNat) := by omega
          rw [fillL_end (Nat.le_refl _)] at ou
          exact hJ21 _ _ ⟨u, (g3L24.trans (congrArg (Value.int .i64) (by first | omega | rfl | (simp; done)))), g8L24, g11L24, op1, oq, ou, nu, ap1Xu, aqXu, lE⟩
      · skip
        refine ob_i (vPick_f _ _) ?_
        refine cnd_t1 ?_
        refine ob_i (a := (.agg #[(.int .i64 (0)), (.int .i64 (0)), (.slice none 0 0)])) (by rfl) ?_
        refine op1.stn (ws := [(.int .i64 (0)), (.int .i64 (0)), (.slice none 0 0)]) rfl rfl (oc1 rfl (oc1 rfl (oc1 rfl oc0))) (fun H30 op1 off31 => ?_)
        replace lE := off31.le lE np1
        replace op1 : Cel H30 p1 [(.int .i64 (0)), (.int .i64 (0)), (.slice none 0 0)] := op1
        refine ob_i (op1.ldn rfl) ?_
        skip
        exact hk1 (by intro h; have h1 := h.1.1; have h2 := h.1.2; have h3 := h.2.2; first | omega | exact absurd h.2.1 (by assumption) | exact absurd (show (1 ≤ r ∧ r ≤ 24) ∧ 1 ≤ c ∧ c ≤ 24 from h.1) (by assumption))  _    lE
    · skip
      refine ob_i (vPick_f _ _) ?_
      refine gop_st ?_
      refine gop_st ?_
      refine gop_st ?_
      refine ob_i (vPick_t _ _) ?_
      refine cnd_t1 ?_
      refine ob_i (a := (.agg #[(.int .i64 (0)), (.int .i64 (0)), (.slice none 0 0)])) (by rfl) ?_
      refine op1.stn (ws := [(.int .i64 (0)), (.int .i64 (0)), (.slice none 0 0)]) rfl rfl (oc1 rfl (oc1 rfl (oc1 rfl oc0))) (fun H32 op1 off33 => ?_)
      replace lE := off33.le lE np1
      replace op1 : Cel H32 p1 [(.int .i64 (0)), (.int .i64 (0)), (.slice none 0 0)] := op1
      refine ob_i (op1.ldn rfl) ?_
      skip
      exact hk1 (by intro h; have h1 := h.1.1; have h2 := h.1.2; have h3 := h.2.2; first | omega | exact absurd h.2.1 (by assumption) | exact absurd (show (1 ≤ r ∧ r ≤ 24) ∧ 1 ≤ c ∧ c ≤ 24 from h.1) (by assumption))  _    lE
  · skip
    refine gop_st ?_
    refine gop_st ?_
    refine gop_st ?_
    refine ob_i (vPick_t _ _) ?_
    refine gop_st ?_
    refine gop_st ?_
    refine gop_st ?_
    refine ob_i (vPick_t _ _) ?_
    refine cnd_t1 ?_
    refine ob_i (a := (.agg #[(.int .i64 (0)), (.int .i64 (0)), (.slice none 0 0)])) (by rfl) ?_
    refine op1.stn (ws := [(.int .i64 (0)), (.int .i64 (0)), (.slice none 0 0)]) rfl rfl (oc1 rfl (oc1 rfl (oc1 rfl oc0))) (fun H34 op1 off35 => ?_)
    replace lE := off35.le lE np1
    replace op1 : Cel H34 p1 [(.int .i64 (0)), (.int .i64 (0)), (.slice none 0 0)] := op1
    refine ob_i (op1.ldn rfl) ?_
    skip
    exact hk1 (by intro h; have h1 := h.1.1; have h2 := h.1.2; have h3 := h.2.2; first | omega | exact absurd h.2.1 (by assumption) | exact absurd (show (1 ≤ r ∧ r ≤ 24) ∧ 1 ≤ c ∧ c ≤ 24 from h.1) (by assumption))  _    lE
theorem C.impl_DrawField {r c x : Int} {sh : Nat} {H : Hp} {K : Value → Hp → Prop}
    (hk1 : ¬ drP r c x sh → ∀ H', Le H H' → K (.tuple #[(.agg #[(.int .i64 (0)), (.int .i64 (0)), (.slice none 0 0)]), (.int .i64 (0)), (.bool false)]) H')
    (hk2 : drP r c x sh → ∀ u1 H', Own eI H' u1 (drL r c x sh) → Nw H u1 → Le H H' → K (.tuple #[(.agg #[(.int .i64 (r)), (.int .i64 (c)), u1]), (.int .i64 (sdS x (r.toNat * c.toNat))), (.bool true)]) H') : HT prg I.impl_DrawField [(.int .i64 (r)), (.int .i64 (c)), (.float .f32 sh), (.int .i64 (x))].toArray H K := by
  have lE := Le.refl H
  refine R.impl_DrawField ?_
  unfold F.impl_DrawField
  refine nw_i (fun p1 H2 op1 nn3 le4 => ?_)
  have np1 : Nw H p1 := nn3.le lE
  replace lE := lE.trans le4
  replace op1 : Cel H2 p1 [(.float .f32 sh)] := op1
  refine nw_i (fun p5 H6 op5 nn7 le8 => ?_)
  have ap1Xp5 : Apart p1 p5 := op1.apart nn7
  have np5 : Nw H p5 := nn7.le lE
  replace op1 := op1.le le8
  replace lE := lE.trans le8
  replace op5 : Cel H6 p5 [(.int .i64 (x))] := op5
  refine nw_i (fun p9 H10 op9 nn11 le12 => ?_)
  have ap1Xp9 : Apart p1 p9 := op1.apart nn11
  have ap5Xp9 : Apart p5 p9 := op5.apart nn11
  have np9 : Nw H p9 := nn11.le lE
  replace op1 := op1.le le12
  replace op5 := op5.le le12
  replace lE := lE.trans le12
  replace op9 : Cel H10 p9 [(.int .i64 (0)), (.int .i64 (0)), (.slice none 0 0)] := op9
  refine C.impl_isSide  ?_
  refine ob_nd (fun hc13 => ?_) (fun hc13 => ?_)
  · skip
    refine gop_rf ?_
    refine gop_rf ?_
    refine C.impl_isSide  ?_
    refine gop_rf ?_
    refine ob_nd (fun hc14 => ?_) (fun hc14 => ?_)
    · skip
      have hs : sidesF r c := ⟨by assumption, hc14⟩
      have qm := sidesF_mul hs
      have q1 := hs.1
      have q2 := hs.2
      have qc : ((r.toNat * c.toNat : Nat) : Int) = r * c := by rw [← Int.toNat_mul (by omega) (by omega)]; omega
      refine ob_i (vPick_f _ _) ?_
      refine gop_rf ?_
      refine ob_i (op1.ld0 rfl) ?_
      refine gop_rf ?_
      refine C.impl_isShare  (fun   H15    le16 => ?_)
      replace op1 := op1.le le16
      replace op5 := op5.le le16
      replace op9 := op9.le le16
      replace lE := lE.trans le16
      refine gop_rf ?_
      refine ob_nd (fun hc17 => ?_) (fun hc17 => ?_)
      · skip
        refine ob_i (vPick_f _ _) ?_
        refine gop_rf ?_
        refine ob_i (op5.ld0 rfl) ?_
        refine gop_rf ?_
        refine C.impl_isSeed  (fun   H18    le19 => ?_)
        replace op1 := op1.le le19
        replace op5 := op5.le le19
        replace op9 := op9.le le19
        replace lE := lE.trans le19
        refine gop_rf ?_
        refine ob_nd (fun hc20 => ?_) (fun hc20 => ?_)
        · skip
          have sb := sdS_bnd (x := x) (by omega) (by omega)
          refine ob_i (vPick_f _ _) ?_
          refine cnd_f1 ?_
          refine C.impl_madeField_cell (g := drG c x sh) (sd := sdS x) (by omega) (by omega) (by omega) (by omega) op5 (fun Ha25 i25 k25 Z ofa25 opa25 hi25 hk25 hZ => ?_) (fun u21 H22 ou21 nn23 opE25 off24 => ?_)
          · refine ⟨by kernel_rfl, ?_⟩
            replace op1 := op1.off ofa25 ap1Xp5
            replace op9 := op9.off ofa25 ap5Xp9.symm
            replace lE := ofa25.le lE np5
            have op5 := opa25
            replace op5 : Cel Ha25 p5 [(.int .i64 (sdS x (i25 * (c : Int).toNat + k25)))] := op5
            have ofq25 := Off.of_le (v := p5) (Le.refl Ha25)
            have si := sb (i25 * c.toNat + k25)
            have sj := sb (i25 * c.toNat + k25 + 1)
            have ej : sdS x (i25 * c.toNat + k25 + 1) = nxS (sdS x (i25 * c.toNat + k25)) := rfl
            refine R.impl_DrawField_1 ?_
            unfold F.impl_DrawField_1
            refine ob_i (op5.ld0 rfl) ?_
            refine C.impl_nextSeed (by first | omega | assumption) (by first | omega | assumption) ?_
            refine op5.st0 (by simp) rfl rfl (fun H26 op5 off27 => ?_)
            replace op1 := op1.off off27 ap1Xp5
            replace op9 := op9.off off27 ap5Xp9.symm
            replace lE := off27.le lE np5
            replace ofq25 := ofq25.trans off27
            replace op5 : Cel H26 p5 [(.int .i64 (nxS (sdS x (i25 * (c : Int).toNat + k25))))] := op5
            refine ob_i (op5.ld0 rfl) ?_
            refine ob_i (op1.ld0 rfl) ?_
            have lq28 := Le.refl H26
            refine R.impl_shareOf ?_
            unfold F.impl_shareOf
            refine ob_i (vInt_quoN (by omega) (by omega) (by omega)) ?_
            refine ob_i (a := (.float .f32 (FloatKind.nearest .f32 ((nxS (sdS x (i25 * (c : Int).toNat + k25))) / 256)))) rfl ?_
            refine fA_i (o := (FloatKind.f32.format.div (FloatKind.nearest .f32 ((nxS (sdS x (i25 * (c : Int).toNat + k25))) / 256)) 1266679808)) rfl (fun t => nan_bits32 _ _ t) (fun z29 hz29 => ?_)
            refine ⟨lq28, ?_⟩
            refine ob_i (vF_lss _ _) ?_
            refine C.impl_bit  ?_
            refine ⟨Le.refl _, ?_⟩
            have eN : (((i25 : Int) * c + (k25 : Int)).toNat) = i25 * c.toNat + k25 := by rw [← cast_ix (by omega)]; rfl
            have eQ : (if (fLt z29 sh) = true then 1 else 0) = drG c x sh (i25 : Int) (k25 : Int) := by unfold drG; rw [eN, show fLt z29 sh = shB (sdS x (i25 * c.toNat + k25 + 1)) sh from fLtO_of hz29]
            exact keq (K := Z) (by rw [eQ]) (hZ _ (Cel.cast (by first | rfl | simp) op5) ofq25)
          have ap1Xu21 : Apart p1 u21 := op1.apart nn23
          have ap5Xu21 : Apart p5 u21 := op5.apart nn23
          have ap9Xu21 : Apart p9 u21 := op9.apart nn23
          have nu21 : Nw H u21 := nn23.le lE
          replace op1 := op1.off off24 ap1Xp5
          replace op9 := op9.off off24 ap5Xp9.symm
          replace lE := off24.le lE np5
          have op5 := opE25
          replace op5 : Cel H22 p5 [(.int .i64 (sdS x ((r : Int).toNat * (c : Int).toNat)))] := op5
          refine nw_i (fun p30 H31 op30 nn32 le33 => ?_)
          have ap1Xp30 : Apart p1 p30 := op1.apart nn32
          have ap5Xp30 : Apart p5 p30 := op5.apart nn32
          have ap9Xp30 : Apart p9 p30 := op9.apart nn32
          have au21Xp30 : Apart u21 p30 := ou21.apart nn32
          have np30 : Nw H p30 := nn32.le lE
          replace op1 := op1.le le33
          replace op5 := op5.le le33
          replace op9 := op9.le le33
          replace ou21 := ou21.le le33
          replace lE := lE.trans le33
          replace op30 : Cel H31 p30 [(.int .i64 (0)), (.int .i64 (0)), (.slice none 0 0)] := op30
          refine op30.stn (ws := [(.int .i64 (r)), (.int .i64 (c)), u21]) rfl rfl (oc1 rfl (oc1 rfl (oc1 ou21.one oc0))) (fun H34 op30 off35 => ?_)
          replace op1 := op1.off off35 ap1Xp30
          replace op5 := op5.off off35 ap5Xp30
          replace op9 := op9.off off35 ap9Xp30
          replace ou21 := ou21.off off35 au21Xp30
          replace lE := off35.le lE np30
          replace op30 : Cel H34 p30 [(.int .i64 (r)), (.int .i64 (c)), u21] := op30
          refine ⟨?_, ?_⟩
          · skip
            refine ob_i (op30.ldn rfl) ?_
            refine ob_i (op5.ld0 rfl) ?_
            refine op9.stn (ws := [(.int .i64 (r)), (.int .i64 (c)), u21]) rfl rfl (oc1 rfl (oc1 rfl (oc1 ou21.one oc0))) (fun H36 op9 off37 => ?_)
            replace op1 := op1.off off37 ap1Xp9
            replace op5 := op5.off off37 ap5Xp9
            replace ou21 := ou21.off off37 ap9Xu21.symm
            replace op30 := op30.off off37 ap9Xp30.symm
            replace lE := off37.le lE np9
            replace op9 : Cel H36 p9 [(.int .i64 (r)), (.int .i64 (c)), u21] := op9
            refine ob_i (op9.ldn rfl) ?_
            skip
            exact keq (K := K) (by rw [show ((sdS x ((r : Int).toNat * (c : Int).toNat)) : Int) = (sdS x (r.toNat * c.toNat)) from by omega]) (hk2 (by exact ⟨hs, by assumption, by omega⟩) u21 _ (Own.cast (show mkL (c) (drG c x sh) ((r : Int).toNat * (c : Int).toNat) = drL r c x sh by first | rfl | simp) ou21) nu21  lE)
          · skip
            refine ob_i (op30.ldn rfl) ?_
            refine op9.stn (ws := [(.int .i64 (r)), (.int .i64 (c)), u21]) rfl rfl (oc1 rfl (oc1 rfl (oc1 ou21.one oc0))) (fun H38 op9 off39 => ?_)
            replace op1 := op1.off off39 ap1Xp9
            replace op5 := op5.off off39 ap5Xp9
            replace ou21 := ou21.off off39 ap9Xu21.symm
            replace op30 := op30.off off39 ap9Xp30.symm
            replace lE := off39.le lE np9
            replace op9 : Cel H38 p9 [(.int .i64 (r)), (.int .i64 (c)), u21] := op9
            refine ob_i (op5.ld0 rfl) ?_
            refine ob_i (op9.ldn rfl) ?_
            skip
            exact keq (K := K) (by rw [show ((sdS x ((r : Int).toNat * (c : Int).toNat)) : Int) = (sdS x (r.toNat * c.toNat)) from by omega]) (hk2 (by exact ⟨hs, by assumption, by omega⟩) u21 _ (Own.cast (show mkL (c) (drG c x sh) ((r : Int).toNat * (c : Int).toNat) = drL r c x sh by first | rfl | simp) ou21) nu21  lE)
        · skip
          refine ob_i (vPick_f _ _) ?_
          refine cnd_t1 ?_
          refine ob_i (a := (.agg #[(.int .i64 (0)), (.int .i64 (0)), (.slice none 0 0)])) (by rfl) ?_
          refine op9.stn (ws := [(.int .i64 (0)), (.int .i64 (0)), (.slice none 0 0)]) rfl rfl (oc1 rfl (oc1 rfl (oc1 rfl oc0))) (fun H40 op9 off41 => ?_)
          replace op1 := op1.off off41 ap1Xp9
          replace op5 := op5.off off41 ap5Xp9
          replace lE := off41.le lE np9
          replace op9 : Cel H40 p9 [(.int .i64 (0)), (.int .i64 (0)), (.slice none 0 0)] := op9
          refine ob_i (op9.ldn rfl) ?_
          skip
          exact hk1 (by intro h; have h1 := h.1.1; have h2 := h.1.2; have h3 := h.2.2; first | omega | exact absurd h.2.1 (by assumption) | exact absurd (show (1 ≤ r ∧ r ≤ 24) ∧ 1 ≤ c ∧ c ≤ 24 from h.1) (by assumption))  _    lE
      · skip
        refine ob_i (vPick_f _ _) ?_
        refine gop_st ?_
        refine gop_st ?_
        refine gop_st ?_
        refine ob_i (vPick_t _ _) ?_
        refine cnd_t1 ?_
        refine ob_i (a := (.agg #[(.int .i64 (0)), (.int .i64 (0)), (.slice none 0 0)])) (by rfl) ?_
        refine op9.stn (ws := [(.int .i64 (0)), (.int .i64 (0)), (.slice none 0 0)]) rfl rfl (oc1 rfl (oc1 rfl (oc1 rfl oc0))) (fun H42 op9 off43 => ?_)
        replace op1 := op1.off off43 ap1Xp9
        replace op5 := op5.off off43 ap5Xp9
        replace lE := off43.le lE np9
        replace op9 : Cel H42 p9 [(.int .i64 (0)), (.int .i64 (0)), (.slice none 0 0)] := op9
        refine ob_i (op9.ldn rfl) ?_
        skip
        exact hk1 (by intro h; have h1 := h.1.1; have h2 := h.1.2; have h3 := h.2.2; first | omega | exact absurd h.2.1 (by assumption) | exact absurd (show (1 ≤ r ∧ r ≤ 24) ∧ 1 ≤ c ∧ c ≤ 24 from h.1) (by assumption))  _    lE
    · skip
      refine ob_i (vPick_f _ _) ?_
      refine gop_st ?_
      refine gop_st ?_
      refine gop_st ?_
      refine ob_i (vPick_t _ _) ?_
      refine gop_st ?_
      refine gop_st ?_
      refine gop_st ?_
      refine ob_i (vPick_t _ _) ?_
      refine cnd_t1 ?_
      refine ob_i (a := (.agg #[(.int .i64 (0)), (.int .i64 (0)), (.slice none 0 0)])) (by rfl) ?_
      refine op9.stn (ws := [(.int .i64 (0)), (.int .i64 (0)), (.slice none 0 0)]) rfl rfl (oc1 rfl (oc1 rfl (oc1 rfl oc0))) (fun H44 op9 off45 => ?_)
      replace op1 := op1.off off45 ap1Xp9
      replace op5 := op5.off off45 ap5Xp9
      replace lE := off45.le lE np9
      replace op9 : Cel H44 p9 [(.int .i64 (0)), (.int .i64 (0)), (.slice none 0 0)] := op9
      refine ob_i (op9.ldn rfl) ?_
      skip
      exact hk1 (by intro h; have h1 := h.1.1; have h2 := h.1.2; have h3 := h.2.2; first | omega | exact absurd h.2.1 (by assumption) | exact absurd (show (1 ≤ r ∧ r ≤ 24) ∧ 1 ≤ c ∧ c ≤ 24 from h.1) (by assumption))  _    lE
  · skip
    refine gop_st ?_
    refine gop_st ?_
    refine gop_st ?_
    refine ob_i (vPick_t _ _) ?_
    refine gop_st ?_
    refine gop_st ?_
    refine gop_st ?_
    refine ob_i (vPick_t _ _) ?_
    refine gop_st ?_
    refine gop_st ?_
    refine gop_st ?_
    refine ob_i (vPick_t _ _) ?_
    refine cnd_t1 ?_
    refine ob_i (a := (.agg #[(.int .i64 (0)), (.int .i64 (0)), (.slice none 0 0)])) (by rfl) ?_
    refine op9.stn (ws := [(.int .i64 (0)), (.int .i64 (0)), (.slice none 0 0)]) rfl rfl (oc1 rfl (oc1 rfl (oc1 rfl oc0))) (fun H46 op9 off47 => ?_)
    replace op1 := op1.off off47 ap1Xp9
    replace op5 := op5.off off47 ap5Xp9
    replace lE := off47.le lE np9
    replace op9 : Cel H46 p9 [(.int .i64 (0)), (.int .i64 (0)), (.slice none 0 0)] := op9
    refine ob_i (op9.ldn rfl) ?_
    skip
    exact hk1 (by intro h; have h1 := h.1.1; have h2 := h.1.2; have h3 := h.2.2; first | omega | exact absurd h.2.1 (by assumption) | exact absurd (show (1 ≤ r ∧ r ≤ 24) ∧ 1 ≤ c ∧ c ≤ 24 from h.1) (by assumption))  _    lE
theorem C.spec_l05Soup {w vb vs : Value} {r x st : Int} {b : List Int} {s : List Int} {sh : Nat} {H : Hp} {K : Value → Hp → Prop} (hw0 : Cel H w [vb, vs]) (hvb0 : Sl eI H vb b) (hvs0 : Sl eI H vs s) (kb : b.length ≤ 9223372036854775807) (ks : s.length ≤ 9223372036854775807)
    (hk1 : ¬ soP b s r sh x st → ∀ H', Le H H' → K (.tuple #[(.agg #[(.int .i64 (0)), (.int .i64 (0)), (.slice none 0 0)]), (.int .i64 (0)), (.bool false)]) H')
    (hk2 : soP b s r sh x st → ∀ u1 H', Own eI H' u1 (soL b s r x sh st.toNat) → Nw H u1 → Le H H' → K (.tuple #[(.agg #[(.int .i64 (r)), (.int .i64 (r)), u1]), (.int .i64 (sdS x (r.toNat * r.toNat))), (.bool true)]) H') : HT prg I.spec_l05Soup [w, (.int .i64 (r)), (.float .f32 sh), (.int .i64 (x)), (.int .i64 (st))].toArray H K := by
  have lE := Le.refl H
  have hw := hw0
  have hvb := hvb0
  have hvs := hvs0
  refine R.spec_l05Soup ?_
  unfold F.spec_l05Soup
  refine nw_i (fun p1 H2 op1 nn3 le4 => ?_)
  have np1 : Nw H p1 := nn3.le lE
  replace hw := hw.le le4
  replace hvb := hvb.le le4
  replace hvs := hvs.le le4
  replace lE := lE.trans le4
  replace op1 : Cel H2 p1 [(.int .i64 (0)), (.int .i64 (0)), (.slice none 0 0)] := op1
  refine C.spec_l04Life hw hvb hvs (by first | omega | assumption) (by first | omega | assumption) (fun   H5    le6 => ?_)
  replace op1 := op1.le le6
  replace hw := hw.le le6
  replace hvb := hvb.le le6
  replace hvs := hvs.le le6
  replace lE := lE.trans le6
  refine ob_nd (fun hc7 => ?_) (fun hc7 => ?_)
  · skip
    refine gop_rf ?_
    refine gop_rf ?_
    refine C.spec_l00In  ?_
    refine gop_rf ?_
    refine ob_nd (fun hc8 => ?_) (fun hc8 => ?_)
    · skip
      refine ob_i (vPick_f _ _) ?_
      refine cnd_f1 ?_
      refine C.spec_DrawField  (fun hc9  H10    le11 => ?_) (fun hc12 u15 H13 ou15 nn16  le14 => ?_)
      · skip
        replace op1 := op1.le le11
        replace hw := hw.le le11
        replace hvb := hvb.le le11
        replace hvs := hvs.le le11
        replace lE := lE.trans le11
        refine ob_i (vExt_30 _ _ _) ?_
        refine ob_i (vExt_31 _ _ _) ?_
        refine ob_i (vExt_32 _ _ _) ?_
        refine nw_i (fun p17 H18 op17 nn19 le20 => ?_)
        have ap1Xp17 : Apart p1 p17 := op1.apart nn19
        have np17 : Nw H p17 := nn19.le lE
        replace op1 := op1.le le20
        replace hw := hw.le le20
        replace hvb := hvb.le le20
        replace hvs := hvs.le le20
        replace lE := lE.trans le20
        replace op17 : Cel H18 p17 [(.int .i64 (0)), (.int .i64 (0)), (.slice none 0 0)] := op17
        refine op17.stn (ws := [(.int .i64 (0)), (.int .i64 (0)), (.slice none 0 0)]) rfl rfl (oc1 rfl (oc1 rfl (oc1 rfl oc0))) (fun H21 op17 off22 => ?_)
        replace op1 := op1.off off22 ap1Xp17
        replace hw := hw0.le (off22.le lE np17)
        replace hvb := hvb0.le (off22.le lE np17)
        replace hvs := hvs0.le (off22.le lE np17)
        replace lE := off22.le lE np17
        replace op17 : Cel H21 p17 [(.int .i64 (0)), (.int .i64 (0)), (.slice none 0 0)] := op17
        refine ob_i (a := .bool true) rfl ?_
        refine cnd_t1 ?_
        refine ob_i (a := (.agg #[(.int .i64 (0)), (.int .i64 (0)), (.slice none 0 0)])) (by rfl) ?_
        refine op1.stn (ws := [(.int .i64 (0)), (.int .i64 (0)), (.slice none 0 0)]) rfl rfl (oc1 rfl (oc1 rfl (oc1 rfl oc0))) (fun H23 op1 off24 => ?_)
        replace op17 := op17.off off24 ap1Xp17.symm
        replace hw := hw0.le (off24.le lE np1)
        replace hvb := hvb0.le (off24.le lE np1)
        replace hvs := hvs0.le (off24.le lE np1)
        replace lE := off24.le lE np1
        replace op1 : Cel H23 p1 [(.int .i64 (0)), (.int .i64 (0)), (.slice none 0 0)] := op1
        refine ob_i (op1.ldn rfl) ?_
        skip
        exact hk1 (by intro h; first | exact absurd h.1 (by assumption) | exact absurd h.2.1 (by assumption) | exact absurd h.2.2 (by assumption))  _    lE
      · skip
        have hs := hc12.1
        have hf : fieldN 1 r r (drL r r x sh) := drL_field hs
        have l1 := fieldN_len hf
        have ap1Xu15 : Apart p1 u15 := op1.apart nn16
        have nu15 : Nw H u15 := nn16.le lE
        replace op1 := op1.le le14
        replace hw := hw.le le14
        replace hvb := hvb.le le14
        replace hvs := hvs.le le14
        replace lE := lE.trans le14
        refine ob_i (vExt_30 _ _ _) ?_
        refine ob_i (vExt_31 _ _ _) ?_
        refine ob_i (vExt_32 _ _ _) ?_
        refine nw_i (fun p25 H26 op25 nn27 le28 => ?_)
        have ap1Xp25 : Apart p1 p25 := op1.apart nn27
        have au15Xp25 : Apart u15 p25 := ou15.apart nn27
        have np25 : Nw H p25 := nn27.le lE
        replace op1 := op1.le le28
        replace ou15 := ou15.le le28
        replace hw := hw.le le28
        replace hvb := hvb.le le28
        replace hvs := hvs.le le28
        replace lE := lE.trans le28
        replace op25 : Cel H26 p25 [(.int .i64 (0)), (.int .i64 (0)), (.slice none 0 0)] := op25
        refine op25.stn (ws := [(.int .i64 (r)), (.int .i64 (r)), u15]) rfl rfl (oc1 rfl (oc1 rfl (oc1 ou15.one oc0))) (fun H29 op25 off30 => ?_)
        replace op1 := op1.off off30 ap1Xp25
        replace ou15 := ou15.off off30 au15Xp25
        replace hw := hw0.le (off30.le lE np25)
        replace hvb := hvb0.le (off30.le lE np25)
        replace hvs := hvs0.le (off30.le lE np25)
        replace lE := off30.le lE np25
        replace op25 : Cel H29 p25 [(.int .i64 (r)), (.int .i64 (r)), u15] := op25
        refine ob_i (a := .bool false) rfl ?_
        refine cnd_f1 ?_
        refine C.spec_l04Run hw op25 hvb hvs ou15.sl (by first | omega | assumption) (by first | omega | assumption) (by first | omega | assumption) (by first | omega | assumption) (by first | omega | assumption) (fun  u33 H31 ou33 nn34  le32 => ?_)
        have ap1Xu33 : Apart p1 u33 := op1.apart nn34
        have au15Xu33 : Apart u15 u33 := ou15.apart nn34
        have ap25Xu33 : Apart p25 u33 := op25.apart nn34
        have nu33 : Nw H u33 := nn34.le lE
        replace op1 := op1.le le32
        replace ou15 := ou15.le le32
        replace op25 := op25.le le32
        replace hw := hw.le le32
        replace hvb := hvb.le le32
        replace hvs := hvs.le le32
        replace lE := lE.trans le32
        refine op1.stn (ws := [(.int .i64 (r)), (.int .i64 (r)), u33]) rfl rfl (oc1 rfl (oc1 rfl (oc1 ou33.one oc0))) (fun H35 op1 off36 => ?_)
        replace ou15 := ou15.off off36 ap1Xu15.symm
        replace op25 := op25.off off36 ap1Xp25.symm
        replace ou33 := ou33.off off36 ap1Xu33.symm
        replace hw := hw0.le (off36.le lE np1)
        replace hvb := hvb0.le (off36.le lE np1)
        replace hvs := hvs0.le (off36.le lE np1)
        replace lE := off36.le lE np1
        replace op1 : Cel H35 p1 [(.int .i64 (r)), (.int .i64 (r)), u33] := op1
        refine ob_i (op1.ldn rfl) ?_
        skip
        exact hk2 (by exact ⟨by assumption, by assumption, by assumption⟩) u33 _ (Own.cast (show rnL true b s r r (drL r r x sh) st.toNat = soL b s r x sh st.toNat by rfl) ou33) nu33  lE
    · skip
      refine ob_i (vPick_f _ _) ?_
      refine cnd_t1 ?_
      refine ob_i (a := (.agg #[(.int .i64 (0)), (.int .i64 (0)), (.slice none 0 0)])) (by rfl) ?_
      refine op1.stn (ws := [(.int .i64 (0)), (.int .i64 (0)), (.slice none 0 0)]) rfl rfl (oc1 rfl (oc1 rfl (oc1 rfl oc0))) (fun H37 op1 off38 => ?_)
      replace hw := hw0.le (off38.le lE np1)
      replace hvb := hvb0.le (off38.le lE np1)
      replace hvs := hvs0.le (off38.le lE np1)
      replace lE := off38.le lE np1
      replace op1 : Cel H37 p1 [(.int .i64 (0)), (.int .i64 (0)), (.slice none 0 0)] := op1
      refine ob_i (op1.ldn rfl) ?_
      skip
      exact hk1 (by intro h; first | exact absurd h.1 (by assumption) | exact absurd h.2.1 (by assumption) | exact absurd h.2.2 (by assumption))  _    lE
  · skip
    refine gop_st ?_
    refine gop_st ?_
    refine gop_st ?_
    refine ob_i (vPick_t _ _) ?_
    refine cnd_t1 ?_
    refine ob_i (a := (.agg #[(.int .i64 (0)), (.int .i64 (0)), (.slice none 0 0)])) (by rfl) ?_
    refine op1.stn (ws := [(.int .i64 (0)), (.int .i64 (0)), (.slice none 0 0)]) rfl rfl (oc1 rfl (oc1 rfl (oc1 rfl oc0))) (fun H39 op1 off40 => ?_)
    replace hw := hw0.le (off40.le lE np1)
    replace hvb := hvb0.le (off40.le lE np1)
    replace hvs := hvs0.le (off40.le lE np1)
    replace lE := off40.le lE np1
    replace op1 : Cel H39 p1 [(.int .i64 (0)), (.int .i64 (0)), (.slice none 0 0)] := op1
    refine ob_i (op1.ldn rfl) ?_
    skip
    exact hk1 (by intro h; first | exact absurd h.1 (by assumption) | exact absurd h.2.1 (by assumption) | exact absurd h.2.2 (by assumption))  _    lE
theorem C.impl_soup {vb vs : Value} {r x st : Int} {b : List Int} {s : List Int} {sh : Nat} {H : Hp} {K : Value → Hp → Prop} (hvb0 : Sl eI H vb b) (hvs0 : Sl eI H vs s) (kb : b.length ≤ 9223372036854775807) (ks : s.length ≤ 9223372036854775807)
    (hk1 : ¬ soP b s r sh x st → ∀ H', Le H H' → K (.tuple #[(.agg #[(.int .i64 (0)), (.int .i64 (0)), (.slice none 0 0)]), (.int .i64 (0)), (.bool false)]) H')
    (hk2 : soP b s r sh x st → ∀ u1 H', Own eI H' u1 (soL b s r x sh st.toNat) → Nw H u1 → Le H H' → K (.tuple #[(.agg #[(.int .i64 (r)), (.int .i64 (r)), u1]), (.int .i64 (sdS x (r.toNat * r.toNat))), (.bool true)]) H') : HT prg I.impl_soup [(.agg #[vb, vs]), (.int .i64 (r)), (.float .f32 sh), (.int .i64 (x)), (.int .i64 (st))].toArray H K := by
  have lE := Le.refl H
  have hvb := hvb0
  have hvs := hvs0
  refine R.impl_soup ?_
  unfold F.impl_soup
  refine nw_i (fun p1 H2 op1 nn3 le4 => ?_)
  have np1 : Nw H p1 := nn3.le lE
  replace hvb := hvb.le le4
  replace hvs := hvs.le le4
  replace lE := lE.trans le4
  replace op1 : Cel H2 p1 [vb, vs] := op1
  refine nw_i (fun p5 H6 op5 nn7 le8 => ?_)
  have ap1Xp5 : Apart p1 p5 := op1.apart nn7
  have np5 : Nw H p5 := nn7.le lE
  replace op1 := op1.le le8
  replace hvb := hvb.le le8
  replace hvs := hvs.le le8
  replace lE := lE.trans le8
  replace op5 : Cel H6 p5 [(.int .i64 (0)), (.int .i64 (0)), (.slice none 0 0)] := op5
  refine ob_i (op1.ldn rfl) ?_
  refine C.impl_ValidLife hvb hvs (by first | omega | assumption) (by first | omega | assumption) (fun   H9    le10 => ?_)
  replace op1 := op1.le le10
  replace op5 := op5.le le10
  replace hvb := hvb.le le10
  replace hvs := hvs.le le10
  replace lE := lE.trans le10
  refine ob_nd (fun hc11 => ?_) (fun hc11 => ?_)
  · skip
    refine gop_rf ?_
    refine gop_rf ?_
    refine C.impl_within  ?_
    refine gop_rf ?_
    refine ob_nd (fun hc12 => ?_) (fun hc12 => ?_)
    · skip
      refine ob_i (vPick_f _ _) ?_
      refine cnd_f1 ?_
      refine C.impl_DrawField  (fun hc13  H14    le15 => ?_) (fun hc16 u19 H17 ou19 nn20  le18 => ?_)
      · skip
        replace op1 := op1.le le15
        replace op5 := op5.le le15
        replace hvb := hvb.le le15
        replace hvs := hvs.le le15
        replace lE := lE.trans le15
        refine ob_i (vExt_30 _ _ _) ?_
        refine ob_i (vExt_31 _ _ _) ?_
        refine ob_i (vExt_32 _ _ _) ?_
        refine nw_i (fun p21 H22 op21 nn23 le24 => ?_)
        have ap1Xp21 : Apart p1 p21 := op1.apart nn23
        have ap5Xp21 : Apart p5 p21 := op5.apart nn23
        have np21 : Nw H p21 := nn23.le lE
        replace op1 := op1.le le24
        replace op5 := op5.le le24
        replace hvb := hvb.le le24
        replace hvs := hvs.le le24
        replace lE := lE.trans le24
        replace op21 : Cel H22 p21 [(.int .i64 (0)), (.int .i64 (0)), (.slice none 0 0)] := op21
        refine op21.stn (ws := [(.int .i64 (0)), (.int .i64 (0)), (.slice none 0 0)]) rfl rfl (oc1 rfl (oc1 rfl (oc1 rfl oc0))) (fun H25 op21 off26 => ?_)
        replace op1 := op1.off off26 ap1Xp21
        replace op5 := op5.off off26 ap5Xp21
        replace hvb := hvb0.le (off26.le lE np21)
        replace hvs := hvs0.le (off26.le lE np21)
        replace lE := off26.le lE np21
        replace op21 : Cel H25 p21 [(.int .i64 (0)), (.int .i64 (0)), (.slice none 0 0)] := op21
        refine ob_i (a := .bool true) rfl ?_
        refine cnd_t1 ?_
        refine ob_i (a := (.agg #[(.int .i64 (0)), (.int .i64 (0)), (.slice none 0 0)])) (by rfl) ?_
        refine op5.stn (ws := [(.int .i64 (0)), (.int .i64 (0)), (.slice none 0 0)]) rfl rfl (oc1 rfl (oc1 rfl (oc1 rfl oc0))) (fun H27 op5 off28 => ?_)
        replace op1 := op1.off off28 ap1Xp5
        replace op21 := op21.off off28 ap5Xp21.symm
        replace hvb := hvb0.le (off28.le lE np5)
        replace hvs := hvs0.le (off28.le lE np5)
        replace lE := off28.le lE np5
        replace op5 : Cel H27 p5 [(.int .i64 (0)), (.int .i64 (0)), (.slice none 0 0)] := op5
        refine ob_i (op5.ldn rfl) ?_
        skip
        exact hk1 (by intro h; first | exact absurd h.1 (by assumption) | exact absurd h.2.1 (by assumption) | exact absurd h.2.2 (by assumption))  _    lE
      · skip
        have hs := hc16.1
        have hf : fieldN 1 r r (drL r r x sh) := drL_field hs
        have l1 := fieldN_len hf
        have ap1Xu19 : Apart p1 u19 := op1.apart nn20
        have ap5Xu19 : Apart p5 u19 := op5.apart nn20
        have nu19 : Nw H u19 := nn20.le lE
        replace op1 := op1.le le18
        replace op5 := op5.le le18
        replace hvb := hvb.le le18
        replace hvs := hvs.le le18
        replace lE := lE.trans le18
        refine ob_i (vExt_30 _ _ _) ?_
        refine ob_i (vExt_31 _ _ _) ?_
        refine ob_i (vExt_32 _ _ _) ?_
        refine nw_i (fun p29 H30 op29 nn31 le32 => ?_)
        have ap1Xp29 : Apart p1 p29 := op1.apart nn31
        have ap5Xp29 : Apart p5 p29 := op5.apart nn31
        have au19Xp29 : Apart u19 p29 := ou19.apart nn31
        have np29 : Nw H p29 := nn31.le lE
        replace op1 := op1.le le32
        replace op5 := op5.le le32
        replace ou19 := ou19.le le32
        replace hvb := hvb.le le32
        replace hvs := hvs.le le32
        replace lE := lE.trans le32
        replace op29 : Cel H30 p29 [(.int .i64 (0)), (.int .i64 (0)), (.slice none 0 0)] := op29
        refine op29.stn (ws := [(.int .i64 (r)), (.int .i64 (r)), u19]) rfl rfl (oc1 rfl (oc1 rfl (oc1 ou19.one oc0))) (fun H33 op29 off34 => ?_)
        replace op1 := op1.off off34 ap1Xp29
        replace op5 := op5.off off34 ap5Xp29
        replace ou19 := ou19.off off34 au19Xp29
        replace hvb := hvb0.le (off34.le lE np29)
        replace hvs := hvs0.le (off34.le lE np29)
        replace lE := off34.le lE np29
        replace op29 : Cel H33 p29 [(.int .i64 (r)), (.int .i64 (r)), u19] := op29
        refine ob_i (a := .bool false) rfl ?_
        refine cnd_f1 ?_
        refine ob_i (op1.ldn rfl) ?_
        refine ob_i (op29.ldn rfl) ?_
        refine C.impl_Life_run hvb hvs ou19.sl (by first | omega | assumption) (by first | omega | assumption) (by first | omega | assumption) (by first | omega | assumption) (by first | omega | assumption) (fun  u37 H35 ou37 nn38  le36 => ?_)
        have ap1Xu37 : Apart p1 u37 := op1.apart nn38
        have ap5Xu37 : Apart p5 u37 := op5.apart nn38
        have au19Xu37 : Apart u19 u37 := ou19.apart nn38
        have ap29Xu37 : Apart p29 u37 := op29.apart nn38
        have nu37 : Nw H u37 := nn38.le lE
        replace op1 := op1.le le36
        replace op5 := op5.le le36
        replace ou19 := ou19.le le36
        replace op29 := op29.le le36
        replace hvb := hvb.le le36
        replace hvs := hvs.le le36
        replace lE := lE.trans le36
        refine op5.stn (ws := [(.int .i64 (r)), (.int .i64 (r)), u37]) rfl rfl (oc1 rfl (oc1 rfl (oc1 ou37.one oc0))) (fun H39 op5 off40 => ?_)
        replace op1 := op1.off off40 ap1Xp5
        replace ou19 := ou19.off off40 ap5Xu19.symm
        replace op29 := op29.off off40 ap5Xp29.symm
        replace ou37 := ou37.off off40 ap5Xu37.symm
        replace hvb := hvb0.le (off40.le lE np5)
        replace hvs := hvs0.le (off40.le lE np5)
        replace lE := off40.le lE np5
        replace op5 : Cel H39 p5 [(.int .i64 (r)), (.int .i64 (r)), u37] := op5
        refine ob_i (op5.ldn rfl) ?_
        skip
        exact hk2 (by exact ⟨by assumption, by assumption, by assumption⟩) u37 _ (Own.cast (show rnL true b s r r (drL r r x sh) st.toNat = soL b s r x sh st.toNat by rfl) ou37) nu37  lE
    · skip
      refine ob_i (vPick_f _ _) ?_
      refine cnd_t1 ?_
      refine ob_i (a := (.agg #[(.int .i64 (0)), (.int .i64 (0)), (.slice none 0 0)])) (by rfl) ?_
      refine op5.stn (ws := [(.int .i64 (0)), (.int .i64 (0)), (.slice none 0 0)]) rfl rfl (oc1 rfl (oc1 rfl (oc1 rfl oc0))) (fun H41 op5 off42 => ?_)
      replace op1 := op1.off off42 ap1Xp5
      replace hvb := hvb0.le (off42.le lE np5)
      replace hvs := hvs0.le (off42.le lE np5)
      replace lE := off42.le lE np5
      replace op5 : Cel H41 p5 [(.int .i64 (0)), (.int .i64 (0)), (.slice none 0 0)] := op5
      refine ob_i (op5.ldn rfl) ?_
      skip
      exact hk1 (by intro h; first | exact absurd h.1 (by assumption) | exact absurd h.2.1 (by assumption) | exact absurd h.2.2 (by assumption))  _    lE
  · skip
    refine gop_st ?_
    refine gop_st ?_
    refine gop_st ?_
    refine ob_i (vPick_t _ _) ?_
    refine cnd_t1 ?_
    refine ob_i (a := (.agg #[(.int .i64 (0)), (.int .i64 (0)), (.slice none 0 0)])) (by rfl) ?_
    refine op5.stn (ws := [(.int .i64 (0)), (.int .i64 (0)), (.slice none 0 0)]) rfl rfl (oc1 rfl (oc1 rfl (oc1 rfl oc0))) (fun H43 op5 off44 => ?_)
    replace op1 := op1.off off44 ap1Xp5
    replace hvb := hvb0.le (off44.le lE np5)
    replace hvs := hvs0.le (off44.le lE np5)
    replace lE := off44.le lE np5
    replace op5 : Cel H43 p5 [(.int .i64 (0)), (.int .i64 (0)), (.slice none 0 0)] := op5
    refine ob_i (op5.ldn rfl) ?_
    skip
    exact hk1 (by intro h; first | exact absurd h.1 (by assumption) | exact absurd h.2.1 (by assumption) | exact absurd h.2.2 (by assumption))  _    lE
theorem all_tk {l : List Int} {i : Nat} {p : Int → Prop} (h : ∀ x ∈ l.take i, p x) (hi : i < l.length) (hp : p (at_ 0 l (i : Int))) : ∀ x ∈ l.take (i + 1), p x := by
  rw [take_at 0 l hi]
  intro x hx
  rcases List.mem_append.mp hx with hx | hx
  · exact h x hx
  · simp only [List.mem_singleton] at hx; subst hx; exact hp
theorem C.spec_SoupsShared {vb vs va : Value} {r st wk : Int} {b : List Int} {s : List Int} {l : List Int} {sh : Nat} {H : Hp} {K : Value → Hp → Prop} (hvb0 : Sl eI H vb b) (hvs0 : Sl eI H vs s) (hva0 : Sl eI H va l) (kb : b.length ≤ 9223372036854775807) (ks : s.length ≤ 9223372036854775807) (k1 : l.length ≤ 9223372036854775807)
    (hk : ∀ u1 H', Own eI H' u1 (selL (ssP b s r sh l st wk) (ssL b s r sh st.toNat l)) → Nw H u1 → Le H H' → K (.tuple #[u1, (.bool (decide (ssP b s r sh l st wk)))]) H') : HT prg I.spec_SoupsShared [(.agg #[vb, vs]), (.int .i64 (r)), (.float .f32 sh), va, (.int .i64 (st)), (.int .i64 (wk))].toArray H K := by
  have lE := Le.refl H
  have hvb := hvb0
  have hvs := hvs0
  have hva := hva0
  refine R.spec_SoupsShared ?_
  unfold F.spec_SoupsShared
  refine nw_i (fun p1 H2 op1 nn3 le4 => ?_)
  have np1 : Nw H p1 := nn3.le lE
  replace hvb := hvb.le le4
  replace hvs := hvs.le le4
  replace hva := hva.le le4
  replace lE := lE.trans le4
  replace op1 : Cel H2 p1 [vb, vs] := op1
  refine C.spec_l04Life op1 hvb hvs (by first | omega | assumption) (by first | omega | assumption) (fun   H5    le6 => ?_)
  replace op1 := op1.le le6
  replace hvb := hvb.le le6
  replace hvs := hvs.le le6
  replace hva := hva.le le6
  replace lE := lE.trans le6
  refine ob_nd (fun hc7 => ?_) (fun hc7 => ?_)
  · skip
    refine gop_rf ?_
    refine gop_rf ?_
    refine C.spec_l00In  ?_
    refine gop_rf ?_
    refine ob_nd (fun hc8 => ?_) (fun hc8 => ?_)
    · skip
      refine ob_i (vPick_f _ _) ?_
      refine gop_rf ?_
      refine gop_rf ?_
      refine C.spec_l02Share  (fun   H9    le10 => ?_)
      replace op1 := op1.le le10
      replace hvb := hvb.le le10
      replace hvs := hvs.le le10
      replace hva := hva.le le10
      replace lE := lE.trans le10
      refine gop_rf ?_
      refine ob_nd (fun hc11 => ?_) (fun hc11 => ?_)
      · skip
        refine ob_i (vPick_f _ _) ?_
        refine gop_rf ?_
        refine gop_rf ?_
        refine C.spec_l00In  ?_
        refine gop_rf ?_
        refine ob_nd (fun hc12 => ?_) (fun hc12 => ?_)
        · skip
          refine ob_i (vPick_f _ _) ?_
          refine gop_rf ?_
          refine gop_rf ?_
          refine ob_i (hva.len) ?_
          refine gop_rf ?_
          refine ob_i (vInt_gtr _ _ _) ?_
          refine ob_i (vPick_f _ _) ?_
          by_cases hc13 : 16 < (((l).length : Int))
          · skip
            refine gop_e (decide_eq_true hc13) ?_
            refine gop_st ?_
            refine gop_e (decide_eq_true hc13) ?_
            refine gop_st ?_
            refine gop_e (decide_eq_true hc13) ?_
            refine gop_st ?_
            refine ob_i (vPick_et (decide_eq_true hc13) _ _) ?_
            refine cnd_t1 ?_
            skip
            have hok : ¬ (ssP b s r sh l st wk) := by intro h; obtain ⟨h1, h2, h3, h4, h5, h6, h7⟩ := h; first | contradiction | omega
            exact keq (K := K) (by rw [decide_eq_false (show ¬ (ssP b s r sh l st wk) from by exact hok)]) (hk  (.slice none 0 0) _ (Own.cast (show [] = selL (ssP b s r sh l st wk) (ssL b s r sh st.toNat l) by exact (selL_f hok).symm) (Own.nil_of none)) (fun b hb => by simp [bk] at hb)  lE)
          · skip
            refine gop_e (decide_eq_false hc13) ?_
            refine gop_rf ?_
            refine gop_e (decide_eq_false hc13) ?_
            refine gop_rf ?_
            refine C.spec_l00In  ?_
            refine gop_e (decide_eq_false hc13) ?_
            refine gop_rf ?_
            refine ob_nd (fun hc14 => ?_) (fun hc14 => ?_)
            · skip
              refine ob_i (vPick_ef (decide_eq_false hc13) _ _) ?_
              refine cnd_f1 ?_
              refine bS_nil (enc := eI) (fun u15 H16 ou15 nn17 kk18 le19 => ?_)
              have ap1Xu15 : Apart p1 u15 := op1.apart nn17
              have nu15 : Nw H u15 := nn17.le lE
              replace op1 := op1.le le19
              replace hvb := hvb.le le19
              replace hvs := hvs.le le19
              replace hva := hva.le le19
              replace lE := lE.trans le19
              refine jn_i (fun σ' H' => ∃ v, σ' 14 = v ∧ Cel H' p1 [vb, vs] ∧ Own eI H' v (ssL b s r sh st.toNat l) ∧ Nw H v ∧ Apart p1 v ∧ Le H H' ∧ ∀ x ∈ l, 0 ≤ x ∧ x ≤ 4294967295) (fun σ20 H20 hP => ?_) (fun J20 hJ20 => ?_)
              · skip
                obtain ⟨v, g14L20, op1, ov, nv, ap1Xv, lE, ho0⟩ := hP
                have hvb := hvb0.le lE
                have hvs := hvs0.le lE
                have hva := hva0.le lE
                try simp only [g14L20]
                skip
                have hok : ssP b s r sh l st wk := by exact ⟨by assumption, by omega, by assumption, by omega, by omega, by omega, ho0⟩
                exact keq (K := K) (by rw [decide_eq_true (show (ssP b s r sh l st wk) from by exact hok)]) (hk  v _ (Own.cast (show ssL b s r sh st.toNat l = selL (ssP b s r sh l st wk) (ssL b s r sh st.toNat l) by exact (selL_t hok).symm) ov) nv  lE)
              refine ob_i (hva.len) ?_
              refine ⟨fun n' σ' H' => ∃ i : Nat, n' = l.length - i ∧ i ≤ l.length ∧ ∃ v, σ' 1 = (.int .i64 (r)) ∧ σ' 2 = (.float .f32 sh) ∧ σ' 3 = va ∧ σ' 4 = (.int .i64 (st)) ∧ σ' 6 = p1 ∧ σ' 14 = v ∧ σ' 48 = (.int .i64 (((l).length : Int))) ∧ σ' 49 = (.int .i64 ((i : Int))) ∧ Cel H' p1 [vb, vs] ∧ Own eI H' v (ssL b s r sh st.toNat (l.take i)) ∧ Nw H v ∧ Apart p1 v ∧ Le H H' ∧ ∀ x ∈ l.take i, 0 ≤ x ∧ x ≤ 4294967295,
                ⟨_, 0, rfl, by omega, u15, rfl, rfl, rfl, rfl, rfl, rfl, rfl, (congrArg (Value.int .i64) (by first | omega | rfl | (simp; done))), op1, (Own.cast (by simp [ssL]) ou15), nu15, ap1Xu15, lE, (by simp)⟩, ?_⟩
              rintro n21 σ21 H21 ⟨i, rfl, hiN, v, g1L21, g2L21, g3L21, g4L21, g6L21, g14L21, g48L21, g49L21, op1, ov, nv, ap1Xv, lE, hm0⟩
              have hvb := hvb0.le lE
              have hvs := hvs0.le lE
              have hva := hva0.le lE
              try simp only [g1L21, g2L21, g3L21, g4L21, g6L21, g14L21, g48L21, g49L21]
              have vl := ssL_len (b := b) (s := s) (r := r) (sh := sh) (n := st.toNat) (l := l.take i)
              have vt : (l.take i).length ≤ 16 := by simp; omega
              have hsq : sidesF r r := ⟨by omega, by omega⟩
              have hff : fieldN 1 r r (soL b s r (at_ 0 l (i : Int)) sh st.toNat) := soL_field hsq
              have lff := fieldN_len hff
              refine ob_i (vInt_lss _ _ _) ?_
              refine cnd_d (fun hg22 => ?_) (fun hg22 => ?_)
              · skip
                have ti := hg22
                refine ob_i (hva.ix (by omega) (by omega)) ?_
                refine ob_i (hva.ld 0 (by omega) (by omega)) ?_
                refine C.spec_l05Soup op1 hvb hvs (by first | omega | assumption) (by first | omega | assumption) (fun hc23  H24    le25 => ?_) (fun hc26 u29 H27 ou29 nn30  le28 => ?_)
                · skip
                  replace op1 := op1.le le25
                  replace ov := ov.le le25
                  replace hvb := hvb.le le25
                  replace hvs := hvs.le le25
                  replace hva := hva.le le25
                  replace lE := lE.trans le25
                  refine ob_i (vExt_30 _ _ _) ?_
                  refine ob_i (vExt_31 _ _ _) ?_
                  refine ob_i (vExt_32 _ _ _) ?_
                  refine nw_i (fun p31 H32 op31 nn33 le34 => ?_)
                  have ap1Xp31 : Apart p1 p31 := op1.apart nn33
                  have avXp31 : Apart v p31 := ov.apart nn33
                  have np31 : Nw H p31 := nn33.le lE
                  replace op1 := op1.le le34
                  replace ov := ov.le le34
                  replace hvb := hvb.le le34
                  replace hvs := hvs.le le34
                  replace hva := hva.le le34
                  replace lE := lE.trans le34
                  replace op31 : Cel H32 p31 [(.int .i64 (0)), (.int .i64 (0)), (.slice none 0 0)] := op31
                  refine op31.stn (ws := [(.int .i64 (0)), (.int .i64 (0)), (.slice none 0 0)]) rfl rfl (oc1 rfl (oc1 rfl (oc1 rfl oc0))) (fun H35 op31 off36 => ?_)
                  replace op1 := op1.off off36 ap1Xp31
                  replace ov := ov.off off36 avXp31
                  replace hvb := hvb0.le (off36.le lE np31)
                  replace hvs := hvs0.le (off36.le lE np31)
                  replace hva := hva0.le (off36.le lE np31)
                  replace lE := off36.le lE np31
                  replace op31 : Cel H35 p31 [(.int .i64 (0)), (.int .i64 (0)), (.slice none 0 0)] := op31
                  refine ob_i (a := .bool true) rfl ?_
                  refine cnd_t1 ?_
                  refine retK (K := K) (v' := (.tuple #[(.slice none 0 0), (.bool false)])) rfl ?_
                  skip
                  have hok : ¬ (ssP b s r sh l st wk) := by intro h; exact hc23 ⟨h.1, h.2.2.2.2.1, ⟨h.2.1, h.2.1⟩, h.2.2.1, h.2.2.2.2.2.2 _ (at_mem 0 l (i := (i : Int)) (by omega) (by omega))⟩
                  exact keq (K := K) (by rw [decide_eq_false (show ¬ (ssP b s r sh l st wk) from by exact hok)]) (hk  (.slice none 0 0) _ (Own.cast (show [] = selL (ssP b s r sh l st wk) (ssL b s r sh st.toNat l) by exact (selL_f hok).symm) (Own.nil_of none)) (fun b hb => by simp [bk] at hb)  lE)
                · skip
                  have ap1Xu29 : Apart p1 u29 := op1.apart nn30
                  have avXu29 : Apart v u29 := ov.apart nn30
                  have nu29 : Nw H u29 := nn30.le lE
                  replace op1 := op1.le le28
                  replace ov := ov.le le28
                  replace hvb := hvb.le le28
                  replace hvs := hvs.le le28
                  replace hva := hva.le le28
                  replace lE := lE.trans le28
                  refine ob_i (vExt_30 _ _ _) ?_
                  refine ob_i (vExt_31 _ _ _) ?_
                  refine ob_i (vExt_32 _ _ _) ?_
                  refine nw_i (fun p37 H38 op37 nn39 le40 => ?_)
                  have ap1Xp37 : Apart p1 p37 := op1.apart nn39
                  have avXp37 : Apart v p37 := ov.apart nn39
                  have au29Xp37 : Apart u29 p37 := ou29.apart nn39
                  have np37 : Nw H p37 := nn39.le lE
                  replace op1 := op1.le le40
                  replace ov := ov.le le40
                  replace ou29 := ou29.le le40
                  replace hvb := hvb.le le40
                  replace hvs := hvs.le le40
                  replace hva := hva.le le40
                  replace lE := lE.trans le40
                  replace op37 : Cel H38 p37 [(.int .i64 (0)), (.int .i64 (0)), (.slice none 0 0)] := op37
                  refine op37.stn (ws := [(.int .i64 (r)), (.int .i64 (r)), u29]) rfl rfl (oc1 rfl (oc1 rfl (oc1 ou29.one oc0))) (fun H41 op37 off42 => ?_)
                  replace op1 := op1.off off42 ap1Xp37
                  replace ov := ov.off off42 avXp37
                  replace ou29 := ou29.off off42 au29Xp37
                  replace hvb := hvb0.le (off42.le lE np37)
                  replace hvs := hvs0.le (off42.le lE np37)
                  replace hva := hva0.le (off42.le lE np37)
                  replace lE := off42.le lE np37
                  replace op37 : Cel H41 p37 [(.int .i64 (r)), (.int .i64 (r)), u29] := op37
                  refine ob_i (a := .bool false) rfl ?_
                  refine cnd_f1 ?_
                  refine C.spec_l05Ones op37 ou29.sl (by first | omega | assumption) (fun   H43    le44 => ?_)
                  replace op1 := op1.le le44
                  replace ov := ov.le le44
                  replace ou29 := ou29.le le44
                  replace op37 := op37.le le44
                  replace hvb := hvb.le le44
                  replace hvs := hvs.le le44
                  replace hva := hva.le le44
                  replace lE := lE.trans le44
                  refine bS_i (enc := eI) (l := [cntE 1 (soL b s r (at_ 0 (l) ((i : Int))) sh st.toNat)]) (by omega) rfl (by kernel_rfl) (fun u45 H46 ou45 nn47 le49 => ?_)
                  have ap1Xu45 : Apart p1 u45 := op1.apart nn47
                  have avXu45 : Apart v u45 := ov.apart nn47
                  have au29Xu45 : Apart u29 u45 := ou29.apart nn47
                  have ap37Xu45 : Apart p37 u45 := op37.apart nn47
                  have nu45 : Nw H u45 := nn47.le lE
                  replace op1 := op1.le le49
                  replace ov := ov.le le49
                  replace ou29 := ou29.le le49
                  replace op37 := op37.le le49
                  replace hvb := hvb.le le49
                  replace hvs := hvs.le le49
                  replace hva := hva.le le49
                  replace lE := lE.trans le49
                  refine apd_any ov ou45.sl (fun _ => rfl) (by omega) (by first | omega | (simp only [List.length_cons, List.length_nil, List.length_append, List.length_replicate, List.length_map, List.length_range]; omega)) (fun u53 H50 ou53 off51 hb52 => ?_)
                  have ap1Xu53 : Apart p1 u53 := Apart.ap2 op1.known ap1Xv hb52
                  have au29Xu53 : Apart u29 u53 := Apart.ap2 ou29.known avXu29.symm hb52
                  have ap37Xu53 : Apart p37 u53 := Apart.ap2 op37.known avXp37.symm hb52
                  have au45Xu53 : Apart u45 u53 := Apart.ap2 ou45.known avXu45.symm hb52
                  have nu53 : Nw H u53 := Nw.ap2 nv lE hb52
                  replace op1 := op1.off off51 ap1Xv
                  replace ou29 := ou29.off off51 avXu29.symm
                  replace op37 := op37.off off51 avXp37.symm
                  replace ou45 := ou45.off off51 avXu45.symm
                  replace hvb := hvb0.le (off51.le lE nv)
                  replace hvs := hvs0.le (off51.le lE nv)
                  replace hva := hva0.le (off51.le lE nv)
                  replace lE := off51.le lE nv
                  refine ob_i (vInt_add (by omega) (by omega)) ?_
                  exact nxt (l.length - (i + 1)) (by omega) ⟨i + 1, rfl, by omega, u53, g1L21, g2L21, g3L21, g4L21, g6L21, rfl, g48L21, (congrArg (Value.int .i64) (by first | omega | rfl | (simp; done))), op1, (Own.cast (ssL_take (by omega)) ou53), nu53, ap1Xu53, lE, (all_tk hm0 (by omega) (hc26).2.2.2.2)⟩
              · skip
                have ti := hg22
                rw [List.take_of_length_le (by omega)] at ov
                exact hJ20 _ _ ⟨v, g14L21, op1, ov, nv, ap1Xv, lE, (by rw [List.take_of_length_le (by omega)] at hm0; exact hm0)⟩
            · skip
              refine ob_i (vPick_ef (decide_eq_false hc13) _ _) ?_
              refine cnd_t1 ?_
              skip
              have hok : ¬ (ssP b s r sh l st wk) := by intro h; obtain ⟨h1, h2, h3, h4, h5, h6, h7⟩ := h; first | contradiction | omega
              exact keq (K := K) (by rw [decide_eq_false (show ¬ (ssP b s r sh l st wk) from by exact hok)]) (hk  (.slice none 0 0) _ (Own.cast (show [] = selL (ssP b s r sh l st wk) (ssL b s r sh st.toNat l) by exact (selL_f hok).symm) (Own.nil_of none)) (fun b hb => by simp [bk] at hb)  lE)
        · skip
          refine ob_i (vPick_f _ _) ?_
          refine gop_st ?_
          refine gop_st ?_
          refine gop_st ?_
          refine ob_i (vPick_t _ _) ?_
          refine gop_st ?_
          refine gop_st ?_
          refine gop_st ?_
          refine ob_i (vPick_t _ _) ?_
          refine cnd_t1 ?_
          skip
          have hok : ¬ (ssP b s r sh l st wk) := by intro h; obtain ⟨h1, h2, h3, h4, h5, h6, h7⟩ := h; first | contradiction | omega
          exact keq (K := K) (by rw [decide_eq_false (show ¬ (ssP b s r sh l st wk) from by exact hok)]) (hk  (.slice none 0 0) _ (Own.cast (show [] = selL (ssP b s r sh l st wk) (ssL b s r sh st.toNat l) by exact (selL_f hok).symm) (Own.nil_of none)) (fun b hb => by simp [bk] at hb)  lE)
      · skip
        refine ob_i (vPick_f _ _) ?_
        refine gop_st ?_
        refine gop_st ?_
        refine gop_st ?_
        refine ob_i (vPick_t _ _) ?_
        refine gop_st ?_
        refine gop_st ?_
        refine gop_st ?_
        refine ob_i (vPick_t _ _) ?_
        refine gop_st ?_
        refine gop_st ?_
        refine gop_st ?_
        refine ob_i (vPick_t _ _) ?_
        refine cnd_t1 ?_
        skip
        have hok : ¬ (ssP b s r sh l st wk) := by intro h; obtain ⟨h1, h2, h3, h4, h5, h6, h7⟩ := h; first | contradiction | omega
        exact keq (K := K) (by rw [decide_eq_false (show ¬ (ssP b s r sh l st wk) from by exact hok)]) (hk  (.slice none 0 0) _ (Own.cast (show [] = selL (ssP b s r sh l st wk) (ssL b s r sh st.toNat l) by exact (selL_f hok).symm) (Own.nil_of none)) (fun b hb => by simp [bk] at hb)  lE)
    · skip
      refine ob_i (vPick_f _ _) ?_
      refine gop_st ?_
      refine gop_st ?_
      refine gop_st ?_
      refine ob_i (vPick_t _ _) ?_
      refine gop_st ?_
      refine gop_st ?_
      refine gop_st ?_
      refine ob_i (vPick_t _ _) ?_
      refine gop_st ?_
      refine gop_st ?_
      refine gop_st ?_
      refine ob_i (vPick_t _ _) ?_
      refine gop_st ?_
      refine gop_st ?_
      refine gop_st ?_
      refine ob_i (vPick_t _ _) ?_
      refine cnd_t1 ?_
      skip
      have hok : ¬ (ssP b s r sh l st wk) := by intro h; obtain ⟨h1, h2, h3, h4, h5, h6, h7⟩ := h; first | contradiction | omega
      exact keq (K := K) (by rw [decide_eq_false (show ¬ (ssP b s r sh l st wk) from by exact hok)]) (hk  (.slice none 0 0) _ (Own.cast (show [] = selL (ssP b s r sh l st wk) (ssL b s r sh st.toNat l) by exact (selL_f hok).symm) (Own.nil_of none)) (fun b hb => by simp [bk] at hb)  lE)
  · skip
    refine gop_st ?_
    refine gop_st ?_
    refine gop_st ?_
    refine ob_i (vPick_t _ _) ?_
    refine gop_st ?_
    refine gop_st ?_
    refine gop_st ?_
    refine ob_i (vPick_t _ _) ?_
    refine gop_st ?_
    refine gop_st ?_
    refine gop_st ?_
    refine ob_i (vPick_t _ _) ?_
    refine gop_st ?_
    refine gop_st ?_
    refine gop_st ?_
    refine ob_i (vPick_t _ _) ?_
    refine gop_st ?_
    refine gop_st ?_
    refine gop_st ?_
    refine ob_i (vPick_t _ _) ?_
    refine cnd_t1 ?_
    skip
    have hok : ¬ (ssP b s r sh l st wk) := by intro h; obtain ⟨h1, h2, h3, h4, h5, h6, h7⟩ := h; first | contradiction | omega
    exact keq (K := K) (by rw [decide_eq_false (show ¬ (ssP b s r sh l st wk) from by exact hok)]) (hk  (.slice none 0 0) _ (Own.cast (show [] = selL (ssP b s r sh l st wk) (ssL b s r sh st.toNat l) by exact (selL_f hok).symm) (Own.nil_of none)) (fun b hb => by simp [bk] at hb)  lE)
theorem C.impl_SoupsShared {vb vs va : Value} {r st wk : Int} {b : List Int} {s : List Int} {l : List Int} {sh : Nat} {H : Hp} {K : Value → Hp → Prop} (hvb0 : Sl eI H vb b) (hvs0 : Sl eI H vs s) (hva0 : Sl eI H va l) (kb : b.length ≤ 9223372036854775807) (ks : s.length ≤ 9223372036854775807) (k1 : l.length ≤ 9223372036854775807)
    (hk : ∀ u1 H', Own eI H' u1 (selL (ssP b s r sh l st wk) (ssL b s r sh st.toNat l)) → Nw H u1 → Le H H' → K (.tuple #[u1, (.bool (decide (ssP b s r sh l st wk)))]) H') : HT prg I.impl_SoupsShared [(.agg #[vb, vs]), (.int .i64 (r)), (.float .f32 sh), va, (.int .i64 (st)), (.int .i64 (wk))].toArray H K := by
  have lE := Le.refl H
  have hvb := hvb0
  have hvs := hvs0
  have hva := hva0
  refine R.impl_SoupsShared ?_
  unfold F.impl_SoupsShared
  refine nw_i (fun p1 H2 op1 nn3 le4 => ?_)
  have np1 : Nw H p1 := nn3.le lE
  replace hvb := hvb.le le4
  replace hvs := hvs.le le4
  replace hva := hva.le le4
  replace lE := lE.trans le4
  replace op1 : Cel H2 p1 [vb, vs] := op1
  refine ob_i (op1.ldn rfl) ?_
  refine C.impl_ValidLife hvb hvs (by first | omega | assumption) (by first | omega | assumption) (fun   H5    le6 => ?_)
  replace op1 := op1.le le6
  replace hvb := hvb.le le6
  replace hvs := hvs.le le6
  replace hva := hva.le le6
  replace lE := lE.trans le6
  refine ob_nd (fun hc7 => ?_) (fun hc7 => ?_)
  · skip
    refine gop_rf ?_
    refine gop_rf ?_
    refine C.impl_isSide  ?_
    refine gop_rf ?_
    refine ob_nd (fun hc8 => ?_) (fun hc8 => ?_)
    · skip
      refine ob_i (vPick_f _ _) ?_
      refine gop_rf ?_
      refine gop_rf ?_
      refine C.impl_isShare  (fun   H9    le10 => ?_)
      replace op1 := op1.le le10
      replace hvb := hvb.le le10
      replace hvs := hvs.le le10
      replace hva := hva.le le10
      replace lE := lE.trans le10
      refine gop_rf ?_
      refine ob_nd (fun hc11 => ?_) (fun hc11 => ?_)
      · skip
        refine ob_i (vPick_f _ _) ?_
        refine gop_rf ?_
        refine gop_rf ?_
        refine ob_i (hva.len) ?_
        refine gop_rf ?_
        refine ob_i (vInt_gtr _ _ _) ?_
        refine ob_i (vPick_f _ _) ?_
        by_cases hc12 : 16 < (((l).length : Int))
        · skip
          refine gop_e (decide_eq_true hc12) ?_
          refine gop_st ?_
          refine gop_e (decide_eq_true hc12) ?_
          refine gop_st ?_
          refine gop_e (decide_eq_true hc12) ?_
          refine gop_st ?_
          refine ob_i (vPick_et (decide_eq_true hc12) _ _) ?_
          refine gop_st ?_
          refine gop_st ?_
          refine gop_st ?_
          refine ob_i (vPick_t _ _) ?_
          refine cnd_t1 ?_
          skip
          have hok : ¬ (ssP b s r sh l st wk) := by intro h; obtain ⟨h1, h2, h3, h4, h5, h6, h7⟩ := h; first | contradiction | omega
          exact keq (K := K) (by rw [decide_eq_false (show ¬ (ssP b s r sh l st wk) from by exact hok)]) (hk  (.slice none 0 0) _ (Own.cast (show [] = selL (ssP b s r sh l st wk) (ssL b s r sh st.toNat l) by exact (selL_f hok).symm) (Own.nil_of none)) (fun b hb => by simp [bk] at hb)  lE)
        · skip
          refine gop_e (decide_eq_false hc12) ?_
          refine gop_rf ?_
          refine gop_e (decide_eq_false hc12) ?_
          refine gop_rf ?_
          refine C.impl_within  ?_
          refine gop_e (decide_eq_false hc12) ?_
          refine gop_rf ?_
          refine ob_nd (fun hc13 => ?_) (fun hc13 => ?_)
          · skip
            refine ob_i (vPick_ef (decide_eq_false hc12) _ _) ?_
            refine gop_rf ?_
            refine gop_rf ?_
            refine C.impl_areWorkers  (fun   H14    le15 => ?_)
            replace op1 := op1.le le15
            replace hvb := hvb.le le15
            replace hvs := hvs.le le15
            replace hva := hva.le le15
            replace lE := lE.trans le15
            refine gop_rf ?_
            refine ob_nd (fun hc16 => ?_) (fun hc16 => ?_)
            · skip
              refine ob_i (vPick_f _ _) ?_
              refine cnd_f1 ?_
              refine bS_nil (enc := eI) (fun u17 H18 ou17 nn19 kk20 le21 => ?_)
              have ap1Xu17 : Apart p1 u17 := op1.apart nn19
              have nu17 : Nw H u17 := nn19.le lE
              replace op1 := op1.le le21
              replace hvb := hvb.le le21
              replace hvs := hvs.le le21
              replace hva := hva.le le21
              replace lE := lE.trans le21
              refine jn_i (fun σ' H' => ∃ v, σ' 14 = v ∧ Cel H' p1 [vb, vs] ∧ Own eI H' v (ssL b s r sh st.toNat l) ∧ Nw H v ∧ Apart p1 v ∧ Le H H' ∧ ∀ x ∈ l, 0 ≤ x ∧ x ≤ 4294967295) (fun σ22 H22 hP => ?_) (fun J22 hJ22 => ?_)
              · skip
                obtain ⟨v, g14L22, op1, ov, nv, ap1Xv, lE, ho0⟩ := hP
                have hvb := hvb0.le lE
                have hvs := hvs0.le lE
                have hva := hva0.le lE
                try simp only [g14L22]
                skip
                have hok : ssP b s r sh l st wk := by exact ⟨by assumption, by omega, by assumption, by omega, by omega, by omega, ho0⟩
                exact keq (K := K) (by rw [decide_eq_true (show (ssP b s r sh l st wk) from by exact hok)]) (hk  v _ (Own.cast (show ssL b s r sh st.toNat l = selL (ssP b s r sh l st wk) (ssL b s r sh st.toNat l) by exact (selL_t hok).symm) ov) nv  lE)
              refine ob_i (hva.len) ?_
              refine ⟨fun n' σ' H' => ∃ i : Nat, n' = l.length - i ∧ i ≤ l.length ∧ ∃ v, σ' 1 = (.int .i64 (r)) ∧ σ' 2 = (.float .f32 sh) ∧ σ' 4 = (.int .i64 (st)) ∧ σ' 6 = p1 ∧ σ' 14 = v ∧ σ' 49 = va ∧ σ' 50 = (.int .i64 (((l).length : Int))) ∧ σ' 51 = (.int .i64 ((i : Int))) ∧ Cel H' p1 [vb, vs] ∧ Own eI H' v (ssL b s r sh st.toNat (l.take i)) ∧ Nw H v ∧ Apart p1 v ∧ Le H H' ∧ ∀ x ∈ l.take i, 0 ≤ x ∧ x ≤ 4294967295,
                ⟨_, 0, rfl, by omega, u17, rfl, rfl, rfl, rfl, rfl, rfl, rfl, (congrArg (Value.int .i64) (by first | omega | rfl | (simp; done))), op1, (Own.cast (by simp [ssL]) ou17), nu17, ap1Xu17, lE, (by simp)⟩, ?_⟩
              rintro n23 σ23 H23 ⟨i, rfl, hiN, v, g1L23, g2L23, g4L23, g6L23, g14L23, g49L23, g50L23, g51L23, op1, ov, nv, ap1Xv, lE, hm0⟩
              have hvb := hvb0.le lE
              have hvs := hvs0.le lE
              have hva := hva0.le lE
              try simp only [g1L23, g2L23, g4L23, g6L23, g14L23, g49L23, g50L23, g51L23]
              have vl := ssL_len (b := b) (s := s) (r := r) (sh := sh) (n := st.toNat) (l := l.take i)
              have vt : (l.take i).length ≤ 16 := by simp; omega
              have hsq : sidesF r r := ⟨by omega, by omega⟩
              have hff : fieldN 1 r r (soL b s r (at_ 0 l (i : Int)) sh st.toNat) := soL_field hsq
              have lff := fieldN_len hff
              refine ob_i (vInt_lss _ _ _) ?_
              refine cnd_d (fun hg24 => ?_) (fun hg24 => ?_)
              · skip
                have ti := hg24
                refine ob_i (hva.ix (by omega) (by omega)) ?_
                refine ob_i (hva.ld 0 (by omega) (by omega)) ?_
                refine ob_i (op1.ldn rfl) ?_
                refine C.impl_soup hvb hvs (by first | omega | assumption) (by first | omega | assumption) (fun hc25  H26    le27 => ?_) (fun hc28 u31 H29 ou31 nn32  le30 => ?_)
                · skip
                  replace op1 := op1.le le27
                  replace ov := ov.le le27
                  replace hvb := hvb.le le27
                  replace hvs := hvs.le le27
                  replace hva := hva.le le27
                  replace lE := lE.trans le27
                  refine ob_i (vExt_30 _ _ _) ?_
                  refine ob_i (vExt_31 _ _ _) ?_
                  refine ob_i (vExt_32 _ _ _) ?_
                  refine nw_i (fun p33 H34 op33 nn35 le36 => ?_)
                  have ap1Xp33 : Apart p1 p33 := op1.apart nn35
                  have avXp33 : Apart v p33 := ov.apart nn35
                  have np33 : Nw H p33 := nn35.le lE
                  replace op1 := op1.le le36
                  replace ov := ov.le le36
                  replace hvb := hvb.le le36
                  replace hvs := hvs.le le36
                  replace hva := hva.le le36
                  replace lE := lE.trans le36
                  replace op33 : Cel H34 p33 [(.int .i64 (0)), (.int .i64 (0)), (.slice none 0 0)] := op33
                  refine op33.stn (ws := [(.int .i64 (0)), (.int .i64 (0)), (.slice none 0 0)]) rfl rfl (oc1 rfl (oc1 rfl (oc1 rfl oc0))) (fun H37 op33 off38 => ?_)
                  replace op1 := op1.off off38 ap1Xp33
                  replace ov := ov.off off38 avXp33
                  replace hvb := hvb0.le (off38.le lE np33)
                  replace hvs := hvs0.le (off38.le lE np33)
                  replace hva := hva0.le (off38.le lE np33)
                  replace lE := off38.le lE np33
                  replace op33 : Cel H37 p33 [(.int .i64 (0)), (.int .i64 (0)), (.slice none 0 0)] := op33
                  refine ob_i (a := .bool true) rfl ?_
                  refine cnd_t1 ?_
                  refine retK (K := K) (v' := (.tuple #[(.slice none 0 0), (.bool false)])) rfl ?_
                  skip
                  have hok : ¬ (ssP b s r sh l st wk) := by intro h; exact hc25 ⟨h.1, h.2.2.2.2.1, ⟨h.2.1, h.2.1⟩, h.2.2.1, h.2.2.2.2.2.2 _ (at_mem 0 l (i := (i : Int)) (by omega) (by omega))⟩
                  exact keq (K := K) (by rw [decide_eq_false (show ¬ (ssP b s r sh l st wk) from by exact hok)]) (hk  (.slice none 0 0) _ (Own.cast (show [] = selL (ssP b s r sh l st wk) (ssL b s r sh st.toNat l) by exact (selL_f hok).symm) (Own.nil_of none)) (fun b hb => by simp [bk] at hb)  lE)
                · skip
                  have ap1Xu31 : Apart p1 u31 := op1.apart nn32
                  have avXu31 : Apart v u31 := ov.apart nn32
                  have nu31 : Nw H u31 := nn32.le lE
                  replace op1 := op1.le le30
                  replace ov := ov.le le30
                  replace hvb := hvb.le le30
                  replace hvs := hvs.le le30
                  replace hva := hva.le le30
                  replace lE := lE.trans le30
                  refine ob_i (vExt_30 _ _ _) ?_
                  refine ob_i (vExt_31 _ _ _) ?_
                  refine ob_i (vExt_32 _ _ _) ?_
                  refine nw_i (fun p39 H40 op39 nn41 le42 => ?_)
                  have ap1Xp39 : Apart p1 p39 := op1.apart nn41
                  have avXp39 : Apart v p39 := ov.apart nn41
                  have au31Xp39 : Apart u31 p39 := ou31.apart nn41
                  have np39 : Nw H p39 := nn41.le lE
                  replace op1 := op1.le le42
                  replace ov := ov.le le42
                  replace ou31 := ou31.le le42
                  replace hvb := hvb.le le42
                  replace hvs := hvs.le le42
                  replace hva := hva.le le42
                  replace lE := lE.trans le42
                  replace op39 : Cel H40 p39 [(.int .i64 (0)), (.int .i64 (0)), (.slice none 0 0)] := op39
                  refine op39.stn (ws := [(.int .i64 (r)), (.int .i64 (r)), u31]) rfl rfl (oc1 rfl (oc1 rfl (oc1 ou31.one oc0))) (fun H43 op39 off44 => ?_)
                  replace op1 := op1.off off44 ap1Xp39
                  replace ov := ov.off off44 avXp39
                  replace ou31 := ou31.off off44 au31Xp39
                  replace hvb := hvb0.le (off44.le lE np39)
                  replace hvs := hvs0.le (off44.le lE np39)
                  replace hva := hva0.le (off44.le lE np39)
                  replace lE := off44.le lE np39
                  replace op39 : Cel H43 p39 [(.int .i64 (r)), (.int .i64 (r)), u31] := op39
                  refine ob_i (a := .bool false) rfl ?_
                  refine cnd_f1 ?_
                  refine ob_i (op39.ldn rfl) ?_
                  refine C.impl_Field_count ou31.sl (by first | omega | assumption) (fun   H45    le46 => ?_)
                  replace op1 := op1.le le46
                  replace ov := ov.le le46
                  replace ou31 := ou31.le le46
                  replace op39 := op39.le le46
                  replace hvb := hvb.le le46
                  replace hvs := hvs.le le46
                  replace hva := hva.le le46
                  replace lE := lE.trans le46
                  refine bS_i (enc := eI) (l := [cntE 1 (soL b s r (at_ 0 (l) ((i : Int))) sh st.toNat)]) (by omega) rfl (by kernel_rfl) (fun u47 H48 ou47 nn49 le51 => ?_)
                  have ap1Xu47 : Apart p1 u47 := op1.apart nn49
                  have avXu47 : Apart v u47 := ov.apart nn49
                  have au31Xu47 : Apart u31 u47 := ou31.apart nn49
                  have ap39Xu47 : Apart p39 u47 := op39.apart nn49
                  have nu47 : Nw H u47 := nn49.le lE
                  replace op1 := op1.le le51
                  replace ov := ov.le le51
                  replace ou31 := ou31.le le51
                  replace op39 := op39.le le51
                  replace hvb := hvb.le le51
                  replace hvs := hvs.le le51
                  replace hva := hva.le le51
                  replace lE := lE.trans le51
                  refine apd_any ov ou47.sl (fun _ => rfl) (by omega) (by first | omega | (simp only [List.length_cons, List.length_nil, List.length_append, List.length_replicate, List.length_map, List.length_range]; omega)) (fun u55 H52 ou55 off53 hb54 => ?_)
                  have ap1Xu55 : Apart p1 u55 := Apart.ap2 op1.known ap1Xv hb54
                  have au31Xu55 : Apart u31 u55 := Apart.ap2 ou31.known avXu31.symm hb54
                  have ap39Xu55 : Apart p39 u55 := Apart.ap2 op39.known avXp39.symm hb54
                  have au47Xu55 : Apart u47 u55 := Apart.ap2 ou47.known avXu47.symm hb54
                  have nu55 : Nw H u55 := Nw.ap2 nv lE hb54
                  replace op1 := op1.off off53 ap1Xv
                  replace ou31 := ou31.off off53 avXu31.symm
                  replace op39 := op39.off off53 avXp39.symm
                  replace ou47 := ou47.off off53 avXu47.symm
                  replace hvb := hvb0.le (off53.le lE nv)
                  replace hvs := hvs0.le (off53.le lE nv)
                  replace hva := hva0.le (off53.le lE nv)
                  replace lE := off53.le lE nv
                  refine ob_i (vInt_add (by omega) (by omega)) ?_
                  exact nxt (l.length - (i + 1)) (by omega) ⟨i + 1, rfl, by omega, u55, g1L23, g2L23, g4L23, g6L23, rfl, g49L23, g50L23, (congrArg (Value.int .i64) (by first | omega | rfl | (simp; done))), op1, (Own.cast (ssL_take (by omega)) ou55), nu55, ap1Xu55, lE, (all_tk hm0 (by omega) (hc28).2.2.2.2)⟩
              · skip
                have ti := hg24
                rw [List.take_of_length_le (by omega)] at ov
                exact hJ22 _ _ ⟨v, g14L23, op1, ov, nv, ap1Xv, lE, (by rw [List.take_of_length_le (by omega)] at hm0; exact hm0)⟩
            · skip
              refine ob_i (vPick_f _ _) ?_
              refine cnd_t1 ?_
              skip
              have hok : ¬ (ssP b s r sh l st wk) := by intro h; obtain ⟨h1, h2, h3, h4, h5, h6, h7⟩ := h; first | contradiction | omega
              exact keq (K := K) (by rw [decide_eq_false (show ¬ (ssP b s r sh l st wk) from by exact hok)]) (hk  (.slice none 0 0) _ (Own.cast (show [] = selL (ssP b s r sh l st wk) (ssL b s r sh st.toNat l) by exact (selL_f hok).symm) (Own.nil_of none)) (fun b hb => by simp [bk] at hb)  lE)
          · skip
            refine ob_i (vPick_ef (decide_eq_false hc12) _ _) ?_
            refine gop_st ?_
            refine gop_st ?_
            refine gop_st ?_
            refine ob_i (vPick_t _ _) ?_
            refine cnd_t1 ?_
            skip
            have hok : ¬ (ssP b s r sh l st wk) := by intro h; obtain ⟨h1, h2, h3, h4, h5, h6, h7⟩ := h; first | contradiction | omega
            exact keq (K := K) (by rw [decide_eq_false (show ¬ (ssP b s r sh l st wk) from by exact hok)]) (hk  (.slice none 0 0) _ (Own.cast (show [] = selL (ssP b s r sh l st wk) (ssL b s r sh st.toNat l) by exact (selL_f hok).symm) (Own.nil_of none)) (fun b hb => by simp [bk] at hb)  lE)
      · skip
        refine ob_i (vPick_f _ _) ?_
        refine gop_st ?_
        refine gop_st ?_
        refine gop_st ?_
        refine ob_i (vPick_t _ _) ?_
        refine gop_st ?_
        refine gop_st ?_
        refine gop_st ?_
        refine ob_i (vPick_t _ _) ?_
        refine gop_st ?_
        refine gop_st ?_
        refine gop_st ?_
        refine ob_i (vPick_t _ _) ?_
        refine cnd_t1 ?_
        skip
        have hok : ¬ (ssP b s r sh l st wk) := by intro h; obtain ⟨h1, h2, h3, h4, h5, h6, h7⟩ := h; first | contradiction | omega
        exact keq (K := K) (by rw [decide_eq_false (show ¬ (ssP b s r sh l st wk) from by exact hok)]) (hk  (.slice none 0 0) _ (Own.cast (show [] = selL (ssP b s r sh l st wk) (ssL b s r sh st.toNat l) by exact (selL_f hok).symm) (Own.nil_of none)) (fun b hb => by simp [bk] at hb)  lE)
    · skip
      refine ob_i (vPick_f _ _) ?_
      refine gop_st ?_
      refine gop_st ?_
      refine gop_st ?_
      refine ob_i (vPick_t _ _) ?_
      refine gop_st ?_
      refine gop_st ?_
      refine gop_st ?_
      refine ob_i (vPick_t _ _) ?_
      refine gop_st ?_
      refine gop_st ?_
      refine gop_st ?_
      refine ob_i (vPick_t _ _) ?_
      refine gop_st ?_
      refine gop_st ?_
      refine gop_st ?_
      refine ob_i (vPick_t _ _) ?_
      refine cnd_t1 ?_
      skip
      have hok : ¬ (ssP b s r sh l st wk) := by intro h; obtain ⟨h1, h2, h3, h4, h5, h6, h7⟩ := h; first | contradiction | omega
      exact keq (K := K) (by rw [decide_eq_false (show ¬ (ssP b s r sh l st wk) from by exact hok)]) (hk  (.slice none 0 0) _ (Own.cast (show [] = selL (ssP b s r sh l st wk) (ssL b s r sh st.toNat l) by exact (selL_f hok).symm) (Own.nil_of none)) (fun b hb => by simp [bk] at hb)  lE)
  · skip
    refine gop_st ?_
    refine gop_st ?_
    refine gop_st ?_
    refine ob_i (vPick_t _ _) ?_
    refine gop_st ?_
    refine gop_st ?_
    refine gop_st ?_
    refine ob_i (vPick_t _ _) ?_
    refine gop_st ?_
    refine gop_st ?_
    refine gop_st ?_
    refine ob_i (vPick_t _ _) ?_
    refine gop_st ?_
    refine gop_st ?_
    refine gop_st ?_
    refine ob_i (vPick_t _ _) ?_
    refine gop_st ?_
    refine gop_st ?_
    refine gop_st ?_
    refine ob_i (vPick_t _ _) ?_
    refine cnd_t1 ?_
    skip
    have hok : ¬ (ssP b s r sh l st wk) := by intro h; obtain ⟨h1, h2, h3, h4, h5, h6, h7⟩ := h; first | contradiction | omega
    exact keq (K := K) (by rw [decide_eq_false (show ¬ (ssP b s r sh l st wk) from by exact hok)]) (hk  (.slice none 0 0) _ (Own.cast (show [] = selL (ssP b s r sh l st wk) (ssL b s r sh st.toNat l) by exact (selL_f hok).symm) (Own.nil_of none)) (fun b hb => by simp [bk] at hb)  lE)
end Go.Proofs.Ythbffbpdoankjaa
