/- Even flows. -/
import Derived.Test.YtcjamajenfgddaaFR
namespace Go.Proofs.Ytcjamajenfgddaa
open HL
set_option maxRecDepth 100000
theorem C.impl_weightOf {q : Int}  {H : Hp} {K : Value → Hp → Prop} (q0 : 0 ≤ q) (q9 : q < 9)
    (hk : K (.float .f32 (wgtN q)) H) : HT prg I.impl_weightOf [(.int .i64 (q))].toArray H K := by
  have lE := Le.refl H
  refine R.impl_weightOf ?_
  unfold F.impl_weightOf
  refine ob_i (vInt_eql _ _ _) ?_
  refine cnd_d (fun hg1 => ?_) (fun hg1 => ?_)
  · skip
    skip
    exact keq (K := K) (by rw [show (wgtN q) = 1055100473 from by unfold wgtN; first | (rw [if_pos (by omega)]; done) | (rw [if_neg (by omega), if_pos (by omega)]; done) | (rw [if_neg (by omega), if_neg (by omega)])]) (hk )
  · skip
    refine ob_i (vInt_leq _ _ _) ?_
    refine cnd_d (fun hg2 => ?_) (fun hg2 => ?_)
    · skip
      skip
      exact keq (K := K) (by rw [show (wgtN q) = 1038323257 from by unfold wgtN; first | (rw [if_pos (by omega)]; done) | (rw [if_neg (by omega), if_pos (by omega)]; done) | (rw [if_neg (by omega), if_neg (by omega)])]) (hk )
    · skip
      skip
      exact keq (K := K) (by rw [show (wgtN q) = 1021546041 from by unfold wgtN; first | (rw [if_pos (by omega)]; done) | (rw [if_neg (by omega), if_pos (by omega)]; done) | (rw [if_neg (by omega), if_neg (by omega)])]) (hk )
theorem C.impl_calm {q : Int} {m a b : Nat} {H : Hp} {K : Value → Hp → Prop} (q0 : 0 ≤ q) (q9 : q < 9)
    (hk : ∀ z1, FR .f32 (calmO q m a b) z1 → ∀ H', Le H H' → K (.float .f32 z1) H') : HT prg I.impl_calm [(.int .i64 (q)), (.float .f32 m), (.float .f32 a), (.float .f32 b)].toArray H K := by
  have lE := Le.refl H
  refine R.impl_calm ?_
  unfold F.impl_calm
  refine C.impl_partGoes (by first | omega | assumption) (by first | omega | assumption) (fun   H1    le2 => ?_)
  replace lE := lE.trans le2
  refine ob_i (vExt_20 _ _) ?_
  refine ob_i (vExt_21 _ _) ?_
  refine ob_i (a := (.float .f32 (FloatKind.nearest .f32 (at_ 0 downs q)))) rfl ?_
  refine fA_mul (a := (fI (at_ 0 downs q))) (b := (cl a)) (FR_some _) (FR_cl _) (fun z3 hz3 => ?_)
  refine ob_i (a := (.float .f32 (FloatKind.nearest .f32 (at_ 0 rights q)))) rfl ?_
  refine fA_mul (a := (fI (at_ 0 rights q))) (b := (cl b)) (FR_some _) (FR_cl _) (fun z4 hz4 => ?_)
  refine fA_add (a := (fMul (fI (at_ 0 downs q)) (cl a))) (b := (fMul (fI (at_ 0 rights q)) (cl b))) hz3 hz4 (fun z5 hz5 => ?_)
  refine fA_mul (a := (some 1077936128)) (b := (fAdd (fMul (fI (at_ 0 downs q)) (cl a)) (fMul (fI (at_ 0 rights q)) (cl b)))) (FR_some _) hz5 (fun z6 hz6 => ?_)
  refine fA_add (a := (some 1065353216)) (b := (fMul (some 1077936128) (fAdd (fMul (fI (at_ 0 downs q)) (cl a)) (fMul (fI (at_ 0 rights q)) (cl b))))) (FR_some _) hz6 (fun z7 hz7 => ?_)
  refine fA_mul (a := (some 1083179008)) (b := (fAdd (fMul (fI (at_ 0 downs q)) (cl a)) (fMul (fI (at_ 0 rights q)) (cl b)))) (FR_some _) hz5 (fun z8 hz8 => ?_)
  refine fA_mul (a := (fMul (some 1083179008) (fAdd (fMul (fI (at_ 0 downs q)) (cl a)) (fMul (fI (at_ 0 rights q)) (cl b))))) (b := (fAdd (fMul (fI (at_ 0 downs q)) (cl a)) (fMul (fI (at_ 0 rights q)) (cl b)))) hz8 hz5 (fun z9 hz9 => ?_)
  refine fA_add (a := (fAdd (some 1065353216) (fMul (some 1077936128) (fAdd (fMul (fI (at_ 0 downs q)) (cl a)) (fMul (fI (at_ 0 rights q)) (cl b)))))) (b := (fMul (fMul (some 1083179008) (fAdd (fMul (fI (at_ 0 downs q)) (cl a)) (fMul (fI (at_ 0 rights q)) (cl b)))) (fAdd (fMul (fI (at_ 0 downs q)) (cl a)) (fMul (fI (at_ 0 rights q)) (cl b))))) hz7 hz9 (fun z10 hz10 => ?_)
  refine fA_mul (a := (cl a)) (b := (cl a)) (FR_cl _) (FR_cl _) (fun z11 hz11 => ?_)
  refine fA_mul (a := (cl b)) (b := (cl b)) (FR_cl _) (FR_cl _) (fun z12 hz12 => ?_)
  refine fA_add (a := (fMul (cl a) (cl a))) (b := (fMul (cl b) (cl b))) hz11 hz12 (fun z13 hz13 => ?_)
  refine fA_mul (a := (some 1069547520)) (b := (fAdd (fMul (cl a) (cl a)) (fMul (cl b) (cl b)))) (FR_some _) hz13 (fun z14 hz14 => ?_)
  refine C.impl_weightOf (by first | omega | assumption) (by first | omega | assumption) ?_
  refine fA_mul (a := (some (wgtN q))) (b := (cl m)) (FR_some _) (FR_cl _) (fun z15 hz15 => ?_)
  refine fA_sub (a := (fAdd (fAdd (some 1065353216) (fMul (some 1077936128) (fAdd (fMul (fI (at_ 0 downs q)) (cl a)) (fMul (fI (at_ 0 rights q)) (cl b))))) (fMul (fMul (some 1083179008) (fAdd (fMul (fI (at_ 0 downs q)) (cl a)) (fMul (fI (at_ 0 rights q)) (cl b)))) (fAdd (fMul (fI (at_ 0 downs q)) (cl a)) (fMul (fI (at_ 0 rights q)) (cl b)))))) (b := (fMul (some 1069547520) (fAdd (fMul (cl a) (cl a)) (fMul (cl b) (cl b))))) hz10 hz14 (fun z16 hz16 => ?_)
  refine fA_mul (a := (fMul (some (wgtN q)) (cl m))) (b := (fSub (fAdd (fAdd (some 1065353216) (fMul (some 1077936128) (fAdd (fMul (fI (at_ 0 downs q)) (cl a)) (fMul (fI (at_ 0 rights q)) (cl b))))) (fMul (fMul (some 1083179008) (fAdd (fMul (fI (at_ 0 downs q)) (cl a)) (fMul (fI (at_ 0 rights q)) (cl b)))) (fAdd (fMul (fI (at_ 0 downs q)) (cl a)) (fMul (fI (at_ 0 rights q)) (cl b))))) (fMul (some 1069547520) (fAdd (fMul (cl a) (cl a)) (fMul (cl b) (cl b)))))) hz15 hz16 (fun z17 hz17 => ?_)
  skip
  exact hk  z17 (FR_cast (by rfl) hz17)  _    lE
theorem C.spec_l06Calm {m a b : Nat} {H : Hp} {K : Value → Hp → Prop}
    (hk : ∀ ls, FL (calmE m a b 9) ls → ∀ u1 H', Own eF H' u1 ls → Nw H u1 → Le H H' → K u1 H') : HT prg I.spec_l06Calm [(.float .f32 m), (.float .f32 a), (.float .f32 b)].toArray H K := by
  have lE := Le.refl H
  refine R.spec_l06Calm ?_
  unfold F.spec_l06Calm
  refine bS_nil (enc := eF) (fun w H1 ow nn2 kk3 le4 => ?_)
  have nw : Nw H w := nn2.le lE
  replace lE := lE.trans le4
  refine jn_i (fun σ' H' => ∃ u, ∃ ls, σ' 7 = u ∧ Own eF H' u (ls) ∧ Nw H u ∧ Le H H' ∧ FL (calmE m a b 9) ls) (fun σ5 H5 hP => ?_) (fun J5 hJ5 => ?_)
  · skip
    obtain ⟨u, ls, g7L5, ou, nu, lE, hls⟩ := hP
    try simp only [g7L5]
    skip
    exact hk  ls hls u _ ou nu  lE
  refine ⟨fun n' σ' H' => ∃ i : Nat, n' = 9 - i ∧ i ≤ 9 ∧ ∃ u, ∃ ls, σ' 0 = (.float .f32 m) ∧ σ' 1 = (.float .f32 a) ∧ σ' 2 = (.float .f32 b) ∧ σ' 7 = u ∧ σ' 8 = (.int .i64 ((i : Int))) ∧ Own eF H' u (ls) ∧ Nw H u ∧ Le H H' ∧ FL (calmE m a b i) ls,
    ⟨_, 0, rfl, by omega, w, _, rfl, rfl, rfl, rfl, (congrArg (Value.int .i64) (by first | omega | rfl | (simp; done))), (Own.cast (by first | rfl | (simp; done)) ow), nw, lE, FL.nil⟩, ?_⟩
  rintro n6 σ6 H6 ⟨i, rfl, hiN, u, ls, g0L6, g1L6, g2L6, g7L6, g8L6, ou, nu, lE, hls⟩
  try simp only [g0L6, g1L6, g2L6, g7L6, g8L6]
  have ll := hls.len
  rw [calmE_len] at ll
  refine ob_i (vInt_lss _ _ _) ?_
  refine cnd_d (fun hg7 => ?_) (fun hg7 => ?_)
  · skip
    have ti := hg7
    refine C.spec_l06Part (by first | omega | assumption) (by first | omega | assumption) (fun   H8    le9 => ?_)
    replace ou := ou.le le9
    replace lE := lE.trans le9
    refine ob_i (vExt_20 _ _) ?_
    refine ob_i (vExt_21 _ _) ?_
    refine jn_i (fun σ' H' => σ' 0 = (.float .f32 m) ∧ σ' 1 = (.float .f32 a) ∧ σ' 2 = (.float .f32 b) ∧ σ' 7 = u ∧ σ' 8 = (.int .i64 ((i : Int))) ∧ σ' 9 = (.int .i64 (at_ 0 downs (i : Int))) ∧ σ' 10 = (.int .i64 (at_ 0 rights (i : Int))) ∧ σ' 11 = (.float .f32 (if (0 : Int) < (i : Int) then 1038323257 else 1055100473)) ∧ Own eF H' u (ls) ∧ Le H H') (fun σ10 H10 hP => ?_) (fun J10 hJ10 => ?_)
    · skip
      obtain ⟨g0L10, g1L10, g2L10, g7L10, g8L10, g9L10, g10L10, g11L10, ou, lE⟩ := hP
      try simp only [g0L10, g1L10, g2L10, g7L10, g8L10, g9L10, g10L10, g11L10]
      refine jn_i (fun σ' H' => σ' 0 = (.float .f32 m) ∧ σ' 1 = (.float .f32 a) ∧ σ' 2 = (.float .f32 b) ∧ σ' 7 = u ∧ σ' 8 = (.int .i64 ((i : Int))) ∧ σ' 9 = (.int .i64 (at_ 0 downs (i : Int))) ∧ σ' 10 = (.int .i64 (at_ 0 rights (i : Int))) ∧ σ' 11 = (.float .f32 (wgtN (i : Int))) ∧ Own eF H' u (ls) ∧ Le H H') (fun σ11 H11 hP => ?_) (fun J11 hJ11 => ?_)
      · skip
        obtain ⟨g0L11, g1L11, g2L11, g7L11, g8L11, g9L11, g10L11, g11L11, ou, lE⟩ := hP
        try simp only [g0L11, g1L11, g2L11, g7L11, g8L11, g9L11, g10L11, g11L11]
        refine ob_i (a := (.float .f32 (FloatKind.nearest .f32 (at_ 0 downs (i : Int))))) rfl ?_
        refine fA_mul (a := (fI (at_ 0 downs (i : Int)))) (b := (cl a)) (FR_some _) (FR_cl _) (fun z12 hz12 => ?_)
        refine ob_i (a := (.float .f32 (FloatKind.nearest .f32 (at_ 0 rights (i : Int))))) rfl ?_
        refine fA_mul (a := (fI (at_ 0 rights (i : Int)))) (b := (cl b)) (FR_some _) (FR_cl _) (fun z13 hz13 => ?_)
        refine fA_add (a := (fMul (fI (at_ 0 downs (i : Int))) (cl a))) (b := (fMul (fI (at_ 0 rights (i : Int))) (cl b))) hz12 hz13 (fun z14 hz14 => ?_)
        refine fA_mul (a := (some 1083179008)) (b := (fAdd (fMul (fI (at_ 0 downs (i : Int))) (cl a)) (fMul (fI (at_ 0 rights (i : Int))) (cl b)))) (FR_some _) hz14 (fun z15 hz15 => ?_)
        refine fA_mul (a := (fMul (some 1083179008) (fAdd (fMul (fI (at_ 0 downs (i : Int))) (cl a)) (fMul (fI (at_ 0 rights (i : Int))) (cl b))))) (b := (fAdd (fMul (fI (at_ 0 downs (i : Int))) (cl a)) (fMul (fI (at_ 0 rights (i : Int))) (cl b)))) hz15 hz14 (fun z16 hz16 => ?_)
        refine fA_mul (a := (cl a)) (b := (cl a)) (FR_cl _) (FR_cl _) (fun z17 hz17 => ?_)
        refine fA_mul (a := (cl b)) (b := (cl b)) (FR_cl _) (FR_cl _) (fun z18 hz18 => ?_)
        refine fA_add (a := (fMul (cl a) (cl a))) (b := (fMul (cl b) (cl b))) hz17 hz18 (fun z19 hz19 => ?_)
        refine fA_mul (a := (some 1077936128)) (b := (fAdd (fMul (fI (at_ 0 downs (i : Int))) (cl a)) (fMul (fI (at_ 0 rights (i : Int))) (cl b)))) (FR_some _) hz14 (fun z20 hz20 => ?_)
        refine fA_add (a := (some 1065353216)) (b := (fMul (some 1077936128) (fAdd (fMul (fI (at_ 0 downs (i : Int))) (cl a)) (fMul (fI (at_ 0 rights (i : Int))) (cl b))))) (FR_some _) hz20 (fun z21 hz21 => ?_)
        refine fA_add (a := (fAdd (some 1065353216) (fMul (some 1077936128) (fAdd (fMul (fI (at_ 0 downs (i : Int))) (cl a)) (fMul (fI (at_ 0 rights (i : Int))) (cl b)))))) (b := (fMul (fMul (some 1083179008) (fAdd (fMul (fI (at_ 0 downs (i : Int))) (cl a)) (fMul (fI (at_ 0 rights (i : Int))) (cl b)))) (fAdd (fMul (fI (at_ 0 downs (i : Int))) (cl a)) (fMul (fI (at_ 0 rights (i : Int))) (cl b))))) hz21 hz16 (fun z22 hz22 => ?_)
        refine fA_mul (a := (some 1069547520)) (b := (fAdd (fMul (cl a) (cl a)) (fMul (cl b) (cl b)))) (FR_some _) hz19 (fun z23 hz23 => ?_)
        refine fA_sub (a := (fAdd (fAdd (some 1065353216) (fMul (some 1077936128) (fAdd (fMul (fI (at_ 0 downs (i : Int))) (cl a)) (fMul (fI (at_ 0 rights (i : Int))) (cl b))))) (fMul (fMul (some 1083179008) (fAdd (fMul (fI (at_ 0 downs (i : Int))) (cl a)) (fMul (fI (at_ 0 rights (i : Int))) (cl b)))) (fAdd (fMul (fI (at_ 0 downs (i : Int))) (cl a)) (fMul (fI (at_ 0 rights (i : Int))) (cl b)))))) (b := (fMul (some 1069547520) (fAdd (fMul (cl a) (cl a)) (fMul (cl b) (cl b))))) hz22 hz23 (fun z24 hz24 => ?_)
        refine fA_mul (a := (some (wgtN (i : Int)))) (b := (cl m)) (FR_some _) (FR_cl _) (fun z25 hz25 => ?_)
        refine fA_mul (a := (fMul (some (wgtN (i : Int))) (cl m))) (b := (fSub (fAdd (fAdd (some 1065353216) (fMul (some 1077936128) (fAdd (fMul (fI (at_ 0 downs (i : Int))) (cl a)) (fMul (fI (at_ 0 rights (i : Int))) (cl b))))) (fMul (fMul (some 1083179008) (fAdd (fMul (fI (at_ 0 downs (i : Int))) (cl a)) (fMul (fI (at_ 0 rights (i : Int))) (cl b)))) (fAdd (fMul (fI (at_ 0 downs (i : Int))) (cl a)) (fMul (fI (at_ 0 rights (i : Int))) (cl b))))) (fMul (some 1069547520) (fAdd (fMul (cl a) (cl a)) (fMul (cl b) (cl b)))))) hz25 hz24 (fun z26 hz26 => ?_)
        refine bS_i (enc := eF) (l := [z26]) (by omega) rfl (by kernel_rfl) (fun u27 H28 ou27 nn29 le31 => ?_)
        have auXu27 : Apart u u27 := ou.apart nn29
        have nu27 : Nw H u27 := nn29.le lE
        replace ou := ou.le le31
        replace lE := lE.trans le31
        refine apd_any ou ou27.sl (fun _ => rfl) (by omega) (by first | omega | (simp only [List.length_cons, List.length_nil, List.length_append, List.length_replicate, List.length_map, List.length_range]; omega)) (fun u35 H32 ou35 off33 hb34 => ?_)
        have au27Xu35 : Apart u27 u35 := Apart.ap2 ou27.known auXu27.symm hb34
        have nu35 : Nw H u35 := Nw.ap2 nu lE hb34
        replace ou27 := ou27.off off33 auXu27.symm
        replace lE := off33.le lE nu
        refine ob_i (vInt_add (by omega) (by omega)) ?_
        exact nxt (9 - (i + 1)) (by omega) ⟨i + 1, rfl, by omega, u35, _, g0L11, g1L11, g2L11, rfl, (congrArg (Value.int .i64) (by first | omega | rfl | (simp; done))), ou35, nu35, lE, (FL.cast (calmE_succ m a b i) (hls.app (FL.one hz26)))⟩
      refine ob_i (vInt_gtr _ _ _) ?_
      refine cnd_d (fun hg36 => ?_) (fun hg36 => ?_)
      · skip
        exact hJ11 _ _ ⟨g0L10, g1L10, g2L10, g7L10, g8L10, g9L10, g10L10, (congrArg (Value.float .f32) (wgt_hi (by omega))), ou, lE⟩
      · skip
        exact hJ11 _ _ ⟨g0L10, g1L10, g2L10, g7L10, g8L10, g9L10, g10L10, (g11L10.trans (congrArg (Value.float .f32) (wgt_lo (by omega) (by omega)))), ou, lE⟩
    refine ob_i (vInt_gtr _ _ _) ?_
    refine cnd_d (fun hg37 => ?_) (fun hg37 => ?_)
    · skip
      exact hJ10 _ _ ⟨g0L6, g1L6, g2L6, g7L6, g8L6, rfl, rfl, (congrArg (Value.float .f32) (by first | (rw [if_pos (by omega)]; done) | (rw [if_neg (by omega)]; done))), ou, lE⟩
    · skip
      exact hJ10 _ _ ⟨g0L6, g1L6, g2L6, g7L6, g8L6, rfl, rfl, (congrArg (Value.float .f32) (by first | (rw [if_pos (by omega)]; done) | (rw [if_neg (by omega)]; done))), ou, lE⟩
  · skip
    have ti := hg7
    obtain rfl : i = 9 := by omega
    exact hJ5 _ _ ⟨u, _, g7L6, ou, nu, lE, hls⟩
theorem C.spec_EvenFlow {r c : Int} {m a b : Nat} {H : Hp} {K : Value → Hp → Prop}
    (hk : ∀ u1 u2 H', Own eF H' u1 (selL (evenP r c m a b) ((evenE m a b (r * c).toNat).map vO)) → Own eB H' u2 (selL (evenP r c m a b) (List.replicate (r * c).toNat false)) → Nw H u1 → Nw H u2 → Apart u1 u2 → Le H H' → K (.tuple #[(.agg #[(.int .i64 (selI (evenP r c m a b) (r))), (.int .i64 (selI (evenP r c m a b) (c))), u1, u2]), (.bool (decide (evenP r c m a b)))]) H') : HT prg I.spec_EvenFlow [(.int .i64 (r)), (.int .i64 (c)), (.float .f32 m), (.float .f32 a), (.float .f32 b)].toArray H K := by
  have lE := Le.refl H
  refine R.spec_EvenFlow ?_
  unfold F.spec_EvenFlow
  refine nw_i (fun p1 H2 op1 nn3 le4 => ?_)
  have np1 : Nw H p1 := nn3.le lE
  replace lE := lE.trans le4
  replace op1 : Cel H2 p1 [(.int .i64 (0)), (.int .i64 (0)), (.slice none 0 0), (.slice none 0 0)] := op1
  refine C.spec_l06Sides  ?_
  refine ob_nd (fun hc5 => ?_) (fun hc5 => ?_)
  · skip
    have hs := hc5
    have qm := sides_mul hs
    have q1 := hs.1
    have q2 := hs.2
    refine gop_rf ?_
    refine gop_rf ?_
    refine C.spec_l01Finite ?_
    refine gop_rf ?_
    refine ob_i (vUn_not _) ?_
    refine ob_i (vPick_f _ _) ?_
    by_cases hc6 : (!(finB m)) = true
    · skip
      refine gop_e (hc6) ?_
      refine gop_st ?_
      refine gop_e (hc6) ?_
      refine gop_st ?_
      refine gop_e (hc6) ?_
      refine gop_st ?_
      refine ob_i (vPick_et (hc6) _ _) ?_
      refine gop_st ?_
      refine gop_st ?_
      refine gop_st ?_
      refine ob_i (vPick_t _ _) ?_
      refine cnd_t1 ?_
      refine ob_i (a := (.agg #[(.int .i64 (0)), (.int .i64 (0)), (.slice none 0 0), (.slice none 0 0)])) (by rfl) ?_
      refine op1.stn (ws := [(.int .i64 (0)), (.int .i64 (0)), (.slice none 0 0), (.slice none 0 0)]) rfl rfl (oc1 rfl (oc1 rfl (oc1 rfl (oc1 rfl oc0)))) (fun H7 op1 off8 => ?_)
      replace lE := off8.le lE np1
      replace op1 : Cel H7 p1 [(.int .i64 (0)), (.int .i64 (0)), (.slice none 0 0), (.slice none 0 0)] := op1
      refine ob_i (op1.ldn rfl) ?_
      skip
      have hok : ¬ (evenP r c m a b) := by first | (intro h; exact absurd h.1.1 (by assumption)) | (intro h; have h1 := h.1.2; simp_all)
      exact keq (K := K) (by rw [show ((selI (evenP r c m a b) (r)) : Int) = (0) from by first | exact selI_t hok | exact selI_f hok]; rw [show ((selI (evenP r c m a b) (c)) : Int) = (0) from by first | exact selI_t hok | exact selI_f hok]; rw [decide_eq_false (show ¬ (evenP r c m a b) from by exact hok)]) (hk  (.slice none 0 0) (.slice none 0 0) _ (Own.cast (show [] = selL (evenP r c m a b) ((evenE m a b (r * c).toNat).map vO) by exact (selL_f hok).symm) (Own.nil_of none)) (Own.cast (show [] = selL (evenP r c m a b) (List.replicate (r * c).toNat false) by exact (selL_f hok).symm) (Own.nil_of none)) (fun b hb => by simp [bk] at hb) (fun b hb => by simp [bk] at hb) (fun b hb => by simp [bk] at hb) lE)
    · skip
      refine gop_e (eq_false_of_ne_true hc6) ?_
      refine gop_rf ?_
      refine gop_e (eq_false_of_ne_true hc6) ?_
      refine gop_rf ?_
      refine C.spec_l01Finite ?_
      refine gop_e (eq_false_of_ne_true hc6) ?_
      refine gop_rf ?_
      refine ob_i (vUn_not _) ?_
      refine ob_i (vPick_ef (eq_false_of_ne_true hc6) _ _) ?_
      by_cases hc9 : (!(finB a)) = true
      · skip
        refine gop_e (hc9) ?_
        refine gop_st ?_
        refine gop_e (hc9) ?_
        refine gop_st ?_
        refine gop_e (hc9) ?_
        refine gop_st ?_
        refine ob_i (vPick_et (hc9) _ _) ?_
        refine cnd_t1 ?_
        refine ob_i (a := (.agg #[(.int .i64 (0)), (.int .i64 (0)), (.slice none 0 0), (.slice none 0 0)])) (by rfl) ?_
        refine op1.stn (ws := [(.int .i64 (0)), (.int .i64 (0)), (.slice none 0 0), (.slice none 0 0)]) rfl rfl (oc1 rfl (oc1 rfl (oc1 rfl (oc1 rfl oc0)))) (fun H10 op1 off11 => ?_)
        replace lE := off11.le lE np1
        replace op1 : Cel H10 p1 [(.int .i64 (0)), (.int .i64 (0)), (.slice none 0 0), (.slice none 0 0)] := op1
        refine ob_i (op1.ldn rfl) ?_
        skip
        have hok : ¬ (evenP r c m a b) := by first | (intro h; exact absurd h.1.1 (by assumption)) | (intro h; have h1 := h.1.2; simp_all)
        exact keq (K := K) (by rw [show ((selI (evenP r c m a b) (r)) : Int) = (0) from by first | exact selI_t hok | exact selI_f hok]; rw [show ((selI (evenP r c m a b) (c)) : Int) = (0) from by first | exact selI_t hok | exact selI_f hok]; rw [decide_eq_false (show ¬ (evenP r c m a b) from by exact hok)]) (hk  (.slice none 0 0) (.slice none 0 0) _ (Own.cast (show [] = selL (evenP r c m a b) ((evenE m a b (r * c).toNat).map vO) by exact (selL_f hok).symm) (Own.nil_of none)) (Own.cast (show [] = selL (evenP r c m a b) (List.replicate (r * c).toNat false) by exact (selL_f hok).symm) (Own.nil_of none)) (fun b hb => by simp [bk] at hb) (fun b hb => by simp [bk] at hb) (fun b hb => by simp [bk] at hb) lE)
      · skip
        refine gop_e (eq_false_of_ne_true hc9) ?_
        refine gop_rf ?_
        refine gop_e (eq_false_of_ne_true hc9) ?_
        refine gop_rf ?_
        refine C.spec_l01Finite ?_
        refine gop_e (eq_false_of_ne_true hc9) ?_
        refine gop_rf ?_
        refine ob_i (vUn_not _) ?_
        refine ob_i (vPick_ef (eq_false_of_ne_true hc9) _ _) ?_
        refine cnd_i (fun hg12 => ?_) (fun hg12 => ?_)
        · skip
          refine ob_i (a := (.agg #[(.int .i64 (0)), (.int .i64 (0)), (.slice none 0 0), (.slice none 0 0)])) (by rfl) ?_
          refine op1.stn (ws := [(.int .i64 (0)), (.int .i64 (0)), (.slice none 0 0), (.slice none 0 0)]) rfl rfl (oc1 rfl (oc1 rfl (oc1 rfl (oc1 rfl oc0)))) (fun H13 op1 off14 => ?_)
          replace lE := off14.le lE np1
          replace op1 : Cel H13 p1 [(.int .i64 (0)), (.int .i64 (0)), (.slice none 0 0), (.slice none 0 0)] := op1
          refine ob_i (op1.ldn rfl) ?_
          skip
          have hok : ¬ (evenP r c m a b) := by first | (intro h; exact absurd h.1.1 (by assumption)) | (intro h; have h1 := h.1.2; simp_all)
          exact keq (K := K) (by rw [show ((selI (evenP r c m a b) (r)) : Int) = (0) from by first | exact selI_t hok | exact selI_f hok]; rw [show ((selI (evenP r c m a b) (c)) : Int) = (0) from by first | exact selI_t hok | exact selI_f hok]; rw [decide_eq_false (show ¬ (evenP r c m a b) from by exact hok)]) (hk  (.slice none 0 0) (.slice none 0 0) _ (Own.cast (show [] = selL (evenP r c m a b) ((evenE m a b (r * c).toNat).map vO) by exact (selL_f hok).symm) (Own.nil_of none)) (Own.cast (show [] = selL (evenP r c m a b) (List.replicate (r * c).toNat false) by exact (selL_f hok).symm) (Own.nil_of none)) (fun b hb => by simp [bk] at hb) (fun b hb => by simp [bk] at hb) (fun b hb => by simp [bk] at hb) lE)
        · skip
          refine ob_i (a := (.agg #[(.int .i64 (r)), (.int .i64 (c)), (.slice none 0 0), (.slice none 0 0)])) (by rfl) ?_
          refine nw_i (fun q H15 oq nn16 le17 => ?_)
          have ap1Xq : Apart p1 q := op1.apart nn16
          have nq : Nw H q := nn16.le lE
          replace op1 := op1.le le17
          replace lE := lE.trans le17
          replace oq : Cel H15 q [(.int .i64 (0)), (.int .i64 (0)), (.slice none 0 0), (.slice none 0 0)] := oq
          refine oq.stn (ws := [(.int .i64 (r)), (.int .i64 (c)), (.slice none 0 0), (.slice none 0 0)]) rfl rfl (oc1 rfl (oc1 rfl (oc1 rfl (oc1 rfl oc0)))) (fun H18 oq off19 => ?_)
          replace op1 := op1.off off19 ap1Xq
          replace lE := off19.le lE nq
          replace oq : Cel H18 q [(.int .i64 (r)), (.int .i64 (c)), (.slice none 0 0), (.slice none 0 0)] := oq
          refine C.spec_l06Calm  (fun  ls20 hls20 y H21 oy nn23  le22 => ?_)
          have ap1Xy : Apart p1 y := op1.apart nn23
          have aqXy : Apart q y := oq.apart nn23
          have ny : Nw H y := nn23.le lE
          replace op1 := op1.le le22
          replace oq := oq.le le22
          replace lE := lE.trans le22
          refine jn_i (fun σ' H' => ∃ u, ∃ w, ∃ ls, σ' 10 = p1 ∧ σ' 12 = q ∧ Cel H' p1 [(.int .i64 (0)), (.int .i64 (0)), (.slice none 0 0), (.slice none 0 0)] ∧ Cel H' q [(.int .i64 (r)), (.int .i64 (c)), u, w] ∧ Own eF H' y (ls20) ∧ Own eF H' u (ls) ∧ Own eB H' w (List.replicate (r * c).toNat false) ∧ Nw H u ∧ Apart p1 u ∧ Apart q u ∧ Apart y u ∧ Nw H w ∧ Apart p1 w ∧ Apart q w ∧ Apart y w ∧ Apart u w ∧ Le H H' ∧ FL (evenE m a b (r * c).toNat) ls) (fun σ24 H24 hP => ?_) (fun J24 hJ24 => ?_)
          · skip
            obtain ⟨u, w, ls, g10L24, g12L24, op1, oq, oy, ou, ow, nu, ap1Xu, aqXu, ayXu, nw, ap1Xw, aqXw, ayXw, auXw, lE, hls⟩ := hP
            try simp only [g10L24, g12L24]
            have ll := hls.len
            rw [evenE_len] at ll
            have lw : (List.replicate (r * c).toNat false).length = (r * c).toNat := List.length_replicate
            refine ob_i (oq.ldn rfl) ?_
            refine R.spec_l06GiveFlow ?_
            unfold F.spec_l06GiveFlow
            refine nw_i (fun p25 H26 op25 nn27 le28 => ?_)
            have ap1Xp25 : Apart p1 p25 := op1.apart nn27
            have aqXp25 : Apart q p25 := oq.apart nn27
            have ayXp25 : Apart y p25 := oy.apart nn27
            have auXp25 : Apart u p25 := ou.apart nn27
            have awXp25 : Apart w p25 := ow.apart nn27
            have np25 : Nw H p25 := nn27.le lE
            replace op1 := op1.le le28
            replace oq := oq.le le28
            replace oy := oy.le le28
            replace ou := ou.le le28
            replace ow := ow.le le28
            replace lE := lE.trans le28
            replace op25 : Cel H26 p25 [(.int .i64 (r)), (.int .i64 (c)), u, w] := op25
            refine nw_i (fun p29 H30 op29 nn31 le32 => ?_)
            have ap1Xp29 : Apart p1 p29 := op1.apart nn31
            have aqXp29 : Apart q p29 := oq.apart nn31
            have ayXp29 : Apart y p29 := oy.apart nn31
            have auXp29 : Apart u p29 := ou.apart nn31
            have awXp29 : Apart w p29 := ow.apart nn31
            have ap25Xp29 : Apart p25 p29 := op25.apart nn31
            have np29 : Nw H p29 := nn31.le lE
            replace op1 := op1.le le32
            replace oq := oq.le le32
            replace oy := oy.le le32
            replace ou := ou.le le32
            replace ow := ow.le le32
            replace op25 := op25.le le32
            replace lE := lE.trans le32
            replace op29 : Cel H30 p29 [(.int .i64 (0)), (.int .i64 (0)), (.slice none 0 0), (.slice none 0 0)] := op29
            refine C.spec_l06Flow op25 ou.sl ow.sl (by first | omega | assumption) ?_
            refine ob_nd (fun hc33 => ?_) (fun hc33 => ?_)
            · skip
              refine cnd_f1 ?_
              refine ob_i (op25.ldn rfl) ?_
              refine op29.stn (ws := [(.int .i64 (r)), (.int .i64 (c)), u, w]) rfl rfl (oc1 rfl (oc1 rfl (oc1 ou.one (oc1 ow.one oc0)))) (fun H34 op29 off35 => ?_)
              replace op1 := op1.off off35 ap1Xp29
              replace oq := oq.off off35 aqXp29
              replace oy := oy.off off35 ayXp29
              replace ou := ou.off off35 auXp29
              replace ow := ow.off off35 awXp29
              replace op25 := op25.off off35 ap25Xp29
              replace lE := off35.le lE np29
              replace op29 : Cel H34 p29 [(.int .i64 (r)), (.int .i64 (c)), u, w] := op29
              refine ob_i (op29.ldn rfl) ?_
              refine ob_i (vExt_20 _ _) ?_
              refine ob_i (vExt_21 _ _) ?_
              refine op1.stn (ws := [(.int .i64 (r)), (.int .i64 (c)), u, w]) rfl rfl (oc1 rfl (oc1 rfl (oc1 ou.one (oc1 ow.one oc0)))) (fun H36 op1 off37 => ?_)
              replace oq := oq.off off37 ap1Xq.symm
              replace oy := oy.off off37 ap1Xy.symm
              replace ou := ou.off off37 ap1Xu.symm
              replace ow := ow.off off37 ap1Xw.symm
              replace op25 := op25.off off37 ap1Xp25.symm
              replace op29 := op29.off off37 ap1Xp29.symm
              replace lE := off37.le lE np1
              replace op1 : Cel H36 p1 [(.int .i64 (r)), (.int .i64 (c)), u, w] := op1
              refine ob_i (op1.ldn rfl) ?_
              skip
              have hok : evenP r c m a b := by exact ⟨⟨hs, ⟨by simp_all, by simp_all, by simp_all⟩⟩, (FL.fin hls).mp (hc33).2.2.2⟩
              exact keq (K := K) (by rw [show ((selI (evenP r c m a b) (r)) : Int) = (r) from by first | exact selI_t hok | exact selI_f hok]; rw [show ((selI (evenP r c m a b) (c)) : Int) = (c) from by first | exact selI_t hok | exact selI_f hok]; rw [decide_eq_true (show (evenP r c m a b) from by exact hok)]) (hk  u w _ (Own.cast (show ls = selL (evenP r c m a b) ((evenE m a b (r * c).toNat).map vO) by first | exact (selL_t hok).symm | (rw [selL_t hok]; exact FL.vals hls hok.2)) ou) (Own.cast (show List.replicate (r * c).toNat false = selL (evenP r c m a b) (List.replicate (r * c).toNat false) by first | exact (selL_t hok).symm | (rw [selL_t hok]; exact FL.vals hls hok.2)) ow) nu nw auXw lE)
            · skip
              refine cnd_t1 ?_
              refine ob_i (a := (.agg #[(.int .i64 (0)), (.int .i64 (0)), (.slice none 0 0), (.slice none 0 0)])) (by rfl) ?_
              refine op29.stn (ws := [(.int .i64 (0)), (.int .i64 (0)), (.slice none 0 0), (.slice none 0 0)]) rfl rfl (oc1 rfl (oc1 rfl (oc1 rfl (oc1 rfl oc0)))) (fun H38 op29 off39 => ?_)
              replace op1 := op1.off off39 ap1Xp29
              replace oq := oq.off off39 aqXp29
              replace oy := oy.off off39 ayXp29
              replace ou := ou.off off39 auXp29
              replace ow := ow.off off39 awXp29
              replace op25 := op25.off off39 ap25Xp29
              replace lE := off39.le lE np29
              replace op29 : Cel H38 p29 [(.int .i64 (0)), (.int .i64 (0)), (.slice none 0 0), (.slice none 0 0)] := op29
              refine ob_i (op29.ldn rfl) ?_
              refine ob_i (vExt_20 _ _) ?_
              refine ob_i (vExt_21 _ _) ?_
              refine op1.stn (ws := [(.int .i64 (0)), (.int .i64 (0)), (.slice none 0 0), (.slice none 0 0)]) rfl rfl (oc1 rfl (oc1 rfl (oc1 rfl (oc1 rfl oc0)))) (fun H40 op1 off41 => ?_)
              replace oq := oq.off off41 ap1Xq.symm
              replace oy := oy.off off41 ap1Xy.symm
              replace ou := ou.off off41 ap1Xu.symm
              replace ow := ow.off off41 ap1Xw.symm
              replace op25 := op25.off off41 ap1Xp25.symm
              replace op29 := op29.off off41 ap1Xp29.symm
              replace lE := off41.le lE np1
              replace op1 : Cel H40 p1 [(.int .i64 (0)), (.int .i64 (0)), (.slice none 0 0), (.slice none 0 0)] := op1
              refine ob_i (op1.ldn rfl) ?_
              skip
              have hok : ¬ (evenP r c m a b) := by exact fun h => hc33 ⟨hs, by have := hls.len; rw [evenE_len] at this; omega, by simp; omega, (FL.fin hls).mpr h.2⟩
              exact keq (K := K) (by rw [show ((selI (evenP r c m a b) (r)) : Int) = (0) from by first | exact selI_t hok | exact selI_f hok]; rw [show ((selI (evenP r c m a b) (c)) : Int) = (0) from by first | exact selI_t hok | exact selI_f hok]; rw [decide_eq_false (show ¬ (evenP r c m a b) from by exact hok)]) (hk  (.slice none 0 0) (.slice none 0 0) _ (Own.cast (show [] = selL (evenP r c m a b) ((evenE m a b (r * c).toNat).map vO) by exact (selL_f hok).symm) (Own.nil_of none)) (Own.cast (show [] = selL (evenP r c m a b) (List.replicate (r * c).toNat false) by exact (selL_f hok).symm) (Own.nil_of none)) (fun b hb => by simp [bk] at hb) (fun b hb => by simp [bk] at hb) (fun b hb => by simp [bk] at hb) lE)
          refine ⟨fun n' σ' H' => ∃ i : Nat, n' = (r * c).toNat - i ∧ i ≤ (r * c).toNat ∧ ∃ u, ∃ w, ∃ ls, σ' 0 = (.int .i64 (r)) ∧ σ' 1 = (.int .i64 (c)) ∧ σ' 10 = p1 ∧ σ' 12 = q ∧ σ' 13 = y ∧ σ' 14 = (.int .i64 ((i : Int))) ∧ Cel H' p1 [(.int .i64 (0)), (.int .i64 (0)), (.slice none 0 0), (.slice none 0 0)] ∧ Cel H' q [(.int .i64 (r)), (.int .i64 (c)), u, w] ∧ Own eF H' y (ls20) ∧ Own eF H' u (ls) ∧ Own eB H' w (List.replicate i false) ∧ Nw H u ∧ Apart p1 u ∧ Apart q u ∧ Apart y u ∧ Nw H w ∧ Apart p1 w ∧ Apart q w ∧ Apart y w ∧ Apart u w ∧ Le H H' ∧ FL (evenE m a b i) ls,
            ⟨_, 0, rfl, by omega, _, _, _, rfl, rfl, rfl, rfl, rfl, (congrArg (Value.int .i64) (by first | omega | rfl | (simp; done))), op1, oq, oy, (Own.cast (by first | rfl | (simp; done)) (Own.nil_of none)), (Own.cast (by first | rfl | (simp; done)) (Own.nil_of none)), (fun b hb => by simp [bk] at hb), (fun b _ hb => by simp [bk] at hb), (fun b _ hb => by simp [bk] at hb), (fun b _ hb => by simp [bk] at hb), (fun b hb => by simp [bk] at hb), (fun b _ hb => by simp [bk] at hb), (fun b _ hb => by simp [bk] at hb), (fun b _ hb => by simp [bk] at hb), (fun b hb => by simp [bk] at hb), lE, FL.nil⟩, ?_⟩
          rintro n42 σ42 H42 ⟨i, rfl, hiN, u, w, ls, g0L42, g1L42, g10L42, g12L42, g13L42, g14L42, op1, oq, oy, ou, ow, nu, ap1Xu, aqXu, ayXu, nw, ap1Xw, aqXw, ayXw, auXw, lE, hls⟩
          try simp only [g0L42, g1L42, g10L42, g12L42, g13L42, g14L42]
          have ll := hls.len
          rw [evenE_len] at ll
          have lw : (List.replicate i false).length = i := List.length_replicate
          have lc := hls20.len
          rw [calmE_len] at lc
          refine ob_i (vInt_mul (by omega) (by omega)) ?_
          refine ob_i (vInt_lss _ _ _) ?_
          refine cnd_d (fun hg43 => ?_) (fun hg43 => ?_)
          · skip
            have ti := hg43
            refine ob_i (oq.fa 2) ?_
            refine ob_i (oq.ld 2 rfl) ?_
            refine apd_any ou oy.sl (fun _ => rfl) (by omega) (by first | omega | (simp only [List.length_cons, List.length_nil, List.length_append, List.length_replicate, List.length_map, List.length_range]; omega)) (fun u47 H44 ou47 off45 hb46 => ?_)
            have ap1Xu47 : Apart p1 u47 := Apart.ap2 op1.known ap1Xu hb46
            have aqXu47 : Apart q u47 := Apart.ap2 oq.known aqXu hb46
            have ayXu47 : Apart y u47 := Apart.ap2 oy.known ayXu hb46
            have awXu47 : Apart w u47 := Apart.ap2 ow.known auXw.symm hb46
            have nu47 : Nw H u47 := Nw.ap2 nu lE hb46
            replace op1 := op1.off off45 ap1Xu
            replace oq := oq.off off45 aqXu
            replace oy := oy.off off45 ayXu
            replace ow := ow.off off45 auXw.symm
            replace lE := off45.le lE nu
            refine ob_i (oq.fa 2) ?_
            refine oq.st (by simp) ou47.one ou47.cells (fun H48 oq off49 => ?_)
            replace op1 := op1.off off49 ap1Xq
            replace oy := oy.off off49 aqXy.symm
            replace ow := ow.off off49 aqXw.symm
            replace ou47 := ou47.off off49 aqXu47.symm
            replace lE := off49.le lE nq
            replace oq : Cel H48 q [(.int .i64 (r)), (.int .i64 (c)), u47, w] := oq
            refine ob_i (oq.fa 3) ?_
            refine ob_i (oq.ld 3 rfl) ?_
            refine bS_i (enc := eB) (l := [false]) (by omega) rfl (by kernel_rfl) (fun u50 H51 ou50 nn52 le54 => ?_)
            have ap1Xu50 : Apart p1 u50 := op1.apart nn52
            have aqXu50 : Apart q u50 := oq.apart nn52
            have ayXu50 : Apart y u50 := oy.apart nn52
            have awXu50 : Apart w u50 := ow.apart nn52
            have au47Xu50 : Apart u47 u50 := ou47.apart nn52
            have nu50 : Nw H u50 := nn52.le lE
            replace op1 := op1.le le54
            replace oq := oq.le le54
            replace oy := oy.le le54
            replace ow := ow.le le54
            replace ou47 := ou47.le le54
            replace lE := lE.trans le54
            refine apd_any ow ou50.sl (fun _ => rfl) (by omega) (by first | omega | (simp only [List.length_cons, List.length_nil, List.length_append, List.length_replicate, List.length_map, List.length_range]; omega)) (fun u58 H55 ou58 off56 hb57 => ?_)
            have ap1Xu58 : Apart p1 u58 := Apart.ap2 op1.known ap1Xw hb57
            have aqXu58 : Apart q u58 := Apart.ap2 oq.known aqXw hb57
            have ayXu58 : Apart y u58 := Apart.ap2 oy.known ayXw hb57
            have au47Xu58 : Apart u47 u58 := Apart.ap2 ou47.known awXu47.symm hb57
            have au50Xu58 : Apart u50 u58 := Apart.ap2 ou50.known awXu50.symm hb57
            have nu58 : Nw H u58 := Nw.ap2 nw lE hb57
            replace op1 := op1.off off56 ap1Xw
            replace oq := oq.off off56 aqXw
            replace oy := oy.off off56 ayXw
            replace ou47 := ou47.off off56 awXu47.symm
            replace ou50 := ou50.off off56 awXu50.symm
            replace lE := off56.le lE nw
            refine ob_i (oq.fa 3) ?_
            refine oq.st (by simp) ou58.one ou58.cells (fun H59 oq off60 => ?_)
            replace op1 := op1.off off60 ap1Xq
            replace oy := oy.off off60 aqXy.symm
            replace ou47 := ou47.off off60 aqXu47.symm
            replace ou50 := ou50.off off60 aqXu50.symm
            replace ou58 := ou58.off off60 aqXu58.symm
            replace lE := off60.le lE nq
            replace oq : Cel H59 q [(.int .i64 (r)), (.int .i64 (c)), u47, u58] := oq
            refine ob_i (vInt_add (by omega) (by omega)) ?_
            exact nxt ((r * c).toNat - (i + 1)) (by omega) ⟨i + 1, rfl, by omega, u47, u58, _, g0L42, g1L42, g10L42, g12L42, g13L42, (congrArg (Value.int .i64) (by first | omega | rfl | (simp; done))), op1, oq, oy, ou47, (Own.cast (repl_succ i) ou58), nu47, ap1Xu47, aqXu47, ayXu47, nu58, ap1Xu58, aqXu58, ayXu58, au47Xu58, lE, (hls.app hls20)⟩
          · skip
            have ti := hg43
            obtain rfl : i = (r * c).toNat := by omega
            exact hJ24 _ _ ⟨u, w, _, g10L42, g12L42, op1, oq, oy, ou, ow, nu, ap1Xu, aqXu, ayXu, nw, ap1Xw, aqXw, ayXw, auXw, lE, hls⟩
  · skip
    refine gop_st ?_
    refine gop_st ?_
    refine gop_st ?_
    refine ob_i (vPick_t _ _) ?_
    refine gop_st ?_
    refine gop_st ?_
    refine gop_st ?_
    refine ob_i (vPick_t _ _) ?_
    refine gop_st ?_
    refine gop_st ?_
    refine gop_st ?_
    refine ob_i (vPick_t _ _) ?_
    refine cnd_t1 ?_
    refine ob_i (a := (.agg #[(.int .i64 (0)), (.int .i64 (0)), (.slice none 0 0), (.slice none 0 0)])) (by rfl) ?_
    refine op1.stn (ws := [(.int .i64 (0)), (.int .i64 (0)), (.slice none 0 0), (.slice none 0 0)]) rfl rfl (oc1 rfl (oc1 rfl (oc1 rfl (oc1 rfl oc0)))) (fun H61 op1 off62 => ?_)
    replace lE := off62.le lE np1
    replace op1 : Cel H61 p1 [(.int .i64 (0)), (.int .i64 (0)), (.slice none 0 0), (.slice none 0 0)] := op1
    refine ob_i (op1.ldn rfl) ?_
    skip
    have hok : ¬ (evenP r c m a b) := by first | (intro h; exact absurd h.1.1 (by assumption)) | (intro h; have h1 := h.1.2; simp_all)
    exact keq (K := K) (by rw [show ((selI (evenP r c m a b) (r)) : Int) = (0) from by first | exact selI_t hok | exact selI_f hok]; rw [show ((selI (evenP r c m a b) (c)) : Int) = (0) from by first | exact selI_t hok | exact selI_f hok]; rw [decide_eq_false (show ¬ (evenP r c m a b) from by exact hok)]) (hk  (.slice none 0 0) (.slice none 0 0) _ (Own.cast (show [] = selL (evenP r c m a b) ((evenE m a b (r * c).toNat).map vO) by exact (selL_f hok).symm) (Own.nil_of none)) (Own.cast (show [] = selL (evenP r c m a b) (List.replicate (r * c).toNat false) by exact (selL_f hok).symm) (Own.nil_of none)) (fun b hb => by simp [bk] at hb) (fun b hb => by simp [bk] at hb) (fun b hb => by simp [bk] at hb) lE)
theorem C.impl_EvenFlow {r c : Int} {m a b : Nat} {H : Hp} {K : Value → Hp → Prop}
    (hk : ∀ u1 u2 H', Own eF H' u1 (selL (evenP r c m a b) ((evenE m a b (r * c).toNat).map vO)) → Own eB H' u2 (selL (evenP r c m a b) (List.replicate (r * c).toNat false)) → Nw H u1 → Nw H u2 → Apart u1 u2 → Le H H' → K (.tuple #[(.agg #[(.int .i64 (selI (evenP r c m a b) (r))), (.int .i64 (selI (evenP r c m a b) (c))), u1, u2]), (.bool (decide (evenP r c m a b)))]) H') : HT prg I.impl_EvenFlow [(.int .i64 (r)), (.int .i64 (c)), (.float .f32 m), (.float .f32 a), (.float .f32 b)].toArray H K := by
  have lE := Le.refl H
  refine R.impl_EvenFlow ?_
  unfold F.impl_EvenFlow
  refine nw_i (fun p1 H2 op1 nn3 le4 => ?_)
  have np1 : Nw H p1 := nn3.le lE
  replace lE := lE.trans le4
  replace op1 : Cel H2 p1 [(.int .i64 (0)), (.int .i64 (0)), (.slice none 0 0), (.slice none 0 0)] := op1
  refine C.impl_areSides  ?_
  refine ob_nd (fun hc5 => ?_) (fun hc5 => ?_)
  · skip
    have hs := hc5
    have qm := sides_mul hs
    have q1 := hs.1
    have q2 := hs.2
    refine gop_rf ?_
    refine gop_rf ?_
    refine gop_rf ?_
    refine gop_rf ?_
    refine bS_i (enc := eF) (l := [m, a, b]) (by omega) rfl (by kernel_rfl) (fun u6 H7 ou6 nn8 le10 => ?_)
    have ap1Xu6 : Apart p1 u6 := op1.apart nn8
    have nu6 : Nw H u6 := nn8.le lE
    replace op1 := op1.le le10
    replace lE := lE.trans le10
    refine gop_rf ?_
    refine C.impl_areFinite ou6.sl (by first | omega | assumption | simp) ?_
    refine gop_rf ?_
    refine ob_nd (fun hc11 => ?_) (fun hc11 => ?_)
    · skip
      refine ob_i (vPick_f _ _) ?_
      refine cnd_f1 ?_
      refine ob_i (vInt_mul (by omega) (by omega)) ?_
      refine Own.mk_ (z := (false : Bool)) (by omega) (by omega) (by omega) (by omega) (fun w H12 ow nn13 le14 => ?_)
      have ap1Xw : Apart p1 w := op1.apart nn13
      have au6Xw : Apart u6 w := ou6.apart nn13
      have nw : Nw H w := nn13.le lE
      replace op1 := op1.le le14
      replace ou6 := ou6.le le14
      replace lE := lE.trans le14
      refine ob_i (a := (.agg #[(.int .i64 (r)), (.int .i64 (c)), (.slice none 0 0), w])) (by obtain ⟨_, _, _, rfl⟩ := ow.isSl; rfl) ?_
      refine nw_i (fun q H15 oq nn16 le17 => ?_)
      have ap1Xq : Apart p1 q := op1.apart nn16
      have au6Xq : Apart u6 q := ou6.apart nn16
      have awXq : Apart w q := ow.apart nn16
      have nq : Nw H q := nn16.le lE
      replace op1 := op1.le le17
      replace ou6 := ou6.le le17
      replace ow := ow.le le17
      replace lE := lE.trans le17
      replace oq : Cel H15 q [(.int .i64 (0)), (.int .i64 (0)), (.slice none 0 0), (.slice none 0 0)] := oq
      refine oq.stn (ws := [(.int .i64 (r)), (.int .i64 (c)), (.slice none 0 0), w]) rfl rfl (oc1 rfl (oc1 rfl (oc1 rfl (oc1 ow.one oc0)))) (fun H18 oq off19 => ?_)
      replace op1 := op1.off off19 ap1Xq
      replace ou6 := ou6.off off19 au6Xq
      replace ow := ow.off off19 awXq
      replace lE := off19.le lE nq
      replace oq : Cel H18 q [(.int .i64 (r)), (.int .i64 (c)), (.slice none 0 0), w] := oq
      refine jn_i (fun σ' H' => ∃ u, ∃ ls, σ' 10 = p1 ∧ σ' 12 = q ∧ Cel H' p1 [(.int .i64 (0)), (.int .i64 (0)), (.slice none 0 0), (.slice none 0 0)] ∧ Own eF H' u6 ([m, a, b]) ∧ Own eB H' w (List.replicate (r * c : Int).toNat false) ∧ Cel H' q [(.int .i64 (r)), (.int .i64 (c)), u, w] ∧ Own eF H' u (ls) ∧ Nw H u ∧ Apart p1 u ∧ Apart u6 u ∧ Apart w u ∧ Apart q u ∧ Le H H' ∧ FL (evenE m a b (r * c).toNat) ls) (fun σ20 H20 hP => ?_) (fun J20 hJ20 => ?_)
      · skip
        obtain ⟨u, ls, g10L20, g12L20, op1, ou6, ow, oq, ou, nu, ap1Xu, au6Xu, awXu, aqXu, lE, hls⟩ := hP
        try simp only [g10L20, g12L20]
        have ll := hls.len
        rw [evenE_len] at ll
        have lw : (List.replicate (r * c).toNat false).length = (r * c).toNat := List.length_replicate
        refine ob_i (oq.ldn rfl) ?_
        refine C.impl_ValidFlow ou.sl ow.sl (by first | omega | assumption) (by first | omega | assumption) (fun   H21    le22 => ?_)
        replace op1 := op1.le le22
        replace ou6 := ou6.le le22
        replace ow := ow.le le22
        replace oq := oq.le le22
        replace ou := ou.le le22
        replace lE := lE.trans le22
        refine ob_nd (fun hc23 => ?_) (fun hc23 => ?_)
        · skip
          refine cnd_f1 ?_
          refine ob_i (oq.ldn rfl) ?_
          refine op1.stn (ws := [(.int .i64 (r)), (.int .i64 (c)), u, w]) rfl rfl (oc1 rfl (oc1 rfl (oc1 ou.one (oc1 ow.one oc0)))) (fun H24 op1 off25 => ?_)
          replace ou6 := ou6.off off25 ap1Xu6.symm
          replace ow := ow.off off25 ap1Xw.symm
          replace oq := oq.off off25 ap1Xq.symm
          replace ou := ou.off off25 ap1Xu.symm
          replace lE := off25.le lE np1
          replace op1 : Cel H24 p1 [(.int .i64 (r)), (.int .i64 (c)), u, w] := op1
          refine ob_i (op1.ldn rfl) ?_
          skip
          have hok : evenP r c m a b := by exact ⟨⟨hs, (by have h3 := hc11; simp at h3; exact h3)⟩, (FL.fin hls).mp (hc23).2.2.2⟩
          exact keq (K := K) (by rw [show ((selI (evenP r c m a b) (r)) : Int) = (r) from by first | exact selI_t hok | exact selI_f hok]; rw [show ((selI (evenP r c m a b) (c)) : Int) = (c) from by first | exact selI_t hok | exact selI_f hok]; rw [decide_eq_true (show (evenP r c m a b) from by exact hok)]) (hk  u w _ (Own.cast (show ls = selL (evenP r c m a b) ((evenE m a b (r * c).toNat).map vO) by first | exact (selL_t hok).symm | (rw [selL_t hok]; exact FL.vals hls hok.2)) ou) (Own.cast (show List.replicate (r * c : Int).toNat false = selL (evenP r c m a b) (List.replicate (r * c).toNat false) by first | exact (selL_t hok).symm | (rw [selL_t hok]; exact FL.vals hls hok.2)) ow) nu nw awXu.symm lE)
        · skip
          refine cnd_t1 ?_
          refine ob_i (a := (.agg #[(.int .i64 (0)), (.int .i64 (0)), (.slice none 0 0), (.slice none 0 0)])) (by rfl) ?_
          refine op1.stn (ws := [(.int .i64 (0)), (.int .i64 (0)), (.slice none 0 0), (.slice none 0 0)]) rfl rfl (oc1 rfl (oc1 rfl (oc1 rfl (oc1 rfl oc0)))) (fun H26 op1 off27 => ?_)
          replace ou6 := ou6.off off27 ap1Xu6.symm
          replace ow := ow.off off27 ap1Xw.symm
          replace oq := oq.off off27 ap1Xq.symm
          replace ou := ou.off off27 ap1Xu.symm
          replace lE := off27.le lE np1
          replace op1 : Cel H26 p1 [(.int .i64 (0)), (.int .i64 (0)), (.slice none 0 0), (.slice none 0 0)] := op1
          refine ob_i (op1.ldn rfl) ?_
          skip
          have hok : ¬ (evenP r c m a b) := by exact fun h => hc23 ⟨hs, by have := hls.len; rw [evenE_len] at this; omega, by simp; omega, (FL.fin hls).mpr h.2⟩
          exact keq (K := K) (by rw [show ((selI (evenP r c m a b) (r)) : Int) = (0) from by first | exact selI_t hok | exact selI_f hok]; rw [show ((selI (evenP r c m a b) (c)) : Int) = (0) from by first | exact selI_t hok | exact selI_f hok]; rw [decide_eq_false (show ¬ (evenP r c m a b) from by exact hok)]) (hk  (.slice none 0 0) (.slice none 0 0) _ (Own.cast (show [] = selL (evenP r c m a b) ((evenE m a b (r * c).toNat).map vO) by exact (selL_f hok).symm) (Own.nil_of none)) (Own.cast (show [] = selL (evenP r c m a b) (List.replicate (r * c).toNat false) by exact (selL_f hok).symm) (Own.nil_of none)) (fun b hb => by simp [bk] at hb) (fun b hb => by simp [bk] at hb) (fun b hb => by simp [bk] at hb) lE)
      refine ob_i (vInt_mul (by omega) (by omega)) ?_
      refine ⟨fun n' σ' H' => ∃ i : Nat, n' = (r * c).toNat - i ∧ i ≤ (r * c).toNat ∧ ∃ u, ∃ ls, σ' 2 = (.float .f32 m) ∧ σ' 3 = (.float .f32 a) ∧ σ' 4 = (.float .f32 b) ∧ σ' 10 = p1 ∧ σ' 12 = q ∧ σ' 36 = (.int .i64 (r * c)) ∧ σ' 37 = (.int .i64 ((i : Int))) ∧ Cel H' p1 [(.int .i64 (0)), (.int .i64 (0)), (.slice none 0 0), (.slice none 0 0)] ∧ Own eF H' u6 ([m, a, b]) ∧ Own eB H' w (List.replicate (r * c : Int).toNat false) ∧ Cel H' q [(.int .i64 (r)), (.int .i64 (c)), u, w] ∧ Own eF H' u (ls) ∧ Nw H u ∧ Apart p1 u ∧ Apart u6 u ∧ Apart w u ∧ Apart q u ∧ Le H H' ∧ FL (evenE m a b i) ls,
        ⟨_, 0, rfl, by omega, _, _, rfl, rfl, rfl, rfl, rfl, rfl, (congrArg (Value.int .i64) (by first | omega | rfl | (simp; done))), op1, ou6, ow, oq, (Own.cast (by first | rfl | (simp; done)) (Own.nil_of none)), (fun b hb => by simp [bk] at hb), (fun b _ hb => by simp [bk] at hb), (fun b _ hb => by simp [bk] at hb), (fun b _ hb => by simp [bk] at hb), (fun b _ hb => by simp [bk] at hb), lE, FL.nil⟩, ?_⟩
      rintro n28 σ28 H28 ⟨i, rfl, hiN, u, ls, g2L28, g3L28, g4L28, g10L28, g12L28, g36L28, g37L28, op1, ou6, ow, oq, ou, nu, ap1Xu, au6Xu, awXu, aqXu, lE, hls⟩
      try simp only [g2L28, g3L28, g4L28, g10L28, g12L28, g36L28, g37L28]
      have ll := hls.len
      rw [evenE_len] at ll
      refine ob_i (vInt_lss _ _ _) ?_
      refine cnd_d (fun hg29 => ?_) (fun hg29 => ?_)
      · skip
        have ti := hg29
        refine jn_i (fun σ' H' => ∃ u, ∃ l2, σ' 2 = (.float .f32 m) ∧ σ' 3 = (.float .f32 a) ∧ σ' 4 = (.float .f32 b) ∧ σ' 10 = p1 ∧ σ' 12 = q ∧ σ' 36 = (.int .i64 (r * c)) ∧ σ' 37 = (.int .i64 ((i : Int))) ∧ Cel H' p1 [(.int .i64 (0)), (.int .i64 (0)), (.slice none 0 0), (.slice none 0 0)] ∧ Own eF H' u6 ([m, a, b]) ∧ Own eB H' w (List.replicate (r * c : Int).toNat false) ∧ Cel H' q [(.int .i64 (r)), (.int .i64 (c)), u, w] ∧ Own eF H' u (l2) ∧ Nw H u ∧ Apart p1 u ∧ Apart u6 u ∧ Apart w u ∧ Apart q u ∧ Le H H' ∧ FL (evenE m a b (i + 1)) l2) (fun σ30 H30 hP => ?_) (fun J30 hJ30 => ?_)
        · skip
          obtain ⟨u, l2, g2L30, g3L30, g4L30, g10L30, g12L30, g36L30, g37L30, op1, ou6, ow, oq, ou, nu, ap1Xu, au6Xu, awXu, aqXu, lE, hl2⟩ := hP
          try simp only [g10L30, g37L30]
          refine ob_i (vInt_add (by omega) (by omega)) ?_
          exact nxt ((r * c).toNat - (i + 1)) (by omega) ⟨i + 1, rfl, by omega, u, _, g2L30, g3L30, g4L30, g10L30, g12L30, g36L30, (congrArg (Value.int .i64) (by first | omega | rfl | (simp; done))), op1, ou6, ow, oq, ou, nu, ap1Xu, au6Xu, awXu, aqXu, lE, hl2⟩
        refine ⟨fun n' σ' H' => ∃ k : Nat, n' = 9 - k ∧ k ≤ 9 ∧ ∃ u, ∃ l2, σ' 2 = (.float .f32 m) ∧ σ' 3 = (.float .f32 a) ∧ σ' 4 = (.float .f32 b) ∧ σ' 10 = p1 ∧ σ' 12 = q ∧ σ' 36 = (.int .i64 (r * c)) ∧ σ' 37 = (.int .i64 ((i : Int))) ∧ σ' 39 = (.int .i64 ((k : Int))) ∧ Cel H' p1 [(.int .i64 (0)), (.int .i64 (0)), (.slice none 0 0), (.slice none 0 0)] ∧ Own eF H' u6 ([m, a, b]) ∧ Own eB H' w (List.replicate (r * c : Int).toNat false) ∧ Cel H' q [(.int .i64 (r)), (.int .i64 (c)), u, w] ∧ Own eF H' u (l2) ∧ Nw H u ∧ Apart p1 u ∧ Apart u6 u ∧ Apart w u ∧ Apart q u ∧ Le H H' ∧ FL (evenE m a b i ++ calmE m a b k) l2,
          ⟨_, 0, rfl, by omega, u, _, g2L28, g3L28, g4L28, g10L28, g12L28, g36L28, g37L28, (congrArg (Value.int .i64) (by first | omega | rfl | (simp; done))), op1, ou6, ow, oq, (Own.cast (by first | rfl | (simp; done)) ou), nu, ap1Xu, au6Xu, awXu, aqXu, lE, (FL.cast (by simp [calmE]) hls)⟩, ?_⟩
        rintro n31 σ31 H31 ⟨k, rfl, hkN, u, l2, g2L31, g3L31, g4L31, g10L31, g12L31, g36L31, g37L31, g39L31, op1, ou6, ow, oq, ou, nu, ap1Xu, au6Xu, awXu, aqXu, lE, hl2⟩
        try simp only [g2L31, g3L31, g4L31, g10L31, g12L31, g39L31]
        have l2l := hl2.len
        rw [List.length_append, evenE_len, calmE_len] at l2l
        refine ob_i (vInt_lss _ _ _) ?_
        refine cnd_d (fun hg32 => ?_) (fun hg32 => ?_)
        · skip
          have tk := hg32
          refine ob_i (oq.fa 2) ?_
          refine ob_i (oq.ld 2 rfl) ?_
          refine C.impl_calm (by first | omega | assumption) (by first | omega | assumption) (fun  z33 hz33  H34    le35 => ?_)
          replace op1 := op1.le le35
          replace ou6 := ou6.le le35
          replace ow := ow.le le35
          replace oq := oq.le le35
          replace ou := ou.le le35
          replace lE := lE.trans le35
          refine ⟨le35, ?_⟩
          refine bS_i (enc := eF) (l := [z33]) (by omega) rfl (by kernel_rfl) (fun u36 H37 ou36 nn38 le40 => ?_)
          have ap1Xu36 : Apart p1 u36 := op1.apart nn38
          have au6Xu36 : Apart u6 u36 := ou6.apart nn38
          have awXu36 : Apart w u36 := ow.apart nn38
          have aqXu36 : Apart q u36 := oq.apart nn38
          have auXu36 : Apart u u36 := ou.apart nn38
          have nu36 : Nw H u36 := nn38.le lE
          replace op1 := op1.le le40
          replace ou6 := ou6.le le40
          replace ow := ow.le le40
          replace oq := oq.le le40
          replace ou := ou.le le40
          replace lE := lE.trans le40
          refine apd_any ou ou36.sl (fun _ => rfl) (by omega) (by first | omega | (simp only [List.length_cons, List.length_nil, List.length_append, List.length_replicate, List.length_map, List.length_range]; omega)) (fun u44 H41 ou44 off42 hb43 => ?_)
          have ap1Xu44 : Apart p1 u44 := Apart.ap2 op1.known ap1Xu hb43
          have au6Xu44 : Apart u6 u44 := Apart.ap2 ou6.known au6Xu hb43
          have awXu44 : Apart w u44 := Apart.ap2 ow.known awXu hb43
          have aqXu44 : Apart q u44 := Apart.ap2 oq.known aqXu hb43
          have au36Xu44 : Apart u36 u44 := Apart.ap2 ou36.known auXu36.symm hb43
          have nu44 : Nw H u44 := Nw.ap2 nu lE hb43
          replace op1 := op1.off off42 ap1Xu
          replace ou6 := ou6.off off42 au6Xu
          replace ow := ow.off off42 awXu
          replace oq := oq.off off42 aqXu
          replace ou36 := ou36.off off42 auXu36.symm
          replace lE := off42.le lE nu
          refine ob_i (oq.fa 2) ?_
          refine oq.st (by simp) ou44.one ou44.cells (fun H45 oq off46 => ?_)
          replace op1 := op1.off off46 ap1Xq
          replace ou6 := ou6.off off46 au6Xq
          replace ow := ow.off off46 awXq
          replace ou36 := ou36.off off46 aqXu36.symm
          replace ou44 := ou44.off off46 aqXu44.symm
          replace lE := off46.le lE nq
          replace oq : Cel H45 q [(.int .i64 (r)), (.int .i64 (c)), u44, w] := oq
          refine ob_i (vInt_add (by omega) (by omega)) ?_
          exact nxt (9 - (k + 1)) (by omega) ⟨k + 1, rfl, by omega, u44, _, g2L31, g3L31, g4L31, g10L31, g12L31, g36L31, g37L31, (congrArg (Value.int .i64) (by first | omega | rfl | (simp; done))), op1, ou6, ow, oq, ou44, nu44, ap1Xu44, au6Xu44, awXu44, aqXu44, lE, (FL.cast (by rw [List.append_assoc, calmE_succ m a b k]) (hl2.app (FL.one hz33)))⟩
        · skip
          have tk := hg32
          obtain rfl : k = 9 := by omega
          exact hJ30 _ _ ⟨u, _, g2L31, g3L31, g4L31, g10L31, g12L31, g36L31, g37L31, op1, ou6, ow, oq, ou, nu, ap1Xu, au6Xu, awXu, aqXu, lE, hl2⟩
      · skip
        have ti := hg29
        obtain rfl : i = (r * c).toNat := by omega
        exact hJ20 _ _ ⟨u, _, g10L28, g12L28, op1, ou6, ow, oq, ou, nu, ap1Xu, au6Xu, awXu, aqXu, lE, hls⟩
    · skip
      refine ob_i (vPick_f _ _) ?_
      refine cnd_t1 ?_
      refine ob_i (a := (.agg #[(.int .i64 (0)), (.int .i64 (0)), (.slice none 0 0), (.slice none 0 0)])) (by rfl) ?_
      refine op1.stn (ws := [(.int .i64 (0)), (.int .i64 (0)), (.slice none 0 0), (.slice none 0 0)]) rfl rfl (oc1 rfl (oc1 rfl (oc1 rfl (oc1 rfl oc0)))) (fun H47 op1 off48 => ?_)
      replace ou6 := ou6.off off48 ap1Xu6.symm
      replace lE := off48.le lE np1
      replace op1 : Cel H47 p1 [(.int .i64 (0)), (.int .i64 (0)), (.slice none 0 0), (.slice none 0 0)] := op1
      refine ob_i (op1.ldn rfl) ?_
      skip
      have hok : ¬ (evenP r c m a b) := by first | (intro h; exact absurd h.1.1 (by assumption)) | (intro h; have h1 := h.1.2; simp_all)
      exact keq (K := K) (by rw [show ((selI (evenP r c m a b) (r)) : Int) = (0) from by first | exact selI_t hok | exact selI_f hok]; rw [show ((selI (evenP r c m a b) (c)) : Int) = (0) from by first | exact selI_t hok | exact selI_f hok]; rw [decide_eq_false (show ¬ (evenP r c m a b) from by exact hok)]) (hk  (.slice none 0 0) (.slice none 0 0) _ (Own.cast (show [] = selL (evenP r c m a b) ((evenE m a b (r * c).toNat).map vO) by exact (selL_f hok).symm) (Own.nil_of none)) (Own.cast (show [] = selL (evenP r c m a b) (List.replicate (r * c).toNat false) by exact (selL_f hok).symm) (Own.nil_of none)) (fun b hb => by simp [bk] at hb) (fun b hb => by simp [bk] at hb) (fun b hb => by simp [bk] at hb) lE)
  · skip
    refine gop_st ?_
    refine gop_st ?_
    refine gop_st ?_
    refine gop_st ?_
    refine gop_st ?_
    refine gop_st ?_
    refine ob_i (vPick_t _ _) ?_
    refine cnd_t1 ?_
    refine ob_i (a := (.agg #[(.int .i64 (0)), (.int .i64 (0)), (.slice none 0 0), (.slice none 0 0)])) (by rfl) ?_
    refine op1.stn (ws := [(.int .i64 (0)), (.int .i64 (0)), (.slice none 0 0), (.slice none 0 0)]) rfl rfl (oc1 rfl (oc1 rfl (oc1 rfl (oc1 rfl oc0)))) (fun H49 op1 off50 => ?_)
    replace lE := off50.le lE np1
    replace op1 : Cel H49 p1 [(.int .i64 (0)), (.int .i64 (0)), (.slice none 0 0), (.slice none 0 0)] := op1
    refine ob_i (op1.ldn rfl) ?_
    skip
    have hok : ¬ (evenP r c m a b) := by first | (intro h; exact absurd h.1.1 (by assumption)) | (intro h; have h1 := h.1.2; simp_all)
    exact keq (K := K) (by rw [show ((selI (evenP r c m a b) (r)) : Int) = (0) from by first | exact selI_t hok | exact selI_f hok]; rw [show ((selI (evenP r c m a b) (c)) : Int) = (0) from by first | exact selI_t hok | exact selI_f hok]; rw [decide_eq_false (show ¬ (evenP r c m a b) from by exact hok)]) (hk  (.slice none 0 0) (.slice none 0 0) _ (Own.cast (show [] = selL (evenP r c m a b) ((evenE m a b (r * c).toNat).map vO) by exact (selL_f hok).symm) (Own.nil_of none)) (Own.cast (show [] = selL (evenP r c m a b) (List.replicate (r * c).toNat false) by exact (selL_f hok).symm) (Own.nil_of none)) (fun b hb => by simp [bk] at hb) (fun b hb => by simp [bk] at hb) (fun b hb => by simp [bk] at hb) lE)
end Go.Proofs.Ytcjamajenfgddaa
