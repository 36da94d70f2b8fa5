/- Fields as texts. -/
import Derived.Test.YtialllbbbpmkbaaDoorXD
import Derived.Test.YtialllbbbpmkbaaDoorXK
import Derived.Test.YtialllbbbpmkbaaDoorKB
import Derived.Test.YtialllbbbpmkbaaDoorTC
import Derived.Test.YtialllbbbpmkbaaDoorQH
import Derived.Test.YtialllbbbpmkbaaDoorKL
namespace Go.Proofs.YtialllbbbpmkbaaDoor
open HL
set_option maxRecDepth 100000
attribute [local irreducible] vStr
theorem C.internal_strconv_small {n : Int}  {H : Hp} {K : Value → Hp → Prop} (n0 : 0 ≤ n) (n1 : n < 100)
    (hk : K (vS (decT n.toNat)) H) : HT prg I.internal_strconv_small [(.int .i64 (n))].toArray H K := by
  have lE := Le.refl H
  refine R.internal_strconv_small ?_
  unfold F.internal_strconv_small
  refine ob_i (vInt_lss _ _ _) ?_
  refine cnd_d (fun hg1 => ?_) (fun hg1 => ?_)
  · skip
    refine ob_i (vInt_add (by omega) (by omega)) ?_
    refine ob_i (vSlS_t (a := ([48, 49, 50, 51, 52, 53, 54, 55, 56, 57, 97, 98, 99, 100, 101, 102, 103, 104, 105, 106, 107, 108, 109, 110, 111, 112, 113, 114, 115, 116, 117, 118, 119, 120, 121, 122] : List UInt8)) (by omega) (by omega) (by first | omega | (simp only [List.length_append, List.length_cons, List.length_nil, List.length_take, List.length_drop]; omega))) ?_
    skip
    exact keq (K := K) (by rw [show (decT n.toNat) = (((([48, 49, 50, 51, 52, 53, 54, 55, 56, 57, 97, 98, 99, 100, 101, 102, 103, 104, 105, 106, 107, 108, 109, 110, 111, 112, 113, 114, 115, 116, 117, 118, 119, 120, 121, 122] : List UInt8)).drop (n : Int).toNat).take ((n + 1 : Int).toNat - (n : Int).toNat)) from by exact (small_one (by omega) (by omega)).symm]; try rfl) (hk )
  · skip
    refine ob_i (vInt_mul (by omega) (by omega)) ?_
    refine ob_i (vInt_mul (by omega) (by omega)) ?_
    refine ob_i (vInt_add (by omega) (by omega)) ?_
    refine ob_i (vSlS_t (a := ([48, 48, 48, 49, 48, 50, 48, 51, 48, 52, 48, 53, 48, 54, 48, 55, 48, 56, 48, 57, 49, 48, 49, 49, 49, 50, 49, 51, 49, 52, 49, 53, 49, 54, 49, 55, 49, 56, 49, 57, 50, 48, 50, 49, 50, 50, 50, 51, 50, 52, 50, 53, 50, 54, 50, 55, 50, 56, 50, 57, 51, 48, 51, 49, 51, 50, 51, 51, 51, 52, 51, 53, 51, 54, 51, 55, 51, 56, 51, 57, 52, 48, 52, 49, 52, 50, 52, 51, 52, 52, 52, 53, 52, 54, 52, 55, 52, 56, 52, 57, 53, 48, 53, 49, 53, 50, 53, 51, 53, 52, 53, 53, 53, 54, 53, 55, 53, 56, 53, 57, 54, 48, 54, 49, 54, 50, 54, 51, 54, 52, 54, 53, 54, 54, 54, 55, 54, 56, 54, 57, 55, 48, 55, 49, 55, 50, 55, 51, 55, 52, 55, 53, 55, 54, 55, 55, 55, 56, 55, 57, 56, 48, 56, 49, 56, 50, 56, 51, 56, 52, 56, 53, 56, 54, 56, 55, 56, 56, 56, 57, 57, 48, 57, 49, 57, 50, 57, 51, 57, 52, 57, 53, 57, 54, 57, 55, 57, 56, 57, 57] : List UInt8)) (by omega) (by omega) (by first | omega | (simp only [List.length_append, List.length_cons, List.length_nil, List.length_take, List.length_drop]; omega))) ?_
    skip
    exact keq (K := K) (by rw [show (decT n.toNat) = (((([48, 48, 48, 49, 48, 50, 48, 51, 48, 52, 48, 53, 48, 54, 48, 55, 48, 56, 48, 57, 49, 48, 49, 49, 49, 50, 49, 51, 49, 52, 49, 53, 49, 54, 49, 55, 49, 56, 49, 57, 50, 48, 50, 49, 50, 50, 50, 51, 50, 52, 50, 53, 50, 54, 50, 55, 50, 56, 50, 57, 51, 48, 51, 49, 51, 50, 51, 51, 51, 52, 51, 53, 51, 54, 51, 55, 51, 56, 51, 57, 52, 48, 52, 49, 52, 50, 52, 51, 52, 52, 52, 53, 52, 54, 52, 55, 52, 56, 52, 57, 53, 48, 53, 49, 53, 50, 53, 51, 53, 52, 53, 53, 53, 54, 53, 55, 53, 56, 53, 57, 54, 48, 54, 49, 54, 50, 54, 51, 54, 52, 54, 53, 54, 54, 54, 55, 54, 56, 54, 57, 55, 48, 55, 49, 55, 50, 55, 51, 55, 52, 55, 53, 55, 54, 55, 55, 55, 56, 55, 57, 56, 48, 56, 49, 56, 50, 56, 51, 56, 52, 56, 53, 56, 54, 56, 55, 56, 56, 56, 57, 57, 48, 57, 49, 57, 50, 57, 51, 57, 52, 57, 53, 57, 54, 57, 55, 57, 56, 57, 57] : List UInt8)).drop (n * 2 : Int).toNat).take (((n * 2) + 2 : Int).toNat - (n * 2 : Int).toNat)) from by exact (small_two (by omega) (by omega)).symm]; try rfl) (hk )
theorem C.internal_strconv_FormatInt {n : Int}  {H : Hp} {K : Value → Hp → Prop} (n0 : 0 ≤ n) (n1 : n < 100)
    (hk : K (vS (decT n.toNat)) H) : HT prg I.internal_strconv_FormatInt [(.int .i64 (n)), (.int .i64 (10))].toArray H K := by
  have lE := Le.refl H
  refine R.internal_strconv_FormatInt ?_
  unfold F.internal_strconv_FormatInt
  refine ob_i (a := .bool true) (by kernel_rfl) ?_
  refine cnd_t1 ?_
  refine ob_i (vInt_leq _ _ _) ?_
  by_cases hc1 : 0 ≤ n
  · skip
    refine gop_e (decide_eq_true hc1) ?_
    refine gop_rt ?_
    refine gop_e (decide_eq_true hc1) ?_
    refine gop_rt ?_
    refine ob_i (vInt_lss _ _ _) ?_
    refine ob_i (vPick_et (decide_eq_true hc1) _ _) ?_
    refine cnd_d (fun hg2 => ?_) (fun hg2 => ?_)
    · skip
      refine C.internal_strconv_small (by first | omega | assumption) (by first | omega | assumption) ?_
      skip
      exact hk 
    · skip
      exact absurd hg2 ((fun h => h n1))
  · skip
    exact absurd hc1 ((fun h => h n0))
theorem C.strconv_FormatInt {n : Int}  {H : Hp} {K : Value → Hp → Prop} (n0 : 0 ≤ n) (n1 : n < 100)
    (hk : K (vS (decT n.toNat)) H) : HT prg I.strconv_FormatInt [(.int .i64 (n)), (.int .i64 (10))].toArray H K := by
  have lE := Le.refl H
  refine R.strconv_FormatInt ?_
  unfold F.strconv_FormatInt
  refine C.internal_strconv_FormatInt (by first | omega | assumption) (by first | omega | assumption) ?_
  skip
  exact hk 
theorem C.impl_Decimal {n : Int}  {H : Hp} {K : Value → Hp → Prop} (n0 : 0 ≤ n) (n1 : n < 100)
    (hk : K (vS (decT n.toNat)) H) : HT prg I.impl_Decimal [(.int .i64 (n))].toArray H K := by
  have lE := Le.refl H
  refine R.impl_Decimal ?_
  unfold F.impl_Decimal
  refine C.strconv_FormatInt (by first | omega | assumption) (by first | omega | assumption) ?_
  skip
  exact hk 
theorem C.l05Number_d {n : Int}  {H : Hp} {K : Value → Hp → Prop} (n0 : 0 ≤ n) (n1 : n < 10)
    (hk : ∀ H', Le H H' → K (vS (decT n.toNat)) H') : HT prg I.spec_l05Number [(.int .i64 (n))].toArray H K := by
  have lE := Le.refl H
  refine R.spec_l05Number ?_
  unfold F.spec_l05Number
  refine ob_i (vInt_lss _ _ _) ?_
  refine cnd_d (fun hg1 => ?_) (fun hg1 => ?_)
  · skip
    refine ob_i (vInt_add (by omega) (by omega)) ?_
    refine ob_i (vCI_u8 (by omega) (by omega)) ?_
    refine bS_i (enc := eU) (l := [48 + n]) (by omega) rfl (by kernel_rfl) (fun u2 H3 ou2 nn4 le6 => ?_)
    have nu2 : Nw H u2 := nn4.le lE
    replace lE := lE.trans le6
    refine ob_i (val_convT (by kernel_rfl) ou2.sl) ?_
    skip
    exact keq (K := K) (by rw [show (decT n.toNat) = (btT ([48 + n])) from by exact (num_one (by omega) (by omega)).symm]; try rfl) (hk   _    lE)
  · skip
    exact absurd hg1 ((fun h => h n1))
theorem C.spec_l05Number {n : Int}  {H : Hp} {K : Value → Hp → Prop} (n0 : 0 ≤ n) (n1 : n < 100)
    (hk : ∀ H', Le H H' → K (vS (decT n.toNat)) H') : HT prg I.spec_l05Number [(.int .i64 (n))].toArray H K := by
  have lE := Le.refl H
  refine R.spec_l05Number ?_
  unfold F.spec_l05Number
  have d1 := decT_len (n / 10).toNat
  have d2 : (btT ([48 + (n % 10)])).length = 1 := rfl
  refine ob_i (vInt_lss _ _ _) ?_
  refine cnd_d (fun hg1 => ?_) (fun hg1 => ?_)
  · skip
    refine ob_i (vInt_add (by omega) (by omega)) ?_
    refine ob_i (vCI_u8 (by omega) (by omega)) ?_
    refine bS_i (enc := eU) (l := [48 + n]) (by omega) rfl (by kernel_rfl) (fun u2 H3 ou2 nn4 le6 => ?_)
    have nu2 : Nw H u2 := nn4.le lE
    replace lE := lE.trans le6
    refine ob_i (val_convT (by kernel_rfl) ou2.sl) ?_
    skip
    exact keq (K := K) (by rw [show (decT n.toNat) = (btT ([48 + n])) from by exact (num_one (by omega) (by omega)).symm]; try rfl) (hk   _    lE)
  · skip
    refine ⟨?_, ?_⟩
    · skip
      refine ob_i (vInt_quoN (by omega) (by omega) (by omega)) ?_
      refine ob_i (vInt_remN (by omega) (by omega)) ?_
      refine ob_i (vInt_add (by omega) (by omega)) ?_
      refine ob_i (vCI_u8 (by omega) (by omega)) ?_
      refine C.l05Number_d (by first | omega | assumption) (by first | omega | assumption) (fun   H7    le8 => ?_)
      replace lE := lE.trans le8
      refine ⟨le8, ?_⟩
      refine bS_i (enc := eU) (l := [48 + (n % 10)]) (by omega) rfl (by kernel_rfl) (fun u9 H10 ou9 nn11 le13 => ?_)
      have nu9 : Nw H u9 := nn11.le lE
      replace lE := lE.trans le13
      refine ob_i (val_convT (by kernel_rfl) ou9.sl) ?_
      refine ob_i (vStr_add (a := decT (n / 10).toNat) (b := btT ([48 + (n % 10)])) (by first | omega | (simp only [List.length_append, List.length_cons, List.length_nil, List.length_take, List.length_drop]; omega))) ?_
      skip
      exact keq (K := K) (by rw [show (decT n.toNat) = ((decT (n / 10).toNat) ++ (btT ([48 + (n % 10)]))) from by exact (num_two (by omega) (by omega)).symm]; try rfl) (hk   _    lE)
    · skip
      refine ob_i (vInt_quoN (by omega) (by omega) (by omega)) ?_
      refine ob_i (vInt_remN (by omega) (by omega)) ?_
      refine ob_i (vInt_add (by omega) (by omega)) ?_
      refine ob_i (vCI_u8 (by omega) (by omega)) ?_
      refine bS_i (enc := eU) (l := [48 + (n % 10)]) (by omega) rfl (by kernel_rfl) (fun u14 H15 ou14 nn16 le18 => ?_)
      have nu14 : Nw H u14 := nn16.le lE
      replace lE := lE.trans le18
      refine ob_i (val_convT (by kernel_rfl) ou14.sl) ?_
      refine C.l05Number_d (by first | omega | assumption) (by first | omega | assumption) (fun   H19    le20 => ?_)
      replace ou14 := ou14.le le20
      replace lE := lE.trans le20
      refine ⟨le20, ?_⟩
      refine ob_i (vStr_add (a := decT (n / 10).toNat) (b := btT ([48 + (n % 10)])) (by first | omega | (simp only [List.length_append, List.length_cons, List.length_nil, List.length_take, List.length_drop]; omega))) ?_
      skip
      exact keq (K := K) (by rw [show (decT n.toNat) = ((decT (n / 10).toNat) ++ (btT ([48 + (n % 10)]))) from by exact (num_two (by omega) (by omega)).symm]; try rfl) (hk   _    lE)
theorem C.impl_runsText {v : Value} {row : List Int}  {H : Hp} {K : Value → Hp → Prop} (hv0 : Sl eI H v row) (h1 : row.length ≤ 24) (hx : ∀ x ∈ row, 0 ≤ x ∧ x ≤ 1)
    (hk : ∀ H', Le H H' → K (vS (rtx row)) H') : HT prg I.impl_runsText [v].toArray H K := by
  have lE := Le.refl H
  have hv := hv0
  refine R.impl_runsText ?_
  unfold F.impl_runsText
  have rl := rtx_len row.length row (Nat.le_refl _)
  refine jn_i (fun σ' H' => σ' 3 = (vS (rtx row)) ∧ Le H H') (fun σ1 H1 hP => ?_) (fun J1 hJ1 => ?_)
  · skip
    obtain ⟨g3L1, lE⟩ := hP
    have hv := hv0.le lE
    try simp only [g3L1]
    skip
    exact hk   _    lE
  refine ⟨fun n' σ' H' => ∃ i : Nat, n' = row.length - i ∧ i ≤ row.length ∧ ∃ out : List UInt8, ∃ a : Nat, σ' 0 = v ∧ σ' 3 = (vS (out)) ∧ σ' 4 = (.int .i64 ((a : Int))) ∧ Le H H' ∧ i ≤ a ∧ a ≤ row.length ∧ out ++ rtx (row.drop a) = rtx row,
    ⟨_, 0, rfl, by omega, [], 0, rfl, rfl, (congrArg (Value.int .i64) (by first | omega | rfl | (simp; done))), lE, (by omega), (by omega), rfl⟩, ?_⟩
  rintro n2 σ2 H2 ⟨i, rfl, hiN, out, a, g0L2, g3L2, g4L2, lE, hm0, hm1, hm2⟩
  have hv := hv0.le lE
  try simp only [g0L2, g3L2, g4L2]
  have ol := congrArg List.length hm2
  rw [List.length_append] at ol
  refine ob_i (hv.len) ?_
  refine ob_i (vInt_lss _ _ _) ?_
  refine cnd_d (fun hg3 => ?_) (fun hg3 => ?_)
  · skip
    have ti := hg3
    refine jn_i (fun σ' H' => ∃ k : Nat, σ' 0 = v ∧ σ' 3 = (vS (out)) ∧ σ' 4 = (.int .i64 ((a : Int))) ∧ σ' 5 = (.int .i64 ((a : Int) + (k : Int))) ∧ Le H H' ∧ k = rN (at_ 0 row (a : Int)) (row.drop a) ∧ a + k ≤ row.length ∧ 1 ≤ k) (fun σ4 H4 hP => ?_) (fun J4 hJ4 => ?_)
    · skip
      obtain ⟨k, g0L4, g3L4, g4L4, g5L4, lE, hk, hk2, hk3⟩ := hP
      have hv := hv0.le lE
      try simp only [g0L4, g3L4, g4L4, g5L4]
      have dl := decT_len (((a : Int) + (k : Int)) - (a : Int)).toNat
      have xa := hx _ (at_mem 0 row (i := (a : Int)) (by omega) (by omega))
      refine ob_i (hv.ix (by omega) (by omega)) ?_
      refine ob_i (hv.ld 0 (by omega) (by omega)) ?_
      refine ob_i (vInt_eql _ _ _) ?_
      by_cases hc5 : (at_ 0 (row) ((a : Int))) = 0
      · skip
        refine gop_e (decide_eq_true hc5) ?_
        refine gop_rt ?_
        refine gop_e (decide_eq_true hc5) ?_
        refine gop_rt ?_
        refine gop_e (decide_eq_true hc5) ?_
        refine gop_rt ?_
        refine ob_i (hv.len) ?_
        refine gop_e (decide_eq_true hc5) ?_
        refine gop_rt ?_
        refine ob_i (vInt_eql _ _ _) ?_
        refine ob_i (vPick_et (decide_eq_true hc5) _ _) ?_
        refine cnd_d (fun hg6 => ?_) (fun hg6 => ?_)
        · skip
          have hfin : out = rtx row := by rw [← hm2, rtx_stop (a := a) (k := k) (by omega) hk ⟨hc5, by omega⟩, List.append_nil]
          exact hJ1 _ _ ⟨(g3L4.trans (congrArg vS hfin)), lE⟩
        · skip
          refine ob_i (vInt_sub (by omega) (by omega)) ?_
          refine ob_i (vInt_gtr _ _ _) ?_
          refine cnd_d (fun hg7 => ?_) (fun hg7 => ?_)
          · skip
            refine ob_i (vInt_sub (by omega) (by omega)) ?_
            refine C.impl_Decimal (by first | omega | assumption) (by first | omega | assumption) ?_
            refine ob_i (vStr_add (a := out) (b := decT (((a : Int) + (k : Int)) - (a : Int)).toNat) (by first | omega | (simp only [List.length_append, List.length_cons, List.length_nil, List.length_take, List.length_drop]; omega))) ?_
            refine ob_i (hv.ix (by omega) (by omega)) ?_
            refine ob_i (hv.ld 0 (by omega) (by omega)) ?_
            refine ob_i (hv.ix (by omega) (by omega)) ?_
            refine ob_i (hv.ld 0 (by omega) (by omega)) ?_
            refine ob_i (vInt_add (by omega) (by omega)) ?_
            refine ob_i (vSlS_t (a := ([98, 111] : List UInt8)) (by omega) (by omega) (by first | omega | (simp only [List.length_append, List.length_cons, List.length_nil, List.length_take, List.length_drop]; omega))) ?_
            refine ob_i (vStr_add (a := out ++ (decT (((a : Int) + (k : Int)) - (a : Int)).toNat)) (b := ((([98, 111] : List UInt8)).drop (at_ 0 (row) ((a : Int)) : Int).toNat).take (((at_ 0 (row) ((a : Int))) + 1 : Int).toNat - (at_ 0 (row) ((a : Int)) : Int).toNat)) (by first | omega | (simp only [List.length_append, List.length_cons, List.length_nil, List.length_take, List.length_drop]; omega))) ?_
            exact nxt (row.length - (i + 1)) (by omega) ⟨i + 1, rfl, by omega, ((out ++ (decT (((a : Int) + (k : Int)) - (a : Int)).toNat)) ++ (((([98, 111] : List UInt8)).drop (at_ 0 (row) ((a : Int)) : Int).toNat).take (((at_ 0 (row) ((a : Int))) + 1 : Int).toNat - (at_ 0 (row) ((a : Int)) : Int).toNat))), (a + k), g0L4, rfl, (congrArg (Value.int .i64) (by omega)), lE, (by omega), (by omega), (by have hr := rtx_run (a := a) (k := k) (by omega) hk (fun h => by exact hg6 (by omega)); rw [← hm2, hr, if_neg (show ¬ k = 1 by omega)]; rw [bo_T (hx _ (at_mem 0 row (by omega) (by omega))).1 (hx _ (at_mem 0 row (by omega) (by omega))).2]; rw [show ((a : Int) + (k : Int) - (a : Int)).toNat = k by omega]; simp only [List.append_assoc, List.nil_append])⟩
          · skip
            refine ob_i (hv.ix (by omega) (by omega)) ?_
            refine ob_i (hv.ld 0 (by omega) (by omega)) ?_
            refine ob_i (hv.ix (by omega) (by omega)) ?_
            refine ob_i (hv.ld 0 (by omega) (by omega)) ?_
            refine ob_i (vInt_add (by omega) (by omega)) ?_
            refine ob_i (vSlS_t (a := ([98, 111] : List UInt8)) (by omega) (by omega) (by first | omega | (simp only [List.length_append, List.length_cons, List.length_nil, List.length_take, List.length_drop]; omega))) ?_
            refine ob_i (vStr_add (a := out) (b := ((([98, 111] : List UInt8)).drop (at_ 0 (row) ((a : Int)) : Int).toNat).take (((at_ 0 (row) ((a : Int))) + 1 : Int).toNat - (at_ 0 (row) ((a : Int)) : Int).toNat)) (by first | omega | (simp only [List.length_append, List.length_cons, List.length_nil, List.length_take, List.length_drop]; omega))) ?_
            exact nxt (row.length - (i + 1)) (by omega) ⟨i + 1, rfl, by omega, (out ++ (((([98, 111] : List UInt8)).drop (at_ 0 (row) ((a : Int)) : Int).toNat).take (((at_ 0 (row) ((a : Int))) + 1 : Int).toNat - (at_ 0 (row) ((a : Int)) : Int).toNat))), (a + k), g0L4, rfl, (congrArg (Value.int .i64) (by omega)), lE, (by omega), (by omega), (by have hr := rtx_run (a := a) (k := k) (by omega) hk (fun h => by exact hg6 (by omega)); rw [← hm2, hr, if_pos (show k = 1 by omega)]; rw [bo_T (hx _ (at_mem 0 row (by omega) (by omega))).1 (hx _ (at_mem 0 row (by omega) (by omega))).2]; simp only [List.append_assoc, List.nil_append])⟩
      · skip
        refine gop_e (decide_eq_false hc5) ?_
        refine gop_sf ?_
        refine gop_e (decide_eq_false hc5) ?_
        refine gop_sf ?_
        refine gop_e (decide_eq_false hc5) ?_
        refine gop_sf ?_
        refine gop_e (decide_eq_false hc5) ?_
        refine gop_sf ?_
        refine ob_i (vPick_ef (decide_eq_false hc5) _ _) ?_
        refine cnd_f1 ?_
        refine ob_i (vInt_sub (by omega) (by omega)) ?_
        refine ob_i (vInt_gtr _ _ _) ?_
        refine cnd_d (fun hg8 => ?_) (fun hg8 => ?_)
        · skip
          refine ob_i (vInt_sub (by omega) (by omega)) ?_
          refine C.impl_Decimal (by first | omega | assumption) (by first | omega | assumption) ?_
          refine ob_i (vStr_add (a := out) (b := decT (((a : Int) + (k : Int)) - (a : Int)).toNat) (by first | omega | (simp only [List.length_append, List.length_cons, List.length_nil, List.length_take, List.length_drop]; omega))) ?_
          refine ob_i (hv.ix (by omega) (by omega)) ?_
          refine ob_i (hv.ld 0 (by omega) (by omega)) ?_
          refine ob_i (hv.ix (by omega) (by omega)) ?_
          refine ob_i (hv.ld 0 (by omega) (by omega)) ?_
          refine ob_i (vInt_add (by omega) (by omega)) ?_
          refine ob_i (vSlS_t (a := ([98, 111] : List UInt8)) (by omega) (by omega) (by first | omega | (simp only [List.length_append, List.length_cons, List.length_nil, List.length_take, List.length_drop]; omega))) ?_
          refine ob_i (vStr_add (a := out ++ (decT (((a : Int) + (k : Int)) - (a : Int)).toNat)) (b := ((([98, 111] : List UInt8)).drop (at_ 0 (row) ((a : Int)) : Int).toNat).take (((at_ 0 (row) ((a : Int))) + 1 : Int).toNat - (at_ 0 (row) ((a : Int)) : Int).toNat)) (by first | omega | (simp only [List.length_append, List.length_cons, List.length_nil, List.length_take, List.length_drop]; omega))) ?_
          exact nxt (row.length - (i + 1)) (by omega) ⟨i + 1, rfl, by omega, ((out ++ (decT (((a : Int) + (k : Int)) - (a : Int)).toNat)) ++ (((([98, 111] : List UInt8)).drop (at_ 0 (row) ((a : Int)) : Int).toNat).take (((at_ 0 (row) ((a : Int))) + 1 : Int).toNat - (at_ 0 (row) ((a : Int)) : Int).toNat))), (a + k), g0L4, rfl, (congrArg (Value.int .i64) (by omega)), lE, (by omega), (by omega), (by have hr := rtx_run (a := a) (k := k) (by omega) hk (fun h => by exact hc5 h.1); rw [← hm2, hr, if_neg (show ¬ k = 1 by omega)]; rw [bo_T (hx _ (at_mem 0 row (by omega) (by omega))).1 (hx _ (at_mem 0 row (by omega) (by omega))).2]; rw [show ((a : Int) + (k : Int) - (a : Int)).toNat = k by omega]; simp only [List.append_assoc, List.nil_append])⟩
        · skip
          refine ob_i (hv.ix (by omega) (by omega)) ?_
          refine ob_i (hv.ld 0 (by omega) (by omega)) ?_
          refine ob_i (hv.ix (by omega) (by omega)) ?_
          refine ob_i (hv.ld 0 (by omega) (by omega)) ?_
          refine ob_i (vInt_add (by omega) (by omega)) ?_
          refine ob_i (vSlS_t (a := ([98, 111] : List UInt8)) (by omega) (by omega) (by first | omega | (simp only [List.length_append, List.length_cons, List.length_nil, List.length_take, List.length_drop]; omega))) ?_
          refine ob_i (vStr_add (a := out) (b := ((([98, 111] : List UInt8)).drop (at_ 0 (row) ((a : Int)) : Int).toNat).take (((at_ 0 (row) ((a : Int))) + 1 : Int).toNat - (at_ 0 (row) ((a : Int)) : Int).toNat)) (by first | omega | (simp only [List.length_append, List.length_cons, List.length_nil, List.length_take, List.length_drop]; omega))) ?_
          exact nxt (row.length - (i + 1)) (by omega) ⟨i + 1, rfl, by omega, (out ++ (((([98, 111] : List UInt8)).drop (at_ 0 (row) ((a : Int)) : Int).toNat).take (((at_ 0 (row) ((a : Int))) + 1 : Int).toNat - (at_ 0 (row) ((a : Int)) : Int).toNat))), (a + k), g0L4, rfl, (congrArg (Value.int .i64) (by omega)), lE, (by omega), (by omega), (by have hr := rtx_run (a := a) (k := k) (by omega) hk (fun h => by exact hc5 h.1); rw [← hm2, hr, if_pos (show k = 1 by omega)]; rw [bo_T (hx _ (at_mem 0 row (by omega) (by omega))).1 (hx _ (at_mem 0 row (by omega) (by omega))).2]; simp only [List.append_assoc, List.nil_append])⟩
    refine ⟨fun n' σ' H' => ∃ j : Nat, n' = row.length - j ∧ j ≤ row.length ∧ σ' 0 = v ∧ σ' 3 = (vS (out)) ∧ σ' 4 = (.int .i64 ((a : Int))) ∧ σ' 5 = (.int .i64 ((a : Int) + (j : Int))) ∧ Le H H' ∧ j ≤ rN (at_ 0 row (a : Int)) (row.drop a) ∧ a + j ≤ row.length,
      ⟨_, 0, rfl, by omega, g0L2, g3L2, g4L2, (congrArg (Value.int .i64) (by first | omega | rfl | (simp; done))), lE, (by omega), (by omega)⟩, ?_⟩
    rintro n9 σ9 H9 ⟨j, rfl, hjN, g0L9, g3L9, g4L9, g5L9, lE, hm0', hm1'⟩
    have hv := hv0.le lE
    try simp only [g0L9, g4L9, g5L9]
    refine ob_i (hv.len) ?_
    refine ob_i (vInt_lss _ _ _) ?_
    by_cases hc10 : ((a : Int) + (j : Int)) < (((row).length : Int))
    · skip
      refine gop_e (decide_eq_true hc10) ?_
      refine gop_rt ?_
      refine gop_e (decide_eq_true hc10) ?_
      refine gop_rt ?_
      refine gop_e (decide_eq_true hc10) ?_
      refine gop_rt ?_
      refine ob_i (hv.ix (by omega) (by omega)) ?_
      refine gop_e (decide_eq_true hc10) ?_
      refine gop_rt ?_
      refine ob_i (hv.ld 0 (by omega) (by omega)) ?_
      refine gop_e (decide_eq_true hc10) ?_
      refine gop_rt ?_
      refine gop_e (decide_eq_true hc10) ?_
      refine gop_rt ?_
      refine gop_e (decide_eq_true hc10) ?_
      refine gop_rt ?_
      refine ob_i (hv.ix (by omega) (by omega)) ?_
      refine gop_e (decide_eq_true hc10) ?_
      refine gop_rt ?_
      refine ob_i (hv.ld 0 (by omega) (by omega)) ?_
      refine gop_e (decide_eq_true hc10) ?_
      refine gop_rt ?_
      refine ob_i (vInt_eql _ _ _) ?_
      refine ob_i (vPick_et (decide_eq_true hc10) _ _) ?_
      refine cnd_d (fun hg11 => ?_) (fun hg11 => ?_)
      · skip
        refine ob_i (vInt_add (by omega) (by omega)) ?_
        exact nxt (row.length - (j + 1)) (by omega) ⟨j + 1, rfl, by omega, g0L9, g3L9, g4L9, (congrArg (Value.int .i64) (by first | omega | rfl | (simp; done))), lE, (by have := run_next (a := a) (e := a + j) (by omega) (by rw [show a + j - a = j by omega]; exact hm0') (by omega) (by rw [show ((a + j : Nat) : Int) = (a : Int) + (j : Int) by omega]; exact hg11); omega), (by omega)⟩
      · skip
        exact hJ4 _ _ ⟨j, g0L9, g3L9, g4L9, (g5L9.trans (congrArg (Value.int .i64) (by first | omega | rfl | (simp; done)))), lE, (by have := run_end (a := a) (e := a + j) (by omega) (by rw [show a + j - a = j by omega]; exact hm0') (by omega) (Or.inr (by rw [show ((a + j : Nat) : Int) = (a : Int) + (j : Int) by omega]; exact hg11)); omega), (by omega), (by have h9 := run_end (a := a) (e := a + j) (by omega) (by rw [show a + j - a = j by omega]; exact hm0') (by omega) (Or.inr (by rw [show ((a + j : Nat) : Int) = (a : Int) + (j : Int) by omega]; exact hg11)); have := (run_pos (row := row) (a := a) (by omega)).1; omega)⟩
    · skip
      refine gop_e (decide_eq_false hc10) ?_
      refine gop_sf ?_
      refine gop_e (decide_eq_false hc10) ?_
      refine gop_sf ?_
      refine gop_e (decide_eq_false hc10) ?_
      refine gop_sf ?_
      refine gop_e (decide_eq_false hc10) ?_
      refine gop_sf ?_
      refine gop_e (decide_eq_false hc10) ?_
      refine gop_sf ?_
      refine gop_e (decide_eq_false hc10) ?_
      refine gop_sf ?_
      refine gop_e (decide_eq_false hc10) ?_
      refine gop_sf ?_
      refine gop_e (decide_eq_false hc10) ?_
      refine gop_sf ?_
      refine gop_e (decide_eq_false hc10) ?_
      refine gop_sf ?_
      refine ob_i (vPick_ef (decide_eq_false hc10) _ _) ?_
      refine cnd_f1 ?_
      exact hJ4 _ _ ⟨j, g0L9, g3L9, g4L9, (g5L9.trans (congrArg (Value.int .i64) (by first | omega | rfl | (simp; done)))), lE, (by have := run_end (a := a) (e := a + j) (by omega) (by rw [show a + j - a = j by omega]; exact hm0') (by omega) (Or.inl (by omega)); omega), (by omega), (by have h9 := run_end (a := a) (e := a + j) (by omega) (by rw [show a + j - a = j by omega]; exact hm0') (by omega) (Or.inl (by omega)); have := (run_pos (row := row) (a := a) (by omega)).1; omega)⟩
  · skip
    have ti := hg3
    have hfin : out = rtx row := by rw [← hm2, show row.drop a = [] from List.drop_eq_nil_of_le (by omega), rtx_nil, List.append_nil]
    exact hJ1 _ _ ⟨(g3L2.trans (congrArg vS hfin)), lE⟩
theorem C.spec_l05Write {p vc : Value} {r c : Int} {l : List Int}  {H : Hp} {K : Value → Hp → Prop} (hp0 : Cel H p [(.int .i64 (r)), (.int .i64 (c)), vc]) (hvc0 : Sl eI H vc l) (hf : fieldN 1 r c l)
    (hk : ∀ H', Le H H' → K (vS (fieldT r c l)) H') : HT prg I.spec_l05Write [p].toArray H K := by
  have lE := Le.refl H
  have hp := hp0
  have hvc := hvc0
  refine R.spec_l05Write ?_
  unfold F.spec_l05Write
  have hs := hf.1
  have hl := hf.2.1
  have q1 := hs.1
  have q2 := hs.2
  have qm := sidesF_mul hs
  have l1 := fieldN_len hf
  have dc := decT_len c.toNat
  have dr := decT_len r.toNat
  refine ob_i (hp.nilC) ?_
  refine ob_i (hp.fa 1) ?_
  refine ob_i (hp.ld 1 rfl) ?_
  refine ob_i (hp.nilC) ?_
  refine ob_i (hp.fa 0) ?_
  refine ob_i (hp.ld 0 rfl) ?_
  refine C.spec_l05Number (by first | omega | assumption) (by first | omega | assumption) (fun   H1    le2 => ?_)
  replace hp := hp.le le2
  replace hvc := hvc.le le2
  replace lE := lE.trans le2
  refine ⟨le2, ?_⟩
  refine ob_i (vStr_add (a := decT c.toNat) (b := ([44] : List UInt8)) (by first | omega | (simp only [List.length_append, List.length_cons, List.length_nil, List.length_take, List.length_drop]; omega))) ?_
  refine C.spec_l05Number (by first | omega | assumption) (by first | omega | assumption) (fun   H3    le4 => ?_)
  replace hp := hp.le le4
  replace hvc := hvc.le le4
  replace lE := lE.trans le4
  refine ⟨le4, ?_⟩
  refine ob_i (vStr_add (a := (decT c.toNat) ++ ([44] : List UInt8)) (b := decT r.toNat) (by first | omega | (simp only [List.length_append, List.length_cons, List.length_nil, List.length_take, List.length_drop]; omega))) ?_
  refine ob_i (vStr_add (a := ((decT c.toNat) ++ ([44] : List UInt8)) ++ (decT r.toNat)) (b := ([58] : List UInt8)) (by first | omega | (simp only [List.length_append, List.length_cons, List.length_nil, List.length_take, List.length_drop]; omega))) ?_
  refine jn_i (fun σ' H' => σ' 3 = (vS (headT r c ++ joinR c.toNat l r.toNat)) ∧ Le H H') (fun σ5 H5 hP => ?_) (fun J5 hJ5 => ?_)
  · skip
    obtain ⟨g3L5, lE⟩ := hP
    have hp := hp0.le lE
    have hvc := hvc0.le lE
    try simp only [g3L5]
    have jl0 := joinR_len (c := c.toNat) (l := l) r.toNat
    have jm0 : r.toNat * (3 * c.toNat + 1) ≤ 24 * 73 := Nat.mul_le_mul (by omega) (by omega)
    have hl0 := headT_len r c
    refine ob_i (vStr_add (a := headT r c ++ joinR c.toNat l r.toNat) (b := ([33] : List UInt8)) (by first | omega | (simp only [List.length_append, List.length_cons, List.length_nil, List.length_take, List.length_drop]; omega))) ?_
    skip
    exact keq (K := K) (by rw [show (fieldT r c l) = ((headT r c ++ joinR c.toNat l r.toNat) ++ ([33] : List UInt8)) from by rfl]; try rfl) (hk   _    lE)
  refine ⟨fun n' σ' H' => ∃ i : Nat, n' = r.toNat - i ∧ i ≤ r.toNat ∧ σ' 0 = p ∧ σ' 3 = (vS (headT r c ++ joinR c.toNat l i)) ∧ σ' 4 = (.int .i64 ((i : Int))) ∧ Le H H',
    ⟨_, 0, rfl, by omega, rfl, (congrArg vS (by rw [joinR_zero, List.append_nil]; rfl)), (congrArg (Value.int .i64) (by first | omega | rfl | (simp; done))), lE⟩, ?_⟩
  rintro n6 σ6 H6 ⟨i, rfl, hiN, g0L6, g3L6, g4L6, lE⟩
  have hp := hp0.le lE
  have hvc := hvc0.le lE
  try simp only [g0L6, g3L6, g4L6]
  have jl0 := joinR_len (c := c.toNat) (l := l) i
  have jm0 : i * (3 * c.toNat + 1) ≤ 24 * 73 := Nat.mul_le_mul (by omega) (by omega)
  have hl0 := headT_len r c
  refine ob_i (hp.nilC) ?_
  refine ob_i (hp.fa 0) ?_
  refine ob_i (hp.ld 0 rfl) ?_
  refine ob_i (vInt_lss _ _ _) ?_
  refine cnd_d (fun hg7 => ?_) (fun hg7 => ?_)
  · skip
    have ti := hg7
    have rm := row_mul (i := i) hs (by omega)
    refine jn_i (fun σ' H' => σ' 0 = p ∧ σ' 3 = (vS (headT r c ++ joinR c.toNat l (i + 1))) ∧ σ' 4 = (.int .i64 ((i : Int))) ∧ Le H H') (fun σ8 H8 hP => ?_) (fun J8 hJ8 => ?_)
    · skip
      obtain ⟨g0L8, g3L8, g4L8, lE⟩ := hP
      have hp := hp0.le lE
      have hvc := hvc0.le lE
      try simp only [g4L8]
      refine ob_i (vInt_add (by omega) (by omega)) ?_
      exact nxt (r.toNat - (i + 1)) (by omega) ⟨i + 1, rfl, by omega, g0L8, g3L8, (congrArg (Value.int .i64) (by first | omega | rfl | (simp; done))), lE⟩
    refine jn_i (fun σ' H' => ∃ B : List UInt8, σ' 0 = p ∧ σ' 3 = (vS (B)) ∧ σ' 4 = (.int .i64 ((i : Int))) ∧ Le H H' ∧ B ++ rtx (rowL c.toNat l i) = headT r c ++ joinR c.toNat l (i + 1)) (fun σ9 H9 hP => ?_) (fun J9 hJ9 => ?_)
    · skip
      obtain ⟨B, g0L9, g3L9, g4L9, lE, hB⟩ := hP
      have hp := hp0.le lE
      have hvc := hvc0.le lE
      try simp only [g0L9, g3L9, g4L9]
      refine ob_i (hp.nilC) ?_
      refine ob_i (hp.fa 2) ?_
      refine ob_i (hp.ld 2 rfl) ?_
      refine ob_i (hp.nilC) ?_
      refine ob_i (hp.fa 1) ?_
      refine ob_i (hp.ld 1 rfl) ?_
      refine ob_i (vInt_mul (by omega) (by omega)) ?_
      refine ob_i (vInt_add (by omega) (by omega)) ?_
      refine ob_i (hp.nilC) ?_
      refine ob_i (hp.fa 1) ?_
      refine ob_i (hp.ld 1 rfl) ?_
      refine ob_i (vInt_mul (by omega) (by omega)) ?_
      obtain ⟨x10, eq11a, eq11b, eq11c, eq11d, hx100, hb12⟩ := hvc0.cut (lo := (i : Int) * c) (hi := ((i : Int) + 1) * c) (by omega) (by omega) (by omega)
      refine ob_i (eq11a) ?_
      rw [row_eq (l := l) (i := i) hs (by omega)] at hx100
      obtain ⟨row, hr0⟩ : ∃ row, row = rowL c.toNat l i := ⟨_, rfl⟩
      rw [← hr0] at hx100 hB
      have hrl : row.length = c.toNat := by rw [hr0]; exact rowL_len (r := r.toNat) (by rw [← Int.natCast_inj]; rw [Int.natCast_mul, Int.toNat_of_nonneg (by omega), Int.toNat_of_nonneg (by omega)]; exact hl) (by omega)
      have rtl := rtx_len row.length row (Nat.le_refl _)
      have bl := congrArg List.length hB
      simp only [List.length_append] at bl
      have jl := joinR_len (c := c.toNat) (l := l) (i + 1)
      have jm : (i + 1) * (3 * c.toNat + 1) ≤ 24 * 73 := Nat.mul_le_mul (by omega) (by omega)
      have hl6 := headT_len r c
      have hx10 := hx100.le lE
      refine ob_i (hx10.len) ?_
      refine jn_i (fun σ' H' => ∃ e : Nat, σ' 0 = p ∧ σ' 3 = (vS (B)) ∧ σ' 4 = (.int .i64 ((i : Int))) ∧ σ' 5 = x10 ∧ σ' 6 = (.int .i64 ((e : Int))) ∧ Le H H' ∧ endP row e ∧ (0 < e → at_ 0 row ((e - 1 : Nat) : Int) ≠ 0) ∧ e ≤ c.toNat) (fun σ13 H13 hP => ?_) (fun J13 hJ13 => ?_)
      · skip
        obtain ⟨e, g0L13, g3L13, g4L13, g5L13, g6L13, lE, hend, hlast, hec⟩ := hP
        have hp := hp0.le lE
        have hvc := hvc0.le lE
        have hx10 := hx100.le lE
        try simp only [g3L13, g5L13, g6L13]
        refine ⟨fun n' σ' H' => ∃ t : Nat, n' = c.toNat - t ∧ t ≤ c.toNat ∧ ∃ out : List UInt8, ∃ a : Nat, σ' 0 = p ∧ σ' 3 = (vS (out)) ∧ σ' 4 = (.int .i64 ((i : Int))) ∧ σ' 5 = x10 ∧ σ' 6 = (.int .i64 ((e : Int))) ∧ σ' 7 = (.int .i64 ((a : Int))) ∧ Le H H' ∧ t ≤ a ∧ a ≤ e ∧ out ++ rtx (row.drop a) = B ++ rtx row,
          ⟨_, 0, rfl, by omega, B, 0, g0L13, g3L13, g4L13, g5L13, g6L13, (congrArg (Value.int .i64) (by first | omega | rfl | (simp; done))), lE, (by omega), (by omega), rfl⟩, ?_⟩
        rintro n14 σ14 H14 ⟨t, rfl, htN, out, a, g0L14, g3L14, g4L14, g5L14, g6L14, g7L14, lE, hq0, hq1, hq2⟩
        have hp := hp0.le lE
        have hvc := hvc0.le lE
        have hx10 := hx100.le lE
        try simp only [g3L14, g5L14, g6L14, g7L14]
        have ol := congrArg List.length hq2
        simp only [List.length_append] at ol
        refine ob_i (vInt_lss _ _ _) ?_
        refine cnd_d (fun hg15 => ?_) (fun hg15 => ?_)
        · skip
          have tt := hg15
          refine jn_i (fun σ' H' => ∃ k : Nat, σ' 0 = p ∧ σ' 3 = (vS (out)) ∧ σ' 4 = (.int .i64 ((i : Int))) ∧ σ' 5 = x10 ∧ σ' 6 = (.int .i64 ((e : Int))) ∧ σ' 7 = (.int .i64 ((a : Int))) ∧ σ' 8 = (.int .i64 ((k : Int))) ∧ Le H H' ∧ k = rN (at_ 0 row (a : Int)) (row.drop a) ∧ ¬ (at_ 0 row (a : Int) = 0 ∧ a + k = row.length) ∧ 1 ≤ k ∧ a + k ≤ e) (fun σ16 H16 hP => ?_) (fun J16 hJ16 => ?_)
          · skip
            obtain ⟨k, g0L16, g3L16, g4L16, g5L16, g6L16, g7L16, g8L16, lE, hk, hne, hk1, hk2⟩ := hP
            have hp := hp0.le lE
            have hvc := hvc0.le lE
            have hx10 := hx100.le lE
            try simp only [g3L16, g5L16, g7L16, g8L16]
            have dl := decT_len (k : Int).toNat
            refine ob_i (vInt_gtr _ _ _) ?_
            refine cnd_d (fun hg17 => ?_) (fun hg17 => ?_)
            · skip
              refine C.spec_l05Number (by first | omega | assumption) (by first | omega | assumption) (fun   H18    le19 => ?_)
              replace hp := hp.le le19
              replace hvc := hvc.le le19
              replace hx10 := hx10.le le19
              replace lE := lE.trans le19
              refine ob_i (vStr_add (a := out) (b := decT (k : Int).toNat) (by first | omega | (simp only [List.length_append, List.length_cons, List.length_nil, List.length_take, List.length_drop]; omega))) ?_
              refine ob_i (hx10.ix (by omega) (by omega)) ?_
              refine ob_i (hx10.ld 0 (by omega) (by omega)) ?_
              refine ob_i (vInt_eql _ _ _) ?_
              refine cnd_d (fun hg20 => ?_) (fun hg20 => ?_)
              · skip
                refine ob_i (vStr_add (a := out ++ (decT (k : Int).toNat)) (b := ([111] : List UInt8)) (by first | omega | (simp only [List.length_append, List.length_cons, List.length_nil, List.length_take, List.length_drop]; omega))) ?_
                refine ob_i (vInt_add (by omega) (by omega)) ?_
                exact nxt (c.toNat - (t + 1)) (by omega) ⟨t + 1, rfl, by omega, ((out ++ (decT (k : Int).toNat)) ++ ([111] : List UInt8)), (a + k), g0L16, rfl, g4L16, g5L16, g6L16, (congrArg (Value.int .i64) (by omega)), lE, (by omega), (by omega), (by rw [← hq2, rtx_run (a := a) (k := k) (by omega) hk hne, if_neg (show ¬ k = 1 by omega), chT_1 hg20]; simp only [List.append_assoc, List.nil_append, Int.toNat_natCast])⟩
              · skip
                refine ob_i (vStr_add (a := out ++ (decT (k : Int).toNat)) (b := ([98] : List UInt8)) (by first | omega | (simp only [List.length_append, List.length_cons, List.length_nil, List.length_take, List.length_drop]; omega))) ?_
                refine ob_i (vInt_add (by omega) (by omega)) ?_
                exact nxt (c.toNat - (t + 1)) (by omega) ⟨t + 1, rfl, by omega, ((out ++ (decT (k : Int).toNat)) ++ ([98] : List UInt8)), (a + k), g0L16, rfl, g4L16, g5L16, g6L16, (congrArg (Value.int .i64) (by omega)), lE, (by omega), (by omega), (by rw [← hq2, rtx_run (a := a) (k := k) (by omega) hk hne, if_neg (show ¬ k = 1 by omega), chT_0 hg20]; simp only [List.append_assoc, List.nil_append, Int.toNat_natCast])⟩
            · skip
              refine ob_i (hx10.ix (by omega) (by omega)) ?_
              refine ob_i (hx10.ld 0 (by omega) (by omega)) ?_
              refine ob_i (vInt_eql _ _ _) ?_
              refine cnd_d (fun hg21 => ?_) (fun hg21 => ?_)
              · skip
                refine ob_i (vStr_add (a := out) (b := ([111] : List UInt8)) (by first | omega | (simp only [List.length_append, List.length_cons, List.length_nil, List.length_take, List.length_drop]; omega))) ?_
                refine ob_i (vInt_add (by omega) (by omega)) ?_
                exact nxt (c.toNat - (t + 1)) (by omega) ⟨t + 1, rfl, by omega, (out ++ ([111] : List UInt8)), (a + k), g0L16, rfl, g4L16, g5L16, g6L16, (congrArg (Value.int .i64) (by omega)), lE, (by omega), (by omega), (by rw [← hq2, rtx_run (a := a) (k := k) (by omega) hk hne, if_pos (show k = 1 by omega), chT_1 hg21]; simp only [List.append_assoc, List.nil_append, Int.toNat_natCast])⟩
              · skip
                refine ob_i (vStr_add (a := out) (b := ([98] : List UInt8)) (by first | omega | (simp only [List.length_append, List.length_cons, List.length_nil, List.length_take, List.length_drop]; omega))) ?_
                refine ob_i (vInt_add (by omega) (by omega)) ?_
                exact nxt (c.toNat - (t + 1)) (by omega) ⟨t + 1, rfl, by omega, (out ++ ([98] : List UInt8)), (a + k), g0L16, rfl, g4L16, g5L16, g6L16, (congrArg (Value.int .i64) (by omega)), lE, (by omega), (by omega), (by rw [← hq2, rtx_run (a := a) (k := k) (by omega) hk hne, if_pos (show k = 1 by omega), chT_0 hg21]; simp only [List.append_assoc, List.nil_append, Int.toNat_natCast])⟩
          refine ⟨fun n' σ' H' => ∃ j : Nat, n' = c.toNat - j ∧ j ≤ c.toNat ∧ σ' 0 = p ∧ σ' 3 = (vS (out)) ∧ σ' 4 = (.int .i64 ((i : Int))) ∧ σ' 5 = x10 ∧ σ' 6 = (.int .i64 ((e : Int))) ∧ σ' 7 = (.int .i64 ((a : Int))) ∧ σ' 8 = (.int .i64 ((1 : Int) + (j : Int))) ∧ Le H H' ∧ 1 + j ≤ rN (at_ 0 row (a : Int)) (row.drop a) ∧ a + (1 + j) ≤ e,
            ⟨_, 0, rfl, by omega, g0L14, g3L14, g4L14, g5L14, g6L14, g7L14, (congrArg (Value.int .i64) (by first | omega | rfl | (simp; done))), lE, (by have := run_zero (row := row) (a := a) (by omega); omega), (by omega)⟩, ?_⟩
          rintro n22 σ22 H22 ⟨j, rfl, hjN, g0L22, g3L22, g4L22, g5L22, g6L22, g7L22, g8L22, lE, hj0, hj1⟩
          have hp := hp0.le lE
          have hvc := hvc0.le lE
          have hx10 := hx100.le lE
          try simp only [g5L22, g6L22, g7L22, g8L22]
          refine ob_i (vInt_add (by omega) (by omega)) ?_
          refine ob_i (vInt_lss _ _ _) ?_
          by_cases hc23 : ((a : Int) + ((1 : Int) + (j : Int))) < (e : Int)
          · skip
            refine gop_e (decide_eq_true hc23) ?_
            refine gop_rt ?_
            refine gop_e (decide_eq_true hc23) ?_
            refine gop_rt ?_
            refine gop_e (decide_eq_true hc23) ?_
            refine gop_rt ?_
            refine gop_e (decide_eq_true hc23) ?_
            refine gop_rt ?_
            refine ob_i (vInt_add (by omega) (by omega)) ?_
            refine gop_e (decide_eq_true hc23) ?_
            refine gop_rt ?_
            refine ob_i (hx10.ix (by omega) (by omega)) ?_
            refine gop_e (decide_eq_true hc23) ?_
            refine gop_rt ?_
            refine ob_i (hx10.ld 0 (by omega) (by omega)) ?_
            refine gop_e (decide_eq_true hc23) ?_
            refine gop_rt ?_
            refine gop_e (decide_eq_true hc23) ?_
            refine gop_rt ?_
            refine gop_e (decide_eq_true hc23) ?_
            refine gop_rt ?_
            refine ob_i (hx10.ix (by omega) (by omega)) ?_
            refine gop_e (decide_eq_true hc23) ?_
            refine gop_rt ?_
            refine ob_i (hx10.ld 0 (by omega) (by omega)) ?_
            refine gop_e (decide_eq_true hc23) ?_
            refine gop_rt ?_
            refine ob_i (vInt_eql _ _ _) ?_
            refine ob_i (vPick_et (decide_eq_true hc23) _ _) ?_
            refine cnd_d (fun hg24 => ?_) (fun hg24 => ?_)
            · skip
              refine ob_i (vInt_add (by omega) (by omega)) ?_
              exact nxt (c.toNat - (j + 1)) (by omega) ⟨j + 1, rfl, by omega, g0L22, g3L22, g4L22, g5L22, g6L22, g7L22, (congrArg (Value.int .i64) (by first | omega | rfl | (simp; done))), lE, (by have := run_next (a := a) (e := a + (1 + j)) (by omega) (by rw [show a + (1 + j) - a = 1 + j by omega]; exact hj0) (by omega) (by rw [show ((a + (1 + j) : Nat) : Int) = (a : Int) + ((1 : Int) + (j : Int)) by omega]; exact hg24); omega), (by omega)⟩
            · skip
              have hcut := run_cut (k := 1 + j) hend hlast (a := a) (by omega) (by omega) hj0 (by omega) (.inr (by rw [show ((a + (1 + j) : Nat) : Int) = (a : Int) + ((1 : Int) + (j : Int)) by omega]; exact hg24))
              exact hJ16 _ _ ⟨(1 + j), g0L22, g3L22, g4L22, g5L22, g6L22, g7L22, (g8L22.trans (congrArg (Value.int .i64) (by first | omega | rfl | (simp; done)))), lE, hcut.1, hcut.2, (by omega), (by omega)⟩
          · skip
            refine gop_e (decide_eq_false hc23) ?_
            refine gop_sf ?_
            refine gop_e (decide_eq_false hc23) ?_
            refine gop_sf ?_
            refine gop_e (decide_eq_false hc23) ?_
            refine gop_sf ?_
            refine gop_e (decide_eq_false hc23) ?_
            refine gop_sf ?_
            refine gop_e (decide_eq_false hc23) ?_
            refine gop_sf ?_
            refine gop_e (decide_eq_false hc23) ?_
            refine gop_sf ?_
            refine gop_e (decide_eq_false hc23) ?_
            refine gop_sf ?_
            refine gop_e (decide_eq_false hc23) ?_
            refine gop_sf ?_
            refine gop_e (decide_eq_false hc23) ?_
            refine gop_sf ?_
            refine gop_e (decide_eq_false hc23) ?_
            refine gop_sf ?_
            refine gop_e (decide_eq_false hc23) ?_
            refine gop_sf ?_
            refine ob_i (vPick_ef (decide_eq_false hc23) _ _) ?_
            refine cnd_f1 ?_
            have hcut := run_cut (k := 1 + j) hend hlast (a := a) (by omega) (by omega) hj0 (by omega) (.inl (by omega))
            exact hJ16 _ _ ⟨(1 + j), g0L22, g3L22, g4L22, g5L22, g6L22, g7L22, (g8L22.trans (congrArg (Value.int .i64) (by first | omega | rfl | (simp; done)))), lE, hcut.1, hcut.2, (by omega), (by omega)⟩
        · skip
          have tt := hg15
          exact hJ8 _ _ ⟨g0L14, (g3L14.trans (congrArg vS (by rw [show a = e by omega, endP_rtx hend, List.append_nil] at hq2; rw [hq2, hB]))), g4L14, lE⟩
      refine ⟨fun n' σ' H' => ∃ j : Nat, n' = c.toNat - j ∧ j ≤ c.toNat ∧ σ' 0 = p ∧ σ' 3 = (vS (B)) ∧ σ' 4 = (.int .i64 ((i : Int))) ∧ σ' 5 = x10 ∧ σ' 6 = (.int .i64 (((c.toNat - j : Nat) : Int))) ∧ Le H H' ∧ endP row (c.toNat - j),
        ⟨_, 0, rfl, by omega, g0L9, g3L9, g4L9, rfl, (congrArg (Value.int .i64) (by first | omega | rfl | (simp; done))), lE, ⟨by omega, fun q h1 h2 => by omega⟩⟩, ?_⟩
      rintro n25 σ25 H25 ⟨j, rfl, hjN, g0L25, g3L25, g4L25, g5L25, g6L25, lE, he0⟩
      have hp := hp0.le lE
      have hvc := hvc0.le lE
      have hx10 := hx100.le lE
      try simp only [g5L25, g6L25]
      refine ob_i (vInt_gtr _ _ _) ?_
      by_cases hc26 : 0 < (((c.toNat - j : Nat) : Int))
      · skip
        refine gop_e (decide_eq_true hc26) ?_
        refine gop_rt ?_
        refine gop_e (decide_eq_true hc26) ?_
        refine gop_rt ?_
        refine gop_e (decide_eq_true hc26) ?_
        refine gop_rt ?_
        refine ob_i (vInt_sub (by omega) (by omega)) ?_
        refine gop_e (decide_eq_true hc26) ?_
        refine gop_rt ?_
        refine ob_i (hx10.ix (by omega) (by omega)) ?_
        refine gop_e (decide_eq_true hc26) ?_
        refine gop_rt ?_
        refine ob_i (hx10.ld 0 (by omega) (by omega)) ?_
        refine gop_e (decide_eq_true hc26) ?_
        refine gop_rt ?_
        refine ob_i (vInt_eql _ _ _) ?_
        refine ob_i (vPick_et (decide_eq_true hc26) _ _) ?_
        refine cnd_d (fun hg27 => ?_) (fun hg27 => ?_)
        · skip
          refine ob_i (vInt_sub (by omega) (by omega)) ?_
          exact nxt (c.toNat - (j + 1)) (by omega) ⟨j + 1, rfl, by omega, g0L25, g3L25, g4L25, g5L25, (congrArg (Value.int .i64) (by first | omega | rfl | (simp; done))), lE, (endP_back he0 (by omega) hg27 (by omega))⟩
        · skip
          exact hJ13 _ _ ⟨(c.toNat - j), g0L25, g3L25, g4L25, g5L25, (g6L25.trans (congrArg (Value.int .i64) (by first | omega | rfl | (simp; done)))), lE, he0, (fun h => by rw [show ((c.toNat - j - 1 : Nat) : Int) = ((c.toNat - j : Nat) : Int) - 1 by omega]; exact hg27), (by omega)⟩
      · skip
        refine gop_e (decide_eq_false hc26) ?_
        refine gop_sf ?_
        refine gop_e (decide_eq_false hc26) ?_
        refine gop_sf ?_
        refine gop_e (decide_eq_false hc26) ?_
        refine gop_sf ?_
        refine gop_e (decide_eq_false hc26) ?_
        refine gop_sf ?_
        refine gop_e (decide_eq_false hc26) ?_
        refine gop_sf ?_
        refine gop_e (decide_eq_false hc26) ?_
        refine gop_sf ?_
        refine ob_i (vPick_ef (decide_eq_false hc26) _ _) ?_
        refine cnd_f1 ?_
        exact hJ13 _ _ ⟨(c.toNat - j), g0L25, g3L25, g4L25, g5L25, (g6L25.trans (congrArg (Value.int .i64) (by first | omega | rfl | (simp; done)))), lE, he0, (fun h => absurd h (by omega)), (by omega)⟩
    refine ob_i (vInt_gtr _ _ _) ?_
    refine cnd_d (fun hg28 => ?_) (fun hg28 => ?_)
    · skip
      have tj := hg28
      refine ob_i (vStr_add (a := headT r c ++ joinR c.toNat l i) (b := ([36] : List UInt8)) (by first | omega | (simp only [List.length_append, List.length_cons, List.length_nil, List.length_take, List.length_drop]; omega))) ?_
      exact hJ9 _ _ ⟨_, g0L6, rfl, g4L6, lE, (by rw [joinR_succ (by omega)]; simp only [List.append_assoc])⟩
    · skip
      have tj := hg28
      exact hJ9 _ _ ⟨_, g0L6, g3L6, g4L6, lE, (by rw [joinR_one (by omega), show joinR c.toNat l i = [] by rw [show i = 0 by omega, joinR_zero], List.append_nil])⟩
  · skip
    have ti := hg7
    exact hJ5 _ _ ⟨(g3L6.trans (congrArg vS (by rw [show i = r.toNat by omega]))), lE⟩
theorem C.impl_Field_text {vc : Value} {r c : Int} {l : List Int}  {H : Hp} {K : Value → Hp → Prop} (hvc0 : Sl eI H vc l) (hf : fieldN 1 r c l)
    (hk : ∀ H', Le H H' → K (vS (fieldT r c l)) H') : HT prg I.impl_Field_text [(.agg #[(.int .i64 (r)), (.int .i64 (c)), vc])].toArray H K := by
  have lE := Le.refl H
  have hvc := hvc0
  refine R.impl_Field_text ?_
  unfold F.impl_Field_text
  have hs := hf.1
  have hl := hf.2.1
  have q1 := hs.1
  have q2 := hs.2
  have qm := sidesF_mul hs
  have l1 := fieldN_len hf
  have hlN : l.length = r.toNat * c.toNat := by rw [← Int.natCast_inj, Int.natCast_mul, Int.toNat_of_nonneg (by omega), Int.toNat_of_nonneg (by omega)]; exact hl
  have dc := decT_len c.toNat
  have dr := decT_len r.toNat
  have rf := rowsT_flat (c := c.toNat) (l := l) r.toNat
  have rg : r.toNat * (3 * c.toNat) ≤ 24 * 72 := Nat.mul_le_mul (by omega) (by omega)
  have rjl : (joinT [36] (rowsT c.toNat l r.toNat)).length ≤ r.toNat * (3 * c.toNat + 1) := joinR_len _
  have rjm : r.toNat * (3 * c.toNat + 1) ≤ 24 * 73 := Nat.mul_le_mul (by omega) (by omega)
  have rn := rowsT_len (c := c.toNat) (l := l) (n := r.toNat)
  refine nw_i (fun pf H1 opf nn2 le3 => ?_)
  have npf : Nw H pf := nn2.le lE
  replace hvc := hvc.le le3
  replace lE := lE.trans le3
  replace opf : Cel H1 pf [(.int .i64 (r)), (.int .i64 (c)), vc] := opf
  refine bS_nil (enc := vS) (fun ou H4 oou nn5 kk6 le7 => ?_)
  have apfXou : Apart pf ou := opf.apart nn5
  have nou : Nw H ou := nn5.le lE
  replace opf := opf.le le7
  replace hvc := hvc.le le7
  replace lE := lE.trans le7
  refine nw_i (fun po H8 opo nn9 le10 => ?_)
  have apfXpo : Apart pf po := opf.apart nn9
  have aouXpo : Apart ou po := oou.apart nn9
  have npo : Nw H po := nn9.le lE
  replace opf := opf.le le10
  replace oou := oou.le le10
  replace hvc := hvc.le le10
  replace lE := lE.trans le10
  replace opo : Cel H8 po [(.slice none 0 0)] := opo
  refine opo.st0 (by simp) oou.one oou.cells (fun H11 opo off12 => ?_)
  replace opf := opf.off off12 apfXpo
  replace oou := oou.off off12 aouXpo
  replace hvc := hvc0.le (off12.le lE npo)
  replace lE := off12.le lE npo
  replace opo : Cel H11 po [ou] := opo
  refine jn_i (fun σ' H' => ∃ ou, σ' 1 = pf ∧ σ' 3 = po ∧ Cel H' pf [(.int .i64 (r)), (.int .i64 (c)), vc] ∧ Own vS H' ou (rowsT c.toNat l r.toNat) ∧ Cel H' po [ou] ∧ Nw H ou ∧ Apart pf ou ∧ Apart ou po ∧ Le H H') (fun σ13 H13 hP => ?_) (fun J13 hJ13 => ?_)
  · skip
    obtain ⟨ou, g1L13, g3L13, opf, oou, opo, nou, apfXou, aouXpo, lE⟩ := hP
    have hvc := hvc0.le lE
    try simp only [g1L13, g3L13]
    refine ob_i (opf.fa 1) ?_
    refine ob_i (opf.ld 1 rfl) ?_
    refine ob_i (opf.fa 0) ?_
    refine ob_i (opf.ld 0 rfl) ?_
    refine ob_i (opo.ld0 rfl) ?_
    refine C.impl_Decimal (by first | omega | assumption) (by first | omega | assumption) ?_
    refine ⟨Le.refl _, ?_⟩
    refine ob_i (vStr_add (a := decT c.toNat) (b := ([44] : List UInt8)) (by first | omega | (simp only [List.length_append, List.length_cons, List.length_nil, List.length_take, List.length_drop]; omega))) ?_
    refine C.impl_Decimal (by first | omega | assumption) (by first | omega | assumption) ?_
    refine ⟨Le.refl _, ?_⟩
    refine ob_i (vStr_add (a := (decT c.toNat) ++ ([44] : List UInt8)) (b := decT r.toNat) (by first | omega | (simp only [List.length_append, List.length_cons, List.length_nil, List.length_take, List.length_drop]; omega))) ?_
    refine ob_i (vStr_add (a := ((decT c.toNat) ++ ([44] : List UInt8)) ++ (decT r.toNat)) (b := ([58] : List UInt8)) (by first | omega | (simp only [List.length_append, List.length_cons, List.length_nil, List.length_take, List.length_drop]; omega))) ?_
    refine C.strings_Join oou.sl (by first | omega | assumption) (by first | omega | assumption) (fun   H14    le15 => ?_)
    replace opf := opf.le le15
    replace oou := oou.le le15
    replace opo := opo.le le15
    replace hvc := hvc.le le15
    replace lE := lE.trans le15
    refine ⟨le15, ?_⟩
    refine ob_i (vStr_add (a := (((decT c.toNat) ++ ([44] : List UInt8)) ++ (decT r.toNat)) ++ ([58] : List UInt8)) (b := joinT [36] (rowsT c.toNat l r.toNat)) (by first | omega | (simp only [List.length_append, List.length_cons, List.length_nil, List.length_take, List.length_drop]; omega))) ?_
    refine ob_i (vStr_add (a := ((((decT c.toNat) ++ ([44] : List UInt8)) ++ (decT r.toNat)) ++ ([58] : List UInt8)) ++ (joinT [36] (rowsT c.toNat l r.toNat))) (b := ([33] : List UInt8)) (by first | omega | (simp only [List.length_append, List.length_cons, List.length_nil, List.length_take, List.length_drop]; omega))) ?_
    skip
    exact keq (K := K) (by rw [show (fieldT r c l) = ((((((decT c.toNat) ++ ([44] : List UInt8)) ++ (decT r.toNat)) ++ ([58] : List UInt8)) ++ (joinT [36] (rowsT c.toNat l r.toNat))) ++ ([33] : List UInt8)) from by rfl]; try rfl) (hk   _    lE)
  refine ob_i (opf.fa 2) ?_
  refine ob_i (opf.ld 2 rfl) ?_
  refine ob_i (opf.fa 1) ?_
  refine ob_i (opf.ld 1 rfl) ?_
  refine C.slices_Chunk hvc (by omega) (fun ps16 pn17 H18 ops16 opn17 nn20 nn21 aps16Xpn17 le19 => ?_)
  have apfXps16 : Apart pf ps16 := opf.apart nn20
  have aouXps16 : Apart ou ps16 := oou.apart nn20
  have apoXps16 : Apart po ps16 := opo.apart nn20
  have nps16 : Nw H ps16 := nn20.le lE
  have apfXpn17 : Apart pf pn17 := opf.apart nn21
  have aouXpn17 : Apart ou pn17 := oou.apart nn21
  have apoXpn17 : Apart po pn17 := opo.apart nn21
  have npn17 : Nw H pn17 := nn21.le lE
  replace opf := opf.le le19
  replace oou := oou.le le19
  replace opo := opo.le le19
  replace hvc := hvc.le le19
  replace lE := lE.trans le19
  replace ops16 : Cel H18 ps16 [vc] := ops16
  replace opn17 : Cel H18 pn17 [(.int .i64 (c))] := opn17
  refine rgE_i (r.toNat) (fun (i : Nat) => [chV vc (i * c.toNat) c.toNat]) (fun (i : Nat) H' => ∃ ou, Cel H' pf [(.int .i64 (r)), (.int .i64 (c)), vc] ∧ Own vS H' ou (rowsT c.toNat l i) ∧ Cel H' po [ou] ∧ Cel H' ps16 [vc] ∧ Cel H' pn17 [(.int .i64 (c))] ∧ Nw H ou ∧ Apart pf ou ∧ Apart ou po ∧ Apart ou ps16 ∧ Apart ou pn17 ∧ Le H H') trivial (fun _ => rfl) ⟨ou, opf, (Own.cast (by first | rfl | (simp; done)) oou), opo, ops16, opn17, nou, apfXou, aouXpo, aouXps16, aouXpn17, lE⟩ (fun i H22 σ22 Q22 hiN hσ22 qn22 qr22 qx22 hI22 => ?_) (fun H22 hI22 => ?_) (fun yv J St H1 K1 hJ h0 hst hk1 hs1 => ?_)
  · obtain ⟨ou, opf, oou, opo, ops16, opn17, nou, apfXou, aouXpo, aouXps16, aouXpn17, lE⟩ := hI22
    have hvc := hvc0.le lE
    have hmz23 : (i + 1) * c.toNat ≤ r.toNat * c.toNat := Nat.mul_le_mul_right _ (by omega)
    rw [Nat.add_mul, Nat.one_mul] at hmz23
    have hz230 : Sl eI H (chV vc (i * c.toNat) c.toNat) (rowL c.toNat l i) := (chV_sl hvc0 (lo := i * c.toNat) (c := c.toNat) (by omega)).2
    obtain ⟨z23, ez23⟩ : ∃ z, z = chV vc (i * c.toNat) c.toNat := ⟨_, rfl⟩
    rw [← ez23] at hz230
    have hz23 := hz230.le lE
    have rz23 : (rowL c.toNat l i).length = c.toNat := rowL_len (r := r.toNat) hlN (by omega)
    have g3L22 : σ22 3 = po := by rw [hσ22]; exact rfl
    have g11L22 : σ22 11 = z23 := by rw [hσ22, ← ez23]; rfl
    try simp only [g3L22, g11L22]
    have ri := rowsT_len (c := c.toNat) (l := l) (n := i)
    refine ob_i (opo.ld0 rfl) ?_
    refine C.impl_runsText hz23 (by first | omega | assumption) (by exact row_01 hf.2.2) (fun   H24    le25 => ?_)
    replace opf := opf.le le25
    replace oou := oou.le le25
    replace opo := opo.le le25
    replace ops16 := ops16.le le25
    replace opn17 := opn17.le le25
    replace hvc := hvc.le le25
    replace hz23 := hz23.le le25
    replace lE := lE.trans le25
    refine ⟨le25, ?_⟩
    refine bS_i (enc := vS) (l := [rtx (rowL c.toNat l i)]) (by omega) rfl (by kernel_rfl) (fun u26 H27 ou26 nn28 le30 => ?_)
    have apfXu26 : Apart pf u26 := opf.apart nn28
    have aouXu26 : Apart ou u26 := oou.apart nn28
    have apoXu26 : Apart po u26 := opo.apart nn28
    have aps16Xu26 : Apart ps16 u26 := ops16.apart nn28
    have apn17Xu26 : Apart pn17 u26 := opn17.apart nn28
    have nu26 : Nw H u26 := nn28.le lE
    replace opf := opf.le le30
    replace oou := oou.le le30
    replace opo := opo.le le30
    replace ops16 := ops16.le le30
    replace opn17 := opn17.le le30
    replace hvc := hvc.le le30
    replace hz23 := hz23.le le30
    replace lE := lE.trans le30
    refine apd_any oou ou26.sl (fun _ => rfl) (by omega) (by first | omega | (simp only [List.length_cons, List.length_nil, List.length_append, List.length_replicate, List.length_map, List.length_range]; omega)) (fun u34 H31 ou34 off32 hb33 => ?_)
    have apfXu34 : Apart pf u34 := Apart.ap2 opf.known apfXou hb33
    have apoXu34 : Apart po u34 := Apart.ap2 opo.known aouXpo.symm hb33
    have aps16Xu34 : Apart ps16 u34 := Apart.ap2 ops16.known aouXps16.symm hb33
    have apn17Xu34 : Apart pn17 u34 := Apart.ap2 opn17.known aouXpn17.symm hb33
    have au26Xu34 : Apart u26 u34 := Apart.ap2 ou26.known aouXu26.symm hb33
    have nu34 : Nw H u34 := Nw.ap2 nou lE hb33
    replace opf := opf.off off32 apfXou
    replace opo := opo.off off32 aouXpo.symm
    replace ops16 := ops16.off off32 aouXps16.symm
    replace opn17 := opn17.off off32 aouXpn17.symm
    replace ou26 := ou26.off off32 aouXu26.symm
    replace hvc := hvc0.le (off32.le lE nou)
    replace hz23 := hz230.le (off32.le lE nou)
    replace lE := off32.le lE nou
    refine opo.st0 (by simp) ou34.one ou34.cells (fun H35 opo off36 => ?_)
    replace opf := opf.off off36 apfXpo
    replace ops16 := ops16.off off36 apoXps16.symm
    replace opn17 := opn17.off off36 apoXpn17.symm
    replace ou26 := ou26.off off36 apoXu26.symm
    replace ou34 := ou34.off off36 apoXu34.symm
    replace hvc := hvc0.le (off36.le lE npo)
    replace hz23 := hz230.le (off36.le lE npo)
    replace lE := off36.le lE npo
    replace opo : Cel H35 po [u34] := opo
    exact qn22 _ _ ⟨u34, opf, (Own.cast rowsT_succ.symm ou34), opo, ops16, opn17, nu34, apfXu34, apoXu34.symm, aps16Xu34.symm, apn17Xu34.symm, lE⟩
  · obtain ⟨ou, opf, oou, opo, ops16, opn17, nou, apfXou, aouXpo, aouXps16, aouXpn17, lE⟩ := hI22
    have hvc := hvc0.le lE
    exact hJ13 _ _ ⟨ou, rfl, rfl, opf, oou, opo, nou, apfXou, aouXpo, lE⟩
  · refine ⟨by kernel_rfl, C.slices_ChunkZ1 (r := r.toNat) (c := c.toNat) hvc0 hlN (by omega) (by omega) (by omega) (fun t A hA => ?_) h0 hst hk1 hs1⟩
    obtain ⟨A', b, o, rfl, hn, ou, opf, oou, opo, ops16, opn17, nou, apfXou, aouXpo, aouXps16, aouXpn17, lE⟩ := hJ t A hA
    exact ⟨ops16.le (Le.put _ hn), Cel.castX (by rw [Int.toNat_of_nonneg (by omega)]) (opn17.le (Le.put _ hn))⟩
theorem C.impl_WriteRuns {vc : Value} {r c : Int} {l : List Int}  {H : Hp} {K : Value → Hp → Prop} (hvc0 : Sl eI H vc l) (k1 : l.length ≤ 9223372036854775807)
    (hk : ∀ H', Le H H' → K (.tuple #[(vS (selL (fieldN 1 r c l) (fieldT r c l))), (.bool (decide (fieldN 1 r c l)))]) H') : HT prg I.impl_WriteRuns [(.agg #[(.int .i64 (r)), (.int .i64 (c)), vc])].toArray H K := by
  have lE := Le.refl H
  have hvc := hvc0
  refine R.impl_WriteRuns ?_
  unfold F.impl_WriteRuns
  refine nw_i (fun p1 H2 op1 nn3 le4 => ?_)
  have np1 : Nw H p1 := nn3.le lE
  replace hvc := hvc.le le4
  replace lE := lE.trans le4
  replace op1 : Cel H2 p1 [(.int .i64 (r)), (.int .i64 (c)), vc] := op1
  refine ob_i (op1.ldn rfl) ?_
  refine C.impl_isPlain hvc (by first | omega | assumption) (fun   H5    le6 => ?_)
  replace op1 := op1.le le6
  replace hvc := hvc.le le6
  replace lE := lE.trans le6
  refine ob_nd (fun hc7 => ?_) (fun hc7 => ?_)
  · skip
    refine cnd_f1 ?_
    refine ob_i (op1.ldn rfl) ?_
    refine C.impl_Field_text hvc (by first | omega | assumption) (fun   H8    le9 => ?_)
    replace op1 := op1.le le9
    replace hvc := hvc.le le9
    replace lE := lE.trans le9
    skip
    have hok : fieldN 1 r c l := by assumption
    exact keq (K := K) (by rw [show (selL (fieldN 1 r c l) (fieldT r c l)) = (fieldT r c l) from by first | exact selL_t hok | exact selL_f hok]; rw [decide_eq_true (show (fieldN 1 r c l) from by exact hok)]; try rfl) (hk   _    lE)
  · skip
    refine cnd_t1 ?_
    skip
    have hok : ¬ (fieldN 1 r c l) := by assumption
    exact keq (K := K) (by rw [show (selL (fieldN 1 r c l) (fieldT r c l)) = (([] : List UInt8)) from by first | exact selL_t hok | exact selL_f hok]; rw [decide_eq_false (show ¬ (fieldN 1 r c l) from by exact hok)]; try rfl) (hk   _    lE)
theorem C.spec_WriteRuns {vc : Value} {r c : Int} {l : List Int}  {H : Hp} {K : Value → Hp → Prop} (hvc0 : Sl eI H vc l) (k1 : l.length ≤ 9223372036854775807)
    (hk : ∀ H', Le H H' → K (.tuple #[(vS (selL (fieldN 1 r c l) (fieldT r c l))), (.bool (decide (fieldN 1 r c l)))]) H') : HT prg I.spec_WriteRuns [(.agg #[(.int .i64 (r)), (.int .i64 (c)), vc])].toArray H K := by
  have lE := Le.refl H
  have hvc := hvc0
  refine R.spec_WriteRuns ?_
  unfold F.spec_WriteRuns
  refine nw_i (fun p1 H2 op1 nn3 le4 => ?_)
  have np1 : Nw H p1 := nn3.le lE
  replace hvc := hvc.le le4
  replace lE := lE.trans le4
  replace op1 : Cel H2 p1 [(.int .i64 (r)), (.int .i64 (c)), vc] := op1
  refine C.spec_l04Plain op1 hvc (by first | omega | assumption) ?_
  refine ob_nd (fun hc5 => ?_) (fun hc5 => ?_)
  · skip
    refine cnd_f1 ?_
    refine C.spec_l05Write op1 hvc (by first | omega | assumption) (fun   H6    le7 => ?_)
    replace op1 := op1.le le7
    replace hvc := hvc.le le7
    replace lE := lE.trans le7
    skip
    have hok : fieldN 1 r c l := by assumption
    exact keq (K := K) (by rw [show (selL (fieldN 1 r c l) (fieldT r c l)) = (fieldT r c l) from by first | exact selL_t hok | exact selL_f hok]; rw [decide_eq_true (show (fieldN 1 r c l) from by exact hok)]; try rfl) (hk   _    lE)
  · skip
    refine cnd_t1 ?_
    skip
    have hok : ¬ (fieldN 1 r c l) := by assumption
    exact keq (K := K) (by rw [show (selL (fieldN 1 r c l) (fieldT r c l)) = (([] : List UInt8)) from by first | exact selL_t hok | exact selL_f hok]; rw [decide_eq_false (show ¬ (fieldN 1 r c l) from by exact hok)]; try rfl) (hk   _    lE)
end Go.Proofs.YtialllbbbpmkbaaDoor
