/- Several texts in one. -/
import Derived.Test.YthmdmbbdjbhcoaaMInner0
set_option linter.unusedVariables false
/- Life on fields, step by step: the program's and the reference's. -/
namespace Go.Proofs.Ythmdmbbdjbhcoaa
open HL
variable {va w vb vs p vc : Value} {l b s : List Int} {r c x i k st : Int} {rnd : Bool}
set_option maxRecDepth 100000
theorem C.c20  {H : Hp} {K : Value → Hp → Prop} (hva0 : Sl eI H va l) (k1 : l.length ≤ 9223372036854775807)
    (hk : ∀ H', Le H H' → K (.bool (decide (cntP l))) H') : HT prg 143 [va].toArray H K := by
 have lE := Le.refl H
 refine R.q143 ?_
 unfold F.q143
 refine jn_i (fun σ' H' => Le H H' ∧ cntU l l.length ∧ cntV l l.length) (fun σ1 H1 hP => ?_) (fun J1 hJ1 => ?_)
 obtain ⟨lE, ho0⟩ := hP
 exact keq (K := K) (by rw [decide_eq_true (show (cntP l) from by exact ⟨cntV_all ho0.2 (Nat.le_refl _), ho0.1⟩)]) (hk   _    lE)
 refine ⟨fun n' σ' H' => ∃ i : Nat, n' = l.length - i ∧ i ≤ l.length ∧ σ' 0 = va ∧ σ' 3 = (.int .i64 ((i : Int))) ∧ Le H H' ∧ cntU l i ∧ cntV l i,
    ⟨_, 0, rfl, by omega, rfl, (congrArg (Value.int .i64) (by first | omega | rfl | (simp; done))), lE, ⟨cntU_zero l, cntV_zero l⟩⟩, ?_⟩
 rintro n2 σ2 H2 ⟨i, rfl, hiN, g0L2, g3L2, lE, hpre⟩
 try simp only [g0L2, g3L2]
 refine ob_i ((hva0.le lE).len) (ob_i (vInt_lss _ _ _) (cnd_d (fun hg3 => ?_) (fun hg3 => ?_)))
 have ti := hg3
 refine ob_i ((hva0.le lE).ix (by omega) (by omega)) (ob_i ((hva0.le lE).ld 0 (by omega) (by omega)) (C.c0  ?_))
 refine ⟨Le.refl _, ?_⟩
 refine ob_nd (fun hc4 => ?_) (fun hc4 => ?_)
 refine gop_rf (gop_rf (ob_i (vInt_gtr _ _ _) (gop_rf ?_)))
 by_cases hc5 : 0 < (i : Int)
 refine gQT hc5 (gQT hc5 (gQT hc5 (ob_i ((hva0.le lE).ix (by omega) (by omega)) (gQT hc5 (ob_i ((hva0.le lE).ld 0 (by omega) (by omega)) (gQT hc5 (gQT hc5 (gQT hc5 (ob_i (vInt_sub (by omega) (by omega)) ?_)))))))))
 refine gQT hc5 (ob_i ((hva0.le lE).ix (by omega) (by omega)) (gQT hc5 (ob_i ((hva0.le lE).ld 0 (by omega) (by omega)) (gQT hc5 (ob_i (vInt_leq _ _ _) (gop_rf (ob_i (vPick_et (decide_eq_true hc5) _ _) (ob_i (vPick_f _ _) (cnd_d (fun hg6 => ?_) (fun hg6 => ?_))))))))))
 refine retK (K := K) (v' := (.bool false)) rfl ?_
 exact keq (K := K) (by rw [decide_eq_false (show ¬ (cntP l) from by intro h; have h1 := cntP_in h (j := i) (by omega); have h2 := cntP_up h (j := i) (by omega); omega)]) (hk   _    lE)
 refine ob_i (vInt_add (by omega) (by omega)) ?_
 exact nxt (l.length - (i + 1)) (by omega) ⟨i + 1, rfl, by omega, g0L2, (congrArg (Value.int .i64) (by first | omega | rfl | (simp; done))), lE, ⟨cntU_succ hpre.1 (by intro; omega), cntV_succ hpre.2 (by first | assumption | omega)⟩⟩
 refine hQF hc5 (hQF hc5 (hQF hc5 (hQF hc5 (hQF hc5 (hQF hc5 (hQF hc5 (hQF hc5 (hQF hc5 (hQF hc5 ?_)))))))))
 refine gop_rf (ob_i (vPick_ef (decide_eq_false hc5) _ _) (ob_i (vPick_f _ _) (cnd_f1 (ob_i (vInt_add (by omega) (by omega)) ?_))))
 exact nxt (l.length - (i + 1)) (by omega) ⟨i + 1, rfl, by omega, g0L2, (congrArg (Value.int .i64) (by first | omega | rfl | (simp; done))), lE, ⟨cntU_succ hpre.1 (by intro; omega), cntV_succ hpre.2 (by first | assumption | omega)⟩⟩
 refine gop_st (gop_st (gop_st (gop_u (gop_u (gop_u (gop_u (gop_u (gop_u (gop_u ?_)))))))))
 refine gop_u (gop_u (gop_u (gop_st (ob_i (vPick_t _ _) (cnd_t1 (retK (K := K) (v' := (.bool false)) rfl ?_))))))
 exact keq (K := K) (by rw [decide_eq_false (show ¬ (cntP l) from by intro h; have h1 := cntP_in h (j := i) (by omega); have h2 := cntP_up h (j := i) (by omega); omega)]) (hk   _    lE)
 have ti := hg3
 exact hJ1 _ _ ⟨lE, (by rw [show l.length = i by omega]; exact hpre)⟩

theorem C.c21  {H : Hp} {K : Value → Hp → Prop} (hva0 : Sl eI H va l) (k1 : l.length ≤ 9223372036854775807)
    (hk : ∀ H', Le H H' → K (.bool (decide (cntP l))) H') : HT prg 107 [va].toArray H K := by
 have lE := Le.refl H
 refine R.q107 ?_
 unfold F.q107
 refine jn_i (fun σ' H' => σ' 0 = va ∧ Le H H' ∧ cntU l l.length) (fun σ1 H1 hP => ?_) (fun J1 hJ1 => ?_)
 obtain ⟨g0L1, lE, ho0⟩ := hP
 try simp only [g0L1]
 refine C.c2 (hva0.le lE) (by first | omega | assumption) ?_
 exact keq (K := K) (by rw [show decide (∀ x ∈ l, 0 ≤ x ∧ x ≤ 8) = decide (cntP l) from decide_eq_decide.mpr (by exact ⟨fun h => ⟨h, ho0⟩, fun h => h.1⟩)]) (hk   _    lE)
 refine ⟨fun n' σ' H' => ∃ i : Nat, n' = l.length - i ∧ i ≤ l.length ∧ σ' 0 = va ∧ σ' 3 = (.int .i64 ((i : Int) + 1)) ∧ Le H H' ∧ cntU l (i + 1),
    ⟨_, 0, rfl, by omega, rfl, (congrArg (Value.int .i64) (by first | omega | rfl | (simp; done))), lE, cntU_one l⟩, ?_⟩
 rintro n2 σ2 H2 ⟨i, rfl, hiN, g0L2, g3L2, lE, hpre⟩
 try simp only [g0L2, g3L2]
 refine ob_i ((hva0.le lE).len) (ob_i (vInt_lss _ _ _) (cnd_d (fun hg3 => ?_) (fun hg3 => ?_)))
 have ti := hg3
 refine ob_i ((hva0.le lE).ix (by omega) (by omega)) (ob_i ((hva0.le lE).ld 0 (by omega) (by omega)) (ob_i (vInt_sub (by omega) (by omega)) (ob_i ((hva0.le lE).ix (by omega) (by omega)) (ob_i ((hva0.le lE).ld 0 (by omega) (by omega)) (ob_i (vInt_leq _ _ _) (cnd_d (fun hg4 => ?_) (fun hg4 => ?_)))))))
 refine retK (K := K) (v' := (.bool false)) rfl ?_
 exact keq (K := K) (by rw [decide_eq_false (show ¬ (cntP l) from by intro h; have h2 := cntP_up h (j := i + 1) (by omega); rw [show (((i + 1 : Nat) : Int)) = (i : Int) + 1 by omega] at h2; omega)]) (hk   _    lE)
 refine ob_i (vInt_add (by omega) (by omega)) ?_
 exact nxt (l.length - (i + 1)) (by omega) ⟨i + 1, rfl, by omega, g0L2, (congrArg (Value.int .i64) (by first | omega | rfl | (simp; done))), lE, cntU_succ hpre (by intro; rw [show (((i + 1 : Nat) : Int)) = (i : Int) + 1 by omega]; omega)⟩
 have ti := hg3
 exact hJ1 _ _ ⟨g0L2, lE, cntU_full hpre (by omega)⟩

theorem C.c22  {H : Hp} {K : Value → Hp → Prop} (hw0 : Cel H w [vb, vs]) (hvb0 : Sl eI H vb b) (hvs0 : Sl eI H vs s) (kb : b.length ≤ 9223372036854775807) (ks : s.length ≤ 9223372036854775807)
    (hk : ∀ H', Le H H' → K (.bool (decide (lifP b s))) H') : HT prg 110 [w].toArray H K := by
 have lE := Le.refl H
 refine R.q110 ?_
 unfold F.q110
 refine ob_i ((hw0.le lE).nilC) (ob_i ((hw0.le lE).fa 0) (ob_i ((hw0.le lE).ld 0 rfl) (C.c20 (hvb0.le lE) (by first | omega | assumption) (fun   H1    le2 => ?_))))
 by_cases hc3 : cntP b
 refine gQT hc3 (gQT hc3 ?_)
 replace lE := lE.trans le2
 refine ob_i ((hw0.le lE).nilC) (gQT hc3 (ob_i ((hw0.le lE).fa 1) (gQT hc3 (ob_i ((hw0.le lE).ld 1 rfl) (gQT hc3 (C.c20 (hvs0.le lE) (by first | omega | assumption) (fun   H4    le5 => ?_)))))))
 refine ob_i (vPick_et (decide_eq_true hc3) _ _) ?_
 replace lE := lE.trans le5
 exact keq (K := K) (by rw [show decide (cntP s) = decide (lifP b s) from decide_eq_decide.mpr (by exact ⟨fun h => ⟨by assumption, h⟩, fun h => h.2⟩)]) (hk   _    lE)
 refine hQF hc3 (hQF hc3 (hQF hc3 (hQF hc3 (hQF hc3 (ob_i (vPick_ef (decide_eq_false hc3) _ _) ?_)))))
 have hc_ := hc3
 replace lE := lE.trans le2
 exact keq (K := K) (by rw [decide_eq_false (show ¬ (lifP b s) from by exact fun h => hc_ h.1)]) (hk   _    lE)

theorem C.c23  {H : Hp} {K : Value → Hp → Prop} (hvb0 : Sl eI H vb b) (hvs0 : Sl eI H vs s) (kb : b.length ≤ 9223372036854775807) (ks : s.length ≤ 9223372036854775807)
    (hk : ∀ H', Le H H' → K (.bool (decide (lifP b s))) H') : HT prg 65 [(.agg #[vb, vs])].toArray H K := by
 have lE := Le.refl H
 refine R.q65 ?_
 unfold F.q65
 refine nw_i (fun p1 H2 op1 nn3 le4 => ?_)
 replace op1 : Cel H2 p1 [vb, vs] := op1
 refine ob_i (op1.fa 0) (ob_i (op1.ld 0 rfl) ?_)
 replace lE := lE.trans le4
 refine C.c21 (hvb0.le lE) (by first | omega | assumption) (fun   H5    le6 => ?_)
 by_cases hc7 : cntP b
 refine gQT hc7 ?_
 replace op1 := op1.le le6
 refine ob_i (op1.fa 1) (gQT hc7 (ob_i (op1.ld 1 rfl) (gQT hc7 ?_)))
 replace lE := lE.trans le6
 refine C.c21 (hvs0.le lE) (by first | omega | assumption) (fun   H8    le9 => ?_)
 refine ob_i (vPick_et (decide_eq_true hc7) _ _) ?_
 replace lE := lE.trans le9
 exact keq (K := K) (by rw [show decide (cntP s) = decide (lifP b s) from decide_eq_decide.mpr (by exact ⟨fun h => ⟨by assumption, h⟩, fun h => h.2⟩)]) (hk   _    lE)
 refine hQF hc7 (hQF hc7 (hQF hc7 (ob_i (vPick_ef (decide_eq_false hc7) _ _) ?_)))
 have hc_ := hc7
 replace lE := lE.trans le6
 exact keq (K := K) (by rw [decide_eq_false (show ¬ (lifP b s) from by exact fun h => hc_ h.1)]) (hk   _    lE)

theorem C.c24  {H : Hp} {K : Value → Hp → Prop} (hw0 : Cel H w [vb, vs]) (hp0 : Cel H p [(.int .i64 (r)), (.int .i64 (c)), vc]) (hvb0 : Sl eI H vb b) (hvs0 : Sl eI H vs s) (hvc0 : Sl eI H vc l) (kb : b.length ≤ 9223372036854775807) (ks : s.length ≤ 9223372036854775807) (k1 : l.length ≤ 9223372036854775807)
    (hk : ∀ H', Le H H' → K (.bool (decide (canP b s r c l))) H') : HT prg 68 [w, p].toArray H K := by
 have lE := Le.refl H
 refine R.q68 ?_
 unfold F.q68
 refine C.c22 (hw0.le lE) (hvb0.le lE) (hvs0.le lE) (by first | omega | assumption) (by first | omega | assumption) (fun   H1    le2 => ?_)
 by_cases hc3 : lifP b s
 refine gQT hc3 (gQT hc3 ?_)
 replace lE := lE.trans le2
 refine C.c5 (hp0.le lE) (hvc0.le lE) (by first | omega | assumption) ?_
 exact ob_i (vPick_et (decide_eq_true hc3) _ _) (keq (K := K) (by rw [show decide (fieldN 1 r c l) = decide (canP b s r c l) from decide_eq_decide.mpr (by exact ⟨fun h => ⟨by assumption, h⟩, fun h => h.2⟩)]) (hk   _    lE))
 refine hQF hc3 (hQF hc3 (ob_i (vPick_ef (decide_eq_false hc3) _ _) ?_))
 have hc_ := hc3
 replace lE := lE.trans le2
 exact keq (K := K) (by rw [decide_eq_false (show ¬ (canP b s r c l) from by exact fun h => hc_ h.1)]) (hk   _    lE)

theorem C.c25  {H : Hp} {K : Value → Hp → Prop} (hp0 : Cel H p [(.int .i64 (r)), (.int .i64 (c)), vc]) (hvc0 : Sl eI H vc l) (k2 : l.length ≤ 68719476736)
    (hk : ∀ u1 H', Own eI H' u1 l → Nw H u1 → Le H H' → K (.agg #[(.int .i64 (r)), (.int .i64 (c)), u1]) H') : HT prg 112 [p].toArray H K := by
 have lE := Le.refl H
 refine R.q112 ?_
 unfold F.q112
 refine nw_i (fun p1 H2 op1 nn3 le4 => ?_)
 have np1 := nn3.le lE
 replace lE := lE.trans le4
 refine ob_i ((hp0.le lE).nilC) (ob_i ((hp0.le lE).fa 0) (ob_i ((hp0.le lE).ld 0 rfl) (ob_i ((hp0.le lE).nilC) (ob_i ((hp0.le lE).fa 1) (ob_i ((hp0.le lE).ld 1 rfl) (ob_i ((hp0.le lE).nilC) (ob_i ((hp0.le lE).fa 2) (ob_i ((hp0.le lE).ld 2 rfl) (bS_nil (enc := eI) (fun u5 H6 ou5 nn7 kk8 le9 => ?_))))))))))
 replace lE := lE.trans le9
 refine apd_nil ou5 kk8 (hvc0.le lE) (fun _ => rfl) (by omega) (by omega) (fun u13 H10 ou13 nn14 le15 => ?_)
 replace op1 := op1.le le9
 have ap1Xu13 := op1.apart nn14
 have nu13 := nn14.le lE
 refine ⟨le15, ?_⟩
 refine ob_i (a := (.agg #[(.int .i64 (r)), (.int .i64 (c)), u13])) (by obtain ⟨_, _, _, rfl⟩ := ou13.isSl; rfl) ?_
 replace op1 := op1.le le15
 refine op1.stn (ws := [(.int .i64 (r)), (.int .i64 (c)), u13]) rfl rfl (oc1 rfl (oc1 rfl (oc1 ou13.one oc0))) (fun H16 op1 off17 => ?_)
 refine ob_i (op1.ldn rfl) ?_
 replace lE := off17.le (lE.trans le15) np1
 replace ou13 := ou13.off off17 ap1Xu13.symm
 exact hk  u13 _ ou13 nu13  lE

theorem C.c26  {H : Hp} {K : Value → Hp → Prop} (hva0 : Sl eI H va l) (k1 : l.length ≤ 9223372036854775807)
    (hk : ∀ H', Le H H' → K (.bool (decide (x ∈ l))) H') : HT prg 115 [va, (.int .i64 (x))].toArray H K := by
 have lE := Le.refl H
 refine R.q115 ?_
 unfold F.q115
 refine jn_i (fun σ' H' => Le H H' ∧ x ∉ l) (fun σ1 H1 hP => ?_) (fun J1 hJ1 => ?_)
 obtain ⟨lE, ho0⟩ := hP
 exact keq (K := K) (by rw [decide_eq_false (show ¬ (x ∈ l) from by exact ho0)]) (hk   _    lE)
 refine ⟨fun n' σ' H' => ∃ i : Nat, n' = l.length - i ∧ i ≤ l.length ∧ σ' 0 = va ∧ σ' 1 = (.int .i64 (x)) ∧ σ' 5 = (.int .i64 ((i : Int))) ∧ Le H H' ∧ x ∉ l.take i,
    ⟨_, 0, rfl, by omega, rfl, rfl, (congrArg (Value.int .i64) (by first | omega | rfl | (simp; done))), lE, by simp⟩, ?_⟩
 rintro n2 σ2 H2 ⟨i, rfl, hiN, g0L2, g1L2, g5L2, lE, hm0⟩
 try simp only [g0L2, g1L2, g5L2]
 refine ob_i ((hva0.le lE).len) (ob_i (vInt_lss _ _ _) (cnd_d (fun hg3 => ?_) (fun hg3 => ?_)))
 have ti := hg3
 refine ob_i ((hva0.le lE).ix (by omega) (by omega)) (ob_i ((hva0.le lE).ld 0 (by omega) (by omega)) (ob_i (vInt_eql _ _ _) (cnd_d (fun hg4 => ?_) (fun hg4 => ?_))))
 refine retK (K := K) (v' := (.bool true)) rfl ?_
 have hg_ := hg4
 exact keq (K := K) (by rw [decide_eq_true (show (x ∈ l) from by rw [← hg_]; exact at_mem 0 l (by omega) (by omega))]) (hk   _    lE)
 refine ob_i (vInt_add (by omega) (by omega)) ?_
 exact nxt (l.length - (i + 1)) (by omega) ⟨i + 1, rfl, by omega, g0L2, g1L2, (congrArg (Value.int .i64) (by first | omega | rfl | (simp; done))), lE, notin_succ hm0 (by omega) hg4⟩
 have ti := hg3
 exact hJ1 _ _ ⟨lE, (by rw [List.take_of_length_le (by omega)] at hm0; exact hm0)⟩

theorem C.c27  {H : Hp} {K : Value → Hp → Prop} (hva0 : Sl eI H va l) (k1 : l.length ≤ 9223372036854775807)
    (hk : ∀ H', Le H H' → K (.int .i64 (idxL x l)) H') : HT prg 157 [va, (.int .i64 (x))].toArray H K := by
 have lE := Le.refl H
 refine R.q157 ?_
 unfold F.q157
 refine jn_i (fun σ' H' => Le H H' ∧ x ∉ l) (fun σ1 H1 hP => ?_) (fun J1 hJ1 => ?_)
 obtain ⟨lE, ho0⟩ := hP
 exact keq (K := K) (by rw [show ((idxL x l) : Int) = ((-1)) from by exact idxL_not ho0]) (hk   _    lE)
 refine ob_i ((hva0.le lE).len) ?_
 refine ⟨fun n' σ' H' => ∃ i : Nat, n' = l.length - i ∧ i ≤ l.length ∧ σ' 0 = va ∧ σ' 1 = (.int .i64 (x)) ∧ σ' 7 = (.int .i64 (((l).length : Int))) ∧ σ' 8 = (.int .i64 ((i : Int))) ∧ Le H H' ∧ x ∉ l.take i,
    ⟨_, 0, rfl, by omega, rfl, rfl, rfl, (congrArg (Value.int .i64) (by first | omega | rfl | (simp; done))), lE, by simp⟩, ?_⟩
 rintro n2 σ2 H2 ⟨i, rfl, hiN, g0L2, g1L2, g7L2, g8L2, lE, hm0⟩
 try simp only [g0L2, g1L2, g7L2, g8L2]
 refine ob_i (vInt_lss _ _ _) (cnd_d (fun hg3 => ?_) (fun hg3 => ?_))
 have ti := hg3
 refine ob_i ((hva0.le lE).ix (by omega) (by omega)) (ob_i ((hva0.le lE).ld 0 (by omega) (by omega)) (ob_i (vInt_eql _ _ _) (cnd_d (fun hg4 => ?_) (fun hg4 => ?_))))
 refine retK (K := K) (v' := (.int .i64 ((i : Int)))) rfl ?_
 exact keq (K := K) (by rw [show (((i : Int)) : Int) = (idxL x l) from by exact (idxL_at hm0 (by omega) hg4.symm).symm]) (hk   _    lE)
 refine ob_i (vInt_add (by omega) (by omega)) ?_
 exact nxt (l.length - (i + 1)) (by omega) ⟨i + 1, rfl, by omega, g0L2, g1L2, g7L2, (congrArg (Value.int .i64) (by first | omega | rfl | (simp; done))), lE, notin_succ hm0 (by omega) (fun h => hg4 h.symm)⟩
 have ti := hg3
 exact hJ1 _ _ ⟨lE, (by rw [List.take_of_length_le (by omega)] at hm0; exact hm0)⟩

theorem C.c28  {H : Hp} {K : Value → Hp → Prop} (hva0 : Sl eI H va l) (k1 : l.length ≤ 9223372036854775807)
    (hk : ∀ H', Le H H' → K (.bool (decide (x ∈ l))) H') : HT prg 154 [va, (.int .i64 (x))].toArray H K := by
 have lE := Le.refl H
 refine R.q154 ?_
 unfold F.q154
 refine C.c27 (hva0.le lE) (by first | omega | assumption) (fun   H1    le2 => ?_)
 refine ob_i (vInt_geq _ _ _) ?_
 replace lE := lE.trans le2
 exact keq (K := K) (by rw [show decide (0 ≤ (idxL x l)) = decide (x ∈ l) from decide_eq_decide.mpr (by exact idxL_mem)]) (hk   _    lE)

theorem C.c29 {q : Bool}  {H : Hp} {K : Value → Hp → Prop}
    (hk : K (.int .i64 (if q = true then 1 else 0)) H) : HT prg 153 [(.bool (q))].toArray H K := by
 have lE := Le.refl H
 refine R.q153 ?_
 unfold F.q153
 refine cnd_i (fun hg1 => ?_) (fun hg1 => ?_)
 exact keq (K := K) (by rw [show ((if q = true then 1 else 0) : Int) = (1) from by rw [if_pos hg1]]) (hk )
 exact keq (K := K) (by rw [show ((if q = true then 1 else 0) : Int) = (0) from by rw [if_neg (by rw [hg1]; simp)]]) (hk )

theorem C.c30  {H : Hp} {K : Value → Hp → Prop} (hp0 : Cel H p [(.int .i64 (r)), (.int .i64 (c)), vc]) (hvc0 : Sl eI H vc l) (hf : fieldN 1 r c l) (i0 : 0 ≤ i) (i1 : i < r) (j0 : 0 ≤ k) (j1 : k < c)
    (hk : ∀ H', Le H H' → K (.int .i64 (arF rnd r c l i k)) H') : HT prg 114 [p, (.int .i64 (i)), (.int .i64 (k)), (.bool (rnd))].toArray H K := by
 have lE := Le.refl H
 refine R.q114 ?_
 unfold F.q114
 have hs := hf.1
 have hl := hf.2.1
 have q1 := hs.1
 have q2 := hs.2
 have qm := sidesF_mul hs
 refine jn_i (fun σ' H' => σ' 9 = (.int .i64 (sumF (fun a => sumF (fun b => skF rnd r c l i k (i - 1 + a) (k - 1 + b)) 3) 3)) ∧ Le H H') (fun σ1 H1 hP => ?_) (fun J1 hJ1 => ?_)
 obtain ⟨g9L1, lE⟩ := hP
 try simp only [g9L1]
 exact keq (K := K) (by rw [show ((sumF (fun a => sumF (fun b => skF rnd r c l i k (i - 1 + a) (k - 1 + b)) 3) 3) : Int) = (arF rnd r c l i k) from by rfl]) (hk   _    lE)
 refine ob_i (vInt_sub (by omega) (by omega)) ?_
 refine ⟨fun n' σ' H' => ∃ t : Nat, n' = 3 - t ∧ t ≤ 3 ∧ σ' 0 = p ∧ σ' 1 = (.int .i64 (i)) ∧ σ' 2 = (.int .i64 (k)) ∧ σ' 3 = (.bool (rnd)) ∧ σ' 9 = (.int .i64 (sumF (fun a => sumF (fun b => skF rnd r c l i k (i - 1 + a) (k - 1 + b)) 3) t)) ∧ σ' 10 = (.int .i64 (i - 1 + (t : Int))) ∧ Le H H',
    ⟨_, 0, rfl, by omega, rfl, rfl, rfl, rfl, (congrArg (Value.int .i64) (by first | omega | rfl | (simp; done))), (congrArg (Value.int .i64) (by first | omega | rfl | (simp; done))), lE⟩, ?_⟩
 rintro n2 σ2 H2 ⟨t, rfl, htN, g0L2, g1L2, g2L2, g3L2, g9L2, g10L2, lE⟩
 try simp only [g0L2, g1L2, g2L2, g3L2, g9L2, g10L2]
 have bO := sumF_bnd (f := fun a => sumF (fun b => skF rnd r c l i k (i - 1 + a) (k - 1 + b)) 3) (a := 0) (b := 3) (fun a => by have := sumF_bnd (f := fun b => skF rnd r c l i k (i - 1 + a) (k - 1 + b)) (fun b => skF_01 hf i k _ _) 3; omega) t
 have zI := sumF_zero (fun b => skF rnd r c l i k (i - 1 + (t : Int)) (k - 1 + b))
 refine ob_i (vInt_add (by omega) (by omega)) (ob_i (vInt_leq _ _ _) (cnd_d (fun hg3 => ?_) (fun hg3 => ?_)))
 have tt := hg3
 refine jn_i (fun σ' H' => σ' 0 = p ∧ σ' 1 = (.int .i64 (i)) ∧ σ' 2 = (.int .i64 (k)) ∧ σ' 3 = (.bool (rnd)) ∧ σ' 9 = (.int .i64 (sumF (fun a => sumF (fun b => skF rnd r c l i k (i - 1 + a) (k - 1 + b)) 3) (t + 1))) ∧ σ' 10 = (.int .i64 (i - 1 + (t : Int))) ∧ Le H H') (fun σ4 H4 hP => ?_) (fun J4 hJ4 => ?_)
 obtain ⟨g0L4, g1L4, g2L4, g3L4, g9L4, g10L4, lE⟩ := hP
 try simp only [g10L4]
 refine ob_i (vInt_add (by omega) (by omega)) ?_
 exact nxt (3 - (t + 1)) (by omega) ⟨t + 1, rfl, by omega, g0L4, g1L4, g2L4, g3L4, (g9L4.trans (congrArg (Value.int .i64) (by first | omega | rfl | (simp; done)))), (congrArg (Value.int .i64) (by first | omega | rfl | (simp; done))), lE⟩
 refine ob_i (vInt_sub (by omega) (by omega)) ?_
 refine ⟨fun n' σ' H' => ∃ u : Nat, n' = 3 - u ∧ u ≤ 3 ∧ σ' 0 = p ∧ σ' 1 = (.int .i64 (i)) ∧ σ' 2 = (.int .i64 (k)) ∧ σ' 3 = (.bool (rnd)) ∧ σ' 9 = (.int .i64 (sumF (fun a => sumF (fun b => skF rnd r c l i k (i - 1 + a) (k - 1 + b)) 3) t + sumF (fun b => skF rnd r c l i k (i - 1 + (t : Int)) (k - 1 + b)) u)) ∧ σ' 10 = (.int .i64 (i - 1 + (t : Int))) ∧ σ' 11 = (.int .i64 (k - 1 + (u : Int))) ∧ Le H H',
    ⟨_, 0, rfl, by omega, g0L2, g1L2, g2L2, g3L2, (g9L2.trans (congrArg (Value.int .i64) (by first | omega | rfl | (simp; done)))), g10L2, (congrArg (Value.int .i64) (by first | omega | rfl | (simp; done))), lE⟩, ?_⟩
 rintro n5 σ5 H5 ⟨u, rfl, huN, g0L5, g1L5, g2L5, g3L5, g9L5, g10L5, g11L5, lE⟩
 try simp only [g0L5, g1L5, g2L5, g3L5, g9L5, g10L5, g11L5]
 have bI := sumF_bnd (f := fun b => skF rnd r c l i k (i - 1 + (t : Int)) (k - 1 + b)) (fun b => skF_01 hf i k _ _) u
 have bR := roundF_lt (i := i - 1 + (t : Int)) (k := k - 1 + (u : Int)) hs
 have bV := fieldN_at hf (i := roundF r c (i - 1 + (t : Int)) (k - 1 + (u : Int))) (by omega) (by omega)
 refine ob_i (vInt_add (by omega) (by omega)) (ob_i (vInt_leq _ _ _) (cnd_d (fun hg6 => ?_) (fun hg6 => ?_)))
 have tu := hg6
 refine ob_i (vInt_eql _ _ _) ?_
 by_cases hc7 : (i - 1 + (t : Int)) = i
 refine gQT hc7 (gQT hc7 (gQT hc7 (ob_i (vInt_eql _ _ _) (ob_i (vPick_et (decide_eq_true hc7) _ _) (cnd_d (fun hg8 => ?_) (fun hg8 => ?_))))))
 refine ob_i (vInt_add (by omega) (by omega)) ?_
 have e3 : skF rnd r c l i k (i - 1 + (t : Int)) (k - 1 + (u : Int)) = 0 := by rw [skF_eq]; first | rw [if_pos (by omega)] | (rw [if_neg (by omega)]; first | rw [if_pos (by first | (left; assumption) | (right; omega))] | rw [if_neg (by rintro (h | h) <;> first | omega | exact absurd h (by assumption))])
 have eS : sumF (fun b => skF rnd r c l i k (i - 1 + (t : Int)) (k - 1 + b)) (u + 1) = sumF (fun b => skF rnd r c l i k (i - 1 + (t : Int)) (k - 1 + b)) u + skF rnd r c l i k (i - 1 + (t : Int)) (k - 1 + (u : Int)) := rfl
 exact nxt (3 - (u + 1)) (by omega) ⟨u + 1, rfl, by omega, g0L5, g1L5, g2L5, g3L5, (g9L5.trans (congrArg (Value.int .i64) (by first | omega | rfl | (simp; done)))), g10L5, (congrArg (Value.int .i64) (by first | omega | rfl | (simp; done))), lE⟩
 by_cases hc9 : (rnd) = true
 refine gop_e (hc9) (gop_st (gop_e (hc9) (gop_st (gop_e (hc9) (gop_st (gop_e (hc9) (gop_st (gop_e (hc9) (gop_st ?_)))))))))
 refine gop_e (hc9) (gop_st (gop_e (hc9) (gop_st (gop_e (hc9) (gop_st (gop_u (gop_u (gop_u (gop_u ?_)))))))))
 refine gop_u (gop_u (gop_u (gop_e (hc9) (gop_st (ob_i (vPick_et (hc9) _ _) (cnd_t1 (ob_i ((hp0.le lE).nilC) (ob_i ((hp0.le lE).fa 2) (ob_i ((hp0.le lE).ld 2 rfl) (C.c9 (hp0.le lE) (by first | omega | assumption) ?_))))))))))
 refine ⟨Le.refl _, ?_⟩
 refine ob_i ((hvc0.le lE).ix (by omega) (by omega)) (ob_i ((hvc0.le lE).ld 0 (by omega) (by omega)) (ob_i (vInt_add (by omega) (by omega)) (ob_i (vInt_add (by omega) (by omega)) ?_)))
 have e3 : skF rnd r c l i k (i - 1 + (t : Int)) (k - 1 + (u : Int)) = at_ 0 l (roundF r c (i - 1 + (t : Int)) (k - 1 + (u : Int))) := by rw [skF_eq]; first | rw [if_pos (by omega)] | (rw [if_neg (by omega)]; first | rw [if_pos (by first | (left; assumption) | (right; omega))] | rw [if_neg (by rintro (h | h) <;> first | omega | exact absurd h (by assumption))])
 have eS : sumF (fun b => skF rnd r c l i k (i - 1 + (t : Int)) (k - 1 + b)) (u + 1) = sumF (fun b => skF rnd r c l i k (i - 1 + (t : Int)) (k - 1 + b)) u + skF rnd r c l i k (i - 1 + (t : Int)) (k - 1 + (u : Int)) := rfl
 exact nxt (3 - (u + 1)) (by omega) ⟨u + 1, rfl, by omega, g0L5, g1L5, g2L5, g3L5, (congrArg (Value.int .i64) (by first | omega | rfl | (simp; done))), g10L5, (congrArg (Value.int .i64) (by first | omega | rfl | (simp; done))), lE⟩
 refine gop_e (eq_false_of_ne_true hc9) (gop_rf (gop_e (eq_false_of_ne_true hc9) (gop_rf (gop_e (eq_false_of_ne_true hc9) (gop_rf (ob_i ((hp0.le lE).nilC) (gop_e (eq_false_of_ne_true hc9) (gop_rf (ob_i ((hp0.le lE).fa 0) ?_)))))))))
 refine gop_e (eq_false_of_ne_true hc9) (gop_rf (ob_i ((hp0.le lE).ld 0 rfl) (gop_e (eq_false_of_ne_true hc9) (gop_rf (ob_i (vInt_sub (by omega) (by omega)) (gop_e (eq_false_of_ne_true hc9) (gop_rf (C.c0  ?_))))))))
 refine gop_e (eq_false_of_ne_true hc9) (gop_rf ?_)
 by_cases hc10 : 0 ≤ (i - 1 + (t : Int)) ∧ (i - 1 + (t : Int)) ≤ (r - 1)
 refine gQT hc10 (gQT hc10 (gQT hc10 (ob_i ((hp0.le lE).nilC) (gQT hc10 (ob_i ((hp0.le lE).fa 1) (gQT hc10 (ob_i ((hp0.le lE).ld 1 rfl) (gQT hc10 (ob_i (vInt_sub (by omega) (by omega)) ?_)))))))))
 refine gQT hc10 (C.c0  ?_)
 refine gop_e (eq_false_of_ne_true hc9) (gop_rf (ob_i (vPick_et (decide_eq_true hc10) _ _) (ob_i (vPick_ef (eq_false_of_ne_true hc9) _ _) (cnd_d (fun hg11 => ?_) (fun hg11 => ?_)))))
 refine ob_i ((hp0.le lE).nilC) (ob_i ((hp0.le lE).fa 2) (ob_i ((hp0.le lE).ld 2 rfl) (C.c9 (hp0.le lE) (by first | omega | assumption) ?_)))
 refine ⟨Le.refl _, ?_⟩
 refine ob_i ((hvc0.le lE).ix (by omega) (by omega)) (ob_i ((hvc0.le lE).ld 0 (by omega) (by omega)) (ob_i (vInt_add (by omega) (by omega)) (ob_i (vInt_add (by omega) (by omega)) ?_)))
 have e3 : skF rnd r c l i k (i - 1 + (t : Int)) (k - 1 + (u : Int)) = at_ 0 l (roundF r c (i - 1 + (t : Int)) (k - 1 + (u : Int))) := by rw [skF_eq]; first | rw [if_pos (by omega)] | (rw [if_neg (by omega)]; first | rw [if_pos (by first | (left; assumption) | (right; omega))] | rw [if_neg (by rintro (h | h) <;> first | omega | exact absurd h (by assumption))])
 have eS : sumF (fun b => skF rnd r c l i k (i - 1 + (t : Int)) (k - 1 + b)) (u + 1) = sumF (fun b => skF rnd r c l i k (i - 1 + (t : Int)) (k - 1 + b)) u + skF rnd r c l i k (i - 1 + (t : Int)) (k - 1 + (u : Int)) := rfl
 exact nxt (3 - (u + 1)) (by omega) ⟨u + 1, rfl, by omega, g0L5, g1L5, g2L5, g3L5, (congrArg (Value.int .i64) (by first | omega | rfl | (simp; done))), g10L5, (congrArg (Value.int .i64) (by first | omega | rfl | (simp; done))), lE⟩
 refine ob_i (vInt_add (by omega) (by omega)) ?_
 have e3 : skF rnd r c l i k (i - 1 + (t : Int)) (k - 1 + (u : Int)) = 0 := by rw [skF_eq]; first | rw [if_pos (by omega)] | (rw [if_neg (by omega)]; first | rw [if_pos (by first | (left; assumption) | (right; omega))] | rw [if_neg (by rintro (h | h) <;> first | omega | exact absurd h (by assumption))])
 have eS : sumF (fun b => skF rnd r c l i k (i - 1 + (t : Int)) (k - 1 + b)) (u + 1) = sumF (fun b => skF rnd r c l i k (i - 1 + (t : Int)) (k - 1 + b)) u + skF rnd r c l i k (i - 1 + (t : Int)) (k - 1 + (u : Int)) := rfl
 exact nxt (3 - (u + 1)) (by omega) ⟨u + 1, rfl, by omega, g0L5, g1L5, g2L5, g3L5, (g9L5.trans (congrArg (Value.int .i64) (by first | omega | rfl | (simp; done)))), g10L5, (congrArg (Value.int .i64) (by first | omega | rfl | (simp; done))), lE⟩
 refine hQF hc10 (hQF hc10 (hQF hc10 (hQF hc10 (hQF hc10 (hQF hc10 (hQF hc10 (gop_e (eq_false_of_ne_true hc9) (gop_rf (ob_i (vPick_ef (decide_eq_false hc10) _ _) ?_)))))))))
 refine ob_i (vPick_ef (eq_false_of_ne_true hc9) _ _) (cnd_f1 (ob_i (vInt_add (by omega) (by omega)) ?_))
 have e3 : skF rnd r c l i k (i - 1 + (t : Int)) (k - 1 + (u : Int)) = 0 := by rw [skF_eq]; first | rw [if_pos (by omega)] | (rw [if_neg (by omega)]; first | rw [if_pos (by first | (left; assumption) | (right; omega))] | rw [if_neg (by rintro (h | h) <;> first | omega | exact absurd h (by assumption))])
 have eS : sumF (fun b => skF rnd r c l i k (i - 1 + (t : Int)) (k - 1 + b)) (u + 1) = sumF (fun b => skF rnd r c l i k (i - 1 + (t : Int)) (k - 1 + b)) u + skF rnd r c l i k (i - 1 + (t : Int)) (k - 1 + (u : Int)) := rfl
 exact nxt (3 - (u + 1)) (by omega) ⟨u + 1, rfl, by omega, g0L5, g1L5, g2L5, g3L5, (g9L5.trans (congrArg (Value.int .i64) (by first | omega | rfl | (simp; done)))), g10L5, (congrArg (Value.int .i64) (by first | omega | rfl | (simp; done))), lE⟩
 refine hQF hc7 (hQF hc7 (hQF hc7 (ob_i (vPick_ef (decide_eq_false hc7) _ _) (cnd_f1 ?_))))
 by_cases hc12 : (rnd) = true
 refine gop_e (hc12) (gop_st (gop_e (hc12) (gop_st (gop_e (hc12) (gop_st (gop_e (hc12) (gop_st (gop_e (hc12) (gop_st ?_)))))))))
 refine gop_e (hc12) (gop_st (gop_e (hc12) (gop_st (gop_e (hc12) (gop_st (gop_u (gop_u (gop_u (gop_u ?_)))))))))
 refine gop_u (gop_u (gop_u (gop_e (hc12) (gop_st (ob_i (vPick_et (hc12) _ _) (cnd_t1 (ob_i ((hp0.le lE).nilC) (ob_i ((hp0.le lE).fa 2) (ob_i ((hp0.le lE).ld 2 rfl) (C.c9 (hp0.le lE) (by first | omega | assumption) ?_))))))))))
 refine ⟨Le.refl _, ?_⟩
 refine ob_i ((hvc0.le lE).ix (by omega) (by omega)) (ob_i ((hvc0.le lE).ld 0 (by omega) (by omega)) (ob_i (vInt_add (by omega) (by omega)) (ob_i (vInt_add (by omega) (by omega)) ?_)))
 have e3 : skF rnd r c l i k (i - 1 + (t : Int)) (k - 1 + (u : Int)) = at_ 0 l (roundF r c (i - 1 + (t : Int)) (k - 1 + (u : Int))) := by rw [skF_eq]; first | rw [if_pos (by omega)] | (rw [if_neg (by omega)]; first | rw [if_pos (by first | (left; assumption) | (right; omega))] | rw [if_neg (by rintro (h | h) <;> first | omega | exact absurd h (by assumption))])
 have eS : sumF (fun b => skF rnd r c l i k (i - 1 + (t : Int)) (k - 1 + b)) (u + 1) = sumF (fun b => skF rnd r c l i k (i - 1 + (t : Int)) (k - 1 + b)) u + skF rnd r c l i k (i - 1 + (t : Int)) (k - 1 + (u : Int)) := rfl
 exact nxt (3 - (u + 1)) (by omega) ⟨u + 1, rfl, by omega, g0L5, g1L5, g2L5, g3L5, (congrArg (Value.int .i64) (by first | omega | rfl | (simp; done))), g10L5, (congrArg (Value.int .i64) (by first | omega | rfl | (simp; done))), lE⟩
 refine gop_e (eq_false_of_ne_true hc12) (gop_rf (gop_e (eq_false_of_ne_true hc12) (gop_rf (gop_e (eq_false_of_ne_true hc12) (gop_rf (ob_i ((hp0.le lE).nilC) (gop_e (eq_false_of_ne_true hc12) (gop_rf (ob_i ((hp0.le lE).fa 0) ?_)))))))))
 refine gop_e (eq_false_of_ne_true hc12) (gop_rf (ob_i ((hp0.le lE).ld 0 rfl) (gop_e (eq_false_of_ne_true hc12) (gop_rf (ob_i (vInt_sub (by omega) (by omega)) (gop_e (eq_false_of_ne_true hc12) (gop_rf (C.c0  ?_))))))))
 refine gop_e (eq_false_of_ne_true hc12) (gop_rf ?_)
 by_cases hc13 : 0 ≤ (i - 1 + (t : Int)) ∧ (i - 1 + (t : Int)) ≤ (r - 1)
 refine gQT hc13 (gQT hc13 (gQT hc13 (ob_i ((hp0.le lE).nilC) (gQT hc13 (ob_i ((hp0.le lE).fa 1) (gQT hc13 (ob_i ((hp0.le lE).ld 1 rfl) (gQT hc13 (ob_i (vInt_sub (by omega) (by omega)) ?_)))))))))
 refine gQT hc13 (C.c0  ?_)
 refine gop_e (eq_false_of_ne_true hc12) (gop_rf (ob_i (vPick_et (decide_eq_true hc13) _ _) (ob_i (vPick_ef (eq_false_of_ne_true hc12) _ _) (cnd_d (fun hg14 => ?_) (fun hg14 => ?_)))))
 refine ob_i ((hp0.le lE).nilC) (ob_i ((hp0.le lE).fa 2) (ob_i ((hp0.le lE).ld 2 rfl) (C.c9 (hp0.le lE) (by first | omega | assumption) ?_)))
 refine ⟨Le.refl _, ?_⟩
 refine ob_i ((hvc0.le lE).ix (by omega) (by omega)) (ob_i ((hvc0.le lE).ld 0 (by omega) (by omega)) (ob_i (vInt_add (by omega) (by omega)) (ob_i (vInt_add (by omega) (by omega)) ?_)))
 have e3 : skF rnd r c l i k (i - 1 + (t : Int)) (k - 1 + (u : Int)) = at_ 0 l (roundF r c (i - 1 + (t : Int)) (k - 1 + (u : Int))) := by rw [skF_eq]; first | rw [if_pos (by omega)] | (rw [if_neg (by omega)]; first | rw [if_pos (by first | (left; assumption) | (right; omega))] | rw [if_neg (by rintro (h | h) <;> first | omega | exact absurd h (by assumption))])
 have eS : sumF (fun b => skF rnd r c l i k (i - 1 + (t : Int)) (k - 1 + b)) (u + 1) = sumF (fun b => skF rnd r c l i k (i - 1 + (t : Int)) (k - 1 + b)) u + skF rnd r c l i k (i - 1 + (t : Int)) (k - 1 + (u : Int)) := rfl
 exact nxt (3 - (u + 1)) (by omega) ⟨u + 1, rfl, by omega, g0L5, g1L5, g2L5, g3L5, (congrArg (Value.int .i64) (by first | omega | rfl | (simp; done))), g10L5, (congrArg (Value.int .i64) (by first | omega | rfl | (simp; done))), lE⟩
 refine ob_i (vInt_add (by omega) (by omega)) ?_
 have e3 : skF rnd r c l i k (i - 1 + (t : Int)) (k - 1 + (u : Int)) = 0 := by rw [skF_eq]; first | rw [if_pos (by omega)] | (rw [if_neg (by omega)]; first | rw [if_pos (by first | (left; assumption) | (right; omega))] | rw [if_neg (by rintro (h | h) <;> first | omega | exact absurd h (by assumption))])
 have eS : sumF (fun b => skF rnd r c l i k (i - 1 + (t : Int)) (k - 1 + b)) (u + 1) = sumF (fun b => skF rnd r c l i k (i - 1 + (t : Int)) (k - 1 + b)) u + skF rnd r c l i k (i - 1 + (t : Int)) (k - 1 + (u : Int)) := rfl
 exact nxt (3 - (u + 1)) (by omega) ⟨u + 1, rfl, by omega, g0L5, g1L5, g2L5, g3L5, (g9L5.trans (congrArg (Value.int .i64) (by first | omega | rfl | (simp; done)))), g10L5, (congrArg (Value.int .i64) (by first | omega | rfl | (simp; done))), lE⟩
 refine hQF hc13 (hQF hc13 (hQF hc13 (hQF hc13 (hQF hc13 (hQF hc13 (hQF hc13 (gop_e (eq_false_of_ne_true hc12) (gop_rf (ob_i (vPick_ef (decide_eq_false hc13) _ _) ?_)))))))))
 refine ob_i (vPick_ef (eq_false_of_ne_true hc12) _ _) (cnd_f1 (ob_i (vInt_add (by omega) (by omega)) ?_))
 have e3 : skF rnd r c l i k (i - 1 + (t : Int)) (k - 1 + (u : Int)) = 0 := by rw [skF_eq]; first | rw [if_pos (by omega)] | (rw [if_neg (by omega)]; first | rw [if_pos (by first | (left; assumption) | (right; omega))] | rw [if_neg (by rintro (h | h) <;> first | omega | exact absurd h (by assumption))])
 have eS : sumF (fun b => skF rnd r c l i k (i - 1 + (t : Int)) (k - 1 + b)) (u + 1) = sumF (fun b => skF rnd r c l i k (i - 1 + (t : Int)) (k - 1 + b)) u + skF rnd r c l i k (i - 1 + (t : Int)) (k - 1 + (u : Int)) := rfl
 exact nxt (3 - (u + 1)) (by omega) ⟨u + 1, rfl, by omega, g0L5, g1L5, g2L5, g3L5, (g9L5.trans (congrArg (Value.int .i64) (by first | omega | rfl | (simp; done)))), g10L5, (congrArg (Value.int .i64) (by first | omega | rfl | (simp; done))), lE⟩
 have tu := hg6
 obtain rfl : u = 3 := by omega
 exact hJ4 _ _ ⟨g0L5, g1L5, g2L5, g3L5, (g9L5.trans (congrArg (Value.int .i64) (by first | omega | rfl | (simp; done)))), g10L5, lE⟩
 have tt := hg3
 obtain rfl : t = 3 := by omega
 exact hJ1 _ _ ⟨(g9L2.trans (congrArg (Value.int .i64) (by first | omega | rfl | (simp; done)))), lE⟩

theorem C.c31 {H : Hp} {K : Value → Hp → Prop} (hc : Sl eI H vc l) (hs : sidesF r c) (hl : (l.length : Int) = r * c) (i0 : -1000 ≤ i) (i1 : i ≤ 1000) (k0 : -1000 ≤ k) (k1 : k ≤ 1000)
    (hk : ∀ H', Le H H' → K (.int .i64 (lkF rnd r c l i k)) H') : HT prg 155 [.agg #[.int .i64 r, .int .i64 c, vc], .int .i64 i, .int .i64 k, .bool rnd].toArray H K := by
  cases rnd with
  | true => exact C.c12 hc hs hl i0 i1 k0 k1 hk
  | false => exact C.c15 hc hs hl hk
theorem C.c32  {H : Hp} {K : Value → Hp → Prop} (hvc0 : Sl eI H vc l) (hf : fieldN 1 r c l) (i0 : 0 ≤ i) (i1 : i < r) (j0 : 0 ≤ k) (j1 : k < c)
    (hk : ∀ H', Le H H' → K (.int .i64 (arF rnd r c l i k)) H') : HT prg 142 [(.agg #[(.int .i64 (r)), (.int .i64 (c)), vc]), (.int .i64 (i)), (.int .i64 (k)), (.bool (rnd))].toArray H K := by
 have lE := Le.refl H
 refine R.q142 ?_
 unfold F.q142
 have hs := hf.1
 have hl := hf.2.1
 have q1 := hs.1
 have q2 := hs.2
 have qm := sidesF_mul hs
 have x1 := ix_lt (a := i) (b := k) (r := r) (c := c) (by omega) (by omega) (by omega) (by omega)
 have cA := fieldN_at hf (i := i * c + k) (by omega) (by omega)
 have z0 := sumF_zero (fun a => sumF (fun b => lkF rnd r c l (i - 1 + a) (k - 1 + b)) 3)
 refine nw_i (fun p1 H2 op1 nn3 le4 => ?_)
 replace op1 : Cel H2 p1 [(.int .i64 (r)), (.int .i64 (c)), vc] := op1
 refine ob_i (op1.ldn rfl) ?_
 replace lE := lE.trans le4
 refine C.c11 (hvc0.le lE) (by first | omega | assumption) (by first | omega | assumption) (by first | omega | assumption) (by first | omega | assumption) (by first | omega | assumption) (fun   H5    le6 => ?_)
 refine ob_i (vUn_ngK (by omega) (by omega)) (jn_i (fun σ' H' => σ' 9 = (.int .i64 (arF rnd r c l i k)) ∧ Cel H' p1 [(.int .i64 (r)), (.int .i64 (c)), vc] ∧ Le H H') (fun σ7 H7 hP => ?_) (fun J7 hJ7 => ?_))
 replace op1 := op1.le le6
 replace lE := lE.trans le6
 obtain ⟨g9L7, op1, lE⟩ := hP
 try simp only [g9L7]
 exact hk   _    lE
 refine ob_i (vInt_sub (by omega) (by omega)) ?_
 replace op1 := op1.le le6
 replace lE := lE.trans le6
 refine ⟨fun n' σ' H' => ∃ t : Nat, n' = 3 - t ∧ t ≤ 3 ∧ σ' 1 = (.int .i64 (i)) ∧ σ' 2 = (.int .i64 (k)) ∧ σ' 3 = (.bool (rnd)) ∧ σ' 4 = p1 ∧ σ' 9 = (.int .i64 (-at_ 0 l (i * c + k) + sumF (fun a => sumF (fun b => lkF rnd r c l (i - 1 + a) (k - 1 + b)) 3) t)) ∧ σ' 10 = (.int .i64 (i - 1 + (t : Int))) ∧ Cel H' p1 [(.int .i64 (r)), (.int .i64 (c)), vc] ∧ Le H H',
    ⟨_, 0, rfl, by omega, rfl, rfl, rfl, rfl, (congrArg (Value.int .i64) (by first | omega | rfl | (simp; done))), (congrArg (Value.int .i64) (by first | omega | rfl | (simp; done))), op1, lE⟩, ?_⟩
 rintro n8 σ8 H8 ⟨t, rfl, htN, g1L8, g2L8, g3L8, g4L8, g9L8, g10L8, op1, lE⟩
 try simp only [g1L8, g2L8, g3L8, g4L8, g9L8, g10L8]
 have bO := sumF_bnd (f := fun a => sumF (fun b => lkF rnd r c l (i - 1 + a) (k - 1 + b)) 3) (a := 0) (b := 3) (fun a => by have := sumF_bnd (f := fun b => lkF rnd r c l (i - 1 + a) (k - 1 + b)) (fun b => lkF_01 hf _ _) 3; omega) t
 have zI := sumF_zero (fun b => lkF rnd r c l (i - 1 + (t : Int)) (k - 1 + b))
 refine ob_i (vInt_add (by omega) (by omega)) (ob_i (vInt_leq _ _ _) (cnd_d (fun hg9 => ?_) (fun hg9 => ?_)))
 have tt := hg9
 refine jn_i (fun σ' H' => σ' 1 = (.int .i64 (i)) ∧ σ' 2 = (.int .i64 (k)) ∧ σ' 3 = (.bool (rnd)) ∧ σ' 4 = p1 ∧ σ' 9 = (.int .i64 (-at_ 0 l (i * c + k) + sumF (fun a => sumF (fun b => lkF rnd r c l (i - 1 + a) (k - 1 + b)) 3) (t + 1))) ∧ σ' 10 = (.int .i64 (i - 1 + (t : Int))) ∧ Cel H' p1 [(.int .i64 (r)), (.int .i64 (c)), vc] ∧ Le H H') (fun σ10 H10 hP => ?_) (fun J10 hJ10 => ?_)
 obtain ⟨g1L10, g2L10, g3L10, g4L10, g9L10, g10L10, op1, lE⟩ := hP
 try simp only [g10L10]
 refine ob_i (vInt_add (by omega) (by omega)) ?_
 exact nxt (3 - (t + 1)) (by omega) ⟨t + 1, rfl, by omega, g1L10, g2L10, g3L10, g4L10, (g9L10.trans (congrArg (Value.int .i64) (by first | omega | rfl | (simp; done)))), (congrArg (Value.int .i64) (by first | omega | rfl | (simp; done))), op1, lE⟩
 refine ob_i (vInt_sub (by omega) (by omega)) ?_
 refine ⟨fun n' σ' H' => ∃ u : Nat, n' = 3 - u ∧ u ≤ 3 ∧ σ' 1 = (.int .i64 (i)) ∧ σ' 2 = (.int .i64 (k)) ∧ σ' 3 = (.bool (rnd)) ∧ σ' 4 = p1 ∧ σ' 9 = (.int .i64 (-at_ 0 l (i * c + k) + sumF (fun a => sumF (fun b => lkF rnd r c l (i - 1 + a) (k - 1 + b)) 3) t + sumF (fun b => lkF rnd r c l (i - 1 + (t : Int)) (k - 1 + b)) u)) ∧ σ' 10 = (.int .i64 (i - 1 + (t : Int))) ∧ σ' 11 = (.int .i64 (k - 1 + (u : Int))) ∧ Cel H' p1 [(.int .i64 (r)), (.int .i64 (c)), vc] ∧ Le H H',
    ⟨_, 0, rfl, by omega, g1L8, g2L8, g3L8, g4L8, (g9L8.trans (congrArg (Value.int .i64) (by first | omega | rfl | (simp; done)))), g10L8, (congrArg (Value.int .i64) (by first | omega | rfl | (simp; done))), op1, lE⟩, ?_⟩
 rintro n11 σ11 H11 ⟨u, rfl, huN, g1L11, g2L11, g3L11, g4L11, g9L11, g10L11, g11L11, op1, lE⟩
 try simp only [g2L11, g3L11, g4L11, g9L11, g10L11, g11L11]
 have bI := sumF_bnd (f := fun b => lkF rnd r c l (i - 1 + (t : Int)) (k - 1 + b)) (fun b => lkF_01 hf _ _) u
 have bV := lkF_01 (rnd := rnd) hf (i - 1 + (t : Int)) (k - 1 + (u : Int))
 refine ob_i (vInt_add (by omega) (by omega)) (ob_i (vInt_leq _ _ _) (cnd_d (fun hg12 => ?_) (fun hg12 => ?_)))
 have tu := hg12
 refine ob_i (op1.ldn rfl) (C.c31 (hvc0.le lE) (by first | omega | assumption) (by first | omega | assumption) (by first | omega | assumption) (by first | omega | assumption) (by first | omega | assumption) (by first | omega | assumption) (fun   H13    le14 => ?_))
 refine ob_i (vInt_add (by omega) (by omega)) (ob_i (vInt_add (by omega) (by omega)) ?_)
 have eS := sumF_succ (fun b => lkF rnd r c l (i - 1 + (t : Int)) (k - 1 + b)) u
 replace op1 := op1.le le14
 replace lE := lE.trans le14
 exact nxt (3 - (u + 1)) (by omega) ⟨u + 1, rfl, by omega, g1L11, g2L11, g3L11, g4L11, (congrArg (Value.int .i64) (by first | omega | rfl | (simp; done))), g10L11, (congrArg (Value.int .i64) (by first | omega | rfl | (simp; done))), op1, lE⟩
 have tu := hg12
 obtain rfl : u = 3 := by omega
 have eO := sumF_succ (fun a => sumF (fun b => lkF rnd r c l (i - 1 + a) (k - 1 + b)) 3) t
 exact hJ10 _ _ ⟨g1L11, g2L11, g3L11, g4L11, (g9L11.trans (congrArg (Value.int .i64) (by first | omega | rfl | (simp; done)))), g10L11, op1, lE⟩
 have tt := hg9
 obtain rfl : t = 3 := by omega
 have eA := arF_eq (rnd := rnd) (l := l) i0 i1 j0 j1
 exact hJ7 _ _ ⟨(g9L8.trans (congrArg (Value.int .i64) (by first | omega | rfl | (simp; done)))), op1, lE⟩

theorem C.c33 {n : Int}  {H : Hp} {K : Value → Hp → Prop} (hvb0 : Sl eI H vb b) (hvs0 : Sl eI H vs s) (kb : b.length ≤ 9223372036854775807) (ks : s.length ≤ 9223372036854775807)
    (hk : ∀ H', Le H H' → K (.int .i64 (if x = 0 then (if n ∈ b then 1 else 0) else (if n ∈ s then 1 else 0))) H') : HT prg 141 [(.agg #[vb, vs]), (.int .i64 (x)), (.int .i64 (n))].toArray H K := by
 have lE := Le.refl H
 refine R.q141 ?_
 unfold F.q141
 refine nw_i (fun p1 H2 op1 nn3 le4 => ?_)
 replace op1 : Cel H2 p1 [vb, vs] := op1
 refine ob_i (vInt_eql _ _ _) (cnd_d (fun hg5 => ?_) (fun hg5 => ?_))
 refine ob_i (op1.fa 0) (ob_i (op1.ld 0 rfl) ?_)
 replace lE := lE.trans le4
 refine C.c28 (hvb0.le lE) (by first | omega | assumption) (fun   H6    le7 => ?_)
 refine C.c29  ?_
 replace lE := lE.trans le7
 exact keq (K := K) (by rw [show ((if x = 0 then (if n ∈ b then 1 else 0) else (if n ∈ s then 1 else 0)) : Int) = (if (decide (n ∈ b)) = true then 1 else 0) from by simp only [ hg5, if_true, if_false, decide_eq_true_eq]]) (hk   _    lE)
 refine ob_i (op1.fa 1) (ob_i (op1.ld 1 rfl) ?_)
 replace lE := lE.trans le4
 refine C.c28 (hvs0.le lE) (by first | omega | assumption) (fun   H8    le9 => ?_)
 refine C.c29  ?_
 replace lE := lE.trans le9
 exact keq (K := K) (by rw [show ((if x = 0 then (if n ∈ b then 1 else 0) else (if n ∈ s then 1 else 0)) : Int) = (if (decide (n ∈ s)) = true then 1 else 0) from by simp only [ hg5, if_true, if_false, decide_eq_true_eq]]) (hk   _    lE)

theorem C.c34 {g : Value}  {H : Hp} {K : Value → Hp → Prop} (hw0 : Cel H w [vb, vs]) (hp0 : Cel H p [(.int .i64 (r)), (.int .i64 (c)), vc]) (hg0 : Cel H g [(.bool (rnd))]) (hvb0 : Sl eI H vb b) (hvs0 : Sl eI H vs s) (hvc0 : Sl eI H vc l) (hf : fieldN 1 r c l) (kb : b.length ≤ 9223372036854775807) (ks : s.length ≤ 9223372036854775807) (i0 : 0 ≤ i) (i1 : i < r) (j0 : 0 ≤ k) (j1 : k < c)
    (hk : ∀ H', Le H H' → K (.int .i64 (nxG rnd b s r c l i k)) H') : HT prg 140 [(.int .i64 (i)), (.int .i64 (k)), w, p, g].toArray H K := by
 have lE := Le.refl H
 refine R.q140 ?_
 unfold F.q140
 have hs := hf.1
 have hl := hf.2.1
 have q1 := hs.1
 have q2 := hs.2
 have qm := sidesF_mul hs
 have x1 := ix_lt (a := i) (b := k) (r := r) (c := c) (by omega) (by omega) (by omega) (by omega)
 refine ob_i ((hw0.le lE).ldn rfl) (ob_i ((hp0.le lE).ldn rfl) (ob_i ((hp0.le lE).ldn rfl) (ob_i ((hg0.le lE).ld0 rfl) (C.c11 (hvc0.le lE) (by first | omega | assumption) (by first | omega | assumption) (by first | omega | assumption) (by first | omega | assumption) (by first | omega | assumption) (fun   H1    le2 => ?_)))))
 refine ⟨le2, ?_⟩
 replace lE := lE.trans le2
 refine C.c32 (hvc0.le lE) (by first | omega | assumption) (by first | omega | assumption) (by first | omega | assumption) (by first | omega | assumption) (by first | omega | assumption) (fun   H3    le4 => ?_)
 refine ⟨le4, ?_⟩
 replace lE := lE.trans le4
 refine C.c33 (hvb0.le lE) (hvs0.le lE) (by first | omega | assumption) (by first | omega | assumption) (fun   H5    le6 => ?_)
 refine ⟨le6, ?_⟩
 replace lE := lE.trans le6
 exact keq (K := K) (by rw [show ((if (at_ 0 l (i * c + k)) = 0 then (if (arF rnd r c l i k) ∈ b then 1 else 0) else (if (arF rnd r c l i k) ∈ s then 1 else 0)) : Int) = (nxG rnd b s r c l i k) from by rfl]) (hk   _    lE)

theorem C.c35  {H : Hp} {K : Value → Hp → Prop} (hvb0 : Sl eI H vb b) (hvs0 : Sl eI H vs s) (hvc0 : Sl eI H vc l) (hf : fieldN 1 r c l) (kb : b.length ≤ 9223372036854775807) (ks : s.length ≤ 9223372036854775807)
    (hk : ∀ u1 H', Own eI H' u1 (nxL rnd b s r c l) → Nw H u1 → Le H H' → K (.agg #[(.int .i64 (r)), (.int .i64 (c)), u1]) H') : HT prg 109 [(.agg #[vb, vs]), (.agg #[(.int .i64 (r)), (.int .i64 (c)), vc]), (.bool (rnd))].toArray H K := by
 have lE := Le.refl H
 refine R.q109 ?_
 unfold F.q109
 have hs := hf.1
 have hl := hf.2.1
 have q1 := hs.1
 have q2 := hs.2
 have qm := sidesF_mul hs
 refine nw_i (fun p1 H2 op1 nn3 le4 => ?_)
 replace op1 : Cel H2 p1 [vb, vs] := op1
 refine nw_i (fun p5 H6 op5 nn7 le8 => ?_)
 replace op5 : Cel H6 p5 [(.int .i64 (r)), (.int .i64 (c)), vc] := op5
 refine nw_i (fun p9 H10 op9 nn11 le12 => ?_)
 replace op9 : Cel H10 p9 [(.bool (rnd))] := op9
 refine nw_i (fun p13 H14 op13 nn15 le16 => ?_)
 replace lE := ((lE.trans le4).trans le8).trans le12
 have np13 := nn15.le lE
 replace op13 : Cel H14 p13 [(.int .i64 (0)), (.int .i64 (0)), (.slice none 0 0)] := op13
 replace op5 := (op5.le le12).le le16
 refine ob_i (op5.fa 0) (ob_i (op5.ld 0 rfl) (ob_i (op5.fa 1) (ob_i (op5.ld 1 rfl) (C.c13 (g := nxG rnd b s r c l) (by omega) (by omega) (by omega) (by omega) (fun H21c i21 k21 Z leZ hi21 hk21 hZ => ?_) (fun u17 H18 ou17 nn19 le20 => ?_)))))
 refine ⟨by kernel_rfl, ?_⟩
 have lZ := Le.refl H21c
 replace op1 := (((op1.le le8).le le12).le le16).le leZ
 replace op9 := (op9.le le16).le leZ
 replace lE := (lE.trans le16).trans leZ
 replace op5 := op5.le leZ
 refine C.c34 op1 op5 op9 (hvb0.le lE) (hvs0.le lE) (hvc0.le lE) (by first | omega | assumption) (by first | omega | assumption) (by first | omega | assumption) (by first | omega | assumption) (by first | omega | assumption) (by first | omega | assumption) (by first | omega | assumption) (fun   H22    le23 => ?_)
 replace lZ := lZ.trans le23
 exact keq (K := Z) (by rw [show ((nxG rnd b s r c l (i21 : Int) (k21 : Int)) : Int) = (nxG rnd b s r c l) (i21 : Int) (k21 : Int) from rfl]) (hZ _ lZ)
 have ap13Xu17 := op13.apart nn19
 replace lE := lE.trans le16
 have nu17 := nn19.le lE
 replace op13 := op13.le le20
 refine op13.stn (ws := [(.int .i64 (r)), (.int .i64 (c)), u17]) rfl rfl (oc1 rfl (oc1 rfl (oc1 ou17.one oc0))) (fun H24 op13 off25 => ?_)
 refine ob_i (op13.ldn rfl) ?_
 replace lE := off25.le (lE.trans le20) np13
 replace ou17 := ou17.off off25 ap13Xu17.symm
 exact hk  u17 _ (Own.cast (show mkL (c) (nxG rnd b s r c l) ((r : Int).toNat * (c : Int).toNat) = nxL rnd b s r c l by first | rfl | simp) ou17) nu17  lE

theorem C.c36  {H : Hp} {K : Value → Hp → Prop} (hw0 : Cel H w [vb, vs]) (hp0 : Cel H p [(.int .i64 (r)), (.int .i64 (c)), vc]) (hvb0 : Sl eI H vb b) (hvs0 : Sl eI H vs s) (hvc0 : Sl eI H vc l) (hf : fieldN 1 r c l) (kb : b.length ≤ 9223372036854775807) (ks : s.length ≤ 9223372036854775807)
    (hk : ∀ u1 H', Own eI H' u1 (nxL rnd b s r c l) → Nw H u1 → Le H H' → K (.agg #[(.int .i64 (r)), (.int .i64 (c)), u1]) H') : HT prg 73 [w, p, (.bool (rnd))].toArray H K := by
 have lE := Le.refl H
 refine R.q73 ?_
 unfold F.q73
 have hs := hf.1
 have hl := hf.2.1
 have q1 := hs.1
 have q2 := hs.2
 have qm := sidesF_mul hs
 refine nw_i (fun p1 H2 op1 nn3 le4 => ?_)
 have np1 := nn3.le lE
 replace op1 : Cel H2 p1 [(.int .i64 (0)), (.int .i64 (0)), (.slice none 0 0)] := op1
 replace lE := lE.trans le4
 refine ob_i ((hp0.le lE).nilC) (ob_i ((hp0.le lE).fa 0) (ob_i ((hp0.le lE).ld 0 rfl) (ob_i ((hp0.le lE).nilC) (ob_i ((hp0.le lE).fa 1) (ob_i ((hp0.le lE).ld 1 rfl) (C.c16 (by first | omega | assumption) (by first | omega | assumption) (by first | omega | assumption) (by first | omega | assumption) (fun  u H5 ou nn7  le6 => ?_)))))))
 have ap1Xu := op1.apart nn7
 have nu := nn7.le lE
 refine ⟨le6, ?_⟩
 refine nw_i (fun p8 H9 op8 nn10 le11 => ?_)
 replace op1 := op1.le le6
 have ap1Xp8 := op1.apart nn10
 have auXp8 := ou.apart nn10
 replace lE := lE.trans le6
 have np8 := nn10.le lE
 replace ou := ou.le le11
 refine op8.stn (ws := [(.int .i64 (r)), (.int .i64 (c)), u]) rfl rfl (oc1 rfl (oc1 rfl (oc1 ou.one oc0))) (fun H12 op8 off13 => ?_)
 refine jn_i (fun σ' H' => σ' 6 = p1 ∧ σ' 7 = p8 ∧ Cel H' p1 [(.int .i64 (0)), (.int .i64 (0)), (.slice none 0 0)] ∧ Own eI H' u (nxL rnd b s r c l) ∧ Cel H' p8 [(.int .i64 (r)), (.int .i64 (c)), u] ∧ Le H H') (fun σ14 H14 hP => ?_) (fun J14 hJ14 => ?_)
 replace op1 := (op1.le le11).off off13 ap1Xp8
 replace lE := off13.le (lE.trans le11) np8
 replace ou := ou.off off13 auXp8
 obtain ⟨g6L14, g7L14, op1, ou, op8, lE⟩ := hP
 try simp only [g6L14, g7L14]
 refine ob_i (op8.ldn rfl) (op1.stn (ws := [(.int .i64 (r)), (.int .i64 (c)), u]) rfl rfl (oc1 rfl (oc1 rfl (oc1 ou.one oc0))) (fun H15 op1 off16 => ?_))
 refine ob_i (op1.ldn rfl) ?_
 replace ou := ou.off off16 ap1Xu.symm
 replace lE := off16.le lE np1
 exact hk  u _ ou nu  lE
 replace op1 := (op1.le le11).off off13 ap1Xp8
 replace lE := off13.le (lE.trans le11) np8
 replace ou := ou.off off13 auXp8
 refine ⟨fun n' σ' H' => ∃ i : Nat, n' = r.toNat - i ∧ i ≤ r.toNat ∧ σ' 0 = w ∧ σ' 1 = p ∧ σ' 2 = (.bool (rnd)) ∧ σ' 6 = p1 ∧ σ' 7 = p8 ∧ σ' 8 = (.int .i64 ((i : Int))) ∧ Cel H' p1 [(.int .i64 (0)), (.int .i64 (0)), (.slice none 0 0)] ∧ Own eI H' u (fillL c (nxG rnd b s r c l) (r.toNat * c.toNat) (i * c.toNat)) ∧ Cel H' p8 [(.int .i64 (r)), (.int .i64 (c)), u] ∧ Le H H',
    ⟨_, 0, rfl, by omega, rfl, rfl, rfl, rfl, rfl, (congrArg (Value.int .i64) (by first | omega | rfl | (simp; done))), op1, (by rw [Nat.zero_mul, fillL_zero]; exact ou), op8, lE⟩, ?_⟩
 rintro n17 σ17 H17 ⟨i, rfl, hiN, g0L17, g1L17, g2L17, g6L17, g7L17, g8L17, op1, ou, op8, lE⟩
 try simp only [g0L17, g1L17, g2L17, g6L17, g7L17, g8L17]
 refine ob_i ((hp0.le lE).nilC) (ob_i ((hp0.le lE).fa 0) (ob_i ((hp0.le lE).ld 0 rfl) (ob_i (vInt_lss _ _ _) (cnd_d (fun hg18 => ?_) (fun hg18 => ?_)))))
 have ti := hg18
 refine jn_i (fun σ' H' => σ' 0 = w ∧ σ' 1 = p ∧ σ' 2 = (.bool (rnd)) ∧ σ' 6 = p1 ∧ σ' 7 = p8 ∧ σ' 8 = (.int .i64 ((i : Int))) ∧ Cel H' p1 [(.int .i64 (0)), (.int .i64 (0)), (.slice none 0 0)] ∧ Own eI H' u (fillL c (nxG rnd b s r c l) (r.toNat * c.toNat) ((i + 1) * c.toNat)) ∧ Cel H' p8 [(.int .i64 (r)), (.int .i64 (c)), u] ∧ Le H H') (fun σ19 H19 hP => ?_) (fun J19 hJ19 => ?_)
 obtain ⟨g0L19, g1L19, g2L19, g6L19, g7L19, g8L19, op1, ou, op8, lE⟩ := hP
 try simp only [g6L19, g8L19]
 refine ob_i (vInt_add (by omega) (by omega)) ?_
 exact nxt (r.toNat - (i + 1)) (by omega) ⟨i + 1, rfl, by omega, g0L19, g1L19, g2L19, g6L19, g7L19, (congrArg (Value.int .i64) (by first | omega | rfl | (simp; done))), op1, ou, op8, lE⟩
 refine ⟨fun n' σ' H' => ∃ k : Nat, n' = c.toNat - k ∧ k ≤ c.toNat ∧ σ' 0 = w ∧ σ' 1 = p ∧ σ' 2 = (.bool (rnd)) ∧ σ' 6 = p1 ∧ σ' 7 = p8 ∧ σ' 8 = (.int .i64 ((i : Int))) ∧ σ' 9 = (.int .i64 ((k : Int))) ∧ Cel H' p1 [(.int .i64 (0)), (.int .i64 (0)), (.slice none 0 0)] ∧ Own eI H' u (fillL c (nxG rnd b s r c l) (r.toNat * c.toNat) (i * c.toNat + k)) ∧ Cel H' p8 [(.int .i64 (r)), (.int .i64 (c)), u] ∧ Le H H',
    ⟨_, 0, rfl, by omega, g0L17, g1L17, g2L17, g6L17, g7L17, g8L17, (congrArg (Value.int .i64) (by first | omega | rfl | (simp; done))), op1, ou, op8, lE⟩, ?_⟩
 rintro n20 σ20 H20 ⟨k, rfl, hkN, g0L20, g1L20, g2L20, g6L20, g7L20, g8L20, g9L20, op1, ou, op8, lE⟩
 try simp only [g0L20, g1L20, g2L20, g6L20, g7L20, g8L20, g9L20]
 refine ob_i ((hp0.le lE).nilC) (ob_i ((hp0.le lE).fa 1) (ob_i ((hp0.le lE).ld 1 rfl) (ob_i (vInt_lss _ _ _) (cnd_d (fun hg21 => ?_) (fun hg21 => ?_)))))
 have tk := hg21
 have x1 := ix_lt (a := (i : Int)) (b := (k : Int)) (r := r) (c := c) (by omega) (by omega) (by omega) (by omega)
 have x3 := fillL_len (c := c) (g := nxG rnd b s r c l) (rr := r) (cc := c) (t := i * c.toNat + k) (by omega) (by omega)
 have x4 := fieldN_at hf (i := (i : Int) * c + (k : Int)) (by omega) (by omega)
 refine C.c30 (hp0.le lE) (hvc0.le lE) (by first | omega | assumption) (by first | omega | assumption) (by first | omega | assumption) (by first | omega | assumption) (by first | omega | assumption) (fun   H22    le23 => ?_)
 replace lE := lE.trans le23
 refine ob_i ((hp0.le lE).nilC) (ob_i ((hp0.le lE).fa 1) (ob_i ((hp0.le lE).ld 1 rfl) (ob_i (vInt_mul (by omega) (by omega)) (ob_i (vInt_add (by omega) (by omega)) (ob_i ((hp0.le lE).nilC) (ob_i ((hp0.le lE).fa 2) (ob_i ((hp0.le lE).ld 2 rfl) (ob_i ((hvc0.le lE).ix (by omega) (by omega)) (ob_i ((hvc0.le lE).ld 0 (by omega) (by omega)) ?_)))))))))
 refine ob_i (vInt_eql _ _ _) ?_
 by_cases hc24 : (at_ 0 (l) (((i : Int) * c) + (k : Int))) = 0
 refine gQT hc24 (gQT hc24 (ob_i ((hw0.le lE).nilC) (gQT hc24 (ob_i ((hw0.le lE).fa 0) (gQT hc24 (ob_i ((hw0.le lE).ld 0 rfl) (gQT hc24 (gQT hc24 (C.c26 (hvb0.le lE) (by first | omega | assumption) (fun   H25    le26 => ?_))))))))))
 refine ob_i (vPick_et (decide_eq_true hc24) _ _) ?_
 by_cases hc27 : (arF rnd r c l (i : Int) (k : Int)) ∈ b
 refine hQT hc27 (hQT hc27 (hQT hc27 (hQT hc27 (hQT hc27 (hQT hc27 (hQT hc27 (hQT hc27 (hQT hc27 (gop_u ?_)))))))))
 refine gop_u (gop_u (gop_u (gop_u (gop_u (hQT hc27 (ob_i (vPick_et (decide_eq_true hc27) _ _) (cnd_t1 ?_)))))))
 replace op8 := (op8.le le23).le le26
 refine ob_i (op8.fa 2) (ob_i (op8.ld 2 rfl) ?_)
 replace ou := (ou.le le23).le le26
 refine ob_i (ou.sl.ix (by omega) (by omega)) (ou.st (x := 1) (by omega) (by omega) rfl rfl (fun H28 ou off29 => ?_))
 refine ob_i (vInt_add (by omega) (by omega)) ?_
 have eG : nxG rnd b s r c l (i : Int) (k : Int) = 1 := by first | exact nx_b1 (by assumption) (by assumption) | exact nx_s1 (by assumption) (by assumption) | (exfalso; omega)
 replace ou : Own eI H28 u (fillL c (nxG rnd b s r c l) (r.toNat * c.toNat) (i * c.toNat + (k + 1))) := by rw [← Nat.add_assoc, ← fillL_set (c := c) (g := nxG rnd b s r c l) (i := (i : Int)) (k := (k : Int)) (by omega) (by omega) (by omega) (cast_ix (by omega)) (by omega), eG]; exact ou
 replace op1 := ((op1.le le23).le le26).off off29 ap1Xu
 replace lE := off29.le (lE.trans le26) nu
 replace op8 := op8.off off29 auXp8.symm
 exact nxt (c.toNat - (k + 1)) (by omega) ⟨k + 1, rfl, by omega, g0L20, g1L20, g2L20, g6L20, g7L20, g8L20, (congrArg (Value.int .i64) (by first | omega | rfl | (simp; done))), op1, ou, op8, lE⟩
 refine gQF hc27 (gQF hc27 ?_)
 replace lE := lE.trans le26
 refine ob_i ((hp0.le lE).nilC) (gQF hc27 (ob_i ((hp0.le lE).fa 2) (gQF hc27 (ob_i ((hp0.le lE).ld 2 rfl) (gQF hc27 (gQF hc27 (ob_i ((hvc0.le lE).ix (by omega) (by omega)) (gQF hc27 (ob_i ((hvc0.le lE).ld 0 (by omega) (by omega)) ?_)))))))))
 refine gQF hc27 (ob_i (vInt_eql _ _ _) (gQF hc27 ?_))
 by_cases hc30 : (at_ 0 (l) (((i : Int) * c) + (k : Int))) = 1
 refine gQT hc30 (gQT hc30 (ob_i ((hw0.le lE).nilC) (gQT hc30 (ob_i ((hw0.le lE).fa 1) (gQT hc30 (ob_i ((hw0.le lE).ld 1 rfl) (gQT hc30 (gQT hc30 (C.c26 (hvs0.le lE) (by first | omega | assumption) (fun   H31    le32 => ?_))))))))))
 refine gQF hc27 (ob_i (vPick_et (decide_eq_true hc30) _ _) (ob_i (vPick_ef (decide_eq_false hc27) _ _) (cnd_d (fun hg33 => ?_) (fun hg33 => ?_))))
 replace op8 := ((op8.le le23).le le26).le le32
 refine ob_i (op8.fa 2) (ob_i (op8.ld 2 rfl) ?_)
 replace ou := ((ou.le le23).le le26).le le32
 refine ob_i (ou.sl.ix (by omega) (by omega)) (ou.st (x := 1) (by omega) (by omega) rfl rfl (fun H34 ou off35 => ?_))
 refine ob_i (vInt_add (by omega) (by omega)) ?_
 have eG : nxG rnd b s r c l (i : Int) (k : Int) = 1 := by first | exact nx_b1 (by assumption) (by assumption) | exact nx_s1 (by assumption) (by assumption) | (exfalso; omega)
 replace ou : Own eI H34 u (fillL c (nxG rnd b s r c l) (r.toNat * c.toNat) (i * c.toNat + (k + 1))) := by rw [← Nat.add_assoc, ← fillL_set (c := c) (g := nxG rnd b s r c l) (i := (i : Int)) (k := (k : Int)) (by omega) (by omega) (by omega) (cast_ix (by omega)) (by omega), eG]; exact ou
 replace op1 := (((op1.le le23).le le26).le le32).off off35 ap1Xu
 replace lE := off35.le (lE.trans le32) nu
 replace op8 := op8.off off35 auXp8.symm
 exact nxt (c.toNat - (k + 1)) (by omega) ⟨k + 1, rfl, by omega, g0L20, g1L20, g2L20, g6L20, g7L20, g8L20, (congrArg (Value.int .i64) (by first | omega | rfl | (simp; done))), op1, ou, op8, lE⟩
 refine ob_i (vInt_add (by omega) (by omega)) ?_
 have eG : nxG rnd b s r c l (i : Int) (k : Int) = 0 := by first | exact nx_b0 (by assumption) (by assumption) | exact nx_s0 (by assumption) (by assumption) | (exfalso; omega)
 replace ou := ((ou.le le23).le le26).le le32
 replace ou : Own eI H31 u (fillL c (nxG rnd b s r c l) (r.toNat * c.toNat) (i * c.toNat + (k + 1))) := by rw [← Nat.add_assoc, ← fillL_skip (c := c) (g := nxG rnd b s r c l) (i := (i : Int)) (k := (k : Int)) (by omega) (by omega) (by omega) (cast_ix (by omega)) eG]; exact ou
 replace op1 := ((op1.le le23).le le26).le le32
 replace op8 := ((op8.le le23).le le26).le le32
 replace lE := lE.trans le32
 exact nxt (c.toNat - (k + 1)) (by omega) ⟨k + 1, rfl, by omega, g0L20, g1L20, g2L20, g6L20, g7L20, g8L20, (congrArg (Value.int .i64) (by first | omega | rfl | (simp; done))), op1, ou, op8, lE⟩
 refine hQF hc30 (hQF hc30 (hQF hc30 (hQF hc30 (hQF hc30 (hQF hc30 (gQF hc27 (ob_i (vPick_ef (decide_eq_false hc30) _ _) (ob_i (vPick_ef (decide_eq_false hc27) _ _) (cnd_f1 ?_)))))))))
 refine ob_i (vInt_add (by omega) (by omega)) ?_
 have eG : nxG rnd b s r c l (i : Int) (k : Int) = 0 := by first | exact nx_b0 (by assumption) (by assumption) | exact nx_s0 (by assumption) (by assumption) | (exfalso; omega)
 replace ou := (ou.le le23).le le26
 replace ou : Own eI H25 u (fillL c (nxG rnd b s r c l) (r.toNat * c.toNat) (i * c.toNat + (k + 1))) := by rw [← Nat.add_assoc, ← fillL_skip (c := c) (g := nxG rnd b s r c l) (i := (i : Int)) (k := (k : Int)) (by omega) (by omega) (by omega) (cast_ix (by omega)) eG]; exact ou
 replace op1 := (op1.le le23).le le26
 replace op8 := (op8.le le23).le le26
 exact nxt (c.toNat - (k + 1)) (by omega) ⟨k + 1, rfl, by omega, g0L20, g1L20, g2L20, g6L20, g7L20, g8L20, (congrArg (Value.int .i64) (by first | omega | rfl | (simp; done))), op1, ou, op8, lE⟩
 refine hQF hc24 (hQF hc24 (hQF hc24 (hQF hc24 (hQF hc24 (hQF hc24 (ob_i (vPick_ef (decide_eq_false hc24) _ _) (gop_rf (gop_rf (ob_i ((hp0.le lE).nilC) ?_)))))))))
 refine gop_rf (ob_i ((hp0.le lE).fa 2) (gop_rf (ob_i ((hp0.le lE).ld 2 rfl) (gop_rf (gop_rf (ob_i ((hvc0.le lE).ix (by omega) (by omega)) (gop_rf (ob_i ((hvc0.le lE).ld 0 (by omega) (by omega)) (gop_rf ?_)))))))))
 refine ob_i (vInt_eql _ _ _) (gop_rf ?_)
 by_cases hc36 : (at_ 0 (l) (((i : Int) * c) + (k : Int))) = 1
 refine gQT hc36 (gQT hc36 (ob_i ((hw0.le lE).nilC) (gQT hc36 (ob_i ((hw0.le lE).fa 1) (gQT hc36 (ob_i ((hw0.le lE).ld 1 rfl) (gQT hc36 (gQT hc36 (C.c26 (hvs0.le lE) (by first | omega | assumption) (fun   H37    le38 => ?_))))))))))
 refine gop_rf (ob_i (vPick_et (decide_eq_true hc36) _ _) (ob_i (vPick_f _ _) (cnd_d (fun hg39 => ?_) (fun hg39 => ?_))))
 replace op8 := (op8.le le23).le le38
 refine ob_i (op8.fa 2) (ob_i (op8.ld 2 rfl) ?_)
 replace ou := (ou.le le23).le le38
 refine ob_i (ou.sl.ix (by omega) (by omega)) (ou.st (x := 1) (by omega) (by omega) rfl rfl (fun H40 ou off41 => ?_))
 refine ob_i (vInt_add (by omega) (by omega)) ?_
 have eG : nxG rnd b s r c l (i : Int) (k : Int) = 1 := by first | exact nx_b1 (by assumption) (by assumption) | exact nx_s1 (by assumption) (by assumption) | (exfalso; omega)
 replace ou : Own eI H40 u (fillL c (nxG rnd b s r c l) (r.toNat * c.toNat) (i * c.toNat + (k + 1))) := by rw [← Nat.add_assoc, ← fillL_set (c := c) (g := nxG rnd b s r c l) (i := (i : Int)) (k := (k : Int)) (by omega) (by omega) (by omega) (cast_ix (by omega)) (by omega), eG]; exact ou
 replace op1 := ((op1.le le23).le le38).off off41 ap1Xu
 replace lE := off41.le (lE.trans le38) nu
 replace op8 := op8.off off41 auXp8.symm
 exact nxt (c.toNat - (k + 1)) (by omega) ⟨k + 1, rfl, by omega, g0L20, g1L20, g2L20, g6L20, g7L20, g8L20, (congrArg (Value.int .i64) (by first | omega | rfl | (simp; done))), op1, ou, op8, lE⟩
 refine ob_i (vInt_add (by omega) (by omega)) ?_
 have eG : nxG rnd b s r c l (i : Int) (k : Int) = 0 := by first | exact nx_b0 (by assumption) (by assumption) | exact nx_s0 (by assumption) (by assumption) | (exfalso; omega)
 replace ou := (ou.le le23).le le38
 replace ou : Own eI H37 u (fillL c (nxG rnd b s r c l) (r.toNat * c.toNat) (i * c.toNat + (k + 1))) := by rw [← Nat.add_assoc, ← fillL_skip (c := c) (g := nxG rnd b s r c l) (i := (i : Int)) (k := (k : Int)) (by omega) (by omega) (by omega) (cast_ix (by omega)) eG]; exact ou
 replace op1 := (op1.le le23).le le38
 replace op8 := (op8.le le23).le le38
 replace lE := lE.trans le38
 exact nxt (c.toNat - (k + 1)) (by omega) ⟨k + 1, rfl, by omega, g0L20, g1L20, g2L20, g6L20, g7L20, g8L20, (congrArg (Value.int .i64) (by first | omega | rfl | (simp; done))), op1, ou, op8, lE⟩
 refine hQF hc36 (hQF hc36 (hQF hc36 (hQF hc36 (hQF hc36 (hQF hc36 (gop_rf (ob_i (vPick_ef (decide_eq_false hc36) _ _) (ob_i (vPick_f _ _) (cnd_f1 ?_)))))))))
 refine ob_i (vInt_add (by omega) (by omega)) ?_
 have eG : nxG rnd b s r c l (i : Int) (k : Int) = 0 := by first | exact nx_b0 (by assumption) (by assumption) | exact nx_s0 (by assumption) (by assumption) | (exfalso; omega)
 replace ou := ou.le le23
 replace ou : Own eI H22 u (fillL c (nxG rnd b s r c l) (r.toNat * c.toNat) (i * c.toNat + (k + 1))) := by rw [← Nat.add_assoc, ← fillL_skip (c := c) (g := nxG rnd b s r c l) (i := (i : Int)) (k := (k : Int)) (by omega) (by omega) (by omega) (cast_ix (by omega)) eG]; exact ou
 replace op1 := op1.le le23
 replace op8 := op8.le le23
 exact nxt (c.toNat - (k + 1)) (by omega) ⟨k + 1, rfl, by omega, g0L20, g1L20, g2L20, g6L20, g7L20, g8L20, (congrArg (Value.int .i64) (by first | omega | rfl | (simp; done))), op1, ou, op8, lE⟩
 have tk := hg21
 rw [show i * c.toNat + k = (i + 1) * c.toNat by rw [Nat.add_mul, Nat.one_mul]; omega] at ou
 exact hJ19 _ _ ⟨g0L20, g1L20, g2L20, g6L20, g7L20, g8L20, op1, ou, op8, lE⟩
 have ti := hg18
 rw [fillL_end (by rw [show i = r.toNat by omega]; exact Nat.le_refl _)] at ou
 exact hJ14 _ _ ⟨g6L17, g7L17, op1, ou, op8, lE⟩

theorem C.c37  {H : Hp} {K : Value → Hp → Prop} (hw0 : Cel H w [vb, vs]) (hp0 : Cel H p [(.int .i64 (r)), (.int .i64 (c)), vc]) (hvb0 : Sl eI H vb b) (hvs0 : Sl eI H vs s) (hvc0 : Sl eI H vc l) (hf : fieldN 1 r c l) (kb : b.length ≤ 9223372036854775807) (ks : s.length ≤ 9223372036854775807) (st0 : 0 ≤ st) (st1 : st ≤ 1000)
    (hk : ∀ u1 H', Own eI H' u1 (rnL rnd b s r c l st.toNat) → Nw H u1 → Le H H' → K (.agg #[(.int .i64 (r)), (.int .i64 (c)), u1]) H') : HT prg 69 [w, p, (.bool (rnd)), (.int .i64 (st))].toArray H K := by
 have lE := Le.refl H
 refine R.q69 ?_
 unfold F.q69
 have l1 := fieldN_len hf
 refine nw_i (fun p1 H2 op1 nn3 le4 => ?_)
 have np1 := nn3.le lE
 replace op1 : Cel H2 p1 [(.int .i64 (0)), (.int .i64 (0)), (.slice none 0 0)] := op1
 replace lE := lE.trans le4
 refine C.c25 (hp0.le lE) (hvc0.le lE) (by first | omega | assumption) (fun  u7 H5 ou7 nn8  le6 => ?_)
 have ap1Xu7 := op1.apart nn8
 have nu7 := nn8.le lE
 refine nw_i (fun q H9 oq nn10 le11 => ?_)
 replace op1 := op1.le le6
 have ap1Xq := op1.apart nn10
 have au7Xq := ou7.apart nn10
 replace lE := lE.trans le6
 have nq := nn10.le lE
 replace ou7 := ou7.le le11
 refine oq.stn (ws := [(.int .i64 (r)), (.int .i64 (c)), u7]) rfl rfl (oc1 rfl (oc1 rfl (oc1 ou7.one oc0))) (fun H12 oq off13 => ?_)
 refine jn_i (fun σ' H' => ∃ u, σ' 8 = p1 ∧ σ' 9 = q ∧ Cel H' p1 [(.int .i64 (0)), (.int .i64 (0)), (.slice none 0 0)] ∧ Cel H' q [(.int .i64 (r)), (.int .i64 (c)), u] ∧ Own eI H' u (rnL rnd b s r c l st.toNat) ∧ Nw H u ∧ Apart p1 u ∧ Apart q u ∧ Le H H') (fun σ14 H14 hP => ?_) (fun J14 hJ14 => ?_)
 replace op1 := (op1.le le11).off off13 ap1Xq
 replace lE := off13.le (lE.trans le11) nq
 obtain ⟨u, g8L14, g9L14, op1, oq, ou, nu, ap1Xu, aqXu, lE⟩ := hP
 try simp only [g8L14, g9L14]
 refine ob_i (oq.ldn rfl) (op1.stn (ws := [(.int .i64 (r)), (.int .i64 (c)), u]) rfl rfl (oc1 rfl (oc1 rfl (oc1 ou.one oc0))) (fun H15 op1 off16 => ?_))
 refine ob_i (op1.ldn rfl) ?_
 replace ou := ou.off off16 ap1Xu.symm
 replace lE := off16.le lE np1
 exact hk  u _ ou nu  lE
 replace op1 := (op1.le le11).off off13 ap1Xq
 replace lE := off13.le (lE.trans le11) nq
 replace ou7 := ou7.off off13 au7Xq
 refine ⟨fun n' σ' H' => ∃ i : Nat, n' = st.toNat - i ∧ i ≤ st.toNat ∧ ∃ u, σ' 0 = w ∧ σ' 2 = (.bool (rnd)) ∧ σ' 3 = (.int .i64 (st - (i : Int))) ∧ σ' 8 = p1 ∧ σ' 9 = q ∧ Cel H' p1 [(.int .i64 (0)), (.int .i64 (0)), (.slice none 0 0)] ∧ Cel H' q [(.int .i64 (r)), (.int .i64 (c)), u] ∧ Own eI H' u (rnL rnd b s r c l i) ∧ Nw H u ∧ Apart p1 u ∧ Apart q u ∧ Le H H',
    ⟨_, 0, rfl, by omega, u7, rfl, rfl, (congrArg (Value.int .i64) (by first | omega | rfl | (simp; done))), rfl, rfl, op1, oq, (Own.cast (by first | rfl | (simp; done)) ou7), nu7, ap1Xu7, au7Xq.symm, lE⟩, ?_⟩
 rintro n17 σ17 H17 ⟨i, rfl, hiN, u, g0L17, g2L17, g3L17, g8L17, g9L17, op1, oq, ou, nu, ap1Xu, aqXu, lE⟩
 try simp only [g0L17, g2L17, g3L17, g8L17, g9L17]
 have hfi : fieldN 1 r c (rnL rnd b s r c l i) := rnL_field hf i
 have hli := fieldN_len hfi
 have hfn : fieldN 1 r c (nxL rnd b s r c (rnL rnd b s r c l i)) := nxL_field hf.1
 have hln := fieldN_len hfn
 refine ob_i (vInt_gtr _ _ _) (cnd_d (fun hg18 => ?_) (fun hg18 => ?_))
 have ti := hg18
 refine C.c36 (hw0.le lE) oq (hvb0.le lE) (hvs0.le lE) ou.sl (by first | omega | assumption) (by first | omega | assumption) (by first | omega | assumption) (fun  u21 H19 ou21 nn22  le20 => ?_)
 have ap1Xu21 := op1.apart nn22
 have aqXu21 := oq.apart nn22
 have nu21 := nn22.le lE
 replace oq := oq.le le20
 refine oq.stn (ws := [(.int .i64 (r)), (.int .i64 (c)), u21]) rfl rfl (oc1 rfl (oc1 rfl (oc1 ou21.one oc0))) (fun H23 oq off24 => ?_)
 refine ob_i (vInt_sub (by omega) (by omega)) ?_
 replace op1 := (op1.le le20).off off24 ap1Xq
 replace lE := off24.le (lE.trans le20) nq
 replace ou21 := ou21.off off24 aqXu21.symm
 exact nxt (st.toNat - (i + 1)) (by omega) ⟨i + 1, rfl, by omega, u21, g0L17, g2L17, (congrArg (Value.int .i64) (by first | omega | rfl | (simp; done))), g8L17, g9L17, op1, oq, ou21, nu21, ap1Xu21, aqXu21, lE⟩
 have ti := hg18
 rw [show i = st.toNat by omega] at ou
 exact hJ14 _ _ ⟨u, g8L17, g9L17, op1, oq, ou, nu, ap1Xu, aqXu, lE⟩

def runP (b s : List Int) (r c : Int) (l : List Int) (n : Int) : Prop := canP b s r c l ∧ 0 ≤ n ∧ n ≤ 512
instance (b s : List Int) (r c : Int) (l : List Int) (n : Int) : Decidable (runP b s r c l n) := by unfold runP; infer_instance
theorem C.c38  {H : Hp} {K : Value → Hp → Prop} (hvb0 : Sl eI H vb b) (hvs0 : Sl eI H vs s) (hvc0 : Sl eI H vc l) (kb : b.length ≤ 9223372036854775807) (ks : s.length ≤ 9223372036854775807) (k1 : l.length ≤ 9223372036854775807)
    (hk : ∀ u1 H', Own eI H' u1 (selL (runP b s r c l st) (rnL rnd b s r c l st.toNat)) → Nw H u1 → Le H H' → K (.tuple #[(.agg #[(.int .i64 (selI (runP b s r c l st) (r))), (.int .i64 (selI (runP b s r c l st) (c))), u1]), (.bool (decide (runP b s r c l st)))]) H') : HT prg 30 [(.agg #[vb, vs]), (.agg #[(.int .i64 (r)), (.int .i64 (c)), vc]), (.bool (rnd)), (.int .i64 (st))].toArray H K := by
 have lE := Le.refl H
 refine R.q30 ?_
 unfold F.q30
 refine nw_i (fun p1 H2 op1 nn3 le4 => ?_)
 replace op1 : Cel H2 p1 [vb, vs] := op1
 refine nw_i (fun p5 H6 op5 nn7 le8 => ?_)
 replace op5 : Cel H6 p5 [(.int .i64 (r)), (.int .i64 (c)), vc] := op5
 refine nw_i (fun p9 H10 op9 nn11 le12 => ?_)
 replace lE := (lE.trans le4).trans le8
 have np9 := nn11.le lE
 replace op9 : Cel H10 p9 [(.int .i64 (0)), (.int .i64 (0)), (.slice none 0 0)] := op9
 replace op1 := (op1.le le8).le le12
 replace op5 := op5.le le12
 replace lE := lE.trans le12
 refine C.c24 op1 op5 (hvb0.le lE) (hvs0.le lE) (hvc0.le lE) (by first | omega | assumption) (by first | omega | assumption) (by first | omega | assumption) (fun   H13    le14 => ?_)
 refine ob_nd (fun hc15 => ?_) (fun hc15 => ?_)
 have hf := hc15.2
 have l1 := fieldN_len hf
 refine gop_rf (gop_rf (C.c0  ?_))
 refine gop_rf (ob_nd (fun hc16 => ?_) (fun hc16 => ?_))
 refine ob_i (vPick_f _ _) (cnd_f1 ?_)
 replace op1 := op1.le le14
 replace op5 := op5.le le14
 replace lE := lE.trans le14
 refine C.c37 op1 op5 (hvb0.le lE) (hvs0.le lE) (hvc0.le lE) (by first | omega | assumption) (by first | omega | assumption) (by first | omega | assumption) (by first | omega | assumption) (by first | omega | assumption) (fun  u19 H17 ou19 nn20  le18 => ?_)
 replace op9 := op9.le le14
 have ap9Xu19 := op9.apart nn20
 have nu19 := nn20.le lE
 replace op9 := op9.le le18
 refine op9.stn (ws := [(.int .i64 (r)), (.int .i64 (c)), u19]) rfl rfl (oc1 rfl (oc1 rfl (oc1 ou19.one oc0))) (fun H21 op9 off22 => ?_)
 refine ob_i (op9.ldn rfl) ?_
 have hok : runP b s r c l st := by first | assumption | exact ⟨by assumption, by assumption⟩ | exact ⟨by assumption, by omega⟩
 replace lE := off22.le (lE.trans le18) np9
 replace ou19 := ou19.off off22 ap9Xu19.symm
 exact keq (K := K) (by rw [show ((selI (runP b s r c l st) (r)) : Int) = (r) from by first | exact selI_t hok | exact selI_f hok]; rw [show ((selI (runP b s r c l st) (c)) : Int) = (c) from by first | exact selI_t hok | exact selI_f hok]; rw [decide_eq_true (show (runP b s r c l st) from by exact hok)]) (hk  u19 _ (Own.cast (show rnL rnd b s r c l st.toNat = selL (runP b s r c l st) (rnL rnd b s r c l st.toNat) by exact (selL_t hok).symm) ou19) nu19  lE)
 refine ob_i (vPick_f _ _) (cnd_t1 (ob_i (a := (.agg #[(.int .i64 (0)), (.int .i64 (0)), (.slice none 0 0)])) (by rfl) ?_))
 replace op9 := op9.le le14
 refine op9.stn (ws := [(.int .i64 (0)), (.int .i64 (0)), (.slice none 0 0)]) rfl rfl (oc1 rfl (oc1 rfl (oc1 rfl oc0))) (fun H23 op9 off24 => ?_)
 refine ob_i (op9.ldn rfl) ?_
 have hok : ¬ (runP b s r c l st) := by intro h; first | exact absurd h.1 (by assumption) | exact absurd h.2 (by assumption) | (have := h.2; omega)
 replace lE := off24.le (lE.trans le14) np9
 exact keq (K := K) (by rw [show ((selI (runP b s r c l st) (r)) : Int) = (0) from by first | exact selI_t hok | exact selI_f hok]; rw [show ((selI (runP b s r c l st) (c)) : Int) = (0) from by first | exact selI_t hok | exact selI_f hok]; rw [decide_eq_false (show ¬ (runP b s r c l st) from by exact hok)]) (hk  (.slice none 0 0) _ (Own.cast (show [] = selL (runP b s r c l st) (rnL rnd b s r c l st.toNat) by exact (selL_f hok).symm) (Own.nil_of none)) (fun b hb => by simp [bk] at hb)  lE)
 refine gop_st (gop_st (gop_st (ob_i (vPick_t _ _) (cnd_t1 (ob_i (a := (.agg #[(.int .i64 (0)), (.int .i64 (0)), (.slice none 0 0)])) (by rfl) ?_)))))
 replace op9 := op9.le le14
 refine op9.stn (ws := [(.int .i64 (0)), (.int .i64 (0)), (.slice none 0 0)]) rfl rfl (oc1 rfl (oc1 rfl (oc1 rfl oc0))) (fun H25 op9 off26 => ?_)
 refine ob_i (op9.ldn rfl) ?_
 have hok : ¬ (runP b s r c l st) := by intro h; first | exact absurd h.1 (by assumption) | exact absurd h.2 (by assumption) | (have := h.2; omega)
 replace lE := off26.le (lE.trans le14) np9
 exact keq (K := K) (by rw [show ((selI (runP b s r c l st) (r)) : Int) = (0) from by first | exact selI_t hok | exact selI_f hok]; rw [show ((selI (runP b s r c l st) (c)) : Int) = (0) from by first | exact selI_t hok | exact selI_f hok]; rw [decide_eq_false (show ¬ (runP b s r c l st) from by exact hok)]) (hk  (.slice none 0 0) _ (Own.cast (show [] = selL (runP b s r c l st) (rnL rnd b s r c l st.toNat) by exact (selL_f hok).symm) (Own.nil_of none)) (fun b hb => by simp [bk] at hb)  lE)

end Go.Proofs.Ythmdmbbdjbhcoaa
/- Counts ahead, inner steps. -/
namespace Go.Proofs.Ythmdmbbdjbhcoaa
open HL
variable {vc vb vs : Value} {r c : Int} {l b s : List Int}
set_option maxRecDepth 100000
theorem C.c39 {p : Value}  {H : Hp} {K : Value → Hp → Prop} (hp0 : Cel H p [(.int .i64 (r)), (.int .i64 (c)), vc]) (hvc0 : Sl eI H vc l) (k1 : l.length ≤ 9223372036854775807)
    (hk : ∀ H', Le H H' → K (.bool (decide (sqP r c l))) H') : HT prg 75 [p].toArray H K := by
 have lE := Le.refl H
 refine R.q75 ?_
 unfold F.q75
 refine C.c5 (hp0.le lE) (hvc0.le lE) (by first | omega | assumption) ?_
 refine ⟨Le.refl _, ?_⟩
 by_cases hc1 : fieldN 1 r c l
 refine gQT hc1 (gQT hc1 (ob_i ((hp0.le lE).nilC) (gQT hc1 (ob_i ((hp0.le lE).fa 0) (gQT hc1 (ob_i ((hp0.le lE).ld 0 rfl) (gQT hc1 (gQT hc1 (ob_i ((hp0.le lE).nilC) ?_)))))))))
 refine gQT hc1 (ob_i ((hp0.le lE).fa 1) (gQT hc1 (ob_i ((hp0.le lE).ld 1 rfl) (gQT hc1 (ob_i (vInt_eql _ _ _) (ob_i (vPick_et (decide_eq_true hc1) _ _) ?_))))))
 by_cases hc2 : r = c
 refine gQT hc2 (gQT hc2 (ob_i ((hp0.le lE).nilC) (gQT hc2 (ob_i ((hp0.le lE).fa 0) (gQT hc2 (ob_i ((hp0.le lE).ld 0 rfl) (gQT hc2 (ob_i (vInt_eql _ _ _) (gQT hc2 ?_)))))))))
 by_cases hc3 : r = 4
 refine hQT hc3 (hQT hc3 (hQT hc3 (hQT hc3 (hQT hc3 (gQT hc2 (ob_i (vPick_et (decide_eq_true hc3) _ _) (gQT hc2 (gop_st (gop_st ?_)))))))))
 exact gop_st (gop_st (gop_st (gQT hc2 (ob_i (vPick_t _ _) (ob_i (vPick_et (decide_eq_true hc2) _ _) (keq (K := K) (by rw [decide_eq_true (show (sqP r c l) from by exact ⟨by assumption, by omega⟩)]) (hk   _    lE)))))))
 refine gQF hc3 (gQF hc3 (ob_i ((hp0.le lE).nilC) (gQF hc3 (ob_i ((hp0.le lE).fa 0) (gQF hc3 (ob_i ((hp0.le lE).ld 0 rfl) (gQF hc3 (ob_i (vInt_eql _ _ _) (gQT hc2 ?_)))))))))
 refine ob_i (vPick_ef (decide_eq_false hc3) _ _) (gQT hc2 ?_)
 by_cases hc4 : r = 8
 exact hQT hc4 (hQT hc4 (hQT hc4 (hQT hc4 (hQT hc4 (gQT hc2 (ob_i (vPick_et (decide_eq_true hc4) _ _) (ob_i (vPick_et (decide_eq_true hc2) _ _) (keq (K := K) (by rw [decide_eq_true (show (sqP r c l) from by exact ⟨by assumption, by omega⟩)]) (hk   _    lE)))))))))
 refine gQF hc4 (gQF hc4 (ob_i ((hp0.le lE).nilC) (gQF hc4 (ob_i ((hp0.le lE).fa 0) (gQF hc4 (ob_i ((hp0.le lE).ld 0 rfl) (gQF hc4 (ob_i (vInt_eql _ _ _) (gQT hc2 ?_)))))))))
 refine ob_i (vPick_ef (decide_eq_false hc4) _ _) (ob_i (vPick_et (decide_eq_true hc2) _ _) ?_)
 exact keq (K := K) (by rw [show decide (r = 16) = decide (sqP r c l) from decide_eq_decide.mpr (by exact ⟨fun h => ⟨by assumption, by omega⟩, fun h => by have := h.2; omega⟩)]) (hk   _    lE)
 refine hQF hc2 (hQF hc2 (hQF hc2 (hQF hc2 (hQF hc2 (hQF hc2 (gop_u (gop_u (gop_u (gop_u ?_)))))))))
 refine gop_u (hQF hc2 (hQF hc2 (gop_u (gop_u (gop_u (gop_u (gop_u (hQF hc2 (ob_i (vPick_ef (decide_eq_false hc2) _ _) ?_)))))))))
 exact keq (K := K) (by rw [decide_eq_false (show ¬ (sqP r c l) from by intro h; have h1 := h.1; have h2 := h.2; first | contradiction | omega)]) (hk   _    lE)
 refine hQF hc1 (hQF hc1 (hQF hc1 (hQF hc1 (hQF hc1 (hQF hc1 (hQF hc1 (hQF hc1 (hQF hc1 (ob_i (vPick_ef (decide_eq_false hc1) _ _) ?_)))))))))
 refine gop_sf (gop_sf (gop_sf (gop_sf (gop_sf (gop_sf (gop_u (gop_u (gop_u (gop_u ?_)))))))))
 refine gop_u (gop_sf (gop_sf (gop_u (gop_u (gop_u (gop_u (gop_u (gop_sf (ob_i (vPick_f _ _) ?_)))))))))
 exact keq (K := K) (by rw [decide_eq_false (show ¬ (sqP r c l) from by intro h; have h1 := h.1; have h2 := h.2; first | contradiction | omega)]) (hk   _    lE)

theorem C.c40  {H : Hp} {K : Value → Hp → Prop} (hvc0 : Sl eI H vc l) (k1 : l.length ≤ 9223372036854775807)
    (hk : ∀ H', Le H H' → K (.bool (decide (sqP r c l))) H') : HT prg 66 [(.agg #[(.int .i64 (r)), (.int .i64 (c)), vc])].toArray H K := by
 have lE := Le.refl H
 refine R.q66 ?_
 unfold F.q66
 refine nw_i (fun p1 H2 op1 nn3 le4 => ?_)
 replace op1 : Cel H2 p1 [(.int .i64 (r)), (.int .i64 (c)), vc] := op1
 refine ob_i (op1.ldn rfl) ?_
 replace lE := lE.trans le4
 refine C.c8 (hvc0.le lE) (by first | omega | assumption) (fun   H5    le6 => ?_)
 by_cases hc7 : fieldN 1 r c l
 refine gQT hc7 ?_
 replace op1 := op1.le le6
 refine ob_i (op1.fa 0) (gQT hc7 (ob_i (op1.ld 0 rfl) (gQT hc7 (ob_i (op1.fa 1) (gQT hc7 (ob_i (op1.ld 1 rfl) (gQT hc7 (ob_i (vInt_eql _ _ _) (ob_i (vPick_et (decide_eq_true hc7) _ _) ?_)))))))))
 by_cases hc8 : r = c
 refine gQT hc8 (ob_i (op1.fa 0) (gQT hc8 (ob_i (op1.ld 0 rfl) (gQT hc8 (ob_i (vInt_eql _ _ _) (gQT hc8 ?_))))))
 by_cases hc9 : r = 4
 refine hQT hc9 (hQT hc9 (hQT hc9 (gQT hc8 (ob_i (vPick_et (decide_eq_true hc9) _ _) (gQT hc8 (gop_st (gop_st (gop_st (gQT hc8 ?_)))))))))
 refine ob_i (vPick_t _ _) (ob_i (vPick_et (decide_eq_true hc8) _ _) ?_)
 replace lE := lE.trans le6
 exact keq (K := K) (by rw [decide_eq_true (show (sqP r c l) from by exact ⟨by assumption, by omega⟩)]) (hk   _    lE)
 refine gQF hc9 (ob_i (op1.fa 0) (gQF hc9 (ob_i (op1.ld 0 rfl) (gQF hc9 (ob_i (vInt_eql _ _ _) (gQT hc8 (ob_i (vPick_ef (decide_eq_false hc9) _ _) (gQT hc8 ?_))))))))
 by_cases hc10 : r = 8
 refine hQT hc10 (hQT hc10 (hQT hc10 (gQT hc8 (ob_i (vPick_et (decide_eq_true hc10) _ _) (ob_i (vPick_et (decide_eq_true hc8) _ _) ?_)))))
 replace lE := lE.trans le6
 exact keq (K := K) (by rw [decide_eq_true (show (sqP r c l) from by exact ⟨by assumption, by omega⟩)]) (hk   _    lE)
 refine gQF hc10 (ob_i (op1.fa 0) (gQF hc10 (ob_i (op1.ld 0 rfl) (gQF hc10 (ob_i (vInt_eql _ _ _) (gQT hc8 (ob_i (vPick_ef (decide_eq_false hc10) _ _) (ob_i (vPick_et (decide_eq_true hc8) _ _) ?_))))))))
 replace lE := lE.trans le6
 exact keq (K := K) (by rw [show decide (r = 16) = decide (sqP r c l) from decide_eq_decide.mpr (by exact ⟨fun h => ⟨by assumption, by omega⟩, fun h => by have := h.2; omega⟩)]) (hk   _    lE)
 refine hQF hc8 (hQF hc8 (hQF hc8 (hQF hc8 (gop_u (gop_u (gop_u (hQF hc8 (hQF hc8 (gop_u ?_)))))))))
 refine gop_u (gop_u (hQF hc8 (ob_i (vPick_ef (decide_eq_false hc8) _ _) ?_)))
 replace lE := lE.trans le6
 exact keq (K := K) (by rw [decide_eq_false (show ¬ (sqP r c l) from by intro h; have h1 := h.1; have h2 := h.2; first | contradiction | omega)]) (hk   _    lE)
 refine hQF hc7 (hQF hc7 (hQF hc7 (hQF hc7 (hQF hc7 (ob_i (vPick_ef (decide_eq_false hc7) _ _) (gop_sf (gop_sf (gop_sf (gop_sf ?_)))))))))
 refine gop_u (gop_u (gop_u (gop_sf (gop_sf (gop_u (gop_u (gop_u (gop_sf (ob_i (vPick_f _ _) ?_)))))))))
 replace lE := lE.trans le6
 exact keq (K := K) (by rw [decide_eq_false (show ¬ (sqP r c l) from by intro h; have h1 := h.1; have h2 := h.2; first | contradiction | omega)]) (hk   _    lE)

theorem C.c41  {H : Hp} {K : Value → Hp → Prop} (hvb0 : Sl eI H vb b) (hvs0 : Sl eI H vs s) (hvc0 : Sl eI H vc l) (hf : fieldN 1 r c l) (kb : b.length ≤ 9223372036854775807) (ks : s.length ≤ 9223372036854775807) (r3 : 3 ≤ r) (c3 : 3 ≤ c)
    (hk : ∀ u1 H', Own eI H' u1 (inL b s r c l) → Nw H u1 → Le H H' → K (.agg #[(.int .i64 (r - 2)), (.int .i64 (c - 2)), u1]) H') : HT prg 67 [(.agg #[vb, vs]), (.agg #[(.int .i64 (r)), (.int .i64 (c)), vc])].toArray H K := by
 have lE := Le.refl H
 refine R.q67 ?_
 unfold F.q67
 have hs := hf.1
 have hl := hf.2.1
 have q1 := hs.1
 have q2 := hs.2
 have qm := sidesF_mul hs
 have hfn : fieldN 1 r c (nxL false b s r c l) := nxL_field hs
 have hln := hfn.2.1
 refine nw_i (fun p1 H2 op1 nn3 le4 => ?_)
 replace op1 : Cel H2 p1 [vb, vs] := op1
 refine nw_i (fun p5 H6 op5 nn7 le8 => ?_)
 replace op5 : Cel H6 p5 [(.int .i64 (r)), (.int .i64 (c)), vc] := op5
 refine nw_i (fun p9 H10 op9 nn11 le12 => ?_)
 replace lE := (lE.trans le4).trans le8
 have np9 := nn11.le lE
 replace op1 := (op1.le le8).le le12
 refine ob_i (op1.ldn rfl) ?_
 replace op5 := op5.le le12
 refine ob_i (op5.ldn rfl) (ob_i (op5.fa 0) (ob_i (op5.ld 0 rfl) (ob_i (vInt_sub (by omega) (by omega)) (ob_i (op5.fa 1) (ob_i (op5.ld 1 rfl) (ob_i (vInt_sub (by omega) (by omega)) ?_))))))
 replace lE := lE.trans le12
 refine C.c35 (hvb0.le lE) (hvs0.le lE) (hvc0.le lE) (by first | omega | assumption) (by first | omega | assumption) (by first | omega | assumption) (fun  u15 H13 ou15 nn16  le14 => ?_)
 refine ⟨le14, ?_⟩
 refine C.c18 ou15.sl (by first | omega | assumption) (by first | omega | assumption) (by first | omega | assumption) (by first | omega | assumption) (by first | omega | assumption) (by first | omega | assumption) (by first | omega | assumption) (by first | omega | assumption) (fun  u19 H17 ou19 nn20  le18 => ?_)
 replace op9 := op9.le le14
 have ap9Xu19 := op9.apart nn20
 replace lE := lE.trans le14
 have nu19 := nn20.le lE
 refine ⟨le18, ?_⟩
 replace op9 := op9.le le18
 refine op9.stn (ws := [(.int .i64 ((r - 2))), (.int .i64 ((c - 2))), u19]) rfl rfl (oc1 rfl (oc1 rfl (oc1 ou19.one oc0))) (fun H21 op9 off22 => ?_)
 refine ob_i (op9.ldn rfl) ?_
 replace lE := off22.le (lE.trans le18) np9
 replace ou19 := ou19.off off22 ap9Xu19.symm
 exact hk  u19 _ (Own.cast (show mkL (c - 2) (cutG c (nxL false b s r c l) 1 1) (((r - 2) : Int).toNat * ((c - 2) : Int).toNat) = inL b s r c l by first | rfl | simp) ou19) nu19  lE

theorem C.c42  {H : Hp} {K : Value → Hp → Prop} (hvb0 : Sl eI H vb b) (hvs0 : Sl eI H vs s) (hvc0 : Sl eI H vc l) (kb : b.length ≤ 9223372036854775807) (ks : s.length ≤ 9223372036854775807) (k1 : l.length ≤ 9223372036854775807)
    (hk : ∀ u1 H', Own eI H' u1 (selL (inP b s r c l) (inL b s r c l)) → Nw H u1 → Le H H' → K (.tuple #[(.agg #[(.int .i64 (selI (inP b s r c l) (r - 2))), (.int .i64 (selI (inP b s r c l) (c - 2))), u1]), (.bool (decide (inP b s r c l)))]) H') : HT prg 32 [(.agg #[vb, vs]), (.agg #[(.int .i64 (r)), (.int .i64 (c)), vc])].toArray H K := by
 have lE := Le.refl H
 refine R.q32 ?_
 unfold F.q32
 refine nw_i (fun p1 H2 op1 nn3 le4 => ?_)
 replace op1 : Cel H2 p1 [vb, vs] := op1
 refine nw_i (fun p5 H6 op5 nn7 le8 => ?_)
 replace op5 : Cel H6 p5 [(.int .i64 (r)), (.int .i64 (c)), vc] := op5
 refine nw_i (fun p9 H10 op9 nn11 le12 => ?_)
 replace lE := (lE.trans le4).trans le8
 have np9 := nn11.le lE
 replace op9 : Cel H10 p9 [(.int .i64 (0)), (.int .i64 (0)), (.slice none 0 0)] := op9
 replace op1 := (op1.le le8).le le12
 refine ob_i (op1.ldn rfl) ?_
 replace lE := lE.trans le12
 refine C.c23 (hvb0.le lE) (hvs0.le lE) (by first | omega | assumption) (by first | omega | assumption) (fun   H13    le14 => ?_)
 refine ob_nd (fun hc15 => ?_) (fun hc15 => ?_)
 refine gop_rf ?_
 replace op5 := (op5.le le12).le le14
 refine ob_i (op5.ldn rfl) (gop_rf ?_)
 replace lE := lE.trans le14
 refine C.c40 (hvc0.le lE) (by first | omega | assumption) (fun   H16    le17 => ?_)
 refine gop_rf (ob_nd (fun hc18 => ?_) (fun hc18 => ?_))
 have hf := hc18.1
 have hq := hc18.2
 have l1 := fieldN_len hf
 have hs := hf.1
 have hl := hf.2.1
 have q1 := hs.1
 have q2 := hs.2
 have qm := sidesF_mul hs
 refine ob_i (vPick_f _ _) (cnd_f1 ?_)
 replace op1 := (op1.le le14).le le17
 refine ob_i (op1.ldn rfl) ?_
 replace op5 := op5.le le17
 refine ob_i (op5.ldn rfl) ?_
 replace lE := lE.trans le17
 refine C.c41 (hvb0.le lE) (hvs0.le lE) (hvc0.le lE) (by first | omega | assumption) (by first | omega | assumption) (by first | omega | assumption) (by first | omega | assumption) (by first | omega | assumption) (fun  u21 H19 ou21 nn22  le20 => ?_)
 replace op9 := (op9.le le14).le le17
 have ap9Xu21 := op9.apart nn22
 have nu21 := nn22.le lE
 replace op9 := op9.le le20
 refine op9.stn (ws := [(.int .i64 (r - 2)), (.int .i64 (c - 2)), u21]) rfl rfl (oc1 rfl (oc1 rfl (oc1 ou21.one oc0))) (fun H23 op9 off24 => ?_)
 refine ob_i (op9.ldn rfl) ?_
 have hok : inP b s r c l := by first | assumption | exact ⟨by assumption, by assumption⟩ | exact ⟨by assumption, by omega⟩
 replace lE := off24.le (lE.trans le20) np9
 replace ou21 := ou21.off off24 ap9Xu21.symm
 exact keq (K := K) (by rw [show ((selI (inP b s r c l) (r - 2)) : Int) = (r - 2) from by first | exact selI_t hok | exact selI_f hok]; rw [show ((selI (inP b s r c l) (c - 2)) : Int) = (c - 2) from by first | exact selI_t hok | exact selI_f hok]; rw [decide_eq_true (show (inP b s r c l) from by exact hok)]) (hk  u21 _ (Own.cast (show inL b s r c l = selL (inP b s r c l) (inL b s r c l) by exact (selL_t hok).symm) ou21) nu21  lE)
 refine ob_i (vPick_f _ _) (cnd_t1 (ob_i (a := (.agg #[(.int .i64 (0)), (.int .i64 (0)), (.slice none 0 0)])) (by rfl) ?_))
 replace op9 := (op9.le le14).le le17
 refine op9.stn (ws := [(.int .i64 (0)), (.int .i64 (0)), (.slice none 0 0)]) rfl rfl (oc1 rfl (oc1 rfl (oc1 rfl oc0))) (fun H25 op9 off26 => ?_)
 refine ob_i (op9.ldn rfl) ?_
 have hok : ¬ (inP b s r c l) := by intro h; first | exact absurd h.1 (by assumption) | exact absurd h.2 (by assumption) | (have := h.2; omega)
 replace lE := off26.le (lE.trans le17) np9
 exact keq (K := K) (by rw [show ((selI (inP b s r c l) (r - 2)) : Int) = (0) from by first | exact selI_t hok | exact selI_f hok]; rw [show ((selI (inP b s r c l) (c - 2)) : Int) = (0) from by first | exact selI_t hok | exact selI_f hok]; rw [decide_eq_false (show ¬ (inP b s r c l) from by exact hok)]) (hk  (.slice none 0 0) _ (Own.cast (show [] = selL (inP b s r c l) (inL b s r c l) by exact (selL_f hok).symm) (Own.nil_of none)) (fun b hb => by simp [bk] at hb)  lE)
 refine gop_st (gop_st (gop_st (ob_i (vPick_t _ _) (cnd_t1 (ob_i (a := (.agg #[(.int .i64 (0)), (.int .i64 (0)), (.slice none 0 0)])) (by rfl) ?_)))))
 replace op9 := op9.le le14
 refine op9.stn (ws := [(.int .i64 (0)), (.int .i64 (0)), (.slice none 0 0)]) rfl rfl (oc1 rfl (oc1 rfl (oc1 rfl oc0))) (fun H27 op9 off28 => ?_)
 refine ob_i (op9.ldn rfl) ?_
 have hok : ¬ (inP b s r c l) := by intro h; first | exact absurd h.1 (by assumption) | exact absurd h.2 (by assumption) | (have := h.2; omega)
 replace lE := off28.le (lE.trans le14) np9
 exact keq (K := K) (by rw [show ((selI (inP b s r c l) (r - 2)) : Int) = (0) from by first | exact selI_t hok | exact selI_f hok]; rw [show ((selI (inP b s r c l) (c - 2)) : Int) = (0) from by first | exact selI_t hok | exact selI_f hok]; rw [decide_eq_false (show ¬ (inP b s r c l) from by exact hok)]) (hk  (.slice none 0 0) _ (Own.cast (show [] = selL (inP b s r c l) (inL b s r c l) by exact (selL_f hok).symm) (Own.nil_of none)) (fun b hb => by simp [bk] at hb)  lE)

end Go.Proofs.Ythmdmbbdjbhcoaa
/- Inner parts of life. -/
namespace Go.Proofs.Ythmdmbbdjbhcoaa
open HL
set_option maxRecDepth 100000
theorem C.c43 {vb vs vc : Value} {r c : Int} {b : List Int} {s : List Int} {l : List Int}  {H : Hp} {K : Value → Hp → Prop} (hvb0 : Sl eI H vb b) (hvs0 : Sl eI H vs s) (hvc0 : Sl eI H vc l) (kb : b.length ≤ 9223372036854775807) (ks : s.length ≤ 9223372036854775807) (k1 : l.length ≤ 9223372036854775807)
    (hk : ∀ u1 H', Own eI H' u1 (selL (inP b s r c l) (farL b s r l)) → Nw H u1 → Le H H' → K (.tuple #[(.agg #[(.int .i64 (selI (inP b s r c l) (r / 2))), (.int .i64 (selI (inP b s r c l) (c / 2))), u1]), (.bool (decide (inP b s r c l)))]) H') : HT prg 29 [(.agg #[vb, vs]), (.agg #[(.int .i64 (r)), (.int .i64 (c)), vc])].toArray H K := by
 have lE := Le.refl H
 refine R.q29 ?_
 unfold F.q29
 refine nw_i (fun p1 H2 op1 nn3 le4 => ?_)
 have np1 := nn3.le lE
 replace op1 : Cel H2 p1 [vb, vs] := op1
 refine nw_i (fun p5 H6 op5 nn7 le8 => ?_)
 replace lE := lE.trans le4
 have np5 := nn7.le lE
 replace op5 : Cel H6 p5 [(.int .i64 (r)), (.int .i64 (c)), vc] := op5
 refine nw_i (fun p9 H10 op9 nn11 le12 => ?_)
 replace lE := lE.trans le8
 have np9 := nn11.le lE
 replace op9 : Cel H10 p9 [(.int .i64 (0)), (.int .i64 (0)), (.slice none 0 0)] := op9
 replace op1 := (op1.le le8).le le12
 refine ob_i (op1.ldn rfl) ?_
 replace lE := lE.trans le12
 refine C.c23 (hvb0.le lE) (hvs0.le lE) (by first | omega | assumption) (by first | omega | assumption) (fun   H13    le14 => ?_)
 refine ob_nd (fun hc15 => ?_) (fun hc15 => ?_)
 refine gop_rf ?_
 replace op5 := (op5.le le12).le le14
 refine ob_i (op5.ldn rfl) (gop_rf ?_)
 replace lE := lE.trans le14
 refine C.c40 (hvc0.le lE) (by first | omega | assumption) (fun   H16    le17 => ?_)
 refine gop_rf (ob_nd (fun hc18 => ?_) (fun hc18 => ?_))
 have hf := hc18.1
 have hq := hc18.2
 have l1 := fieldN_len hf
 have hs := hf.1
 have hl := hf.2.1
 have q1 := hs.1
 have q2 := hs.2
 have qm := sidesF_mul hs
 have hcr : c = r := by omega
 refine ob_i (vPick_f _ _) (cnd_f1 ?_)
 replace op5 := op5.le le17
 refine ob_i (op5.ldn rfl) (nw_i (fun q H19 oq nn20 le21 => ?_))
 replace op1 := (op1.le le14).le le17
 have ap1Xq := op1.apart nn20
 have ap5Xq := op5.apart nn20
 replace op9 := (op9.le le14).le le17
 have ap9Xq := op9.apart nn20
 replace lE := lE.trans le17
 have nq := nn20.le lE
 replace lE := lE.trans le21
 refine oq.stn (ws := [(.int .i64 (r)), (.int .i64 (c)), vc]) rfl rfl (oc1 rfl (oc1 rfl (oc1 (hvc0.le lE).one oc0))) (fun H22 oq off23 => ?_)
 refine jn_i (fun σ' H' => ∃ u, σ' 4 = p9 ∧ σ' 6 = q ∧ Cel H' p1 [vb, vs] ∧ Cel H' p5 [(.int .i64 (r)), (.int .i64 (c)), vc] ∧ Cel H' p9 [(.int .i64 (0)), (.int .i64 (0)), (.slice none 0 0)] ∧ Cel H' q [(.int .i64 (r / 2)), (.int .i64 (c / 2)), u] ∧ Own eI H' u (farL b s r l) ∧ Nw H u ∧ Apart p1 u ∧ Apart p5 u ∧ Apart p9 u ∧ Apart q u ∧ Le H H') (fun σ24 H24 hP => ?_) (fun J24 hJ24 => ?_)
 replace op1 := (op1.le le21).off off23 ap1Xq
 replace op5 := (op5.le le21).off off23 ap5Xq
 replace op9 := (op9.le le21).off off23 ap9Xq
 replace lE := off23.le lE nq
 obtain ⟨u, g4L24, g6L24, op1, op5, op9, oq, ou, nu, ap1Xu, ap5Xu, ap9Xu, aqXu, lE⟩ := hP
 try simp only [g4L24, g6L24]
 refine ob_i (oq.ldn rfl) (op9.stn (ws := [(.int .i64 (r / 2)), (.int .i64 (c / 2)), u]) rfl rfl (oc1 rfl (oc1 rfl (oc1 ou.one oc0))) (fun H25 op9 off26 => ?_))
 refine ob_i (op9.ldn rfl) ?_
 have hok : inP b s r c l := by first | assumption | exact ⟨by assumption, by assumption⟩ | exact ⟨by assumption, by omega⟩
 replace ou := ou.off off26 ap9Xu.symm
 replace lE := off26.le lE np9
 exact keq (K := K) (by rw [show ((selI (inP b s r c l) (r / 2)) : Int) = (r / 2) from by first | exact selI_t hok | exact selI_f hok | (rw [selI_t hok]; done) | (rw [selI_t hok]; omega)]; rw [show ((selI (inP b s r c l) (c / 2)) : Int) = (c / 2) from by first | exact selI_t hok | exact selI_f hok | (rw [selI_t hok]; done) | (rw [selI_t hok]; omega)]; rw [decide_eq_true (show (inP b s r c l) from by exact hok)]) (hk  u _ (Own.cast (show farL b s r l = selL (inP b s r c l) (farL b s r l) by exact (selL_t hok).symm) ou) nu  lE)
 replace op5 := (op5.le le21).off off23 ap5Xq
 refine ob_i (op5.fa 0) (ob_i (op5.ld 0 rfl) (ob_i (vInt_quoN (by omega) (by omega) (by omega)) ?_))
 replace op1 := (op1.le le21).off off23 ap1Xq
 replace op9 := (op9.le le21).off off23 ap9Xq
 replace lE := off23.le lE nq
 refine ⟨fun n' σ' H' => ∃ i : Nat, n' = (r / 4).toNat - i ∧ i ≤ (r / 4).toNat ∧ ∃ u, σ' 2 = p1 ∧ σ' 4 = p9 ∧ σ' 6 = q ∧ σ' 19 = (.int .i64 (r / 4)) ∧ σ' 20 = (.int .i64 ((i : Int))) ∧ Cel H' p1 [vb, vs] ∧ Cel H' p5 [(.int .i64 (r)), (.int .i64 (c)), vc] ∧ Cel H' p9 [(.int .i64 (0)), (.int .i64 (0)), (.slice none 0 0)] ∧ Cel H' q [(.int .i64 (r - 2 * (i : Int))), (.int .i64 (c - 2 * (i : Int))), u] ∧ Ro eI H' u (inrL b s r l i) ∧ Apart p1 u ∧ Apart p5 u ∧ Apart p9 u ∧ Apart q u ∧ Le H H' ∧ (0 < i → Own eI H' u (inrL b s r l i) ∧ Nw H u),
    ⟨_, 0, rfl, by omega, vc, rfl, rfl, rfl, rfl, (congrArg (Value.int .i64) (by first | omega | rfl | (simp; done))), op1, op5, op9, (Cel.cast (by simp) oq), (Ro.cast (by first | rfl | (simp; done)) (Ro.of_sl (hvc0.le lE) (by omega))), ((Ro.of_sl hvc0 (by omega)).apart np1).symm, ((Ro.of_sl hvc0 (by omega)).apart np5).symm, ((Ro.of_sl hvc0 (by omega)).apart np9).symm, ((Ro.of_sl hvc0 (by omega)).apart nq).symm, lE, (fun h => absurd h (by omega))⟩, ?_⟩
 rintro n27 σ27 H27 ⟨i, rfl, hiN, u, g2L27, g4L27, g6L27, g19L27, g20L27, op1, op5, op9, oq, ou, ap1Xu, ap5Xu, ap9Xu, aqXu, lE, hm0⟩
 try simp only [g2L27, g4L27, g6L27, g19L27, g20L27]
 have hfi : fieldN 1 (r - 2 * (i : Int)) (c - 2 * (i : Int)) (inrL b s r l i) := by rw [hcr]; exact inr_field (by rw [hcr] at hf; exact hf) i (by omega)
 have li := fieldN_len hfi
 refine ob_i (vInt_lss _ _ _) (cnd_d (fun hg28 => ?_) (fun hg28 => ?_))
 have ti := hg28
 refine ob_i (op1.ldn rfl) (ob_i (oq.ldn rfl) (C.c41 (hvb0.le lE) (hvs0.le lE) ou.sl (by first | omega | assumption) (by first | omega | assumption) (by first | omega | assumption) (by first | omega | assumption) (by first | omega | assumption) (fun  u31 H29 ou31 nn32  le30 => ?_)))
 have ap1Xu31 := op1.apart nn32
 have ap5Xu31 := op5.apart nn32
 have ap9Xu31 := op9.apart nn32
 have aqXu31 := oq.apart nn32
 have nu31 := nn32.le lE
 replace oq := oq.le le30
 refine oq.stn (ws := [(.int .i64 ((r - 2 * (i : Int)) - 2)), (.int .i64 ((c - 2 * (i : Int)) - 2)), u31]) rfl rfl (oc1 rfl (oc1 rfl (oc1 ou31.one oc0))) (fun H33 oq off34 => ?_)
 refine ob_i (vInt_add (by omega) (by omega)) ?_
 replace op1 := (op1.le le30).off off34 ap1Xq
 replace op5 := (op5.le le30).off off34 ap5Xq
 replace op9 := (op9.le le30).off off34 ap9Xq
 replace lE := off34.le (lE.trans le30) nq
 replace ou31 := ou31.off off34 aqXu31.symm
 exact nxt ((r / 4).toNat - (i + 1)) (by omega) ⟨i + 1, rfl, by omega, u31, g2L27, g4L27, g6L27, g19L27, (congrArg (Value.int .i64) (by first | omega | rfl | (simp; done))), op1, op5, op9, (Cel.cast (by rw [show r - 2 * ((i + 1 : Nat) : Int) = r - 2 * (i : Int) - 2 by omega, show c - 2 * ((i + 1 : Nat) : Int) = c - 2 * (i : Int) - 2 by omega]) oq), (Ro.cast (by rw [hcr]; rfl) ou31.ro), ap1Xu31, ap5Xu31, ap9Xu31, aqXu31, lE, (fun _ => ⟨Own.cast (by rw [hcr]; rfl) ou31, nu31⟩)⟩
 have ti := hg28
 obtain ⟨ou2, nu⟩ := hm0 (by omega)
 replace ou := ou2
 rw [show i = (r / 4).toNat by omega, inr_far (by rw [hcr] at hf; exact hf) (by omega)] at ou
 rw [show r - 2 * (i : Int) = r / 2 by omega, show c - 2 * (i : Int) = c / 2 by omega] at oq
 exact hJ24 _ _ ⟨u, g4L27, g6L27, op1, op5, op9, oq, ou, nu, ap1Xu, ap5Xu, ap9Xu, aqXu, lE⟩
 refine ob_i (vPick_f _ _) (cnd_t1 (ob_i (a := (.agg #[(.int .i64 (0)), (.int .i64 (0)), (.slice none 0 0)])) (by rfl) ?_))
 replace op9 := (op9.le le14).le le17
 refine op9.stn (ws := [(.int .i64 (0)), (.int .i64 (0)), (.slice none 0 0)]) rfl rfl (oc1 rfl (oc1 rfl (oc1 rfl oc0))) (fun H35 op9 off36 => ?_)
 refine ob_i (op9.ldn rfl) ?_
 have hok : ¬ (inP b s r c l) := by intro h; first | exact absurd h.1 (by assumption) | exact absurd h.2 (by assumption) | (have := h.2; omega)
 replace lE := off36.le (lE.trans le17) np9
 exact keq (K := K) (by rw [show ((selI (inP b s r c l) (r / 2)) : Int) = (0) from by first | exact selI_t hok | exact selI_f hok | (rw [selI_t hok]; done) | (rw [selI_t hok]; omega)]; rw [show ((selI (inP b s r c l) (c / 2)) : Int) = (0) from by first | exact selI_t hok | exact selI_f hok | (rw [selI_t hok]; done) | (rw [selI_t hok]; omega)]; rw [decide_eq_false (show ¬ (inP b s r c l) from by exact hok)]) (hk  (.slice none 0 0) _ (Own.cast (show [] = selL (inP b s r c l) (farL b s r l) by exact (selL_f hok).symm) (Own.nil_of none)) (fun b hb => by simp [bk] at hb)  lE)
 refine gop_st (gop_st (gop_st (ob_i (vPick_t _ _) (cnd_t1 (ob_i (a := (.agg #[(.int .i64 (0)), (.int .i64 (0)), (.slice none 0 0)])) (by rfl) ?_)))))
 replace op9 := op9.le le14
 refine op9.stn (ws := [(.int .i64 (0)), (.int .i64 (0)), (.slice none 0 0)]) rfl rfl (oc1 rfl (oc1 rfl (oc1 rfl oc0))) (fun H37 op9 off38 => ?_)
 refine ob_i (op9.ldn rfl) ?_
 have hok : ¬ (inP b s r c l) := by intro h; first | exact absurd h.1 (by assumption) | exact absurd h.2 (by assumption) | (have := h.2; omega)
 replace lE := off38.le (lE.trans le14) np9
 exact keq (K := K) (by rw [show ((selI (inP b s r c l) (r / 2)) : Int) = (0) from by first | exact selI_t hok | exact selI_f hok | (rw [selI_t hok]; done) | (rw [selI_t hok]; omega)]; rw [show ((selI (inP b s r c l) (c / 2)) : Int) = (0) from by first | exact selI_t hok | exact selI_f hok | (rw [selI_t hok]; done) | (rw [selI_t hok]; omega)]; rw [decide_eq_false (show ¬ (inP b s r c l) from by exact hok)]) (hk  (.slice none 0 0) _ (Own.cast (show [] = selL (inP b s r c l) (farL b s r l) by exact (selL_f hok).symm) (Own.nil_of none)) (fun b hb => by simp [bk] at hb)  lE)

end Go.Proofs.Ythmdmbbdjbhcoaa
/- Maps by texts. -/
namespace Go.Proofs.Ythmdmbbdjbhcoaa.HL
set_option maxRecDepth 100000
def keyIs (k : ByteArray) (v : Value) : Bool := match v with | .string s => k == s | _ => false
/-- What a map has at a text: where, and what. -/
def findS (k : ByteArray) : List MapEntry → Nat → Option (Nat × Value)
  | [], _ => none
  | e :: es, i => bif keyIs k e.key then some (i, e.val) else findS k es (i + 1)
def keysS (es : List MapEntry) : Prop := ∀ e ∈ es, ∃ s, e.key = .string s
theorem findNow_s (k : ByteArray) : ∀ (es : List MapEntry) (i : Nat), keysS es → Instr.findNow .string (.string k) es i = some (findS k es i)
  | [], i, _ => rfl
  | e :: es, i, h => by
    obtain ⟨s, hs⟩ := h e (by simp)
    have ih := findNow_s k es (i + 1) (fun x hx => h x (by simp [hx]))
    unfold Instr.findNow findS
    rw [hs]
    simp only [Instr.sameNow, keyIs]
    cases e1 : (k == s) with
    | true => rfl
    | false => exact ih
theorem val_checkKey (P : Program) (b : Bool) (n : Nat) (t : TypeId) (k : ByteArray) (H : Hp) (ht : P.underlying t = some .string) : val P (Instr.checkKey b (n + 1) t (.string k)) H = some () := by
  unfold Instr.checkKey
  rw [val_bind', val_underlying, ht]
  rfl
theorem val_findKey (P : Program) (t : TypeId) (k : ByteArray) (es : List MapEntry) (H : Hp) (ht : P.underlying t = some .string) (hk : keysS es) : val P (Instr.findKey t (.string k) es) H = some (findS k es 0) := by
  unfold Instr.findKey
  rw [val_bind', val_underlying, ht]
  simp only [Option.bind_some]
  rw [findNow_s k es 0 hk]
  rfl
/-- A look into a map. -/
theorem hp_lookup {P : Program} {t kt et : TypeId} {r c : Nat} {es : Array MapEntry} {k : ByteArray} {z : Value} {H : Hp} {K : Value → Hp → Prop} (ht : P.underlying t = some (.map kt et)) (hk : P.underlying kt = some .string) (hz : zeroO P et = some z)
    (hr : H r = some (.map es c)) (hs : keysS es.toList) (h : K (.tuple #[match findS k es.toList 0 with | some (_, v) => v | none => z, .bool (findS k es.toList 0).isSome]) H) : hp P (Instr.lookup t (.map (some r)) (.string k) true) H K := by
  refine hp_of_val P _ H K _ ?_ h
  unfold Instr.lookup
  rw [val_bind', val_underlying, ht]
  simp only [Option.bind_some]
  rw [val_bind']
  have e1 : val P (getObj r) H = some (.map es c) := by
    show val P (Sem.getObj r Sem.pure) H = _
    simp only [val, hr]
  simp only [val_bind', e1, Option.bind_some, val_pure, val_checkKey P _ 9999 kt k H hk, val_findKey P kt k es.toList H hk hs]
  cases findS k es.toList 0 with
  | none => simp only [val_bind', val_zeroValue, hz, Option.bind_some, val_pure]; rfl
  | some x => simp only [val_pure, Option.bind_some]; rfl
/-- A new entry. -/
theorem hp_mapUpdate_new {P : Program} {t kt et : TypeId} {r c : Nat} {es : Array MapEntry} {k : ByteArray} {x : Value} {H : Hp} {K : Unit → Hp → Prop} (ht : P.underlying t = some (.map kt et)) (hk : P.underlying kt = some .string)
    (hr : H r = some (.map es c)) (hs : keysS es.toList) (hn : findS k es.toList 0 = none) (h : K () (H.put r (.map (es.push { key := .string k, val := x, born := c }) (c + 1)))) : hp P (Instr.mapUpdate t (.map (some r)) (.string k) x) H K := by
  unfold Instr.mapUpdate
  have e1 : val P (getObj r) H = some (.map es c) := by
    show val P (Sem.getObj r Sem.pure) H = _
    simp only [val, hr]
  refine hp_val_bind P _ _ H K _ (by rw [val_underlying, ht]) ?_
  refine hp_val_bind P _ _ H K _ e1 ?_
  refine hp_val_bind P _ _ H K _ (val_checkKey P _ 9999 kt k H hk) ?_
  refine hp_val_bind P _ _ H K _ (val_findKey P kt k es.toList H hk hs) ?_
  rw [hn]
  show hp P (Sem.setObj r _ (Sem.pure ())) H K
  simp only [hp, hr]
  exact h
end Go.Proofs.Ythmdmbbdjbhcoaa.HL
/- Slices of fields whose cells are owned. -/
namespace Go.Proofs.Ythmdmbbdjbhcoaa
open HL
variable {w x u : Value} {H0 H H' : Hp}
set_option maxRecDepth 100000
namespace HL
/-- What has blocks: a slice or a pointer, or a set of blocks. -/
class Bks (α : Type) where inb : α → Nat → Prop
instance instBV : Bks Value := ⟨fun v b => bk v = some b⟩
def Rg : Type := Nat → Prop
instance instBR : Bks Rg := ⟨fun S b => S b⟩
def Apt {α β : Type} [Bks α] [Bks β] (u : α) (v : β) : Prop := ∀ b, Bks.inb u b → ¬ Bks.inb v b
def Kn {α : Type} [Bks α] (H : Hp) (u : α) : Prop := ∀ b, Bks.inb u b → ∃ o, H b = some o
def Nws (H : Hp) (S : Rg) : Prop := ∀ b, S b → H b = none
def OffS (S : Rg) (H H' : Hp) : Prop := ∀ b o, H b = some o → ¬ S b → H' b = some o
section
variable {α β : Type} [Bks α] [Bks β] {u : α} {v : β} {H H' : Hp} {S : Rg}
theorem Apt.symm (h : Apt u v) : Apt v u := fun b h1 h2 => h b h2 h1
theorem Apt.of_nws (hu : Kn H u) (hn : Nws H S) : Apt u S := fun b h1 h2 => by
  obtain ⟨o, ho⟩ := hu b h1
  rw [hn b h2] at ho; exact absurd ho (by simp)
theorem Apt.of_nw (hu : Kn H u) (hn : Nw H w) : Apt u w := fun b h1 h2 => by
  obtain ⟨o, ho⟩ := hu b h1
  rw [hn b h2] at ho; exact absurd ho (by simp)
theorem Nws.le (h : Nws H' S) (hl : Le H H') : Nws H S := fun b hb => by
  cases ho : H b with
  | none => rfl
  | some o => have := hl b o ho; rw [h b hb] at this; exact absurd this (by simp)
theorem OffS.le (h : OffS S H H') (hl : Le H0 H) (hn : Nws H0 S) : Le H0 H' := fun b o hb =>
  h b o (hl b o hb) (fun e => by rw [hn b e] at hb; exact absurd hb (by simp))
theorem OffS.trans {A B C : Hp} (h : OffS S A B) (h' : OffS S B C) : OffS S A C := fun b o hb hv => h' b o (h b o hb hv) hv
theorem OffS.of_le (h : Le H H') : OffS S H H' := fun b o hb _ => h b o hb
/-- What has no block of a set stays. -/
theorem OffS.off (h : OffS S H H') (ha : Apt w S) : ∀ b o, bk w = some b → H b = some o → H' b = some o := fun b o hb ho => h b o ho (ha b hb)
end
theorem Own.offS {α : Type} {enc : α → Value} {l : List α} {S : Rg} (h : Own enc H u l) (ho : OffS S H H') (ha : Apt u S) : Own enc H' u l := by
  obtain ⟨a, c, rfl, hc, hr⟩ := h
  refine ⟨a, c, rfl, hc, fun h0 => ?_⟩
  obtain ⟨b, off, cs, e, rfl, hb, hs, hcs⟩ := hr h0
  refine ⟨b, off, cs, e, rfl, ho b _ hb (ha b ?_), hs, hcs⟩
  show bk _ = some b
  simp only [bk]
  rw [if_neg (by omega)]
theorem Cel.offS {p : Value} {cs : List Value} {S : Rg} (h : Cel H p cs) (ho : OffS S H H') (ha : Apt p S) : Cel H' p cs := by
  obtain ⟨r, e, rfl, hr⟩ := h
  exact ⟨r, e, rfl, ho r _ hr (ha r rfl)⟩
theorem Ro.offS {α : Type} {enc : α → Value} {l : List α} {S : Rg} (h : Ro enc H u l) (ho : OffS S H H') (ha : Apt u S) : Ro enc H' u l := by
  obtain ⟨⟨a, c, rfl, hc, hr⟩, hk⟩ := h
  have key : ∀ b, bk (.slice a l.length c) = some b → H' b = H b := fun b hb => by
    obtain ⟨o, hbo⟩ := hk b hb
    rw [ho b o hbo (ha b hb), hbo]
  refine ⟨⟨a, c, rfl, hc, fun i hi => ?_⟩, fun b hb => by rw [key b hb]; exact hk b hb⟩
  obtain ⟨ad, rfl, hh⟩ := hr i hi
  refine ⟨ad, rfl, ?_⟩
  have e : H' (ad.add i).block = H (ad.add i).block := by
    rw [add_block]
    exact key _ (by simp only [bk]; rw [if_neg (by omega)])
  unfold Hp.cell? at hh ⊢
  rw [e]; exact hh
/-- A field. -/
structure FdL where
  r : Int
  c : Int
  l : List Int
  deriving DecidableEq
def fd0 : FdL := ⟨0, 0, []⟩
def RelF (P : Value → List Int → Prop) : List Fv → List FdL → Prop
  | [], [] => True
  | x :: L, f :: fs => (x.r = f.r ∧ x.c = f.c ∧ P x.v f.l) ∧ RelF P L fs
  | _, _ => False
section
variable {P Q : Value → List Int → Prop}
theorem RelF.len : ∀ {L : List Fv} {fs : List FdL}, RelF P L fs → L.length = fs.length
  | [], [], _ => rfl
  | x :: L, f :: fs, h => congrArg (· + 1) (RelF.len h.2)
  | [], _ :: _, h => h.elim
  | _ :: _, [], h => h.elim
theorem RelF.imp : ∀ {L : List Fv} {fs : List FdL}, RelF P L fs → (∀ x ∈ L, ∀ l, P x.v l → Q x.v l) → RelF Q L fs
  | [], [], _, _ => trivial
  | x :: L, f :: fs, h, g => ⟨⟨h.1.1, h.1.2.1, g x (by simp) _ h.1.2.2⟩, RelF.imp h.2 (fun y hy => g y (by simp [hy]))⟩
  | [], _ :: _, h, _ => h.elim
  | _ :: _, [], h, _ => h.elim
theorem RelF.app : ∀ {L M : List Fv} {fs gs : List FdL}, RelF P L fs → RelF P M gs → RelF P (L ++ M) (fs ++ gs)
  | [], M, [], gs, _, h => h
  | x :: L, M, f :: fs, gs, h1, h2 => ⟨h1.1, RelF.app h1.2 h2⟩
  | [], _, _ :: _, _, h, _ => h.elim
  | _ :: _, _, [], _, h, _ => h.elim
theorem RelF.get : ∀ {L : List Fv} {fs : List FdL} {i : Nat}, RelF P L fs → i < L.length → (at_ fv0 L (i : Int)).r = (at_ fd0 fs (i : Int)).r ∧ (at_ fv0 L (i : Int)).c = (at_ fd0 fs (i : Int)).c ∧ P (at_ fv0 L (i : Int)).v (at_ fd0 fs (i : Int)).l
  | [], [], i, _, hi => absurd hi (by simp)
  | x :: L, f :: fs, 0, h, _ => h.1
  | x :: L, f :: fs, i + 1, h, hi => RelF.get (L := L) (fs := fs) (i := i) h.2 (by simpa using hi)
  | [], _ :: _, _, h, _ => h.elim
  | _ :: _, [], _, h, _ => h.elim
end
/-- A slice of fields, whose blocks and those of its fields are owned. -/
def Fam (H : Hp) (v : Value) (S : Rg) (fs : List FdL) : Prop :=
  ∃ L, OwnE 3 encFv H v L ∧ RelF (Own eI H) L fs ∧ (∀ x ∈ L, Apart v x.v) ∧ L.Pairwise (fun x y => Apart x.v y.v) ∧ ∀ b, S b ↔ (bk v = some b ∨ ∃ x ∈ L, bk x.v = some b)
theorem RelF.mem {P : Value → List Int → Prop} : ∀ {L : List Fv} {fs : List FdL}, RelF P L fs → ∀ x ∈ L, ∃ l, P x.v l
  | [], [], _ => by simp
  | x :: L, f :: fs, h => fun y hy => by
    rcases List.mem_cons.mp hy with rfl | hy
    · exact ⟨_, h.1.2.2⟩
    · exact RelF.mem h.2 y hy
  | [], _ :: _, h => h.elim
  | _ :: _, [], h => h.elim
section
variable {H H' : Hp} {v : Value} {S : Rg} {fs : List FdL}
theorem Fam.known (h : Fam H v S fs) : Kn H S := by
  obtain ⟨L, h1, h2, h3, h4, h5⟩ := h
  intro b hb
  rcases (h5 b).mp hb with e | ⟨x, hx, e⟩
  · exact h1.known b e
  · obtain ⟨l, hl⟩ := h2.mem x hx
    exact hl.known b e
theorem Fam.le (h : Fam H v S fs) (hl : Le H H') : Fam H' v S fs := by
  obtain ⟨L, h1, h2, h3, h4, h5⟩ := h
  exact ⟨L, h1.le hl, h2.imp (fun _ _ _ h => h.le hl), h3, h4, h5⟩
theorem Fam.off {w : Value} (h : Fam H v S fs) (ho : Off w H H') (ha : Apt S w) : Fam H' v S fs := by
  obtain ⟨L, h1, h2, h3, h4, h5⟩ := h
  exact ⟨L, h1.off ho (fun b hb => ha b ((h5 b).mpr (.inl hb))), h2.imp (fun x hx _ h => h.off ho (fun b hb => ha b ((h5 b).mpr (.inr ⟨x, hx, hb⟩)))), h3, h4, h5⟩
theorem OwnE.offS {n : Nat} {α : Type} {enc : α → List Value} {l : List α} (h : OwnE n enc H u l) (ho : OffS S H H') (ha : Apt u S) : OwnE n enc H' u l := by
  obtain ⟨a, c, rfl, hc, hr⟩ := h
  refine ⟨a, c, rfl, hc, fun h0 => ?_⟩
  obtain ⟨b, off, cs, e, rfl, hb, hs, hcs⟩ := hr h0
  refine ⟨b, off, cs, e, rfl, ho b _ hb (ha b ?_), hs, hcs⟩
  show bk _ = some b
  simp only [bk]
  rw [if_neg (by omega)]
theorem Fam.offS {T : Rg} (h : Fam H v S fs) (ho : OffS T H H') (ha : Apt S T) : Fam H' v S fs := by
  obtain ⟨L, h1, h2, h3, h4, h5⟩ := h
  exact ⟨L, h1.offS ho (fun b hb => ha b ((h5 b).mpr (.inl hb))), h2.imp (fun x hx _ h => h.offS ho (fun b hb => ha b ((h5 b).mpr (.inr ⟨x, hx, hb⟩)))), h3, h4, h5⟩
theorem Fam.len (h : Fam H v S fs) : vLenSl v = some (.int .i64 fs.length) := by
  obtain ⟨L, h1, h2, _⟩ := h
  rw [h1.len, h2.len]
theorem Fam.one (h : Fam H v S fs) : oneCell v = true := by obtain ⟨L, h1, _⟩ := h; exact h1.one
theorem Fam.cells (h : Fam H v S fs) : v.cells = #[v] := by obtain ⟨L, h1, _⟩ := h; exact h1.cells
theorem Fam.isSl (h : Fam H v S fs) : ∃ a n c, v = .slice a n c := by obtain ⟨L, h1, _⟩ := h; exact h1.isSl
theorem Fam.cast {gs : List FdL} (e : fs = gs) (h : Fam H v S fs) : Fam H v S gs := e ▸ h
theorem Fam.nil_of (a : Option Addr) : Fam H (.slice a 0 0) (fun _ => False) [] :=
  ⟨[], OwnE.nil_of a, trivial, by simp, List.Pairwise.nil, fun b => ⟨fun h => h.elim, fun h => by
    rcases h with h | ⟨x, hx, _⟩
    · cases a <;> simp [bk] at h
    · simp at hx⟩⟩
/-- One more. -/
theorem Fam.push {bytes : Nat} {z : Array Value} {e : TypeId} {r c : Int} {l : List Int} {K : Value → Hp → Prop} (h : Fam H v S fs) (hz : z.size = 3) (hw : SlE 3 encFv H w [⟨r, c, x⟩]) (hx : Own eI H x l) (ax : Apt x S)
    (hb : bytes ≤ 64) (hl : fs.length < 1000000)
    (hk : ∀ v' S' H', Fam H' v' S' (fs ++ [⟨r, c, l⟩]) → OffS S H H' → (∀ b, S' b → S b ∨ bk x = some b ∨ H b = none) → (∀ b, bk x = some b → S' b) → Own eI H' x l → K v' H') : apd 3 bytes z e v w H K := by
  obtain ⟨L, h1, h2, h3, h4, h5⟩ := h
  have hlen := h2.len
  have axv : Apart x v := fun b hb hv => ax b hb ((h5 b).mpr (.inl hv))
  refine OwnE.apd h1 encFv_n hz hw (fun y hy t ht => ?_) hb (by simp; omega) (fun v' H' ov off hb' => ?_)
  · simp only [List.mem_singleton] at hy
    subst hy
    simp only [encFv, List.mem_cons, List.not_mem_nil, or_false] at ht
    rcases ht with rfl | rfl | rfl
    · rfl
    · rfl
    · exact hx.one
  have ax' : ∀ y ∈ L, Apart v' y.v := fun y hy b e1 e2 => by
    rcases hb' b e1 with e3 | e3
    · exact h3 y hy b e3 e2
    · obtain ⟨m, hm⟩ := h2.mem y hy
      obtain ⟨o, ho⟩ := hm.known b e2
      rw [e3] at ho; simp at ho
  have axx : Apart v' x := fun b e1 e2 => by
    rcases hb' b e1 with e3 | e3
    · exact axv b e2 e3
    · obtain ⟨o, ho⟩ := hx.known b e2
      rw [e3] at ho; simp at ho
  have hx' := hx.off off axv
  refine hk v' (fun b => bk v' = some b ∨ ∃ y ∈ L ++ [⟨r, c, x⟩], bk y.v = some b) H' ⟨_, ov, ?_, ?_, ?_, fun b => Iff.rfl⟩ (fun b o hbo hn => off b o hbo (fun e => hn ((h5 b).mpr (.inl e)))) ?_ (fun b hb => .inr ⟨⟨r, c, x⟩, by simp, hb⟩) hx'
  · exact (h2.imp (fun y hy m h => h.off off (h3 y hy).symm)).app ⟨⟨rfl, rfl, hx'⟩, trivial⟩
  · intro y hy
    rcases List.mem_append.mp hy with hy | hy
    · exact ax' y hy
    · simp only [List.mem_singleton] at hy; subst hy; exact axx
  · rw [List.pairwise_append]
    refine ⟨h4, List.pairwise_singleton _ _, fun y hy t ht => ?_⟩
    simp only [List.mem_singleton] at ht
    subst ht
    exact fun b e1 e2 => ax b e2 ((h5 b).mpr (.inr ⟨y, hy, e1⟩))
  · intro b hb
    rcases hb with hb | ⟨y, hy, e⟩
    · rcases hb' b hb with e3 | e3
      · exact .inl ((h5 b).mpr (.inl e3))
      · exact .inr (.inr e3)
    · rcases List.mem_append.mp hy with hy | hy
      · exact .inl ((h5 b).mpr (.inr ⟨y, hy, e⟩))
      · simp only [List.mem_singleton] at hy; subst hy; exact .inr (.inl e)
/-- Apart from what was pushed to. -/
theorem Apt.push {α : Type} [Bks α] {u : α} {S' : Rg} {x : Value} (hu : Kn H u) (hS : Apt u S) (hx : Apt u x) (hb : ∀ b, S' b → S b ∨ bk x = some b ∨ H b = none) : Apt u S' := fun b h1 h2 => by
  rcases hb b h2 with h | h | h
  · exact hS b h1 h
  · exact hx b h1 h
  · obtain ⟨o, ho⟩ := hu b h1
    rw [h] at ho; simp at ho
theorem Nws.push {S' : Rg} (hl : Le H0 H) (hS : Nws H0 S) (hx : Nw H0 x) (hb : ∀ b, S' b → S b ∨ bk x = some b ∨ H b = none) : Nws H0 S' := fun b h2 => by
  rcases hb b h2 with h | h | h
  · exact hS b h
  · exact hx b h
  · cases ho : H0 b with
    | none => rfl
    | some o => rw [hl b o ho] at h; simp at h
end
end HL
end Go.Proofs.Ythmdmbbdjbhcoaa
/- Maps from texts to numbers, as owned things. -/
namespace Go.Proofs.Ythmdmbbdjbhcoaa.HL
set_option maxRecDepth 100000
/-- The entries of a map, told as texts and numbers. -/
def entsS (es : List MapEntry) : List (ByteArray × Int) → Prop := fun ms => es.map (fun e => (e.key, e.val)) = ms.map (fun m => (Value.string m.1, Value.int .i64 m.2))
theorem entsS_keys {es : List MapEntry} {ms : List (ByteArray × Int)} (h : entsS es ms) : keysS es := fun e he => by
  have : (e.key, e.val) ∈ es.map (fun e => (e.key, e.val)) := List.mem_map.mpr ⟨e, he, rfl⟩
  rw [h] at this
  obtain ⟨m, _, hm⟩ := List.mem_map.mp this
  exact ⟨m.1, by injection hm with h1 _; exact h1.symm⟩
/-- A map that is owned. -/
def Mp (H : Hp) (p : Value) (S : Rg) (ms : List (ByteArray × Int)) : Prop := ∃ r es c, p = .map (some r) ∧ H r = some (.map es c) ∧ entsS es.toList ms ∧ ∀ b, S b ↔ b = r
section
variable {H H' : Hp} {p : Value} {S : Rg} {ms : List (ByteArray × Int)}
theorem Mp.known (h : Mp H p S ms) : Kn H S := by
  obtain ⟨r, es, c, _, hr, _, hS⟩ := h
  intro b hb
  rw [(hS b).mp hb]; exact ⟨_, hr⟩
theorem Mp.le (h : Mp H p S ms) (hl : Le H H') : Mp H' p S ms := by
  obtain ⟨r, es, c, e, hr, he, hS⟩ := h
  exact ⟨r, es, c, e, hl r _ hr, he, hS⟩
theorem Mp.off {w : Value} (h : Mp H p S ms) (ho : Off w H H') (ha : Apt S w) : Mp H' p S ms := by
  obtain ⟨r, es, c, e, hr, he, hS⟩ := h
  exact ⟨r, es, c, e, ho r _ hr (ha r ((hS r).mpr rfl)), he, hS⟩
theorem Mp.offS {T : Rg} (h : Mp H p S ms) (ho : OffS T H H') (ha : Apt S T) : Mp H' p S ms := by
  obtain ⟨r, es, c, e, hr, he, hS⟩ := h
  exact ⟨r, es, c, e, ho r _ hr (ha r ((hS r).mpr rfl)), he, hS⟩
/-- A new map. -/
theorem Mp.new_ {K : Value → Hp → Prop} (hk : ∀ p S H', Mp H' p S [] → Nws H S → Le H H' → K p H') : opEv.nwM H K := fun r hr =>
  hk (.map (some r)) (fun b => b = r) (H.put r (.map #[] 0)) ⟨r, #[], 0, rfl, Hp.put_same _ _ _, rfl, fun _ => Iff.rfl⟩ (fun b hb => by have : b = r := hb; rw [this]; exact hr) (Le.put _ hr)
/-- What the map has at a text. -/
def mget (k : ByteArray) : List (ByteArray × Int) → Option Int
  | [] => none
  | m :: ms => bif k == m.1 then some m.2 else mget k ms
theorem findS_mget (k : ByteArray) : ∀ (es : List MapEntry) (ms : List (ByteArray × Int)) (i : Nat), entsS es ms → (findS k es i).map Prod.snd = (mget k ms).map (Value.int .i64)
  | [], [], _, _ => rfl
  | e :: es, m :: ms, i, h => by
    simp only [entsS, List.map_cons, List.cons.injEq, Prod.mk.injEq] at h
    obtain ⟨⟨h1, h2⟩, h3⟩ := h
    have ih := findS_mget k es ms (i + 1) h3
    unfold findS mget
    rw [h1]
    simp only [keyIs]
    cases k == m.1
    · exact ih
    · simp [h2]
  | [], _ :: _, _, h => by simp [entsS] at h
  | _ :: _, [], _, h => by simp [entsS] at h
theorem Mp.look {P : Program} {t kt et : TypeId} {k : ByteArray} {K : Value → Hp → Prop} (h : Mp H p S ms) (ht : P.underlying t = some (.map kt et)) (hk : P.underlying kt = some .string) (hz : zeroO P et = some (.int .i64 0))
    (hK : K (.tuple #[.int .i64 ((mget k ms).getD 0), .bool (mget k ms).isSome]) H) : hp P (Instr.lookup t p (.string k) true) H K := by
  obtain ⟨r, es, c, rfl, hr, he, hS⟩ := h
  refine hp_lookup ht hk hz hr (entsS_keys he) ?_
  have e := findS_mget k es.toList ms 0 he
  cases hf : findS k es.toList 0 with
  | none =>
    rw [hf] at e
    cases hm : mget k ms with
    | none => rw [hm] at hK; exact hK
    | some v => rw [hm] at e; simp at e
  | some x =>
    rw [hf] at e
    cases hm : mget k ms with
    | none => rw [hm] at e; simp at e
    | some v =>
      rw [hm] at hK e
      simp only [Option.map_some, Option.some.injEq] at e
      simp only [e]; exact hK
/-- One more entry. -/
theorem Mp.add {P : Program} {t kt et : TypeId} {k : ByteArray} {x : Int} {K : Unit → Hp → Prop} (h : Mp H p S ms) (ht : P.underlying t = some (.map kt et)) (hk : P.underlying kt = some .string) (hn : mget k ms = none)
    (hK : ∀ H', Mp H' p S (ms ++ [(k, x)]) → OffS S H H' → K () H') : hp P (Instr.mapUpdate t p (.string k) (.int .i64 x)) H K := by
  obtain ⟨r, es, c, rfl, hr, he, hS⟩ := h
  have e := findS_mget k es.toList ms 0 he
  have hf : findS k es.toList 0 = none := by
    rw [hn] at e
    cases h : findS k es.toList 0 with
    | none => rfl
    | some x => rw [h] at e; simp at e
  refine hp_mapUpdate_new ht hk hr (entsS_keys he) hf ?_
  refine hK _ ⟨r, _, c + 1, rfl, Hp.put_same _ _ _, ?_, hS⟩ (fun b o hb hn => ?_)
  · unfold entsS at he ⊢
    rw [Array.toList_push, List.map_append, he, List.map_append]; rfl
  · rw [Hp.put_ne _ _ (by rintro rfl; exact hn ((hS _).mpr rfl))]; exact hb
end
end Go.Proofs.Ythmdmbbdjbhcoaa.HL
/- Bytes in slices. -/
namespace Go.Proofs.Ythmdmbbdjbhcoaa.HL
abbrev eU : Int → Value := .int .u8
/-- Numbers that are bytes. -/
def bytP (l : List Int) : Prop := ∀ x ∈ l, 0 ≤ x ∧ x ≤ 255
end Go.Proofs.Ythmdmbbdjbhcoaa.HL
/- Bytes told as texts. -/
namespace Go.Proofs.Ythmdmbbdjbhcoaa.HL
set_option maxRecDepth 100000
def bytesS (s : ByteArray) (l : List Int) : ByteArray := l.foldl (fun s n => s.push (UInt8.ofNat n.toNat)) s
theorem val_bytesFrom (P : Program) (H : Hp) : ∀ (l : List Int) (s : ByteArray),
    val P (forIn (l.map eU) s fun c r => (match c with
      | Value.int IntKind.u8 n => pure (ForInStep.yield (r.push (UInt8.ofNat n.toNat)))
      | _ => do
        stuck "bytesToString: byte expected"
        pure (ForInStep.yield r) : Sem (ForInStep ByteArray))) H = some (bytesS s l)
  | [], s => rfl
  | n :: l, s => by
    simp only [List.map_cons, List.forIn_cons, val_bind', val_pure, Option.bind_some]
    exact val_bytesFrom P H l _
theorem val_bytesToString {P : Program} {H : Hp} {v : Value} {l : List Int} (h : Sl eU H v l) : val P (Conv.bytesToString v) H = some (.string (bytesS .empty l)) := by
  have hf := h.firstC
  obtain ⟨a, c, rfl, hc, hr⟩ := h
  cases a with
  | none =>
    have : l = [] := by
      cases l with
      | nil => rfl
      | cons x r => obtain ⟨ad, e, _⟩ := hr 0 (by simp); simp at e
    subst this
    rfl
  | some ad =>
    simp only [HL.firstC, Nat.mul_one] at hf
    unfold Conv.bytesToString
    simp only [val_bind', val_loadCells P H ad l.length _ hf, Option.bind_some]
    have := val_bytesFrom P H l .empty
    simp only [List.forIn_toArray]
    exact Eq.trans (congrArg (fun o => Option.bind o (fun v => val P (pure (Value.string v)) H)) this) rfl
theorem bytesS_data : ∀ (l : List Int) (s : ByteArray), (bytesS s l).data.toList = s.data.toList ++ l.map fun n => UInt8.ofNat n.toNat
  | [], s => by simp [bytesS]
  | n :: l, s => by
    have := bytesS_data l (s.push (UInt8.ofNat n.toNat))
    simp only [bytesS, List.foldl_cons, List.map_cons] at this ⊢
    rw [this, ByteArray.data_push, Array.toList_push, List.append_assoc]; rfl
theorem bytesS_inj {l m : List Int} (hl : ∀ x ∈ l, 0 ≤ x ∧ x ≤ 255) (hm : ∀ x ∈ m, 0 ≤ x ∧ x ≤ 255) (h : bytesS .empty l = bytesS .empty m) : l = m := by
  have e := congrArg (fun b => b.data.toList) h
  simp only [bytesS_data] at e
  have e2 := List.append_cancel_left e
  clear e h
  induction l generalizing m with
  | nil => cases m with
    | nil => rfl
    | cons y m => simp at e2
  | cons x l ih => cases m with
    | nil => simp at e2
    | cons y m =>
      simp only [List.map_cons, List.cons.injEq] at e2
      have b1 := hl x (by simp)
      have b2 := hm y (by simp)
      have e3 : x = y := by
        have := congrArg UInt8.toNat e2.1
        simp only [UInt8.toNat_ofNat'] at this
        omega
      rw [e3, ih (fun z hz => hl z (by simp [hz])) (fun z hz => hm z (by simp [hz])) e2.2]
theorem beq_bytes (a b : ByteArray) : (a == b) = decide (a = b) := by
  have e : (a == b) = (a.data == b.data) := rfl
  rw [e, Bool.eq_iff_iff, decide_eq_true_eq, beq_iff_eq]
  exact ⟨fun h => ByteArray.ext h, fun h => congrArg ByteArray.data h⟩
end Go.Proofs.Ythmdmbbdjbhcoaa.HL
/- What the small functions of structs come to: copies, sizes, what is alike. -/
namespace Go.Proofs.Ythmdmbbdjbhcoaa
open HL
set_option maxRecDepth 100000
end Go.Proofs.Ythmdmbbdjbhcoaa
/- Slices of fields that are compared, marked and held. -/
namespace Go.Proofs.Ythmdmbbdjbhcoaa
open HL
set_option maxRecDepth 100000
namespace HL
theorem at_get {α : Type} (d : α) {l : List α} {i : Nat} (h : i < l.length) : at_ d l (i : Int) = l[i] := by
  unfold at_; rw [List.getD_eq_getElem?_getD, Int.toNat_natCast, List.getElem?_eq_getElem h]; rfl
/-- A new row of elements. -/
theorem bSE_i {α : Type} {enc : α → List Value} {n len : Nat} {z : Array Value} {e : TypeId} {parts : List (Nat × Value)} {l : List α} {H : Hp} {K : Value → Hp → Prop} (h1 : len * n ≤ 1000000) (hl : l.length = len) (hn : ∀ x, (enc x).length = n)
    (hf : Instr.fill (fun i => some (i * n, n)) (if len * n = 0 then #[] else zrow z (len * n)) parts = some (l.flatMap enc).toArray) (hk : ∀ v H', OwnE n enc H' v l → Nw H v → Le H H' → K v H') : bS n len z e parts H K := by
  refine ⟨by omega, ?_⟩
  rw [hf]
  intro r hr
  subst hl
  have fl := flat_len hn l
  refine hk _ _ ⟨some ⟨r, 0, none⟩, l.length, rfl, Nat.le_refl _, fun _ => ⟨r, 0, _, e, rfl, Hp.put_same _ _ _, by simp only [List.size_toArray]; omega, fun i hi => by simp [hi]⟩⟩ ?_ (Le.put _ hr)
  intro b hb
  simp only [bk] at hb
  split at hb
  · simp at hb
  · simp only [Option.some.injEq] at hb; subst hb; exact hr
/-- Fields that are read. -/
def FamS (H : Hp) (v : Value) (fs : List FdL) : Prop := ∃ L, SlE 3 encFv H v L ∧ RelF (Sl eI H) L fs
section
variable {H H' : Hp} {v : Value} {S : Rg} {fs : List FdL}
theorem Fam.sl (h : Fam H v S fs) : FamS H v fs := by
  obtain ⟨L, h1, h2, _⟩ := h
  exact ⟨L, h1.sl encFv_n, h2.imp (fun _ _ _ h => h.sl)⟩
theorem FamS.le (h : FamS H v fs) (hl : Le H H') : FamS H' v fs := by
  obtain ⟨L, h1, h2⟩ := h
  exact ⟨L, h1.le hl, h2.imp (fun _ _ _ h => h.le hl)⟩
theorem FamS.len (h : FamS H v fs) : vLenSl v = some (.int .i64 fs.length) := by
  obtain ⟨L, h1, h2⟩ := h
  rw [h1.len, h2.len]
theorem FamS.one (h : FamS H v fs) : oneCell v = true := by obtain ⟨L, h1, _⟩ := h; exact h1.one
theorem FamS.cells (h : FamS H v fs) : v.cells = #[v] := by obtain ⟨L, h1, _⟩ := h; exact h1.cells
theorem FamS.cast {gs : List FdL} (e : fs = gs) (h : FamS H v fs) : FamS H v gs := e ▸ h
theorem FamS.ix (h : FamS H v fs) {i : Int} (h0 : 0 ≤ i) (h1 : i < fs.length) : vIx 3 v (.int .i64 i) = some (ptrE 3 v i) := by
  obtain ⟨L, g1, g2⟩ := h
  exact g1.ix encFv_n (by omega) h0 (by rw [g2.len]; exact h1)
theorem FamS.at_ (h : FamS H v fs) {i : Nat} (h1 : i < fs.length) : ∃ x, vLoadN 3 (ptrE 3 v i) H = some (.agg #[.int .i64 (at_ fd0 fs (i : Int)).r, .int .i64 (at_ fd0 fs (i : Int)).c, x]) ∧ Sl eI H x (at_ fd0 fs (i : Int)).l ∧
    vLoad (fp (ptrE 3 v i) 0) H = some (.int .i64 (at_ fd0 fs (i : Int)).r) ∧ vLoad (fp (ptrE 3 v i) 1) H = some (.int .i64 (at_ fd0 fs (i : Int)).c) ∧ vLoad (fp (ptrE 3 v i) 2) H = some x ∧ vFa 0 (ptrE 3 v i) = some (fp (ptrE 3 v i) 0) ∧ vFa 1 (ptrE 3 v i) = some (fp (ptrE 3 v i) 1) ∧ vFa 2 (ptrE 3 v i) = some (fp (ptrE 3 v i) 2) := by
  obtain ⟨L, g1, g2⟩ := h
  have hi : (i : Int) < L.length := by rw [g2.len]; omega
  obtain ⟨e1, e2, e3⟩ := g2.get (i := i) (by omega)
  have e := g1.ldn encFv_n (by omega) fv0 (i := (i : Int)) (by omega) hi
  refine ⟨_, ?_, e3, ?_, ?_, ?_, g1.fa encFv_n (by omega) (by omega) hi 0, g1.fa encFv_n (by omega) (by omega) hi 1, g1.fa encFv_n (by omega) (by omega) hi 2⟩
  · rw [e]; simp only [encFv, e1, e2]
  · rw [g1.ld encFv_n (by omega) fv0 (by omega) hi (k := 0) (by omega) rfl, e1]
  · rw [g1.ld encFv_n (by omega) fv0 (by omega) hi (k := 1) (by omega) rfl, e2]
  · exact g1.ld encFv_n (by omega) fv0 (by omega) hi (k := 2) (by omega) rfl
theorem RelF.set : ∀ {P : Value → List Int → Prop} {L : List Fv} {fs : List FdL} {i : Nat} {x : Fv} {f : FdL}, RelF P L fs → (x.r = f.r ∧ x.c = f.c ∧ P x.v f.l) → RelF P (L.set i x) (fs.set i f)
  | P, [], [], i, x, f, _, _ => trivial
  | P, y :: L, g :: fs, 0, x, f, h, hx => ⟨hx, h.2⟩
  | P, y :: L, g :: fs, i + 1, x, f, h, hx => ⟨h.1, RelF.set h.2 hx⟩
  | _, [], _ :: _, _, _, _, h, _ => h.elim
  | _, _ :: _, [], _, _, _, h, _ => h.elim
theorem RelF.gete {P : Value → List Int → Prop} {L : List Fv} {fs : List FdL} {i : Nat} (h : RelF P L fs) (h1 : i < L.length) (h2 : i < fs.length) : L[i].r = fs[i].r ∧ L[i].c = fs[i].c ∧ P L[i].v fs[i].l := by
  have := h.get h1
  rw [at_get fv0 h1, at_get fd0 h2] at this
  exact this
/-- The cells of one of them, and what is put back. -/
theorem Fam.cut (h : Fam H v S fs) {i : Nat} (hi : i < fs.length) : ∃ x, vLoad (fp (ptrE 3 v (i : Int)) 2) H = some x ∧ Own eI H x fs[i].l ∧ ∀ H' m, Own eI H' x m → Off x H H' → Fam H' v S (fs.set i ⟨fs[i].r, fs[i].c, m⟩) ∧ OffS S H H' := by
  obtain ⟨L, h1, h2, h3, h4, h5⟩ := h
  have hi' : i < L.length := by rw [h2.len]; exact hi
  have g := h2.gete hi' hi
  have hx : ∀ b, bk L[i].v = some b → S b := fun b hb => (h5 b).mpr (.inr ⟨_, List.getElem_mem hi', hb⟩)
  refine ⟨L[i].v, ?_, g.2.2, fun H' m om off => ⟨⟨L, h1.off off (h3 _ (List.getElem_mem hi')), ?_, h3, h4, h5⟩, fun b o hb hn => off b o hb (fun e => hn (hx b e))⟩⟩
  · have := (h1.sl encFv_n).ld encFv_n (by omega) fv0 (i := (i : Int)) (by omega) (by omega) (k := 2) (by omega) (x := L[i].v) (by rw [at_get fv0 hi']; rfl)
    exact this
  · have key : ∀ (L : List Fv) (fs : List FdL) (i : Nat) (hi : i < L.length) (hi2 : i < fs.length), RelF (Own eI H) L fs → L.Pairwise (fun x y => Apart x.v y.v) → Off L[i].v H H' → Own eI H' L[i].v m → RelF (Own eI H') L (fs.set i ⟨fs[i].r, fs[i].c, m⟩) := by
      intro L
      induction L with
      | nil => intro fs i hi; simp at hi
      | cons x L ih =>
        intro fs i hi hi2 hr hp hoff ho
        cases fs with
        | nil => simp at hi2
        | cons f fs =>
          rw [List.pairwise_cons] at hp
          cases i with
          | zero =>
            refine ⟨⟨hr.1.1, hr.1.2.1, ho⟩, hr.2.imp (fun y hy _ h => h.off hoff (fun b e1 e2 => hp.1 y hy b e2 e1))⟩
          | succ i =>
            have hi3 : i < L.length := by simpa using hi
            refine ⟨⟨hr.1.1, hr.1.2.1, hr.1.2.2.off hoff (hp.1 _ (List.getElem_mem hi3))⟩, ih fs i hi3 (by simpa using hi2) hr.2 hp.2 hoff ho⟩
    exact key L fs i hi' hi h2 h4 off om
end
end HL
end Go.Proofs.Ythmdmbbdjbhcoaa
/- Pointers that are only read; elements of a family; texts as keys. -/
namespace Go.Proofs.Ythmdmbbdjbhcoaa
open HL
variable {H : Hp} {v p : Value}
set_option maxRecDepth 100000
namespace HL
/-- A pointer to cells that are read. -/
def CelR (H : Hp) (p : Value) (cs : List Value) : Prop := ∃ a, p = .pointer (some a) ∧ (∃ o, H a.block = some o) ∧ ∀ i (h : i < cs.length), H.cell? (a.add i) = some cs[i]
section
variable {H H' : Hp} {p u v : Value} {cs : List Value}
theorem Cel.r (h : Cel H p cs) : CelR H p cs := by
  obtain ⟨r, e, rfl, hr⟩ := h
  refine ⟨_, rfl, ⟨_, hr⟩, fun i hi => ?_⟩
  simp only [add_none, Hp.cell?, hr, Nat.zero_add]
  simp [hi]
theorem CelR.known (h : CelR H p cs) : ∀ b, bk p = some b → ∃ o, H b = some o := by
  obtain ⟨a, rfl, ho, _⟩ := h
  intro b hb
  simp only [bk, Option.some.injEq] at hb
  subst hb; exact ho
theorem CelR.le (h : CelR H p cs) (hl : Le H H') : CelR H' p cs := by
  obtain ⟨a, rfl, ⟨o, ho⟩, hc⟩ := h
  exact ⟨a, rfl, ⟨o, hl _ _ ho⟩, fun i hi => hl.cell (hc i hi)⟩
theorem CelR.keep (h : CelR H p cs) (hk : ∀ b, bk p = some b → H' b = H b) : CelR H' p cs := by
  obtain ⟨a, rfl, ⟨o, ho⟩, hc⟩ := h
  have e := hk a.block rfl
  refine ⟨a, rfl, ⟨o, by rw [e]; exact ho⟩, fun i hi => ?_⟩
  have := hc i hi
  unfold Hp.cell? at this ⊢
  rw [add_block] at this ⊢
  rw [e]; exact this
theorem CelR.off (h : CelR H p cs) (ho : Off v H H') (ha : Apart p v) : CelR H' p cs := h.keep fun b hb => by
  obtain ⟨o, hh⟩ := h.known b hb
  rw [ho b o hh (ha b hb), hh]
theorem CelR.offS {S : Rg} (h : CelR H p cs) (ho : OffS S H H') (ha : Apt p S) : CelR H' p cs := h.keep fun b hb => by
  obtain ⟨o, hh⟩ := h.known b hb
  rw [ho b o hh (ha b hb), hh]
theorem CelR.apart (h : CelR H p cs) (hn : Nw H v) : Apart p v := Apart.of_nw h.known hn
theorem CelR.fa (h : CelR H p cs) (k : Nat) : vFa k p = some (fp p k) := by
  obtain ⟨a, rfl, _⟩ := h; rfl
theorem CelR.nilC (h : CelR H p cs) : vNilC p = some p := by
  obtain ⟨a, rfl, _⟩ := h; rfl
theorem CelR.ld (h : CelR H p cs) (k : Nat) {x : Value} (hx : cs[k]? = some x) : vLoad (fp p k) H = some x := by
  obtain ⟨a, rfl, _, hc⟩ := h
  obtain ⟨hk, rfl⟩ := List.getElem?_eq_some_iff.mp hx
  exact hc k hk
theorem CelR.ld0 (h : CelR H p cs) {x : Value} (hx : cs[0]? = some x) : vLoad p H = some x := by
  obtain ⟨a, rfl, _, hc⟩ := h
  obtain ⟨hk, rfl⟩ := List.getElem?_eq_some_iff.mp hx
  have := hc 0 hk
  rw [show a.add 0 = a by unfold Addr.add; simp] at this
  exact this
theorem CelR.ldn (h : CelR H p cs) {n : Nat} (hn : cs.length = n) : vLoadN n p H = some (.agg cs.toArray) := by
  obtain ⟨a, rfl, _, hc⟩ := h
  simp only [vLoadN]
  rw [rd_cells (enc := id) a n 0 cs hn (fun i hi => by rw [Nat.zero_add]; exact hc i hi)]
  simp
theorem CelR.cast {ds : List Value} (e : cs = ds) (h : CelR H p cs) : CelR H p ds := e ▸ h
end
theorem OwnE.blk {n : Nat} {α : Type} {enc : α → List Value} {l : List α} (h : OwnE n enc H v l) (hn : ∀ x, (enc x).length = n) (n0 : 0 < n) {i : Nat} (hi : i < l.length) :
    ∃ a c, v = .slice (some a) l.length c ∧ (∃ o, H a.block = some o) ∧ bk v = some a.block ∧ ∀ j (hj : j < n), H.cell? (a.add (i * n + j)) = (enc l[i])[j]? := by
  have hs := h.sl hn
  obtain ⟨a, c, e, hc⟩ := hs.base hn n0 hi
  have hb : bk v = some a.block := by
    obtain ⟨a', c', e', h1, _⟩ := h
    rw [e] at e'
    simp only [Value.slice.injEq] at e'
    rw [e]
    simp only [bk]
    rw [if_neg (by omega)]
  exact ⟨a, c, e, h.known _ hb, hb, hc⟩
/-- An element of a family, by its pointer. -/
theorem Fam.el {S : Rg} {fs : List FdL} {f : FdL} (h : Fam H v S fs) {i : Int} (i0 : 0 ≤ i) (i1 : i < fs.length) (e : at_ fd0 fs i = f) :
    ∃ P x, vIx 3 v (.int .i64 i) = some P ∧ CelR H P [.int .i64 f.r, .int .i64 f.c, x] ∧ Ro eI H x f.l ∧ (∀ b, bk P = some b → S b) ∧ (∀ b, bk x = some b → S b) := by
  obtain ⟨L, h1, h2, h3, h4, h5⟩ := h
  obtain ⟨n, rfl⟩ := Int.eq_ofNat_of_zero_le i0
  have hl := h2.len
  have hn : n < L.length := by omega
  obtain ⟨g1, g2, g3⟩ := h2.get hn
  obtain ⟨a, c, rfl, ho, hb, hc⟩ := h1.blk encFv_n (by omega) hn
  have hx := at_get fv0 hn
  subst e
  refine ⟨.pointer (some (a.add (n * 3))), (at_ fv0 L (n : Int)).v, ?_, ⟨_, rfl, by rw [add_block]; exact ho, fun j hj => ?_⟩, g3.ro, fun b hb2 => ?_, fun b hb2 => ?_⟩
  · simp only [vIx]
    rw [if_pos (by omega)]; rfl
  · simp only [List.length_cons, List.length_nil] at hj
    rw [add_add, hc j (by omega), ← hx]
    simp only [encFv]
    have hj3 : j = 0 ∨ j = 1 ∨ j = 2 := by omega
    rcases hj3 with rfl | rfl | rfl
    · simp [g1]
    · simp [g2]
    · simp
  · simp only [bk, add_block, Option.some.injEq] at hb2
    subst hb2
    exact (h5 _).mpr (.inl hb)
  · exact (h5 _).mpr (.inr ⟨_, at_mem fv0 L (by omega) (by omega), hb2⟩)
theorem Apt.ap2 {α : Type} [Bks α] {z : α} {u u' : Value} {H : Hp} (hz : Kn H z) (ha : Apt z u) (hb : ∀ b, bk u' = some b → bk u = some b ∨ H b = none) : Apt z u' := fun b h1 h2 => by
  rcases hb b h2 with h | h
  · exact ha b h1 h
  · obtain ⟨o, ho⟩ := hz b h1
    rw [h] at ho; simp at ho
def mapSI (P : Program) (t : TypeId) : Bool := match P.underlying t with
  | some (.map kt et) => (match P.underlying kt, zeroO P et with | some .string, some (.int .i64 0) => true | _, _ => false)
  | _ => false
theorem mapSI_of {P : Program} {t : TypeId} (h : mapSI P t = true) : ∃ kt et, P.underlying t = some (.map kt et) ∧ P.underlying kt = some .string ∧ zeroO P et = some (.int .i64 0) := by
  unfold mapSI at h
  split at h
  · rename_i kt et he
    split at h
    · rename_i h1 h2; exact ⟨kt, et, he, h1, h2⟩
    · simp at h
  · simp at h
theorem Mp.look' {P : Program} {t : TypeId} {k : ByteArray} {S : Rg} {ms : List (ByteArray × Int)} {K : Value → Hp → Prop} (h : Mp H p S ms) (ht : mapSI P t = true)
    (hK : K (.tuple #[.int .i64 ((mget k ms).getD 0), .bool (mget k ms).isSome]) H) : hp P (Instr.lookup t p (.string k) true) H K := by
  obtain ⟨kt, et, h1, h2, h3⟩ := mapSI_of ht
  exact h.look h1 h2 h3 hK
theorem Mp.add' {P : Program} {t : TypeId} {k : ByteArray} {x : Int} {S : Rg} {ms : List (ByteArray × Int)} {K : Unit → Hp → Prop} (h : Mp H p S ms) (ht : mapSI P t = true) (hn : mget k ms = none)
    (hK : ∀ H', Mp H' p S (ms ++ [(k, x)]) → OffS S H H' → K () H') : hp P (Instr.mapUpdate t p (.string k) (.int .i64 x)) H K := by
  obtain ⟨kt, et, h1, h2, h3⟩ := mapSI_of ht
  exact h.add h1 h2 hn hK
theorem Mp.cast {S : Rg} {ms ns : List (ByteArray × Int)} (e : ms = ns) (h : Mp H p S ms) : Mp H p S ns := e ▸ h
def cvBS (P : Program) (s d : TypeId) : Bool := match P.underlying s, P.underlying d with
  | some (.slice e), some .string => (match P.underlying e with | some (.int .u8) => true | _ => false)
  | _, _ => false
theorem val_convBS {P : Program} {s d : TypeId} {l : List Int} (h : cvBS P s d = true) (hs : Sl eU H v l) : val P (convert s d v) H = some (.string (bytesS .empty l)) := by
  unfold cvBS at h
  split at h
  · rename_i e h1 h2
    split at h
    · rename_i h3
      have hv := val_bytesToString (P := P) hs
      obtain ⟨a, n, c, rfl⟩ := hs.isSl
      unfold convert
      rw [val_bind', val_underlying, h1, Option.bind_some, val_bind', val_underlying, h2, Option.bind_some]
      simp only
      rw [val_bind', val_underlying, h3, Option.bind_some]
      exact hv
    · simp at h
  · simp at h
theorem vCI_u8 {k : IntKind} {a : Int} (h : 0 ≤ a) (h' : a ≤ 255) : vCI .u8 (.int k a) = some (.int .u8 a) := by
  have : IntKind.u8.wrap a = a := by unfold IntKind.wrap; simp [IntKind.signed, IntKind.bits]; omega
  simp only [vCI, this]
end HL
end Go.Proofs.Ythmdmbbdjbhcoaa
/- Sets of texts: maps from texts to true. -/
namespace Go.Proofs.Ythmdmbbdjbhcoaa.HL
set_option maxRecDepth 100000
def entsT (es : List MapEntry) (ks : List ByteArray) : Prop := es.map (fun e => (e.key, e.val)) = ks.map (fun k => (Value.string k, Value.bool true))
theorem entsT_keys {es : List MapEntry} {ks : List ByteArray} (h : entsT es ks) : keysS es := fun e he => by
  have : (e.key, e.val) ∈ es.map (fun e => (e.key, e.val)) := List.mem_map.mpr ⟨e, he, rfl⟩
  rw [h] at this
  obtain ⟨m, _, hm⟩ := List.mem_map.mp this
  exact ⟨m, by injection hm with h1 _; exact h1.symm⟩
/-- A set of texts that is owned. -/
def MpT (H : Hp) (p : Value) (S : Rg) (ks : List ByteArray) : Prop := ∃ r es c, p = .map (some r) ∧ H r = some (.map es c) ∧ entsT es.toList ks ∧ ∀ b, S b ↔ b = r
section
variable {H H' : Hp} {p : Value} {S : Rg} {ks : List ByteArray}
theorem MpT.known (h : MpT H p S ks) : Kn H S := by
  obtain ⟨r, es, c, _, hr, _, hS⟩ := h
  intro b hb
  rw [(hS b).mp hb]; exact ⟨_, hr⟩
theorem MpT.le (h : MpT H p S ks) (hl : Le H H') : MpT H' p S ks := by
  obtain ⟨r, es, c, e, hr, he, hS⟩ := h
  exact ⟨r, es, c, e, hl r _ hr, he, hS⟩
theorem MpT.off {w : Value} (h : MpT H p S ks) (ho : Off w H H') (ha : Apt S w) : MpT H' p S ks := by
  obtain ⟨r, es, c, e, hr, he, hS⟩ := h
  exact ⟨r, es, c, e, ho r _ hr (ha r ((hS r).mpr rfl)), he, hS⟩
theorem MpT.offS {T : Rg} (h : MpT H p S ks) (ho : OffS T H H') (ha : Apt S T) : MpT H' p S ks := by
  obtain ⟨r, es, c, e, hr, he, hS⟩ := h
  exact ⟨r, es, c, e, ho r _ hr (ha r ((hS r).mpr rfl)), he, hS⟩
theorem MpT.cast {ls : List ByteArray} (e : ks = ls) (h : MpT H p S ks) : MpT H p S ls := e ▸ h
theorem MpT.new_ {K : Value → Hp → Prop} (hk : ∀ p S H', MpT H' p S [] → Nws H S → Le H H' → K p H') : opEv.nwM H K := fun r hr =>
  hk (.map (some r)) (fun b => b = r) (H.put r (.map #[] 0)) ⟨r, #[], 0, rfl, Hp.put_same _ _ _, rfl, fun _ => Iff.rfl⟩ (fun b hb => by have : b = r := hb; rw [this]; exact hr) (Le.put _ hr)
theorem findS_T (k : ByteArray) : ∀ (es : List MapEntry) (ks : List ByteArray) (i : Nat), entsT es ks → (k ∈ ks → ∃ j, ∃ h : j < es.length, findS k es i = some (i + j, .bool true) ∧ es[j].key = .string k ∧ es[j].val = .bool true) ∧ (k ∉ ks → findS k es i = none)
  | [], [], _, _ => ⟨fun h => by simp at h, fun _ => rfl⟩
  | e :: es, m :: ks, i, h => by
    simp only [entsT, List.map_cons, List.cons.injEq, Prod.mk.injEq] at h
    obtain ⟨⟨h1, h2⟩, h3⟩ := h
    obtain ⟨a, b⟩ := findS_T k es ks (i + 1) h3
    unfold findS
    rw [h1]
    simp only [keyIs]
    by_cases hk : k = m
    · subst hk
      rw [beq_bytes, decide_eq_true rfl, cond_true]
      exact ⟨fun _ => ⟨0, by simp, by rw [h2]; rfl, h1, h2⟩, fun g => absurd List.mem_cons_self g⟩
    · rw [beq_bytes, decide_eq_false hk, cond_false]
      refine ⟨fun g => ?_, fun g => b (fun q => g (List.mem_cons_of_mem _ q))⟩
      rcases List.mem_cons.mp g with q | q
      · exact absurd q hk
      · obtain ⟨j, hj, g1, g2, g3⟩ := a q
        exact ⟨j + 1, by simpa using hj, by rw [g1]; congr 2; omega, g2, g3⟩
  | [], _ :: _, _, h => by simp [entsT] at h
  | _ :: _, [], _, h => by simp [entsT] at h
def mapST (P : Program) (t : TypeId) : Bool := match P.underlying t with
  | some (.map kt _) => (match P.underlying kt with | some .string => true | _ => false)
  | _ => false
theorem mapST_of {P : Program} {t : TypeId} (h : mapST P t = true) : ∃ kt et, P.underlying t = some (.map kt et) ∧ P.underlying kt = some .string := by
  unfold mapST at h
  split at h
  · rename_i kt et he
    split at h
    · rename_i h1; exact ⟨kt, et, he, h1⟩
    · simp at h
  · simp at h
/-- One more text, if it is not there. -/
theorem MpT.put {P : Program} {t : TypeId} {k : ByteArray} {ls : List ByteArray} {K : Unit → Hp → Prop} (h : MpT H p S ks) (ht : mapST P t = true) (hls : (k ∈ ks ∧ ls = ks) ∨ (k ∉ ks ∧ ls = ks ++ [k]))
    (hK : ∀ H', MpT H' p S ls → OffS S H H' → K () H') : hp P (Instr.mapUpdate t p (.string k) (.bool true)) H K := by
  obtain ⟨kt, et, h1, h2⟩ := mapST_of ht
  obtain ⟨r, es, c, rfl, hr, he, hS⟩ := h
  obtain ⟨ha, hb⟩ := findS_T k es.toList ks 0 he
  have off : ∀ o, OffS S H (H.put r o) := fun o b ob hb hn => by
    rw [Hp.put_ne _ _ (by rintro rfl; exact hn ((hS _).mpr rfl))]; exact hb
  rcases hls with ⟨hk, rfl⟩ | ⟨hk, rfl⟩
  · obtain ⟨j, hj, g1, g2, g3⟩ := ha hk
    unfold Instr.mapUpdate
    have e1 : val P (getObj r) H = some (.map es c) := by
      show val P (Sem.getObj r Sem.pure) H = _
      simp only [val, hr]
    refine hp_val_bind P _ _ H K _ (by rw [val_underlying, h1]) ?_
    refine hp_val_bind P _ _ H K _ e1 ?_
    refine hp_val_bind P _ _ H K _ (val_checkKey P _ 9999 kt k H h2) ?_
    refine hp_val_bind P _ _ H K _ (val_findKey P kt k es.toList H h2 (entsT_keys he)) ?_
    rw [g1]
    rw [Nat.zero_add]
    have hj' : j < es.size := by simpa using hj
    have ek : (es[j]?.map (fun e => e.key)).getD (.string k) = .string k := by
      rw [Array.getElem?_eq_getElem hj']
      simpa using g2
    simp only [ek]
    have est : val P (Instr.keyThatStays (.string k) (.string k)) H = some (.string k) := by
      unfold Instr.keyThatStays
      have e2 : Instr.sameBits 10000 (.string k) (.string k) = true := by
        show (k == k) = true
        rw [beq_bytes, decide_eq_true rfl]
      rw [if_pos e2, val_pure]
    refine hp_val_bind P _ _ H K _ est ?_
    show hp P (Sem.setObj r _ (Sem.pure ())) H K
    simp only [hp, hr]
    refine hK _ ⟨r, _, c, rfl, Hp.put_same _ _ _, ?_, hS⟩ (off _)
    unfold entsT at he ⊢
    rw [← he]
    apply List.ext_getElem?
    intro i
    simp only [List.getElem?_map, Array.getElem?_toList, Array.getElem?_modify]
    by_cases e : j = i
    · subst e
      rw [if_pos rfl, Array.getElem?_eq_getElem hj']
      simp only [Option.map_some]
      have g2' : es[j].key = .string k := by simpa using g2
      have g3' : es[j].val = .bool true := by simpa using g3
      rw [g2', g3']
    · rw [if_neg e]
  · refine hp_mapUpdate_new h1 h2 hr (entsT_keys he) (hb hk) ?_
    refine hK _ ⟨r, _, c + 1, rfl, Hp.put_same _ _ _, ?_, hS⟩ (off _)
    unfold entsT at he ⊢
    rw [Array.toList_push, List.map_append, he, List.map_append]; rfl
def isMap (P : Program) (t : TypeId) : Bool := match P.underlying t with | some (.map _ _) => true | _ => false
theorem MpT.len {P : Program} {t ty : TypeId} (h : MpT H p S ks) (ht : isMap P t = true) : val P (Builtin.len_ #[t] ty [p].toArray) H = some (.int .i64 ks.length) := by
  obtain ⟨r, es, c, rfl, hr, he, hS⟩ := h
  have hl : es.size = ks.length := by
    have := congrArg List.length he
    simpa using this
  unfold isMap at ht
  split at ht
  · rename_i kt et h1
    have e1 : val P (getObj r) H = some (.map es c) := by
      show val P (Sem.getObj r Sem.pure) H = _
      simp only [val, hr]
    have e2 : ([Value.map (some r)].toArray)[0]? = some (Value.map (some r)) := rfl
    have e3 : (#[t] : Array TypeId)[0]? = some t := rfl
    unfold Builtin.len_
    simp only [e2, e3]
    rw [val_bind', val_underlying, h1, Option.bind_some]
    simp only
    rw [val_bind', e1, Option.bind_some]
    simp only [val_pure, goInt, hl]
  · simp at ht
end
end Go.Proofs.Ythmdmbbdjbhcoaa.HL
/- How many different ones there are; blocks of squares. -/
namespace Go.Proofs.Ythmdmbbdjbhcoaa
open HL
variable {n a t : Nat} {r c z m : Int} {l : List Int}
set_option maxRecDepth 100000
section
variable {G : Nat → List Int}
/-- Something alike was there before. -/
def dupW (G : Nat → List Int) (k : Nat) : Prop := ∃ i, i < k ∧ G i = G k
instance (G : Nat → List Int) (k : Nat) : Decidable (dupW G k) := by unfold dupW; infer_instance
def dsK (G : Nat → List Int) : Nat → List ByteArray
  | 0 => []
  | n + 1 => if dupW G n then dsK G n else dsK G n ++ [bytesS .empty (G n)]
theorem dsK_mem {x : ByteArray} : ∀ n, x ∈ dsK G n ↔ ∃ j, j < n ∧ x = bytesS .empty (G j)
  | 0 => by simp [dsK]
  | n + 1 => by
    have ih := dsK_mem (x := x) n
    unfold dsK
    split
    · rename_i h
      rw [ih]
      constructor
      · rintro ⟨j, h1, h2⟩; exact ⟨j, by omega, h2⟩
      · rintro ⟨j, h1, h2⟩
        by_cases e : j = n
        · subst e
          obtain ⟨i, hi, he⟩ := h
          exact ⟨i, hi, by rw [h2, he]⟩
        · exact ⟨j, by omega, h2⟩
    · rw [List.mem_append, ih, List.mem_singleton]
      constructor
      · rintro (⟨j, h1, h2⟩ | h2)
        · exact ⟨j, by omega, h2⟩
        · exact ⟨n, by omega, h2⟩
      · rintro ⟨j, h1, h2⟩
        by_cases e : j = n
        · subst e; exact .inr h2
        · exact .inl ⟨j, by omega, h2⟩
theorem dsK_put (hb : ∀ j, ∀ x ∈ G j, 0 ≤ x ∧ x ≤ 255) : (bytesS .empty (G n) ∈ dsK G n ∧ dsK G (n + 1) = dsK G n) ∨ (bytesS .empty (G n) ∉ dsK G n ∧ dsK G (n + 1) = dsK G n ++ [bytesS .empty (G n)]) := by
  by_cases h : dupW G n
  · left
    refine ⟨(dsK_mem n).mpr ?_, if_pos h⟩
    obtain ⟨i, hi, he⟩ := h
    exact ⟨i, hi, by rw [he]⟩
  · right
    refine ⟨fun g => h ?_, if_neg h⟩
    obtain ⟨j, hj, he⟩ := (dsK_mem n).mp g
    exact ⟨j, hj, (bytesS_inj (hb n) (hb j) he).symm⟩
/-- Something among the first is alike. -/
def exL (L : List FdL) (x : List Int) (j : Nat) : Prop := ∃ i, i < j ∧ (at_ fd0 L (i : Int)).l = x
instance (L : List FdL) (x : List Int) (j : Nat) : Decidable (exL L x j) := by unfold exL; infer_instance
end
/-- Sizes. -/
def szz (e : Nat) : Int := 2 ^ e
def lgN (r : Int) : Nat := if r = 4 then 3 else if r = 8 then 4 else 5
theorem szz_succ (e : Nat) : szz e * 2 = szz (e + 1) := (Int.pow_succ 2 e).symm
theorem szz_ok (h : r = 4 ∨ r = 8 ∨ r = 16) {e : Nat} (he : e ≤ lgN r) : (szz e ≤ r ↔ e < lgN r) ∧ 1 ≤ szz e ∧ szz e ≤ 32 ∧ (e < lgN r → szz e * (r / szz e) = r ∧ 1 ≤ r / szz e ∧ r / szz e ≤ 16) := by
  have h5 : e ≤ 5 := by unfold lgN at he; split at he <;> (try split at he) <;> omega
  have : e = 0 ∨ e = 1 ∨ e = 2 ∨ e = 3 ∨ e = 4 ∨ e = 5 := by omega
  rcases h with rfl | rfl | rfl <;> rcases this with rfl | rfl | rfl | rfl | rfl | rfl <;> first | (revert he; decide) | decide
/-- A square's blocks of a size, row by row. -/
def blkW (c : Int) (l : List Int) (z m : Int) (t : Nat) : List Int := mkL z (cutG c l (z * ((t : Int) / m)) (z * ((t : Int) % m))) (z.toNat * z.toNat)
theorem blkW_at {b : Nat} (h0 : 0 < m) (hb : (b : Int) < m) : mkL z (cutG c l (z * (a : Int)) (z * (b : Int))) (z.toNat * z.toNat) = blkW c l z m (a * m.toNat + b) := by
  unfold blkW
  have e : ((a * m.toNat + b : Nat) : Int) = (b : Int) + (a : Int) * m := by
    rw [Int.natCast_add, Int.natCast_mul, Int.toNat_of_nonneg (by omega)]; omega
  rw [e, Int.add_mul_ediv_right _ _ (by omega), Int.add_mul_emod_self_right, Int.ediv_eq_zero_of_lt (by omega) hb, Int.emod_eq_of_lt (by omega) hb, Int.zero_add]
theorem blkW_in (h : ∀ x ∈ l, 0 ≤ x ∧ x ≤ 1) : ∀ x ∈ blkW c l z m t, 0 ≤ x ∧ x ≤ 255 := by
  intro x hx
  simp only [blkW, mkL, List.mem_map, List.mem_range] at hx
  obtain ⟨i, _, rfl⟩ := hx
  unfold cutG at_
  rw [List.getD_eq_getElem?_getD]
  cases e : l[((z * ((t : Int) / m) + (i : Int) / z) * c + z * ((t : Int) % m) + (i : Int) % z).toNat]? with
  | none => simp
  | some y => have := h y (List.mem_of_getElem? e); simp only [Option.getD_some]; omega
theorem blkW_len : (blkW c l z m t).length = z.toNat * z.toNat := by simp [blkW, mkL]
def kndN (r c : Int) (l : List Int) (e : Nat) : Nat := (dsK (blkW c l (szz e) (r / szz e)) ((r / szz e).toNat * (r / szz e).toNat)).length
def kndF (r c : Int) (l : List Int) (n : Nat) : List Int := (List.range n).map fun e => (kndN r c l e : Int)
def kndL (r c : Int) (l : List Int) : List Int := kndF r c l (lgN r)
theorem kndF_len : (kndF r c l n).length = n := by simp [kndF]
theorem kndF_succ : kndF r c l n ++ [(kndN r c l n : Int)] = kndF r c l (n + 1) := by simp [kndF, List.range_succ]
theorem mul_lt_iff {a : Int} (hz : 1 ≤ z) (h : z * m = r) : (z * a < r ↔ a < m) := by
  subst h
  exact ⟨fun g => Int.lt_of_mul_lt_mul_left g (by omega), fun g => Int.mul_lt_mul_of_pos_left g (by omega)⟩
theorem mul_next : z * (a : Int) + z = z * ((a + 1 : Nat) : Int) := by
  rw [Int.natCast_add, Int.mul_add]; simp
theorem mul_in {a : Int} (hz : 1 ≤ z) (h : z * m = r) (a0 : 0 ≤ a) (ha : a < m) : 0 ≤ z * a ∧ z * a + z ≤ r := by
  refine ⟨Int.mul_nonneg (by omega) a0, ?_⟩
  have := Int.mul_le_mul_of_nonneg_left (show a + 1 ≤ m by omega) (show 0 ≤ z by omega)
  rw [Int.mul_add, Int.mul_one] at this
  omega
end Go.Proofs.Ythmdmbbdjbhcoaa
/- What is held fast; trees of quarters as lists. -/
namespace Go.Proofs.Ythmdmbbdjbhcoaa
open HL
variable {H H' : Hp} {v : Value} {t f : List Int} {j : Nat}
set_option maxRecDepth 100000
namespace HL
/-- Blocks that stand as they stood. -/
def Frm (H1 : Hp) (R : Rg) (H : Hp) : Prop := ∀ b, R b → ∃ o, H1 b = some o ∧ H b = some o
section
variable {H1 H H' : Hp} {R : Rg}
theorem Frm.known (h : Frm H1 R H) : Kn H R := fun b hb => by
  obtain ⟨o, _, ho⟩ := h b hb; exact ⟨o, ho⟩
theorem Frm.le (h : Frm H1 R H) (hl : Le H H') : Frm H1 R H' := fun b hb => by
  obtain ⟨o, h1, ho⟩ := h b hb; exact ⟨o, h1, hl b o ho⟩
theorem Frm.off {w : Value} (h : Frm H1 R H) (ho : Off w H H') (ha : Apt R w) : Frm H1 R H' := fun b hb => by
  obtain ⟨o, h1, h2⟩ := h b hb; exact ⟨o, h1, ho b o h2 (ha b hb)⟩
theorem Frm.offS {T : Rg} (h : Frm H1 R H) (ho : OffS T H H') (ha : Apt R T) : Frm H1 R H' := fun b hb => by
  obtain ⟨o, h1, h2⟩ := h b hb; exact ⟨o, h1, ho b o h2 (ha b hb)⟩
end
/-- All that is known apart from a thing. -/
def rest {α : Type} [Bks α] (H : Hp) (v : α) : Rg := fun b => (∃ o, H b = some o) ∧ ¬ Bks.inb v b
section
variable {α : Type} [Bks α] {H H' : Hp} {v : α}
theorem rest_start : Frm H (rest H v) H := fun b hb => by
  obtain ⟨⟨o, ho⟩, _⟩ := hb; exact ⟨o, ho, ho⟩
theorem rest_apt : Apt v (rest H v) := fun _ h1 h2 => h2.2 h1
theorem rest_new {u : Value} (h : Apt u (rest H v)) : ∀ b, bk u = some b → Bks.inb v b ∨ H b = none := fun b hb => by
  by_cases hv : Bks.inb v b
  · exact .inl hv
  · right
    cases e : H b with
    | none => rfl
    | some o => exact absurd ⟨⟨o, e⟩, hv⟩ (h b hb)
end
theorem rest_off (h : Frm H (rest H v) H') : Off v H H' := fun b o hb hv => by
  obtain ⟨o', h1, h2⟩ := h b ⟨⟨o, hb⟩, hv⟩
  rw [hb] at h1; cases h1; exact h2
theorem rest_offS {S : Rg} (h : Frm H (rest H S) H') : OffS S H H' := fun b o hb hv => by
  obtain ⟨o', h1, h2⟩ := h b ⟨⟨o, hb⟩, hv⟩
  rw [hb] at h1; cases h1; exact h2
theorem Off.refl : Off v H H := fun _ _ h _ => h
end HL
/-- Four parts are told, one behind the other. -/
def fourQ (g : Int → Int → List Int → Int × List Int) (h i k : Int) (t : List Int) : Nat → List Int × List Int
  | 0 => ([], t)
  | q + 1 => ((fourQ g h i k t q).1 ++ [(g (i + (q : Int) / 2 * h) (k + (q : Int) % 2 * h) (fourQ g h i k t q).2).1], (g (i + (q : Int) / 2 * h) (k + (q : Int) % 2 * h) (fourQ g h i k t q).2).2)
def chQ (t : List Int) (j : Nat) : List Int := (t.drop (4 * j)).take 4
/-- Where four numbers stand. -/
def fndQ (t f : List Int) : Int := fstN (fun j => chQ t j = f) (t.length / 4)
def putQ (t f : List Int) : Int × List Int := if 0 ≤ fndQ t f then (fndQ t f + 2, t) else ((t.length : Int) / 4 + 2, t ++ f)
/-- A part of a field is told. -/
def telF (c : Int) (l : List Int) : Nat → Int → Int → List Int → Int × List Int
  | 0, i, k, t => (at_ 0 l (i * c + k), t)
  | e + 1, i, k, t => putQ (fourQ (telF c l e) (szz e) i k t 4).2 (fourQ (telF c l e) (szz e) i k t 4).1
def treL (r c : Int) (l : List Int) : List Int := (telF c l (lgN r - 1) 0 0 []).2
/-- How much a tree may grow. -/
def grQ : Nat → Nat
  | 0 => 0
  | e + 1 => 4 * grQ e + 4
theorem fourQ_len1 {g : Int → Int → List Int → Int × List Int} {h i k : Int} {t : List Int} : ∀ q, (fourQ g h i k t q).1.length = q
  | 0 => rfl
  | q + 1 => by
    have ih := fourQ_len1 (g := g) (h := h) (i := i) (k := k) (t := t) q
    simp only [fourQ, List.length_append, List.length_singleton, ih]
theorem fourQ_len2 {g : Int → Int → List Int → Int × List Int} {h i k : Int} {t : List Int} {G : Nat} (hg : ∀ i k t, t.length % 4 = 0 → (g i k t).2.length % 4 = 0 ∧ (g i k t).2.length ≤ t.length + G) (ht : t.length % 4 = 0) : ∀ q, (fourQ g h i k t q).2.length % 4 = 0 ∧ (fourQ g h i k t q).2.length ≤ t.length + q * G
  | 0 => ⟨ht, by simp [fourQ]⟩
  | q + 1 => by
    obtain ⟨h1, h2⟩ := fourQ_len2 (h := h) (i := i) (k := k) hg ht q
    obtain ⟨h3, h4⟩ := hg (i + (q : Int) / 2 * h) (k + (q : Int) % 2 * h) _ h1
    refine ⟨h3, ?_⟩
    rw [Nat.add_mul, Nat.one_mul]
    simp only [fourQ]
    omega
theorem telF_len (c : Int) (l : List Int) : ∀ e i k t, t.length % 4 = 0 → (telF c l e i k t).2.length % 4 = 0 ∧ (telF c l e i k t).2.length ≤ t.length + grQ e
  | 0, _, _, _, h => ⟨h, by simp [telF]⟩
  | e + 1, i, k, t, h => by
    obtain ⟨h1, h2⟩ := fourQ_len2 (h := szz e) (i := i) (k := k) (telF_len c l e) h 4
    have h3 := fourQ_len1 (g := telF c l e) (h := szz e) (i := i) (k := k) (t := t) 4
    unfold telF putQ grQ
    split
    · dsimp only; exact ⟨h1, by omega⟩
    · dsimp only; simp only [List.length_append, h3]; omega
theorem grQ_le : ∀ e, e ≤ 4 → grQ e ≤ 340 := by decide
theorem fndQ_none (h : ∀ j : Nat, j < t.length / 4 → chQ t j ≠ f) : ¬ 0 ≤ fndQ t f := by
  unfold fndQ; rw [fstN_none h]; omega
theorem fndQ_at (hj : j < t.length / 4) (hp : chQ t j = f) (h : ∀ s : Nat, s < j → chQ t s ≠ f) : fndQ t f = (j : Int) := fstN_at (p := fun j => chQ t j = f) hp h hj
theorem putQ_at (hj : j < t.length / 4) (hp : chQ t j = f) (h : ∀ s : Nat, s < j → chQ t s ≠ f) : putQ t f = ((j : Int) + 2, t) := by
  unfold putQ; rw [fndQ_at hj hp h, if_pos (by omega)]
theorem putQ_none (h : ∀ j : Nat, j < t.length / 4 → chQ t j ≠ f) : putQ t f = ((t.length : Int) / 4 + 2, t ++ f) := by
  unfold putQ; rw [if_neg (fndQ_none h)]
theorem szz_half (e : Nat) : szz (e + 1) / 2 = szz e := by rw [← szz_succ]; exact Int.mul_ediv_cancel _ (by omega)
theorem szz_pos (e : Nat) : 1 ≤ szz e := Int.pow_pos (by omega)
theorem treP_len {r c : Int} {l : List Int} : (selL (sqP r c l) (treL r c l)).length ≤ 1000 := selL_len fun h => by
  have h1 := telF_len c l (lgN r - 1) 0 0 [] rfl
  have h2 := grQ_le (lgN r - 1) (by unfold lgN; split <;> (try split) <;> omega)
  unfold treL
  simp only [List.length_nil] at h1
  omega
end Go.Proofs.Ythmdmbbdjbhcoaa
/- Maps by four numbers. -/
namespace Go.Proofs.Ythmdmbbdjbhcoaa.HL
set_option maxRecDepth 100000
def num4 (P : Program) (e : TypeId) : Bool := match P.underlying e, aggB P e, szO P e with
  | some (.int .i64), some false, some 1 => true
  | _, _, _ => false
theorem num4_of {P : Program} {e : TypeId} (h : num4 P e = true) : P.underlying e = some (.int .i64) ∧ aggB P e = some false ∧ szO P e = some 1 := by
  unfold num4 at h
  split at h
  · rename_i h1 h2 h3; exact ⟨h1, h2, h3⟩
  · simp at h
/-- Four numbers as a value. -/
def ag4 (l : List Int) : Value := .agg #[.int .i64 (at_ 0 l 0), .int .i64 (at_ 0 l 1), .int .i64 (at_ 0 l 2), .int .i64 (at_ 0 l 3)]
theorem range4 : List.range' 0 4 1 = [0, 1, 2, 3] := rfl
theorem val_part4 {P : Program} {e : TypeId} {cs : Array Value} {n : Nat} {v : Value} {H : Hp} (h : num4 P e = true) (hv : cs[n]? = some v) : val P (part e cs n) H = some v := by
  obtain ⟨_, h2, _⟩ := num4_of h
  simp only [part, val_bind', val_isAgg, h2, Option.bind_some, Bool.false_eq_true, if_false, hv, val_pure]
theorem part_ag {P : Program} {e : TypeId} {l : List Int} {H : Hp} (h : num4 P e = true) : val P (part e #[.int .i64 (at_ 0 l 0), .int .i64 (at_ 0 l 1), .int .i64 (at_ 0 l 2), .int .i64 (at_ 0 l 3)] 0) H = some (.int .i64 (at_ 0 l 0)) ∧ val P (part e #[.int .i64 (at_ 0 l 0), .int .i64 (at_ 0 l 1), .int .i64 (at_ 0 l 2), .int .i64 (at_ 0 l 3)] 1) H = some (.int .i64 (at_ 0 l 1)) ∧ val P (part e #[.int .i64 (at_ 0 l 0), .int .i64 (at_ 0 l 1), .int .i64 (at_ 0 l 2), .int .i64 (at_ 0 l 3)] 2) H = some (.int .i64 (at_ 0 l 2)) ∧ val P (part e #[.int .i64 (at_ 0 l 0), .int .i64 (at_ 0 l 1), .int .i64 (at_ 0 l 2), .int .i64 (at_ 0 l 3)] 3) H = some (.int .i64 (at_ 0 l 3)) :=
  ⟨val_part4 h rfl, val_part4 h rfl, val_part4 h rfl, val_part4 h rfl⟩
theorem val_checkKey1 {P : Program} {b : Bool} {n : Nat} {e : TypeId} {v : Value} {H : Hp} (h : num4 P e = true) (hv : ∃ k x, v = .int k x) : val P (Instr.checkKey b (n + 1) e v) H = some () := by
  obtain ⟨h1, _, _⟩ := num4_of h
  obtain ⟨k, x, rfl⟩ := hv
  unfold Instr.checkKey
  rw [val_bind', val_underlying, h1]
  rfl
theorem val_checkKey4 {P : Program} {b : Bool} {n : Nat} {t e : TypeId} {l : List Int} {H : Hp} (ht : P.underlying t = some (.array 4 e)) (h : num4 P e = true) : val P (Instr.checkKey b (n + 2) t (ag4 l)) H = some () := by
  have h3 := (num4_of h).2.2
  unfold Instr.checkKey
  rw [val_bind', val_underlying, ht, Option.bind_some]
  have pa := part_ag (H := H) (l := l) h
  have c1 : ∀ x, val P (Instr.checkKey b (n + 1) e (.int .i64 x)) H = some () := fun x => val_checkKey1 h ⟨_, _, rfl⟩
  simp only [ag4]
  simp only [Std.Legacy.Range.forIn_eq_forIn_range', Std.Legacy.Range.size, Nat.sub_zero, Nat.add_sub_cancel, Nat.div_one, range4, List.forIn_cons, List.forIn_nil, val_bind', val_sizeOf, h3, Option.bind_some, Nat.mul_one, val_pure, pa.1, pa.2.1, pa.2.2.1, pa.2.2.2, c1]
theorem val_eq1 {P : Program} {d : Nat} {e : TypeId} {a b : Int} {H : Hp} (h : num4 P e = true) : val P (Op.equalIn (d + 1) e (.int .i64 a) (.int .i64 b)) H = some (a == b) := by
  obtain ⟨h1, _, _⟩ := num4_of h
  unfold Op.equalIn
  rw [val_bind', val_underlying, h1]
  rfl
def eq4 (l m : List Int) : Bool := at_ 0 l 0 == at_ 0 m 0 && at_ 0 l 1 == at_ 0 m 1 && at_ 0 l 2 == at_ 0 m 2 && at_ 0 l 3 == at_ 0 m 3
theorem val_eq4 {P : Program} {t e : TypeId} {l m : List Int} {H : Hp} (ht : P.underlying t = some (.array 4 e)) (h : num4 P e = true) : val P (Op.equal t (ag4 l) (ag4 m)) H = some (eq4 l m) := by
  have h3 := (num4_of h).2.2
  unfold Op.equal Op.maxDepth Op.equalIn
  rw [val_bind', val_underlying, ht, Option.bind_some]
  have pa := part_ag (H := H) (l := l) h
  have pb := part_ag (H := H) (l := m) h
  have c1 : ∀ a b, val P (Op.equalIn 9999 e (.int .i64 a) (.int .i64 b)) H = some (a == b) := fun a b => val_eq1 h
  simp only [ag4]
  simp only [Std.Legacy.Range.forIn_eq_forIn_range', Std.Legacy.Range.size, Nat.sub_zero, Nat.add_sub_cancel, Nat.div_one, range4, List.forIn_cons, List.forIn_nil, val_bind', val_sizeOf, h3, Option.bind_some, Nat.mul_one, val_pure, pa.1, pa.2.1, pa.2.2.1, pa.2.2.2, pb.1, pb.2.1, pb.2.2.1, pb.2.2.2, c1]
  unfold eq4
  cases e0 : at_ 0 l 0 == at_ 0 m 0 <;> cases e1 : at_ 0 l 1 == at_ 0 m 1 <;> cases e2 : at_ 0 l 2 == at_ 0 m 2 <;> cases e3 : at_ 0 l 3 == at_ 0 m 3 <;> simp [e0, e1, e2, e3, val_pure, val_bind', pa.2.1, pa.2.2.1, pa.2.2.2, pb.2.1, pb.2.2.1, pb.2.2.2, c1]
/-- The entries of a map, told as fours and numbers. -/
def entsQ (es : List MapEntry) (ms : List (List Int × Int)) : Prop := es.map (fun e => (e.key, e.val)) = ms.map (fun m => (ag4 m.1, Value.int .i64 m.2))
def mgetQ (k : List Int) : List (List Int × Int) → Option Int
  | [] => none
  | m :: ms => bif eq4 k m.1 then some m.2 else mgetQ k ms
theorem val_findAsking {P : Program} {t e : TypeId} {k : List Int} {H : Hp} (ht : P.underlying t = some (.array 4 e)) (h : num4 P e = true) : ∀ (es : List MapEntry) (ms : List (List Int × Int)) (i : Nat), entsQ es ms → ∃ r, val P (Instr.findAsking t (ag4 k) es i) H = some r ∧ r.map Prod.snd = (mgetQ k ms).map (Value.int .i64)
  | [], [], _, _ => ⟨none, rfl, rfl⟩
  | x :: es, m :: ms, i, hx => by
    simp only [entsQ, List.map_cons, List.cons.injEq, Prod.mk.injEq] at hx
    obtain ⟨⟨h1, h2⟩, h3⟩ := hx
    obtain ⟨r, g1, g2⟩ := val_findAsking ht h es ms (i + 1) h3
    unfold Instr.findAsking mgetQ
    rw [val_bind', h1, val_eq4 ht h, Option.bind_some]
    cases eq4 k m.1
    · exact ⟨r, g1, g2⟩
    · exact ⟨some (i, x.val), rfl, by rw [h2]; rfl⟩
  | [], _ :: _, _, hx => by simp [entsQ] at hx
  | _ :: _, [], _, hx => by simp [entsQ] at hx
theorem val_findKey4 {P : Program} {t e : TypeId} {k : List Int} {H : Hp} {es : List MapEntry} {ms : List (List Int × Int)} (ht : P.underlying t = some (.array 4 e)) (h : num4 P e = true) (hx : entsQ es ms) : ∃ r, val P (Instr.findKey t (ag4 k) es) H = some r ∧ r.map Prod.snd = (mgetQ k ms).map (Value.int .i64) := by
  obtain ⟨r, g1, g2⟩ := val_findAsking (H := H) (k := k) ht h es ms 0 hx
  refine ⟨r, ?_, g2⟩
  unfold Instr.findKey
  rw [val_bind', val_underlying, ht, Option.bind_some]
  cases es with
  | nil =>
    cases ms with
    | nil => simp only [Instr.findAsking, val_pure] at g1; simp only [Instr.findNow, val_pure]; exact g1
    | cons _ _ => simp [entsQ] at hx
  | cons x es =>
    have e1 : Instr.findNow (.array 4 e) (ag4 k) (x :: es) 0 = none := by
      unfold Instr.findNow; simp only [Instr.sameNow, ag4]
    rw [e1]; exact g1
/-- A map by fours that is owned. -/
def MpQ (H : Hp) (p : Value) (S : Rg) (ms : List (List Int × Int)) : Prop := ∃ r es c, p = .map (some r) ∧ H r = some (.map es c) ∧ entsQ es.toList ms ∧ ∀ b, S b ↔ b = r
def mapQI (P : Program) (t : TypeId) : Bool := match P.underlying t with
  | some (.map kt et) => (match P.underlying kt, zeroO P et with | some (.array 4 e), some (.int .i64 0) => num4 P e | _, _ => false)
  | _ => false
theorem mapQI_of {P : Program} {t : TypeId} (h : mapQI P t = true) : ∃ kt et e, P.underlying t = some (.map kt et) ∧ P.underlying kt = some (.array 4 e) ∧ zeroO P et = some (.int .i64 0) ∧ num4 P e = true := by
  unfold mapQI at h
  split at h
  · rename_i kt et he
    split at h
    · rename_i h1 h2; exact ⟨kt, et, _, he, h1, h2, h⟩
    · simp at h
  · simp at h
section
variable {H H' : Hp} {p : Value} {S : Rg} {ms : List (List Int × Int)}
theorem MpQ.known (h : MpQ H p S ms) : Kn H S := by
  obtain ⟨r, es, c, _, hr, _, hS⟩ := h
  intro b hb
  rw [(hS b).mp hb]; exact ⟨_, hr⟩
theorem MpQ.le (h : MpQ H p S ms) (hl : Le H H') : MpQ H' p S ms := by
  obtain ⟨r, es, c, e, hr, he, hS⟩ := h
  exact ⟨r, es, c, e, hl r _ hr, he, hS⟩
theorem MpQ.off {w : Value} (h : MpQ H p S ms) (ho : Off w H H') (ha : Apt S w) : MpQ H' p S ms := by
  obtain ⟨r, es, c, e, hr, he, hS⟩ := h
  exact ⟨r, es, c, e, ho r _ hr (ha r ((hS r).mpr rfl)), he, hS⟩
theorem MpQ.offS {T : Rg} (h : MpQ H p S ms) (ho : OffS T H H') (ha : Apt S T) : MpQ H' p S ms := by
  obtain ⟨r, es, c, e, hr, he, hS⟩ := h
  exact ⟨r, es, c, e, ho r _ hr (ha r ((hS r).mpr rfl)), he, hS⟩
theorem MpQ.cast {ns : List (List Int × Int)} (e : ms = ns) (h : MpQ H p S ms) : MpQ H p S ns := e ▸ h
theorem MpQ.new_ {K : Value → Hp → Prop} (hk : ∀ p S H', MpQ H' p S [] → Nws H S → Le H H' → K p H') : opEv.nwM H K := fun r hr =>
  hk (.map (some r)) (fun b => b = r) (H.put r (.map #[] 0)) ⟨r, #[], 0, rfl, Hp.put_same _ _ _, rfl, fun _ => Iff.rfl⟩ (fun b hb => by have : b = r := hb; rw [this]; exact hr) (Le.put _ hr)
theorem MpQ.one (h : MpQ H p S ms) : oneCell p = true := by
  obtain ⟨r, es, c, rfl, _⟩ := h; rfl
theorem MpQ.cells (h : MpQ H p S ms) : p.cells = #[p] := by
  obtain ⟨r, es, c, rfl, _⟩ := h; rfl
theorem MpQ.look' {P : Program} {t : TypeId} {k : List Int} {K : Value → Hp → Prop} (h : MpQ H p S ms) (ht : mapQI P t = true)
    (hK : K (.tuple #[.int .i64 ((mgetQ k ms).getD 0), .bool (mgetQ k ms).isSome]) H) : hp P (Instr.lookup t p (ag4 k) true) H K := by
  obtain ⟨r, es, c, rfl, hr, he, hS⟩ := h
  obtain ⟨kt, et, e, h1, h2, h3, h4⟩ := mapQI_of ht
  obtain ⟨x, g1, g2⟩ := val_findKey4 (H := H) (k := k) h2 h4 he
  refine hp_of_val P _ H K _ ?_ hK
  unfold Instr.lookup
  rw [val_bind', val_underlying, h1]
  simp only [Option.bind_some]
  rw [val_bind']
  have e1 : val P (getObj r) H = some (.map es c) := by
    show val P (Sem.getObj r Sem.pure) H = _
    simp only [val, hr]
  have e2 : val P (Instr.checkKey es.isEmpty 10000 kt (ag4 k)) H = some () := val_checkKey4 h2 h4
  simp only [val_bind', e1, Option.bind_some, val_pure, e2, g1]
  cases x with
  | none =>
    have e3 : mgetQ k ms = none := by cases hm : mgetQ k ms with
      | none => rfl
      | some v => rw [hm] at g2; simp at g2
    rw [e3]
    simp only [val_bind', val_zeroValue, h3, Option.bind_some, val_pure]; rfl
  | some x =>
    cases hm : mgetQ k ms with
    | none => rw [hm] at g2; simp at g2
    | some v =>
      rw [hm] at g2
      simp only [Option.map_some, Option.some.injEq] at g2
      simp only [val_pure, Option.bind_some, g2]; rfl
theorem MpQ.add' {P : Program} {t : TypeId} {k : List Int} {x : Int} {K : Unit → Hp → Prop} (h : MpQ H p S ms) (ht : mapQI P t = true) (hn : mgetQ k ms = none)
    (hK : ∀ H', MpQ H' p S (ms ++ [(k, x)]) → OffS S H H' → K () H') : hp P (Instr.mapUpdate t p (ag4 k) (.int .i64 x)) H K := by
  obtain ⟨r, es, c, rfl, hr, he, hS⟩ := h
  obtain ⟨kt, et, e, h1, h2, h3, h4⟩ := mapQI_of ht
  obtain ⟨y, g1, g2⟩ := val_findKey4 (H := H) (k := k) h2 h4 he
  have hf : y = none := by
    rw [hn] at g2
    cases y with
    | none => rfl
    | some x => simp at g2
  subst hf
  have e1 : val P (getObj r) H = some (.map es c) := by
    show val P (Sem.getObj r Sem.pure) H = _
    simp only [val, hr]
  unfold Instr.mapUpdate
  refine hp_val_bind P _ _ H K _ (by rw [val_underlying, h1]) ?_
  refine hp_val_bind P _ _ H K _ e1 ?_
  refine hp_val_bind P _ _ H K _ (val_checkKey4 h2 h4) ?_
  refine hp_val_bind P _ _ H K _ g1 ?_
  show hp P (Sem.setObj r _ (Sem.pure ())) H K
  simp only [hp, hr]
  refine hK _ ⟨r, _, c + 1, rfl, Hp.put_same _ _ _, ?_, hS⟩ (fun b o hb hn => ?_)
  · unfold entsQ at he ⊢
    rw [Array.toList_push, List.map_append, he, List.map_append]; rfl
  · rw [Hp.put_ne _ _ (by rintro rfl; exact hn ((hS _).mpr rfl))]; exact hb
theorem MpQ.len {P : Program} {t ty : TypeId} (h : MpQ H p S ms) (ht : isMap P t = true) : val P (Builtin.len_ #[t] ty [p].toArray) H = some (.int .i64 ms.length) := by
  obtain ⟨r, es, c, rfl, hr, he, hS⟩ := h
  have hl : es.size = ms.length := by
    have := congrArg List.length he
    simpa using this
  unfold isMap at ht
  split at ht
  · rename_i kt et h1
    have e1 : val P (getObj r) H = some (.map es c) := by
      show val P (Sem.getObj r Sem.pure) H = _
      simp only [val, hr]
    have e2 : ([Value.map (some r)].toArray)[0]? = some (Value.map (some r)) := rfl
    have e3 : (#[t] : Array TypeId)[0]? = some t := rfl
    unfold Builtin.len_
    simp only [e2, e3]
    rw [val_bind', val_underlying, h1, Option.bind_some]
    simp only
    rw [val_bind', e1, Option.bind_some]
    simp only [val_pure, goInt, hl]
  · simp at ht
end
/-- Four cells. -/
def pad4 (F : List Int) : List Int := F ++ List.replicate (4 - F.length) 0
theorem pad4_len {F : List Int} (h : F.length ≤ 4) : (pad4 F).length = 4 := by simp [pad4]; omega
theorem pad4_full {F : List Int} (h : F.length = 4) : pad4 F = F := by simp [pad4, h]
theorem pad4_set {F : List Int} {x : Int} (h : F.length < 4) : (pad4 F).set F.length x = pad4 (F ++ [x]) := by
  unfold pad4
  rw [List.set_append_right _ _ (Nat.le_refl _), Nat.sub_self, show 4 - F.length = (4 - (F ++ [x]).length) + 1 by simp; omega, List.replicate_succ, List.append_assoc]; rfl
theorem c4_set {L : List Int} {x : Int} {q : Nat} (hl : L.length = 4) (hq : q < 4) : ([Value.int .i64 (at_ 0 L 0), Value.int .i64 (at_ 0 L 1), Value.int .i64 (at_ 0 L 2), Value.int .i64 (at_ 0 L 3)] : List Value).set q (.int .i64 x) = [Value.int .i64 (at_ 0 (L.set q x) 0), Value.int .i64 (at_ 0 (L.set q x) 1), Value.int .i64 (at_ 0 (L.set q x) 2), Value.int .i64 (at_ 0 (L.set q x) 3)] := by
  match L, hl with
  | [a, b, c, d], _ =>
    have : q = 0 ∨ q = 1 ∨ q = 2 ∨ q = 3 := by omega
    rcases this with rfl | rfl | rfl | rfl <;> rfl
theorem c4_map {L : List Int} (hl : L.length = 4) : ([Value.int .i64 (at_ 0 L 0), Value.int .i64 (at_ 0 L 1), Value.int .i64 (at_ 0 L 2), Value.int .i64 (at_ 0 L 3)] : List Value) = L.map eI := by
  match L, hl with
  | [a, b, c, d], _ => rfl
/-- An array as a slice. -/
theorem Cel.slA {H : Hp} {p : Value} {L : List Int} (h : Cel H p (L.map eI)) (hl : L.length = 4) : ∃ v, vSlA 4 1 p none none = some v ∧ Ro eI H v L ∧ (∀ b, bk v = some b → bk p = some b) := by
  obtain ⟨r, e, rfl, hr⟩ := h
  refine ⟨_, rfl, ⟨⟨_, 4, by rw [hl], by omega, fun i hi => ⟨_, rfl, ?_⟩⟩, fun b hb => ?_⟩, fun b hb => ?_⟩
  · show H.cell? (Addr.add ⟨r, 0, none⟩ i) = _
    rw [add_none]
    simp only [Hp.cell?, hr, Nat.zero_add]
    simp [hi]
  · simp [bk] at hb; subst hb; exact ⟨_, hr⟩
  · simp [bk] at hb ⊢; exact hb
/-- Three owned things, as blocks. -/
def tri (p : Value) (S : Rg) (v : Value) : Rg := fun b => bk p = some b ∨ S b ∨ bk v = some b
theorem Apt.tri {α : Type} [Bks α] {z : α} {p v : Value} {S : Rg} (h1 : Apt z p) (h2 : Apt z S) (h3 : Apt z v) : Apt z (tri p S v) := fun b hz h => by
  rcases h with h | h | h
  · exact h1 b hz h
  · exact h2 b hz h
  · exact h3 b hz h
theorem Nws.tri {H : Hp} {p v : Value} {S : Rg} (h1 : Nw H p) (h2 : Nws H S) (h3 : Nw H v) : Nws H (HL.tri p S v) := fun b h => by
  rcases h with h | h | h
  · exact h1 b h
  · exact h2 b h
  · exact h3 b h
theorem tri_apt {H : Hp} {p v : Value} {S : Rg} : Apt p (rest H (tri p S v)) ∧ Apt S (rest H (tri p S v)) ∧ Apt v (rest H (tri p S v)) :=
  ⟨fun _ h g => g.2 (.inl h), fun _ h g => g.2 (.inr (.inl h)), fun _ h g => g.2 (.inr (.inr h))⟩
theorem tri_new {H : Hp} {p v u : Value} {S : Rg} (h : Apt u (rest H (tri p S v))) (hp : Apt u p) (hS : Apt u S) : ∀ b, bk u = some b → bk v = some b ∨ H b = none := fun b hb => by
  rcases rest_new h b hb with h | h
  · rcases h with h | h | h
    · exact absurd h (hp b hb)
    · exact absurd h (hS b hb)
    · exact .inl h
  · exact .inr h
/-- The map of a tree. -/
def entQ (t : List Int) : List (List Int × Int) := (List.range (t.length / 4)).map fun j => (chQ t j, (j : Int))
theorem entQ_len {t : List Int} : (entQ t).length = t.length / 4 := by simp [entQ]
theorem chQ_len {t : List Int} {j : Nat} (h : j < t.length / 4) : (chQ t j).length = 4 := by simp [chQ]; omega
theorem entQ_app {t f : List Int} (ht : t.length % 4 = 0) (hf : f.length = 4) : entQ (t ++ f) = entQ t ++ [(f, ((t.length / 4 : Nat) : Int))] := by
  have e : (t ++ f).length / 4 = t.length / 4 + 1 := by simp; omega
  unfold entQ
  rw [e, List.range_succ, List.map_append]
  congr 1
  · apply List.map_congr_left
    intro j hj
    have hj := List.mem_range.mp hj
    congr 1
    unfold chQ
    rw [List.drop_append_of_le_length (by omega), List.take_append_of_le_length (by simp; omega)]
  · simp only [List.map_cons, List.map_nil]
    congr 2
    unfold chQ
    rw [List.drop_append_of_le_length (by omega), List.drop_of_length_le (by omega), List.nil_append, List.take_of_length_le (by omega)]
theorem eq4_iff {l m : List Int} (hl : l.length = 4) (hm : m.length = 4) : eq4 l m = decide (m = l) := by
  match l, m, hl, hm with
  | [a, b, c, d], [a', b', c', d'], _, _ =>
    have e : ∀ x y z w : Int, at_ 0 [x, y, z, w] 0 = x ∧ at_ 0 [x, y, z, w] 1 = y ∧ at_ 0 [x, y, z, w] 2 = z ∧ at_ 0 [x, y, z, w] 3 = w := fun x y z w => ⟨rfl, rfl, rfl, rfl⟩
    unfold eq4
    rw [(e a b c d).1, (e a b c d).2.1, (e a b c d).2.2.1, (e a b c d).2.2.2, (e a' b' c' d').1, (e a' b' c' d').2.1, (e a' b' c' d').2.2.1, (e a' b' c' d').2.2.2]
    apply Bool.eq_iff_iff.mpr
    simp only [Bool.and_eq_true, beq_iff_eq, decide_eq_true_eq, List.cons.injEq, and_true]
    constructor
    · rintro ⟨⟨⟨rfl, rfl⟩, rfl⟩, rfl⟩; exact ⟨rfl, rfl, rfl, rfl⟩
    · rintro ⟨rfl, rfl, rfl, rfl⟩; exact ⟨⟨⟨rfl, rfl⟩, rfl⟩, rfl⟩
theorem mgetQ_app (k : List Int) : ∀ a b, mgetQ k (a ++ b) = (mgetQ k a).or (mgetQ k b)
  | [], b => by simp [mgetQ]
  | m :: a, b => by
    simp only [List.cons_append, mgetQ]
    cases eq4 k m.1
    · exact mgetQ_app k a b
    · rfl
theorem mgetQ_ent {t f : List Int} (hf : f.length = 4) : mgetQ f (entQ t) = if 0 ≤ fndQ t f then some (fndQ t f) else none := by
  have main : ∀ n, n ≤ t.length / 4 → mgetQ f ((List.range n).map fun j => (chQ t j, (j : Int))) = if 0 ≤ fstN (fun j => chQ t j = f) n then some (fstN (fun j => chQ t j = f) n) else none := by
    intro n
    induction n with
    | zero => intro _; rfl
    | succ n ih =>
      intro hn
      rw [List.range_succ, List.map_append, mgetQ_app, ih (by omega)]
      simp only [List.map_cons, List.map_nil, mgetQ, eq4_iff hf (chQ_len (show n < t.length / 4 by omega))]
      have b := fstN_lt (p := fun j => chQ t j = f) (N := n)
      by_cases h : 0 ≤ fstN (fun j => chQ t j = f) n
      · rw [if_pos h]
        have e : fstN (fun j => chQ t j = f) (n + 1) = fstN (fun j => chQ t j = f) n := by simp only [fstN]; rw [if_pos h]
        rw [e, if_pos h]; rfl
      · rw [if_neg h]
        by_cases hc : chQ t n = f
        · have e : fstN (fun j => chQ t j = f) (n + 1) = (n : Int) := by simp only [fstN]; rw [if_neg h, if_pos hc]
          rw [e, if_pos (by omega), decide_eq_true hc]; rfl
        · have e : fstN (fun j => chQ t j = f) (n + 1) = -1 := by simp only [fstN]; rw [if_neg h, if_neg hc]
          rw [e, if_neg (by omega), decide_eq_false hc]; rfl
  exact main _ (Nat.le_refl _)
theorem c4_put {F : List Int} {x : Int} {q : Nat} (hF : F.length = q) (hq : q < 4) : ([Value.int .i64 (at_ 0 (pad4 F) 0), Value.int .i64 (at_ 0 (pad4 F) 1), Value.int .i64 (at_ 0 (pad4 F) 2), Value.int .i64 (at_ 0 (pad4 F) 3)] : List Value).set (q : Int).toNat (.int .i64 x) = [Value.int .i64 (at_ 0 (pad4 (F ++ [x])) 0), Value.int .i64 (at_ 0 (pad4 (F ++ [x])) 1), Value.int .i64 (at_ 0 (pad4 (F ++ [x])) 2), Value.int .i64 (at_ 0 (pad4 (F ++ [x])) 3)] := by
  subst hF
  rw [Int.toNat_natCast, c4_set (pad4_len (by omega)) hq, pad4_set hq]
theorem none_of_not {o : Option Int} (h : (!o.isSome) = true) : o = none := by
  cases o with
  | none => rfl
  | some _ => simp at h
theorem putQ_new {T F : List Int} (hF : F.length = 4) (h : (!(mgetQ F (entQ T)).isSome) = true) : putQ T F = (((entQ T).length : Int) + 2, T ++ F) := by
  have h := none_of_not h
  rw [mgetQ_ent hF] at h
  have hn : ¬ 0 ≤ fndQ T F := fun g => by rw [if_pos g] at h; simp at h
  unfold putQ
  rw [if_neg hn, entQ_len]
  congr 1 <;> omega
theorem putQ_old {T F : List Int} (hF : F.length = 4) (h : (!(mgetQ F (entQ T)).isSome) = false) : putQ T F = ((mgetQ F (entQ T)).getD 0 + 2, T) := by
  rw [mgetQ_ent hF] at h ⊢
  by_cases g : 0 ≤ fndQ T F
  · unfold putQ; rw [if_pos g, if_pos g]; rfl
  · rw [if_neg g] at h; simp at h
theorem mgetQ_bnd {T F : List Int} (hF : F.length = 4) : 0 ≤ (mgetQ F (entQ T)).getD 0 ∧ (mgetQ F (entQ T)).getD 0 ≤ T.length := by
  rw [mgetQ_ent hF]
  have b := fstN_lt (p := fun j => chQ T j = F) (N := T.length / 4)
  unfold fndQ
  split
  · simp only [Option.getD_some]; omega
  · simp only [Option.getD_none]; omega
theorem hp_val {P : Program} {x : Sem Value} {v : Value} {H : Hp} {K : Value → Hp → Prop} (e : ∀ K : Value → Hp → Prop, hp P x H K = K v H) (h : K v H) : hp P x H K := (e K).mpr h
theorem Cel.ixA {H : Hp} {p : Value} {cs : List Value} (h : Cel H p cs) {n : Nat} {k : IntKind} {i : Int} (h0 : 0 ≤ i) (h1 : i < n) : vIxArr n 1 p (.int k i) = some (fp p i.toNat) := by
  obtain ⟨r, e, rfl, _⟩ := h
  simp only [vIxArr, fp, Nat.mul_one]
  rw [if_pos ⟨h0, h1⟩]
end Go.Proofs.Ythmdmbbdjbhcoaa.HL
/- New slices, and places in rows, for seats without fields. -/
namespace Go.Proofs.Ythmdmbbdjbhcoaa
open HL
set_option maxRecDepth 100000
end Go.Proofs.Ythmdmbbdjbhcoaa
/- Kinds of quarters. -/
namespace Go.Proofs.Ythmdmbbdjbhcoaa
open HL
variable {l : List Int}
set_option maxRecDepth 100000
theorem key_set {i : Nat} (h : i < l.length) : (l.take i ++ List.replicate (l.length - i) (0 : Int)).set (i : Int).toNat (at_ 0 l (i : Int)) = l.take (i + 1) ++ List.replicate (l.length - (i + 1)) 0 := by
  rw [Int.toNat_natCast, List.set_append_right _ _ (by rw [List.length_take]; omega), take_at 0 l h, List.append_assoc]
  congr 1
  rw [show i - (l.take i).length = 0 by simp; omega, show l.length - i = (l.length - (i + 1)) + 1 by omega, List.replicate_succ]; rfl
theorem C.c44 {va : Value}  {H : Hp} {K : Value → Hp → Prop} (hva0 : Sl eI H va l) (hb : ∀ x ∈ l, 0 ≤ x ∧ x ≤ 255) (k2 : l.length ≤ 1000)
    (hk : ∀ H', Le H H' → K (.string (bytesS .empty (l))) H') : HT prg 77 [va].toArray H K := by
 have lE := Le.refl H
 refine R.q77 ?_
 unfold F.q77
 refine ob_i ((hva0.le lE).len) (Own.mk_ (z := (0 : Int)) (by omega) (by omega) (by omega) (by omega) (fun u H1 ou nn2 le3 => ?_))
 have nu := nn2.le lE
 refine jn_i (fun σ' H' => σ' 3 = u ∧ Own eU H' u (l) ∧ Le H H') (fun σ4 H4 hP => ?_) (fun J4 hJ4 => ?_)
 replace lE := lE.trans le3
 obtain ⟨g3L4, ou, lE⟩ := hP
 try simp only [g3L4]
 exact ob_i (val_convBS (by kernel_rfl) ou.sl) (hk   _    lE)
 replace lE := lE.trans le3
 refine ob_i ((hva0.le lE).len) ?_
 refine ⟨fun n' σ' H' => ∃ i : Nat, n' = l.length - i ∧ i ≤ l.length ∧ σ' 3 = u ∧ σ' 9 = va ∧ σ' 10 = (.int .i64 (((l).length : Int))) ∧ σ' 11 = (.int .i64 ((i : Int))) ∧ Own eU H' u (l.take i ++ List.replicate (l.length - i) 0) ∧ Le H H',
    ⟨_, 0, rfl, by omega, rfl, rfl, rfl, (congrArg (Value.int .i64) (by first | omega | rfl | (simp; done))), (Own.cast (by simp) ou), lE⟩, ?_⟩
 rintro n5 σ5 H5 ⟨i, rfl, hiN, g3L5, g9L5, g10L5, g11L5, ou, lE⟩
 try simp only [g3L5, g9L5, g10L5, g11L5]
 have ll : (l.take i ++ List.replicate (l.length - i) (0 : Int)).length = l.length := by simp; omega
 refine ob_i (vInt_lss _ _ _) (cnd_d (fun hg6 => ?_) (fun hg6 => ?_))
 have ti := hg6
 have bb := hb _ (at_mem 0 l (i := (i : Int)) (by omega) (by omega))
 refine ob_i ((hva0.le lE).ix (by omega) (by omega)) (ob_i ((hva0.le lE).ld 0 (by omega) (by omega)) (ob_i (vCI_u8 (by omega) (by omega)) (ob_i (ou.sl.ix (by omega) (by omega)) (ou.st (x := at_ 0 (l) ((i : Int))) (by omega) (by omega) rfl rfl (fun H7 ou off8 => ?_)))))
 refine ob_i (vInt_add (by omega) (by omega)) ?_
 replace lE := off8.le lE nu
 exact nxt (l.length - (i + 1)) (by omega) ⟨i + 1, rfl, by omega, g3L5, g9L5, g10L5, (congrArg (Value.int .i64) (by first | omega | rfl | (simp; done))), (Own.cast (key_set (by omega)) ou), lE⟩
 have ti := hg6
 rw [show i = l.length by omega, Nat.sub_self, List.take_length, List.replicate_zero, List.append_nil] at ou
 exact hJ4 _ _ ⟨g3L5, ou, lE⟩

theorem C.c45 {vc : Value} {r c : Int}  {H : Hp} {K : Value → Hp → Prop} (hvc0 : Sl eI H vc l) (k1 : l.length ≤ 9223372036854775807)
    (hk : ∀ u1 H', Own eI H' u1 (selL (sqP r c l) (kndL r c l)) → Nw H u1 → Le H H' → K (.tuple #[u1, (.bool (decide (sqP r c l)))]) H') : HT prg 36 [(.agg #[(.int .i64 (r)), (.int .i64 (c)), vc])].toArray H K := by
 have lE := Le.refl H
 refine R.q36 ?_
 unfold F.q36
 refine nw_i (fun p1 H2 op1 nn3 le4 => ?_)
 replace op1 : Cel H2 p1 [(.int .i64 (r)), (.int .i64 (c)), vc] := op1
 refine ob_i (op1.ldn rfl) ?_
 replace lE := lE.trans le4
 refine C.c40 (hvc0.le lE) (by first | omega | assumption) (fun   H5    le6 => ?_)
 refine ob_nd (fun hc7 => ?_) (fun hc7 => ?_)
 have hf := hc7.1
 have hrc := hc7.2.1
 have hr4 := hc7.2.2
 have l1 := fieldN_len hf
 have lg5 : lgN r ≤ 5 := by unfold lgN; split <;> (try split) <;> omega
 have hs := hf.1
 have hl := hf.2.1
 have q1 := hs.1
 have q2 := hs.2
 have qm := sidesF_mul hs
 have he := hf.2.2
 refine cnd_f1 (bS_nil (enc := eI) (fun u8 H9 ou8 nn10 kk11 le12 => ?_))
 replace op1 := op1.le le6
 have ap1Xu8 := op1.apart nn10
 replace lE := lE.trans le6
 have nu8 := nn10.le lE
 refine jn_i (fun σ' H' => ∃ u, σ' 4 = u ∧ Cel H' p1 [(.int .i64 (r)), (.int .i64 (c)), vc] ∧ Own eI H' u (kndL r c l) ∧ Nw H u ∧ Apart p1 u ∧ Le H H') (fun σ13 H13 hP => ?_) (fun J13 hJ13 => ?_)
 replace op1 := op1.le le12
 replace lE := lE.trans le12
 obtain ⟨u, g4L13, op1, ou, nu, ap1Xu, lE⟩ := hP
 try simp only [g4L13]
 have hok : sqP r c l := by assumption
 exact keq (K := K) (by rw [decide_eq_true (show (sqP r c l) from by exact hok)]) (hk  u _ (Own.cast (show kndL r c l = selL (sqP r c l) (kndL r c l) by exact (selL_t hok).symm) ou) nu  lE)
 replace op1 := op1.le le12
 replace lE := lE.trans le12
 refine ⟨fun n' σ' H' => ∃ e : Nat, n' = lgN r - e ∧ e ≤ lgN r ∧ ∃ u, σ' 1 = p1 ∧ σ' 4 = u ∧ σ' 5 = (.int .i64 (szz e)) ∧ Cel H' p1 [(.int .i64 (r)), (.int .i64 (c)), vc] ∧ Own eI H' u (kndF r c l e) ∧ Nw H u ∧ Apart p1 u ∧ Le H H',
    ⟨_, 0, rfl, by omega, u8, rfl, rfl, rfl, op1, (Own.cast (by first | rfl | (simp; done)) ou8), nu8, ap1Xu8, lE⟩, ?_⟩
 rintro n14 σ14 H14 ⟨e, rfl, heN, u, g1L14, g4L14, g5L14, op1, ou, nu, ap1Xu, lE⟩
 try simp only [g1L14, g4L14, g5L14]
 have zk := szz_ok (r := r) hr4 (e := e) (by omega)
 have zs := szz_succ e
 have kl := kndF_len (r := r) (c := c) (l := l) (n := e)
 refine ob_i (op1.fa 0) (ob_i (op1.ld 0 rfl) (ob_i (vInt_leq _ _ _) (cnd_d (fun hg15 => ?_) (fun hg15 => ?_))))
 have te := hg15
 obtain ⟨zm, m1, m2⟩ := zk.2.2.2 (zk.1.mp te)
 refine jn_i (fun σ' H' => ∃ u, σ' 1 = p1 ∧ σ' 4 = u ∧ σ' 5 = (.int .i64 (szz e)) ∧ Cel H' p1 [(.int .i64 (r)), (.int .i64 (c)), vc] ∧ Own eI H' u (kndF r c l (e + 1)) ∧ Nw H u ∧ Apart p1 u ∧ Le H H') (fun σ16 H16 hP => ?_) (fun J16 hJ16 => ?_)
 obtain ⟨u, g1L16, g4L16, g5L16, op1, ou, nu, ap1Xu, lE⟩ := hP
 try simp only [g5L16]
 exact ob_i (vInt_mul (by omega) (by omega)) (nxt (lgN r - (e + 1)) (by omega) ⟨e + 1, rfl, by omega, u, g1L16, g4L16, (congrArg (Value.int .i64) zs), op1, ou, nu, ap1Xu, lE⟩)
 refine MpT.new_ (fun mp Smp H17 omp nn18 le19 => ?_)
 have ap1Xmp : Apt p1 Smp := Apt.of_nws op1.known nn18
 have auXmp : Apt u Smp := Apt.of_nws ou.known nn18
 have nmp : Nws H Smp := nn18.le lE
 refine jn_i (fun σ' H' => σ' 1 = p1 ∧ σ' 4 = u ∧ σ' 5 = (.int .i64 (szz e)) ∧ σ' 6 = mp ∧ Cel H' p1 [(.int .i64 (r)), (.int .i64 (c)), vc] ∧ Own eI H' u (kndF r c l e) ∧ MpT H' mp Smp (dsK (blkW c l (szz e) (r / szz e)) ((r / szz e).toNat * (r / szz e).toNat)) ∧ Le H H') (fun σ20 H20 hP => ?_) (fun J20 hJ20 => ?_)
 replace op1 := op1.le le19
 replace ou := ou.le le19
 replace lE := lE.trans le19
 obtain ⟨g1L20, g4L20, g5L20, g6L20, op1, ou, omp, lE⟩ := hP
 try simp only [g4L20, g6L20]
 refine ob_i (omp.len (by kernel_rfl)) (bS_i (enc := eI) (l := [((dsK (blkW c l (szz e) (r / szz e)) ((r / szz e).toNat * (r / szz e).toNat)).length : Int)]) (by omega) rfl (by kernel_rfl) (fun u21 H22 ou21 nn23 le25 => ?_))
 replace ou := ou.le le25
 refine apd_any ou ou21.sl (fun _ => rfl) (by omega) (by first | omega | (simp only [List.length_cons, List.length_nil, List.length_append, List.length_replicate, List.length_map, List.length_range]; omega)) (fun u29 H26 ou29 off27 hb28 => ?_)
 replace op1 := op1.le le25
 have ap1Xu29 := Apart.ap2 op1.known ap1Xu hb28
 replace lE := lE.trans le25
 have nu29 : Nw H u29 := Nw.ap2 nu lE hb28
 replace op1 := op1.off off27 ap1Xu
 replace lE := off27.le lE nu
 exact hJ16 _ _ ⟨u29, g1L20, rfl, g5L20, op1, (Own.cast kndF_succ ou29), nu29, ap1Xu29, lE⟩
 replace op1 := op1.le le19
 replace ou := ou.le le19
 replace lE := lE.trans le19
 refine ⟨fun n' σ' H' => ∃ a : Nat, n' = (r / szz e).toNat - a ∧ a ≤ (r / szz e).toNat ∧ σ' 1 = p1 ∧ σ' 4 = u ∧ σ' 5 = (.int .i64 (szz e)) ∧ σ' 6 = mp ∧ σ' 7 = (.int .i64 (szz e * (a : Int))) ∧ Cel H' p1 [(.int .i64 (r)), (.int .i64 (c)), vc] ∧ Own eI H' u (kndF r c l e) ∧ MpT H' mp Smp (dsK (blkW c l (szz e) (r / szz e)) (a * (r / szz e).toNat)) ∧ Le H H',
    ⟨_, 0, rfl, by omega, g1L14, g4L14, g5L14, rfl, (congrArg (Value.int .i64) (by rw [Int.ofNat_zero, Int.mul_zero])), op1, ou, (MpT.cast (by rw [Nat.zero_mul]; rfl) omp), lE⟩, ?_⟩
 rintro n30 σ30 H30 ⟨a, rfl, haN, g1L30, g4L30, g5L30, g6L30, g7L30, op1, ou, omp, lE⟩
 try simp only [g1L30, g5L30, g6L30, g7L30]
 have ax := mul_lt_iff (a := (a : Int)) zk.2.1 zm
 have an := mul_next (z := szz e) (a := a)
 refine ob_i (op1.fa 0) (ob_i (op1.ld 0 rfl) (ob_i (vInt_lss _ _ _) (cnd_d (fun hg31 => ?_) (fun hg31 => ?_))))
 have ta := hg31
 have ai := mul_in (a := (a : Int)) zk.2.1 zm (by omega) (by omega)
 refine jn_i (fun σ' H' => σ' 1 = p1 ∧ σ' 4 = u ∧ σ' 5 = (.int .i64 (szz e)) ∧ σ' 6 = mp ∧ σ' 7 = (.int .i64 (szz e * (a : Int))) ∧ Cel H' p1 [(.int .i64 (r)), (.int .i64 (c)), vc] ∧ Own eI H' u (kndF r c l e) ∧ MpT H' mp Smp (dsK (blkW c l (szz e) (r / szz e)) ((a + 1) * (r / szz e).toNat)) ∧ Le H H') (fun σ32 H32 hP => ?_) (fun J32 hJ32 => ?_)
 obtain ⟨g1L32, g4L32, g5L32, g6L32, g7L32, op1, ou, omp, lE⟩ := hP
 try simp only [g5L32, g7L32]
 exact ob_i (vInt_add (by omega) (by omega)) (nxt ((r / szz e).toNat - (a + 1)) (by omega) ⟨a + 1, rfl, by omega, g1L32, g4L32, g5L32, g6L32, (congrArg (Value.int .i64) an), op1, ou, omp, lE⟩)
 refine ⟨fun n' σ' H' => ∃ b : Nat, n' = (r / szz e).toNat - b ∧ b ≤ (r / szz e).toNat ∧ σ' 1 = p1 ∧ σ' 4 = u ∧ σ' 5 = (.int .i64 (szz e)) ∧ σ' 6 = mp ∧ σ' 7 = (.int .i64 (szz e * (a : Int))) ∧ σ' 8 = (.int .i64 (szz e * (b : Int))) ∧ Cel H' p1 [(.int .i64 (r)), (.int .i64 (c)), vc] ∧ Own eI H' u (kndF r c l e) ∧ MpT H' mp Smp (dsK (blkW c l (szz e) (r / szz e)) (a * (r / szz e).toNat + b)) ∧ Le H H',
    ⟨_, 0, rfl, by omega, g1L30, g4L30, g5L30, g6L30, g7L30, (congrArg (Value.int .i64) (by rw [Int.ofNat_zero, Int.mul_zero])), op1, ou, omp, lE⟩, ?_⟩
 rintro n33 σ33 H33 ⟨b, rfl, hbN, g1L33, g4L33, g5L33, g6L33, g7L33, g8L33, op1, ou, omp, lE⟩
 try simp only [g1L33, g5L33, g6L33, g7L33, g8L33]
 have bx := mul_lt_iff (a := (b : Int)) zk.2.1 zm
 have bn := mul_next (z := szz e) (a := b)
 refine ob_i (op1.fa 1) (ob_i (op1.ld 1 rfl) (ob_i (vInt_lss _ _ _) (cnd_d (fun hg34 => ?_) (fun hg34 => ?_))))
 have tb := hg34
 have bi := mul_in (a := (b : Int)) zk.2.1 zm (by omega) (by omega)
 have ebl : mkL (szz e) (cutG c l (szz e * (a : Int)) (szz e * (b : Int))) ((szz e : Int).toNat * (szz e : Int).toNat) = (blkW c l (szz e) (r / szz e)) (a * (r / szz e).toNat + b) := blkW_at (by omega) (by omega)
 have blen : ((mkL (szz e) (cutG c l (szz e * (a : Int)) (szz e * (b : Int))) ((szz e : Int).toNat * (szz e : Int).toNat)).length : Int) ≤ 1000000 := by rw [ebl, blkW_len]; have := Nat.mul_le_mul (show (szz e).toNat ≤ 32 by omega) (show (szz e).toNat ≤ 32 by omega); omega
 refine ob_i (op1.ldn rfl) (C.c18 (hvc0.le lE) (by exact hf.1) (by exact hf.2.1) (by first | omega | assumption) (by first | omega | assumption) (by first | omega | assumption) (by first | omega | assumption) (by first | omega | assumption) (by first | omega | assumption) (fun  u37 H35 ou37 nn38  le36 => ?_))
 refine ob_i (a := u37) rfl ?_
 refine C.c44 ou37.sl (by rw [ebl]; exact blkW_in he) (by rw [ebl, blkW_len]; have := Nat.mul_le_mul (show (szz e).toNat ≤ 16 by omega) (show (szz e).toNat ≤ 16 by omega); omega) (fun   H39    le40 => ?_)
 replace omp := (omp.le le36).le le40
 refine MpT.put omp (ls := dsK (blkW c l (szz e) (r / szz e)) ((a * (r / szz e).toNat + b) + 1)) (by kernel_rfl) (by rw [ebl]; exact dsK_put (fun j => blkW_in he)) (fun H41 omp off42 => ?_)
 refine ob_i (vInt_add (by omega) (by omega)) ?_
 replace op1 := ((op1.le le36).le le40).offS off42 ap1Xmp
 replace ou := ((ou.le le36).le le40).offS off42 auXmp
 replace lE := off42.le ((lE.trans le36).trans le40) nmp
 exact nxt ((r / szz e).toNat - (b + 1)) (by omega) ⟨b + 1, rfl, by omega, g1L33, g4L33, g5L33, g6L33, g7L33, (congrArg (Value.int .i64) bn), op1, ou, (MpT.cast (by rw [Nat.add_assoc]) omp), lE⟩
 have tb := hg34
 rw [show a * (r / szz e).toNat + b = (a + 1) * (r / szz e).toNat by rw [Nat.add_mul, Nat.one_mul]; omega] at omp
 exact hJ32 _ _ ⟨g1L33, g4L33, g5L33, g6L33, g7L33, op1, ou, omp, lE⟩
 have ta := hg31
 rw [show a = (r / szz e).toNat by omega] at omp
 exact hJ20 _ _ ⟨g1L30, g4L30, g5L30, g6L30, op1, ou, omp, lE⟩
 have te := hg15
 obtain rfl : e = lgN r := by omega
 exact hJ13 _ _ ⟨u, g4L14, op1, ou, nu, ap1Xu, lE⟩
 refine cnd_t1 ?_
 have hok : ¬ (sqP r c l) := by assumption
 replace lE := lE.trans le6
 exact keq (K := K) (by rw [decide_eq_false (show ¬ (sqP r c l) from by exact hok)]) (hk  (.slice none 0 0) _ (Own.cast (show [] = selL (sqP r c l) (kndL r c l) by exact (selL_f hok).symm) (Own.nil_of none)) (fun b hb => by simp [bk] at hb)  lE)

end Go.Proofs.Ythmdmbbdjbhcoaa
/- Parts of slices; slices that are put together. -/
namespace Go.Proofs.Ythmdmbbdjbhcoaa
open HL
set_option maxRecDepth 100000
namespace HL
theorem Sl.cut {α : Type} {enc : α → Value} {H : Hp} {v : Value} {l : List α} (h : Sl enc H v l) {lo hi : Int} (h0 : 0 ≤ lo) (h1 : lo ≤ hi) (h2 : hi ≤ l.length) :
    ∃ x, vSl3 1 v (some (.int .i64 lo)) (some (.int .i64 hi)) none = some x ∧ (hi = l.length → vSl3 1 v (some (.int .i64 lo)) none none = some x) ∧ (lo = 0 → vSl3 1 v none (some (.int .i64 hi)) none = some x) ∧ (lo = 0 → hi = l.length → vSl3 1 v none none none = some x) ∧
      Sl enc H x ((l.drop lo.toNat).take (hi.toNat - lo.toNat)) ∧ (∀ b, bk x = some b → bk v = some b) := by
  obtain ⟨a, c, rfl, hc, hr⟩ := h
  have e1 : bnd (some (.int .i64 hi)) c l.length = some hi.toNat := by simp only [bnd]; rw [if_pos ⟨by omega, by omega⟩]
  have e2 : bnd (some (.int .i64 lo)) hi.toNat 0 = some lo.toNat := by simp only [bnd]; rw [if_pos ⟨by omega, by omega⟩]
  have e3 : bnd none c l.length = some l.length := rfl
  refine ⟨.slice (if c = lo.toNat then a else a.map (·.add (lo.toNat * 1))) (hi.toNat - lo.toNat) (c - lo.toNat), ?_, ?_, ?_, ?_, ?_, ?_⟩
  · simp only [vSl3, vSl, e1, e2]
  · intro e
    subst e
    have e2' : bnd (some (.int .i64 lo)) l.length 0 = some lo.toNat := by simpa using e2
    simp only [vSl3, vSl, e3, e2', Int.toNat_natCast]
  · intro e
    subst e
    simp only [vSl3, vSl, e1]; rfl
  · intro e e'
    subst e e'
    simp only [vSl3, vSl, e3, Int.toNat_natCast]; rfl
  · have hl : ((l.drop lo.toNat).take (hi.toNat - lo.toNat)).length = hi.toNat - lo.toNat := by simp; omega
    refine ⟨_, _, by rw [hl], by rw [hl]; omega, fun i hi' => ?_⟩
    rw [hl] at hi'
    obtain ⟨ad, rfl, hh⟩ := hr (lo.toNat + i) (by omega)
    rw [if_neg (by omega)]
    refine ⟨ad.add (lo.toNat * 1), rfl, ?_⟩
    have e4 : (ad.add (lo.toNat * 1)).add i = ad.add (lo.toNat + i) := by
      rw [Nat.mul_one]
      unfold Addr.add
      by_cases hx : lo.toNat = 0
      · rw [if_pos hx, hx, Nat.zero_add]
      · by_cases hy : i = 0
        · subst hy; simp
        · rw [if_neg hx, if_neg hy, if_neg (by omega)]; simp [Nat.add_assoc]
    rw [e4, hh]
    simp
  · intro b hb
    by_cases hcl : c = lo.toNat
    · rw [if_pos hcl] at hb
      cases a with
      | none => simp [bk] at hb
      | some ad => simp only [bk] at hb; rw [if_pos (by omega)] at hb; simp at hb
    · rw [if_neg hcl] at hb
      cases a with
      | none => simp [bk] at hb
      | some ad =>
        have hbl : ∀ k, (ad.add k).block = ad.block := fun k => by unfold Addr.add; split <;> rfl
        simp only [Option.map_some, bk] at hb ⊢
        split at hb
        · simp at hb
        · rw [if_neg (by omega)]; rw [hbl] at hb; exact hb
end HL
end Go.Proofs.Ythmdmbbdjbhcoaa
/- Trees of quarters. -/
namespace Go.Proofs.Ythmdmbbdjbhcoaa
open HL
variable {t m l : List Int} {i r c k z : Int} {p vc vt : Value} {H H1 : Hp} {K : Value → Hp → Prop} {e : Nat}
set_option maxRecDepth 100000
theorem chQ_cut {m : Nat} : (t.drop (4 * (m : Int)).toNat).take ((4 * (m : Int) + 4).toNat - (4 * (m : Int)).toNat) = chQ t m := by
  unfold chQ
  rw [show (4 * (m : Int)).toNat = 4 * m by omega, show (4 * (m : Int) + 4).toNat - 4 * m = 4 by omega]
theorem same_eq (h : l.length = m.length) (ha : ∀ j : Nat, j < l.length → at_ 0 l (j : Int) = at_ 0 m (j : Int)) : l = m := by
  apply List.ext_getElem h
  intro j h1 h2
  have := ha j h1
  rw [at_eq 0 l h1, at_eq 0 m h2] at this
  exact this
theorem same_snoc {i : Nat} (ha : ∀ j : Nat, j < i → at_ 0 l (j : Int) = at_ 0 m (j : Int)) (h : at_ 0 l (i : Int) = at_ 0 m (i : Int)) : ∀ j : Nat, j < i + 1 → at_ 0 l (j : Int) = at_ 0 m (j : Int) := fun j hj => by
  by_cases e : j = i
  · subst e; exact h
  · exact ha j (by omega)
theorem C.c46 {va vb : Value}  {H : Hp} {K : Value → Hp → Prop} (hva0 : Sl eI H va l) (hvb0 : Sl eI H vb m) (k1 : l.length ≤ 9223372036854775807)
    (hk : ∀ H', Le H H' → K (.bool (decide (l = m))) H') : HT prg 87 [va, vb].toArray H K := by
 have lE := Le.refl H
 refine R.q87 ?_
 unfold F.q87
 refine ob_i ((hva0.le lE).len) (ob_i ((hvb0.le lE).len) (ob_i (vInt_neq _ _ _) (cnd_d (fun hg1 => ?_) (fun hg1 => ?_))))
 exact keq (K := K) (by rw [decide_eq_false (show ¬ (l = m) from by intro h; subst h; omega)]) (hk   _    lE)
 refine jn_i (fun σ' H' => Le H H' ∧ (∀ j : Nat, j < l.length → at_ 0 l (j : Int) = at_ 0 m (j : Int))) (fun σ2 H2 hP => ?_) (fun J2 hJ2 => ?_)
 obtain ⟨lE, ho0⟩ := hP
 exact keq (K := K) (by rw [decide_eq_true (show (l = m) from by exact same_eq (by omega) ho0)]) (hk   _    lE)
 refine ⟨fun n' σ' H' => ∃ i : Nat, n' = l.length - i ∧ i ≤ l.length ∧ σ' 0 = va ∧ σ' 1 = vb ∧ σ' 5 = (.int .i64 ((i : Int))) ∧ Le H H' ∧ (∀ j : Nat, j < i → at_ 0 l (j : Int) = at_ 0 m (j : Int)),
    ⟨_, 0, rfl, by omega, rfl, rfl, (congrArg (Value.int .i64) (by first | omega | rfl | (simp; done))), lE, (fun j hj => by omega)⟩, ?_⟩
 rintro n3 σ3 H3 ⟨i, rfl, hiN, g0L3, g1L3, g5L3, lE, hm0⟩
 try simp only [g0L3, g1L3, g5L3]
 refine ob_i ((hva0.le lE).len) (ob_i (vInt_lss _ _ _) (cnd_d (fun hg4 => ?_) (fun hg4 => ?_)))
 have ti := hg4
 refine ob_i ((hva0.le lE).ix (by omega) (by omega)) (ob_i ((hva0.le lE).ld 0 (by omega) (by omega)) (ob_i ((hvb0.le lE).ix (by omega) (by omega)) (ob_i ((hvb0.le lE).ld 0 (by omega) (by omega)) (ob_i (vInt_neq _ _ _) (cnd_d (fun hg5 => ?_) (fun hg5 => ?_))))))
 refine retK (K := K) (v' := (.bool false)) rfl ?_
 exact keq (K := K) (by rw [decide_eq_false (show ¬ (l = m) from by intro h; subst h; omega)]) (hk   _    lE)
 refine ob_i (vInt_add (by omega) (by omega)) ?_
 exact nxt (l.length - (i + 1)) (by omega) ⟨i + 1, rfl, by omega, g0L3, g1L3, (congrArg (Value.int .i64) (by first | omega | rfl | (simp; done))), lE, (same_snoc hm0 (Decidable.not_not.mp hg5))⟩
 have ti := hg4
 exact hJ2 _ _ ⟨lE, (by rw [show l.length = i by omega]; exact hm0)⟩

theorem C.c47 (hp0 : CelR H p [.int .i64 r, .int .i64 c, vc]) (hvc0 : Sl eI H vc l) (l0 : Le H H1) (ovt : Own eI H1 vt t) (nvt : Nw H vt) (hl : (l.length : Int) = r * c) (k1 : l.length ≤ 256) (hr : r ≤ 16) (hc : c ≤ 16) (i0 : 0 ≤ i) (k0 : 0 ≤ k) (iz : i + z ≤ r) (kz : k + z ≤ c) (hm : t.length % 4 = 0) (hz : z = szz (0)) (he : (0) ≤ 4) (hb : t.length + grQ ((0)) ≤ 1000)
    (hk : ∀ u H', Own eI H' u (telF c l (0) i k t).2 → Off vt H1 H' → (∀ b, bk u = some b → bk vt = some b ∨ H1 b = none) → K (.tuple #[.int .i64 (telF c l (0) i k t).1, u]) H') : HT prg 117 [p, .int .i64 i, .int .i64 k, .int .i64 z, vt].toArray H1 K := by
 have lE := l0
 have hp := hp0.le l0
 have hvc := hvc0.le l0
 obtain ⟨Sfr, hSfr⟩ : ∃ S, S = rest H1 vt := ⟨_, rfl⟩
 have ofr : Frm H1 Sfr H1 := by rw [hSfr]; exact rest_start
 have avtXfr : Apt vt Sfr := by rw [hSfr]; exact rest_apt
 refine R.q117 ?_
 unfold F.q117
 have hz1 : z = 1 := hz
 have ic0 := Int.mul_nonneg i0 (show 0 ≤ c by omega)
 have ic1 := Int.mul_le_mul_of_nonneg_right (show i + 1 ≤ r by omega) (show 0 ≤ c by omega)
 rw [Int.add_mul, Int.one_mul] at ic1
 refine ob_i (vInt_eql _ _ _) (cnd_d (fun hg1 => ?_) (fun hg1 => ?_))
 refine ob_i (hp.nilC) (ob_i (hp.fa 2) (ob_i (hp.ld 2 rfl) (ob_i (hp.nilC) (ob_i (hp.fa 1) (ob_i (hp.ld 1 rfl) (ob_i (vInt_mul (by omega) (by omega)) (ob_i (vInt_add (by omega) (by omega)) (ob_i (hvc.ix (by omega) (by omega)) (ob_i (hvc.ld 0 (by omega) (by omega)) ?_)))))))))
 have hq : telF c l 0 i k t = (at_ 0 (l) ((i * c) + k), t) := rfl
 rw [hq] at hk
 have afr := avtXfr
 rw [hSfr] at ofr afr
 exact hk vt _ ovt (rest_off ofr) (rest_new afr)
 exact absurd hg1 (fun h => h hz)

def TellP (e : Nat) : Prop := ∀ {p vc vt : Value} {r c i k z : Int} {l t : List Int} {H H1 : Hp} {K : Value → Hp → Prop}, CelR H p [.int .i64 r, .int .i64 c, vc] → Sl eI H vc l → Le H H1 → Own eI H1 vt t → Nw H vt → (l.length : Int) = r * c → l.length ≤ 256 → r ≤ 16 → c ≤ 16 → 0 ≤ i → 0 ≤ k → i + z ≤ r → k + z ≤ c → t.length % 4 = 0 → z = szz e → e ≤ 4 → t.length + grQ e ≤ 1000 →
    (∀ u H', Own eI H' u (telF c l e i k t).2 → Off vt H1 H' → (∀ b, bk u = some b → bk vt = some b ∨ H1 b = none) → K (.tuple #[.int .i64 (telF c l e i k t).1, u]) H') → HT prg 117 [p, .int .i64 i, .int .i64 k, .int .i64 z, vt].toArray H1 K
theorem C.c48 (ih : TellP e) {p vc vt : Value} {r c i k z : Int} {l t : List Int} {H H1 : Hp} {K : Value → Hp → Prop} (hp0 : CelR H p [.int .i64 r, .int .i64 c, vc]) (hvc0 : Sl eI H vc l) (l0 : Le H H1) (ovt : Own eI H1 vt t) (nvt : Nw H vt) (hl : (l.length : Int) = r * c) (k1 : l.length ≤ 256) (hr : r ≤ 16) (hc : c ≤ 16) (i0 : 0 ≤ i) (k0 : 0 ≤ k) (iz : i + z ≤ r) (kz : k + z ≤ c) (hm : t.length % 4 = 0) (hz : z = szz (e + 1)) (he : (e + 1) ≤ 4) (hb : t.length + grQ ((e + 1)) ≤ 1000)
    (hk : ∀ u H', Own eI H' u (telF c l (e + 1) i k t).2 → Off vt H1 H' → (∀ b, bk u = some b → bk vt = some b ∨ H1 b = none) → K (.tuple #[.int .i64 (telF c l (e + 1) i k t).1, u]) H') : HT prg 117 [p, .int .i64 i, .int .i64 k, .int .i64 z, vt].toArray H1 K := by
 have lE := l0
 obtain ⟨Sfr, hSfr⟩ : ∃ S, S = rest H1 vt := ⟨_, rfl⟩
 have ofr : Frm H1 Sfr H1 := by rw [hSfr]; exact rest_start
 have avtXfr : Apt vt Sfr := by rw [hSfr]; exact rest_apt
 refine R.q117 ?_
 unfold F.q117
 have zz := szz_succ e
 have zp := szz_pos e
 have gq : grQ (e + 1) = 4 * grQ e + 4 := rfl
 refine ob_i (vInt_eql _ _ _) (cnd_d (fun hg1 => ?_) (fun hg1 => ?_))
 exact absurd hg1 (by omega)
 refine ob_i (vInt_quoN (by omega) (by omega) (by omega)) ?_
 obtain ⟨h, hh⟩ : ∃ x, x = z / 2 := ⟨_, rfl⟩
 rw [← hh]
 refine bS_nil (enc := eI) (fun u2 H3 ou2 nn4 kk5 le6 => ?_)
 have avtXu2 := ovt.apart nn4
 have afrXu2 : Apt Sfr u2 := Apt.of_nw ofr.known nn4
 have nu2 := nn4.le lE
 refine jn_i (fun σ' H' => ∃ v, ∃ w, σ' 4 = v ∧ σ' 13 = w ∧ Frm H1 Sfr H' ∧ Own eI H' v ((fourQ (telF c l e) h i k t 4).2) ∧ Own eI H' w ((fourQ (telF c l e) h i k t 4).1) ∧ Nw H v ∧ Apt Sfr v ∧ Nw H w ∧ Apt Sfr w ∧ Apart v w ∧ Le H H') (fun σ7 H7 hP => ?_) (fun J7 hJ7 => ?_)
 replace ofr := ofr.le le6
 replace lE := lE.trans le6
 obtain ⟨v, w, g4L7, g13L7, ofr, ov, ow, nv, afrXv, nw, afrXw, avXw, lE⟩ := hP
 try simp only [g4L7, g13L7]
 have fl := fourQ_len2 (h := h) (i := i) (k := k) (telF_len c l e) hm 4
 have f1 := fourQ_len1 (g := telF c l e) (h := h) (i := i) (k := k) (t := t) 4
 refine jn_i (fun σ' H' => σ' 4 = v ∧ σ' 13 = w ∧ Frm H1 Sfr H' ∧ Own eI H' v ((fourQ (telF c l e) h i k t 4).2) ∧ Own eI H' w ((fourQ (telF c l e) h i k t 4).1) ∧ Le H H' ∧ (∀ j : Nat, j < (fourQ (telF c l e) h i k t 4).2.length / 4 → chQ (fourQ (telF c l e) h i k t 4).2 j ≠ (fourQ (telF c l e) h i k t 4).1)) (fun σ8 H8 hP => ?_) (fun J8 hJ8 => ?_)
 obtain ⟨g4L8, g13L8, ofr, ov, ow, lE, ho0⟩ := hP
 try simp only [g4L8, g13L8]
 refine ob_i (ov.len) (ob_i (vInt_quoN (by omega) (by omega) (by omega)) (ob_i (vInt_add (by omega) (by omega)) ?_))
 refine apd_any ov ow.sl (fun _ => rfl) (by omega) (by first | omega | (simp only [List.length_cons, List.length_nil, List.length_append, List.length_replicate, List.length_map, List.length_range]; omega)) (fun u12 H9 ou12 off10 hb11 => ?_)
 have afrXu12 := Apt.ap2 ofr.known afrXv hb11
 have e1 : h = szz e := by rw [hh, hz]; exact szz_half e
 have zz := szz_succ e
 have hq : telF c l (e + 1) i k t = ((((((fourQ (telF c l e) h i k t 4).2).length : Int)) / 4) + 2, ((fourQ (telF c l e) h i k t 4).2) ++ ((fourQ (telF c l e) h i k t 4).1)) := by
    show putQ (fourQ (telF c l e) (szz e) i k t 4).2 (fourQ (telF c l e) (szz e) i k t 4).1 = _
    rw [← e1, putQ_none ho0]
 rw [hq] at hk
 have afr := afrXu12.symm
 replace ofr := ofr.off off10 afrXv
 rw [hSfr] at ofr afr
 exact hk u12 _ ou12 (rest_off ofr) (rest_new afr)
 refine ⟨fun n' σ' H' => ∃ m : Nat, n' = ((fourQ (telF c l e) h i k t 4).2.length / 4) - m ∧ m ≤ ((fourQ (telF c l e) h i k t 4).2.length / 4) ∧ σ' 4 = v ∧ σ' 13 = w ∧ σ' 17 = (.int .i64 (4 * (m : Int))) ∧ Frm H1 Sfr H' ∧ Own eI H' v ((fourQ (telF c l e) h i k t 4).2) ∧ Own eI H' w ((fourQ (telF c l e) h i k t 4).1) ∧ Le H H' ∧ (∀ j : Nat, j < m → chQ (fourQ (telF c l e) h i k t 4).2 j ≠ (fourQ (telF c l e) h i k t 4).1),
    ⟨_, 0, rfl, by omega, g4L7, g13L7, (congrArg (Value.int .i64) (by first | omega | rfl | (simp; done))), ofr, ov, ow, lE, (fun j hj => by omega)⟩, ?_⟩
 rintro n13 σ13 H13 ⟨m, rfl, hmN, g4L13, g13L13, g17L13, ofr, ov, ow, lE, hm0⟩
 try simp only [g4L13, g13L13, g17L13]
 refine ob_i (ov.len) (ob_i (vInt_lss _ _ _) (cnd_d (fun hg14 => ?_) (fun hg14 => ?_)))
 have tm := hg14
 refine ob_i (vInt_add (by omega) (by omega)) ?_
 obtain ⟨x15, eq16a, eq16b, eq16c, eq16d, hx150, hb17⟩ := ov.sl.cut (lo := 4 * (m : Int)) (hi := (4 * (m : Int)) + 4) (by omega) (by omega) (by omega)
 refine ob_i (eq16a) ?_
 have ox15 : Ro eI H13 x15 ((((fourQ (telF c l e) h i k t 4).2).drop (4 * (m : Int)).toNat).take (((4 * (m : Int)) + 4).toNat - (4 * (m : Int)).toNat)) := ⟨hx150, fun b hb => ov.known b (hb17 b hb)⟩
 refine C.c46 ox15.sl ow.sl (by first | (simp only [List.length_take, List.length_drop]; omega) | omega | assumption) (fun   H18    le19 => ?_)
 refine cnd_d (fun hg20 => ?_) (fun hg20 => ?_)
 refine ob_i (vInt_quoN (by omega) (by omega) (by omega)) (ob_i (vInt_add (by omega) (by omega)) (retK (K := K) (v' := (.tuple #[(.int .i64 (((4 * (m : Int)) / 4) + 2)), v])) rfl ?_))
 have e1 : h = szz e := by rw [hh, hz]; exact szz_half e
 have zz := szz_succ e
 have hq : telF c l (e + 1) i k t = (((4 * (m : Int)) / 4) + 2, (fourQ (telF c l e) h i k t 4).2) := by
    show putQ (fourQ (telF c l e) (szz e) i k t 4).2 (fourQ (telF c l e) (szz e) i k t 4).1 = _
    rw [← e1, putQ_at (j := m) (by omega) (by rw [← chQ_cut]; exact hg20) hm0]; congr 1; omega
 rw [hq] at hk
 have afr := afrXv.symm
 replace ofr := ofr.le le19
 rw [hSfr] at ofr afr
 replace ov := ov.le le19
 exact hk v _ ov (rest_off ofr) (rest_new afr)
 refine ob_i (vInt_add (by omega) (by omega)) ?_
 replace ofr := ofr.le le19
 replace ov := ov.le le19
 replace ow := ow.le le19
 replace lE := lE.trans le19
 exact nxt (((fourQ (telF c l e) h i k t 4).2.length / 4) - (m + 1)) (by omega) ⟨m + 1, rfl, by omega, g4L13, g13L13, (congrArg (Value.int .i64) (by first | omega | rfl | (simp; done))), ofr, ov, ow, lE, (fun j hj => by by_cases ej : j = m; (subst ej; rw [← chQ_cut]; exact hg20); exact hm0 j (by omega))⟩
 have tm := hg14
 exact hJ8 _ _ ⟨g4L13, g13L13, ofr, ov, ow, lE, (by rw [show (fourQ (telF c l e) h i k t 4).2.length / 4 = m by omega]; exact hm0)⟩
 replace ovt := ovt.le le6
 replace ofr := ofr.le le6
 replace lE := lE.trans le6
 refine ⟨fun n' σ' H' => ∃ q : Nat, n' = 4 - q ∧ q ≤ 4 ∧ ∃ v, ∃ w, σ' 0 = p ∧ σ' 1 = (.int .i64 (i)) ∧ σ' 2 = (.int .i64 (k)) ∧ σ' 4 = v ∧ σ' 12 = (.int .i64 (h)) ∧ σ' 13 = w ∧ σ' 14 = (.int .i64 ((q : Int))) ∧ Frm H1 Sfr H' ∧ Own eI H' v ((fourQ (telF c l e) h i k t q).2) ∧ Own eI H' w ((fourQ (telF c l e) h i k t q).1) ∧ Nw H v ∧ Apt Sfr v ∧ Nw H w ∧ Apt Sfr w ∧ Apart v w ∧ Le H H',
    ⟨_, 0, rfl, by omega, vt, u2, rfl, rfl, rfl, rfl, rfl, rfl, (congrArg (Value.int .i64) (by first | omega | rfl | (simp; done))), ofr, (Own.cast (by first | rfl | (simp; done)) ovt), (Own.cast (by first | rfl | (simp; done)) ou2), nvt, avtXfr.symm, nu2, afrXu2, avtXu2, lE⟩, ?_⟩
 rintro n21 σ21 H21 ⟨q, rfl, hqN, v, w, g0L21, g1L21, g2L21, g4L21, g12L21, g13L21, g14L21, ofr, ov, ow, nv, afrXv, nw, afrXw, avXw, lE⟩
 try simp only [g0L21, g1L21, g2L21, g4L21, g12L21, g13L21, g14L21]
 have fl := fourQ_len2 (h := h) (i := i) (k := k) (telF_len c l e) hm q
 have f1 := fourQ_len1 (g := telF c l e) (h := h) (i := i) (k := k) (t := t) q
 have e1 : h = szz e := by rw [hh, hz]; exact szz_half e
 have zz := szz_succ e
 refine ob_i (vInt_lss _ _ _) (cnd_d (fun hg22 => ?_) (fun hg22 => ?_))
 have tq := hg22
 have qb : q * grQ e ≤ 3 * grQ e := Nat.mul_le_mul_right _ (by omega)
 have hq2 : 0 ≤ (q : Int) / 2 * h ∧ (q : Int) / 2 * h ≤ h := by
    have : (q : Int) / 2 = 0 ∨ (q : Int) / 2 = 1 := by omega
    rcases this with h' | h' <;> rw [h'] <;> omega
 have hq3 : 0 ≤ (q : Int) % 2 * h ∧ (q : Int) % 2 * h ≤ h := by
    have : (q : Int) % 2 = 0 ∨ (q : Int) % 2 = 1 := by omega
    rcases this with h' | h' <;> rw [h'] <;> omega
 refine ob_i (vInt_quoN (by omega) (by omega) (by omega)) (ob_i (vInt_mul (by omega) (by omega)) (ob_i (vInt_add (by omega) (by omega)) (ob_i (vInt_remN (by omega) (by omega)) (ob_i (vInt_mul (by omega) (by omega)) (ob_i (vInt_add (by omega) (by omega)) ?_)))))
 refine ih hp0 hvc0 lE ov nv hl k1 (by omega) (by omega) (by omega) (by omega) (by omega) (by omega) (by first | omega | rfl) (by first | assumption | omega) (by omega) (by first | omega | (simp only [List.length_nil]; omega)) (fun u26 H23 ou26 off24 hb25 => ?_)
 have afrXu26 := Apt.ap2 ofr.known afrXv hb25
 have awXu26 := Apart.ap2 ow.known avXw.symm hb25
 have nu26 : Nw H u26 := Nw.ap2 nv lE hb25
 refine ob_i (vExt_20 _ _) (ob_i (vExt_21 _ _) (bS_i (enc := eI) (l := [(telF c l e (i + (((q : Int) / 2) * h)) (k + (((q : Int) % 2) * h)) ((fourQ (telF c l e) h i k t q).2)).1]) (by omega) rfl (by kernel_rfl) (fun u27 H28 ou27 nn29 le31 => ?_)))
 replace ow := (ow.off off24 avXw.symm).le le31
 refine apd_any ow ou27.sl (fun _ => rfl) (by omega) (by first | omega | (simp only [List.length_cons, List.length_nil, List.length_append, List.length_replicate, List.length_map, List.length_range]; omega)) (fun u35 H32 ou35 off33 hb34 => ?_)
 replace ofr := (ofr.off off24 afrXv).le le31
 have afrXu35 := Apt.ap2 ofr.known afrXw hb34
 replace ou26 := ou26.le le31
 have au26Xu35 := Apart.ap2 ou26.known awXu26.symm hb34
 replace lE := (off24.le lE nv).trans le31
 have nu35 : Nw H u35 := Nw.ap2 nw lE hb34
 refine ob_i (vInt_add (by omega) (by omega)) ?_
 replace ofr := ofr.off off33 afrXw
 replace ou26 := ou26.off off33 awXu26.symm
 replace lE := off33.le lE nw
 exact nxt (4 - (q + 1)) (by omega) ⟨q + 1, rfl, by omega, u26, u35, g0L21, g1L21, g2L21, rfl, g12L21, rfl, (congrArg (Value.int .i64) (by first | omega | rfl | (simp; done))), ofr, ou26, ou35, nu26, afrXu26, nu35, afrXu35, au26Xu35, lE⟩
 have tq := hg22
 obtain rfl : q = 4 := by omega
 exact hJ7 _ _ ⟨v, w, g4L21, g13L21, ofr, ov, ow, nv, afrXv, nw, afrXw, avXw, lE⟩

theorem C.c49 : ∀ e, TellP e
  | 0 => fun a b d f g h0 h1 h2 h3 h4 h5 h6 h7 h8 h9 h10 h11 hk => C.c47 a b d f g h0 h1 h2 h3 h4 h5 h6 h7 h8 h9 h10 h11 hk
  | e + 1 => fun a b d f g h0 h1 h2 h3 h4 h5 h6 h7 h8 h9 h10 h11 hk => C.c48 (C.c49 e) a b d f g h0 h1 h2 h3 h4 h5 h6 h7 h8 h9 h10 h11 hk
theorem C.c50  {H : Hp} {K : Value → Hp → Prop} (hp0 : Cel H p [(.int .i64 (r)), (.int .i64 (c)), vc]) (hvc0 : Sl eI H vc l) (hP : sqP r c l)
    (hk : ∀ u1 H', Own eI H' u1 (treL r c l) → Nw H u1 → Le H H' → K u1 H') : HT prg 76 [p].toArray H K := by
 have lE := Le.refl H
 refine R.q76 ?_
 unfold F.q76
 have hf := hP.1
 have hl := hf.2.1
 have hrc := hP.2.1
 have hr4 := hP.2.2
 have zr : r = szz (lgN r - 1) := by rcases hr4 with rfl | rfl | rfl <;> decide
 have e5 : lgN r - 1 ≤ 4 := by rcases hr4 with rfl | rfl | rfl <;> decide
 have g5 := grQ_le (lgN r - 1) e5
 have k1 : l.length ≤ 256 := by have := Int.mul_le_mul (show r ≤ 16 by omega) (show c ≤ 16 by omega) (by omega) (by omega); omega
 refine ob_i ((hp0.le lE).nilC) (ob_i ((hp0.le lE).fa 0) (ob_i ((hp0.le lE).ld 0 rfl) (bS_nil (enc := eI) (fun u1 H2 ou1 nn3 kk4 le5 => ?_))))
 have nu1 := nn3.le lE
 replace lE := lE.trans le5
 refine C.c49 (lgN r - 1) hp0.r hvc0 lE ou1 nu1 hl k1 (by omega) (by omega) (by omega) (by omega) (by omega) (by omega) (by first | omega | rfl) (by first | assumption | omega) (by omega) (by first | omega | (simp only [List.length_nil]; omega)) (fun u9 H6 ou9 off7 hb8 => ?_)
 have nu9 : Nw H u9 := Nw.ap2 nu1 lE hb8
 refine ob_i (vExt_20 _ _) (ob_i (vExt_21 _ _) ?_)
 replace lE := off7.le lE nu1
 exact hk  u9 _ (Own.cast (show (telF c l (lgN r - 1) (0) (0) ([])).2 = treL r c l by first | rfl | simp) ou9) nu9  lE

theorem C.c51  {H : Hp} {K : Value → Hp → Prop} (hvc0 : Sl eI H vc l) (k1 : l.length ≤ 9223372036854775807)
    (hk : ∀ u1 H', Own eI H' u1 (selL (sqP r c l) (treL r c l)) → Nw H u1 → Le H H' → K (.tuple #[u1, (.bool (decide (sqP r c l)))]) H') : HT prg 35 [(.agg #[(.int .i64 (r)), (.int .i64 (c)), vc])].toArray H K := by
 have lE := Le.refl H
 refine R.q35 ?_
 unfold F.q35
 refine nw_i (fun p1 H2 op1 nn3 le4 => ?_)
 replace op1 : Cel H2 p1 [(.int .i64 (r)), (.int .i64 (c)), vc] := op1
 replace lE := lE.trans le4
 refine C.c39 op1 (hvc0.le lE) (by first | omega | assumption) (fun   H5    le6 => ?_)
 refine ob_nd (fun hc7 => ?_) (fun hc7 => ?_)
 have hf := hc7.1
 have l1 := fieldN_len hf
 refine cnd_f1 ?_
 replace op1 := op1.le le6
 replace lE := lE.trans le6
 refine C.c50 op1 (hvc0.le lE) (by first | omega | assumption) (fun  u10 H8 ou10 nn11  le9 => ?_)
 have nu10 := nn11.le lE
 have hok : sqP r c l := by assumption
 replace lE := lE.trans le9
 exact keq (K := K) (by rw [decide_eq_true (show (sqP r c l) from by exact hok)]) (hk  u10 _ (Own.cast (show treL r c l = selL (sqP r c l) (treL r c l) by exact (selL_t hok).symm) ou10) nu10  lE)
 refine cnd_t1 ?_
 have hok : ¬ (sqP r c l) := by assumption
 replace lE := lE.trans le6
 exact keq (K := K) (by rw [decide_eq_false (show ¬ (sqP r c l) from by exact hok)]) (hk  (.slice none 0 0) _ (Own.cast (show [] = selL (sqP r c l) (treL r c l) by exact (selL_f hok).symm) (Own.nil_of none)) (fun b hb => by simp [bk] at hb)  lE)

theorem C.c52 {pf ft pl po mq : Value} {Smq : Rg} (hvc0 : Sl eI H vc l) (l0 : Le H H1) (opf : Cel H1 pf [.int .i64 r, .int .i64 c, vc]) (oft : Cel H1 ft [.func (.func 116) #[] #[pf, ft, pl, po]]) (opl : Cel H1 pl [mq]) (omq : MpQ H1 mq Smq (entQ t)) (opo : Cel H1 po [vt]) (ovt : Own eI H1 vt t) (apfXmq : Apt pf Smq) (apfXpo : Apart pf po) (apfXvt : Apart pf vt) (aftXmq : Apt ft Smq) (aftXpo : Apart ft po) (aftXvt : Apart ft vt) (aplXmq : Apt pl Smq) (aplXpo : Apart pl po) (aplXvt : Apart pl vt) (amqXpo : Apt Smq po) (amqXvt : Apt Smq vt) (apoXvt : Apart po vt) (nmq : Nws H Smq) (npo : Nw H po) (nvt : Nw H vt) (hl : (l.length : Int) = r * c) (k1 : l.length ≤ 256) (hr : r ≤ 16) (hc : c ≤ 16) (i0 : 0 ≤ i) (k0 : 0 ≤ k) (iz : i + z ≤ r) (kz : k + z ≤ c) (hm : t.length % 4 = 0) (hz : z = szz (0)) (he : (0) ≤ 4) (hb : t.length + grQ ((0)) ≤ 1000)
    (hk : ∀ u H', Own eI H' u (telF c l (0) i k t).2 → MpQ H' mq Smq (entQ (telF c l (0) i k t).2) → Cel H' po [u] → OffS (HL.tri po Smq vt) H1 H' → (∀ b, bk u = some b → bk vt = some b ∨ H1 b = none) → K (.int .i64 (telF c l (0) i k t).1) H') : HT prg 116 [.int .i64 i, .int .i64 k, .int .i64 z, pf, ft, pl, po].toArray H1 K := by
 have lE := l0
 have hvc := hvc0.le l0
 obtain ⟨Sfr, hSfr⟩ : ∃ S, S = rest H1 (HL.tri po Smq vt) := ⟨_, rfl⟩
 have ofr : Frm H1 Sfr H1 := by rw [hSfr]; exact rest_start
 have avtXfr : Apt vt Sfr := by rw [hSfr]; exact tri_apt.2.2
 refine R.q116 ?_
 unfold F.q116
 have hz1 : z = 1 := hz
 have ic0 := Int.mul_nonneg i0 (show 0 ≤ c by omega)
 have ic1 := Int.mul_le_mul_of_nonneg_right (show i + 1 ≤ r by omega) (show 0 ≤ c by omega)
 rw [Int.add_mul, Int.one_mul] at ic1
 refine ob_i (vInt_eql _ _ _) (cnd_d (fun hg1 => ?_) (fun hg1 => ?_))
 refine ob_i (opf.ldn rfl) (C.c11 hvc (by first | omega | assumption) (by first | omega | assumption) (by first | omega | assumption) (by first | omega | assumption) (by first | omega | assumption) (fun   H2    le3 => ?_))
 have hq : telF c l 0 i k t = (at_ 0 l (i * c + k), t) := rfl
 rw [hq] at hk
 have afr := avtXfr
 replace ofr := ofr.le le3
 rw [hSfr] at ofr afr
 replace omq := omq.le le3
 replace opo := opo.le le3
 replace ovt := ovt.le le3
 exact hk vt _ ovt (omq) opo (rest_offS ofr) (tri_new afr apoXvt.symm amqXvt.symm)
 exact absurd hg1 (fun h => h hz)

def TreeP (e : Nat) : Prop := ∀ {pf ft pl po mq vc vt : Value} {Smq : Rg} {r c i k z : Int} {l t : List Int} {H H1 : Hp} {K : Value → Hp → Prop} , ∀ (hvc0 : Sl eI H vc l) (l0 : Le H H1) (opf : Cel H1 pf [.int .i64 r, .int .i64 c, vc]) (oft : Cel H1 ft [.func (.func 116) #[] #[pf, ft, pl, po]]) (opl : Cel H1 pl [mq]) (omq : MpQ H1 mq Smq (entQ t)) (opo : Cel H1 po [vt]) (ovt : Own eI H1 vt t) (apfXmq : Apt pf Smq) (apfXpo : Apart pf po) (apfXvt : Apart pf vt) (aftXmq : Apt ft Smq) (aftXpo : Apart ft po) (aftXvt : Apart ft vt) (aplXmq : Apt pl Smq) (aplXpo : Apart pl po) (aplXvt : Apart pl vt) (amqXpo : Apt Smq po) (amqXvt : Apt Smq vt) (apoXvt : Apart po vt) (nmq : Nws H Smq) (npo : Nw H po) (nvt : Nw H vt) (hl : (l.length : Int) = r * c) (k1 : l.length ≤ 256) (hr : r ≤ 16) (hc : c ≤ 16) (i0 : 0 ≤ i) (k0 : 0 ≤ k) (iz : i + z ≤ r) (kz : k + z ≤ c) (hm : t.length % 4 = 0) (hz : z = szz e) (he : e ≤ 4) (hb : t.length + grQ (e) ≤ 1000) (hk : ∀ u H', Own eI H' u (telF c l (e) i k t).2 → MpQ H' mq Smq (entQ (telF c l (e) i k t).2) → Cel H' po [u] → OffS (HL.tri po Smq vt) H1 H' → (∀ b, bk u = some b → bk vt = some b ∨ H1 b = none) → K (.int .i64 (telF c l (e) i k t).1) H'), HT prg 116 [.int .i64 i, .int .i64 k, .int .i64 z, pf, ft, pl, po].toArray H1 K
theorem C.c53 (ih : TreeP e) {pf ft pl po mq vc vt : Value} {Smq : Rg} {r c i k z : Int} {l t : List Int} {H H1 : Hp} {K : Value → Hp → Prop} (hvc0 : Sl eI H vc l) (l0 : Le H H1) (opf : Cel H1 pf [.int .i64 r, .int .i64 c, vc]) (oft : Cel H1 ft [.func (.func 116) #[] #[pf, ft, pl, po]]) (opl : Cel H1 pl [mq]) (omq : MpQ H1 mq Smq (entQ t)) (opo : Cel H1 po [vt]) (ovt : Own eI H1 vt t) (apfXmq : Apt pf Smq) (apfXpo : Apart pf po) (apfXvt : Apart pf vt) (aftXmq : Apt ft Smq) (aftXpo : Apart ft po) (aftXvt : Apart ft vt) (aplXmq : Apt pl Smq) (aplXpo : Apart pl po) (aplXvt : Apart pl vt) (amqXpo : Apt Smq po) (amqXvt : Apt Smq vt) (apoXvt : Apart po vt) (nmq : Nws H Smq) (npo : Nw H po) (nvt : Nw H vt) (hl : (l.length : Int) = r * c) (k1 : l.length ≤ 256) (hr : r ≤ 16) (hc : c ≤ 16) (i0 : 0 ≤ i) (k0 : 0 ≤ k) (iz : i + z ≤ r) (kz : k + z ≤ c) (hm : t.length % 4 = 0) (hz : z = szz (e + 1)) (he : (e + 1) ≤ 4) (hb : t.length + grQ ((e + 1)) ≤ 1000)
    (hk : ∀ u H', Own eI H' u (telF c l (e + 1) i k t).2 → MpQ H' mq Smq (entQ (telF c l (e + 1) i k t).2) → Cel H' po [u] → OffS (HL.tri po Smq vt) H1 H' → (∀ b, bk u = some b → bk vt = some b ∨ H1 b = none) → K (.int .i64 (telF c l (e + 1) i k t).1) H') : HT prg 116 [.int .i64 i, .int .i64 k, .int .i64 z, pf, ft, pl, po].toArray H1 K := by
 have lE := l0
 obtain ⟨Sfr, hSfr⟩ : ∃ S, S = rest H1 (HL.tri po Smq vt) := ⟨_, rfl⟩
 have ofr : Frm H1 Sfr H1 := by rw [hSfr]; exact rest_start
 have amqXfr : Apt Smq Sfr := by rw [hSfr]; exact tri_apt.2.1
 have apoXfr : Apt po Sfr := by rw [hSfr]; exact tri_apt.1
 have avtXfr : Apt vt Sfr := by rw [hSfr]; exact tri_apt.2.2
 refine R.q116 ?_
 unfold F.q116
 have zz := szz_succ e
 have zp := szz_pos e
 have gq : grQ (e + 1) = 4 * grQ e + 4 := rfl
 refine ob_i (vInt_eql _ _ _) (cnd_d (fun hg1 => ?_) (fun hg1 => ?_))
 exact absurd hg1 (by omega)
 refine ob_i (vInt_quoN (by omega) (by omega) (by omega)) ?_
 obtain ⟨h, hh⟩ : ∃ x, x = z / 2 := ⟨_, rfl⟩
 rw [← hh]
 refine hp_val (v := (.agg #[(.int .i64 (0)), (.int .i64 (0)), (.int .i64 (0)), (.int .i64 (0))])) (fun K => by kernel_rfl) ?_
 refine nw_i (fun pa H2 opa nn3 le4 => ?_)
 have apfXpa := opf.apart nn3
 have aftXpa := oft.apart nn3
 have aplXpa := opl.apart nn3
 have amqXpa : Apt Smq pa := Apt.of_nw omq.known nn3
 have apoXpa := opo.apart nn3
 have avtXpa := ovt.apart nn3
 have afrXpa : Apt Sfr pa := Apt.of_nw ofr.known nn3
 have npa := nn3.le lE
 refine opa.stn (ws := [(.int .i64 (0)), (.int .i64 (0)), (.int .i64 (0)), (.int .i64 (0))]) rfl rfl (oc1 rfl (oc1 rfl (oc1 rfl (oc1 rfl oc0)))) (fun H5 opa off6 => ?_)
 refine jn_i (fun σ' H' => ∃ v, σ' 5 = pl ∧ σ' 6 = po ∧ σ' 12 = pa ∧ Cel H' pf [(.int .i64 (r)), (.int .i64 (c)), vc] ∧ Cel H' ft [(.func (.func 116) #[] #[pf, ft, pl, po])] ∧ Cel H' pl [mq] ∧ MpQ H' mq Smq (entQ (fourQ (telF c l e) h i k t 4).2) ∧ Cel H' po [v] ∧ Frm H1 Sfr H' ∧ Cel H' pa [(.int .i64 (at_ 0 ((fourQ (telF c l e) h i k t 4).1) 0)), (.int .i64 (at_ 0 ((fourQ (telF c l e) h i k t 4).1) 1)), (.int .i64 (at_ 0 ((fourQ (telF c l e) h i k t 4).1) 2)), (.int .i64 (at_ 0 ((fourQ (telF c l e) h i k t 4).1) 3))] ∧ Own eI H' v ((fourQ (telF c l e) h i k t 4).2) ∧ Nw H v ∧ Apart pf v ∧ Apart ft v ∧ Apart pl v ∧ Apt Smq v ∧ Apart po v ∧ Apt Sfr v ∧ Apart pa v ∧ Le H H') (fun σ7 H7 hP => ?_) (fun J7 hJ7 => ?_)
 replace opf := (opf.le le4).off off6 apfXpa
 replace oft := (oft.le le4).off off6 aftXpa
 replace opl := (opl.le le4).off off6 aplXpa
 replace omq := (omq.le le4).off off6 amqXpa
 replace opo := (opo.le le4).off off6 apoXpa
 replace ofr := (ofr.le le4).off off6 afrXpa
 replace lE := off6.le (lE.trans le4) npa
 obtain ⟨v, g5L7, g6L7, g12L7, opf, oft, opl, omq, opo, ofr, opa, ov, nv, apfXv, aftXv, aplXv, amqXv, apoXv, afrXv, apaXv, lE⟩ := hP
 try simp only [g5L7, g6L7, g12L7]
 have fl := fourQ_len2 (h := h) (i := i) (k := k) (telF_len c l e) hm 4
 have f1 := fourQ_len1 (g := telF c l e) (h := h) (i := i) (k := k) (t := t) 4
 have eL := entQ_len (t := (fourQ (telF c l e) h i k t 4).2)
 have gb := mgetQ_bnd (T := (fourQ (telF c l e) h i k t 4).2) (F := (fourQ (telF c l e) h i k t 4).1) f1
 refine ob_i (opl.ld0 rfl) (ob_i (opa.ldn rfl) (MpQ.look' (k := (fourQ (telF c l e) h i k t 4).1) omq (by kernel_rfl) ?_))
 refine ob_i (vExt_20 _ _) (ob_i (vExt_21 _ _) (ob_i (vUn_not _) (cnd_i (fun hg8 => ?_) (fun hg8 => ?_))))
 refine ob_i (opl.ld0 rfl) (ob_i (omq.len (by kernel_rfl)) (ob_i (opl.ld0 rfl) (ob_i (opa.ldn rfl) (MpQ.add' (k := (fourQ (telF c l e) h i k t 4).1) omq (by kernel_rfl) (by exact none_of_not (by assumption)) (fun H9 omq off10 => ?_)))))
 replace opo := opo.offS off10 amqXpo.symm
 refine ob_i (opo.ld0 rfl) ?_
 replace opa := opa.offS off10 amqXpa.symm
 obtain ⟨x11, eq12, ox11, hb13⟩ := Cel.slA (L := (fourQ (telF c l e) h i k t 4).1) (Cel.cast (c4_map (by omega)) opa) (by omega)
 refine ob_i (eq12) ?_
 replace ov := ov.offS off10 amqXv.symm
 refine apd_any ov ox11.sl (fun _ => rfl) (by omega) (by first | omega | (simp only [List.length_cons, List.length_nil, List.length_append, List.length_replicate, List.length_map, List.length_range]; omega)) (fun u17 H14 ou17 off15 hb16 => ?_)
 have amqXu17 := Apt.ap2 omq.known amqXv hb16
 have apoXu17 := Apart.ap2 opo.known apoXv hb16
 replace ofr := ofr.offS off10 amqXfr.symm
 have afrXu17 := Apt.ap2 ofr.known afrXv hb16
 replace opo := opo.off off15 apoXv
 refine opo.st0 (by simp) ou17.one ou17.cells (fun H18 opo off19 => ?_)
 replace opo : Cel H18 po [u17] := opo
 refine ob_i (vInt_add (by omega) (by omega)) ?_
 have e1 : h = szz e := by rw [hh, hz]; exact szz_half e
 have zz := szz_succ e
 have hq : telF c l (e + 1) i k t = ((((entQ (fourQ (telF c l e) h i k t 4).2).length : Int)) + 2, ((fourQ (telF c l e) h i k t 4).2) ++ ((fourQ (telF c l e) h i k t 4).1)) := by
    show putQ (fourQ (telF c l e) (szz e) i k t 4).2 (fourQ (telF c l e) (szz e) i k t 4).1 = _
    rw [← e1, putQ_new f1 hg8]
 rw [hq] at hk
 have afr := afrXu17.symm
 replace ofr := (ofr.off off15 afrXv).off off19 apoXfr.symm
 rw [hSfr] at ofr afr
 replace omq := (omq.off off15 amqXv).off off19 amqXpo
 replace ou17 := ou17.off off19 apoXu17.symm
 exact hk u17 _ ou17 (MpQ.cast (by rw [entQ_app fl.1 f1, entQ_len]) omq) opo (rest_offS ofr) (tri_new afr apoXu17.symm amqXu17.symm)
 refine ob_i (vInt_add (by omega) (by omega)) ?_
 have e1 : h = szz e := by rw [hh, hz]; exact szz_half e
 have zz := szz_succ e
 have hq : telF c l (e + 1) i k t = (((mgetQ ((fourQ (telF c l e) h i k t 4).1) (entQ (fourQ (telF c l e) h i k t 4).2)).getD 0) + 2, (fourQ (telF c l e) h i k t 4).2) := by
    show putQ (fourQ (telF c l e) (szz e) i k t 4).2 (fourQ (telF c l e) (szz e) i k t 4).1 = _
    rw [← e1, putQ_old f1 hg8]
 rw [hq] at hk
 have afr := afrXv.symm
 rw [hSfr] at ofr afr
 exact hk v _ ov (omq) opo (rest_offS ofr) (tri_new afr apoXv.symm amqXv.symm)
 replace opf := (opf.le le4).off off6 apfXpa
 replace oft := (oft.le le4).off off6 aftXpa
 replace opl := (opl.le le4).off off6 aplXpa
 replace omq := (omq.le le4).off off6 amqXpa
 replace opo := (opo.le le4).off off6 apoXpa
 replace ovt := (ovt.le le4).off off6 avtXpa
 replace ofr := (ofr.le le4).off off6 afrXpa
 replace lE := off6.le (lE.trans le4) npa
 refine ⟨fun n' σ' H' => ∃ q : Nat, n' = 4 - q ∧ q ≤ 4 ∧ ∃ v, σ' 0 = (.int .i64 (i)) ∧ σ' 1 = (.int .i64 (k)) ∧ σ' 4 = ft ∧ σ' 5 = pl ∧ σ' 6 = po ∧ σ' 11 = (.int .i64 (h)) ∧ σ' 12 = pa ∧ σ' 25 = (.int .i64 ((q : Int))) ∧ Cel H' pf [(.int .i64 (r)), (.int .i64 (c)), vc] ∧ Cel H' ft [(.func (.func 116) #[] #[pf, ft, pl, po])] ∧ Cel H' pl [mq] ∧ MpQ H' mq Smq (entQ (fourQ (telF c l e) h i k t q).2) ∧ Cel H' po [v] ∧ Frm H1 Sfr H' ∧ Cel H' pa [(.int .i64 (at_ 0 (pad4 ((fourQ (telF c l e) h i k t q).1)) 0)), (.int .i64 (at_ 0 (pad4 ((fourQ (telF c l e) h i k t q).1)) 1)), (.int .i64 (at_ 0 (pad4 ((fourQ (telF c l e) h i k t q).1)) 2)), (.int .i64 (at_ 0 (pad4 ((fourQ (telF c l e) h i k t q).1)) 3))] ∧ Own eI H' v ((fourQ (telF c l e) h i k t q).2) ∧ Nw H v ∧ Apart pf v ∧ Apart ft v ∧ Apart pl v ∧ Apt Smq v ∧ Apart po v ∧ Apt Sfr v ∧ Apart pa v ∧ Le H H',
    ⟨_, 0, rfl, by omega, vt, rfl, rfl, rfl, rfl, rfl, rfl, rfl, (congrArg (Value.int .i64) (by first | omega | rfl | (simp; done))), opf, oft, opl, omq, opo, ofr, (Cel.cast rfl opa), (Own.cast (by first | rfl | (simp; done)) ovt), nvt, apfXvt, aftXvt, aplXvt, amqXvt, apoXvt, avtXfr.symm, avtXpa.symm, lE⟩, ?_⟩
 rintro n20 σ20 H20 ⟨q, rfl, hqN, v, g0L20, g1L20, g4L20, g5L20, g6L20, g11L20, g12L20, g25L20, opf, oft, opl, omq, opo, ofr, opa, ov, nv, apfXv, aftXv, aplXv, amqXv, apoXv, afrXv, apaXv, lE⟩
 try simp only [g0L20, g1L20, g4L20, g11L20, g12L20, g25L20]
 have fl := fourQ_len2 (h := h) (i := i) (k := k) (telF_len c l e) hm q
 have f1 := fourQ_len1 (g := telF c l e) (h := h) (i := i) (k := k) (t := t) q
 have e1 : h = szz e := by rw [hh, hz]; exact szz_half e
 have zz := szz_succ e
 refine ob_i (vInt_lss _ _ _) (cnd_d (fun hg21 => ?_) (fun hg21 => ?_))
 have tq := hg21
 have qb : q * grQ e ≤ 3 * grQ e := Nat.mul_le_mul_right _ (by omega)
 have hq2 : 0 ≤ (q : Int) / 2 * h ∧ (q : Int) / 2 * h ≤ h := by
    have : (q : Int) / 2 = 0 ∨ (q : Int) / 2 = 1 := by omega
    rcases this with h' | h' <;> rw [h'] <;> omega
 have hq3 : 0 ≤ (q : Int) % 2 * h ∧ (q : Int) % 2 * h ≤ h := by
    have : (q : Int) % 2 = 0 ∨ (q : Int) % 2 = 1 := by omega
    rcases this with h' | h' <;> rw [h'] <;> omega
 refine ob_i (oft.ld0 rfl) (ob_i (vInt_quoN (by omega) (by omega) (by omega)) (ob_i (vInt_mul (by omega) (by omega)) (ob_i (vInt_add (by omega) (by omega)) (ob_i (vInt_remN (by omega) (by omega)) (ob_i (vInt_mul (by omega) (by omega)) (ob_i (vInt_add (by omega) (by omega)) ?_))))))
 refine ⟨by kernel_rfl, ?_⟩
 refine ih hvc0 lE opf oft opl (MpQ.cast rfl omq) opo ov apfXmq apfXpo apfXv aftXmq aftXpo aftXv aplXmq aplXpo aplXv amqXpo amqXv apoXv nmq npo nv hl k1 (by omega) (by omega) (by omega) (by omega) (by omega) (by omega) (by first | omega | rfl) (by first | assumption | omega) (by omega) (by first | omega | (simp only [List.length_nil]; omega)) (fun u25 H22 ou25 tm26 tp27 off23 hb24 => ?_)
 have apfXu25 := Apart.ap2 opf.known apfXv hb24
 have aftXu25 := Apart.ap2 oft.known aftXv hb24
 have aplXu25 := Apart.ap2 opl.known aplXv hb24
 have amqXu25 := Apt.ap2 omq.known amqXv hb24
 have apoXu25 := Apart.ap2 opo.known apoXv hb24
 have afrXu25 := Apt.ap2 ofr.known afrXv hb24
 have apaXu25 := Apart.ap2 opa.known apaXv hb24
 have nu25 : Nw H u25 := Nw.ap2 nv lE hb24
 replace omq := tm26
 replace opo := tp27
 replace lE := off23.le lE (Nws.tri npo nmq nv)
 replace opa := opa.offS off23 (Apt.tri apoXpa.symm amqXpa.symm apaXv)
 refine ob_i (opa.ixA (by omega) (by omega)) ?_
 refine opa.st (by simp; omega) rfl rfl (fun H28 opa off29 => ?_)
 replace opa : Cel H28 pa [(.int .i64 (at_ 0 (pad4 ((fourQ (telF c l e) h i k t q).1 ++ [(telF c l e (i + (((q : Int) / 2) * h)) (k + (((q : Int) % 2) * h)) ((fourQ (telF c l e) h i k t q).2)).1])) 0)), (.int .i64 (at_ 0 (pad4 ((fourQ (telF c l e) h i k t q).1 ++ [(telF c l e (i + (((q : Int) / 2) * h)) (k + (((q : Int) % 2) * h)) ((fourQ (telF c l e) h i k t q).2)).1])) 1)), (.int .i64 (at_ 0 (pad4 ((fourQ (telF c l e) h i k t q).1 ++ [(telF c l e (i + (((q : Int) / 2) * h)) (k + (((q : Int) % 2) * h)) ((fourQ (telF c l e) h i k t q).2)).1])) 2)), (.int .i64 (at_ 0 (pad4 ((fourQ (telF c l e) h i k t q).1 ++ [(telF c l e (i + (((q : Int) / 2) * h)) (k + (((q : Int) % 2) * h)) ((fourQ (telF c l e) h i k t q).2)).1])) 3))] := Cel.cast (c4_put f1 (by omega)) opa
 refine ob_i (vInt_add (by omega) (by omega)) ?_
 replace opf := (opf.offS off23 (Apt.tri apfXpo apfXmq apfXv)).off off29 apfXpa
 replace oft := (oft.offS off23 (Apt.tri aftXpo aftXmq aftXv)).off off29 aftXpa
 replace opl := (opl.offS off23 (Apt.tri aplXpo aplXmq aplXv)).off off29 aplXpa
 replace ofr := (ofr.offS off23 (Apt.tri apoXfr.symm amqXfr.symm afrXv)).off off29 afrXpa
 replace omq := omq.off off29 amqXpa
 replace opo := opo.off off29 apoXpa
 replace ou25 := ou25.off off29 apaXu25.symm
 replace lE := off29.le lE npa
 exact nxt (4 - (q + 1)) (by omega) ⟨q + 1, rfl, by omega, u25, g0L20, g1L20, g4L20, g5L20, g6L20, g11L20, g12L20, (congrArg (Value.int .i64) (by first | omega | rfl | (simp; done))), opf, oft, opl, omq, opo, ofr, opa, ou25, nu25, apfXu25, aftXu25, aplXu25, amqXu25, apoXu25, afrXu25, apaXu25, lE⟩
 have tq := hg21
 obtain rfl : q = 4 := by omega
 exact hJ7 _ _ ⟨v, g5L20, g6L20, g12L20, opf, oft, opl, omq, opo, ofr, (Cel.cast (by rw [pad4_full f1]) opa), ov, nv, apfXv, aftXv, aplXv, amqXv, apoXv, afrXv, apaXv, lE⟩

theorem C.c54 : ∀ e, TreeP e
  | 0 => fun a0 a1 a2 a3 a4 a5 a6 a7 a8 a9 a10 a11 a12 a13 a14 a15 a16 a17 a18 a19 a20 a21 a22 a23 a24 a25 a26 a27 a28 a29 a30 a31 a32 a33 a34 a35 => C.c52 a0 a1 a2 a3 a4 a5 a6 a7 a8 a9 a10 a11 a12 a13 a14 a15 a16 a17 a18 a19 a20 a21 a22 a23 a24 a25 a26 a27 a28 a29 a30 a31 a32 a33 a34 a35
  | e + 1 => fun a0 a1 a2 a3 a4 a5 a6 a7 a8 a9 a10 a11 a12 a13 a14 a15 a16 a17 a18 a19 a20 a21 a22 a23 a24 a25 a26 a27 a28 a29 a30 a31 a32 a33 a34 a35 => C.c53 (C.c54 e) a0 a1 a2 a3 a4 a5 a6 a7 a8 a9 a10 a11 a12 a13 a14 a15 a16 a17 a18 a19 a20 a21 a22 a23 a24 a25 a26 a27 a28 a29 a30 a31 a32 a33 a34 a35
theorem C.c55  {H : Hp} {K : Value → Hp → Prop} (hvc0 : Sl eI H vc l) (hP : sqP r c l)
    (hk : ∀ u1 H', Own eI H' u1 (treL r c l) → Nw H u1 → Le H H' → K u1 H') : HT prg 74 [(.agg #[(.int .i64 (r)), (.int .i64 (c)), vc])].toArray H K := by
 have lE := Le.refl H
 refine R.q74 ?_
 unfold F.q74
 have hf := hP.1
 have hl := hf.2.1
 have hrc := hP.2.1
 have hr4 := hP.2.2
 have zr : r = szz (lgN r - 1) := by rcases hr4 with rfl | rfl | rfl <;> decide
 have e5 : lgN r - 1 ≤ 4 := by rcases hr4 with rfl | rfl | rfl <;> decide
 have g5 := grQ_le (lgN r - 1) e5
 have k1 : l.length ≤ 256 := by have := Int.mul_le_mul (show r ≤ 16 by omega) (show c ≤ 16 by omega) (by omega) (by omega); omega
 refine nw_i (fun pf H1 opf nn2 le3 => ?_)
 replace opf : Cel H1 pf [(.int .i64 (r)), (.int .i64 (c)), vc] := opf
 refine bS_nil (enc := eI) (fun u4 H5 ou4 nn6 kk7 le8 => ?_)
 have apfXu4 := opf.apart nn6
 replace lE := lE.trans le3
 have nu4 := nn6.le lE
 refine nw_i (fun po H9 opo nn10 le11 => ?_)
 replace opf := opf.le le8
 have apfXpo := opf.apart nn10
 have au4Xpo := ou4.apart nn10
 replace lE := lE.trans le8
 have npo := nn10.le lE
 replace opo : Cel H9 po [(.slice none 0 0)] := opo
 replace ou4 := ou4.le le11
 refine opo.st0 (by simp) ou4.one ou4.cells (fun H12 opo off13 => ?_)
 replace opo : Cel H12 po [u4] := opo
 refine MpQ.new_ (fun mq Smq H14 omq nn15 le16 => ?_)
 replace opf := (opf.le le11).off off13 apfXpo
 have apfXmq : Apt pf Smq := Apt.of_nws opf.known nn15
 replace ou4 := ou4.off off13 au4Xpo
 have au4Xmq : Apt u4 Smq := Apt.of_nws ou4.known nn15
 have apoXmq : Apt po Smq := Apt.of_nws opo.known nn15
 replace lE := off13.le (lE.trans le11) npo
 have nmq : Nws H Smq := nn15.le lE
 refine nw_i (fun pl H17 opl nn18 le19 => ?_)
 replace opf := opf.le le16
 have apfXpl := opf.apart nn18
 replace ou4 := ou4.le le16
 have au4Xpl := ou4.apart nn18
 replace opo := opo.le le16
 have apoXpl := opo.apart nn18
 have amqXpl : Apt Smq pl := Apt.of_nw omq.known nn18
 replace lE := lE.trans le16
 have npl := nn18.le lE
 replace opl : Cel H17 pl [(.map none)] := opl
 replace omq := omq.le le19
 refine opl.st0 (by simp) omq.one omq.cells (fun H20 opl off21 => ?_)
 replace opl : Cel H20 pl [mq] := opl
 refine nw_i (fun ft H22 oft nn23 le24 => ?_)
 replace opf := (opf.le le19).off off21 apfXpl
 have apfXft := opf.apart nn23
 replace ou4 := (ou4.le le19).off off21 au4Xpl
 have au4Xft := ou4.apart nn23
 replace opo := (opo.le le19).off off21 apoXpl
 have apoXft := opo.apart nn23
 replace omq := omq.off off21 amqXpl
 have amqXft : Apt Smq ft := Apt.of_nw omq.known nn23
 have aplXft := opl.apart nn23
 replace lE := off21.le (lE.trans le19) npl
 have nft := nn23.le lE
 replace oft : Cel H22 ft [.nilFunc] := oft
 refine oft.st0 (by simp) rfl rfl (fun H25 oft off26 => ?_)
 replace oft : Cel H25 ft [(.func (.func 116) #[] #[pf, ft, pl, po])] := oft
 refine ob_i (oft.ld0 rfl) ?_
 replace opf := (opf.le le24).off off26 apfXft
 refine ob_i (opf.fa 0) (ob_i (opf.ld 0 rfl) ?_)
 refine ⟨by kernel_rfl, ?_⟩
 replace ou4 := (ou4.le le24).off off26 au4Xft
 replace opo := (opo.le le24).off off26 apoXft
 replace omq := (omq.le le24).off off26 amqXft
 replace opl := (opl.le le24).off off26 aplXft
 replace lE := off26.le (lE.trans le24) nft
 refine C.c54 (lgN r - 1) hvc0 lE opf oft opl (MpQ.cast rfl omq) opo ou4 apfXmq apfXpo apfXu4 amqXft.symm apoXft.symm au4Xft.symm amqXpl.symm apoXpl.symm au4Xpl.symm apoXmq.symm au4Xmq.symm au4Xpo.symm nmq npo nu4 hl k1 (by omega) (by omega) (by omega) (by omega) (by omega) (by omega) (by first | omega | rfl) (by first | assumption | omega) (by omega) (by first | omega | (simp only [List.length_nil]; omega)) (fun u30 H27 ou30 tm31 tp32 off28 hb29 => ?_)
 have nu30 : Nw H u30 := Nw.ap2 nu4 lE hb29
 replace omq := tm31
 replace opo := tp32
 replace lE := off28.le lE (Nws.tri npo nmq nu4)
 exact ob_i (opo.ld0 rfl) (hk  u30 _ (Own.cast (show (telF c l (lgN r - 1) (0) (0) ([])).2 = treL r c l by first | rfl | simp) ou30) nu30  lE)

theorem C.c56  {H : Hp} {K : Value → Hp → Prop} (hvc0 : Sl eI H vc l) (k1 : l.length ≤ 9223372036854775807)
    (hk : ∀ u1 H', Own eI H' u1 (selL (sqP r c l) (treL r c l)) → Nw H u1 → Le H H' → K (.tuple #[u1, (.bool (decide (sqP r c l)))]) H') : HT prg 34 [(.agg #[(.int .i64 (r)), (.int .i64 (c)), vc])].toArray H K := by
 have lE := Le.refl H
 refine R.q34 ?_
 unfold F.q34
 refine nw_i (fun p1 H2 op1 nn3 le4 => ?_)
 replace op1 : Cel H2 p1 [(.int .i64 (r)), (.int .i64 (c)), vc] := op1
 refine ob_i (op1.ldn rfl) ?_
 replace lE := lE.trans le4
 refine C.c40 (hvc0.le lE) (by first | omega | assumption) (fun   H5    le6 => ?_)
 refine ob_nd (fun hc7 => ?_) (fun hc7 => ?_)
 have hf := hc7.1
 have l1 := fieldN_len hf
 refine cnd_f1 ?_
 replace op1 := op1.le le6
 refine ob_i (op1.ldn rfl) ?_
 replace lE := lE.trans le6
 refine C.c55 (hvc0.le lE) (by first | omega | assumption) (fun  u10 H8 ou10 nn11  le9 => ?_)
 have nu10 := nn11.le lE
 have hok : sqP r c l := by assumption
 replace lE := lE.trans le9
 exact keq (K := K) (by rw [decide_eq_true (show (sqP r c l) from by exact hok)]) (hk  u10 _ (Own.cast (show treL r c l = selL (sqP r c l) (treL r c l) by exact (selL_t hok).symm) ou10) nu10  lE)
 refine cnd_t1 ?_
 have hok : ¬ (sqP r c l) := by assumption
 replace lE := lE.trans le6
 exact keq (K := K) (by rw [decide_eq_false (show ¬ (sqP r c l) from by exact hok)]) (hk  (.slice none 0 0) _ (Own.cast (show [] = selL (sqP r c l) (treL r c l) by exact (selL_f hok).symm) (Own.nil_of none)) (fun b hb => by simp [bk] at hb)  lE)

end Go.Proofs.Ythmdmbbdjbhcoaa
