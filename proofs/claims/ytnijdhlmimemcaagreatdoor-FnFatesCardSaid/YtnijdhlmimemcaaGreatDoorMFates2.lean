/- Several texts in one. -/
import Derived.Test.YtnijdhlmimemcaaGreatDoorMFates1
/- Life on fields, step by step: the program's and the reference's. -/
namespace Go.Proofs.YtnijdhlmimemcaaGreatDoor
open HL
variable {va w vb vs p vc : Value} {l b s : List Int} {r c x i k st : Int} {rnd : Bool}
set_option maxRecDepth 100000
theorem C.c36  {H : Hp} {K : Value → Hp → Prop} (hva0 : Sl eI H va l) (k1 : l.length ≤ 9223372036854775807)
    (hk : ∀ H', Le H H' → K (.bool (decide (cntP l))) H') : HT prg 109 [va].toArray H K := by
 have lE := Le.refl H
 refine R.q109 ?_
 unfold F.q109
 refine jn_i (fun σ' H' => Le H H' ∧ cntU l l.length ∧ cntV l l.length) (fun σ1 H1 hP => ?_) (fun J1 hJ1 => ?_)
 obtain ⟨lE, ho0⟩ := hP
 exact keq (K := K) (by rw [decide_eq_true (show (cntP l) from by exact ⟨cntV_all ho0.2 (Nat.le_refl _), ho0.1⟩)]) (hk   _    lE)
 refine ⟨fun n' σ' H' => ∃ i : Nat, n' = l.length - i ∧ i ≤ l.length ∧ σ' 0 = va ∧ σ' 3 = (.int .i64 ((i : Int))) ∧ Le H H' ∧ cntU l i ∧ cntV l i,
    ⟨_, 0, rfl, by omega, rfl, (congrArg (Value.int .i64) (by first | omega | rfl | (simp; done))), lE, ⟨cntU_zero l, cntV_zero l⟩⟩, ?_⟩
 rintro n2 σ2 H2 ⟨i, rfl, hiN, g0L2, g3L2, lE, hpre⟩
 try simp only [g0L2, g3L2]
 refine ob_i ((hva0.le lE).len) (ob_i (vInt_lss _ _ _) (cnd_d (fun hg3 => ?_) (fun hg3 => ?_)))
 have ti := hg3
 refine ob_i ((hva0.le lE).ix (by omega) (by omega)) (ob_i ((hva0.le lE).ld 0 (by omega) (by omega)) (C.c0  ?_))
 refine ⟨Le.refl _, ?_⟩
 refine ob_nd (fun hc4 => ?_) (fun hc4 => ?_)
 refine gop_rf (gop_rf (ob_i (vInt_gtr _ _ _) (gop_rf ?_)))
 by_cases hc5 : 0 < (i : Int)
 refine gT hc5 (gT hc5 (gT hc5 (ob_i ((hva0.le lE).ix (by omega) (by omega)) (gT hc5 (ob_i ((hva0.le lE).ld 0 (by omega) (by omega)) (gT hc5 (gT hc5 (gT hc5 (ob_i (vInt_sub (by omega) (by omega)) ?_)))))))))
 refine gT hc5 (ob_i ((hva0.le lE).ix (by omega) (by omega)) (gT hc5 (ob_i ((hva0.le lE).ld 0 (by omega) (by omega)) (gT hc5 (ob_i (vInt_leq _ _ _) (gop_rf (ob_i (vPick_et (decide_eq_true hc5) _ _) (ob_i (vPick_f _ _) (cnd_d (fun hg6 => ?_) (fun hg6 => ?_))))))))))
 refine retK (K := K) (v' := (.bool false)) rfl ?_
 exact keq (K := K) (by rw [decide_eq_false (show ¬ (cntP l) from by intro h; have h1 := cntP_in h (j := i) (by omega); have h2 := cntP_up h (j := i) (by omega); omega)]) (hk   _    lE)
 refine ob_i (vInt_add (by omega) (by omega)) ?_
 exact nxt (l.length - (i + 1)) (by omega) ⟨i + 1, rfl, by omega, g0L2, (congrArg (Value.int .i64) (by first | omega | rfl | (simp; done))), lE, ⟨cntU_succ hpre.1 (by intro; omega), cntV_succ hpre.2 (by first | assumption | omega)⟩⟩
 refine hF hc5 (hF hc5 (hF hc5 (hF hc5 (hF hc5 (hF hc5 (hF hc5 (hF hc5 (hF hc5 (hF hc5 ?_)))))))))
 refine gop_rf (ob_i (vPick_ef (decide_eq_false hc5) _ _) (ob_i (vPick_f _ _) (cnd_f1 (ob_i (vInt_add (by omega) (by omega)) ?_))))
 exact nxt (l.length - (i + 1)) (by omega) ⟨i + 1, rfl, by omega, g0L2, (congrArg (Value.int .i64) (by first | omega | rfl | (simp; done))), lE, ⟨cntU_succ hpre.1 (by intro; omega), cntV_succ hpre.2 (by first | assumption | omega)⟩⟩
 refine gop_st (gop_st (gop_st (gop_u (gop_u (gop_u (gop_u (gop_u (gop_u (gop_u ?_)))))))))
 refine gop_u (gop_u (gop_u (gop_st (ob_i (vPick_t _ _) (cnd_t1 (retK (K := K) (v' := (.bool false)) rfl ?_))))))
 exact keq (K := K) (by rw [decide_eq_false (show ¬ (cntP l) from by intro h; have h1 := cntP_in h (j := i) (by omega); have h2 := cntP_up h (j := i) (by omega); omega)]) (hk   _    lE)
 have ti := hg3
 exact hJ1 _ _ ⟨lE, (by rw [show l.length = i by omega]; exact hpre)⟩

theorem C.c37  {H : Hp} {K : Value → Hp → Prop} (hva0 : Sl eI H va l) (k1 : l.length ≤ 9223372036854775807)
    (hk : ∀ H', Le H H' → K (.bool (decide (cntP l))) H') : HT prg 73 [va].toArray H K := by
 have lE := Le.refl H
 refine R.q73 ?_
 unfold F.q73
 refine jn_i (fun σ' H' => σ' 0 = va ∧ Le H H' ∧ cntU l l.length) (fun σ1 H1 hP => ?_) (fun J1 hJ1 => ?_)
 obtain ⟨g0L1, lE, ho0⟩ := hP
 try simp only [g0L1]
 refine C.c2 (hva0.le lE) (by first | omega | assumption) ?_
 exact keq (K := K) (by rw [show decide (∀ x ∈ l, 0 ≤ x ∧ x ≤ 8) = decide (cntP l) from decide_eq_decide.mpr (by exact ⟨fun h => ⟨h, ho0⟩, fun h => h.1⟩)]) (hk   _    lE)
 refine ⟨fun n' σ' H' => ∃ i : Nat, n' = l.length - i ∧ i ≤ l.length ∧ σ' 0 = va ∧ σ' 3 = (.int .i64 ((i : Int) + 1)) ∧ Le H H' ∧ cntU l (i + 1),
    ⟨_, 0, rfl, by omega, rfl, (congrArg (Value.int .i64) (by first | omega | rfl | (simp; done))), lE, cntU_one l⟩, ?_⟩
 rintro n2 σ2 H2 ⟨i, rfl, hiN, g0L2, g3L2, lE, hpre⟩
 try simp only [g0L2, g3L2]
 refine ob_i ((hva0.le lE).len) (ob_i (vInt_lss _ _ _) (cnd_d (fun hg3 => ?_) (fun hg3 => ?_)))
 have ti := hg3
 refine ob_i ((hva0.le lE).ix (by omega) (by omega)) (ob_i ((hva0.le lE).ld 0 (by omega) (by omega)) (ob_i (vInt_sub (by omega) (by omega)) (ob_i ((hva0.le lE).ix (by omega) (by omega)) (ob_i ((hva0.le lE).ld 0 (by omega) (by omega)) (ob_i (vInt_leq _ _ _) (cnd_d (fun hg4 => ?_) (fun hg4 => ?_)))))))
 refine retK (K := K) (v' := (.bool false)) rfl ?_
 exact keq (K := K) (by rw [decide_eq_false (show ¬ (cntP l) from by intro h; have h2 := cntP_up h (j := i + 1) (by omega); rw [show (((i + 1 : Nat) : Int)) = (i : Int) + 1 by omega] at h2; omega)]) (hk   _    lE)
 refine ob_i (vInt_add (by omega) (by omega)) ?_
 exact nxt (l.length - (i + 1)) (by omega) ⟨i + 1, rfl, by omega, g0L2, (congrArg (Value.int .i64) (by first | omega | rfl | (simp; done))), lE, cntU_succ hpre (by intro; rw [show (((i + 1 : Nat) : Int)) = (i : Int) + 1 by omega]; omega)⟩
 have ti := hg3
 exact hJ1 _ _ ⟨g0L2, lE, cntU_full hpre (by omega)⟩

theorem C.c38  {H : Hp} {K : Value → Hp → Prop} (hw0 : Cel H w [vb, vs]) (hvb0 : Sl eI H vb b) (hvs0 : Sl eI H vs s) (kb : b.length ≤ 9223372036854775807) (ks : s.length ≤ 9223372036854775807)
    (hk : ∀ H', Le H H' → K (.bool (decide (lifP b s))) H') : HT prg 70 [w].toArray H K := by
 have lE := Le.refl H
 refine R.q70 ?_
 unfold F.q70
 refine ob_i ((hw0.le lE).nilC) (ob_i ((hw0.le lE).fa 0) (ob_i ((hw0.le lE).ld 0 rfl) (C.c36 (hvb0.le lE) (by first | omega | assumption) (fun   H1    le2 => ?_))))
 by_cases hc3 : cntP b
 refine gT hc3 (gT hc3 ?_)
 replace lE := lE.trans le2
 refine ob_i ((hw0.le lE).nilC) (gT hc3 (ob_i ((hw0.le lE).fa 1) (gT hc3 (ob_i ((hw0.le lE).ld 1 rfl) (gT hc3 (C.c36 (hvs0.le lE) (by first | omega | assumption) (fun   H4    le5 => ?_)))))))
 refine ob_i (vPick_et (decide_eq_true hc3) _ _) ?_
 replace lE := lE.trans le5
 exact keq (K := K) (by rw [show decide (cntP s) = decide (lifP b s) from decide_eq_decide.mpr (by exact ⟨fun h => ⟨by assumption, h⟩, fun h => h.2⟩)]) (hk   _    lE)
 refine hF hc3 (hF hc3 (hF hc3 (hF hc3 (hF hc3 (ob_i (vPick_ef (decide_eq_false hc3) _ _) ?_)))))
 have hc_ := hc3
 replace lE := lE.trans le2
 exact keq (K := K) (by rw [decide_eq_false (show ¬ (lifP b s) from by exact fun h => hc_ h.1)]) (hk   _    lE)

theorem C.c39  {H : Hp} {K : Value → Hp → Prop} (hvb0 : Sl eI H vb b) (hvs0 : Sl eI H vs s) (kb : b.length ≤ 9223372036854775807) (ks : s.length ≤ 9223372036854775807)
    (hk : ∀ H', Le H H' → K (.bool (decide (lifP b s))) H') : HT prg 30 [(.agg #[vb, vs])].toArray H K := by
 have lE := Le.refl H
 refine R.q30 ?_
 unfold F.q30
 refine nw_i (fun p1 H2 op1 nn3 le4 => ?_)
 replace op1 : Cel H2 p1 [vb, vs] := op1
 refine ob_i (op1.fa 0) (ob_i (op1.ld 0 rfl) ?_)
 replace lE := lE.trans le4
 refine C.c37 (hvb0.le lE) (by first | omega | assumption) (fun   H5    le6 => ?_)
 by_cases hc7 : cntP b
 refine gT hc7 ?_
 replace op1 := op1.le le6
 refine ob_i (op1.fa 1) (gT hc7 (ob_i (op1.ld 1 rfl) (gT hc7 ?_)))
 replace lE := lE.trans le6
 refine C.c37 (hvs0.le lE) (by first | omega | assumption) (fun   H8    le9 => ?_)
 refine ob_i (vPick_et (decide_eq_true hc7) _ _) ?_
 replace lE := lE.trans le9
 exact keq (K := K) (by rw [show decide (cntP s) = decide (lifP b s) from decide_eq_decide.mpr (by exact ⟨fun h => ⟨by assumption, h⟩, fun h => h.2⟩)]) (hk   _    lE)
 refine hF hc7 (hF hc7 (hF hc7 (ob_i (vPick_ef (decide_eq_false hc7) _ _) ?_)))
 have hc_ := hc7
 replace lE := lE.trans le6
 exact keq (K := K) (by rw [decide_eq_false (show ¬ (lifP b s) from by exact fun h => hc_ h.1)]) (hk   _    lE)

theorem C.c40  {H : Hp} {K : Value → Hp → Prop} (hw0 : Cel H w [vb, vs]) (hp0 : Cel H p [(.int .i64 (r)), (.int .i64 (c)), vc]) (hvb0 : Sl eI H vb b) (hvs0 : Sl eI H vs s) (hvc0 : Sl eI H vc l) (kb : b.length ≤ 9223372036854775807) (ks : s.length ≤ 9223372036854775807) (k1 : l.length ≤ 9223372036854775807)
    (hk : ∀ H', Le H H' → K (.bool (decide (canP b s r c l))) H') : HT prg 40 [w, p].toArray H K := by
 have lE := Le.refl H
 refine R.q40 ?_
 unfold F.q40
 refine C.c38 (hw0.le lE) (hvb0.le lE) (hvs0.le lE) (by first | omega | assumption) (by first | omega | assumption) (fun   H1    le2 => ?_)
 by_cases hc3 : lifP b s
 refine gT hc3 (gT hc3 ?_)
 replace lE := lE.trans le2
 refine C.c5 (hp0.le lE) (hvc0.le lE) (by first | omega | assumption) ?_
 exact ob_i (vPick_et (decide_eq_true hc3) _ _) (keq (K := K) (by rw [show decide (fieldN 1 r c l) = decide (canP b s r c l) from decide_eq_decide.mpr (by exact ⟨fun h => ⟨by assumption, h⟩, fun h => h.2⟩)]) (hk   _    lE))
 refine hF hc3 (hF hc3 (ob_i (vPick_ef (decide_eq_false hc3) _ _) ?_))
 have hc_ := hc3
 replace lE := lE.trans le2
 exact keq (K := K) (by rw [decide_eq_false (show ¬ (canP b s r c l) from by exact fun h => hc_ h.1)]) (hk   _    lE)

theorem C.c41 {vv : Value}  {H : Hp} {K : Value → Hp → Prop} (hvb0 : Sl eI H vb b) (hvs0 : Sl eI H vs s) (hvc0 : Sl eI H vc l) (hvv0 : SlE 3 encFv H vv ([⟨r, c, vc⟩])) (kb : b.length ≤ 9223372036854775807) (ks : s.length ≤ 9223372036854775807) (k1 : l.length ≤ 9223372036854775807)
    (hk : ∀ H', Le H H' → K (.bool (decide (canP b s r c l))) H') : HT prg 44 [(.agg #[vb, vs]), vv].toArray H K := by
 have lE := Le.refl H
 refine R.q44 ?_
 unfold F.q44
 refine nw_i (fun p1 H2 op1 nn3 le4 => ?_)
 replace op1 : Cel H2 p1 [vb, vs] := op1
 refine ob_i (op1.ldn rfl) ?_
 replace lE := lE.trans le4
 refine C.c39 (hvb0.le lE) (hvs0.le lE) (by first | omega | assumption) (by first | omega | assumption) (fun   H5    le6 => ?_)
 by_cases hc7 : lifP b s
 refine gT hc7 (gT hc7 ?_)
 replace lE := lE.trans le6
 refine C.c14 (q := !decide (fieldN 1 r c l)) (hvv0.le lE) (fun Hc Z leZ hZ => ⟨by kernel_rfl, ?_⟩) (fun H8 le9 => ?_)
 exact C.c15 ((hvc0.le lE).le leZ) (by omega) hZ
 refine gT hc7 (ob_i (vUn_not _) (ob_i (vPick_et (decide_eq_true hc7) _ _) ?_))
 replace lE := lE.trans le9
 exact keq (K := K) (by rw [show (!(!decide (fieldN 1 r c l))) = decide (canP b s r c l) from by rw [Bool.not_not]; exact decide_eq_decide.mpr ⟨fun h => ⟨by assumption, h⟩, fun h => h.2⟩]) (hk   _    lE)
 refine hF hc7 (hF hc7 (hF hc7 (ob_i (vPick_ef (decide_eq_false hc7) _ _) ?_)))
 have hc_ := hc7
 replace lE := lE.trans le6
 exact keq (K := K) (by rw [decide_eq_false (show ¬ (canP b s r c l) from by exact fun h => hc_ h.1)]) (hk   _    lE)

theorem C.c42  {H : Hp} {K : Value → Hp → Prop} (hp0 : Cel H p [(.int .i64 (r)), (.int .i64 (c)), vc]) (hvc0 : Sl eI H vc l) (k2 : l.length ≤ 68719476736)
    (hk : ∀ u1 H', Own eI H' u1 l → Nw H u1 → Le H H' → K (.agg #[(.int .i64 (r)), (.int .i64 (c)), u1]) H') : HT prg 46 [p].toArray H K := by
 have lE := Le.refl H
 refine R.q46 ?_
 unfold F.q46
 refine nw_i (fun p1 H2 op1 nn3 le4 => ?_)
 have np1 := nn3.le lE
 replace lE := lE.trans le4
 refine ob_i ((hp0.le lE).nilC) (ob_i ((hp0.le lE).fa 0) (ob_i ((hp0.le lE).ld 0 rfl) (ob_i ((hp0.le lE).nilC) (ob_i ((hp0.le lE).fa 1) (ob_i ((hp0.le lE).ld 1 rfl) (ob_i ((hp0.le lE).nilC) (ob_i ((hp0.le lE).fa 2) (ob_i ((hp0.le lE).ld 2 rfl) (bS_nil (enc := eI) (fun u5 H6 ou5 nn7 kk8 le9 => ?_))))))))))
 replace lE := lE.trans le9
 refine apd_nil ou5 kk8 (hvc0.le lE) (fun _ => rfl) (by omega) (by omega) (fun u13 H10 ou13 nn14 le15 => ?_)
 replace op1 := op1.le le9
 have ap1Xu13 := op1.apart nn14
 have nu13 := nn14.le lE
 refine ⟨le15, ?_⟩
 refine ob_i (a := (.agg #[(.int .i64 (r)), (.int .i64 (c)), u13])) (by obtain ⟨_, _, _, rfl⟩ := ou13.isSl; rfl) ?_
 replace op1 := op1.le le15
 refine op1.stn (ws := [(.int .i64 (r)), (.int .i64 (c)), u13]) rfl rfl (oc1 rfl (oc1 rfl (oc1 ou13.one oc0))) (fun H16 op1 off17 => ?_)
 refine ob_i (op1.ldn rfl) ?_
 replace lE := off17.le (lE.trans le15) np1
 replace ou13 := ou13.off off17 ap1Xu13.symm
 exact hk  u13 _ ou13 nu13  lE

theorem C.c43  {H : Hp} {K : Value → Hp → Prop} (hvc0 : Sl eI H vc l) (k2 : l.length ≤ 68719476736)
    (hk : ∀ u1 H', Own eI H' u1 l → Nw H u1 → Le H H' → K (.agg #[(.int .i64 (r)), (.int .i64 (c)), u1]) H') : HT prg 91 [(.agg #[(.int .i64 (r)), (.int .i64 (c)), vc])].toArray H K := by
 have lE := Le.refl H
 refine R.q91 ?_
 unfold F.q91
 refine nw_i (fun p1 H2 op1 nn3 le4 => ?_)
 have np1 := nn3.le lE
 replace op1 : Cel H2 p1 [(.int .i64 (r)), (.int .i64 (c)), vc] := op1
 refine nw_i (fun p5 H6 op5 nn7 le8 => ?_)
 have ap1Xp5 := op1.apart nn7
 replace lE := lE.trans le4
 have np5 := nn7.le lE
 replace op5 : Cel H6 p5 [(.int .i64 (0)), (.int .i64 (0)), (.slice none 0 0)] := op5
 replace op1 := op1.le le8
 refine ob_i (op1.fa 2) (ob_i (op1.ld 2 rfl) ?_)
 replace lE := lE.trans le8
 refine C.c16 (hvc0.le lE) (by first | omega | assumption) (fun  u11 H9 ou11 nn12  le10 => ?_)
 have ap1Xu11 := op1.apart nn12
 have ap5Xu11 := op5.apart nn12
 have nu11 := nn12.le lE
 replace op1 := op1.le le10
 refine ob_i (op1.fa 2) (op1.st (by simp) ou11.one ou11.cells (fun H13 op1 off14 => ?_))
 replace op1 : Cel H13 p1 [(.int .i64 (r)), (.int .i64 (c)), u11] := op1
 refine ob_i (op1.ldn rfl) ?_
 replace op5 := (op5.le le10).off off14 ap1Xp5.symm
 replace ou11 := ou11.off off14 ap1Xu11.symm
 refine op5.stn (ws := [(.int .i64 (r)), (.int .i64 (c)), u11]) rfl rfl (oc1 rfl (oc1 rfl (oc1 ou11.one oc0))) (fun H15 op5 off16 => ?_)
 refine ob_i (op5.ldn rfl) ?_
 replace lE := off16.le (off14.le (lE.trans le10) np1) np5
 replace ou11 := ou11.off off16 ap5Xu11.symm
 exact hk  u11 _ ou11 nu11  lE

theorem C.c44  {H : Hp} {K : Value → Hp → Prop} (hva0 : Sl eI H va l) (k1 : l.length ≤ 9223372036854775807)
    (hk : ∀ H', Le H H' → K (.bool (decide (x ∈ l))) H') : HT prg 83 [va, (.int .i64 (x))].toArray H K := by
 have lE := Le.refl H
 refine R.q83 ?_
 unfold F.q83
 refine jn_i (fun σ' H' => Le H H' ∧ x ∉ l) (fun σ1 H1 hP => ?_) (fun J1 hJ1 => ?_)
 obtain ⟨lE, ho0⟩ := hP
 exact keq (K := K) (by rw [decide_eq_false (show ¬ (x ∈ l) from by exact ho0)]) (hk   _    lE)
 refine ⟨fun n' σ' H' => ∃ i : Nat, n' = l.length - i ∧ i ≤ l.length ∧ σ' 0 = va ∧ σ' 1 = (.int .i64 (x)) ∧ σ' 5 = (.int .i64 ((i : Int))) ∧ Le H H' ∧ x ∉ l.take i,
    ⟨_, 0, rfl, by omega, rfl, rfl, (congrArg (Value.int .i64) (by first | omega | rfl | (simp; done))), lE, by simp⟩, ?_⟩
 rintro n2 σ2 H2 ⟨i, rfl, hiN, g0L2, g1L2, g5L2, lE, hm0⟩
 try simp only [g0L2, g1L2, g5L2]
 refine ob_i ((hva0.le lE).len) (ob_i (vInt_lss _ _ _) (cnd_d (fun hg3 => ?_) (fun hg3 => ?_)))
 have ti := hg3
 refine ob_i ((hva0.le lE).ix (by omega) (by omega)) (ob_i ((hva0.le lE).ld 0 (by omega) (by omega)) (ob_i (vInt_eql _ _ _) (cnd_d (fun hg4 => ?_) (fun hg4 => ?_))))
 refine retK (K := K) (v' := (.bool true)) rfl ?_
 have hg_ := hg4
 exact keq (K := K) (by rw [decide_eq_true (show (x ∈ l) from by rw [← hg_]; exact at_mem 0 l (by omega) (by omega))]) (hk   _    lE)
 refine ob_i (vInt_add (by omega) (by omega)) ?_
 exact nxt (l.length - (i + 1)) (by omega) ⟨i + 1, rfl, by omega, g0L2, g1L2, (congrArg (Value.int .i64) (by first | omega | rfl | (simp; done))), lE, notin_succ hm0 (by omega) hg4⟩
 have ti := hg3
 exact hJ1 _ _ ⟨lE, (by rw [List.take_of_length_le (by omega)] at hm0; exact hm0)⟩

theorem C.c45  {H : Hp} {K : Value → Hp → Prop} (hva0 : Sl eI H va l) (k1 : l.length ≤ 9223372036854775807)
    (hk : ∀ H', Le H H' → K (.int .i64 (idxL x l)) H') : HT prg 144 [va, (.int .i64 (x))].toArray H K := by
 have lE := Le.refl H
 refine R.q144 ?_
 unfold F.q144
 refine jn_i (fun σ' H' => Le H H' ∧ x ∉ l) (fun σ1 H1 hP => ?_) (fun J1 hJ1 => ?_)
 obtain ⟨lE, ho0⟩ := hP
 exact keq (K := K) (by rw [show ((idxL x l) : Int) = ((-1)) from by exact idxL_not ho0]) (hk   _    lE)
 refine ob_i ((hva0.le lE).len) ?_
 refine ⟨fun n' σ' H' => ∃ i : Nat, n' = l.length - i ∧ i ≤ l.length ∧ σ' 0 = va ∧ σ' 1 = (.int .i64 (x)) ∧ σ' 7 = (.int .i64 (((l).length : Int))) ∧ σ' 8 = (.int .i64 ((i : Int))) ∧ Le H H' ∧ x ∉ l.take i,
    ⟨_, 0, rfl, by omega, rfl, rfl, rfl, (congrArg (Value.int .i64) (by first | omega | rfl | (simp; done))), lE, by simp⟩, ?_⟩
 rintro n2 σ2 H2 ⟨i, rfl, hiN, g0L2, g1L2, g7L2, g8L2, lE, hm0⟩
 try simp only [g0L2, g1L2, g7L2, g8L2]
 refine ob_i (vInt_lss _ _ _) (cnd_d (fun hg3 => ?_) (fun hg3 => ?_))
 have ti := hg3
 refine ob_i ((hva0.le lE).ix (by omega) (by omega)) (ob_i ((hva0.le lE).ld 0 (by omega) (by omega)) (ob_i (vInt_eql _ _ _) (cnd_d (fun hg4 => ?_) (fun hg4 => ?_))))
 refine retK (K := K) (v' := (.int .i64 ((i : Int)))) rfl ?_
 exact keq (K := K) (by rw [show (((i : Int)) : Int) = (idxL x l) from by exact (idxL_at hm0 (by omega) hg4.symm).symm]) (hk   _    lE)
 refine ob_i (vInt_add (by omega) (by omega)) ?_
 exact nxt (l.length - (i + 1)) (by omega) ⟨i + 1, rfl, by omega, g0L2, g1L2, g7L2, (congrArg (Value.int .i64) (by first | omega | rfl | (simp; done))), lE, notin_succ hm0 (by omega) (fun h => hg4 h.symm)⟩
 have ti := hg3
 exact hJ1 _ _ ⟨lE, (by rw [List.take_of_length_le (by omega)] at hm0; exact hm0)⟩

theorem C.c46  {H : Hp} {K : Value → Hp → Prop} (hva0 : Sl eI H va l) (k1 : l.length ≤ 9223372036854775807)
    (hk : ∀ H', Le H H' → K (.bool (decide (x ∈ l))) H') : HT prg 116 [va, (.int .i64 (x))].toArray H K := by
 have lE := Le.refl H
 refine R.q116 ?_
 unfold F.q116
 refine C.c45 (hva0.le lE) (by first | omega | assumption) (fun   H1    le2 => ?_)
 refine ob_i (vInt_geq _ _ _) ?_
 replace lE := lE.trans le2
 exact keq (K := K) (by rw [show decide (0 ≤ (idxL x l)) = decide (x ∈ l) from decide_eq_decide.mpr (by exact idxL_mem)]) (hk   _    lE)

theorem C.c47 {q : Bool}  {H : Hp} {K : Value → Hp → Prop}
    (hk : K (.int .i64 (if q = true then 1 else 0)) H) : HT prg 99 [(.bool (q))].toArray H K := by
 have lE := Le.refl H
 refine R.q99 ?_
 unfold F.q99
 refine cnd_i (fun hg1 => ?_) (fun hg1 => ?_)
 exact keq (K := K) (by rw [show ((if q = true then 1 else 0) : Int) = (1) from by rw [if_pos hg1]]) (hk )
 exact keq (K := K) (by rw [show ((if q = true then 1 else 0) : Int) = (0) from by rw [if_neg (by rw [hg1]; simp)]]) (hk )

theorem C.c48  {H : Hp} {K : Value → Hp → Prop} (hp0 : Cel H p [(.int .i64 (r)), (.int .i64 (c)), vc]) (hvc0 : Sl eI H vc l) (hf : fieldN 1 r c l) (i0 : 0 ≤ i) (i1 : i < r) (j0 : 0 ≤ k) (j1 : k < c)
    (hk : ∀ H', Le H H' → K (.int .i64 (arF rnd r c l i k)) H') : HT prg 82 [p, (.int .i64 (i)), (.int .i64 (k)), (.bool (rnd))].toArray H K := by
 have lE := Le.refl H
 refine R.q82 ?_
 unfold F.q82
 have hs := hf.1
 have hl := hf.2.1
 have q1 := hs.1
 have q2 := hs.2
 have qm := sidesF_mul hs
 refine jn_i (fun σ' H' => σ' 9 = (.int .i64 (sumF (fun a => sumF (fun b => skF rnd r c l i k (i - 1 + a) (k - 1 + b)) 3) 3)) ∧ Le H H') (fun σ1 H1 hP => ?_) (fun J1 hJ1 => ?_)
 obtain ⟨g9L1, lE⟩ := hP
 try simp only [g9L1]
 exact keq (K := K) (by rw [show ((sumF (fun a => sumF (fun b => skF rnd r c l i k (i - 1 + a) (k - 1 + b)) 3) 3) : Int) = (arF rnd r c l i k) from by rfl]) (hk   _    lE)
 refine ob_i (vInt_sub (by omega) (by omega)) ?_
 refine ⟨fun n' σ' H' => ∃ t : Nat, n' = 3 - t ∧ t ≤ 3 ∧ σ' 0 = p ∧ σ' 1 = (.int .i64 (i)) ∧ σ' 2 = (.int .i64 (k)) ∧ σ' 3 = (.bool (rnd)) ∧ σ' 9 = (.int .i64 (sumF (fun a => sumF (fun b => skF rnd r c l i k (i - 1 + a) (k - 1 + b)) 3) t)) ∧ σ' 10 = (.int .i64 (i - 1 + (t : Int))) ∧ Le H H',
    ⟨_, 0, rfl, by omega, rfl, rfl, rfl, rfl, (congrArg (Value.int .i64) (by first | omega | rfl | (simp; done))), (congrArg (Value.int .i64) (by first | omega | rfl | (simp; done))), lE⟩, ?_⟩
 rintro n2 σ2 H2 ⟨t, rfl, htN, g0L2, g1L2, g2L2, g3L2, g9L2, g10L2, lE⟩
 try simp only [g0L2, g1L2, g2L2, g3L2, g9L2, g10L2]
 have bO := sumF_bnd (f := fun a => sumF (fun b => skF rnd r c l i k (i - 1 + a) (k - 1 + b)) 3) (a := 0) (b := 3) (fun a => by have := sumF_bnd (f := fun b => skF rnd r c l i k (i - 1 + a) (k - 1 + b)) (fun b => skF_01 hf i k _ _) 3; omega) t
 have zI := sumF_zero (fun b => skF rnd r c l i k (i - 1 + (t : Int)) (k - 1 + b))
 refine ob_i (vInt_add (by omega) (by omega)) (ob_i (vInt_leq _ _ _) (cnd_d (fun hg3 => ?_) (fun hg3 => ?_)))
 have tt := hg3
 refine jn_i (fun σ' H' => σ' 0 = p ∧ σ' 1 = (.int .i64 (i)) ∧ σ' 2 = (.int .i64 (k)) ∧ σ' 3 = (.bool (rnd)) ∧ σ' 9 = (.int .i64 (sumF (fun a => sumF (fun b => skF rnd r c l i k (i - 1 + a) (k - 1 + b)) 3) (t + 1))) ∧ σ' 10 = (.int .i64 (i - 1 + (t : Int))) ∧ Le H H') (fun σ4 H4 hP => ?_) (fun J4 hJ4 => ?_)
 obtain ⟨g0L4, g1L4, g2L4, g3L4, g9L4, g10L4, lE⟩ := hP
 try simp only [g10L4]
 refine ob_i (vInt_add (by omega) (by omega)) ?_
 exact nxt (3 - (t + 1)) (by omega) ⟨t + 1, rfl, by omega, g0L4, g1L4, g2L4, g3L4, (g9L4.trans (congrArg (Value.int .i64) (by first | omega | rfl | (simp; done)))), (congrArg (Value.int .i64) (by first | omega | rfl | (simp; done))), lE⟩
 refine ob_i (vInt_sub (by omega) (by omega)) ?_
 refine ⟨fun n' σ' H' => ∃ u : Nat, n' = 3 - u ∧ u ≤ 3 ∧ σ' 0 = p ∧ σ' 1 = (.int .i64 (i)) ∧ σ' 2 = (.int .i64 (k)) ∧ σ' 3 = (.bool (rnd)) ∧ σ' 9 = (.int .i64 (sumF (fun a => sumF (fun b => skF rnd r c l i k (i - 1 + a) (k - 1 + b)) 3) t + sumF (fun b => skF rnd r c l i k (i - 1 + (t : Int)) (k - 1 + b)) u)) ∧ σ' 10 = (.int .i64 (i - 1 + (t : Int))) ∧ σ' 11 = (.int .i64 (k - 1 + (u : Int))) ∧ Le H H',
    ⟨_, 0, rfl, by omega, g0L2, g1L2, g2L2, g3L2, (g9L2.trans (congrArg (Value.int .i64) (by first | omega | rfl | (simp; done)))), g10L2, (congrArg (Value.int .i64) (by first | omega | rfl | (simp; done))), lE⟩, ?_⟩
 rintro n5 σ5 H5 ⟨u, rfl, huN, g0L5, g1L5, g2L5, g3L5, g9L5, g10L5, g11L5, lE⟩
 try simp only [g0L5, g1L5, g2L5, g3L5, g9L5, g10L5, g11L5]
 have bI := sumF_bnd (f := fun b => skF rnd r c l i k (i - 1 + (t : Int)) (k - 1 + b)) (fun b => skF_01 hf i k _ _) u
 have bR := roundF_lt (i := i - 1 + (t : Int)) (k := k - 1 + (u : Int)) hs
 have bV := fieldN_at hf (i := roundF r c (i - 1 + (t : Int)) (k - 1 + (u : Int))) (by omega) (by omega)
 refine ob_i (vInt_add (by omega) (by omega)) (ob_i (vInt_leq _ _ _) (cnd_d (fun hg6 => ?_) (fun hg6 => ?_)))
 have tu := hg6
 refine ob_i (vInt_eql _ _ _) ?_
 by_cases hc7 : (i - 1 + (t : Int)) = i
 refine gT hc7 (gT hc7 (gT hc7 (ob_i (vInt_eql _ _ _) (ob_i (vPick_et (decide_eq_true hc7) _ _) (cnd_d (fun hg8 => ?_) (fun hg8 => ?_))))))
 refine ob_i (vInt_add (by omega) (by omega)) ?_
 have e3 : skF rnd r c l i k (i - 1 + (t : Int)) (k - 1 + (u : Int)) = 0 := by rw [skF_eq]; first | rw [if_pos (by omega)] | (rw [if_neg (by omega)]; first | rw [if_pos (by first | (left; assumption) | (right; omega))] | rw [if_neg (by rintro (h | h) <;> first | omega | exact absurd h (by assumption))])
 have eS : sumF (fun b => skF rnd r c l i k (i - 1 + (t : Int)) (k - 1 + b)) (u + 1) = sumF (fun b => skF rnd r c l i k (i - 1 + (t : Int)) (k - 1 + b)) u + skF rnd r c l i k (i - 1 + (t : Int)) (k - 1 + (u : Int)) := rfl
 exact nxt (3 - (u + 1)) (by omega) ⟨u + 1, rfl, by omega, g0L5, g1L5, g2L5, g3L5, (g9L5.trans (congrArg (Value.int .i64) (by first | omega | rfl | (simp; done)))), g10L5, (congrArg (Value.int .i64) (by first | omega | rfl | (simp; done))), lE⟩
 by_cases hc9 : (rnd) = true
 refine gop_e (hc9) (gop_st (gop_e (hc9) (gop_st (gop_e (hc9) (gop_st (gop_e (hc9) (gop_st (gop_e (hc9) (gop_st ?_)))))))))
 refine gop_e (hc9) (gop_st (gop_e (hc9) (gop_st (gop_e (hc9) (gop_st (gop_u (gop_u (gop_u (gop_u ?_)))))))))
 refine gop_u (gop_u (gop_u (gop_e (hc9) (gop_st (ob_i (vPick_et (hc9) _ _) (cnd_t1 (ob_i ((hp0.le lE).nilC) (ob_i ((hp0.le lE).fa 2) (ob_i ((hp0.le lE).ld 2 rfl) (C.c9 (hp0.le lE) (by first | omega | assumption) ?_))))))))))
 refine ⟨Le.refl _, ?_⟩
 refine ob_i ((hvc0.le lE).ix (by omega) (by omega)) (ob_i ((hvc0.le lE).ld 0 (by omega) (by omega)) (ob_i (vInt_add (by omega) (by omega)) (ob_i (vInt_add (by omega) (by omega)) ?_)))
 have e3 : skF rnd r c l i k (i - 1 + (t : Int)) (k - 1 + (u : Int)) = at_ 0 l (roundF r c (i - 1 + (t : Int)) (k - 1 + (u : Int))) := by rw [skF_eq]; first | rw [if_pos (by omega)] | (rw [if_neg (by omega)]; first | rw [if_pos (by first | (left; assumption) | (right; omega))] | rw [if_neg (by rintro (h | h) <;> first | omega | exact absurd h (by assumption))])
 have eS : sumF (fun b => skF rnd r c l i k (i - 1 + (t : Int)) (k - 1 + b)) (u + 1) = sumF (fun b => skF rnd r c l i k (i - 1 + (t : Int)) (k - 1 + b)) u + skF rnd r c l i k (i - 1 + (t : Int)) (k - 1 + (u : Int)) := rfl
 exact nxt (3 - (u + 1)) (by omega) ⟨u + 1, rfl, by omega, g0L5, g1L5, g2L5, g3L5, (congrArg (Value.int .i64) (by first | omega | rfl | (simp; done))), g10L5, (congrArg (Value.int .i64) (by first | omega | rfl | (simp; done))), lE⟩
 refine gop_e (eq_false_of_ne_true hc9) (gop_rf (gop_e (eq_false_of_ne_true hc9) (gop_rf (gop_e (eq_false_of_ne_true hc9) (gop_rf (ob_i ((hp0.le lE).nilC) (gop_e (eq_false_of_ne_true hc9) (gop_rf (ob_i ((hp0.le lE).fa 0) ?_)))))))))
 refine gop_e (eq_false_of_ne_true hc9) (gop_rf (ob_i ((hp0.le lE).ld 0 rfl) (gop_e (eq_false_of_ne_true hc9) (gop_rf (ob_i (vInt_sub (by omega) (by omega)) (gop_e (eq_false_of_ne_true hc9) (gop_rf (C.c0  ?_))))))))
 refine gop_e (eq_false_of_ne_true hc9) (gop_rf ?_)
 by_cases hc10 : 0 ≤ (i - 1 + (t : Int)) ∧ (i - 1 + (t : Int)) ≤ (r - 1)
 refine gT hc10 (gT hc10 (gT hc10 (ob_i ((hp0.le lE).nilC) (gT hc10 (ob_i ((hp0.le lE).fa 1) (gT hc10 (ob_i ((hp0.le lE).ld 1 rfl) (gT hc10 (ob_i (vInt_sub (by omega) (by omega)) ?_)))))))))
 refine gT hc10 (C.c0  ?_)
 refine gop_e (eq_false_of_ne_true hc9) (gop_rf (ob_i (vPick_et (decide_eq_true hc10) _ _) (ob_i (vPick_ef (eq_false_of_ne_true hc9) _ _) (cnd_d (fun hg11 => ?_) (fun hg11 => ?_)))))
 refine ob_i ((hp0.le lE).nilC) (ob_i ((hp0.le lE).fa 2) (ob_i ((hp0.le lE).ld 2 rfl) (C.c9 (hp0.le lE) (by first | omega | assumption) ?_)))
 refine ⟨Le.refl _, ?_⟩
 refine ob_i ((hvc0.le lE).ix (by omega) (by omega)) (ob_i ((hvc0.le lE).ld 0 (by omega) (by omega)) (ob_i (vInt_add (by omega) (by omega)) (ob_i (vInt_add (by omega) (by omega)) ?_)))
 have e3 : skF rnd r c l i k (i - 1 + (t : Int)) (k - 1 + (u : Int)) = at_ 0 l (roundF r c (i - 1 + (t : Int)) (k - 1 + (u : Int))) := by rw [skF_eq]; first | rw [if_pos (by omega)] | (rw [if_neg (by omega)]; first | rw [if_pos (by first | (left; assumption) | (right; omega))] | rw [if_neg (by rintro (h | h) <;> first | omega | exact absurd h (by assumption))])
 have eS : sumF (fun b => skF rnd r c l i k (i - 1 + (t : Int)) (k - 1 + b)) (u + 1) = sumF (fun b => skF rnd r c l i k (i - 1 + (t : Int)) (k - 1 + b)) u + skF rnd r c l i k (i - 1 + (t : Int)) (k - 1 + (u : Int)) := rfl
 exact nxt (3 - (u + 1)) (by omega) ⟨u + 1, rfl, by omega, g0L5, g1L5, g2L5, g3L5, (congrArg (Value.int .i64) (by first | omega | rfl | (simp; done))), g10L5, (congrArg (Value.int .i64) (by first | omega | rfl | (simp; done))), lE⟩
 refine ob_i (vInt_add (by omega) (by omega)) ?_
 have e3 : skF rnd r c l i k (i - 1 + (t : Int)) (k - 1 + (u : Int)) = 0 := by rw [skF_eq]; first | rw [if_pos (by omega)] | (rw [if_neg (by omega)]; first | rw [if_pos (by first | (left; assumption) | (right; omega))] | rw [if_neg (by rintro (h | h) <;> first | omega | exact absurd h (by assumption))])
 have eS : sumF (fun b => skF rnd r c l i k (i - 1 + (t : Int)) (k - 1 + b)) (u + 1) = sumF (fun b => skF rnd r c l i k (i - 1 + (t : Int)) (k - 1 + b)) u + skF rnd r c l i k (i - 1 + (t : Int)) (k - 1 + (u : Int)) := rfl
 exact nxt (3 - (u + 1)) (by omega) ⟨u + 1, rfl, by omega, g0L5, g1L5, g2L5, g3L5, (g9L5.trans (congrArg (Value.int .i64) (by first | omega | rfl | (simp; done)))), g10L5, (congrArg (Value.int .i64) (by first | omega | rfl | (simp; done))), lE⟩
 refine hF hc10 (hF hc10 (hF hc10 (hF hc10 (hF hc10 (hF hc10 (hF hc10 (gop_e (eq_false_of_ne_true hc9) (gop_rf (ob_i (vPick_ef (decide_eq_false hc10) _ _) ?_)))))))))
 refine ob_i (vPick_ef (eq_false_of_ne_true hc9) _ _) (cnd_f1 (ob_i (vInt_add (by omega) (by omega)) ?_))
 have e3 : skF rnd r c l i k (i - 1 + (t : Int)) (k - 1 + (u : Int)) = 0 := by rw [skF_eq]; first | rw [if_pos (by omega)] | (rw [if_neg (by omega)]; first | rw [if_pos (by first | (left; assumption) | (right; omega))] | rw [if_neg (by rintro (h | h) <;> first | omega | exact absurd h (by assumption))])
 have eS : sumF (fun b => skF rnd r c l i k (i - 1 + (t : Int)) (k - 1 + b)) (u + 1) = sumF (fun b => skF rnd r c l i k (i - 1 + (t : Int)) (k - 1 + b)) u + skF rnd r c l i k (i - 1 + (t : Int)) (k - 1 + (u : Int)) := rfl
 exact nxt (3 - (u + 1)) (by omega) ⟨u + 1, rfl, by omega, g0L5, g1L5, g2L5, g3L5, (g9L5.trans (congrArg (Value.int .i64) (by first | omega | rfl | (simp; done)))), g10L5, (congrArg (Value.int .i64) (by first | omega | rfl | (simp; done))), lE⟩
 refine hF hc7 (hF hc7 (hF hc7 (ob_i (vPick_ef (decide_eq_false hc7) _ _) (cnd_f1 ?_))))
 by_cases hc12 : (rnd) = true
 refine gop_e (hc12) (gop_st (gop_e (hc12) (gop_st (gop_e (hc12) (gop_st (gop_e (hc12) (gop_st (gop_e (hc12) (gop_st ?_)))))))))
 refine gop_e (hc12) (gop_st (gop_e (hc12) (gop_st (gop_e (hc12) (gop_st (gop_u (gop_u (gop_u (gop_u ?_)))))))))
 refine gop_u (gop_u (gop_u (gop_e (hc12) (gop_st (ob_i (vPick_et (hc12) _ _) (cnd_t1 (ob_i ((hp0.le lE).nilC) (ob_i ((hp0.le lE).fa 2) (ob_i ((hp0.le lE).ld 2 rfl) (C.c9 (hp0.le lE) (by first | omega | assumption) ?_))))))))))
 refine ⟨Le.refl _, ?_⟩
 refine ob_i ((hvc0.le lE).ix (by omega) (by omega)) (ob_i ((hvc0.le lE).ld 0 (by omega) (by omega)) (ob_i (vInt_add (by omega) (by omega)) (ob_i (vInt_add (by omega) (by omega)) ?_)))
 have e3 : skF rnd r c l i k (i - 1 + (t : Int)) (k - 1 + (u : Int)) = at_ 0 l (roundF r c (i - 1 + (t : Int)) (k - 1 + (u : Int))) := by rw [skF_eq]; first | rw [if_pos (by omega)] | (rw [if_neg (by omega)]; first | rw [if_pos (by first | (left; assumption) | (right; omega))] | rw [if_neg (by rintro (h | h) <;> first | omega | exact absurd h (by assumption))])
 have eS : sumF (fun b => skF rnd r c l i k (i - 1 + (t : Int)) (k - 1 + b)) (u + 1) = sumF (fun b => skF rnd r c l i k (i - 1 + (t : Int)) (k - 1 + b)) u + skF rnd r c l i k (i - 1 + (t : Int)) (k - 1 + (u : Int)) := rfl
 exact nxt (3 - (u + 1)) (by omega) ⟨u + 1, rfl, by omega, g0L5, g1L5, g2L5, g3L5, (congrArg (Value.int .i64) (by first | omega | rfl | (simp; done))), g10L5, (congrArg (Value.int .i64) (by first | omega | rfl | (simp; done))), lE⟩
 refine gop_e (eq_false_of_ne_true hc12) (gop_rf (gop_e (eq_false_of_ne_true hc12) (gop_rf (gop_e (eq_false_of_ne_true hc12) (gop_rf (ob_i ((hp0.le lE).nilC) (gop_e (eq_false_of_ne_true hc12) (gop_rf (ob_i ((hp0.le lE).fa 0) ?_)))))))))
 refine gop_e (eq_false_of_ne_true hc12) (gop_rf (ob_i ((hp0.le lE).ld 0 rfl) (gop_e (eq_false_of_ne_true hc12) (gop_rf (ob_i (vInt_sub (by omega) (by omega)) (gop_e (eq_false_of_ne_true hc12) (gop_rf (C.c0  ?_))))))))
 refine gop_e (eq_false_of_ne_true hc12) (gop_rf ?_)
 by_cases hc13 : 0 ≤ (i - 1 + (t : Int)) ∧ (i - 1 + (t : Int)) ≤ (r - 1)
 refine gT hc13 (gT hc13 (gT hc13 (ob_i ((hp0.le lE).nilC) (gT hc13 (ob_i ((hp0.le lE).fa 1) (gT hc13 (ob_i ((hp0.le lE).ld 1 rfl) (gT hc13 (ob_i (vInt_sub (by omega) (by omega)) ?_)))))))))
 refine gT hc13 (C.c0  ?_)
 refine gop_e (eq_false_of_ne_true hc12) (gop_rf (ob_i (vPick_et (decide_eq_true hc13) _ _) (ob_i (vPick_ef (eq_false_of_ne_true hc12) _ _) (cnd_d (fun hg14 => ?_) (fun hg14 => ?_)))))
 refine ob_i ((hp0.le lE).nilC) (ob_i ((hp0.le lE).fa 2) (ob_i ((hp0.le lE).ld 2 rfl) (C.c9 (hp0.le lE) (by first | omega | assumption) ?_)))
 refine ⟨Le.refl _, ?_⟩
 refine ob_i ((hvc0.le lE).ix (by omega) (by omega)) (ob_i ((hvc0.le lE).ld 0 (by omega) (by omega)) (ob_i (vInt_add (by omega) (by omega)) (ob_i (vInt_add (by omega) (by omega)) ?_)))
 have e3 : skF rnd r c l i k (i - 1 + (t : Int)) (k - 1 + (u : Int)) = at_ 0 l (roundF r c (i - 1 + (t : Int)) (k - 1 + (u : Int))) := by rw [skF_eq]; first | rw [if_pos (by omega)] | (rw [if_neg (by omega)]; first | rw [if_pos (by first | (left; assumption) | (right; omega))] | rw [if_neg (by rintro (h | h) <;> first | omega | exact absurd h (by assumption))])
 have eS : sumF (fun b => skF rnd r c l i k (i - 1 + (t : Int)) (k - 1 + b)) (u + 1) = sumF (fun b => skF rnd r c l i k (i - 1 + (t : Int)) (k - 1 + b)) u + skF rnd r c l i k (i - 1 + (t : Int)) (k - 1 + (u : Int)) := rfl
 exact nxt (3 - (u + 1)) (by omega) ⟨u + 1, rfl, by omega, g0L5, g1L5, g2L5, g3L5, (congrArg (Value.int .i64) (by first | omega | rfl | (simp; done))), g10L5, (congrArg (Value.int .i64) (by first | omega | rfl | (simp; done))), lE⟩
 refine ob_i (vInt_add (by omega) (by omega)) ?_
 have e3 : skF rnd r c l i k (i - 1 + (t : Int)) (k - 1 + (u : Int)) = 0 := by rw [skF_eq]; first | rw [if_pos (by omega)] | (rw [if_neg (by omega)]; first | rw [if_pos (by first | (left; assumption) | (right; omega))] | rw [if_neg (by rintro (h | h) <;> first | omega | exact absurd h (by assumption))])
 have eS : sumF (fun b => skF rnd r c l i k (i - 1 + (t : Int)) (k - 1 + b)) (u + 1) = sumF (fun b => skF rnd r c l i k (i - 1 + (t : Int)) (k - 1 + b)) u + skF rnd r c l i k (i - 1 + (t : Int)) (k - 1 + (u : Int)) := rfl
 exact nxt (3 - (u + 1)) (by omega) ⟨u + 1, rfl, by omega, g0L5, g1L5, g2L5, g3L5, (g9L5.trans (congrArg (Value.int .i64) (by first | omega | rfl | (simp; done)))), g10L5, (congrArg (Value.int .i64) (by first | omega | rfl | (simp; done))), lE⟩
 refine hF hc13 (hF hc13 (hF hc13 (hF hc13 (hF hc13 (hF hc13 (hF hc13 (gop_e (eq_false_of_ne_true hc12) (gop_rf (ob_i (vPick_ef (decide_eq_false hc13) _ _) ?_)))))))))
 refine ob_i (vPick_ef (eq_false_of_ne_true hc12) _ _) (cnd_f1 (ob_i (vInt_add (by omega) (by omega)) ?_))
 have e3 : skF rnd r c l i k (i - 1 + (t : Int)) (k - 1 + (u : Int)) = 0 := by rw [skF_eq]; first | rw [if_pos (by omega)] | (rw [if_neg (by omega)]; first | rw [if_pos (by first | (left; assumption) | (right; omega))] | rw [if_neg (by rintro (h | h) <;> first | omega | exact absurd h (by assumption))])
 have eS : sumF (fun b => skF rnd r c l i k (i - 1 + (t : Int)) (k - 1 + b)) (u + 1) = sumF (fun b => skF rnd r c l i k (i - 1 + (t : Int)) (k - 1 + b)) u + skF rnd r c l i k (i - 1 + (t : Int)) (k - 1 + (u : Int)) := rfl
 exact nxt (3 - (u + 1)) (by omega) ⟨u + 1, rfl, by omega, g0L5, g1L5, g2L5, g3L5, (g9L5.trans (congrArg (Value.int .i64) (by first | omega | rfl | (simp; done)))), g10L5, (congrArg (Value.int .i64) (by first | omega | rfl | (simp; done))), lE⟩
 have tu := hg6
 obtain rfl : u = 3 := by omega
 exact hJ4 _ _ ⟨g0L5, g1L5, g2L5, g3L5, (g9L5.trans (congrArg (Value.int .i64) (by first | omega | rfl | (simp; done)))), g10L5, lE⟩
 have tt := hg3
 obtain rfl : t = 3 := by omega
 exact hJ1 _ _ ⟨(g9L2.trans (congrArg (Value.int .i64) (by first | omega | rfl | (simp; done)))), lE⟩

theorem C.c49 {H : Hp} {K : Value → Hp → Prop} (hc : Sl eI H vc l) (hs : sidesF r c) (hl : (l.length : Int) = r * c) (i0 : -1000 ≤ i) (i1 : i ≤ 1000) (k0 : -1000 ≤ k) (k1 : k ≤ 1000)
    (hk : ∀ H', Le H H' → K (.int .i64 (lkF rnd r c l i k)) H') : HT prg 55 [.agg #[.int .i64 r, .int .i64 c, vc], .int .i64 i, .int .i64 k, .bool rnd].toArray H K := by
  cases rnd with
  | true => exact C.c12 hc hs hl i0 i1 k0 k1 hk
  | false => exact C.c20 hc hs hl hk
theorem C.c50  {H : Hp} {K : Value → Hp → Prop} (hvc0 : Sl eI H vc l) (hf : fieldN 1 r c l) (i0 : 0 ≤ i) (i1 : i < r) (j0 : 0 ≤ k) (j1 : k < c)
    (hk : ∀ H', Le H H' → K (.int .i64 (arF rnd r c l i k)) H') : HT prg 81 [(.agg #[(.int .i64 (r)), (.int .i64 (c)), vc]), (.int .i64 (i)), (.int .i64 (k)), (.bool (rnd))].toArray H K := by
 have lE := Le.refl H
 refine R.q81 ?_
 unfold F.q81
 have hs := hf.1
 have hl := hf.2.1
 have q1 := hs.1
 have q2 := hs.2
 have qm := sidesF_mul hs
 have x1 := ix_lt (a := i) (b := k) (r := r) (c := c) (by omega) (by omega) (by omega) (by omega)
 have cA := fieldN_at hf (i := i * c + k) (by omega) (by omega)
 have z0 := sumF_zero (fun a => sumF (fun b => lkF rnd r c l (i - 1 + a) (k - 1 + b)) 3)
 refine nw_i (fun p1 H2 op1 nn3 le4 => ?_)
 replace op1 : Cel H2 p1 [(.int .i64 (r)), (.int .i64 (c)), vc] := op1
 refine ob_i (op1.ldn rfl) ?_
 replace lE := lE.trans le4
 refine C.c11 (hvc0.le lE) (by first | omega | assumption) (by first | omega | assumption) (by first | omega | assumption) (by first | omega | assumption) (by first | omega | assumption) (fun   H5    le6 => ?_)
 refine ob_i (vUn_ngK (by omega) (by omega)) (jn_i (fun σ' H' => σ' 9 = (.int .i64 (arF rnd r c l i k)) ∧ Cel H' p1 [(.int .i64 (r)), (.int .i64 (c)), vc] ∧ Le H H') (fun σ7 H7 hP => ?_) (fun J7 hJ7 => ?_))
 replace op1 := op1.le le6
 replace lE := lE.trans le6
 obtain ⟨g9L7, op1, lE⟩ := hP
 try simp only [g9L7]
 exact hk   _    lE
 refine ob_i (vInt_sub (by omega) (by omega)) ?_
 replace op1 := op1.le le6
 replace lE := lE.trans le6
 refine ⟨fun n' σ' H' => ∃ t : Nat, n' = 3 - t ∧ t ≤ 3 ∧ σ' 1 = (.int .i64 (i)) ∧ σ' 2 = (.int .i64 (k)) ∧ σ' 3 = (.bool (rnd)) ∧ σ' 4 = p1 ∧ σ' 9 = (.int .i64 (-at_ 0 l (i * c + k) + sumF (fun a => sumF (fun b => lkF rnd r c l (i - 1 + a) (k - 1 + b)) 3) t)) ∧ σ' 10 = (.int .i64 (i - 1 + (t : Int))) ∧ Cel H' p1 [(.int .i64 (r)), (.int .i64 (c)), vc] ∧ Le H H',
    ⟨_, 0, rfl, by omega, rfl, rfl, rfl, rfl, (congrArg (Value.int .i64) (by first | omega | rfl | (simp; done))), (congrArg (Value.int .i64) (by first | omega | rfl | (simp; done))), op1, lE⟩, ?_⟩
 rintro n8 σ8 H8 ⟨t, rfl, htN, g1L8, g2L8, g3L8, g4L8, g9L8, g10L8, op1, lE⟩
 try simp only [g1L8, g2L8, g3L8, g4L8, g9L8, g10L8]
 have bO := sumF_bnd (f := fun a => sumF (fun b => lkF rnd r c l (i - 1 + a) (k - 1 + b)) 3) (a := 0) (b := 3) (fun a => by have := sumF_bnd (f := fun b => lkF rnd r c l (i - 1 + a) (k - 1 + b)) (fun b => lkF_01 hf _ _) 3; omega) t
 have zI := sumF_zero (fun b => lkF rnd r c l (i - 1 + (t : Int)) (k - 1 + b))
 refine ob_i (vInt_add (by omega) (by omega)) (ob_i (vInt_leq _ _ _) (cnd_d (fun hg9 => ?_) (fun hg9 => ?_)))
 have tt := hg9
 refine jn_i (fun σ' H' => σ' 1 = (.int .i64 (i)) ∧ σ' 2 = (.int .i64 (k)) ∧ σ' 3 = (.bool (rnd)) ∧ σ' 4 = p1 ∧ σ' 9 = (.int .i64 (-at_ 0 l (i * c + k) + sumF (fun a => sumF (fun b => lkF rnd r c l (i - 1 + a) (k - 1 + b)) 3) (t + 1))) ∧ σ' 10 = (.int .i64 (i - 1 + (t : Int))) ∧ Cel H' p1 [(.int .i64 (r)), (.int .i64 (c)), vc] ∧ Le H H') (fun σ10 H10 hP => ?_) (fun J10 hJ10 => ?_)
 obtain ⟨g1L10, g2L10, g3L10, g4L10, g9L10, g10L10, op1, lE⟩ := hP
 try simp only [g10L10]
 refine ob_i (vInt_add (by omega) (by omega)) ?_
 exact nxt (3 - (t + 1)) (by omega) ⟨t + 1, rfl, by omega, g1L10, g2L10, g3L10, g4L10, (g9L10.trans (congrArg (Value.int .i64) (by first | omega | rfl | (simp; done)))), (congrArg (Value.int .i64) (by first | omega | rfl | (simp; done))), op1, lE⟩
 refine ob_i (vInt_sub (by omega) (by omega)) ?_
 refine ⟨fun n' σ' H' => ∃ u : Nat, n' = 3 - u ∧ u ≤ 3 ∧ σ' 1 = (.int .i64 (i)) ∧ σ' 2 = (.int .i64 (k)) ∧ σ' 3 = (.bool (rnd)) ∧ σ' 4 = p1 ∧ σ' 9 = (.int .i64 (-at_ 0 l (i * c + k) + sumF (fun a => sumF (fun b => lkF rnd r c l (i - 1 + a) (k - 1 + b)) 3) t + sumF (fun b => lkF rnd r c l (i - 1 + (t : Int)) (k - 1 + b)) u)) ∧ σ' 10 = (.int .i64 (i - 1 + (t : Int))) ∧ σ' 11 = (.int .i64 (k - 1 + (u : Int))) ∧ Cel H' p1 [(.int .i64 (r)), (.int .i64 (c)), vc] ∧ Le H H',
    ⟨_, 0, rfl, by omega, g1L8, g2L8, g3L8, g4L8, (g9L8.trans (congrArg (Value.int .i64) (by first | omega | rfl | (simp; done)))), g10L8, (congrArg (Value.int .i64) (by first | omega | rfl | (simp; done))), op1, lE⟩, ?_⟩
 rintro n11 σ11 H11 ⟨u, rfl, huN, g1L11, g2L11, g3L11, g4L11, g9L11, g10L11, g11L11, op1, lE⟩
 try simp only [g2L11, g3L11, g4L11, g9L11, g10L11, g11L11]
 have bI := sumF_bnd (f := fun b => lkF rnd r c l (i - 1 + (t : Int)) (k - 1 + b)) (fun b => lkF_01 hf _ _) u
 have bV := lkF_01 (rnd := rnd) hf (i - 1 + (t : Int)) (k - 1 + (u : Int))
 refine ob_i (vInt_add (by omega) (by omega)) (ob_i (vInt_leq _ _ _) (cnd_d (fun hg12 => ?_) (fun hg12 => ?_)))
 have tu := hg12
 refine ob_i (op1.ldn rfl) (C.c49 (hvc0.le lE) (by first | omega | assumption) (by first | omega | assumption) (by first | omega | assumption) (by first | omega | assumption) (by first | omega | assumption) (by first | omega | assumption) (fun   H13    le14 => ?_))
 refine ob_i (vInt_add (by omega) (by omega)) (ob_i (vInt_add (by omega) (by omega)) ?_)
 have eS := sumF_succ (fun b => lkF rnd r c l (i - 1 + (t : Int)) (k - 1 + b)) u
 replace op1 := op1.le le14
 replace lE := lE.trans le14
 exact nxt (3 - (u + 1)) (by omega) ⟨u + 1, rfl, by omega, g1L11, g2L11, g3L11, g4L11, (congrArg (Value.int .i64) (by first | omega | rfl | (simp; done))), g10L11, (congrArg (Value.int .i64) (by first | omega | rfl | (simp; done))), op1, lE⟩
 have tu := hg12
 obtain rfl : u = 3 := by omega
 have eO := sumF_succ (fun a => sumF (fun b => lkF rnd r c l (i - 1 + a) (k - 1 + b)) 3) t
 exact hJ10 _ _ ⟨g1L11, g2L11, g3L11, g4L11, (g9L11.trans (congrArg (Value.int .i64) (by first | omega | rfl | (simp; done)))), g10L11, op1, lE⟩
 have tt := hg9
 obtain rfl : t = 3 := by omega
 have eA := arF_eq (rnd := rnd) (l := l) i0 i1 j0 j1
 exact hJ7 _ _ ⟨(g9L8.trans (congrArg (Value.int .i64) (by first | omega | rfl | (simp; done)))), op1, lE⟩

theorem C.c51 {n : Int}  {H : Hp} {K : Value → Hp → Prop} (hvb0 : Sl eI H vb b) (hvs0 : Sl eI H vs s) (kb : b.length ≤ 9223372036854775807) (ks : s.length ≤ 9223372036854775807)
    (hk : ∀ H', Le H H' → K (.int .i64 (if x = 0 then (if n ∈ b then 1 else 0) else (if n ∈ s then 1 else 0))) H') : HT prg 79 [(.agg #[vb, vs]), (.int .i64 (x)), (.int .i64 (n))].toArray H K := by
 have lE := Le.refl H
 refine R.q79 ?_
 unfold F.q79
 refine nw_i (fun p1 H2 op1 nn3 le4 => ?_)
 replace op1 : Cel H2 p1 [vb, vs] := op1
 refine ob_i (vInt_eql _ _ _) (cnd_d (fun hg5 => ?_) (fun hg5 => ?_))
 refine ob_i (op1.fa 0) (ob_i (op1.ld 0 rfl) ?_)
 replace lE := lE.trans le4
 refine C.c46 (hvb0.le lE) (by first | omega | assumption) (fun   H6    le7 => ?_)
 refine C.c47  ?_
 replace lE := lE.trans le7
 exact keq (K := K) (by rw [show ((if x = 0 then (if n ∈ b then 1 else 0) else (if n ∈ s then 1 else 0)) : Int) = (if (decide (n ∈ b)) = true then 1 else 0) from by simp only [ hg5, if_true, if_false, decide_eq_true_eq]]) (hk   _    lE)
 refine ob_i (op1.fa 1) (ob_i (op1.ld 1 rfl) ?_)
 replace lE := lE.trans le4
 refine C.c46 (hvs0.le lE) (by first | omega | assumption) (fun   H8    le9 => ?_)
 refine C.c47  ?_
 replace lE := lE.trans le9
 exact keq (K := K) (by rw [show ((if x = 0 then (if n ∈ b then 1 else 0) else (if n ∈ s then 1 else 0)) : Int) = (if (decide (n ∈ s)) = true then 1 else 0) from by simp only [ hg5, if_true, if_false, decide_eq_true_eq]]) (hk   _    lE)

theorem C.c52 {g : Value}  {H : Hp} {K : Value → Hp → Prop} (hw0 : Cel H w [vb, vs]) (hp0 : Cel H p [(.int .i64 (r)), (.int .i64 (c)), vc]) (hg0 : Cel H g [(.bool (rnd))]) (hvb0 : Sl eI H vb b) (hvs0 : Sl eI H vs s) (hvc0 : Sl eI H vc l) (hf : fieldN 1 r c l) (kb : b.length ≤ 9223372036854775807) (ks : s.length ≤ 9223372036854775807) (i0 : 0 ≤ i) (i1 : i < r) (j0 : 0 ≤ k) (j1 : k < c)
    (hk : ∀ H', Le H H' → K (.int .i64 (nxG rnd b s r c l i k)) H') : HT prg 78 [(.int .i64 (i)), (.int .i64 (k)), w, p, g].toArray H K := by
 have lE := Le.refl H
 refine R.q78 ?_
 unfold F.q78
 have hs := hf.1
 have hl := hf.2.1
 have q1 := hs.1
 have q2 := hs.2
 have qm := sidesF_mul hs
 have x1 := ix_lt (a := i) (b := k) (r := r) (c := c) (by omega) (by omega) (by omega) (by omega)
 refine ob_i ((hw0.le lE).ldn rfl) (ob_i ((hp0.le lE).ldn rfl) (ob_i ((hp0.le lE).ldn rfl) (ob_i ((hg0.le lE).ld0 rfl) (C.c11 (hvc0.le lE) (by first | omega | assumption) (by first | omega | assumption) (by first | omega | assumption) (by first | omega | assumption) (by first | omega | assumption) (fun   H1    le2 => ?_)))))
 refine ⟨le2, ?_⟩
 replace lE := lE.trans le2
 refine C.c50 (hvc0.le lE) (by first | omega | assumption) (by first | omega | assumption) (by first | omega | assumption) (by first | omega | assumption) (by first | omega | assumption) (fun   H3    le4 => ?_)
 refine ⟨le4, ?_⟩
 replace lE := lE.trans le4
 refine C.c51 (hvb0.le lE) (hvs0.le lE) (by first | omega | assumption) (by first | omega | assumption) (fun   H5    le6 => ?_)
 refine ⟨le6, ?_⟩
 replace lE := lE.trans le6
 exact keq (K := K) (by rw [show ((if (at_ 0 l (i * c + k)) = 0 then (if (arF rnd r c l i k) ∈ b then 1 else 0) else (if (arF rnd r c l i k) ∈ s then 1 else 0)) : Int) = (nxG rnd b s r c l i k) from by rfl]) (hk   _    lE)

theorem C.c53  {H : Hp} {K : Value → Hp → Prop} (hvb0 : Sl eI H vb b) (hvs0 : Sl eI H vs s) (hvc0 : Sl eI H vc l) (hf : fieldN 1 r c l) (kb : b.length ≤ 9223372036854775807) (ks : s.length ≤ 9223372036854775807)
    (hk : ∀ u1 H', Own eI H' u1 (nxL rnd b s r c l) → Nw H u1 → Le H H' → K (.agg #[(.int .i64 (r)), (.int .i64 (c)), u1]) H') : HT prg 45 [(.agg #[vb, vs]), (.agg #[(.int .i64 (r)), (.int .i64 (c)), vc]), (.bool (rnd))].toArray H K := by
 have lE := Le.refl H
 refine R.q45 ?_
 unfold F.q45
 have hs := hf.1
 have hl := hf.2.1
 have q1 := hs.1
 have q2 := hs.2
 have qm := sidesF_mul hs
 refine nw_i (fun p1 H2 op1 nn3 le4 => ?_)
 replace op1 : Cel H2 p1 [vb, vs] := op1
 refine nw_i (fun p5 H6 op5 nn7 le8 => ?_)
 replace op5 : Cel H6 p5 [(.int .i64 (r)), (.int .i64 (c)), vc] := op5
 refine nw_i (fun p9 H10 op9 nn11 le12 => ?_)
 replace op9 : Cel H10 p9 [(.bool (rnd))] := op9
 refine nw_i (fun p13 H14 op13 nn15 le16 => ?_)
 replace lE := ((lE.trans le4).trans le8).trans le12
 have np13 := nn15.le lE
 replace op13 : Cel H14 p13 [(.int .i64 (0)), (.int .i64 (0)), (.slice none 0 0)] := op13
 replace op5 := (op5.le le12).le le16
 refine ob_i (op5.fa 0) (ob_i (op5.ld 0 rfl) (ob_i (op5.fa 1) (ob_i (op5.ld 1 rfl) (C.c18 (g := nxG rnd b s r c l) (by omega) (by omega) (by omega) (by omega) (fun H21c i21 k21 Z leZ hi21 hk21 hZ => ?_) (fun u17 H18 ou17 nn19 le20 => ?_)))))
 refine ⟨by kernel_rfl, ?_⟩
 have lZ := Le.refl H21c
 replace op1 := (((op1.le le8).le le12).le le16).le leZ
 replace op9 := (op9.le le16).le leZ
 replace lE := (lE.trans le16).trans leZ
 replace op5 := op5.le leZ
 refine C.c52 op1 op5 op9 (hvb0.le lE) (hvs0.le lE) (hvc0.le lE) (by first | omega | assumption) (by first | omega | assumption) (by first | omega | assumption) (by first | omega | assumption) (by first | omega | assumption) (by first | omega | assumption) (by first | omega | assumption) (fun   H22    le23 => ?_)
 replace lZ := lZ.trans le23
 exact keq (K := Z) (by rw [show ((nxG rnd b s r c l (i21 : Int) (k21 : Int)) : Int) = (nxG rnd b s r c l) (i21 : Int) (k21 : Int) from rfl]) (hZ _ lZ)
 have ap13Xu17 := op13.apart nn19
 replace lE := lE.trans le16
 have nu17 := nn19.le lE
 replace op13 := op13.le le20
 refine op13.stn (ws := [(.int .i64 (r)), (.int .i64 (c)), u17]) rfl rfl (oc1 rfl (oc1 rfl (oc1 ou17.one oc0))) (fun H24 op13 off25 => ?_)
 refine ob_i (op13.ldn rfl) ?_
 replace lE := off25.le (lE.trans le20) np13
 replace ou17 := ou17.off off25 ap13Xu17.symm
 exact hk  u17 _ (Own.cast (show mkL (c) (nxG rnd b s r c l) ((r : Int).toNat * (c : Int).toNat) = nxL rnd b s r c l by first | rfl | simp) ou17) nu17  lE

theorem C.c54  {H : Hp} {K : Value → Hp → Prop} (hw0 : Cel H w [vb, vs]) (hp0 : Cel H p [(.int .i64 (r)), (.int .i64 (c)), vc]) (hvb0 : Sl eI H vb b) (hvs0 : Sl eI H vs s) (hvc0 : Sl eI H vc l) (hf : fieldN 1 r c l) (kb : b.length ≤ 9223372036854775807) (ks : s.length ≤ 9223372036854775807)
    (hk : ∀ u1 H', Own eI H' u1 (nxL rnd b s r c l) → Nw H u1 → Le H H' → K (.agg #[(.int .i64 (r)), (.int .i64 (c)), u1]) H') : HT prg 47 [w, p, (.bool (rnd))].toArray H K := by
 have lE := Le.refl H
 refine R.q47 ?_
 unfold F.q47
 have hs := hf.1
 have hl := hf.2.1
 have q1 := hs.1
 have q2 := hs.2
 have qm := sidesF_mul hs
 refine nw_i (fun p1 H2 op1 nn3 le4 => ?_)
 have np1 := nn3.le lE
 replace op1 : Cel H2 p1 [(.int .i64 (0)), (.int .i64 (0)), (.slice none 0 0)] := op1
 replace lE := lE.trans le4
 refine ob_i ((hp0.le lE).nilC) (ob_i ((hp0.le lE).fa 0) (ob_i ((hp0.le lE).ld 0 rfl) (ob_i ((hp0.le lE).nilC) (ob_i ((hp0.le lE).fa 1) (ob_i ((hp0.le lE).ld 1 rfl) (C.c23 (by first | omega | assumption) (by first | omega | assumption) (by first | omega | assumption) (by first | omega | assumption) (fun  u H5 ou nn7  le6 => ?_)))))))
 have ap1Xu := op1.apart nn7
 have nu := nn7.le lE
 refine ⟨le6, ?_⟩
 refine nw_i (fun p8 H9 op8 nn10 le11 => ?_)
 replace op1 := op1.le le6
 have ap1Xp8 := op1.apart nn10
 have auXp8 := ou.apart nn10
 replace lE := lE.trans le6
 have np8 := nn10.le lE
 replace ou := ou.le le11
 refine op8.stn (ws := [(.int .i64 (r)), (.int .i64 (c)), u]) rfl rfl (oc1 rfl (oc1 rfl (oc1 ou.one oc0))) (fun H12 op8 off13 => ?_)
 refine jn_i (fun σ' H' => σ' 6 = p1 ∧ σ' 7 = p8 ∧ Cel H' p1 [(.int .i64 (0)), (.int .i64 (0)), (.slice none 0 0)] ∧ Own eI H' u (nxL rnd b s r c l) ∧ Cel H' p8 [(.int .i64 (r)), (.int .i64 (c)), u] ∧ Le H H') (fun σ14 H14 hP => ?_) (fun J14 hJ14 => ?_)
 replace op1 := (op1.le le11).off off13 ap1Xp8
 replace lE := off13.le (lE.trans le11) np8
 replace ou := ou.off off13 auXp8
 obtain ⟨g6L14, g7L14, op1, ou, op8, lE⟩ := hP
 try simp only [g6L14, g7L14]
 refine ob_i (op8.ldn rfl) (op1.stn (ws := [(.int .i64 (r)), (.int .i64 (c)), u]) rfl rfl (oc1 rfl (oc1 rfl (oc1 ou.one oc0))) (fun H15 op1 off16 => ?_))
 refine ob_i (op1.ldn rfl) ?_
 replace ou := ou.off off16 ap1Xu.symm
 replace lE := off16.le lE np1
 exact hk  u _ ou nu  lE
 replace op1 := (op1.le le11).off off13 ap1Xp8
 replace lE := off13.le (lE.trans le11) np8
 replace ou := ou.off off13 auXp8
 refine ⟨fun n' σ' H' => ∃ i : Nat, n' = r.toNat - i ∧ i ≤ r.toNat ∧ σ' 0 = w ∧ σ' 1 = p ∧ σ' 2 = (.bool (rnd)) ∧ σ' 6 = p1 ∧ σ' 7 = p8 ∧ σ' 8 = (.int .i64 ((i : Int))) ∧ Cel H' p1 [(.int .i64 (0)), (.int .i64 (0)), (.slice none 0 0)] ∧ Own eI H' u (fillL c (nxG rnd b s r c l) (r.toNat * c.toNat) (i * c.toNat)) ∧ Cel H' p8 [(.int .i64 (r)), (.int .i64 (c)), u] ∧ Le H H',
    ⟨_, 0, rfl, by omega, rfl, rfl, rfl, rfl, rfl, (congrArg (Value.int .i64) (by first | omega | rfl | (simp; done))), op1, (by rw [Nat.zero_mul, fillL_zero]; exact ou), op8, lE⟩, ?_⟩
 rintro n17 σ17 H17 ⟨i, rfl, hiN, g0L17, g1L17, g2L17, g6L17, g7L17, g8L17, op1, ou, op8, lE⟩
 try simp only [g0L17, g1L17, g2L17, g6L17, g7L17, g8L17]
 refine ob_i ((hp0.le lE).nilC) (ob_i ((hp0.le lE).fa 0) (ob_i ((hp0.le lE).ld 0 rfl) (ob_i (vInt_lss _ _ _) (cnd_d (fun hg18 => ?_) (fun hg18 => ?_)))))
 have ti := hg18
 refine jn_i (fun σ' H' => σ' 0 = w ∧ σ' 1 = p ∧ σ' 2 = (.bool (rnd)) ∧ σ' 6 = p1 ∧ σ' 7 = p8 ∧ σ' 8 = (.int .i64 ((i : Int))) ∧ Cel H' p1 [(.int .i64 (0)), (.int .i64 (0)), (.slice none 0 0)] ∧ Own eI H' u (fillL c (nxG rnd b s r c l) (r.toNat * c.toNat) ((i + 1) * c.toNat)) ∧ Cel H' p8 [(.int .i64 (r)), (.int .i64 (c)), u] ∧ Le H H') (fun σ19 H19 hP => ?_) (fun J19 hJ19 => ?_)
 obtain ⟨g0L19, g1L19, g2L19, g6L19, g7L19, g8L19, op1, ou, op8, lE⟩ := hP
 try simp only [g6L19, g8L19]
 refine ob_i (vInt_add (by omega) (by omega)) ?_
 exact nxt (r.toNat - (i + 1)) (by omega) ⟨i + 1, rfl, by omega, g0L19, g1L19, g2L19, g6L19, g7L19, (congrArg (Value.int .i64) (by first | omega | rfl | (simp; done))), op1, ou, op8, lE⟩
 refine ⟨fun n' σ' H' => ∃ k : Nat, n' = c.toNat - k ∧ k ≤ c.toNat ∧ σ' 0 = w ∧ σ' 1 = p ∧ σ' 2 = (.bool (rnd)) ∧ σ' 6 = p1 ∧ σ' 7 = p8 ∧ σ' 8 = (.int .i64 ((i : Int))) ∧ σ' 9 = (.int .i64 ((k : Int))) ∧ Cel H' p1 [(.int .i64 (0)), (.int .i64 (0)), (.slice none 0 0)] ∧ Own eI H' u (fillL c (nxG rnd b s r c l) (r.toNat * c.toNat) (i * c.toNat + k)) ∧ Cel H' p8 [(.int .i64 (r)), (.int .i64 (c)), u] ∧ Le H H',
    ⟨_, 0, rfl, by omega, g0L17, g1L17, g2L17, g6L17, g7L17, g8L17, (congrArg (Value.int .i64) (by first | omega | rfl | (simp; done))), op1, ou, op8, lE⟩, ?_⟩
 rintro n20 σ20 H20 ⟨k, rfl, hkN, g0L20, g1L20, g2L20, g6L20, g7L20, g8L20, g9L20, op1, ou, op8, lE⟩
 try simp only [g0L20, g1L20, g2L20, g6L20, g7L20, g8L20, g9L20]
 refine ob_i ((hp0.le lE).nilC) (ob_i ((hp0.le lE).fa 1) (ob_i ((hp0.le lE).ld 1 rfl) (ob_i (vInt_lss _ _ _) (cnd_d (fun hg21 => ?_) (fun hg21 => ?_)))))
 have tk := hg21
 have x1 := ix_lt (a := (i : Int)) (b := (k : Int)) (r := r) (c := c) (by omega) (by omega) (by omega) (by omega)
 have x3 := fillL_len (c := c) (g := nxG rnd b s r c l) (rr := r) (cc := c) (t := i * c.toNat + k) (by omega) (by omega)
 have x4 := fieldN_at hf (i := (i : Int) * c + (k : Int)) (by omega) (by omega)
 refine C.c48 (hp0.le lE) (hvc0.le lE) (by first | omega | assumption) (by first | omega | assumption) (by first | omega | assumption) (by first | omega | assumption) (by first | omega | assumption) (fun   H22    le23 => ?_)
 replace lE := lE.trans le23
 refine ob_i ((hp0.le lE).nilC) (ob_i ((hp0.le lE).fa 1) (ob_i ((hp0.le lE).ld 1 rfl) (ob_i (vInt_mul (by omega) (by omega)) (ob_i (vInt_add (by omega) (by omega)) (ob_i ((hp0.le lE).nilC) (ob_i ((hp0.le lE).fa 2) (ob_i ((hp0.le lE).ld 2 rfl) (ob_i ((hvc0.le lE).ix (by omega) (by omega)) (ob_i ((hvc0.le lE).ld 0 (by omega) (by omega)) ?_)))))))))
 refine ob_i (vInt_eql _ _ _) ?_
 by_cases hc24 : (at_ 0 (l) (((i : Int) * c) + (k : Int))) = 0
 refine gT hc24 (gT hc24 (ob_i ((hw0.le lE).nilC) (gT hc24 (ob_i ((hw0.le lE).fa 0) (gT hc24 (ob_i ((hw0.le lE).ld 0 rfl) (gT hc24 (gT hc24 (C.c44 (hvb0.le lE) (by first | omega | assumption) (fun   H25    le26 => ?_))))))))))
 refine ob_i (vPick_et (decide_eq_true hc24) _ _) ?_
 by_cases hc27 : (arF rnd r c l (i : Int) (k : Int)) ∈ b
 refine hT hc27 (hT hc27 (hT hc27 (hT hc27 (hT hc27 (hT hc27 (hT hc27 (hT hc27 (hT hc27 (gop_u ?_)))))))))
 refine gop_u (gop_u (gop_u (gop_u (gop_u (hT hc27 (ob_i (vPick_et (decide_eq_true hc27) _ _) (cnd_t1 ?_)))))))
 replace op8 := (op8.le le23).le le26
 refine ob_i (op8.fa 2) (ob_i (op8.ld 2 rfl) ?_)
 replace ou := (ou.le le23).le le26
 refine ob_i (ou.sl.ix (by omega) (by omega)) (ou.st (x := 1) (by omega) (by omega) rfl rfl (fun H28 ou off29 => ?_))
 refine ob_i (vInt_add (by omega) (by omega)) ?_
 have eG : nxG rnd b s r c l (i : Int) (k : Int) = 1 := by first | exact nx_b1 (by assumption) (by assumption) | exact nx_s1 (by assumption) (by assumption) | (exfalso; omega)
 replace ou : Own eI H28 u (fillL c (nxG rnd b s r c l) (r.toNat * c.toNat) (i * c.toNat + (k + 1))) := by rw [← Nat.add_assoc, ← fillL_set (c := c) (g := nxG rnd b s r c l) (i := (i : Int)) (k := (k : Int)) (by omega) (by omega) (by omega) (cast_ix (by omega)) (by omega), eG]; exact ou
 replace op1 := ((op1.le le23).le le26).off off29 ap1Xu
 replace lE := off29.le (lE.trans le26) nu
 replace op8 := op8.off off29 auXp8.symm
 exact nxt (c.toNat - (k + 1)) (by omega) ⟨k + 1, rfl, by omega, g0L20, g1L20, g2L20, g6L20, g7L20, g8L20, (congrArg (Value.int .i64) (by first | omega | rfl | (simp; done))), op1, ou, op8, lE⟩
 refine gF hc27 (gF hc27 ?_)
 replace lE := lE.trans le26
 refine ob_i ((hp0.le lE).nilC) (gF hc27 (ob_i ((hp0.le lE).fa 2) (gF hc27 (ob_i ((hp0.le lE).ld 2 rfl) (gF hc27 (gF hc27 (ob_i ((hvc0.le lE).ix (by omega) (by omega)) (gF hc27 (ob_i ((hvc0.le lE).ld 0 (by omega) (by omega)) ?_)))))))))
 refine gF hc27 (ob_i (vInt_eql _ _ _) (gF hc27 ?_))
 by_cases hc30 : (at_ 0 (l) (((i : Int) * c) + (k : Int))) = 1
 refine gT hc30 (gT hc30 (ob_i ((hw0.le lE).nilC) (gT hc30 (ob_i ((hw0.le lE).fa 1) (gT hc30 (ob_i ((hw0.le lE).ld 1 rfl) (gT hc30 (gT hc30 (C.c44 (hvs0.le lE) (by first | omega | assumption) (fun   H31    le32 => ?_))))))))))
 refine gF hc27 (ob_i (vPick_et (decide_eq_true hc30) _ _) (ob_i (vPick_ef (decide_eq_false hc27) _ _) (cnd_d (fun hg33 => ?_) (fun hg33 => ?_))))
 replace op8 := ((op8.le le23).le le26).le le32
 refine ob_i (op8.fa 2) (ob_i (op8.ld 2 rfl) ?_)
 replace ou := ((ou.le le23).le le26).le le32
 refine ob_i (ou.sl.ix (by omega) (by omega)) (ou.st (x := 1) (by omega) (by omega) rfl rfl (fun H34 ou off35 => ?_))
 refine ob_i (vInt_add (by omega) (by omega)) ?_
 have eG : nxG rnd b s r c l (i : Int) (k : Int) = 1 := by first | exact nx_b1 (by assumption) (by assumption) | exact nx_s1 (by assumption) (by assumption) | (exfalso; omega)
 replace ou : Own eI H34 u (fillL c (nxG rnd b s r c l) (r.toNat * c.toNat) (i * c.toNat + (k + 1))) := by rw [← Nat.add_assoc, ← fillL_set (c := c) (g := nxG rnd b s r c l) (i := (i : Int)) (k := (k : Int)) (by omega) (by omega) (by omega) (cast_ix (by omega)) (by omega), eG]; exact ou
 replace op1 := (((op1.le le23).le le26).le le32).off off35 ap1Xu
 replace lE := off35.le (lE.trans le32) nu
 replace op8 := op8.off off35 auXp8.symm
 exact nxt (c.toNat - (k + 1)) (by omega) ⟨k + 1, rfl, by omega, g0L20, g1L20, g2L20, g6L20, g7L20, g8L20, (congrArg (Value.int .i64) (by first | omega | rfl | (simp; done))), op1, ou, op8, lE⟩
 refine ob_i (vInt_add (by omega) (by omega)) ?_
 have eG : nxG rnd b s r c l (i : Int) (k : Int) = 0 := by first | exact nx_b0 (by assumption) (by assumption) | exact nx_s0 (by assumption) (by assumption) | (exfalso; omega)
 replace ou := ((ou.le le23).le le26).le le32
 replace ou : Own eI H31 u (fillL c (nxG rnd b s r c l) (r.toNat * c.toNat) (i * c.toNat + (k + 1))) := by rw [← Nat.add_assoc, ← fillL_skip (c := c) (g := nxG rnd b s r c l) (i := (i : Int)) (k := (k : Int)) (by omega) (by omega) (by omega) (cast_ix (by omega)) eG]; exact ou
 replace op1 := ((op1.le le23).le le26).le le32
 replace op8 := ((op8.le le23).le le26).le le32
 replace lE := lE.trans le32
 exact nxt (c.toNat - (k + 1)) (by omega) ⟨k + 1, rfl, by omega, g0L20, g1L20, g2L20, g6L20, g7L20, g8L20, (congrArg (Value.int .i64) (by first | omega | rfl | (simp; done))), op1, ou, op8, lE⟩
 refine hF hc30 (hF hc30 (hF hc30 (hF hc30 (hF hc30 (hF hc30 (gF hc27 (ob_i (vPick_ef (decide_eq_false hc30) _ _) (ob_i (vPick_ef (decide_eq_false hc27) _ _) (cnd_f1 ?_)))))))))
 refine ob_i (vInt_add (by omega) (by omega)) ?_
 have eG : nxG rnd b s r c l (i : Int) (k : Int) = 0 := by first | exact nx_b0 (by assumption) (by assumption) | exact nx_s0 (by assumption) (by assumption) | (exfalso; omega)
 replace ou := (ou.le le23).le le26
 replace ou : Own eI H25 u (fillL c (nxG rnd b s r c l) (r.toNat * c.toNat) (i * c.toNat + (k + 1))) := by rw [← Nat.add_assoc, ← fillL_skip (c := c) (g := nxG rnd b s r c l) (i := (i : Int)) (k := (k : Int)) (by omega) (by omega) (by omega) (cast_ix (by omega)) eG]; exact ou
 replace op1 := (op1.le le23).le le26
 replace op8 := (op8.le le23).le le26
 exact nxt (c.toNat - (k + 1)) (by omega) ⟨k + 1, rfl, by omega, g0L20, g1L20, g2L20, g6L20, g7L20, g8L20, (congrArg (Value.int .i64) (by first | omega | rfl | (simp; done))), op1, ou, op8, lE⟩
 refine hF hc24 (hF hc24 (hF hc24 (hF hc24 (hF hc24 (hF hc24 (ob_i (vPick_ef (decide_eq_false hc24) _ _) (gop_rf (gop_rf (ob_i ((hp0.le lE).nilC) ?_)))))))))
 refine gop_rf (ob_i ((hp0.le lE).fa 2) (gop_rf (ob_i ((hp0.le lE).ld 2 rfl) (gop_rf (gop_rf (ob_i ((hvc0.le lE).ix (by omega) (by omega)) (gop_rf (ob_i ((hvc0.le lE).ld 0 (by omega) (by omega)) (gop_rf ?_)))))))))
 refine ob_i (vInt_eql _ _ _) (gop_rf ?_)
 by_cases hc36 : (at_ 0 (l) (((i : Int) * c) + (k : Int))) = 1
 refine gT hc36 (gT hc36 (ob_i ((hw0.le lE).nilC) (gT hc36 (ob_i ((hw0.le lE).fa 1) (gT hc36 (ob_i ((hw0.le lE).ld 1 rfl) (gT hc36 (gT hc36 (C.c44 (hvs0.le lE) (by first | omega | assumption) (fun   H37    le38 => ?_))))))))))
 refine gop_rf (ob_i (vPick_et (decide_eq_true hc36) _ _) (ob_i (vPick_f _ _) (cnd_d (fun hg39 => ?_) (fun hg39 => ?_))))
 replace op8 := (op8.le le23).le le38
 refine ob_i (op8.fa 2) (ob_i (op8.ld 2 rfl) ?_)
 replace ou := (ou.le le23).le le38
 refine ob_i (ou.sl.ix (by omega) (by omega)) (ou.st (x := 1) (by omega) (by omega) rfl rfl (fun H40 ou off41 => ?_))
 refine ob_i (vInt_add (by omega) (by omega)) ?_
 have eG : nxG rnd b s r c l (i : Int) (k : Int) = 1 := by first | exact nx_b1 (by assumption) (by assumption) | exact nx_s1 (by assumption) (by assumption) | (exfalso; omega)
 replace ou : Own eI H40 u (fillL c (nxG rnd b s r c l) (r.toNat * c.toNat) (i * c.toNat + (k + 1))) := by rw [← Nat.add_assoc, ← fillL_set (c := c) (g := nxG rnd b s r c l) (i := (i : Int)) (k := (k : Int)) (by omega) (by omega) (by omega) (cast_ix (by omega)) (by omega), eG]; exact ou
 replace op1 := ((op1.le le23).le le38).off off41 ap1Xu
 replace lE := off41.le (lE.trans le38) nu
 replace op8 := op8.off off41 auXp8.symm
 exact nxt (c.toNat - (k + 1)) (by omega) ⟨k + 1, rfl, by omega, g0L20, g1L20, g2L20, g6L20, g7L20, g8L20, (congrArg (Value.int .i64) (by first | omega | rfl | (simp; done))), op1, ou, op8, lE⟩
 refine ob_i (vInt_add (by omega) (by omega)) ?_
 have eG : nxG rnd b s r c l (i : Int) (k : Int) = 0 := by first | exact nx_b0 (by assumption) (by assumption) | exact nx_s0 (by assumption) (by assumption) | (exfalso; omega)
 replace ou := (ou.le le23).le le38
 replace ou : Own eI H37 u (fillL c (nxG rnd b s r c l) (r.toNat * c.toNat) (i * c.toNat + (k + 1))) := by rw [← Nat.add_assoc, ← fillL_skip (c := c) (g := nxG rnd b s r c l) (i := (i : Int)) (k := (k : Int)) (by omega) (by omega) (by omega) (cast_ix (by omega)) eG]; exact ou
 replace op1 := (op1.le le23).le le38
 replace op8 := (op8.le le23).le le38
 replace lE := lE.trans le38
 exact nxt (c.toNat - (k + 1)) (by omega) ⟨k + 1, rfl, by omega, g0L20, g1L20, g2L20, g6L20, g7L20, g8L20, (congrArg (Value.int .i64) (by first | omega | rfl | (simp; done))), op1, ou, op8, lE⟩
 refine hF hc36 (hF hc36 (hF hc36 (hF hc36 (hF hc36 (hF hc36 (gop_rf (ob_i (vPick_ef (decide_eq_false hc36) _ _) (ob_i (vPick_f _ _) (cnd_f1 ?_)))))))))
 refine ob_i (vInt_add (by omega) (by omega)) ?_
 have eG : nxG rnd b s r c l (i : Int) (k : Int) = 0 := by first | exact nx_b0 (by assumption) (by assumption) | exact nx_s0 (by assumption) (by assumption) | (exfalso; omega)
 replace ou := ou.le le23
 replace ou : Own eI H22 u (fillL c (nxG rnd b s r c l) (r.toNat * c.toNat) (i * c.toNat + (k + 1))) := by rw [← Nat.add_assoc, ← fillL_skip (c := c) (g := nxG rnd b s r c l) (i := (i : Int)) (k := (k : Int)) (by omega) (by omega) (by omega) (cast_ix (by omega)) eG]; exact ou
 replace op1 := op1.le le23
 replace op8 := op8.le le23
 exact nxt (c.toNat - (k + 1)) (by omega) ⟨k + 1, rfl, by omega, g0L20, g1L20, g2L20, g6L20, g7L20, g8L20, (congrArg (Value.int .i64) (by first | omega | rfl | (simp; done))), op1, ou, op8, lE⟩
 have tk := hg21
 rw [show i * c.toNat + k = (i + 1) * c.toNat by rw [Nat.add_mul, Nat.one_mul]; omega] at ou
 exact hJ19 _ _ ⟨g0L20, g1L20, g2L20, g6L20, g7L20, g8L20, op1, ou, op8, lE⟩
 have ti := hg18
 rw [fillL_end (by rw [show i = r.toNat by omega]; exact Nat.le_refl _)] at ou
 exact hJ14 _ _ ⟨g6L17, g7L17, op1, ou, op8, lE⟩

theorem C.c55  {H : Hp} {K : Value → Hp → Prop} (hw0 : Cel H w [vb, vs]) (hp0 : Cel H p [(.int .i64 (r)), (.int .i64 (c)), vc]) (hvb0 : Sl eI H vb b) (hvs0 : Sl eI H vs s) (hvc0 : Sl eI H vc l) (hf : fieldN 1 r c l) (kb : b.length ≤ 9223372036854775807) (ks : s.length ≤ 9223372036854775807) (st0 : 0 ≤ st) (st1 : st ≤ 1000)
    (hk : ∀ u1 H', Own eI H' u1 (rnL rnd b s r c l st.toNat) → Nw H u1 → Le H H' → K (.agg #[(.int .i64 (r)), (.int .i64 (c)), u1]) H') : HT prg 41 [w, p, (.bool (rnd)), (.int .i64 (st))].toArray H K := by
 have lE := Le.refl H
 refine R.q41 ?_
 unfold F.q41
 have l1 := fieldN_len hf
 refine nw_i (fun p1 H2 op1 nn3 le4 => ?_)
 have np1 := nn3.le lE
 replace op1 : Cel H2 p1 [(.int .i64 (0)), (.int .i64 (0)), (.slice none 0 0)] := op1
 replace lE := lE.trans le4
 refine C.c42 (hp0.le lE) (hvc0.le lE) (by first | omega | assumption) (fun  u7 H5 ou7 nn8  le6 => ?_)
 have ap1Xu7 := op1.apart nn8
 have nu7 := nn8.le lE
 refine nw_i (fun q H9 oq nn10 le11 => ?_)
 replace op1 := op1.le le6
 have ap1Xq := op1.apart nn10
 have au7Xq := ou7.apart nn10
 replace lE := lE.trans le6
 have nq := nn10.le lE
 replace ou7 := ou7.le le11
 refine oq.stn (ws := [(.int .i64 (r)), (.int .i64 (c)), u7]) rfl rfl (oc1 rfl (oc1 rfl (oc1 ou7.one oc0))) (fun H12 oq off13 => ?_)
 refine jn_i (fun σ' H' => ∃ u, σ' 8 = p1 ∧ σ' 9 = q ∧ Cel H' p1 [(.int .i64 (0)), (.int .i64 (0)), (.slice none 0 0)] ∧ Cel H' q [(.int .i64 (r)), (.int .i64 (c)), u] ∧ Own eI H' u (rnL rnd b s r c l st.toNat) ∧ Nw H u ∧ Apart p1 u ∧ Apart q u ∧ Le H H') (fun σ14 H14 hP => ?_) (fun J14 hJ14 => ?_)
 replace op1 := (op1.le le11).off off13 ap1Xq
 replace lE := off13.le (lE.trans le11) nq
 obtain ⟨u, g8L14, g9L14, op1, oq, ou, nu, ap1Xu, aqXu, lE⟩ := hP
 try simp only [g8L14, g9L14]
 refine ob_i (oq.ldn rfl) (op1.stn (ws := [(.int .i64 (r)), (.int .i64 (c)), u]) rfl rfl (oc1 rfl (oc1 rfl (oc1 ou.one oc0))) (fun H15 op1 off16 => ?_))
 refine ob_i (op1.ldn rfl) ?_
 replace ou := ou.off off16 ap1Xu.symm
 replace lE := off16.le lE np1
 exact hk  u _ ou nu  lE
 replace op1 := (op1.le le11).off off13 ap1Xq
 replace lE := off13.le (lE.trans le11) nq
 replace ou7 := ou7.off off13 au7Xq
 refine ⟨fun n' σ' H' => ∃ i : Nat, n' = st.toNat - i ∧ i ≤ st.toNat ∧ ∃ u, σ' 0 = w ∧ σ' 2 = (.bool (rnd)) ∧ σ' 3 = (.int .i64 (st - (i : Int))) ∧ σ' 8 = p1 ∧ σ' 9 = q ∧ Cel H' p1 [(.int .i64 (0)), (.int .i64 (0)), (.slice none 0 0)] ∧ Cel H' q [(.int .i64 (r)), (.int .i64 (c)), u] ∧ Own eI H' u (rnL rnd b s r c l i) ∧ Nw H u ∧ Apart p1 u ∧ Apart q u ∧ Le H H',
    ⟨_, 0, rfl, by omega, u7, rfl, rfl, (congrArg (Value.int .i64) (by first | omega | rfl | (simp; done))), rfl, rfl, op1, oq, (Own.cast (by first | rfl | (simp; done)) ou7), nu7, ap1Xu7, au7Xq.symm, lE⟩, ?_⟩
 rintro n17 σ17 H17 ⟨i, rfl, hiN, u, g0L17, g2L17, g3L17, g8L17, g9L17, op1, oq, ou, nu, ap1Xu, aqXu, lE⟩
 try simp only [g0L17, g2L17, g3L17, g8L17, g9L17]
 have hfi : fieldN 1 r c (rnL rnd b s r c l i) := rnL_field hf i
 have hli := fieldN_len hfi
 have hfn : fieldN 1 r c (nxL rnd b s r c (rnL rnd b s r c l i)) := nxL_field hf.1
 have hln := fieldN_len hfn
 refine ob_i (vInt_gtr _ _ _) (cnd_d (fun hg18 => ?_) (fun hg18 => ?_))
 have ti := hg18
 refine C.c54 (hw0.le lE) oq (hvb0.le lE) (hvs0.le lE) ou.sl (by first | omega | assumption) (by first | omega | assumption) (by first | omega | assumption) (fun  u21 H19 ou21 nn22  le20 => ?_)
 have ap1Xu21 := op1.apart nn22
 have aqXu21 := oq.apart nn22
 have nu21 := nn22.le lE
 replace oq := oq.le le20
 refine oq.stn (ws := [(.int .i64 (r)), (.int .i64 (c)), u21]) rfl rfl (oc1 rfl (oc1 rfl (oc1 ou21.one oc0))) (fun H23 oq off24 => ?_)
 refine ob_i (vInt_sub (by omega) (by omega)) ?_
 replace op1 := (op1.le le20).off off24 ap1Xq
 replace lE := off24.le (lE.trans le20) nq
 replace ou21 := ou21.off off24 aqXu21.symm
 exact nxt (st.toNat - (i + 1)) (by omega) ⟨i + 1, rfl, by omega, u21, g0L17, g2L17, (congrArg (Value.int .i64) (by first | omega | rfl | (simp; done))), g8L17, g9L17, op1, oq, ou21, nu21, ap1Xu21, aqXu21, lE⟩
 have ti := hg18
 rw [show i = st.toNat by omega] at ou
 exact hJ14 _ _ ⟨u, g8L17, g9L17, op1, oq, ou, nu, ap1Xu, aqXu, lE⟩

theorem C.c56  {H : Hp} {K : Value → Hp → Prop} (hvb0 : Sl eI H vb b) (hvs0 : Sl eI H vs s) (hvc0 : Sl eI H vc l) (hf : fieldN 1 r c l) (kb : b.length ≤ 9223372036854775807) (ks : s.length ≤ 9223372036854775807) (st0 : 0 ≤ st) (st1 : st ≤ 1000)
    (hk : ∀ u1 H', Own eI H' u1 (rnL rnd b s r c l st.toNat) → Nw H u1 → Le H H' → K (.agg #[(.int .i64 (r)), (.int .i64 (c)), u1]) H') : HT prg 61 [(.agg #[vb, vs]), (.agg #[(.int .i64 (r)), (.int .i64 (c)), vc]), (.bool (rnd)), (.int .i64 (st))].toArray H K := by
 have lE := Le.refl H
 refine R.q61 ?_
 unfold F.q61
 have l1 := fieldN_len hf
 refine nw_i (fun p1 H2 op1 nn3 le4 => ?_)
 replace op1 : Cel H2 p1 [vb, vs] := op1
 refine nw_i (fun q H5 oq nn6 le7 => ?_)
 have ap1Xq := op1.apart nn6
 replace lE := lE.trans le4
 have nq := nn6.le lE
 replace oq : Cel H5 q [(.int .i64 (r)), (.int .i64 (c)), vc] := oq
 refine nw_i (fun p8 H9 op8 nn10 le11 => ?_)
 have aqXp8 := oq.apart nn10
 replace lE := lE.trans le7
 have np8 := nn10.le lE
 replace op8 : Cel H9 p8 [(.int .i64 (0)), (.int .i64 (0)), (.slice none 0 0)] := op8
 replace oq := oq.le le11
 refine ob_i (oq.ldn rfl) ?_
 replace lE := lE.trans le11
 refine C.c43 (hvc0.le lE) (by first | omega | assumption) (fun  u14 H12 ou14 nn15  le13 => ?_)
 replace op1 := (op1.le le7).le le11
 have ap1Xu14 := op1.apart nn15
 have aqXu14 := oq.apart nn15
 have ap8Xu14 := op8.apart nn15
 have nu14 := nn15.le lE
 replace oq := oq.le le13
 refine oq.stn (ws := [(.int .i64 (r)), (.int .i64 (c)), u14]) rfl rfl (oc1 rfl (oc1 rfl (oc1 ou14.one oc0))) (fun H16 oq off17 => ?_)
 refine jn_i (fun σ' H' => ∃ u, σ' 5 = q ∧ σ' 8 = p8 ∧ Cel H' p1 [vb, vs] ∧ Cel H' q [(.int .i64 (r)), (.int .i64 (c)), u] ∧ Cel H' p8 [(.int .i64 (0)), (.int .i64 (0)), (.slice none 0 0)] ∧ Own eI H' u (rnL rnd b s r c l st.toNat) ∧ Nw H u ∧ Apart p1 u ∧ Apart q u ∧ Apart p8 u ∧ Le H H') (fun σ18 H18 hP => ?_) (fun J18 hJ18 => ?_)
 replace op1 := (op1.le le13).off off17 ap1Xq
 replace op8 := (op8.le le13).off off17 aqXp8.symm
 replace lE := off17.le (lE.trans le13) nq
 obtain ⟨u, g5L18, g8L18, op1, oq, op8, ou, nu, ap1Xu, aqXu, ap8Xu, lE⟩ := hP
 try simp only [g5L18, g8L18]
 refine ob_i (oq.ldn rfl) (op8.stn (ws := [(.int .i64 (r)), (.int .i64 (c)), u]) rfl rfl (oc1 rfl (oc1 rfl (oc1 ou.one oc0))) (fun H19 op8 off20 => ?_))
 refine ob_i (op8.ldn rfl) ?_
 replace ou := ou.off off20 ap8Xu.symm
 replace lE := off20.le lE np8
 exact hk  u _ ou nu  lE
 replace op1 := (op1.le le13).off off17 ap1Xq
 replace op8 := (op8.le le13).off off17 aqXp8.symm
 replace lE := off17.le (lE.trans le13) nq
 replace ou14 := ou14.off off17 aqXu14.symm
 refine ⟨fun n' σ' H' => ∃ i : Nat, n' = st.toNat - i ∧ i ≤ st.toNat ∧ ∃ u, σ' 2 = (.bool (rnd)) ∧ σ' 4 = p1 ∧ σ' 5 = q ∧ σ' 8 = p8 ∧ σ' 11 = (.int .i64 (st)) ∧ σ' 12 = (.int .i64 ((i : Int))) ∧ Cel H' p1 [vb, vs] ∧ Cel H' q [(.int .i64 (r)), (.int .i64 (c)), u] ∧ Cel H' p8 [(.int .i64 (0)), (.int .i64 (0)), (.slice none 0 0)] ∧ Own eI H' u (rnL rnd b s r c l i) ∧ Nw H u ∧ Apart p1 u ∧ Apart q u ∧ Apart p8 u ∧ Le H H',
    ⟨_, 0, rfl, by omega, u14, rfl, rfl, rfl, rfl, rfl, (congrArg (Value.int .i64) (by first | omega | rfl | (simp; done))), op1, oq, op8, (Own.cast (by first | rfl | (simp; done)) ou14), nu14, ap1Xu14, aqXu14, ap8Xu14, lE⟩, ?_⟩
 rintro n21 σ21 H21 ⟨i, rfl, hiN, u, g2L21, g4L21, g5L21, g8L21, g11L21, g12L21, op1, oq, op8, ou, nu, ap1Xu, aqXu, ap8Xu, lE⟩
 try simp only [g2L21, g4L21, g5L21, g8L21, g11L21, g12L21]
 have hfi : fieldN 1 r c (rnL rnd b s r c l i) := rnL_field hf i
 have hli := fieldN_len hfi
 have hfn : fieldN 1 r c (nxL rnd b s r c (rnL rnd b s r c l i)) := nxL_field hf.1
 have hln := fieldN_len hfn
 refine ob_i (vInt_lss _ _ _) (cnd_d (fun hg22 => ?_) (fun hg22 => ?_))
 have ti := hg22
 refine ob_i (op1.ldn rfl) (ob_i (oq.ldn rfl) (C.c53 (hvb0.le lE) (hvs0.le lE) ou.sl (by first | omega | assumption) (by first | omega | assumption) (by first | omega | assumption) (fun  u25 H23 ou25 nn26  le24 => ?_)))
 have ap1Xu25 := op1.apart nn26
 have aqXu25 := oq.apart nn26
 have ap8Xu25 := op8.apart nn26
 have nu25 := nn26.le lE
 replace oq := oq.le le24
 refine oq.stn (ws := [(.int .i64 (r)), (.int .i64 (c)), u25]) rfl rfl (oc1 rfl (oc1 rfl (oc1 ou25.one oc0))) (fun H27 oq off28 => ?_)
 refine ob_i (vInt_add (by omega) (by omega)) ?_
 replace op1 := (op1.le le24).off off28 ap1Xq
 replace op8 := (op8.le le24).off off28 aqXp8.symm
 replace lE := off28.le (lE.trans le24) nq
 replace ou25 := ou25.off off28 aqXu25.symm
 exact nxt (st.toNat - (i + 1)) (by omega) ⟨i + 1, rfl, by omega, u25, g2L21, g4L21, g5L21, g8L21, g11L21, (congrArg (Value.int .i64) (by first | omega | rfl | (simp; done))), op1, oq, op8, ou25, nu25, ap1Xu25, aqXu25, ap8Xu25, lE⟩
 have ti := hg22
 rw [show i = st.toNat by omega] at ou
 exact hJ18 _ _ ⟨u, g5L21, g8L21, op1, oq, op8, ou, nu, ap1Xu, aqXu, ap8Xu, lE⟩

def runP (b s : List Int) (r c : Int) (l : List Int) (n : Int) : Prop := canP b s r c l ∧ 0 ≤ n ∧ n ≤ 512
instance (b s : List Int) (r c : Int) (l : List Int) (n : Int) : Decidable (runP b s r c l n) := by unfold runP; infer_instance
theorem C.c57  {H : Hp} {K : Value → Hp → Prop} (hvb0 : Sl eI H vb b) (hvs0 : Sl eI H vs s) (hvc0 : Sl eI H vc l) (kb : b.length ≤ 9223372036854775807) (ks : s.length ≤ 9223372036854775807) (k1 : l.length ≤ 9223372036854775807)
    (hk : ∀ u1 H', Own eI H' u1 (selL (runP b s r c l st) (rnL rnd b s r c l st.toNat)) → Nw H u1 → Le H H' → K (.tuple #[(.agg #[(.int .i64 (selI (runP b s r c l st) (r))), (.int .i64 (selI (runP b s r c l st) (c))), u1]), (.bool (decide (runP b s r c l st)))]) H') : HT prg 12 [(.agg #[vb, vs]), (.agg #[(.int .i64 (r)), (.int .i64 (c)), vc]), (.bool (rnd)), (.int .i64 (st))].toArray H K := by
 have lE := Le.refl H
 refine R.q12 ?_
 unfold F.q12
 refine nw_i (fun p1 H2 op1 nn3 le4 => ?_)
 replace op1 : Cel H2 p1 [vb, vs] := op1
 refine nw_i (fun p5 H6 op5 nn7 le8 => ?_)
 replace op5 : Cel H6 p5 [(.int .i64 (r)), (.int .i64 (c)), vc] := op5
 refine nw_i (fun p9 H10 op9 nn11 le12 => ?_)
 replace lE := (lE.trans le4).trans le8
 have np9 := nn11.le lE
 replace op9 : Cel H10 p9 [(.int .i64 (0)), (.int .i64 (0)), (.slice none 0 0)] := op9
 replace op1 := (op1.le le8).le le12
 replace op5 := op5.le le12
 replace lE := lE.trans le12
 refine C.c40 op1 op5 (hvb0.le lE) (hvs0.le lE) (hvc0.le lE) (by first | omega | assumption) (by first | omega | assumption) (by first | omega | assumption) (fun   H13    le14 => ?_)
 refine ob_nd (fun hc15 => ?_) (fun hc15 => ?_)
 have hf := hc15.2
 have l1 := fieldN_len hf
 refine gop_rf (gop_rf (C.c0  ?_))
 refine gop_rf (ob_nd (fun hc16 => ?_) (fun hc16 => ?_))
 refine ob_i (vPick_f _ _) (cnd_f1 ?_)
 replace op1 := op1.le le14
 replace op5 := op5.le le14
 replace lE := lE.trans le14
 refine C.c55 op1 op5 (hvb0.le lE) (hvs0.le lE) (hvc0.le lE) (by first | omega | assumption) (by first | omega | assumption) (by first | omega | assumption) (by first | omega | assumption) (by first | omega | assumption) (fun  u19 H17 ou19 nn20  le18 => ?_)
 replace op9 := op9.le le14
 have ap9Xu19 := op9.apart nn20
 have nu19 := nn20.le lE
 replace op9 := op9.le le18
 refine op9.stn (ws := [(.int .i64 (r)), (.int .i64 (c)), u19]) rfl rfl (oc1 rfl (oc1 rfl (oc1 ou19.one oc0))) (fun H21 op9 off22 => ?_)
 refine ob_i (op9.ldn rfl) ?_
 have hok : runP b s r c l st := by first | assumption | exact ⟨by assumption, by assumption⟩ | exact ⟨by assumption, by omega⟩
 replace lE := off22.le (lE.trans le18) np9
 replace ou19 := ou19.off off22 ap9Xu19.symm
 exact keq (K := K) (by rw [show ((selI (runP b s r c l st) (r)) : Int) = (r) from by first | exact selI_t hok | exact selI_f hok]; rw [show ((selI (runP b s r c l st) (c)) : Int) = (c) from by first | exact selI_t hok | exact selI_f hok]; rw [decide_eq_true (show (runP b s r c l st) from by exact hok)]) (hk  u19 _ (Own.cast (show rnL rnd b s r c l st.toNat = selL (runP b s r c l st) (rnL rnd b s r c l st.toNat) by exact (selL_t hok).symm) ou19) nu19  lE)
 refine ob_i (vPick_f _ _) (cnd_t1 (ob_i (a := (.agg #[(.int .i64 (0)), (.int .i64 (0)), (.slice none 0 0)])) (by rfl) ?_))
 replace op9 := op9.le le14
 refine op9.stn (ws := [(.int .i64 (0)), (.int .i64 (0)), (.slice none 0 0)]) rfl rfl (oc1 rfl (oc1 rfl (oc1 rfl oc0))) (fun H23 op9 off24 => ?_)
 refine ob_i (op9.ldn rfl) ?_
 have hok : ¬ (runP b s r c l st) := by intro h; first | exact absurd h.1 (by assumption) | exact absurd h.2 (by assumption) | (have := h.2; omega)
 replace lE := off24.le (lE.trans le14) np9
 exact keq (K := K) (by rw [show ((selI (runP b s r c l st) (r)) : Int) = (0) from by first | exact selI_t hok | exact selI_f hok]; rw [show ((selI (runP b s r c l st) (c)) : Int) = (0) from by first | exact selI_t hok | exact selI_f hok]; rw [decide_eq_false (show ¬ (runP b s r c l st) from by exact hok)]) (hk  (.slice none 0 0) _ (Own.cast (show [] = selL (runP b s r c l st) (rnL rnd b s r c l st.toNat) by exact (selL_f hok).symm) (Own.nil_of none)) (fun b hb => by simp [bk] at hb)  lE)
 refine gop_st (gop_st (gop_st (ob_i (vPick_t _ _) (cnd_t1 (ob_i (a := (.agg #[(.int .i64 (0)), (.int .i64 (0)), (.slice none 0 0)])) (by rfl) ?_)))))
 replace op9 := op9.le le14
 refine op9.stn (ws := [(.int .i64 (0)), (.int .i64 (0)), (.slice none 0 0)]) rfl rfl (oc1 rfl (oc1 rfl (oc1 rfl oc0))) (fun H25 op9 off26 => ?_)
 refine ob_i (op9.ldn rfl) ?_
 have hok : ¬ (runP b s r c l st) := by intro h; first | exact absurd h.1 (by assumption) | exact absurd h.2 (by assumption) | (have := h.2; omega)
 replace lE := off26.le (lE.trans le14) np9
 exact keq (K := K) (by rw [show ((selI (runP b s r c l st) (r)) : Int) = (0) from by first | exact selI_t hok | exact selI_f hok]; rw [show ((selI (runP b s r c l st) (c)) : Int) = (0) from by first | exact selI_t hok | exact selI_f hok]; rw [decide_eq_false (show ¬ (runP b s r c l st) from by exact hok)]) (hk  (.slice none 0 0) _ (Own.cast (show [] = selL (runP b s r c l st) (rnL rnd b s r c l st.toNat) by exact (selL_f hok).symm) (Own.nil_of none)) (fun b hb => by simp [bk] at hb)  lE)

end Go.Proofs.YtnijdhlmimemcaaGreatDoor
/- Counts ahead, inner steps. -/
namespace Go.Proofs.YtnijdhlmimemcaaGreatDoor
open HL
variable {vc : Value} {r c : Int} {l : List Int}
set_option maxRecDepth 100000
theorem C.c58 {v : Int}  {H : Hp} {K : Value → Hp → Prop} (hvc0 : Sl eI H vc l) (k1 : l.length ≤ 1000)
    (hk : ∀ H', Le H H' → K (.int .i64 (cntE v l)) H') : HT prg 35 [(.agg #[(.int .i64 (r)), (.int .i64 (c)), vc]), (.int .i64 (v))].toArray H K := by
 have lE := Le.refl H
 refine R.q35 ?_
 unfold F.q35
 refine nw_i (fun p1 H2 op1 nn3 le4 => ?_)
 replace op1 : Cel H2 p1 [(.int .i64 (r)), (.int .i64 (c)), vc] := op1
 refine jn_i (fun σ' H' => σ' 5 = (.int .i64 (cntE v l)) ∧ Cel H' p1 [(.int .i64 (r)), (.int .i64 (c)), vc] ∧ Le H H') (fun σ5 H5 hP => ?_) (fun J5 hJ5 => ?_)
 replace lE := lE.trans le4
 obtain ⟨g5L5, op1, lE⟩ := hP
 try simp only [g5L5]
 exact hk   _    lE
 refine ob_i (op1.fa 2) (ob_i (op1.ld 2 rfl) ?_)
 replace lE := lE.trans le4
 refine ob_i ((hvc0.le lE).len) ?_
 refine ⟨fun n' σ' H' => ∃ i : Nat, n' = l.length - i ∧ i ≤ l.length ∧ σ' 1 = (.int .i64 (v)) ∧ σ' 5 = (.int .i64 (cntE v (l.take i))) ∧ σ' 9 = vc ∧ σ' 10 = (.int .i64 (((l).length : Int))) ∧ σ' 11 = (.int .i64 ((i : Int))) ∧ Cel H' p1 [(.int .i64 (r)), (.int .i64 (c)), vc] ∧ Le H H',
    ⟨_, 0, rfl, by omega, rfl, (congrArg (Value.int .i64) (by first | omega | rfl | (simp; done))), rfl, rfl, (congrArg (Value.int .i64) (by first | omega | rfl | (simp; done))), op1, lE⟩, ?_⟩
 rintro n6 σ6 H6 ⟨i, rfl, hiN, g1L6, g5L6, g9L6, g10L6, g11L6, op1, lE⟩
 try simp only [g1L6, g5L6, g9L6, g10L6, g11L6]
 have bb := cntE_bnd v (l.take i)
 have bl : ((l.take i).length : Int) ≤ 1000 := by simp; omega
 refine ob_i (vInt_lss _ _ _) (cnd_d (fun hg7 => ?_) (fun hg7 => ?_))
 have ti := hg7
 refine ob_i ((hvc0.le lE).ix (by omega) (by omega)) (ob_i ((hvc0.le lE).ld 0 (by omega) (by omega)) (ob_i (vInt_eql _ _ _) (cnd_d (fun hg8 => ?_) (fun hg8 => ?_))))
 refine ob_i (vInt_add (by omega) (by omega)) (ob_i (vInt_add (by omega) (by omega)) ?_)
 have eS := cntE_take (v := v) (l := l) (i := i) (by omega)
 rw [if_pos hg8] at eS
 exact nxt (l.length - (i + 1)) (by omega) ⟨i + 1, rfl, by omega, g1L6, (congrArg (Value.int .i64) (by first | omega | rfl | (simp; done))), g9L6, g10L6, (congrArg (Value.int .i64) (by first | omega | rfl | (simp; done))), op1, lE⟩
 refine ob_i (vInt_add (by omega) (by omega)) ?_
 have eS := cntE_take (v := v) (l := l) (i := i) (by omega)
 rw [if_neg hg8] at eS
 exact nxt (l.length - (i + 1)) (by omega) ⟨i + 1, rfl, by omega, g1L6, (g5L6.trans (congrArg (Value.int .i64) (by first | omega | rfl | (simp; done)))), g9L6, g10L6, (congrArg (Value.int .i64) (by first | omega | rfl | (simp; done))), op1, lE⟩
 have ti := hg7
 rw [List.take_of_length_le (by omega)] at *
 exact hJ5 _ _ ⟨(g5L6.trans (congrArg (Value.int .i64) (by first | omega | rfl | (simp; done)))), op1, lE⟩

theorem C.c59 {vb vs : Value} {st : Int} {rnd : Bool} {b : List Int} {s : List Int}  {H : Hp} {K : Value → Hp → Prop} (hvb0 : Sl eI H vb b) (hvs0 : Sl eI H vs s) (hvc0 : Sl eI H vc l) (kb : b.length ≤ 9223372036854775807) (ks : s.length ≤ 9223372036854775807) (k1 : l.length ≤ 9223372036854775807)
    (hk : ∀ u1 H', Own eI H' u1 (selL (runP b s r c l st) (caL rnd b s r c l st.toNat)) → Nw H u1 → Le H H' → K (.tuple #[u1, (.bool (decide (runP b s r c l st)))]) H') : HT prg 16 [(.agg #[vb, vs]), (.agg #[(.int .i64 (r)), (.int .i64 (c)), vc]), (.bool (rnd)), (.int .i64 (st))].toArray H K := by
 have lE := Le.refl H
 refine R.q16 ?_
 unfold F.q16
 refine nw_i (fun p1 H2 op1 nn3 le4 => ?_)
 have np1 := nn3.le lE
 replace op1 : Cel H2 p1 [vb, vs] := op1
 refine nw_i (fun q H5 oq nn6 le7 => ?_)
 have ap1Xq := op1.apart nn6
 replace lE := lE.trans le4
 have nq := nn6.le lE
 replace oq : Cel H5 q [(.int .i64 (r)), (.int .i64 (c)), vc] := oq
 replace op1 := op1.le le7
 refine ob_i (op1.ldn rfl) (ob_i (oq.ldn rfl) (bSE_one (enc := encFv) (x := (⟨r, c, vc⟩ : Fv)) rfl rfl (by omega) (by omega) rfl (fun u8 H9 ou8 nn10 le12 => ?_) rfl))
 have aqXu8 := oq.apart nn10
 replace lE := lE.trans le7
 have nu8 := nn10.le lE
 replace lE := lE.trans le12
 refine C.c41 (hvb0.le lE) (hvs0.le lE) (hvc0.le lE) (ou8.sl encFv_n) (by first | omega | assumption) (by first | omega | assumption) (by first | omega | assumption) (fun   H13    le14 => ?_)
 refine ob_nd (fun hc15 => ?_) (fun hc15 => ?_)
 have hf := hc15.2
 have l1 := fieldN_len hf
 have hs := hf.1
 have hl := hf.2.1
 have q1 := hs.1
 have q2 := hs.2
 have qm := sidesF_mul hs
 refine gop_rf (gop_rf (C.c1  ?_))
 refine gop_rf (ob_nd (fun hc16 => ?_) (fun hc16 => ?_))
 refine ob_i (vPick_f _ _) (cnd_f1 ?_)
 replace oq := (oq.le le12).le le14
 refine ob_i (oq.ldn rfl) ?_
 replace lE := lE.trans le14
 refine C.c58 (hvc0.le lE) (by first | omega | assumption) (fun   H17    le18 => ?_)
 refine bS_i (enc := eI) (l := [cntE 1 l]) (by omega) rfl (by kernel_rfl) (fun u19 H20 ou19 nn21 le23 => ?_)
 replace op1 := ((op1.le le12).le le14).le le18
 have ap1Xu19 := op1.apart nn21
 replace oq := oq.le le18
 have aqXu19 := oq.apart nn21
 replace ou8 := (ou8.le le14).le le18
 have au8Xu19 := ou8.apart nn21
 replace lE := lE.trans le18
 have nu19 := nn21.le lE
 refine jn_i (fun σ' H' => ∃ u, ∃ v, σ' 10 = v ∧ Cel H' p1 [vb, vs] ∧ Cel H' q [(.int .i64 (r)), (.int .i64 (c)), u] ∧ OwnE 3 encFv H' u8 ([⟨r, c, vc⟩]) ∧ Ro eI H' u (rnL rnd b s r c l st.toNat) ∧ Own eI H' v (caL rnd b s r c l st.toNat) ∧ Apart p1 u ∧ Apart q u ∧ Apart u8 u ∧ Nw H v ∧ Apart p1 v ∧ Apart q v ∧ Apart u8 v ∧ Apart u v ∧ Le H H') (fun σ24 H24 hP => ?_) (fun J24 hJ24 => ?_)
 replace op1 := op1.le le23
 replace oq := oq.le le23
 replace ou8 := ou8.le le23
 replace lE := lE.trans le23
 obtain ⟨u, v, g10L24, op1, oq, ou8, ou, ov, ap1Xu, aqXu, au8Xu, nv, ap1Xv, aqXv, au8Xv, auXv, lE⟩ := hP
 try simp only [g10L24]
 have hok : runP b s r c l st := by first | assumption | exact ⟨by assumption, by assumption⟩ | exact ⟨by assumption, by omega⟩
 exact keq (K := K) (by rw [decide_eq_true (show (runP b s r c l st) from by exact hok)]) (hk  v _ (Own.cast (show caL rnd b s r c l st.toNat = selL (runP b s r c l st) (caL rnd b s r c l st.toNat) by exact (selL_t hok).symm) ov) nv  lE)
 replace op1 := op1.le le23
 replace oq := oq.le le23
 replace ou8 := ou8.le le23
 replace lE := lE.trans le23
 refine ⟨fun n' σ' H' => ∃ i : Nat, n' = st.toNat - i ∧ i ≤ st.toNat ∧ ∃ u, ∃ v, σ' 2 = (.bool (rnd)) ∧ σ' 4 = p1 ∧ σ' 5 = q ∧ σ' 10 = v ∧ σ' 24 = (.int .i64 (st)) ∧ σ' 25 = (.int .i64 ((i : Int))) ∧ Cel H' p1 [vb, vs] ∧ Cel H' q [(.int .i64 (r)), (.int .i64 (c)), u] ∧ OwnE 3 encFv H' u8 ([⟨r, c, vc⟩]) ∧ Ro eI H' u (rnL rnd b s r c l i) ∧ Own eI H' v (caL rnd b s r c l i) ∧ Apart p1 u ∧ Apart q u ∧ Apart u8 u ∧ Nw H v ∧ Apart p1 v ∧ Apart q v ∧ Apart u8 v ∧ Apart u v ∧ Le H H',
    ⟨_, 0, rfl, by omega, vc, u19, rfl, rfl, rfl, rfl, rfl, (congrArg (Value.int .i64) (by first | omega | rfl | (simp; done))), op1, oq, ou8, (Ro.cast (by first | rfl | (simp; done)) (Ro.of_sl (hvc0.le lE) (by omega))), (Own.cast (by first | rfl | (simp; done)) ou19), ((Ro.of_sl hvc0 (by omega)).apart np1).symm, ((Ro.of_sl hvc0 (by omega)).apart nq).symm, ((Ro.of_sl hvc0 (by omega)).apart nu8).symm, nu19, ap1Xu19, aqXu19, au8Xu19, ((Ro.of_sl hvc0 (by omega)).apart nu19), lE⟩, ?_⟩
 rintro n25 σ25 H25 ⟨i, rfl, hiN, u, v, g2L25, g4L25, g5L25, g10L25, g24L25, g25L25, op1, oq, ou8, ou, ov, ap1Xu, aqXu, au8Xu, nv, ap1Xv, aqXv, au8Xv, auXv, lE⟩
 try simp only [g2L25, g4L25, g5L25, g10L25, g24L25, g25L25]
 have hfi : fieldN 1 r c (rnL rnd b s r c l i) := rnL_field hf i
 have hli := fieldN_len hfi
 have hfn : fieldN 1 r c (nxL rnd b s r c (rnL rnd b s r c l i)) := nxL_field hf.1
 have hln := fieldN_len hfn
 have hci := caL_len rnd b s r c l i
 refine ob_i (vInt_lss _ _ _) (cnd_d (fun hg26 => ?_) (fun hg26 => ?_))
 have ti := hg26
 refine ob_i (op1.ldn rfl) (ob_i (oq.ldn rfl) (C.c53 (hvb0.le lE) (hvs0.le lE) ou.sl (by first | omega | assumption) (by first | omega | assumption) (by first | omega | assumption) (fun  u29 H27 ou29 nn30  le28 => ?_)))
 have ap1Xu29 := op1.apart nn30
 have aqXu29 := oq.apart nn30
 have au8Xu29 := ou8.apart nn30
 have avXu29 := ov.apart nn30
 replace oq := oq.le le28
 refine oq.stn (ws := [(.int .i64 (r)), (.int .i64 (c)), u29]) rfl rfl (oc1 rfl (oc1 rfl (oc1 ou29.one oc0))) (fun H31 oq off32 => ?_)
 refine ob_i (oq.ldn rfl) ?_
 replace ou29 := ou29.off off32 aqXu29.symm
 refine C.c58 ou29.sl (by first | omega | assumption) (fun   H33    le34 => ?_)
 refine bS_i (enc := eI) (l := [cntE 1 (nxL rnd b s r c (rnL rnd b s r c l i))]) (by omega) rfl (by kernel_rfl) (fun u35 H36 ou35 nn37 le39 => ?_)
 replace ov := (((ov.le le28).off off32 aqXv.symm).le le34).le le39
 refine apd_any ov ou35.sl (fun _ => rfl) (by omega) (by first | omega | (simp only [List.length_cons, List.length_nil, List.length_append, List.length_replicate, List.length_map, List.length_range]; omega)) (fun u43 H40 ou43 off41 hb42 => ?_)
 replace op1 := (((op1.le le28).off off32 ap1Xq).le le34).le le39
 have ap1Xu43 := Apart.ap2 op1.known ap1Xv hb42
 replace oq := (oq.le le34).le le39
 have aqXu43 := Apart.ap2 oq.known aqXv hb42
 replace ou8 := (((ou8.le le28).off off32 aqXu8.symm).le le34).le le39
 have au8Xu43 := Apart.ap2 ou8.known au8Xv hb42
 replace ou29 := (ou29.le le34).le le39
 have au29Xu43 := Apart.ap2 ou29.known avXu29.symm hb42
 replace lE := ((off32.le (lE.trans le28) nq).trans le34).trans le39
 have nu43 : Nw H u43 := Nw.ap2 nv lE hb42
 refine ob_i (vInt_add (by omega) (by omega)) ?_
 replace op1 := op1.off off41 ap1Xv
 replace oq := oq.off off41 aqXv
 replace ou8 := ou8.off off41 au8Xv
 replace ou29 := ou29.off off41 avXu29.symm
 replace lE := off41.le lE nv
 exact nxt (st.toNat - (i + 1)) (by omega) ⟨i + 1, rfl, by omega, u29, u43, g2L25, g4L25, g5L25, rfl, g24L25, (congrArg (Value.int .i64) (by first | omega | rfl | (simp; done))), op1, oq, ou8, ou29.ro, (by rw [← caL_succ]; exact ou43), ap1Xu29, aqXu29, au8Xu29, nu43, ap1Xu43, aqXu43, au8Xu43, au29Xu43, lE⟩
 have ti := hg26
 rw [show i = st.toNat by omega] at ov ou
 exact hJ24 _ _ ⟨u, v, g10L25, op1, oq, ou8, ou, ov, ap1Xu, aqXu, au8Xu, nv, ap1Xv, aqXv, au8Xv, auXv, lE⟩
 refine ob_i (vPick_f _ _) (cnd_t1 ?_)
 have hok : ¬ (runP b s r c l st) := by intro h; first | exact absurd h.1 (by assumption) | exact absurd h.2 (by assumption) | (have := h.2; omega)
 replace lE := lE.trans le14
 exact keq (K := K) (by rw [decide_eq_false (show ¬ (runP b s r c l st) from by exact hok)]) (hk  (.slice none 0 0) _ (Own.cast (show [] = selL (runP b s r c l st) (caL rnd b s r c l st.toNat) by exact (selL_f hok).symm) (Own.nil_of none)) (fun b hb => by simp [bk] at hb)  lE)
 refine gop_st (gop_st (gop_st (ob_i (vPick_t _ _) (cnd_t1 ?_))))
 have hok : ¬ (runP b s r c l st) := by intro h; first | exact absurd h.1 (by assumption) | exact absurd h.2 (by assumption) | (have := h.2; omega)
 replace lE := lE.trans le14
 exact keq (K := K) (by rw [decide_eq_false (show ¬ (runP b s r c l st) from by exact hok)]) (hk  (.slice none 0 0) _ (Own.cast (show [] = selL (runP b s r c l st) (caL rnd b s r c l st.toNat) by exact (selL_f hok).symm) (Own.nil_of none)) (fun b hb => by simp [bk] at hb)  lE)

theorem C.c60 {vd : Value} {r2 c2 : Int} {m : List Int}  {H : Hp} {K : Value → Hp → Prop} (hvc0 : Sl eI H vc l) (hvd0 : Sl eI H vd m) (k1 : l.length ≤ 9223372036854775807)
    (hk : ∀ H', Le H H' → K (.bool (decide (r = r2 ∧ c = c2 ∧ l = m))) H') : HT prg 58 [(.agg #[(.int .i64 (r)), (.int .i64 (c)), vc]), (.agg #[(.int .i64 (r2)), (.int .i64 (c2)), vd])].toArray H K := by
 have lE := Le.refl H
 refine R.q58 ?_
 unfold F.q58
 refine nw_i (fun p1 H2 op1 nn3 le4 => ?_)
 replace op1 : Cel H2 p1 [(.int .i64 (r)), (.int .i64 (c)), vc] := op1
 refine nw_i (fun p5 H6 op5 nn7 le8 => ?_)
 replace op5 : Cel H6 p5 [(.int .i64 (r2)), (.int .i64 (c2)), vd] := op5
 replace op1 := op1.le le8
 refine ob_i (op1.fa 0) (ob_i (op1.ld 0 rfl) (ob_i (op5.fa 0) (ob_i (op5.ld 0 rfl) (ob_i (vInt_eql _ _ _) ?_))))
 by_cases hc9 : r = r2
 refine gT hc9 (ob_i (op1.fa 1) (gT hc9 (ob_i (op1.ld 1 rfl) (gT hc9 (ob_i (op5.fa 1) (gT hc9 (ob_i (op5.ld 1 rfl) (gT hc9 (ob_i (vInt_eql _ _ _) ?_)))))))))
 refine ob_i (vPick_et (decide_eq_true hc9) _ _) ?_
 by_cases hc10 : c = c2
 refine gT hc10 (ob_i (op1.fa 2) (gT hc10 (ob_i (op1.ld 2 rfl) (gT hc10 (ob_i (op5.fa 2) (gT hc10 (ob_i (op5.ld 2 rfl) (gT hc10 ?_))))))))
 replace lE := (lE.trans le4).trans le8
 refine C.c35 (hvc0.le lE) (hvd0.le lE) (by first | omega | assumption) ?_
 exact ob_i (vPick_et (decide_eq_true hc10) _ _) (keq (K := K) (by rw [show decide (l = m) = decide (r = r2 ∧ c = c2 ∧ l = m) from decide_eq_decide.mpr (by exact ⟨fun h => ⟨by assumption, by assumption, h⟩, fun h => h.2.2⟩)]) (hk   _    lE))
 refine hF hc10 (hF hc10 (hF hc10 (hF hc10 (hF hc10 (ob_i (vPick_ef (decide_eq_false hc10) _ _) ?_)))))
 replace lE := (lE.trans le4).trans le8
 exact keq (K := K) (by rw [decide_eq_false (show ¬ (r = r2 ∧ c = c2 ∧ l = m) from by intro h; have h1 := h.1; have h2 := h.2.1; first | contradiction | omega)]) (hk   _    lE)
 refine hF hc9 (hF hc9 (hF hc9 (hF hc9 (hF hc9 (ob_i (vPick_ef (decide_eq_false hc9) _ _) (gop_sf (gop_sf (gop_sf (gop_sf ?_)))))))))
 refine gop_sf (ob_i (vPick_f _ _) ?_)
 replace lE := (lE.trans le4).trans le8
 exact keq (K := K) (by rw [decide_eq_false (show ¬ (r = r2 ∧ c = c2 ∧ l = m) from by intro h; have h1 := h.1; have h2 := h.2.1; first | contradiction | omega)]) (hk   _    lE)

end Go.Proofs.YtnijdhlmimemcaaGreatDoor
/- What comes again: the first time that something is there a second time. -/
namespace Go.Proofs.YtnijdhlmimemcaaGreatDoor
open HL
variable {n i k : Nat} {r c : Int}
set_option maxRecDepth 100000
/-- The first number, from one on, that has something. -/
def frst (p : Nat → Bool) : Nat → Nat → Nat
  | a, 0 => a
  | a, f + 1 => if p a = true then a else frst p (a + 1) f
theorem frst_at {p : Nat → Bool} : ∀ {f a m : Nat}, (∀ j, a ≤ j → j < m → p j = false) → p m = true → a ≤ m → m ≤ a + f → frst p a f = m
  | 0, a, m, _, _, h1, h2 => by unfold frst; omega
  | f + 1, a, m, h, hp, h1, h2 => by
    unfold frst
    by_cases e : a = m
    · subst e; rw [if_pos hp]
    · rw [if_neg (by rw [h a (by omega) (by omega)]; simp)]
      exact frst_at (fun j hj hm => h j (by omega) hm) hp (by omega) (by omega)
section
variable {G : Nat → List Int} {k i : Nat}
/-- Something alike was there before. -/
def dupP (G : Nat → List Int) (k : Nat) : Prop := ∃ i, i < k ∧ G i = G k
instance (G : Nat → List Int) (k : Nat) : Decidable (dupP G k) := by unfold dupP; infer_instance
def fsI (G : Nat → List Int) (k : Nat) : Nat := frst (fun i => decide (G i = G k)) 0 k
def ftK (G : Nat → List Int) (n : Nat) : Nat := frst (fun k => decide (dupP G k)) 0 n
def perP (G : Nat → List Int) (n : Nat) : Prop := ∃ k, k ≤ n ∧ dupP G k
instance (G : Nat → List Int) (n : Nat) : Decidable (perP G n) := decidable_of_iff (∃ k, k < n + 1 ∧ dupP G k) ⟨fun ⟨k, h1, h2⟩ => ⟨k, by omega, h2⟩, fun ⟨k, h1, h2⟩ => ⟨k, by omega, h2⟩⟩
theorem per_at (hd : ∀ j, j < k → ¬ dupP G j) (hi : i < k) (he : G i = G k) (hf : ∀ j, j < i → G j ≠ G k) (hn : k ≤ n) : perP G n ∧ ftK G n = k ∧ fsI G (ftK G n) = i := by
  have h1 : ftK G n = k := frst_at (fun j _ hj => decide_eq_false (hd j hj)) (decide_eq_true ⟨i, hi, he⟩) (Nat.zero_le _) (by omega)
  refine ⟨⟨k, hn, i, hi, he⟩, h1, ?_⟩
  rw [h1]
  exact frst_at (fun j _ hj => decide_eq_false (hf j hj)) (decide_eq_true he) (Nat.zero_le _) (by omega)
theorem per_no (hd : ∀ j, j ≤ n → ¬ dupP G j) : ¬ perP G n := fun ⟨k, h1, h2⟩ => hd k h1 h2
theorem dup_no (h : ∀ j, j < k → G j ≠ G k) : ¬ dupP G k := fun ⟨i, h1, h2⟩ => h i h1 h2
/-- The fields so far. -/
def famG (r c : Int) (G : Nat → List Int) (n : Nat) : List FdL := (List.range n).map fun i => ⟨r, c, G i⟩
theorem famG_len : (famG r c G n).length = n := by simp [famG]
theorem famG_at {i : Int} (h0 : 0 ≤ i) (h : i < n) : at_ fd0 (famG r c G n) i = ⟨r, c, G i.toNat⟩ := by
  obtain ⟨m, rfl⟩ := Int.eq_ofNat_of_zero_le h0
  rw [at_eq fd0 _ (by rw [famG_len]; omega)]
  simp [famG]
theorem famG_succ : famG r c G n ++ [⟨r, c, G n⟩] = famG r c G (n + 1) := by simp [famG, List.range_succ]
/-- The keys so far. -/
def mapG (G : Nat → List Int) (n : Nat) : List (ByteArray × Int) := (List.range n).map fun i => (bytesS .empty (G i), (i : Int))
theorem mapG_succ : mapG G n ++ [(bytesS .empty (G n), (n : Int))] = mapG G (n + 1) := by simp [mapG, List.range_succ]
theorem mget_skip {x : ByteArray} : ∀ {ms ns : List (ByteArray × Int)}, (∀ m ∈ ms, x ≠ m.1) → mget x (ms ++ ns) = mget x ns
  | [], _, _ => rfl
  | m :: ms, ns, h => by
    show (bif x == m.1 then some m.2 else mget x (ms ++ ns)) = _
    rw [beq_bytes, decide_eq_false (h m (by simp)), cond_false]
    exact mget_skip (fun y hy => h y (by simp [hy]))
theorem range_split (h : i < n) : List.range n = List.range i ++ i :: (List.range (n - i - 1)).map (fun j => i + 1 + j) := by
  apply List.ext_getElem
  · simp; omega
  · intro j h1 h2
    simp only [List.length_range] at h1
    rw [List.getElem_range]
    by_cases g : j < i
    · rw [List.getElem_append_left (by simpa using g)]; simp
    · rw [List.getElem_append_right (by simpa using g)]
      simp only [List.length_range]
      by_cases e : j = i
      · subst e; simp
      · obtain ⟨d, rfl⟩ : ∃ d, j = i + 1 + d := ⟨j - i - 1, by omega⟩
        have e2 : i + 1 + d - i = d + 1 := by omega
        simp only [e2, List.getElem_cons_succ, List.getElem_map, List.getElem_range]
theorem mget_at (hb : ∀ j, ∀ x ∈ G j, 0 ≤ x ∧ x ≤ 255) (hi : i < n) (he : G i = G k) (hf : ∀ j, j < i → G j ≠ G k) : mget (bytesS .empty (G k)) (mapG G n) = some (i : Int) := by
  unfold mapG
  rw [range_split hi, List.map_append, List.map_cons, mget_skip (fun m hm => by
    simp only [List.mem_map, List.mem_range] at hm
    obtain ⟨j, hj, rfl⟩ := hm
    intro h
    exact hf j hj (bytesS_inj (hb k) (hb j) h).symm)]
  show (bif bytesS .empty (G k) == bytesS .empty (G i) then some (i : Int) else _) = _
  rw [he, beq_bytes, decide_eq_true rfl, cond_true]
theorem mget_none (hb : ∀ j, ∀ x ∈ G j, 0 ≤ x ∧ x ≤ 255) (hf : ∀ j, j < n → G j ≠ G k) : mget (bytesS .empty (G k)) (mapG G n) = none := by
  have := mget_skip (x := bytesS .empty (G k)) (ms := mapG G n) (ns := []) (fun m hm => by
    simp only [mapG, List.mem_map, List.mem_range] at hm
    obtain ⟨j, hj, rfl⟩ := hm
    intro h
    exact hf j hj (bytesS_inj (hb k) (hb j) h).symm)
  rw [List.append_nil] at this
  exact this
theorem mget_some (hb : ∀ j, ∀ x ∈ G j, 0 ≤ x ∧ x ≤ 255) (h : (mget (bytesS .empty (G k)) (mapG G n)).isSome = true) : ∃ i, i < n ∧ G i = G k ∧ (∀ j, j < i → G j ≠ G k) ∧ (mget (bytesS .empty (G k)) (mapG G n)).getD 0 = (i : Int) := by
  by_cases hd : ∃ i, i < n ∧ G i = G k
  · have key : ∀ m, m ≤ n → (∀ j, j < m → G j ≠ G k) ∨ ∃ i, i < m ∧ G i = G k ∧ ∀ j, j < i → G j ≠ G k := by
      intro m
      induction m with
      | zero => intro _; exact .inl (fun j hj => by omega)
      | succ m ih =>
        intro hm
        rcases ih (by omega) with h1 | ⟨i, h1, h2, h3⟩
        · by_cases e : G m = G k
          · exact .inr ⟨m, by omega, e, h1⟩
          · exact .inl (fun j hj => by
              by_cases ej : j = m
              · subst ej; exact e
              · exact h1 j (by omega))
        · exact .inr ⟨i, by omega, h2, h3⟩
    rcases key n (Nat.le_refl _) with h1 | ⟨i, h1, h2, h3⟩
    · obtain ⟨i, h2, h3⟩ := hd
      exact absurd h3 (h1 i h2)
    · exact ⟨i, h1, h2, h3, by rw [mget_at hb h1 h2 h3]; rfl⟩
  · rw [mget_none hb (fun j hj e => hd ⟨j, hj, e⟩)] at h
    simp at h
theorem mget_not (hb : ∀ j, ∀ x ∈ G j, 0 ≤ x ∧ x ≤ 255) (h : (mget (bytesS .empty (G k)) (mapG G n)).isSome = false) : (∀ j, j < n → G j ≠ G k) ∧ mget (bytesS .empty (G k)) (mapG G n) = none := by
  have h2 : mget (bytesS .empty (G k)) (mapG G n) = none := by
    cases hm : mget (bytesS .empty (G k)) (mapG G n) with
    | none => rfl
    | some x => rw [hm] at h; simp at h
  refine ⟨fun j hj e => ?_, h2⟩
  have key : ∀ m, m ≤ j → (∀ i, i < m → G i ≠ G k) ∨ ∃ i, i < n ∧ G i = G k ∧ ∀ l, l < i → G l ≠ G k := by
    intro m
    induction m with
    | zero => intro _; exact .inl (fun i hi => by omega)
    | succ m ih =>
      intro hm
      rcases ih (by omega) with h1 | h1
      · by_cases e : G m = G k
        · exact .inr ⟨m, by omega, e, h1⟩
        · exact .inl (fun i hi => by
            by_cases ei : i = m
            · subst ei; exact e
            · exact h1 i (by omega))
      · exact .inr h1
  rcases key j (Nat.le_refl _) with h1 | ⟨i, h1, h3, h4⟩
  · rw [mget_at hb hj e h1] at h2; simp at h2
  · rw [mget_at hb h1 h3 h4] at h2; simp at h2
end
end Go.Proofs.YtnijdhlmimemcaaGreatDoor
/- Fates: what comes again. -/
namespace Go.Proofs.YtnijdhlmimemcaaGreatDoor
open HL
variable {p vc w vb vs : Value} {k : Nat} {r c n : Int} {rnd : Bool} {l b s : List Int}
set_option maxRecDepth 100000
theorem C.c61 {i k : Int}  {H : Hp} {K : Value → Hp → Prop} (hp0 : CelR H p [(.int .i64 (r)), (.int .i64 (c)), vc]) (hvc0 : Sl eI H vc l) (hf : fieldN 1 r c l) (i0 : 0 ≤ i) (i1 : i < r) (j0 : 0 ≤ k) (j1 : k < c)
    (hk : ∀ H', Le H H' → K (.int .i64 (arF rnd r c l i k)) H') : HT prg 82 [p, (.int .i64 (i)), (.int .i64 (k)), (.bool (rnd))].toArray H K := by
 have lE := Le.refl H
 refine R.q82 ?_
 unfold F.q82
 have hs := hf.1
 have hl := hf.2.1
 have q1 := hs.1
 have q2 := hs.2
 have qm := sidesF_mul hs
 refine jn_i (fun σ' H' => σ' 9 = (.int .i64 (sumF (fun a => sumF (fun b => skF rnd r c l i k (i - 1 + a) (k - 1 + b)) 3) 3)) ∧ Le H H') (fun σ1 H1 hP => ?_) (fun J1 hJ1 => ?_)
 obtain ⟨g9L1, lE⟩ := hP
 try simp only [g9L1]
 exact keq (K := K) (by rw [show ((sumF (fun a => sumF (fun b => skF rnd r c l i k (i - 1 + a) (k - 1 + b)) 3) 3) : Int) = (arF rnd r c l i k) from by rfl]) (hk   _    lE)
 refine ob_i (vInt_sub (by omega) (by omega)) ?_
 refine ⟨fun n' σ' H' => ∃ t : Nat, n' = 3 - t ∧ t ≤ 3 ∧ σ' 0 = p ∧ σ' 1 = (.int .i64 (i)) ∧ σ' 2 = (.int .i64 (k)) ∧ σ' 3 = (.bool (rnd)) ∧ σ' 9 = (.int .i64 (sumF (fun a => sumF (fun b => skF rnd r c l i k (i - 1 + a) (k - 1 + b)) 3) t)) ∧ σ' 10 = (.int .i64 (i - 1 + (t : Int))) ∧ Le H H',
    ⟨_, 0, rfl, by omega, rfl, rfl, rfl, rfl, (congrArg (Value.int .i64) (by first | omega | rfl | (simp; done))), (congrArg (Value.int .i64) (by first | omega | rfl | (simp; done))), lE⟩, ?_⟩
 rintro n2 σ2 H2 ⟨t, rfl, htN, g0L2, g1L2, g2L2, g3L2, g9L2, g10L2, lE⟩
 try simp only [g0L2, g1L2, g2L2, g3L2, g9L2, g10L2]
 have bO := sumF_bnd (f := fun a => sumF (fun b => skF rnd r c l i k (i - 1 + a) (k - 1 + b)) 3) (a := 0) (b := 3) (fun a => by have := sumF_bnd (f := fun b => skF rnd r c l i k (i - 1 + a) (k - 1 + b)) (fun b => skF_01 hf i k _ _) 3; omega) t
 have zI := sumF_zero (fun b => skF rnd r c l i k (i - 1 + (t : Int)) (k - 1 + b))
 refine ob_i (vInt_add (by omega) (by omega)) (ob_i (vInt_leq _ _ _) (cnd_d (fun hg3 => ?_) (fun hg3 => ?_)))
 have tt := hg3
 refine jn_i (fun σ' H' => σ' 0 = p ∧ σ' 1 = (.int .i64 (i)) ∧ σ' 2 = (.int .i64 (k)) ∧ σ' 3 = (.bool (rnd)) ∧ σ' 9 = (.int .i64 (sumF (fun a => sumF (fun b => skF rnd r c l i k (i - 1 + a) (k - 1 + b)) 3) (t + 1))) ∧ σ' 10 = (.int .i64 (i - 1 + (t : Int))) ∧ Le H H') (fun σ4 H4 hP => ?_) (fun J4 hJ4 => ?_)
 obtain ⟨g0L4, g1L4, g2L4, g3L4, g9L4, g10L4, lE⟩ := hP
 try simp only [g10L4]
 refine ob_i (vInt_add (by omega) (by omega)) ?_
 exact nxt (3 - (t + 1)) (by omega) ⟨t + 1, rfl, by omega, g0L4, g1L4, g2L4, g3L4, (g9L4.trans (congrArg (Value.int .i64) (by first | omega | rfl | (simp; done)))), (congrArg (Value.int .i64) (by first | omega | rfl | (simp; done))), lE⟩
 refine ob_i (vInt_sub (by omega) (by omega)) ?_
 refine ⟨fun n' σ' H' => ∃ u : Nat, n' = 3 - u ∧ u ≤ 3 ∧ σ' 0 = p ∧ σ' 1 = (.int .i64 (i)) ∧ σ' 2 = (.int .i64 (k)) ∧ σ' 3 = (.bool (rnd)) ∧ σ' 9 = (.int .i64 (sumF (fun a => sumF (fun b => skF rnd r c l i k (i - 1 + a) (k - 1 + b)) 3) t + sumF (fun b => skF rnd r c l i k (i - 1 + (t : Int)) (k - 1 + b)) u)) ∧ σ' 10 = (.int .i64 (i - 1 + (t : Int))) ∧ σ' 11 = (.int .i64 (k - 1 + (u : Int))) ∧ Le H H',
    ⟨_, 0, rfl, by omega, g0L2, g1L2, g2L2, g3L2, (g9L2.trans (congrArg (Value.int .i64) (by first | omega | rfl | (simp; done)))), g10L2, (congrArg (Value.int .i64) (by first | omega | rfl | (simp; done))), lE⟩, ?_⟩
 rintro n5 σ5 H5 ⟨u, rfl, huN, g0L5, g1L5, g2L5, g3L5, g9L5, g10L5, g11L5, lE⟩
 try simp only [g0L5, g1L5, g2L5, g3L5, g9L5, g10L5, g11L5]
 have bI := sumF_bnd (f := fun b => skF rnd r c l i k (i - 1 + (t : Int)) (k - 1 + b)) (fun b => skF_01 hf i k _ _) u
 have bR := roundF_lt (i := i - 1 + (t : Int)) (k := k - 1 + (u : Int)) hs
 have bV := fieldN_at hf (i := roundF r c (i - 1 + (t : Int)) (k - 1 + (u : Int))) (by omega) (by omega)
 refine ob_i (vInt_add (by omega) (by omega)) (ob_i (vInt_leq _ _ _) (cnd_d (fun hg6 => ?_) (fun hg6 => ?_)))
 have tu := hg6
 refine ob_i (vInt_eql _ _ _) ?_
 by_cases hc7 : (i - 1 + (t : Int)) = i
 refine gT hc7 (gT hc7 (gT hc7 (ob_i (vInt_eql _ _ _) (ob_i (vPick_et (decide_eq_true hc7) _ _) (cnd_d (fun hg8 => ?_) (fun hg8 => ?_))))))
 refine ob_i (vInt_add (by omega) (by omega)) ?_
 have e3 : skF rnd r c l i k (i - 1 + (t : Int)) (k - 1 + (u : Int)) = 0 := by rw [skF_eq]; first | rw [if_pos (by omega)] | (rw [if_neg (by omega)]; first | rw [if_pos (by first | (left; assumption) | (right; omega))] | rw [if_neg (by rintro (h | h) <;> first | omega | exact absurd h (by assumption))])
 have eS : sumF (fun b => skF rnd r c l i k (i - 1 + (t : Int)) (k - 1 + b)) (u + 1) = sumF (fun b => skF rnd r c l i k (i - 1 + (t : Int)) (k - 1 + b)) u + skF rnd r c l i k (i - 1 + (t : Int)) (k - 1 + (u : Int)) := rfl
 exact nxt (3 - (u + 1)) (by omega) ⟨u + 1, rfl, by omega, g0L5, g1L5, g2L5, g3L5, (g9L5.trans (congrArg (Value.int .i64) (by first | omega | rfl | (simp; done)))), g10L5, (congrArg (Value.int .i64) (by first | omega | rfl | (simp; done))), lE⟩
 by_cases hc9 : (rnd) = true
 refine gop_e (hc9) (gop_st (gop_e (hc9) (gop_st (gop_e (hc9) (gop_st (gop_e (hc9) (gop_st (gop_e (hc9) (gop_st ?_)))))))))
 refine gop_e (hc9) (gop_st (gop_e (hc9) (gop_st (gop_e (hc9) (gop_st (gop_u (gop_u (gop_u (gop_u ?_)))))))))
 refine gop_u (gop_u (gop_u (gop_e (hc9) (gop_st (ob_i (vPick_et (hc9) _ _) (cnd_t1 (ob_i ((hp0.le lE).nilC) (ob_i ((hp0.le lE).fa 2) (ob_i ((hp0.le lE).ld 2 rfl) (C.c17 (hp0.le lE) (by first | omega | assumption) ?_))))))))))
 refine ⟨Le.refl _, ?_⟩
 refine ob_i ((hvc0.le lE).ix (by omega) (by omega)) (ob_i ((hvc0.le lE).ld 0 (by omega) (by omega)) (ob_i (vInt_add (by omega) (by omega)) (ob_i (vInt_add (by omega) (by omega)) ?_)))
 have e3 : skF rnd r c l i k (i - 1 + (t : Int)) (k - 1 + (u : Int)) = at_ 0 l (roundF r c (i - 1 + (t : Int)) (k - 1 + (u : Int))) := by rw [skF_eq]; first | rw [if_pos (by omega)] | (rw [if_neg (by omega)]; first | rw [if_pos (by first | (left; assumption) | (right; omega))] | rw [if_neg (by rintro (h | h) <;> first | omega | exact absurd h (by assumption))])
 have eS : sumF (fun b => skF rnd r c l i k (i - 1 + (t : Int)) (k - 1 + b)) (u + 1) = sumF (fun b => skF rnd r c l i k (i - 1 + (t : Int)) (k - 1 + b)) u + skF rnd r c l i k (i - 1 + (t : Int)) (k - 1 + (u : Int)) := rfl
 exact nxt (3 - (u + 1)) (by omega) ⟨u + 1, rfl, by omega, g0L5, g1L5, g2L5, g3L5, (congrArg (Value.int .i64) (by first | omega | rfl | (simp; done))), g10L5, (congrArg (Value.int .i64) (by first | omega | rfl | (simp; done))), lE⟩
 refine gop_e (eq_false_of_ne_true hc9) (gop_rf (gop_e (eq_false_of_ne_true hc9) (gop_rf (gop_e (eq_false_of_ne_true hc9) (gop_rf (ob_i ((hp0.le lE).nilC) (gop_e (eq_false_of_ne_true hc9) (gop_rf (ob_i ((hp0.le lE).fa 0) ?_)))))))))
 refine gop_e (eq_false_of_ne_true hc9) (gop_rf (ob_i ((hp0.le lE).ld 0 rfl) (gop_e (eq_false_of_ne_true hc9) (gop_rf (ob_i (vInt_sub (by omega) (by omega)) (gop_e (eq_false_of_ne_true hc9) (gop_rf (C.c0  ?_))))))))
 refine gop_e (eq_false_of_ne_true hc9) (gop_rf ?_)
 by_cases hc10 : 0 ≤ (i - 1 + (t : Int)) ∧ (i - 1 + (t : Int)) ≤ (r - 1)
 refine gT hc10 (gT hc10 (gT hc10 (ob_i ((hp0.le lE).nilC) (gT hc10 (ob_i ((hp0.le lE).fa 1) (gT hc10 (ob_i ((hp0.le lE).ld 1 rfl) (gT hc10 (ob_i (vInt_sub (by omega) (by omega)) ?_)))))))))
 refine gT hc10 (C.c0  ?_)
 refine gop_e (eq_false_of_ne_true hc9) (gop_rf (ob_i (vPick_et (decide_eq_true hc10) _ _) (ob_i (vPick_ef (eq_false_of_ne_true hc9) _ _) (cnd_d (fun hg11 => ?_) (fun hg11 => ?_)))))
 refine ob_i ((hp0.le lE).nilC) (ob_i ((hp0.le lE).fa 2) (ob_i ((hp0.le lE).ld 2 rfl) (C.c17 (hp0.le lE) (by first | omega | assumption) ?_)))
 refine ⟨Le.refl _, ?_⟩
 refine ob_i ((hvc0.le lE).ix (by omega) (by omega)) (ob_i ((hvc0.le lE).ld 0 (by omega) (by omega)) (ob_i (vInt_add (by omega) (by omega)) (ob_i (vInt_add (by omega) (by omega)) ?_)))
 have e3 : skF rnd r c l i k (i - 1 + (t : Int)) (k - 1 + (u : Int)) = at_ 0 l (roundF r c (i - 1 + (t : Int)) (k - 1 + (u : Int))) := by rw [skF_eq]; first | rw [if_pos (by omega)] | (rw [if_neg (by omega)]; first | rw [if_pos (by first | (left; assumption) | (right; omega))] | rw [if_neg (by rintro (h | h) <;> first | omega | exact absurd h (by assumption))])
 have eS : sumF (fun b => skF rnd r c l i k (i - 1 + (t : Int)) (k - 1 + b)) (u + 1) = sumF (fun b => skF rnd r c l i k (i - 1 + (t : Int)) (k - 1 + b)) u + skF rnd r c l i k (i - 1 + (t : Int)) (k - 1 + (u : Int)) := rfl
 exact nxt (3 - (u + 1)) (by omega) ⟨u + 1, rfl, by omega, g0L5, g1L5, g2L5, g3L5, (congrArg (Value.int .i64) (by first | omega | rfl | (simp; done))), g10L5, (congrArg (Value.int .i64) (by first | omega | rfl | (simp; done))), lE⟩
 refine ob_i (vInt_add (by omega) (by omega)) ?_
 have e3 : skF rnd r c l i k (i - 1 + (t : Int)) (k - 1 + (u : Int)) = 0 := by rw [skF_eq]; first | rw [if_pos (by omega)] | (rw [if_neg (by omega)]; first | rw [if_pos (by first | (left; assumption) | (right; omega))] | rw [if_neg (by rintro (h | h) <;> first | omega | exact absurd h (by assumption))])
 have eS : sumF (fun b => skF rnd r c l i k (i - 1 + (t : Int)) (k - 1 + b)) (u + 1) = sumF (fun b => skF rnd r c l i k (i - 1 + (t : Int)) (k - 1 + b)) u + skF rnd r c l i k (i - 1 + (t : Int)) (k - 1 + (u : Int)) := rfl
 exact nxt (3 - (u + 1)) (by omega) ⟨u + 1, rfl, by omega, g0L5, g1L5, g2L5, g3L5, (g9L5.trans (congrArg (Value.int .i64) (by first | omega | rfl | (simp; done)))), g10L5, (congrArg (Value.int .i64) (by first | omega | rfl | (simp; done))), lE⟩
 refine hF hc10 (hF hc10 (hF hc10 (hF hc10 (hF hc10 (hF hc10 (hF hc10 (gop_e (eq_false_of_ne_true hc9) (gop_rf (ob_i (vPick_ef (decide_eq_false hc10) _ _) ?_)))))))))
 refine ob_i (vPick_ef (eq_false_of_ne_true hc9) _ _) (cnd_f1 (ob_i (vInt_add (by omega) (by omega)) ?_))
 have e3 : skF rnd r c l i k (i - 1 + (t : Int)) (k - 1 + (u : Int)) = 0 := by rw [skF_eq]; first | rw [if_pos (by omega)] | (rw [if_neg (by omega)]; first | rw [if_pos (by first | (left; assumption) | (right; omega))] | rw [if_neg (by rintro (h | h) <;> first | omega | exact absurd h (by assumption))])
 have eS : sumF (fun b => skF rnd r c l i k (i - 1 + (t : Int)) (k - 1 + b)) (u + 1) = sumF (fun b => skF rnd r c l i k (i - 1 + (t : Int)) (k - 1 + b)) u + skF rnd r c l i k (i - 1 + (t : Int)) (k - 1 + (u : Int)) := rfl
 exact nxt (3 - (u + 1)) (by omega) ⟨u + 1, rfl, by omega, g0L5, g1L5, g2L5, g3L5, (g9L5.trans (congrArg (Value.int .i64) (by first | omega | rfl | (simp; done)))), g10L5, (congrArg (Value.int .i64) (by first | omega | rfl | (simp; done))), lE⟩
 refine hF hc7 (hF hc7 (hF hc7 (ob_i (vPick_ef (decide_eq_false hc7) _ _) (cnd_f1 ?_))))
 by_cases hc12 : (rnd) = true
 refine gop_e (hc12) (gop_st (gop_e (hc12) (gop_st (gop_e (hc12) (gop_st (gop_e (hc12) (gop_st (gop_e (hc12) (gop_st ?_)))))))))
 refine gop_e (hc12) (gop_st (gop_e (hc12) (gop_st (gop_e (hc12) (gop_st (gop_u (gop_u (gop_u (gop_u ?_)))))))))
 refine gop_u (gop_u (gop_u (gop_e (hc12) (gop_st (ob_i (vPick_et (hc12) _ _) (cnd_t1 (ob_i ((hp0.le lE).nilC) (ob_i ((hp0.le lE).fa 2) (ob_i ((hp0.le lE).ld 2 rfl) (C.c17 (hp0.le lE) (by first | omega | assumption) ?_))))))))))
 refine ⟨Le.refl _, ?_⟩
 refine ob_i ((hvc0.le lE).ix (by omega) (by omega)) (ob_i ((hvc0.le lE).ld 0 (by omega) (by omega)) (ob_i (vInt_add (by omega) (by omega)) (ob_i (vInt_add (by omega) (by omega)) ?_)))
 have e3 : skF rnd r c l i k (i - 1 + (t : Int)) (k - 1 + (u : Int)) = at_ 0 l (roundF r c (i - 1 + (t : Int)) (k - 1 + (u : Int))) := by rw [skF_eq]; first | rw [if_pos (by omega)] | (rw [if_neg (by omega)]; first | rw [if_pos (by first | (left; assumption) | (right; omega))] | rw [if_neg (by rintro (h | h) <;> first | omega | exact absurd h (by assumption))])
 have eS : sumF (fun b => skF rnd r c l i k (i - 1 + (t : Int)) (k - 1 + b)) (u + 1) = sumF (fun b => skF rnd r c l i k (i - 1 + (t : Int)) (k - 1 + b)) u + skF rnd r c l i k (i - 1 + (t : Int)) (k - 1 + (u : Int)) := rfl
 exact nxt (3 - (u + 1)) (by omega) ⟨u + 1, rfl, by omega, g0L5, g1L5, g2L5, g3L5, (congrArg (Value.int .i64) (by first | omega | rfl | (simp; done))), g10L5, (congrArg (Value.int .i64) (by first | omega | rfl | (simp; done))), lE⟩
 refine gop_e (eq_false_of_ne_true hc12) (gop_rf (gop_e (eq_false_of_ne_true hc12) (gop_rf (gop_e (eq_false_of_ne_true hc12) (gop_rf (ob_i ((hp0.le lE).nilC) (gop_e (eq_false_of_ne_true hc12) (gop_rf (ob_i ((hp0.le lE).fa 0) ?_)))))))))
 refine gop_e (eq_false_of_ne_true hc12) (gop_rf (ob_i ((hp0.le lE).ld 0 rfl) (gop_e (eq_false_of_ne_true hc12) (gop_rf (ob_i (vInt_sub (by omega) (by omega)) (gop_e (eq_false_of_ne_true hc12) (gop_rf (C.c0  ?_))))))))
 refine gop_e (eq_false_of_ne_true hc12) (gop_rf ?_)
 by_cases hc13 : 0 ≤ (i - 1 + (t : Int)) ∧ (i - 1 + (t : Int)) ≤ (r - 1)
 refine gT hc13 (gT hc13 (gT hc13 (ob_i ((hp0.le lE).nilC) (gT hc13 (ob_i ((hp0.le lE).fa 1) (gT hc13 (ob_i ((hp0.le lE).ld 1 rfl) (gT hc13 (ob_i (vInt_sub (by omega) (by omega)) ?_)))))))))
 refine gT hc13 (C.c0  ?_)
 refine gop_e (eq_false_of_ne_true hc12) (gop_rf (ob_i (vPick_et (decide_eq_true hc13) _ _) (ob_i (vPick_ef (eq_false_of_ne_true hc12) _ _) (cnd_d (fun hg14 => ?_) (fun hg14 => ?_)))))
 refine ob_i ((hp0.le lE).nilC) (ob_i ((hp0.le lE).fa 2) (ob_i ((hp0.le lE).ld 2 rfl) (C.c17 (hp0.le lE) (by first | omega | assumption) ?_)))
 refine ⟨Le.refl _, ?_⟩
 refine ob_i ((hvc0.le lE).ix (by omega) (by omega)) (ob_i ((hvc0.le lE).ld 0 (by omega) (by omega)) (ob_i (vInt_add (by omega) (by omega)) (ob_i (vInt_add (by omega) (by omega)) ?_)))
 have e3 : skF rnd r c l i k (i - 1 + (t : Int)) (k - 1 + (u : Int)) = at_ 0 l (roundF r c (i - 1 + (t : Int)) (k - 1 + (u : Int))) := by rw [skF_eq]; first | rw [if_pos (by omega)] | (rw [if_neg (by omega)]; first | rw [if_pos (by first | (left; assumption) | (right; omega))] | rw [if_neg (by rintro (h | h) <;> first | omega | exact absurd h (by assumption))])
 have eS : sumF (fun b => skF rnd r c l i k (i - 1 + (t : Int)) (k - 1 + b)) (u + 1) = sumF (fun b => skF rnd r c l i k (i - 1 + (t : Int)) (k - 1 + b)) u + skF rnd r c l i k (i - 1 + (t : Int)) (k - 1 + (u : Int)) := rfl
 exact nxt (3 - (u + 1)) (by omega) ⟨u + 1, rfl, by omega, g0L5, g1L5, g2L5, g3L5, (congrArg (Value.int .i64) (by first | omega | rfl | (simp; done))), g10L5, (congrArg (Value.int .i64) (by first | omega | rfl | (simp; done))), lE⟩
 refine ob_i (vInt_add (by omega) (by omega)) ?_
 have e3 : skF rnd r c l i k (i - 1 + (t : Int)) (k - 1 + (u : Int)) = 0 := by rw [skF_eq]; first | rw [if_pos (by omega)] | (rw [if_neg (by omega)]; first | rw [if_pos (by first | (left; assumption) | (right; omega))] | rw [if_neg (by rintro (h | h) <;> first | omega | exact absurd h (by assumption))])
 have eS : sumF (fun b => skF rnd r c l i k (i - 1 + (t : Int)) (k - 1 + b)) (u + 1) = sumF (fun b => skF rnd r c l i k (i - 1 + (t : Int)) (k - 1 + b)) u + skF rnd r c l i k (i - 1 + (t : Int)) (k - 1 + (u : Int)) := rfl
 exact nxt (3 - (u + 1)) (by omega) ⟨u + 1, rfl, by omega, g0L5, g1L5, g2L5, g3L5, (g9L5.trans (congrArg (Value.int .i64) (by first | omega | rfl | (simp; done)))), g10L5, (congrArg (Value.int .i64) (by first | omega | rfl | (simp; done))), lE⟩
 refine hF hc13 (hF hc13 (hF hc13 (hF hc13 (hF hc13 (hF hc13 (hF hc13 (gop_e (eq_false_of_ne_true hc12) (gop_rf (ob_i (vPick_ef (decide_eq_false hc13) _ _) ?_)))))))))
 refine ob_i (vPick_ef (eq_false_of_ne_true hc12) _ _) (cnd_f1 (ob_i (vInt_add (by omega) (by omega)) ?_))
 have e3 : skF rnd r c l i k (i - 1 + (t : Int)) (k - 1 + (u : Int)) = 0 := by rw [skF_eq]; first | rw [if_pos (by omega)] | (rw [if_neg (by omega)]; first | rw [if_pos (by first | (left; assumption) | (right; omega))] | rw [if_neg (by rintro (h | h) <;> first | omega | exact absurd h (by assumption))])
 have eS : sumF (fun b => skF rnd r c l i k (i - 1 + (t : Int)) (k - 1 + b)) (u + 1) = sumF (fun b => skF rnd r c l i k (i - 1 + (t : Int)) (k - 1 + b)) u + skF rnd r c l i k (i - 1 + (t : Int)) (k - 1 + (u : Int)) := rfl
 exact nxt (3 - (u + 1)) (by omega) ⟨u + 1, rfl, by omega, g0L5, g1L5, g2L5, g3L5, (g9L5.trans (congrArg (Value.int .i64) (by first | omega | rfl | (simp; done)))), g10L5, (congrArg (Value.int .i64) (by first | omega | rfl | (simp; done))), lE⟩
 have tu := hg6
 obtain rfl : u = 3 := by omega
 exact hJ4 _ _ ⟨g0L5, g1L5, g2L5, g3L5, (g9L5.trans (congrArg (Value.int .i64) (by first | omega | rfl | (simp; done)))), g10L5, lE⟩
 have tt := hg3
 obtain rfl : t = 3 := by omega
 exact hJ1 _ _ ⟨(g9L2.trans (congrArg (Value.int .i64) (by first | omega | rfl | (simp; done)))), lE⟩

theorem C.c62  {H : Hp} {K : Value → Hp → Prop} (hw0 : Cel H w [vb, vs]) (hp0 : CelR H p [(.int .i64 (r)), (.int .i64 (c)), vc]) (hvb0 : Sl eI H vb b) (hvs0 : Sl eI H vs s) (hvc0 : Sl eI H vc l) (hf : fieldN 1 r c l) (kb : b.length ≤ 9223372036854775807) (ks : s.length ≤ 9223372036854775807)
    (hk : ∀ u1 H', Own eI H' u1 (nxL rnd b s r c l) → Nw H u1 → Le H H' → K (.agg #[(.int .i64 (r)), (.int .i64 (c)), u1]) H') : HT prg 47 [w, p, (.bool (rnd))].toArray H K := by
 have lE := Le.refl H
 refine R.q47 ?_
 unfold F.q47
 have hs := hf.1
 have hl := hf.2.1
 have q1 := hs.1
 have q2 := hs.2
 have qm := sidesF_mul hs
 refine nw_i (fun p1 H2 op1 nn3 le4 => ?_)
 have np1 := nn3.le lE
 replace op1 : Cel H2 p1 [(.int .i64 (0)), (.int .i64 (0)), (.slice none 0 0)] := op1
 replace lE := lE.trans le4
 refine ob_i ((hp0.le lE).nilC) (ob_i ((hp0.le lE).fa 0) (ob_i ((hp0.le lE).ld 0 rfl) (ob_i ((hp0.le lE).nilC) (ob_i ((hp0.le lE).fa 1) (ob_i ((hp0.le lE).ld 1 rfl) (C.c23 (by first | omega | assumption) (by first | omega | assumption) (by first | omega | assumption) (by first | omega | assumption) (fun  u H5 ou nn7  le6 => ?_)))))))
 have ap1Xu := op1.apart nn7
 have nu := nn7.le lE
 refine ⟨le6, ?_⟩
 refine nw_i (fun p8 H9 op8 nn10 le11 => ?_)
 replace op1 := op1.le le6
 have ap1Xp8 := op1.apart nn10
 have auXp8 := ou.apart nn10
 replace lE := lE.trans le6
 have np8 := nn10.le lE
 replace ou := ou.le le11
 refine op8.stn (ws := [(.int .i64 (r)), (.int .i64 (c)), u]) rfl rfl (oc1 rfl (oc1 rfl (oc1 ou.one oc0))) (fun H12 op8 off13 => ?_)
 refine jn_i (fun σ' H' => σ' 6 = p1 ∧ σ' 7 = p8 ∧ Cel H' p1 [(.int .i64 (0)), (.int .i64 (0)), (.slice none 0 0)] ∧ Own eI H' u (nxL rnd b s r c l) ∧ Cel H' p8 [(.int .i64 (r)), (.int .i64 (c)), u] ∧ Le H H') (fun σ14 H14 hP => ?_) (fun J14 hJ14 => ?_)
 replace op1 := (op1.le le11).off off13 ap1Xp8
 replace lE := off13.le (lE.trans le11) np8
 replace ou := ou.off off13 auXp8
 obtain ⟨g6L14, g7L14, op1, ou, op8, lE⟩ := hP
 try simp only [g6L14, g7L14]
 refine ob_i (op8.ldn rfl) (op1.stn (ws := [(.int .i64 (r)), (.int .i64 (c)), u]) rfl rfl (oc1 rfl (oc1 rfl (oc1 ou.one oc0))) (fun H15 op1 off16 => ?_))
 refine ob_i (op1.ldn rfl) ?_
 replace ou := ou.off off16 ap1Xu.symm
 replace lE := off16.le lE np1
 exact hk  u _ ou nu  lE
 replace op1 := (op1.le le11).off off13 ap1Xp8
 replace lE := off13.le (lE.trans le11) np8
 replace ou := ou.off off13 auXp8
 refine ⟨fun n' σ' H' => ∃ i : Nat, n' = r.toNat - i ∧ i ≤ r.toNat ∧ σ' 0 = w ∧ σ' 1 = p ∧ σ' 2 = (.bool (rnd)) ∧ σ' 6 = p1 ∧ σ' 7 = p8 ∧ σ' 8 = (.int .i64 ((i : Int))) ∧ Cel H' p1 [(.int .i64 (0)), (.int .i64 (0)), (.slice none 0 0)] ∧ Own eI H' u (fillL c (nxG rnd b s r c l) (r.toNat * c.toNat) (i * c.toNat)) ∧ Cel H' p8 [(.int .i64 (r)), (.int .i64 (c)), u] ∧ Le H H',
    ⟨_, 0, rfl, by omega, rfl, rfl, rfl, rfl, rfl, (congrArg (Value.int .i64) (by first | omega | rfl | (simp; done))), op1, (by rw [Nat.zero_mul, fillL_zero]; exact ou), op8, lE⟩, ?_⟩
 rintro n17 σ17 H17 ⟨i, rfl, hiN, g0L17, g1L17, g2L17, g6L17, g7L17, g8L17, op1, ou, op8, lE⟩
 try simp only [g0L17, g1L17, g2L17, g6L17, g7L17, g8L17]
 refine ob_i ((hp0.le lE).nilC) (ob_i ((hp0.le lE).fa 0) (ob_i ((hp0.le lE).ld 0 rfl) (ob_i (vInt_lss _ _ _) (cnd_d (fun hg18 => ?_) (fun hg18 => ?_)))))
 have ti := hg18
 refine jn_i (fun σ' H' => σ' 0 = w ∧ σ' 1 = p ∧ σ' 2 = (.bool (rnd)) ∧ σ' 6 = p1 ∧ σ' 7 = p8 ∧ σ' 8 = (.int .i64 ((i : Int))) ∧ Cel H' p1 [(.int .i64 (0)), (.int .i64 (0)), (.slice none 0 0)] ∧ Own eI H' u (fillL c (nxG rnd b s r c l) (r.toNat * c.toNat) ((i + 1) * c.toNat)) ∧ Cel H' p8 [(.int .i64 (r)), (.int .i64 (c)), u] ∧ Le H H') (fun σ19 H19 hP => ?_) (fun J19 hJ19 => ?_)
 obtain ⟨g0L19, g1L19, g2L19, g6L19, g7L19, g8L19, op1, ou, op8, lE⟩ := hP
 try simp only [g6L19, g8L19]
 refine ob_i (vInt_add (by omega) (by omega)) ?_
 exact nxt (r.toNat - (i + 1)) (by omega) ⟨i + 1, rfl, by omega, g0L19, g1L19, g2L19, g6L19, g7L19, (congrArg (Value.int .i64) (by first | omega | rfl | (simp; done))), op1, ou, op8, lE⟩
 refine ⟨fun n' σ' H' => ∃ k : Nat, n' = c.toNat - k ∧ k ≤ c.toNat ∧ σ' 0 = w ∧ σ' 1 = p ∧ σ' 2 = (.bool (rnd)) ∧ σ' 6 = p1 ∧ σ' 7 = p8 ∧ σ' 8 = (.int .i64 ((i : Int))) ∧ σ' 9 = (.int .i64 ((k : Int))) ∧ Cel H' p1 [(.int .i64 (0)), (.int .i64 (0)), (.slice none 0 0)] ∧ Own eI H' u (fillL c (nxG rnd b s r c l) (r.toNat * c.toNat) (i * c.toNat + k)) ∧ Cel H' p8 [(.int .i64 (r)), (.int .i64 (c)), u] ∧ Le H H',
    ⟨_, 0, rfl, by omega, g0L17, g1L17, g2L17, g6L17, g7L17, g8L17, (congrArg (Value.int .i64) (by first | omega | rfl | (simp; done))), op1, ou, op8, lE⟩, ?_⟩
 rintro n20 σ20 H20 ⟨k, rfl, hkN, g0L20, g1L20, g2L20, g6L20, g7L20, g8L20, g9L20, op1, ou, op8, lE⟩
 try simp only [g0L20, g1L20, g2L20, g6L20, g7L20, g8L20, g9L20]
 refine ob_i ((hp0.le lE).nilC) (ob_i ((hp0.le lE).fa 1) (ob_i ((hp0.le lE).ld 1 rfl) (ob_i (vInt_lss _ _ _) (cnd_d (fun hg21 => ?_) (fun hg21 => ?_)))))
 have tk := hg21
 have x1 := ix_lt (a := (i : Int)) (b := (k : Int)) (r := r) (c := c) (by omega) (by omega) (by omega) (by omega)
 have x3 := fillL_len (c := c) (g := nxG rnd b s r c l) (rr := r) (cc := c) (t := i * c.toNat + k) (by omega) (by omega)
 have x4 := fieldN_at hf (i := (i : Int) * c + (k : Int)) (by omega) (by omega)
 refine C.c61 (hp0.le lE) (hvc0.le lE) (by first | omega | assumption) (by first | omega | assumption) (by first | omega | assumption) (by first | omega | assumption) (by first | omega | assumption) (fun   H22    le23 => ?_)
 replace lE := lE.trans le23
 refine ob_i ((hp0.le lE).nilC) (ob_i ((hp0.le lE).fa 1) (ob_i ((hp0.le lE).ld 1 rfl) (ob_i (vInt_mul (by omega) (by omega)) (ob_i (vInt_add (by omega) (by omega)) (ob_i ((hp0.le lE).nilC) (ob_i ((hp0.le lE).fa 2) (ob_i ((hp0.le lE).ld 2 rfl) (ob_i ((hvc0.le lE).ix (by omega) (by omega)) (ob_i ((hvc0.le lE).ld 0 (by omega) (by omega)) ?_)))))))))
 refine ob_i (vInt_eql _ _ _) ?_
 by_cases hc24 : (at_ 0 (l) (((i : Int) * c) + (k : Int))) = 0
 refine gT hc24 (gT hc24 (ob_i ((hw0.le lE).nilC) (gT hc24 (ob_i ((hw0.le lE).fa 0) (gT hc24 (ob_i ((hw0.le lE).ld 0 rfl) (gT hc24 (gT hc24 (C.c44 (hvb0.le lE) (by first | omega | assumption) (fun   H25    le26 => ?_))))))))))
 refine ob_i (vPick_et (decide_eq_true hc24) _ _) ?_
 by_cases hc27 : (arF rnd r c l (i : Int) (k : Int)) ∈ b
 refine hT hc27 (hT hc27 (hT hc27 (hT hc27 (hT hc27 (hT hc27 (hT hc27 (hT hc27 (hT hc27 (gop_u ?_)))))))))
 refine gop_u (gop_u (gop_u (gop_u (gop_u (hT hc27 (ob_i (vPick_et (decide_eq_true hc27) _ _) (cnd_t1 ?_)))))))
 replace op8 := (op8.le le23).le le26
 refine ob_i (op8.fa 2) (ob_i (op8.ld 2 rfl) ?_)
 replace ou := (ou.le le23).le le26
 refine ob_i (ou.sl.ix (by omega) (by omega)) (ou.st (x := 1) (by omega) (by omega) rfl rfl (fun H28 ou off29 => ?_))
 refine ob_i (vInt_add (by omega) (by omega)) ?_
 have eG : nxG rnd b s r c l (i : Int) (k : Int) = 1 := by first | exact nx_b1 (by assumption) (by assumption) | exact nx_s1 (by assumption) (by assumption) | (exfalso; omega)
 replace ou : Own eI H28 u (fillL c (nxG rnd b s r c l) (r.toNat * c.toNat) (i * c.toNat + (k + 1))) := by rw [← Nat.add_assoc, ← fillL_set (c := c) (g := nxG rnd b s r c l) (i := (i : Int)) (k := (k : Int)) (by omega) (by omega) (by omega) (cast_ix (by omega)) (by omega), eG]; exact ou
 replace op1 := ((op1.le le23).le le26).off off29 ap1Xu
 replace lE := off29.le (lE.trans le26) nu
 replace op8 := op8.off off29 auXp8.symm
 exact nxt (c.toNat - (k + 1)) (by omega) ⟨k + 1, rfl, by omega, g0L20, g1L20, g2L20, g6L20, g7L20, g8L20, (congrArg (Value.int .i64) (by first | omega | rfl | (simp; done))), op1, ou, op8, lE⟩
 refine gF hc27 (gF hc27 ?_)
 replace lE := lE.trans le26
 refine ob_i ((hp0.le lE).nilC) (gF hc27 (ob_i ((hp0.le lE).fa 2) (gF hc27 (ob_i ((hp0.le lE).ld 2 rfl) (gF hc27 (gF hc27 (ob_i ((hvc0.le lE).ix (by omega) (by omega)) (gF hc27 (ob_i ((hvc0.le lE).ld 0 (by omega) (by omega)) ?_)))))))))
 refine gF hc27 (ob_i (vInt_eql _ _ _) (gF hc27 ?_))
 by_cases hc30 : (at_ 0 (l) (((i : Int) * c) + (k : Int))) = 1
 refine gT hc30 (gT hc30 (ob_i ((hw0.le lE).nilC) (gT hc30 (ob_i ((hw0.le lE).fa 1) (gT hc30 (ob_i ((hw0.le lE).ld 1 rfl) (gT hc30 (gT hc30 (C.c44 (hvs0.le lE) (by first | omega | assumption) (fun   H31    le32 => ?_))))))))))
 refine gF hc27 (ob_i (vPick_et (decide_eq_true hc30) _ _) (ob_i (vPick_ef (decide_eq_false hc27) _ _) (cnd_d (fun hg33 => ?_) (fun hg33 => ?_))))
 replace op8 := ((op8.le le23).le le26).le le32
 refine ob_i (op8.fa 2) (ob_i (op8.ld 2 rfl) ?_)
 replace ou := ((ou.le le23).le le26).le le32
 refine ob_i (ou.sl.ix (by omega) (by omega)) (ou.st (x := 1) (by omega) (by omega) rfl rfl (fun H34 ou off35 => ?_))
 refine ob_i (vInt_add (by omega) (by omega)) ?_
 have eG : nxG rnd b s r c l (i : Int) (k : Int) = 1 := by first | exact nx_b1 (by assumption) (by assumption) | exact nx_s1 (by assumption) (by assumption) | (exfalso; omega)
 replace ou : Own eI H34 u (fillL c (nxG rnd b s r c l) (r.toNat * c.toNat) (i * c.toNat + (k + 1))) := by rw [← Nat.add_assoc, ← fillL_set (c := c) (g := nxG rnd b s r c l) (i := (i : Int)) (k := (k : Int)) (by omega) (by omega) (by omega) (cast_ix (by omega)) (by omega), eG]; exact ou
 replace op1 := (((op1.le le23).le le26).le le32).off off35 ap1Xu
 replace lE := off35.le (lE.trans le32) nu
 replace op8 := op8.off off35 auXp8.symm
 exact nxt (c.toNat - (k + 1)) (by omega) ⟨k + 1, rfl, by omega, g0L20, g1L20, g2L20, g6L20, g7L20, g8L20, (congrArg (Value.int .i64) (by first | omega | rfl | (simp; done))), op1, ou, op8, lE⟩
 refine ob_i (vInt_add (by omega) (by omega)) ?_
 have eG : nxG rnd b s r c l (i : Int) (k : Int) = 0 := by first | exact nx_b0 (by assumption) (by assumption) | exact nx_s0 (by assumption) (by assumption) | (exfalso; omega)
 replace ou := ((ou.le le23).le le26).le le32
 replace ou : Own eI H31 u (fillL c (nxG rnd b s r c l) (r.toNat * c.toNat) (i * c.toNat + (k + 1))) := by rw [← Nat.add_assoc, ← fillL_skip (c := c) (g := nxG rnd b s r c l) (i := (i : Int)) (k := (k : Int)) (by omega) (by omega) (by omega) (cast_ix (by omega)) eG]; exact ou
 replace op1 := ((op1.le le23).le le26).le le32
 replace op8 := ((op8.le le23).le le26).le le32
 replace lE := lE.trans le32
 exact nxt (c.toNat - (k + 1)) (by omega) ⟨k + 1, rfl, by omega, g0L20, g1L20, g2L20, g6L20, g7L20, g8L20, (congrArg (Value.int .i64) (by first | omega | rfl | (simp; done))), op1, ou, op8, lE⟩
 refine hF hc30 (hF hc30 (hF hc30 (hF hc30 (hF hc30 (hF hc30 (gF hc27 (ob_i (vPick_ef (decide_eq_false hc30) _ _) (ob_i (vPick_ef (decide_eq_false hc27) _ _) (cnd_f1 ?_)))))))))
 refine ob_i (vInt_add (by omega) (by omega)) ?_
 have eG : nxG rnd b s r c l (i : Int) (k : Int) = 0 := by first | exact nx_b0 (by assumption) (by assumption) | exact nx_s0 (by assumption) (by assumption) | (exfalso; omega)
 replace ou := (ou.le le23).le le26
 replace ou : Own eI H25 u (fillL c (nxG rnd b s r c l) (r.toNat * c.toNat) (i * c.toNat + (k + 1))) := by rw [← Nat.add_assoc, ← fillL_skip (c := c) (g := nxG rnd b s r c l) (i := (i : Int)) (k := (k : Int)) (by omega) (by omega) (by omega) (cast_ix (by omega)) eG]; exact ou
 replace op1 := (op1.le le23).le le26
 replace op8 := (op8.le le23).le le26
 exact nxt (c.toNat - (k + 1)) (by omega) ⟨k + 1, rfl, by omega, g0L20, g1L20, g2L20, g6L20, g7L20, g8L20, (congrArg (Value.int .i64) (by first | omega | rfl | (simp; done))), op1, ou, op8, lE⟩
 refine hF hc24 (hF hc24 (hF hc24 (hF hc24 (hF hc24 (hF hc24 (ob_i (vPick_ef (decide_eq_false hc24) _ _) (gop_rf (gop_rf (ob_i ((hp0.le lE).nilC) ?_)))))))))
 refine gop_rf (ob_i ((hp0.le lE).fa 2) (gop_rf (ob_i ((hp0.le lE).ld 2 rfl) (gop_rf (gop_rf (ob_i ((hvc0.le lE).ix (by omega) (by omega)) (gop_rf (ob_i ((hvc0.le lE).ld 0 (by omega) (by omega)) (gop_rf ?_)))))))))
 refine ob_i (vInt_eql _ _ _) (gop_rf ?_)
 by_cases hc36 : (at_ 0 (l) (((i : Int) * c) + (k : Int))) = 1
 refine gT hc36 (gT hc36 (ob_i ((hw0.le lE).nilC) (gT hc36 (ob_i ((hw0.le lE).fa 1) (gT hc36 (ob_i ((hw0.le lE).ld 1 rfl) (gT hc36 (gT hc36 (C.c44 (hvs0.le lE) (by first | omega | assumption) (fun   H37    le38 => ?_))))))))))
 refine gop_rf (ob_i (vPick_et (decide_eq_true hc36) _ _) (ob_i (vPick_f _ _) (cnd_d (fun hg39 => ?_) (fun hg39 => ?_))))
 replace op8 := (op8.le le23).le le38
 refine ob_i (op8.fa 2) (ob_i (op8.ld 2 rfl) ?_)
 replace ou := (ou.le le23).le le38
 refine ob_i (ou.sl.ix (by omega) (by omega)) (ou.st (x := 1) (by omega) (by omega) rfl rfl (fun H40 ou off41 => ?_))
 refine ob_i (vInt_add (by omega) (by omega)) ?_
 have eG : nxG rnd b s r c l (i : Int) (k : Int) = 1 := by first | exact nx_b1 (by assumption) (by assumption) | exact nx_s1 (by assumption) (by assumption) | (exfalso; omega)
 replace ou : Own eI H40 u (fillL c (nxG rnd b s r c l) (r.toNat * c.toNat) (i * c.toNat + (k + 1))) := by rw [← Nat.add_assoc, ← fillL_set (c := c) (g := nxG rnd b s r c l) (i := (i : Int)) (k := (k : Int)) (by omega) (by omega) (by omega) (cast_ix (by omega)) (by omega), eG]; exact ou
 replace op1 := ((op1.le le23).le le38).off off41 ap1Xu
 replace lE := off41.le (lE.trans le38) nu
 replace op8 := op8.off off41 auXp8.symm
 exact nxt (c.toNat - (k + 1)) (by omega) ⟨k + 1, rfl, by omega, g0L20, g1L20, g2L20, g6L20, g7L20, g8L20, (congrArg (Value.int .i64) (by first | omega | rfl | (simp; done))), op1, ou, op8, lE⟩
 refine ob_i (vInt_add (by omega) (by omega)) ?_
 have eG : nxG rnd b s r c l (i : Int) (k : Int) = 0 := by first | exact nx_b0 (by assumption) (by assumption) | exact nx_s0 (by assumption) (by assumption) | (exfalso; omega)
 replace ou := (ou.le le23).le le38
 replace ou : Own eI H37 u (fillL c (nxG rnd b s r c l) (r.toNat * c.toNat) (i * c.toNat + (k + 1))) := by rw [← Nat.add_assoc, ← fillL_skip (c := c) (g := nxG rnd b s r c l) (i := (i : Int)) (k := (k : Int)) (by omega) (by omega) (by omega) (cast_ix (by omega)) eG]; exact ou
 replace op1 := (op1.le le23).le le38
 replace op8 := (op8.le le23).le le38
 replace lE := lE.trans le38
 exact nxt (c.toNat - (k + 1)) (by omega) ⟨k + 1, rfl, by omega, g0L20, g1L20, g2L20, g6L20, g7L20, g8L20, (congrArg (Value.int .i64) (by first | omega | rfl | (simp; done))), op1, ou, op8, lE⟩
 refine hF hc36 (hF hc36 (hF hc36 (hF hc36 (hF hc36 (hF hc36 (gop_rf (ob_i (vPick_ef (decide_eq_false hc36) _ _) (ob_i (vPick_f _ _) (cnd_f1 ?_)))))))))
 refine ob_i (vInt_add (by omega) (by omega)) ?_
 have eG : nxG rnd b s r c l (i : Int) (k : Int) = 0 := by first | exact nx_b0 (by assumption) (by assumption) | exact nx_s0 (by assumption) (by assumption) | (exfalso; omega)
 replace ou := ou.le le23
 replace ou : Own eI H22 u (fillL c (nxG rnd b s r c l) (r.toNat * c.toNat) (i * c.toNat + (k + 1))) := by rw [← Nat.add_assoc, ← fillL_skip (c := c) (g := nxG rnd b s r c l) (i := (i : Int)) (k := (k : Int)) (by omega) (by omega) (by omega) (cast_ix (by omega)) eG]; exact ou
 replace op1 := op1.le le23
 replace op8 := op8.le le23
 exact nxt (c.toNat - (k + 1)) (by omega) ⟨k + 1, rfl, by omega, g0L20, g1L20, g2L20, g6L20, g7L20, g8L20, (congrArg (Value.int .i64) (by first | omega | rfl | (simp; done))), op1, ou, op8, lE⟩
 have tk := hg21
 rw [show i * c.toNat + k = (i + 1) * c.toNat by rw [Nat.add_mul, Nat.one_mul]; omega] at ou
 exact hJ19 _ _ ⟨g0L20, g1L20, g2L20, g6L20, g7L20, g8L20, op1, ou, op8, lE⟩
 have ti := hg18
 rw [fillL_end (by rw [show i = r.toNat by omega]; exact Nat.le_refl _)] at ou
 exact hJ14 _ _ ⟨g6L17, g7L17, op1, ou, op8, lE⟩

theorem C.c63 {q vd : Value} {r2 c2 : Int} {m : List Int}  {H : Hp} {K : Value → Hp → Prop} (hp0 : CelR H p [(.int .i64 (r)), (.int .i64 (c)), vc]) (hq0 : Cel H q [(.int .i64 (r2)), (.int .i64 (c2)), vd]) (hvc0 : Sl eI H vc l) (hvd0 : Sl eI H vd m) (k1 : l.length ≤ 9223372036854775807)
    (hk : ∀ H', Le H H' → K (.bool (decide (r = r2 ∧ c = c2 ∧ l = m))) H') : HT prg 48 [p, q].toArray H K := by
 have lE := Le.refl H
 refine R.q48 ?_
 unfold F.q48
 refine ob_i ((hp0.le lE).nilC) (ob_i ((hp0.le lE).fa 0) (ob_i ((hp0.le lE).ld 0 rfl) (ob_i ((hq0.le lE).nilC) (ob_i ((hq0.le lE).fa 0) (ob_i ((hq0.le lE).ld 0 rfl) (ob_i (vInt_eql _ _ _) ?_))))))
 by_cases hc1 : r = r2
 refine gT hc1 (gT hc1 (ob_i ((hp0.le lE).nilC) (gT hc1 (ob_i ((hp0.le lE).fa 1) (gT hc1 (ob_i ((hp0.le lE).ld 1 rfl) (gT hc1 (gT hc1 (ob_i ((hq0.le lE).nilC) ?_)))))))))
 refine gT hc1 (ob_i ((hq0.le lE).fa 1) (gT hc1 (ob_i ((hq0.le lE).ld 1 rfl) (gT hc1 (ob_i (vInt_eql _ _ _) (ob_i (vPick_et (decide_eq_true hc1) _ _) ?_))))))
 by_cases hc2 : c = c2
 refine gT hc2 (gT hc2 (ob_i ((hp0.le lE).nilC) (gT hc2 (ob_i ((hp0.le lE).fa 2) (gT hc2 (ob_i ((hp0.le lE).ld 2 rfl) (gT hc2 (gT hc2 (ob_i ((hq0.le lE).nilC) ?_)))))))))
 refine gT hc2 (ob_i ((hq0.le lE).fa 2) (gT hc2 (ob_i ((hq0.le lE).ld 2 rfl) (gT hc2 (C.c34 (hvc0.le lE) (hvd0.le lE) (by first | omega | assumption) ?_)))))
 refine ⟨Le.refl _, ?_⟩
 exact ob_i (vPick_et (decide_eq_true hc2) _ _) (keq (K := K) (by rw [show decide (l = m) = decide (r = r2 ∧ c = c2 ∧ l = m) from decide_eq_decide.mpr (by exact ⟨fun h => ⟨by assumption, by assumption, h⟩, fun h => h.2.2⟩)]) (hk   _    lE))
 refine hF hc2 (hF hc2 (hF hc2 (hF hc2 (hF hc2 (hF hc2 (hF hc2 (hF hc2 (hF hc2 (ob_i (vPick_ef (decide_eq_false hc2) _ _) ?_)))))))))
 exact keq (K := K) (by rw [decide_eq_false (show ¬ (r = r2 ∧ c = c2 ∧ l = m) from by intro h; have h1 := h.1; have h2 := h.2.1; first | contradiction | omega)]) (hk   _    lE)
 refine hF hc1 (hF hc1 (hF hc1 (hF hc1 (hF hc1 (hF hc1 (hF hc1 (hF hc1 (hF hc1 (ob_i (vPick_ef (decide_eq_false hc1) _ _) ?_)))))))))
 refine gop_sf (gop_sf (gop_sf (gop_sf (gop_sf (gop_sf (gop_sf (gop_sf (gop_sf (ob_i (vPick_f _ _) ?_)))))))))
 exact keq (K := K) (by rw [decide_eq_false (show ¬ (r = r2 ∧ c = c2 ∧ l = m) from by intro h; have h1 := h.1; have h2 := h.2.1; first | contradiction | omega)]) (hk   _    lE)

theorem key_set {i : Nat} (h : i < l.length) : (l.take i ++ List.replicate (l.length - i) (0 : Int)).set (i : Int).toNat (at_ 0 l (i : Int)) = l.take (i + 1) ++ List.replicate (l.length - (i + 1)) 0 := by
  rw [Int.toNat_natCast, List.set_append_right _ _ (by rw [List.length_take]; omega), take_at 0 l h, List.append_assoc]
  congr 1
  rw [show i - (l.take i).length = 0 by simp; omega, show l.length - i = (l.length - (i + 1)) + 1 by omega, List.replicate_succ]; rfl
theorem dup_snoc {G : Nat → List Int} (h : ∀ j, j < k → ¬ dupP G j) (hn : ∀ j, j < k → G j ≠ G k) : ∀ j, j < k + 1 → ¬ dupP G j := fun j hj => by
  by_cases e : j = k
  · subst e; exact dup_no hn
  · exact h j (by omega)
theorem ne_snoc {G : Nat → List Int} {m : Nat} (h : ∀ j, j < m → G j ≠ G k) (hn : G m ≠ G k) : ∀ j, j < m + 1 → G j ≠ G k := fun j hj => by
  by_cases e : j = m
  · subst e; exact hn
  · exact h j (by omega)
def ftP (b s : List Int) (r c : Int) (l : List Int) (n : Int) : Prop := canP b s r c l ∧ (1 ≤ n ∧ n ≤ 512) ∧ perP (rnL true b s r c l) n.toNat
instance (b s : List Int) (r c : Int) (l : List Int) (n : Int) : Decidable (ftP b s r c l n) := by unfold ftP; infer_instance
theorem C.c64 {va : Value}  {H : Hp} {K : Value → Hp → Prop} (hva0 : Sl eI H va l) (hb : ∀ x ∈ l, 0 ≤ x ∧ x ≤ 255) (k2 : l.length ≤ 1000)
    (hk : ∀ H', Le H H' → K (.string (bytesS .empty (l))) H') : HT prg 51 [va].toArray H K := by
 have lE := Le.refl H
 refine R.q51 ?_
 unfold F.q51
 refine ob_i ((hva0.le lE).len) (Own.mk_ (z := (0 : Int)) (by omega) (by omega) (by omega) (by omega) (fun u H1 ou nn2 le3 => ?_))
 have nu := nn2.le lE
 refine jn_i (fun σ' H' => σ' 3 = u ∧ Own eU H' u (l) ∧ Le H H') (fun σ4 H4 hP => ?_) (fun J4 hJ4 => ?_)
 replace lE := lE.trans le3
 obtain ⟨g3L4, ou, lE⟩ := hP
 try simp only [g3L4]
 exact ob_i (val_convBS (by kernel_rfl) ou.sl) (hk   _    lE)
 replace lE := lE.trans le3
 refine ob_i ((hva0.le lE).len) ?_
 refine ⟨fun n' σ' H' => ∃ i : Nat, n' = l.length - i ∧ i ≤ l.length ∧ σ' 3 = u ∧ σ' 9 = va ∧ σ' 10 = (.int .i64 (((l).length : Int))) ∧ σ' 11 = (.int .i64 ((i : Int))) ∧ Own eU H' u (l.take i ++ List.replicate (l.length - i) 0) ∧ Le H H',
    ⟨_, 0, rfl, by omega, rfl, rfl, rfl, (congrArg (Value.int .i64) (by first | omega | rfl | (simp; done))), (Own.cast (by simp) ou), lE⟩, ?_⟩
 rintro n5 σ5 H5 ⟨i, rfl, hiN, g3L5, g9L5, g10L5, g11L5, ou, lE⟩
 try simp only [g3L5, g9L5, g10L5, g11L5]
 have ll : (l.take i ++ List.replicate (l.length - i) (0 : Int)).length = l.length := by simp; omega
 refine ob_i (vInt_lss _ _ _) (cnd_d (fun hg6 => ?_) (fun hg6 => ?_))
 have ti := hg6
 have bb := hb _ (at_mem 0 l (i := (i : Int)) (by omega) (by omega))
 refine ob_i ((hva0.le lE).ix (by omega) (by omega)) (ob_i ((hva0.le lE).ld 0 (by omega) (by omega)) (ob_i (vCI_u8 (by omega) (by omega)) (ob_i (ou.sl.ix (by omega) (by omega)) (ou.st (x := at_ 0 (l) ((i : Int))) (by omega) (by omega) rfl rfl (fun H7 ou off8 => ?_)))))
 refine ob_i (vInt_add (by omega) (by omega)) ?_
 replace lE := off8.le lE nu
 exact nxt (l.length - (i + 1)) (by omega) ⟨i + 1, rfl, by omega, g3L5, g9L5, g10L5, (congrArg (Value.int .i64) (by first | omega | rfl | (simp; done))), (Own.cast (key_set (by omega)) ou), lE⟩
 have ti := hg6
 rw [show i = l.length by omega, Nat.sub_self, List.take_length, List.replicate_zero, List.append_nil] at ou
 exact hJ4 _ _ ⟨g3L5, ou, lE⟩

theorem C.c65  {H : Hp} {K : Value → Hp → Prop} (hvc0 : Sl eI H vc l) (hb : ∀ x ∈ l, 0 ≤ x ∧ x ≤ 255) (k2 : l.length ≤ 1000)
    (hk : ∀ H', Le H H' → K (.string (bytesS .empty (l))) H') : HT prg 50 [(.agg #[(.int .i64 (r)), (.int .i64 (c)), vc])].toArray H K := by
 have lE := Le.refl H
 refine R.q50 ?_
 unfold F.q50
 refine nw_i (fun p1 H2 op1 nn3 le4 => ?_)
 replace op1 : Cel H2 p1 [(.int .i64 (r)), (.int .i64 (c)), vc] := op1
 refine ob_i (op1.fa 2) (ob_i (op1.ld 2 rfl) ?_)
 replace lE := lE.trans le4
 refine C.c64 (hvc0.le lE) (by first | omega | assumption) (by first | omega | assumption) (fun   H5    le6 => ?_)
 replace lE := lE.trans le6
 exact hk   _    lE

theorem C.c66  {H : Hp} {K : Value → Hp → Prop} (hw0 : Cel H w [vb, vs]) (hvb0 : Sl eI H vb b) (hvs0 : Sl eI H vs s) (hvc0 : Sl eI H vc l) (hf : fieldN 1 r c l) (kb : b.length ≤ 9223372036854775807) (ks : s.length ≤ 9223372036854775807)
    (hk : ∀ u1 H', Own eI H' u1 (nxL true b s r c l) → Nw H u1 → Le H H' → K (.agg #[(.int .i64 (r)), (.int .i64 (c)), u1]) H') : HT prg 52 [(.agg #[(.int .i64 (r)), (.int .i64 (c)), vc]), w].toArray H K := by
 have lE := Le.refl H
 refine R.q52 ?_
 unfold F.q52
 refine nw_i (fun p1 H2 op1 nn3 le4 => ?_)
 replace op1 : Cel H2 p1 [(.int .i64 (r)), (.int .i64 (c)), vc] := op1
 refine nw_i (fun p5 H6 op5 nn7 le8 => ?_)
 replace lE := lE.trans le4
 have np5 := nn7.le lE
 replace lE := lE.trans le8
 refine ob_i ((hw0.le lE).ldn rfl) ?_
 replace op1 := op1.le le8
 refine ob_i (op1.ldn rfl) (C.c53 (hvb0.le lE) (hvs0.le lE) (hvc0.le lE) (by first | omega | assumption) (by first | omega | assumption) (by first | omega | assumption) (fun  u11 H9 ou11 nn12  le10 => ?_))
 have ap5Xu11 := op5.apart nn12
 have nu11 := nn12.le lE
 replace op5 := op5.le le10
 refine op5.stn (ws := [(.int .i64 (r)), (.int .i64 (c)), u11]) rfl rfl (oc1 rfl (oc1 rfl (oc1 ou11.one oc0))) (fun H13 op5 off14 => ?_)
 refine ob_i (op5.ldn rfl) ?_
 replace lE := off14.le (lE.trans le10) np5
 replace ou11 := ou11.off off14 ap5Xu11.symm
 exact hk  u11 _ ou11 nu11  lE

theorem C.c67  {H : Hp} {K : Value → Hp → Prop} (hvb0 : Sl eI H vb b) (hvs0 : Sl eI H vs s) (hvc0 : Sl eI H vc l) (kb : b.length ≤ 9223372036854775807) (ks : s.length ≤ 9223372036854775807) (k1 : l.length ≤ 9223372036854775807)
    (hk : ∀ H', Le H H' → K (.tuple #[(.int .i64 (selI (ftP b s r c l n) ((fsI (rnL true b s r c l) (ftK (rnL true b s r c l) n.toNat) : Int)))), (.int .i64 (selI (ftP b s r c l n) ((ftK (rnL true b s r c l) n.toNat : Int) - (fsI (rnL true b s r c l) (ftK (rnL true b s r c l) n.toNat) : Int)))), (.bool (decide (ftP b s r c l n)))]) H') : HT prg 17 [(.agg #[vb, vs]), (.agg #[(.int .i64 (r)), (.int .i64 (c)), vc]), (.int .i64 (n))].toArray H K := by
 have lE := Le.refl H
 refine R.q17 ?_
 unfold F.q17
 refine nw_i (fun p1 H2 op1 nn3 le4 => ?_)
 replace op1 : Cel H2 p1 [vb, vs] := op1
 refine nw_i (fun p5 H6 op5 nn7 le8 => ?_)
 replace op5 : Cel H6 p5 [(.int .i64 (r)), (.int .i64 (c)), vc] := op5
 replace lE := (lE.trans le4).trans le8
 replace op1 := op1.le le8
 refine C.c40 op1 op5 (hvb0.le lE) (hvs0.le lE) (hvc0.le lE) (by first | omega | assumption) (by first | omega | assumption) (by first | omega | (have := hrl i; omega) | (have := hrl m; omega)) (fun   H9    le10 => ?_)
 refine ob_nd (fun hc11 => ?_) (fun hc11 => ?_)
 have hf := hc11.2
 have l1 := fieldN_len hf
 have hpos : 0 < l.length := by have := sidesF_mul hf.1; have := hf.2.1; omega
 have hby : ∀ j, ∀ x ∈ rnL true b s r c l j, 0 ≤ x ∧ x ≤ 255 := fun j x hx => by have := (rnL_field (rnd := true) (b := b) (s := s) hf j).2.2 x hx; omega
 have hrf := fun j => rnL_field (rnd := true) (b := b) (s := s) hf j
 have hrl := fun j => fieldN_len (hrf j)
 refine gop_rf (gop_rf (C.c0  ?_))
 refine gop_rf (ob_nd (fun hc12 => ?_) (fun hc12 => ?_))
 refine ob_i (vPick_f _ _) (cnd_f1 ?_)
 replace op5 := op5.le le10
 replace lE := lE.trans le10
 refine C.c42 op5 (hvc0.le lE) (by first | omega | assumption) (fun  u15 H13 ou15 nn16  le14 => ?_)
 replace op1 := op1.le le10
 have ap1Xu15 := op1.apart nn16
 have ap5Xu15 := op5.apart nn16
 have nu15 := nn16.le lE
 refine bSE_one (enc := encFv) (x := (⟨r, c, u15⟩ : Fv)) rfl rfl (by omega) (by omega) rfl (fun w0 H17 ow0 nn18 le20 => ?_) rfl
 replace op1 := op1.le le14
 have ap1Xw0 := op1.apart nn18
 replace op5 := op5.le le14
 have ap5Xw0 := op5.apart nn18
 have au15Xw0 := ou15.apart nn18
 replace lE := lE.trans le14
 have nw0 := nn18.le lE
 replace ou15 := ou15.le le20
 obtain ⟨Sw0, of21, hS21⟩ := Fam.one_of ow0 ou15 au15Xw0.symm
 replace ap1Xw0 : Apt p1 Sw0 := Apt.of_two hS21 ap1Xw0 ap1Xu15
 replace ap5Xw0 : Apt p5 Sw0 := Apt.of_two hS21 ap5Xw0 ap5Xu15
 replace nw0 : Nws H Sw0 := Nws.of_two hS21 nw0 nu15
 replace ow0 : Fam H17 w0 Sw0 ([⟨r, c, l⟩]) := of21
 refine jn_i (fun σ' H' => Cel H' p1 [vb, vs] ∧ Cel H' p5 [(.int .i64 (r)), (.int .i64 (c)), vc] ∧ Le H H' ∧ (∀ j, j < n.toNat + 1 → ¬ dupP (rnL true b s r c l) j)) (fun σ22 H22 hP => ?_) (fun J22 hJ22 => ?_)
 replace op1 := op1.le le20
 replace op5 := op5.le le20
 replace lE := lE.trans le20
 obtain ⟨op1, op5, lE, hdo⟩ := hP
 have hnoper : ¬ perP (rnL true b s r c l) n.toNat := per_no (fun j hj => hdo j (by omega))
 have hok : ¬ (ftP b s r c l n) := by intro h; first | exact absurd h.1 (by assumption) | exact absurd h.2.1 (by assumption) | exact absurd h.2.2 hnoper
 exact keq (K := K) (by rw [show ((selI (ftP b s r c l n) ((fsI (rnL true b s r c l) (ftK (rnL true b s r c l) n.toNat) : Int))) : Int) = (0) from by first | exact selI_f hok | (rw [selI_t hok, hper.2.2]; done) | (rw [selI_t hok, hper.2.2, hper.2.1]; omega)]; rw [show ((selI (ftP b s r c l n) ((ftK (rnL true b s r c l) n.toNat : Int) - (fsI (rnL true b s r c l) (ftK (rnL true b s r c l) n.toNat) : Int))) : Int) = (0) from by first | exact selI_f hok | (rw [selI_t hok, hper.2.2]; done) | (rw [selI_t hok, hper.2.2, hper.2.1]; omega)]; rw [decide_eq_false (show ¬ (ftP b s r c l n) from by exact hok)]) (hk   _    lE)
 replace op1 := op1.le le20
 replace op5 := op5.le le20
 replace lE := lE.trans le20
 refine ⟨fun n' σ' H' => ∃ i : Nat, n' = n.toNat - i ∧ i ≤ n.toNat ∧ ∃ v, ∃ Sv, σ' 2 = (.int .i64 (n)) ∧ σ' 3 = p1 ∧ σ' 9 = v ∧ σ' 10 = (.int .i64 ((i : Int) + 1)) ∧ Cel H' p1 [vb, vs] ∧ Cel H' p5 [(.int .i64 (r)), (.int .i64 (c)), vc] ∧ Fam H' v Sv (famG r c (rnL true b s r c l) (i + 1)) ∧ Nws H Sv ∧ Apt p1 Sv ∧ Apt p5 Sv ∧ Le H H' ∧ (∀ j, j < i + 1 → ¬ dupP (rnL true b s r c l) j),
    ⟨_, 0, rfl, by omega, w0, _, rfl, rfl, rfl, (congrArg (Value.int .i64) (by first | omega | rfl | (simp; done))), op1, op5, (Fam.cast (by rfl) ow0), nw0, ap1Xw0, ap5Xw0, lE, (fun j hj => dup_no (fun k hk => by omega))⟩, ?_⟩
 rintro n23 σ23 H23 ⟨i, rfl, hiN, v, Sv, g2L23, g3L23, g9L23, g10L23, op1, op5, ov, nv, ap1Xv, ap5Xv, lE, hd⟩
 try simp only [g2L23, g3L23, g9L23, g10L23]
 have vl : (famG r c (rnL true b s r c l) (i + 1)).length = i + 1 := famG_len
 refine ob_i (vInt_leq _ _ _) (cnd_d (fun hg24 => ?_) (fun hg24 => ?_))
 have ti := hg24
 refine jn_i (fun σ' H' => ∃ v, ∃ Sv, σ' 2 = (.int .i64 (n)) ∧ σ' 3 = p1 ∧ σ' 9 = v ∧ σ' 10 = (.int .i64 ((i : Int) + 1)) ∧ Cel H' p1 [vb, vs] ∧ Cel H' p5 [(.int .i64 (r)), (.int .i64 (c)), vc] ∧ Fam H' v Sv (famG r c (rnL true b s r c l) (i + 1 + 1)) ∧ Nws H Sv ∧ Apt p1 Sv ∧ Apt p5 Sv ∧ Le H H' ∧ (∀ j, j < i + 1 → rnL true b s r c l j ≠ rnL true b s r c l (i + 1))) (fun σ25 H25 hP => ?_) (fun J25 hJ25 => ?_)
 obtain ⟨v, Sv, g2L25, g3L25, g9L25, g10L25, op1, op5, ov, nv, ap1Xv, ap5Xv, lE, hqo⟩ := hP
 try simp only [g10L25]
 refine ob_i (vInt_add (by omega) (by omega)) ?_
 exact nxt (n.toNat - (i + 1)) (by omega) ⟨i + 1, rfl, by omega, v, _, g2L25, g3L25, g9L25, (congrArg (Value.int .i64) (by first | omega | rfl | (simp; done))), op1, op5, ov, nv, ap1Xv, ap5Xv, lE, (dup_snoc hd hqo)⟩
 refine ob_i (vInt_sub (by omega) (by omega)) ?_
 obtain ⟨P26, y27, hb28a, oP26, oy27, hb28p, hb28x⟩ := ov.el (i := ((i : Int) + 1) - 1) (f := ⟨r, c, rnL true b s r c l i⟩) (by omega) (by first | omega | (simp; omega)) (by rw [famG_at (by omega) (by omega)]; simp)
 replace oP26 : CelR H23 P26 [(.int .i64 (r)), (.int .i64 (c)), y27] := oP26
 replace oy27 : Ro eI H23 y27 (rnL true b s r c l i) := oy27
 refine ob_i (hb28a) (C.c62 op1 oP26 (hvb0.le lE) (hvs0.le lE) oy27.sl (by first | exact hf | exact hrf _) (by first | omega | assumption) (by first | omega | assumption) (fun  u31 H29 ou31 nn32  le30 => ?_))
 have ap1Xu31 := op1.apart nn32
 have ap5Xu31 := op5.apart nn32
 have avXu31 : Apt Sv u31 := Apt.of_nw ov.known nn32
 have nu31 := nn32.le lE
 refine nw_i (fun p33 H34 op33 nn35 le36 => ?_)
 replace op1 := op1.le le30
 have ap1Xp33 := op1.apart nn35
 replace op5 := op5.le le30
 have ap5Xp33 := op5.apart nn35
 replace ov := ov.le le30
 have avXp33 : Apt Sv p33 := Apt.of_nw ov.known nn35
 replace oP26 := oP26.le le30
 have aP26Xp33 := oP26.apart nn35
 replace oy27 := oy27.le le30
 have ay27Xp33 := oy27.apart nn35
 have au31Xp33 := ou31.apart nn35
 replace lE := lE.trans le30
 have np33 := nn35.le lE
 replace ou31 := ou31.le le36
 refine op33.stn (ws := [(.int .i64 (r)), (.int .i64 (c)), u31]) rfl rfl (oc1 rfl (oc1 rfl (oc1 ou31.one oc0))) (fun H37 op33 off38 => ?_)
 refine jn_i (fun σ' H' => σ' 2 = (.int .i64 (n)) ∧ σ' 3 = p1 ∧ σ' 9 = v ∧ σ' 10 = (.int .i64 ((i : Int) + 1)) ∧ σ' 11 = p33 ∧ Cel H' p1 [vb, vs] ∧ Cel H' p5 [(.int .i64 (r)), (.int .i64 (c)), vc] ∧ Fam H' v Sv (famG r c (rnL true b s r c l) (i + 1)) ∧ CelR H' P26 [(.int .i64 (r)), (.int .i64 (c)), y27] ∧ Ro eI H' y27 (rnL true b s r c l i) ∧ Own eI H' u31 (nxL true b s r c (rnL true b s r c l i)) ∧ Cel H' p33 [(.int .i64 (r)), (.int .i64 (c)), u31] ∧ Le H H' ∧ (∀ j, j < i + 1 → rnL true b s r c l j ≠ rnL true b s r c l (i + 1))) (fun σ39 H39 hP => ?_) (fun J39 hJ39 => ?_)
 replace op1 := (op1.le le36).off off38 ap1Xp33
 replace op5 := (op5.le le36).off off38 ap5Xp33
 replace ov := (ov.le le36).off off38 avXp33
 replace oP26 := (oP26.le le36).off off38 aP26Xp33
 replace oy27 := (oy27.le le36).off off38 ay27Xp33
 replace lE := off38.le (lE.trans le36) np33
 replace ou31 := ou31.off off38 au31Xp33
 obtain ⟨g2L39, g3L39, g9L39, g10L39, g11L39, op1, op5, ov, oP26, oy27, ou31, op33, lE, hqi⟩ := hP
 try simp only [g9L39, g11L39]
 refine ob_i (op33.ldn rfl) (bSE_one (enc := encFv) (x := (⟨r, c, u31⟩ : Fv)) rfl rfl (by omega) (by omega) rfl (fun u40 H41 ou40 nn42 le44 => ?_) rfl)
 replace ov := ov.le le44
 replace ou31 := ou31.le le44
 refine Fam.push ov rfl (ou40.sl encFv_n) ou31 avXu31.symm (by omega) (by first | omega | (simp; omega)) (fun u49 Su49 H45 ou49 off46 hb47 hx48 oxu31 => ?_)
 replace op1 := op1.le le44
 have ap1Xu49 : Apt p1 Su49 := Apt.push op1.known ap1Xv ap1Xu31 hb47
 replace op5 := op5.le le44
 have ap5Xu49 : Apt p5 Su49 := Apt.push op5.known ap5Xv ap5Xu31 hb47
 replace lE := lE.trans le44
 have nu49 : Nws H Su49 := Nws.push lE nv nu31 hb47
 replace ou31 := oxu31.ro
 replace op1 := op1.offS off46 ap1Xv
 replace op5 := op5.offS off46 ap5Xv
 replace lE := off46.le lE nv
 exact hJ25 _ _ ⟨u49, _, g2L39, g3L39, rfl, g10L39, op1, op5, (Fam.cast famG_succ ou49), nu49, ap1Xu49, ap5Xu49, lE, hqi⟩
 replace ov := (ov.le le36).off off38 avXp33
 refine ob_i (ov.len) ?_
 replace op1 := (op1.le le36).off off38 ap1Xp33
 replace op5 := (op5.le le36).off off38 ap5Xp33
 replace oP26 := (oP26.le le36).off off38 aP26Xp33
 replace oy27 := (oy27.le le36).off off38 ay27Xp33
 replace lE := off38.le (lE.trans le36) np33
 replace ou31 := ou31.off off38 au31Xp33
 refine ⟨fun n' σ' H' => ∃ m : Nat, n' = (i + 1) - m ∧ m ≤ (i + 1) ∧ σ' 2 = (.int .i64 (n)) ∧ σ' 3 = p1 ∧ σ' 9 = v ∧ σ' 10 = (.int .i64 ((i : Int) + 1)) ∧ σ' 11 = p33 ∧ σ' 33 = (.int .i64 (((famG r c (rnL true b s r c l) (i + 1)).length : Int))) ∧ σ' 34 = (.int .i64 ((m : Int))) ∧ Cel H' p1 [vb, vs] ∧ Cel H' p5 [(.int .i64 (r)), (.int .i64 (c)), vc] ∧ Fam H' v Sv (famG r c (rnL true b s r c l) (i + 1)) ∧ CelR H' P26 [(.int .i64 (r)), (.int .i64 (c)), y27] ∧ Ro eI H' y27 (rnL true b s r c l i) ∧ Own eI H' u31 (nxL true b s r c (rnL true b s r c l i)) ∧ Cel H' p33 [(.int .i64 (r)), (.int .i64 (c)), u31] ∧ Le H H' ∧ (∀ j, j < m → rnL true b s r c l j ≠ rnL true b s r c l (i + 1)),
    ⟨_, 0, rfl, by omega, g2L23, g3L23, g9L23, g10L23, rfl, rfl, (congrArg (Value.int .i64) (by first | omega | rfl | (simp; done))), op1, op5, ov, oP26, oy27, ou31, op33, lE, (fun j hj => by omega)⟩, ?_⟩
 rintro n50 σ50 H50 ⟨m, rfl, hmN, g2L50, g3L50, g9L50, g10L50, g11L50, g33L50, g34L50, op1, op5, ov, oP26, oy27, ou31, op33, lE, hq⟩
 try simp only [g9L50, g10L50, g11L50, g33L50, g34L50]
 refine ob_i (vInt_lss _ _ _) (cnd_d (fun hg51 => ?_) (fun hg51 => ?_))
 have tm := hg51
 obtain ⟨P52, y53, hb54a, oP52, oy53, hb54p, hb54x⟩ := ov.el (i := (m : Int)) (f := ⟨r, c, rnL true b s r c l m⟩) (by omega) (by first | omega | (simp; omega)) (by rw [famG_at (by omega) (by omega)]; rfl)
 replace oP52 : CelR H50 P52 [(.int .i64 (r)), (.int .i64 (c)), y53] := oP52
 replace oy53 : Ro eI H50 y53 (rnL true b s r c l m) := oy53
 refine ob_i (hb54a) ?_
 refine C.c63 oP52 op33 oy53.sl ou31.sl (by first | omega | (have := hrl i; omega) | (have := hrl m; omega)) (fun   H55    le56 => ?_)
 refine cnd_d (fun hg57 => ?_) (fun hg57 => ?_)
 refine ob_i (vInt_sub (by omega) (by omega)) (retK (K := K) (v' := (.tuple #[(.int .i64 ((m : Int))), (.int .i64 (((i : Int) + 1) - (m : Int))), (.bool true)])) rfl ?_)
 have hper := per_at (n := n.toNat) hd (show m < i + 1 by omega) (hg57).2.2 hq (by omega)
 have hok : ftP b s r c l n := by exact ⟨by assumption, by assumption, hper.1⟩
 replace lE := lE.trans le56
 exact keq (K := K) (by rw [show ((selI (ftP b s r c l n) ((fsI (rnL true b s r c l) (ftK (rnL true b s r c l) n.toNat) : Int))) : Int) = ((m : Int)) from by first | exact selI_f hok | (rw [selI_t hok, hper.2.2]; done) | (rw [selI_t hok, hper.2.2, hper.2.1]; omega)]; rw [show ((selI (ftP b s r c l n) ((ftK (rnL true b s r c l) n.toNat : Int) - (fsI (rnL true b s r c l) (ftK (rnL true b s r c l) n.toNat) : Int))) : Int) = (((i : Int) + 1) - (m : Int)) from by first | exact selI_f hok | (rw [selI_t hok, hper.2.2]; done) | (rw [selI_t hok, hper.2.2, hper.2.1]; omega)]; rw [decide_eq_true (show (ftP b s r c l n) from by exact hok)]) (hk   _    lE)
 refine ob_i (vInt_add (by omega) (by omega)) ?_
 replace op1 := op1.le le56
 replace op5 := op5.le le56
 replace ov := ov.le le56
 replace oP26 := oP26.le le56
 replace oy27 := oy27.le le56
 replace ou31 := ou31.le le56
 replace op33 := op33.le le56
 replace lE := lE.trans le56
 exact nxt ((i + 1) - (m + 1)) (by omega) ⟨m + 1, rfl, by omega, g2L50, g3L50, g9L50, g10L50, g11L50, g33L50, (congrArg (Value.int .i64) (by first | omega | rfl | (simp; done))), op1, op5, ov, oP26, oy27, ou31, op33, lE, (ne_snoc hq (fun h => hg57 ⟨rfl, rfl, h⟩))⟩
 have tm := hg51
 exact hJ39 _ _ ⟨g2L50, g3L50, g9L50, g10L50, g11L50, op1, op5, ov, oP26, oy27, ou31, op33, lE, (fun j hj => hq j (by omega))⟩
 have ti := hg24
 exact hJ22 _ _ ⟨op1, op5, lE, (by rw [show n.toNat = i by omega]; exact hd)⟩
 refine ob_i (vPick_f _ _) (cnd_t1 ?_)
 have hok : ¬ (ftP b s r c l n) := by intro h; first | exact absurd h.1 (by assumption) | exact absurd h.2.1 (by assumption) | exact absurd h.2.2 hnoper
 replace lE := lE.trans le10
 exact keq (K := K) (by rw [show ((selI (ftP b s r c l n) ((fsI (rnL true b s r c l) (ftK (rnL true b s r c l) n.toNat) : Int))) : Int) = (0) from by first | exact selI_f hok | (rw [selI_t hok, hper.2.2]; done) | (rw [selI_t hok, hper.2.2, hper.2.1]; omega)]; rw [show ((selI (ftP b s r c l n) ((ftK (rnL true b s r c l) n.toNat : Int) - (fsI (rnL true b s r c l) (ftK (rnL true b s r c l) n.toNat) : Int))) : Int) = (0) from by first | exact selI_f hok | (rw [selI_t hok, hper.2.2]; done) | (rw [selI_t hok, hper.2.2, hper.2.1]; omega)]; rw [decide_eq_false (show ¬ (ftP b s r c l n) from by exact hok)]) (hk   _    lE)
 refine gop_st (gop_st (gop_st (ob_i (vPick_t _ _) (cnd_t1 ?_))))
 have hok : ¬ (ftP b s r c l n) := by intro h; first | exact absurd h.1 (by assumption) | exact absurd h.2.1 (by assumption) | exact absurd h.2.2 hnoper
 replace lE := lE.trans le10
 exact keq (K := K) (by rw [show ((selI (ftP b s r c l n) ((fsI (rnL true b s r c l) (ftK (rnL true b s r c l) n.toNat) : Int))) : Int) = (0) from by first | exact selI_f hok | (rw [selI_t hok, hper.2.2]; done) | (rw [selI_t hok, hper.2.2, hper.2.1]; omega)]; rw [show ((selI (ftP b s r c l n) ((ftK (rnL true b s r c l) n.toNat : Int) - (fsI (rnL true b s r c l) (ftK (rnL true b s r c l) n.toNat) : Int))) : Int) = (0) from by first | exact selI_f hok | (rw [selI_t hok, hper.2.2]; done) | (rw [selI_t hok, hper.2.2, hper.2.1]; omega)]; rw [decide_eq_false (show ¬ (ftP b s r c l n) from by exact hok)]) (hk   _    lE)

theorem C.c68  {H : Hp} {K : Value → Hp → Prop} (hvb0 : Sl eI H vb b) (hvs0 : Sl eI H vs s) (hvc0 : Sl eI H vc l) (kb : b.length ≤ 9223372036854775807) (ks : s.length ≤ 9223372036854775807) (k1 : l.length ≤ 9223372036854775807)
    (hk : ∀ H', Le H H' → K (.tuple #[(.int .i64 (selI (ftP b s r c l n) ((fsI (rnL true b s r c l) (ftK (rnL true b s r c l) n.toNat) : Int)))), (.int .i64 (selI (ftP b s r c l n) ((ftK (rnL true b s r c l) n.toNat : Int) - (fsI (rnL true b s r c l) (ftK (rnL true b s r c l) n.toNat) : Int)))), (.bool (decide (ftP b s r c l n)))]) H') : HT prg 18 [(.agg #[vb, vs]), (.agg #[(.int .i64 (r)), (.int .i64 (c)), vc]), (.int .i64 (n))].toArray H K := by
 have lE := Le.refl H
 refine R.q18 ?_
 unfold F.q18
 refine nw_i (fun p1 H2 op1 nn3 le4 => ?_)
 have np1 := nn3.le lE
 replace op1 : Cel H2 p1 [vb, vs] := op1
 refine nw_i (fun p5 H6 op5 nn7 le8 => ?_)
 replace lE := lE.trans le4
 have np5 := nn7.le lE
 replace op5 : Cel H6 p5 [(.int .i64 (r)), (.int .i64 (c)), vc] := op5
 replace op1 := op1.le le8
 refine ob_i (op1.ldn rfl) (ob_i (op5.ldn rfl) (bSE_one (enc := encFv) (x := (⟨r, c, vc⟩ : Fv)) rfl rfl (by omega) (by omega) rfl (fun u9 H10 ou9 nn11 le13 => ?_) rfl))
 replace lE := lE.trans le8
 have nu9 := nn11.le lE
 replace lE := lE.trans le13
 refine C.c41 (hvb0.le lE) (hvs0.le lE) (hvc0.le lE) (ou9.sl encFv_n) (by first | omega | assumption) (by first | omega | assumption) (by first | omega | (have := hrl i; omega)) (fun   H14    le15 => ?_)
 refine ob_nd (fun hc16 => ?_) (fun hc16 => ?_)
 have hf := hc16.2
 have l1 := fieldN_len hf
 have hpos : 0 < l.length := by have := sidesF_mul hf.1; have := hf.2.1; omega
 have hby : ∀ j, ∀ x ∈ rnL true b s r c l j, 0 ≤ x ∧ x ≤ 255 := fun j x hx => by have := (rnL_field (rnd := true) (b := b) (s := s) hf j).2.2 x hx; omega
 have hrf := fun j => rnL_field (rnd := true) (b := b) (s := s) hf j
 have hrl := fun j => fieldN_len (hrf j)
 refine gop_rf (gop_rf (C.c1  ?_))
 refine gop_rf (ob_nd (fun hc17 => ?_) (fun hc17 => ?_))
 refine ob_i (vPick_f _ _) (cnd_f1 ?_)
 replace op5 := (op5.le le13).le le15
 refine ob_i (op5.ldn rfl) (HTk (fun K18 hK18 => ?_))
 refine R.q49 ?_
 unfold F.q49
 refine nw_i (fun q0 H19 oq0 nn20 le21 => ?_)
 replace lE := lE.trans le15
 have nq0 := nn20.le lE
 replace oq0 : Cel H19 q0 [(.int .i64 (r)), (.int .i64 (c)), vc] := oq0
 refine Mp.new_ (fun mp Smp H22 omp nn23 le24 => ?_)
 replace op1 := ((op1.le le13).le le15).le le21
 have ap1Xmp : Apt p1 Smp := Apt.of_nws op1.known nn23
 replace op5 := op5.le le21
 have ap5Xmp : Apt p5 Smp := Apt.of_nws op5.known nn23
 replace ou9 := (ou9.le le15).le le21
 have au9Xmp : Apt u9 Smp := Apt.of_nws ou9.known nn23
 have aq0Xmp : Apt q0 Smp := Apt.of_nws oq0.known nn23
 replace lE := lE.trans le21
 have nmp : Nws H Smp := nn23.le lE
 replace oq0 := oq0.le le24
 refine ob_i (oq0.ldn rfl) (nw_i (fun q H25 oq nn26 le27 => ?_))
 replace op1 := op1.le le24
 have ap1Xq := op1.apart nn26
 replace op5 := op5.le le24
 have ap5Xq := op5.apart nn26
 replace ou9 := ou9.le le24
 have au9Xq := ou9.apart nn26
 have aq0Xq := oq0.apart nn26
 have ampXq : Apt Smp q := Apt.of_nw omp.known nn26
 replace lE := lE.trans le24
 have nq := nn26.le lE
 replace lE := lE.trans le27
 refine oq.stn (ws := [(.int .i64 (r)), (.int .i64 (c)), vc]) rfl rfl (oc1 rfl (oc1 rfl (oc1 (hvc0.le lE).one oc0))) (fun H28 oq off29 => ?_)
 refine jn_i (fun σ' H' => Cel H' p1 [vb, vs] ∧ Cel H' p5 [(.int .i64 (r)), (.int .i64 (c)), vc] ∧ OwnE 3 encFv H' u9 ([⟨r, c, vc⟩]) ∧ Cel H' q0 [(.int .i64 (r)), (.int .i64 (c)), vc] ∧ Le H H' ∧ (∀ j, j < n.toNat + 1 → ¬ dupP (rnL true b s r c l) j)) (fun σ30 H30 hP => ?_) (fun J30 hJ30 => ?_)
 replace op1 := (op1.le le27).off off29 ap1Xq
 replace op5 := (op5.le le27).off off29 ap5Xq
 replace ou9 := (ou9.le le27).off off29 au9Xq
 replace oq0 := (oq0.le le27).off off29 aq0Xq
 replace lE := off29.le lE nq
 obtain ⟨op1, op5, ou9, oq0, lE, hdo⟩ := hP
 refine hK18 _ _ ?_
 refine ob_i (vExt_30 _ _ _) (ob_i (vExt_31 _ _ _) (ob_i (vExt_32 _ _ _) ?_))
 have hnoper : ¬ perP (rnL true b s r c l) n.toNat := per_no (fun j hj => hdo j (by omega))
 have hok : ¬ (ftP b s r c l n) := by intro h; first | exact absurd h.1 (by assumption) | exact absurd h.2.1 (by assumption) | exact absurd h.2.2 hnoper
 exact keq (K := K) (by rw [show ((selI (ftP b s r c l n) ((fsI (rnL true b s r c l) (ftK (rnL true b s r c l) n.toNat) : Int))) : Int) = (0) from by first | exact selI_f hok | (rw [selI_t hok, hper.2.2]; omega) | (rw [selI_t hok, hper.2.2, hper.2.1]; omega)]; rw [show ((selI (ftP b s r c l n) ((ftK (rnL true b s r c l) n.toNat : Int) - (fsI (rnL true b s r c l) (ftK (rnL true b s r c l) n.toNat) : Int))) : Int) = (0) from by first | exact selI_f hok | (rw [selI_t hok, hper.2.2]; omega) | (rw [selI_t hok, hper.2.2, hper.2.1]; omega)]; rw [decide_eq_false (show ¬ (ftP b s r c l n) from by exact hok)]) (hk   _    lE)
 replace op1 := (op1.le le27).off off29 ap1Xq
 replace op5 := (op5.le le27).off off29 ap5Xq
 replace ou9 := (ou9.le le27).off off29 au9Xq
 replace oq0 := (oq0.le le27).off off29 aq0Xq
 replace omp := (omp.le le27).off off29 ampXq
 replace lE := off29.le lE nq
 refine ⟨fun n' σ' H' => ∃ i : Nat, n' = (n.toNat + 1) - i ∧ i ≤ (n.toNat + 1) ∧ ∃ u, σ' 1 = (.func (.func 50) #[] #[]) ∧ σ' 2 = (.func (.func 52) #[] #[p1]) ∧ σ' 3 = (.int .i64 (n)) ∧ σ' 11 = mp ∧ σ' 12 = q ∧ σ' 13 = (.int .i64 ((i : Int))) ∧ Cel H' p1 [vb, vs] ∧ Cel H' p5 [(.int .i64 (r)), (.int .i64 (c)), vc] ∧ OwnE 3 encFv H' u9 ([⟨r, c, vc⟩]) ∧ Cel H' q0 [(.int .i64 (r)), (.int .i64 (c)), vc] ∧ Mp H' mp Smp (mapG (rnL true b s r c l) i) ∧ Cel H' q [(.int .i64 (r)), (.int .i64 (c)), u] ∧ Ro eI H' u (rnL true b s r c l i) ∧ Apart p1 u ∧ Apart p5 u ∧ Apart u9 u ∧ Apart q0 u ∧ Apt Smp u ∧ Apart q u ∧ Le H H' ∧ (∀ j, j < i → ¬ dupP (rnL true b s r c l) j),
    ⟨_, 0, rfl, by omega, vc, rfl, rfl, rfl, rfl, rfl, (congrArg (Value.int .i64) (by first | omega | rfl | (simp; done))), op1, op5, ou9, oq0, (Mp.cast rfl omp), oq, (show Ro eI _ vc l from Ro.of_sl (hvc0.le lE) (by omega)), ((Ro.of_sl hvc0 (by omega)).apart np1).symm, ((Ro.of_sl hvc0 (by omega)).apart np5).symm, ((Ro.of_sl hvc0 (by omega)).apart nu9).symm, ((Ro.of_sl hvc0 (by omega)).apart nq0).symm, (Apt.of_nws (u := vc) (show Kn H vc from (Ro.of_sl hvc0 (by omega)).known) nmp).symm, ((Ro.of_sl hvc0 (by omega)).apart nq).symm, lE, (fun j hj => by omega)⟩, ?_⟩
 rintro n31 σ31 H31 ⟨i, rfl, hiN, u, g1L31, g2L31, g3L31, g11L31, g12L31, g13L31, op1, op5, ou9, oq0, omp, oq, ou, ap1Xu, ap5Xu, au9Xu, aq0Xu, ampXu, aqXu, lE, hd⟩
 try simp only [g1L31, g2L31, g3L31, g11L31, g12L31, g13L31]
 refine ob_i (vInt_leq _ _ _) (cnd_d (fun hg32 => ?_) (fun hg32 => ?_))
 have ti := hg32
 refine ob_i (oq.ldn rfl) ?_
 refine ⟨by kernel_rfl, ?_⟩
 refine C.c65 ou.sl (by exact hby _) (by first | omega | (have := hrl i; omega)) (fun   H33    le34 => ?_)
 replace omp := omp.le le34
 refine Mp.look' omp (by kernel_rfl) ?_
 refine ob_i (vExt_20 _ _) (ob_i (vExt_21 _ _) (cnd_i (fun hg35 => ?_) (fun hg35 => ?_)))
 obtain ⟨m, hm1, hm2, hm3, hm4⟩ := mget_some hby hg35
 refine ob_i (vInt_sub (by omega) (by omega)) (retK (K := K18) (v' := (.tuple #[(.int .i64 ((mget (bytesS .empty ((rnL true b s r c l i))) (mapG (rnL true b s r c l) i)).getD 0)), (.int .i64 ((i : Int) - ((mget (bytesS .empty ((rnL true b s r c l i))) (mapG (rnL true b s r c l) i)).getD 0))), (.bool true)])) rfl ?_)
 refine hK18 _ _ ?_
 refine ob_i (vExt_30 _ _ _) (ob_i (vExt_31 _ _ _) (ob_i (vExt_32 _ _ _) ?_))
 have hper := per_at (n := n.toNat) hd hm1 hm2 hm3 (by omega)
 have hok : ftP b s r c l n := by exact ⟨by assumption, by assumption, hper.1⟩
 replace lE := lE.trans le34
 exact keq (K := K) (by rw [show ((selI (ftP b s r c l n) ((fsI (rnL true b s r c l) (ftK (rnL true b s r c l) n.toNat) : Int))) : Int) = ((mget (bytesS .empty ((rnL true b s r c l i))) (mapG (rnL true b s r c l) i)).getD 0) from by first | exact selI_f hok | (rw [selI_t hok, hper.2.2]; omega) | (rw [selI_t hok, hper.2.2, hper.2.1]; omega)]; rw [show ((selI (ftP b s r c l n) ((ftK (rnL true b s r c l) n.toNat : Int) - (fsI (rnL true b s r c l) (ftK (rnL true b s r c l) n.toNat) : Int))) : Int) = ((i : Int) - ((mget (bytesS .empty ((rnL true b s r c l i))) (mapG (rnL true b s r c l) i)).getD 0)) from by first | exact selI_f hok | (rw [selI_t hok, hper.2.2]; omega) | (rw [selI_t hok, hper.2.2, hper.2.1]; omega)]; rw [decide_eq_true (show (ftP b s r c l n) from by exact hok)]) (hk   _    lE)
 replace oq := oq.le le34
 refine ob_i (oq.ldn rfl) ?_
 refine ⟨by kernel_rfl, ?_⟩
 replace ou := ou.le le34
 refine C.c65 ou.sl (by exact hby _) (by first | omega | (have := hrl i; omega)) (fun   H36    le37 => ?_)
 replace omp := omp.le le37
 refine Mp.add' omp (by kernel_rfl) (by exact (mget_not hby (by assumption)).2) (fun H38 omp off39 => ?_)
 replace oq := (oq.le le37).offS off39 ampXq.symm
 refine ob_i (oq.ldn rfl) ?_
 refine ⟨by kernel_rfl, ?_⟩
 replace op1 := ((op1.le le34).le le37).offS off39 ap1Xmp
 replace lE := off39.le ((lE.trans le34).trans le37) nmp
 replace ou := (ou.le le37).offS off39 ampXu.symm
 refine C.c66 op1 (hvb0.le lE) (hvs0.le lE) ou.sl (by first | exact hf | exact hrf _) (by first | omega | assumption) (by first | omega | assumption) (fun  u42 H40 ou42 nn43  le41 => ?_)
 have ap1Xu42 := op1.apart nn43
 replace op5 := ((op5.le le34).le le37).offS off39 ap5Xmp
 have ap5Xu42 := op5.apart nn43
 replace ou9 := ((ou9.le le34).le le37).offS off39 au9Xmp
 have au9Xu42 := ou9.apart nn43
 replace oq0 := ((oq0.le le34).le le37).offS off39 aq0Xmp
 have aq0Xu42 := oq0.apart nn43
 have ampXu42 : Apt Smp u42 := Apt.of_nw omp.known nn43
 have aqXu42 := oq.apart nn43
 replace oq := oq.le le41
 refine oq.stn (ws := [(.int .i64 (r)), (.int .i64 (c)), u42]) rfl rfl (oc1 rfl (oc1 rfl (oc1 ou42.one oc0))) (fun H44 oq off45 => ?_)
 refine ob_i (vInt_add (by omega) (by omega)) ?_
 replace op1 := (op1.le le41).off off45 ap1Xq
 replace op5 := (op5.le le41).off off45 ap5Xq
 replace ou9 := (ou9.le le41).off off45 au9Xq
 replace oq0 := (oq0.le le41).off off45 aq0Xq
 replace omp := (omp.le le41).off off45 ampXq
 replace lE := off45.le (lE.trans le41) nq
 replace ou42 := ou42.off off45 aqXu42.symm
 exact nxt ((n.toNat + 1) - (i + 1)) (by omega) ⟨i + 1, rfl, by omega, u42, g1L31, g2L31, g3L31, g11L31, g12L31, (congrArg (Value.int .i64) (by first | omega | rfl | (simp; done))), op1, op5, ou9, oq0, (Mp.cast mapG_succ omp), oq, ou42.ro, ap1Xu42, ap5Xu42, au9Xu42, aq0Xu42, ampXu42, aqXu42, lE, (dup_snoc hd (mget_not hby (by assumption)).1)⟩
 have ti := hg32
 exact hJ30 _ _ ⟨op1, op5, ou9, oq0, lE, (by rw [show n.toNat + 1 = i by omega]; exact hd)⟩
 refine ob_i (vPick_f _ _) (cnd_t1 ?_)
 have hok : ¬ (ftP b s r c l n) := by intro h; first | exact absurd h.1 (by assumption) | exact absurd h.2.1 (by assumption) | exact absurd h.2.2 hnoper
 replace lE := lE.trans le15
 exact keq (K := K) (by rw [show ((selI (ftP b s r c l n) ((fsI (rnL true b s r c l) (ftK (rnL true b s r c l) n.toNat) : Int))) : Int) = (0) from by first | exact selI_f hok | (rw [selI_t hok, hper.2.2]; omega) | (rw [selI_t hok, hper.2.2, hper.2.1]; omega)]; rw [show ((selI (ftP b s r c l n) ((ftK (rnL true b s r c l) n.toNat : Int) - (fsI (rnL true b s r c l) (ftK (rnL true b s r c l) n.toNat) : Int))) : Int) = (0) from by first | exact selI_f hok | (rw [selI_t hok, hper.2.2]; omega) | (rw [selI_t hok, hper.2.2, hper.2.1]; omega)]; rw [decide_eq_false (show ¬ (ftP b s r c l n) from by exact hok)]) (hk   _    lE)
 refine gop_st (gop_st (gop_st (ob_i (vPick_t _ _) (cnd_t1 ?_))))
 have hok : ¬ (ftP b s r c l n) := by intro h; first | exact absurd h.1 (by assumption) | exact absurd h.2.1 (by assumption) | exact absurd h.2.2 hnoper
 replace lE := lE.trans le15
 exact keq (K := K) (by rw [show ((selI (ftP b s r c l n) ((fsI (rnL true b s r c l) (ftK (rnL true b s r c l) n.toNat) : Int))) : Int) = (0) from by first | exact selI_f hok | (rw [selI_t hok, hper.2.2]; omega) | (rw [selI_t hok, hper.2.2, hper.2.1]; omega)]; rw [show ((selI (ftP b s r c l n) ((ftK (rnL true b s r c l) n.toNat : Int) - (fsI (rnL true b s r c l) (ftK (rnL true b s r c l) n.toNat) : Int))) : Int) = (0) from by first | exact selI_f hok | (rw [selI_t hok, hper.2.2]; omega) | (rw [selI_t hok, hper.2.2, hper.2.1]; omega)]; rw [decide_eq_false (show ¬ (ftP b s r c l n) from by exact hok)]) (hk   _    lE)

end Go.Proofs.YtnijdhlmimemcaaGreatDoor
/- Digits of numbers, and all plain fields of few cells. -/
namespace Go.Proofs.YtnijdhlmimemcaaGreatDoor
open HL
theorem HL.Cel.cast {H : Hp} {p : Value} {cs cs' : List Value} (e : cs = cs') (h : Cel H p cs) : Cel H p cs' := e ▸ h
/-- A power of 2. -/
def pw (n : Int) : Nat := 2 ^ n.toNat
/-- The digits of a number, the greatest one first; and the last t of them. -/
def dgL (b x : Int) (N : Nat) : List Int := (List.range N).map fun j => x / b ^ (N - 1 - j) % b
/-- Few cells. -/
def smP (r c : Int) : Prop := sidesF r c ∧ r * c ≤ 12
instance (r c : Int) : Decidable (smP r c) := by unfold smP; infer_instance
def stillP (b s : List Int) (r c : Int) (t : Nat) : Prop := nxL false b s r c (dgL 2 t (r * c).toNat) = dgL 2 t (r * c).toNat
instance (b s : List Int) (r c : Int) : DecidablePred (stillP b s r c) := fun t => by unfold stillP; infer_instance
def befP (b s : List Int) (r c : Int) (l : List Int) (t : Nat) : Prop := nxL false b s r c (dgL 2 t (r * c).toNat) = l
instance (b s : List Int) (r c : Int) (l : List Int) : DecidablePred (befP b s r c l) := fun t => by unfold befP; infer_instance
def stlP (b s : List Int) (r c : Int) : Prop := lifP b s ∧ smP r c
instance (b s : List Int) (r c : Int) : Decidable (stlP b s r c) := by unfold stlP; infer_instance
def cbfP (b s : List Int) (r c : Int) (l : List Int) : Prop := canP b s r c l ∧ smP r c
instance (b s : List Int) (r c : Int) (l : List Int) : Decidable (cbfP b s r c l) := by unfold cbfP; infer_instance
/-- The first field that leads to one. -/
def fbF (b s : List Int) (r c : Int) (l : List Int) : Int := fstN (befP b s r c l) (pw (r * c))
def fbP (b s : List Int) (r c : Int) (l : List Int) : Prop := cbfP b s r c l ∧ 0 ≤ fbF b s r c l
instance (b s : List Int) (r c : Int) (l : List Int) : Decidable (fbP b s r c l) := by unfold fbP; infer_instance
end Go.Proofs.YtnijdhlmimemcaaGreatDoor
/- Two fields put together: the program's and the reference's. -/
namespace Go.Proofs.YtnijdhlmimemcaaGreatDoor
open HL
variable {c i k ca ra cb row col rb : Int} {N : Nat} {la lb : List Int} {p p2 va vb : Value} {H : Hp} {K : Value → Hp → Prop}
set_option maxRecDepth 100000
theorem mkL_congr {f g : Int → Int → Int} (hc : 0 < c) (h : ∀ x y, 0 ≤ x → 0 ≤ y → y < c → x * c + y < N → f x y = g x y) : mkL c f N = mkL c g N := by
  unfold mkL
  apply List.map_congr_left
  intro j hj
  have := List.mem_range.mp hj
  have d := Int.mul_ediv_add_emod (j : Int) c
  rw [Int.mul_comm] at d
  exact h _ _ (Int.ediv_nonneg (by omega) (by omega)) (Int.emod_nonneg _ (by omega)) (Int.emod_lt_of_pos _ hc) (by omega)
theorem mkL_set {f : Int → Int → Int} {v : Int} (hc : 0 < c) (k0 : 0 ≤ k) (k1 : k < c) (h : 0 ≤ i * c) : (mkL c f N).set (i * c + k).toNat v = mkL c (fun x y => if x = i ∧ y = k then v else f x y) N := by
  have hd := divmod (c := c) (i := i) (k := k) hc k0 k1
  apply List.ext_getElem?
  intro j
  rw [List.getElem?_set]
  simp only [mkL, List.getElem?_map, List.length_map, List.length_range]
  by_cases hj : j < N
  · rw [List.getElem?_range hj]
    simp only [Option.map_some]
    by_cases e : (i * c + k).toNat = j
    · rw [if_pos e, if_pos (by omega), if_pos]
      have ej : (j : Int) = i * c + k := by omega
      rw [ej]; exact hd
    · rw [if_neg e, if_neg]
      rintro ⟨h1, h2⟩
      have d := Int.mul_ediv_add_emod (j : Int) c
      rw [h1, h2, Int.mul_comm] at d
      omega
  · rw [List.getElem?_eq_none (by simpa using hj)]
    simp only [Option.map_none]
    split
    · rw [if_neg (by omega)]
    · rfl
theorem mkL_len {g : Int → Int → Int} {rr cc : Int} (h1 : 0 ≤ rr) (h2 : 0 ≤ cc) : ((mkL c g (rr.toNat * cc.toNat)).length : Int) = rr * cc := by
  rw [mkL_length, Int.natCast_mul, Int.toNat_of_nonneg h1, Int.toNat_of_nonneg h2]
theorem mkL_zero : mkL c (fun _ _ => 0) N = List.replicate N 0 := by
  rw [List.eq_replicate_iff]
  refine ⟨mkL_length _ _ _, fun x hx => ?_⟩
  simp only [mkL, List.mem_map] at hx
  obtain ⟨j, _, rfl⟩ := hx
  rfl
theorem flatF_01 {r : Int} {l : List Int} (h : fieldN 1 r c l) (x y : Int) : 0 ≤ flatF r c l x y ∧ flatF r c l x y ≤ 1 := by
  unfold flatF
  split
  · rename_i h1
    have b := ix_lt (a := x) (b := y) (r := r) (c := c) (by omega) (by omega) (by omega) (by omega)
    exact fieldN_at h (by omega) (by omega)
  · omega
/-- Two fields' cells. -/
def metG (ra ca : Int) (la : List Int) (rb cb : Int) (lb : List Int) (row col x y : Int) : Int := max (flatF ra ca la x y) (flatF rb cb lb (x - row) (y - col))
def metA (ca : Int) (la : List Int) (i k x y : Int) : Int := if (x < i ∧ y < ca) ∨ (x = i ∧ y < k) then at_ 0 la (x * ca + y) else 0
def metB (ra ca : Int) (la : List Int) (cb : Int) (lb : List Int) (row col i k x y : Int) : Int :=
  if ((0 ≤ x - row ∧ x - row < i ∧ 0 ≤ y - col ∧ y - col < cb) ∨ (x - row = i ∧ 0 ≤ y - col ∧ y - col < k)) ∧ at_ 0 lb ((x - row) * cb + (y - col)) = 1 then 1 else flatF ra ca la x y
def metO (ra ca rb cb row col : Int) : Prop := (0 ≤ row ∧ row ≤ 24) ∧ (0 ≤ col ∧ col ≤ 24) ∧ (1 ≤ max ra (row + rb) ∧ max ra (row + rb) ≤ 24) ∧ (1 ≤ max ca (col + cb) ∧ max ca (col + cb) ≤ 24)
def metOk (ra ca : Int) (la : List Int) (rb cb : Int) (lb : List Int) (row col : Int) : Prop := fieldN 1 ra ca la ∧ fieldN 1 rb cb lb ∧ metO ra ca rb cb row col
instance (ra ca rb cb row col : Int) : Decidable (metO ra ca rb cb row col) := by unfold metO; infer_instance
instance (ra ca : Int) (la : List Int) (rb cb : Int) (lb : List Int) (row col : Int) : Decidable (metOk ra ca la rb cb lb row col) := by unfold metOk; infer_instance
def metL0 (ra ca : Int) (la : List Int) (rb cb : Int) (lb : List Int) (row col : Int) : List Int := mkL (max ca (col + cb)) (metG ra ca la rb cb lb row col) ((max ra (row + rb)).toNat * (max ca (col + cb)).toNat)
def metL (ra ca : Int) (la : List Int) (rb cb : Int) (lb : List Int) (row col : Int) : List Int := if metOk ra ca la rb cb lb row col then metL0 ra ca la rb cb lb row col else []
def metI (x ra ca : Int) (la : List Int) (rb cb : Int) (lb : List Int) (row col : Int) : Int := if metOk ra ca la rb cb lb row col then x else 0
theorem metA_zero (hc : 0 < c) (h : 0 ≤ ca) : List.replicate N 0 = mkL c (metA ca la 0 0) N := by
  rw [← mkL_zero (c := c)]
  apply mkL_congr hc
  intro x y h1 h2 _ _
  unfold metA
  rw [if_neg (by omega)]
theorem metA_set (k0 : 0 ≤ k) (k1 : k < ca) (k2 : k < c) (i0 : 0 ≤ i) (h : 0 ≤ i * c) : (mkL c (metA ca la i k) N).set (i * c + k).toNat (at_ 0 la (i * ca + k)) = mkL c (metA ca la i (k + 1)) N := by
  rw [mkL_set (by omega) k0 k2 h]
  apply mkL_congr (by omega)
  intro x y h1 h2 _ _
  unfold metA
  by_cases e : x = i ∧ y = k
  · obtain ⟨rfl, rfl⟩ := e
    rw [if_pos ⟨rfl, rfl⟩, if_pos (by omega)]
  · rw [if_neg e]
    by_cases e2 : (x < i ∧ y < ca) ∨ (x = i ∧ y < k)
    · rw [if_pos e2, if_pos (by omega)]
    · rw [if_neg e2, if_neg (by omega)]
theorem metA_row (hc : 0 < c) (k1 : k = ca) : mkL c (metA ca la i k) N = mkL c (metA ca la (i + 1) 0) N := by
  apply mkL_congr hc
  intro x y h1 h2 _ _
  unfold metA
  by_cases e2 : (x < i ∧ y < ca) ∨ (x = i ∧ y < k)
  · rw [if_pos e2, if_pos (by omega)]
  · rw [if_neg e2, if_neg (by omega)]
theorem metA_end (hc : 0 < c) : mkL c (metA ca la ra 0) N = mkL c (metB ra ca la cb lb row col 0 0) N := by
  apply mkL_congr hc
  intro x y h1 h2 _ _
  unfold metA metB
  rw [if_neg (show ¬ (((0 ≤ x - row ∧ x - row < 0 ∧ 0 ≤ y - col ∧ y - col < cb) ∨ (x - row = 0 ∧ 0 ≤ y - col ∧ y - col < 0)) ∧ at_ 0 lb ((x - row) * cb + (y - col)) = 1) from fun h => by have := h.1; omega)]
  unfold flatF
  by_cases e2 : (x < ra ∧ y < ca) ∨ (x = ra ∧ y < 0)
  · rw [if_pos e2, if_pos (by omega)]
  · rw [if_neg e2, if_neg (by omega)]
theorem metB_set (k0 : 0 ≤ k) (k1 : k < cb) (k2 : col + k < c) (i0 : 0 ≤ i) (c0 : 0 ≤ col) (h : 0 ≤ (row + i) * c) (h1 : at_ 0 lb (i * cb + k) = 1) :
    (mkL c (metB ra ca la cb lb row col i k) N).set ((row + i) * c + col + k).toNat 1 = mkL c (metB ra ca la cb lb row col i (k + 1)) N := by
  rw [show (row + i) * c + col + k = (row + i) * c + (col + k) by omega, mkL_set (by omega) (by omega) k2 h]
  apply mkL_congr (by omega)
  intro x y _ _ _ _
  unfold metB
  by_cases e : x = row + i ∧ y = col + k
  · obtain ⟨rfl, rfl⟩ := e
    rw [if_pos ⟨rfl, rfl⟩, if_pos]
    rw [show row + i - row = i by omega, show col + k - col = k by omega]
    exact ⟨by omega, h1⟩
  · rw [if_neg e]
    by_cases e2 : ((0 ≤ x - row ∧ x - row < i ∧ 0 ≤ y - col ∧ y - col < cb) ∨ (x - row = i ∧ 0 ≤ y - col ∧ y - col < k)) ∧ at_ 0 lb ((x - row) * cb + (y - col)) = 1
    · rw [if_pos e2, if_pos ⟨by have := e2.1; omega, e2.2⟩]
    · rw [if_neg e2, if_neg (fun h => e2 ⟨by have := h.1; omega, h.2⟩)]
theorem metB_skip (hc : 0 < c) (h1 : ¬ at_ 0 lb (i * cb + k) = 1) :
    mkL c (metB ra ca la cb lb row col i k) N = mkL c (metB ra ca la cb lb row col i (k + 1)) N := by
  apply mkL_congr hc
  intro x y _ _ _ _
  unfold metB
  by_cases e : x - row = i ∧ y - col = k
  · obtain ⟨rfl, rfl⟩ := e
    rw [if_neg (fun h => h1 h.2), if_neg (fun h => h1 h.2)]
  · by_cases e2 : ((0 ≤ x - row ∧ x - row < i ∧ 0 ≤ y - col ∧ y - col < cb) ∨ (x - row = i ∧ 0 ≤ y - col ∧ y - col < k)) ∧ at_ 0 lb ((x - row) * cb + (y - col)) = 1
    · rw [if_pos e2, if_pos ⟨by have := e2.1; omega, e2.2⟩]
    · rw [if_neg e2, if_neg (fun h => e2 ⟨by have := h.1; omega, h.2⟩)]
theorem metB_row (hc : 0 < c) (i0 : 0 ≤ i) (k1 : k = cb) : mkL c (metB ra ca la cb lb row col i k) N = mkL c (metB ra ca la cb lb row col (i + 1) 0) N := by
  apply mkL_congr hc
  intro x y _ _ _ _
  unfold metB
  by_cases e2 : ((0 ≤ x - row ∧ x - row < i ∧ 0 ≤ y - col ∧ y - col < cb) ∨ (x - row = i ∧ 0 ≤ y - col ∧ y - col < k)) ∧ at_ 0 lb ((x - row) * cb + (y - col)) = 1
  · rw [if_pos e2, if_pos ⟨by have := e2.1; omega, e2.2⟩]
  · rw [if_neg e2, if_neg (fun h => e2 ⟨by have := h.1; omega, h.2⟩)]
theorem metB_end (hc : 0 < c) (ha : fieldN 1 ra ca la) (hb : fieldN 1 rb cb lb) : mkL c (metB ra ca la cb lb row col rb 0) N = mkL c (metG ra ca la rb cb lb row col) N := by
  apply mkL_congr hc
  intro x y _ _ _ _
  have fa := flatF_01 ha x y
  have fb := flatF_01 hb (x - row) (y - col)
  unfold metB metG
  by_cases e : (0 ≤ x - row ∧ x - row ≤ rb - 1) ∧ 0 ≤ y - col ∧ y - col ≤ cb - 1
  · have e3 : flatF rb cb lb (x - row) (y - col) = at_ 0 lb ((x - row) * cb + (y - col)) := by unfold flatF; rw [if_pos e]
    rw [e3] at fb ⊢
    by_cases e4 : at_ 0 lb ((x - row) * cb + (y - col)) = 1
    · rw [if_pos ⟨by omega, e4⟩]; omega
    · rw [if_neg (fun h => e4 h.2)]; omega
  · have e3 : flatF rb cb lb (x - row) (y - col) = 0 := by unfold flatF; rw [if_neg e]
    rw [e3, if_neg (fun h => e (by have := h.1; omega))]; omega
theorem C.c69 (hp0 : Cel H p [.int .i64 ra, .int .i64 ca, va]) (hp20 : Cel H p2 [.int .i64 rb, .int .i64 cb, vb]) (hva0 : Sl eI H va la) (hvb0 : Sl eI H vb lb) (ha : fieldN 1 ra ca la) (hb : fieldN 1 rb cb lb)
    (hk1 : ¬ metO ra ca rb cb row col → ∀ H', Le H H' → K (.tuple #[.agg #[.int .i64 0, .int .i64 0, .slice none 0 0], .bool false]) H')
    (hk2 : metO ra ca rb cb row col → ∀ u H', Own eI H' u (metL0 ra ca la rb cb lb row col) → Nw H u → Le H H' → K (.tuple #[.agg #[.int .i64 (max ra (row + rb)), .int .i64 (max ca (col + cb)), u], .bool true]) H') : HT prg 63 [p, p2, .int .i64 row, .int .i64 col].toArray H K := by
 have lE := Le.refl H
 refine R.q63 ?_
 unfold F.q63
 have q1 := ha.1.1
 have q2 := ha.1.2
 have q3 := hb.1.1
 have q4 := hb.1.2
 have q5 := sidesF_mul ha.1
 have q6 := sidesF_mul hb.1
 have q7 := ha.2.1
 have q8 := hb.2.1
 refine nw_i (fun q H1 oq nn2 le3 => ?_)
 have nq := nn2.le lE
 replace oq : Cel H1 q [(.int .i64 (0)), (.int .i64 (0)), (.slice none 0 0)] := oq
 refine C.c0  ?_
 refine ob_nd (fun hc4 => ?_) (fun hc4 => ?_)
 refine gop_rf (gop_rf (C.c0  ?_))
 refine gop_rf (ob_nd (fun hc5 => ?_) (fun hc5 => ?_))
 refine ob_i (vPick_f _ _) (cnd_f1 ?_)
 replace lE := lE.trans le3
 refine ob_i ((hp0.le lE).nilC) (ob_i ((hp0.le lE).fa 0) (ob_i ((hp0.le lE).ld 0 rfl) (ob_i ((hp20.le lE).nilC) (ob_i ((hp20.le lE).fa 0) (ob_i ((hp20.le lE).ld 0 rfl) (ob_i (vInt_add (by omega) (by omega)) (C.c28  ?_)))))))
 refine ⟨Le.refl _, ?_⟩
 obtain ⟨mr, hmr⟩ : ∃ x, x = max (ra) (row + rb) := ⟨_, rfl⟩
 rw [← hmr]
 refine ob_i ((hp0.le lE).nilC) (ob_i ((hp0.le lE).fa 1) (ob_i ((hp0.le lE).ld 1 rfl) (ob_i ((hp20.le lE).nilC) (ob_i ((hp20.le lE).fa 1) (ob_i ((hp20.le lE).ld 1 rfl) (ob_i (vInt_add (by omega) (by omega)) (C.c28  ?_)))))))
 refine ⟨Le.refl _, ?_⟩
 obtain ⟨mc, hmc⟩ : ∃ x, x = max (ca) (col + cb) := ⟨_, rfl⟩
 rw [← hmc]
 refine C.c24  ?_
 refine ob_nd (fun hc6 => ?_) (fun hc6 => ?_)
 refine cnd_f1 (C.c23 (by omega) (by omega) (by omega) (by omega) (fun u H7 ou nn9  le8 => ?_))
 have aqXu := oq.apart nn9
 have nu := nn9.le lE
 refine nw_i (fun s H10 os nn11 le12 => ?_)
 replace oq := oq.le le8
 have aqXs := oq.apart nn11
 have auXs := ou.apart nn11
 replace lE := lE.trans le8
 have ns := nn11.le lE
 replace ou := ou.le le12
 refine os.stn (ws := [(.int .i64 (mr)), (.int .i64 (mc)), u]) rfl rfl (oc1 rfl (oc1 rfl (oc1 ou.one oc0))) (fun H13 os off14 => ?_)
 refine jn_i (fun σ' H' => σ' 1 = p2 ∧ σ' 2 = (.int .i64 (row)) ∧ σ' 3 = (.int .i64 (col)) ∧ σ' 8 = q ∧ σ' 11 = (.int .i64 (mc)) ∧ σ' 12 = s ∧ Cel H' q [(.int .i64 (0)), (.int .i64 (0)), (.slice none 0 0)] ∧ Own eI H' u (mkL mc (metB ra ca la cb lb row col (0) (0)) (mr.toNat * mc.toNat)) ∧ Cel H' s [(.int .i64 (mr)), (.int .i64 (mc)), u] ∧ Le H H') (fun σ15 H15 hP => ?_) (fun J15 hJ15 => ?_)
 replace oq := (oq.le le12).off off14 aqXs
 replace lE := off14.le (lE.trans le12) ns
 replace ou := ou.off off14 auXs
 obtain ⟨g1L15, g2L15, g3L15, g8L15, g11L15, g12L15, oq, ou, os, lE⟩ := hP
 try simp only [g1L15, g2L15, g3L15, g8L15, g11L15, g12L15]
 refine jn_i (fun σ' H' => σ' 8 = q ∧ σ' 12 = s ∧ Cel H' q [(.int .i64 (0)), (.int .i64 (0)), (.slice none 0 0)] ∧ Own eI H' u (mkL mc (metG ra ca la rb cb lb row col) (mr.toNat * mc.toNat)) ∧ Cel H' s [(.int .i64 (mr)), (.int .i64 (mc)), u] ∧ Le H H') (fun σ16 H16 hP => ?_) (fun J16 hJ16 => ?_)
 obtain ⟨g8L16, g12L16, oq, ou, os, lE⟩ := hP
 try simp only [g8L16, g12L16]
 refine ob_i (os.ldn rfl) (oq.stn (ws := [(.int .i64 (mr)), (.int .i64 (mc)), u]) rfl rfl (oc1 rfl (oc1 rfl (oc1 ou.one oc0))) (fun H17 oq off18 => ?_))
 refine ob_i (oq.ldn rfl) ?_
 subst hmr hmc
 replace ou := ou.off off18 aqXu.symm
 replace lE := off18.le lE nq
 exact hk2 ⟨hc4, hc5, hc6⟩ u _ ou nu lE
 refine ⟨fun n' σ' H' => ∃ i : Nat, n' = rb.toNat - i ∧ i ≤ rb.toNat ∧ σ' 1 = p2 ∧ σ' 2 = (.int .i64 (row)) ∧ σ' 3 = (.int .i64 (col)) ∧ σ' 8 = q ∧ σ' 11 = (.int .i64 (mc)) ∧ σ' 12 = s ∧ σ' 15 = (.int .i64 ((i : Int))) ∧ Cel H' q [(.int .i64 (0)), (.int .i64 (0)), (.slice none 0 0)] ∧ Own eI H' u (mkL mc (metB ra ca la cb lb row col ((i : Int)) (0)) (mr.toNat * mc.toNat)) ∧ Cel H' s [(.int .i64 (mr)), (.int .i64 (mc)), u] ∧ Le H H',
    ⟨_, 0, rfl, by omega, g1L15, g2L15, g3L15, g8L15, g11L15, g12L15, rfl, oq, ou, os, lE⟩, ?_⟩
 rintro n19 σ19 H19 ⟨i, rfl, hiN, g1L19, g2L19, g3L19, g8L19, g11L19, g12L19, g15L19, oq, ou, os, lE⟩
 try simp only [g1L19, g2L19, g3L19, g8L19, g11L19, g12L19, g15L19]
 refine ob_i ((hp20.le lE).nilC) (ob_i ((hp20.le lE).fa 0) (ob_i ((hp20.le lE).ld 0 rfl) (ob_i (vInt_lss _ _ _) (cnd_d (fun hg20 => ?_) (fun hg20 => ?_)))))
 have ti := hg20
 refine jn_i (fun σ' H' => σ' 1 = p2 ∧ σ' 2 = (.int .i64 (row)) ∧ σ' 3 = (.int .i64 (col)) ∧ σ' 8 = q ∧ σ' 11 = (.int .i64 (mc)) ∧ σ' 12 = s ∧ σ' 15 = (.int .i64 ((i : Int))) ∧ Cel H' q [(.int .i64 (0)), (.int .i64 (0)), (.slice none 0 0)] ∧ Own eI H' u (mkL mc (metB ra ca la cb lb row col ((i : Int) + 1) (0)) (mr.toNat * mc.toNat)) ∧ Cel H' s [(.int .i64 (mr)), (.int .i64 (mc)), u] ∧ Le H H') (fun σ21 H21 hP => ?_) (fun J21 hJ21 => ?_)
 obtain ⟨g1L21, g2L21, g3L21, g8L21, g11L21, g12L21, g15L21, oq, ou, os, lE⟩ := hP
 try simp only [g8L21, g15L21]
 exact ob_i (vInt_add (by omega) (by omega)) (nxt (rb.toNat - (i + 1)) (by omega) ⟨i + 1, rfl, by omega, g1L21, g2L21, g3L21, g8L21, g11L21, g12L21, rfl, oq, ou, os, lE⟩)
 refine ⟨fun n' σ' H' => ∃ k : Nat, n' = cb.toNat - k ∧ k ≤ cb.toNat ∧ σ' 1 = p2 ∧ σ' 2 = (.int .i64 (row)) ∧ σ' 3 = (.int .i64 (col)) ∧ σ' 8 = q ∧ σ' 11 = (.int .i64 (mc)) ∧ σ' 12 = s ∧ σ' 15 = (.int .i64 ((i : Int))) ∧ σ' 16 = (.int .i64 ((k : Int))) ∧ Cel H' q [(.int .i64 (0)), (.int .i64 (0)), (.slice none 0 0)] ∧ Own eI H' u (mkL mc (metB ra ca la cb lb row col ((i : Int)) ((k : Int))) (mr.toNat * mc.toNat)) ∧ Cel H' s [(.int .i64 (mr)), (.int .i64 (mc)), u] ∧ Le H H',
    ⟨_, 0, rfl, by omega, g1L19, g2L19, g3L19, g8L19, g11L19, g12L19, g15L19, rfl, oq, ou, os, lE⟩, ?_⟩
 rintro n22 σ22 H22 ⟨k, rfl, hkN, g1L22, g2L22, g3L22, g8L22, g11L22, g12L22, g15L22, g16L22, oq, ou, os, lE⟩
 try simp only [g1L22, g2L22, g3L22, g8L22, g11L22, g12L22, g15L22, g16L22]
 refine ob_i ((hp20.le lE).nilC) (ob_i ((hp20.le lE).fa 1) (ob_i ((hp20.le lE).ld 1 rfl) (ob_i (vInt_lss _ _ _) (cnd_d (fun hg23 => ?_) (fun hg23 => ?_)))))
 have tk := hg23
 have x1 := ix_lt (a := (i : Int)) (b := (k : Int)) (r := rb) (c := cb) (by omega) (by omega) (by omega) (by omega)
 have x2 := ix_lt (a := row + (i : Int)) (b := col + (k : Int)) (r := mr) (c := mc) (by omega) (by omega) (by omega) (by omega)
 have x3 := mkL_len (c := mc) (g := metB ra ca la cb lb row col (i : Int) (k : Int)) (rr := mr) (cc := mc) (by omega) (by omega)
 have x4 := ix_le (a := mr) (b := mc) (by omega) (by omega) (by omega) (by omega)
 refine ob_i ((hp20.le lE).nilC) (ob_i ((hp20.le lE).fa 2) (ob_i ((hp20.le lE).ld 2 rfl) (ob_i ((hp20.le lE).nilC) (ob_i ((hp20.le lE).fa 1) (ob_i ((hp20.le lE).ld 1 rfl) (ob_i (vInt_mul (by omega) (by omega)) (ob_i (vInt_add (by omega) (by omega)) (ob_i ((hvb0.le lE).ix (by omega) (by omega)) (ob_i ((hvb0.le lE).ld 0 (by omega) (by omega)) ?_)))))))))
 refine ob_i (vInt_eql _ _ _) (cnd_d (fun hg24 => ?_) (fun hg24 => ?_))
 refine ob_i (os.fa 2) (ob_i (os.ld 2 rfl) (ob_i (vInt_add (by omega) (by omega)) (ob_i (vInt_mul (by omega) (by omega)) (ob_i (vInt_add (by omega) (by omega)) (ob_i (vInt_add (by omega) (by omega)) (ob_i (ou.sl.ix (by omega) (by omega)) (ou.st (x := 1) (by omega) (by omega) rfl rfl (fun H25 ou off26 => ?_))))))))
 refine ob_i (vInt_add (by omega) (by omega)) ?_
 rw [metB_set (by omega) (by omega) (by omega) (by omega) (by omega) (by omega) hg24] at ou
 replace oq := oq.off off26 aqXu
 replace os := os.off off26 auXs.symm
 replace lE := off26.le lE nu
 exact nxt (cb.toNat - (k + 1)) (by omega) ⟨k + 1, rfl, by omega, g1L22, g2L22, g3L22, g8L22, g11L22, g12L22, g15L22, rfl, oq, ou, os, lE⟩
 refine ob_i (vInt_add (by omega) (by omega)) ?_
 rw [metB_skip (by omega) hg24] at ou
 exact nxt (cb.toNat - (k + 1)) (by omega) ⟨k + 1, rfl, by omega, g1L22, g2L22, g3L22, g8L22, g11L22, g12L22, g15L22, rfl, oq, ou, os, lE⟩
 have tk := hg23
 rw [metB_row (by omega) (by omega) (show (k : Int) = cb by omega)] at ou
 exact hJ21 _ _ ⟨g1L22, g2L22, g3L22, g8L22, g11L22, g12L22, g15L22, oq, ou, os, lE⟩
 have ti := hg20
 rw [show (i : Int) = rb by omega, metB_end (by omega) ha hb] at ou
 exact hJ16 _ _ ⟨g8L19, g12L19, oq, ou, os, lE⟩
 replace oq := (oq.le le12).off off14 aqXs
 replace lE := off14.le (lE.trans le12) ns
 replace ou := ou.off off14 auXs
 refine ⟨fun n' σ' H' => ∃ i : Nat, n' = ra.toNat - i ∧ i ≤ ra.toNat ∧ σ' 0 = p ∧ σ' 1 = p2 ∧ σ' 2 = (.int .i64 (row)) ∧ σ' 3 = (.int .i64 (col)) ∧ σ' 8 = q ∧ σ' 11 = (.int .i64 (mc)) ∧ σ' 12 = s ∧ σ' 13 = (.int .i64 ((i : Int))) ∧ Cel H' q [(.int .i64 (0)), (.int .i64 (0)), (.slice none 0 0)] ∧ Own eI H' u (mkL mc (metA ca la ((i : Int)) (0)) (mr.toNat * mc.toNat)) ∧ Cel H' s [(.int .i64 (mr)), (.int .i64 (mc)), u] ∧ Le H H',
    ⟨_, 0, rfl, by omega, rfl, rfl, rfl, rfl, rfl, rfl, rfl, rfl, oq, by rw [metA_zero (c := mc) (ca := ca) (la := la) (by omega) (by omega)] at ou; exact ou, os, lE⟩, ?_⟩
 rintro n27 σ27 H27 ⟨i, rfl, hiN, g0L27, g1L27, g2L27, g3L27, g8L27, g11L27, g12L27, g13L27, oq, ou, os, lE⟩
 try simp only [g0L27, g8L27, g11L27, g12L27, g13L27]
 refine ob_i ((hp0.le lE).nilC) (ob_i ((hp0.le lE).fa 0) (ob_i ((hp0.le lE).ld 0 rfl) (ob_i (vInt_lss _ _ _) (cnd_d (fun hg28 => ?_) (fun hg28 => ?_)))))
 have ti := hg28
 refine jn_i (fun σ' H' => σ' 0 = p ∧ σ' 1 = p2 ∧ σ' 2 = (.int .i64 (row)) ∧ σ' 3 = (.int .i64 (col)) ∧ σ' 8 = q ∧ σ' 11 = (.int .i64 (mc)) ∧ σ' 12 = s ∧ σ' 13 = (.int .i64 ((i : Int))) ∧ Cel H' q [(.int .i64 (0)), (.int .i64 (0)), (.slice none 0 0)] ∧ Own eI H' u (mkL mc (metA ca la ((i : Int) + 1) (0)) (mr.toNat * mc.toNat)) ∧ Cel H' s [(.int .i64 (mr)), (.int .i64 (mc)), u] ∧ Le H H') (fun σ29 H29 hP => ?_) (fun J29 hJ29 => ?_)
 obtain ⟨g0L29, g1L29, g2L29, g3L29, g8L29, g11L29, g12L29, g13L29, oq, ou, os, lE⟩ := hP
 try simp only [g8L29, g13L29]
 exact ob_i (vInt_add (by omega) (by omega)) (nxt (ra.toNat - (i + 1)) (by omega) ⟨i + 1, rfl, by omega, g0L29, g1L29, g2L29, g3L29, g8L29, g11L29, g12L29, rfl, oq, ou, os, lE⟩)
 refine ⟨fun n' σ' H' => ∃ k : Nat, n' = ca.toNat - k ∧ k ≤ ca.toNat ∧ σ' 0 = p ∧ σ' 1 = p2 ∧ σ' 2 = (.int .i64 (row)) ∧ σ' 3 = (.int .i64 (col)) ∧ σ' 8 = q ∧ σ' 11 = (.int .i64 (mc)) ∧ σ' 12 = s ∧ σ' 13 = (.int .i64 ((i : Int))) ∧ σ' 14 = (.int .i64 ((k : Int))) ∧ Cel H' q [(.int .i64 (0)), (.int .i64 (0)), (.slice none 0 0)] ∧ Own eI H' u (mkL mc (metA ca la ((i : Int)) ((k : Int))) (mr.toNat * mc.toNat)) ∧ Cel H' s [(.int .i64 (mr)), (.int .i64 (mc)), u] ∧ Le H H',
    ⟨_, 0, rfl, by omega, g0L27, g1L27, g2L27, g3L27, g8L27, g11L27, g12L27, g13L27, rfl, oq, ou, os, lE⟩, ?_⟩
 rintro n30 σ30 H30 ⟨k, rfl, hkN, g0L30, g1L30, g2L30, g3L30, g8L30, g11L30, g12L30, g13L30, g14L30, oq, ou, os, lE⟩
 try simp only [g0L30, g8L30, g11L30, g12L30, g13L30, g14L30]
 refine ob_i ((hp0.le lE).nilC) (ob_i ((hp0.le lE).fa 1) (ob_i ((hp0.le lE).ld 1 rfl) (ob_i (vInt_lss _ _ _) (cnd_d (fun hg31 => ?_) (fun hg31 => ?_)))))
 have tk := hg31
 have x1 := ix_lt (a := (i : Int)) (b := (k : Int)) (r := ra) (c := ca) (by omega) (by omega) (by omega) (by omega)
 have x2 := ix_lt (a := (i : Int)) (b := (k : Int)) (r := mr) (c := mc) (by omega) (by omega) (by omega) (by omega)
 have x3 := mkL_len (c := mc) (g := metA ca la (i : Int) (k : Int)) (rr := mr) (cc := mc) (by omega) (by omega)
 have x4 := ix_le (a := mr) (b := mc) (by omega) (by omega) (by omega) (by omega)
 refine ob_i (os.fa 2) (ob_i (os.ld 2 rfl) (ob_i (vInt_mul (by omega) (by omega)) (ob_i (vInt_add (by omega) (by omega)) (ob_i ((hp0.le lE).nilC) (ob_i ((hp0.le lE).fa 2) (ob_i ((hp0.le lE).ld 2 rfl) (ob_i ((hp0.le lE).nilC) (ob_i ((hp0.le lE).fa 1) (ob_i ((hp0.le lE).ld 1 rfl) ?_)))))))))
 refine ob_i (vInt_mul (by omega) (by omega)) (ob_i (vInt_add (by omega) (by omega)) (ob_i ((hva0.le lE).ix (by omega) (by omega)) (ob_i ((hva0.le lE).ld 0 (by omega) (by omega)) (ob_i (ou.sl.ix (by omega) (by omega)) (ou.st (x := at_ 0 (la) (((i : Int) * ca) + (k : Int))) (by omega) (by omega) rfl rfl (fun H32 ou off33 => ?_))))))
 refine ob_i (vInt_add (by omega) (by omega)) ?_
 rw [metA_set (by omega) (by omega) (by omega) (by omega) (by omega)] at ou
 replace oq := oq.off off33 aqXu
 replace os := os.off off33 auXs.symm
 replace lE := off33.le lE nu
 exact nxt (ca.toNat - (k + 1)) (by omega) ⟨k + 1, rfl, by omega, g0L30, g1L30, g2L30, g3L30, g8L30, g11L30, g12L30, g13L30, rfl, oq, ou, os, lE⟩
 have tk := hg31
 rw [metA_row (by omega) (show (k : Int) = ca by omega)] at ou
 exact hJ29 _ _ ⟨g0L30, g1L30, g2L30, g3L30, g8L30, g11L30, g12L30, g13L30, oq, ou, os, lE⟩
 have ti := hg28
 rw [show (i : Int) = ra by omega, metA_end (cb := cb) (lb := lb) (row := row) (col := col) (by omega)] at ou
 exact hJ15 _ _ ⟨g1L27, g2L27, g3L27, g8L27, g11L27, g12L27, oq, ou, os, lE⟩
 refine cnd_t1 (ob_i (a := (.agg #[(.int .i64 (0)), (.int .i64 (0)), (.slice none 0 0)])) (by rfl) ?_)
 refine oq.stn (ws := [(.int .i64 (0)), (.int .i64 (0)), (.slice none 0 0)]) rfl rfl (oc1 rfl (oc1 rfl (oc1 rfl oc0))) (fun H34 oq off35 => ?_)
 refine ob_i (oq.ldn rfl) ?_
 subst hmr hmc
 replace lE := off35.le lE nq
 exact hk1 (fun h => hc6 ⟨h.2.2.1, h.2.2.2⟩) _ lE
 refine ob_i (vPick_f _ _) (cnd_t1 (ob_i (a := (.agg #[(.int .i64 (0)), (.int .i64 (0)), (.slice none 0 0)])) (by rfl) ?_))
 refine oq.stn (ws := [(.int .i64 (0)), (.int .i64 (0)), (.slice none 0 0)]) rfl rfl (oc1 rfl (oc1 rfl (oc1 rfl oc0))) (fun H36 oq off37 => ?_)
 refine ob_i (oq.ldn rfl) ?_
 replace lE := off37.le (lE.trans le3) nq
 exact hk1 (fun h => hc5 h.2.1) _ lE
 refine gop_st (gop_st (gop_st (ob_i (vPick_t _ _) (cnd_t1 (ob_i (a := (.agg #[(.int .i64 (0)), (.int .i64 (0)), (.slice none 0 0)])) (by rfl) ?_)))))
 refine oq.stn (ws := [(.int .i64 (0)), (.int .i64 (0)), (.slice none 0 0)]) rfl rfl (oc1 rfl (oc1 rfl (oc1 rfl oc0))) (fun H38 oq off39 => ?_)
 refine ob_i (oq.ldn rfl) ?_
 replace lE := off39.le (lE.trans le3) nq
 exact hk1 (fun h => hc4 h.1) _ lE

theorem C.c70 {q s : Value} (hp0 : Cel H p [.int .i64 ra, .int .i64 ca, va]) (hp20 : Cel H p2 [.int .i64 rb, .int .i64 cb, vb]) (hq0 : Cel H q [.int .i64 row]) (hs0 : Cel H s [.int .i64 col])
    (hva0 : Sl eI H va la) (hvb0 : Sl eI H vb lb) (ha : fieldN 1 ra ca la) (hb : fieldN 1 rb cb lb) (i0 : 0 ≤ i) (i1 : i ≤ 1000) (k0 : 0 ≤ k) (k1 : k ≤ 1000) (h0 : 0 ≤ row ∧ row ≤ 24) (h1 : 0 ≤ col ∧ col ≤ 24)
    (hk : ∀ H', Le H H' → K (.int .i64 (metG ra ca la rb cb lb row col i k)) H') : HT prg 89 [.int .i64 i, .int .i64 k, p, p2, q, s].toArray H K := by
 have lE := Le.refl H
 refine R.q89 ?_
 unfold F.q89
 refine ob_i ((hp0.le lE).ldn rfl) (ob_i ((hp20.le lE).ldn rfl) (ob_i ((hq0.le lE).ld0 rfl) (ob_i (vInt_sub (by omega) (by omega)) (ob_i ((hs0.le lE).ld0 rfl) (ob_i (vInt_sub (by omega) (by omega)) (C.c20 (hva0.le lE) ha.1 ha.2.1 (fun H1 le2 => ?_)))))))
 refine ⟨le2, ?_⟩
 replace lE := lE.trans le2
 refine C.c20 (hvb0.le lE) hb.1 hb.2.1 (fun H3 le4 => ?_)
 refine ⟨le4, ?_⟩
 refine ob_i (vMx_max _ _ _) ?_
 replace lE := lE.trans le4
 exact hk _ lE

theorem C.c71 (hva0 : Sl eI H va la) (hvb0 : Sl eI H vb lb) (k1 : la.length ≤ 9223372036854775807) (k2 : lb.length ≤ 9223372036854775807)
    (hk1 : ¬ metOk ra ca la rb cb lb row col → ∀ H', Le H H' → K (.tuple #[.agg #[.int .i64 0, .int .i64 0, .slice none 0 0], .bool false]) H')
    (hk2 : metOk ra ca la rb cb lb row col → ∀ u H', Own eI H' u (metL0 ra ca la rb cb lb row col) → Nw H u → Le H H' → K (.tuple #[.agg #[.int .i64 (max ra (row + rb)), .int .i64 (max ca (col + cb)), u], .bool true]) H') : HT prg 59 [.agg #[.int .i64 ra, .int .i64 ca, va], .agg #[.int .i64 rb, .int .i64 cb, vb], .int .i64 row, .int .i64 col].toArray H K := by
 have lE := Le.refl H
 refine R.q59 ?_
 unfold F.q59
 refine nw_i (fun p H1 op nn2 le3 => ?_)
 replace op : Cel H1 p [(.int .i64 (ra)), (.int .i64 (ca)), va] := op
 refine nw_i (fun p2 H4 op2 nn5 le6 => ?_)
 replace op2 : Cel H4 p2 [(.int .i64 (rb)), (.int .i64 (cb)), vb] := op2
 refine nw_i (fun r1 H7 or1 nn8 le9 => ?_)
 replace or1 : Cel H7 r1 [(.int .i64 (row))] := or1
 refine nw_i (fun r2 H10 or2 nn11 le12 => ?_)
 replace or2 : Cel H10 r2 [(.int .i64 (col))] := or2
 refine nw_i (fun q H13 oq nn14 le15 => ?_)
 replace lE := (((lE.trans le3).trans le6).trans le9).trans le12
 have nq := nn14.le lE
 replace oq : Cel H13 q [(.int .i64 (0)), (.int .i64 (0)), (.slice none 0 0)] := oq
 replace op := (((op.le le6).le le9).le le12).le le15
 refine ob_i (op.ldn rfl) ?_
 replace lE := lE.trans le15
 refine C.c8 (hva0.le lE) k1 (fun H16 le17 => ?_)
 refine ob_nd (fun hc18 => ?_) (fun hc18 => ?_)
 have q1 := hc18.1.1
 have q2 := hc18.1.2
 refine gop_rf ?_
 replace op2 := (((op2.le le9).le le12).le le15).le le17
 refine ob_i (op2.ldn rfl) (gop_rf ?_)
 replace lE := lE.trans le17
 refine C.c8 (hvb0.le lE) k2 (fun H19 le20 => ?_)
 refine gop_rf (ob_nd (fun hc21 => ?_) (fun hc21 => ?_))
 have q3 := hc21.1.1
 have q4 := hc21.1.2
 refine ob_i (vPick_f _ _) (gop_rf ?_)
 replace or1 := (((or1.le le12).le le15).le le17).le le20
 refine ob_i (or1.ld0 rfl) (gop_rf (C.c1  ?_))
 refine gop_rf (ob_nd (fun hc22 => ?_) (fun hc22 => ?_))
 refine ob_i (vPick_f _ _) (gop_rf ?_)
 replace or2 := ((or2.le le15).le le17).le le20
 refine ob_i (or2.ld0 rfl) (gop_rf (C.c1  ?_))
 refine gop_rf (ob_nd (fun hc23 => ?_) (fun hc23 => ?_))
 refine ob_i (vPick_f _ _) (cnd_f1 ?_)
 replace op := (op.le le17).le le20
 refine ob_i (op.fa 0) (ob_i (op.ld 0 rfl) (ob_i (or1.ld0 rfl) ?_))
 replace op2 := op2.le le20
 refine ob_i (op2.fa 0) (ob_i (op2.ld 0 rfl) (ob_i (vInt_add (by omega) (by omega)) (ob_i (vMx_max _ _ _) ?_)))
 obtain ⟨mr, hmr⟩ : ∃ x, x = max (ra) (row + rb) := ⟨_, rfl⟩
 rw [← hmr]
 refine ob_i (op.fa 1) (ob_i (op.ld 1 rfl) (ob_i (or2.ld0 rfl) (ob_i (op2.fa 1) (ob_i (op2.ld 1 rfl) (ob_i (vInt_add (by omega) (by omega)) (ob_i (vMx_max _ _ _) ?_))))))
 obtain ⟨mc, hmc⟩ : ∃ x, x = max (ca) (col + cb) := ⟨_, rfl⟩
 rw [← hmc]
 refine C.c6  ?_
 refine ob_nd (fun hc24 => ?_) (fun hc24 => ?_)
 refine gop_rf (gop_rf (C.c6  ?_))
 refine gop_rf (ob_nd (fun hc25 => ?_) (fun hc25 => ?_))
 refine ob_i (vPick_f _ _) (cnd_f1 (C.c18 (g := metG ra ca la rb cb lb row col) (by omega) (by omega) (by omega) (by omega) (fun H' i k Z le hi hk' hZ => ?_) (fun u26 H27 ou26 nn28 le29 => ?_)))
 refine ⟨by kernel_rfl, ?_⟩
 replace lE := lE.trans le20
 exact C.c70 (op.le le) (op2.le le) (or1.le le) (or2.le le) ((hva0.le lE).le le) ((hvb0.le lE).le le) hc18 hc21 (by omega) (by omega) (by omega) (by omega) (by omega) (by omega) hZ
 replace oq := (oq.le le17).le le20
 have aqXu26 := oq.apart nn28
 replace lE := lE.trans le20
 have nu26 := nn28.le lE
 replace oq := oq.le le29
 refine oq.stn (ws := [(.int .i64 (mr)), (.int .i64 (mc)), u26]) rfl rfl (oc1 rfl (oc1 rfl (oc1 ou26.one oc0))) (fun H30 oq off31 => ?_)
 refine ob_i (oq.ldn rfl) ?_
 subst hmr hmc
 replace lE := off31.le (lE.trans le29) nq
 replace ou26 := ou26.off off31 aqXu26.symm
 exact hk2 ⟨hc18, hc21, hc22, hc23, hc24, hc25⟩ u26 _ ou26 nu26 lE
 refine ob_i (vPick_f _ _) (cnd_t1 (ob_i (a := (.agg #[(.int .i64 (0)), (.int .i64 (0)), (.slice none 0 0)])) (by rfl) ?_))
 replace oq := (oq.le le17).le le20
 refine oq.stn (ws := [(.int .i64 (0)), (.int .i64 (0)), (.slice none 0 0)]) rfl rfl (oc1 rfl (oc1 rfl (oc1 rfl oc0))) (fun H32 oq off33 => ?_)
 refine ob_i (oq.ldn rfl) ?_
 subst hmr hmc
 replace lE := off33.le (lE.trans le20) nq
 exact hk1 (fun h => hc25 h.2.2.2.2.2) _ lE
 refine gop_st (gop_st (gop_st (ob_i (vPick_t _ _) (cnd_t1 (ob_i (a := (.agg #[(.int .i64 (0)), (.int .i64 (0)), (.slice none 0 0)])) (by rfl) ?_)))))
 replace oq := (oq.le le17).le le20
 refine oq.stn (ws := [(.int .i64 (0)), (.int .i64 (0)), (.slice none 0 0)]) rfl rfl (oc1 rfl (oc1 rfl (oc1 rfl oc0))) (fun H34 oq off35 => ?_)
 refine ob_i (oq.ldn rfl) ?_
 subst hmr hmc
 replace lE := off35.le (lE.trans le20) nq
 exact hk1 (fun h => hc24 h.2.2.2.2.1) _ lE
 refine ob_i (vPick_f _ _) (cnd_t1 (ob_i (a := (.agg #[(.int .i64 (0)), (.int .i64 (0)), (.slice none 0 0)])) (by rfl) ?_))
 replace oq := (oq.le le17).le le20
 refine oq.stn (ws := [(.int .i64 (0)), (.int .i64 (0)), (.slice none 0 0)]) rfl rfl (oc1 rfl (oc1 rfl (oc1 rfl oc0))) (fun H36 oq off37 => ?_)
 refine ob_i (oq.ldn rfl) ?_
 replace lE := off37.le (lE.trans le20) nq
 exact hk1 (fun h => hc23 h.2.2.2.1) _ lE
 refine ob_i (vPick_f _ _) (gop_st (gop_st (gop_st (ob_i (vPick_t _ _) (cnd_t1 (ob_i (a := (.agg #[(.int .i64 (0)), (.int .i64 (0)), (.slice none 0 0)])) (by rfl) ?_))))))
 replace oq := (oq.le le17).le le20
 refine oq.stn (ws := [(.int .i64 (0)), (.int .i64 (0)), (.slice none 0 0)]) rfl rfl (oc1 rfl (oc1 rfl (oc1 rfl oc0))) (fun H38 oq off39 => ?_)
 refine ob_i (oq.ldn rfl) ?_
 replace lE := off39.le (lE.trans le20) nq
 exact hk1 (fun h => hc22 h.2.2.1) _ lE
 refine ob_i (vPick_f _ _) (gop_st (gop_st (gop_st (ob_i (vPick_t _ _) (gop_st (gop_st (gop_st (ob_i (vPick_t _ _) (cnd_t1 ?_)))))))))
 refine ob_i (a := (.agg #[(.int .i64 (0)), (.int .i64 (0)), (.slice none 0 0)])) (by rfl) ?_
 replace oq := (oq.le le17).le le20
 refine oq.stn (ws := [(.int .i64 (0)), (.int .i64 (0)), (.slice none 0 0)]) rfl rfl (oc1 rfl (oc1 rfl (oc1 rfl oc0))) (fun H40 oq off41 => ?_)
 refine ob_i (oq.ldn rfl) ?_
 replace lE := off41.le (lE.trans le20) nq
 exact hk1 (fun h => hc21 h.2.1) _ lE
 refine gop_st (gop_st (gop_st (ob_i (vPick_t _ _) (gop_st (gop_st (gop_st (ob_i (vPick_t _ _) (gop_st (gop_st ?_)))))))))
 refine gop_st (ob_i (vPick_t _ _) (cnd_t1 (ob_i (a := (.agg #[(.int .i64 (0)), (.int .i64 (0)), (.slice none 0 0)])) (by rfl) ?_)))
 replace oq := oq.le le17
 refine oq.stn (ws := [(.int .i64 (0)), (.int .i64 (0)), (.slice none 0 0)]) rfl rfl (oc1 rfl (oc1 rfl (oc1 rfl oc0))) (fun H42 oq off43 => ?_)
 refine ob_i (oq.ldn rfl) ?_
 replace lE := off43.le (lE.trans le17) nq
 exact hk1 (fun h => hc18 h.1) _ lE

theorem C.c72 (hva0 : Sl eI H va la) (hvb0 : Sl eI H vb lb) (k1 : la.length ≤ 9223372036854775807) (k2 : lb.length ≤ 9223372036854775807)
    (hk : ∀ u H', Own eI H' u (metL ra ca la rb cb lb row col) → Nw H u → Le H H' → K (.tuple #[.agg #[.int .i64 (metI (max ra (row + rb)) ra ca la rb cb lb row col), .int .i64 (metI (max ca (col + cb)) ra ca la rb cb lb row col), u], .bool (decide (metOk ra ca la rb cb lb row col))]) H') :
    HT prg 20 [.agg #[.int .i64 ra, .int .i64 ca, va], .agg #[.int .i64 rb, .int .i64 cb, vb], .int .i64 row, .int .i64 col].toArray H K := by
 have lE := Le.refl H
 refine R.q20 ?_
 unfold F.q20
 refine nw_i (fun p H1 op nn2 le3 => ?_)
 replace op : Cel H1 p [(.int .i64 (ra)), (.int .i64 (ca)), va] := op
 refine nw_i (fun p2 H4 op2 nn5 le6 => ?_)
 replace op2 : Cel H4 p2 [(.int .i64 (rb)), (.int .i64 (cb)), vb] := op2
 refine nw_i (fun q H7 oq nn8 le9 => ?_)
 replace lE := (lE.trans le3).trans le6
 have nq := nn8.le lE
 replace oq : Cel H7 q [(.int .i64 (0)), (.int .i64 (0)), (.slice none 0 0)] := oq
 replace op := (op.le le6).le le9
 refine ob_i (op.ldn rfl) ?_
 replace op2 := op2.le le9
 refine ob_i (op2.ldn rfl) ?_
 replace lE := lE.trans le9
 refine C.c71 (hva0.le lE) (hvb0.le lE) k1 k2 (fun ht10 H11 le12 => ?_) (fun ht10 u13 H11 ou13 nn14 le12 => ?_)
 refine ob_i (vExt_20 _ _) (ob_i (vExt_21 _ _) ?_)
 replace oq := oq.le le12
 refine oq.stn (ws := [(.int .i64 (0)), (.int .i64 (0)), (.slice none 0 0)]) rfl rfl (oc1 rfl (oc1 rfl (oc1 rfl oc0))) (fun H15 oq off16 => ?_)
 refine ob_i (oq.ldn rfl) ?_
 have hok : ¬ metOk ra ca la rb cb lb row col := fun h => ht10 h
 have h1 := hk (.slice none 0 0) H15
 simp only [metL, metI, hok, if_false, decide_false] at h1
 replace lE := off16.le (lE.trans le12) nq
 exact h1 (Own.nil_of none) (fun b hb => by simp [bk] at hb) lE
 have aqXu13 := oq.apart nn14
 have nu13 := nn14.le lE
 refine ob_i (vExt_20 _ _) (ob_i (vExt_21 _ _) ?_)
 replace oq := oq.le le12
 refine oq.stn (ws := [(.int .i64 (max ra (row + rb))), (.int .i64 (max ca (col + cb))), u13]) rfl rfl (oc1 rfl (oc1 rfl (oc1 ou13.one oc0))) (fun H17 oq off18 => ?_)
 refine ob_i (oq.ldn rfl) ?_
 have hok : metOk ra ca la rb cb lb row col := ht10
 have h1 := hk u13 H17
 simp only [metL, metI, hok, if_true, decide_true] at h1
 replace lE := off18.le (lE.trans le12) nq
 replace ou13 := ou13.off off18 aqXu13.symm
 exact h1 ou13 nu13 lE

end Go.Proofs.YtnijdhlmimemcaaGreatDoor
/- Patterns that come again elsewhere. -/
namespace Go.Proofs.YtnijdhlmimemcaaGreatDoor
open HL
variable {n : Nat}
set_option maxRecDepth 100000
/-- A cell of 1 on the border. -/
def bdC (r c : Int) (l : List Int) (j : Nat) : Prop := at_ 0 l (j : Int) = 1 ∧ ((j : Int) / c = 0 ∨ (j : Int) % c = 0 ∨ (j : Int) / c = r - 1 ∨ (j : Int) % c = c - 1)
instance (r c : Int) (l : List Int) (j : Nat) : Decidable (bdC r c l j) := by unfold bdC; infer_instance
def bdU (r c : Int) (l : List Int) (n : Nat) : Prop := ∀ j, j < n → ¬ bdC r c l j
instance (r c : Int) (l : List Int) (n : Nat) : Decidable (bdU r c l n) := by unfold bdU; infer_instance
/-- Is a cell on the border 1? -/
def brdP (r c : Int) (l : List Int) : Prop := ¬ bdU r c l (r * c).toNat
instance (r c : Int) (l : List Int) : Decidable (brdP r c l) := by unfold brdP; infer_instance
section
variable {r c : Int} {l : List Int}
theorem bdU_zero : bdU r c l 0 := fun j h => by omega
theorem bdU_succ (h : bdU r c l n) (h1 : ¬ bdC r c l n) : bdU r c l (n + 1) := fun j hj => by
  by_cases e : j = n
  · subst e; exact h1
  · exact h j (by omega)
theorem brd_yes (h : bdC r c l n) (hn : (n : Int) < r * c) : brdP r c l := fun hh => hh n (by omega) h
end
def shp0 (r c : Int) (l : List Int) : List Int := mkL 24 (fun x y => flatF r c l (x - (24 - r) / 2) (y - (24 - c) / 2)) ((24 : Int).toNat * (24 : Int).toNat)
theorem s24 : sidesF 24 24 := ⟨by omega, by omega⟩
theorem shp0_field {r c : Int} {l : List Int} (h : fieldN 1 r c l) : fieldN 1 24 24 (shp0 r c l) := by
  have := mkL_field (n := 1) (g := fun x y => flatF r c l (x - (24 - r) / 2) (y - (24 - c) / 2)) s24 (fun i k => flatF_01 h _ _)
  exact this
theorem trm24 (l : List Int) : (0 ≤ (trm 24 24 l).1 ∧ (trm 24 24 l).1 ≤ 24) ∧ 0 ≤ (trm 24 24 l).2.2.1 ∧ (trm 24 24 l).2.2.1 ≤ 24 := by
  have b := trS_bnd (l := l) s24 (24 * 24 : Int).toNat (by omega)
  exact ⟨⟨b.1.1, b.1.2.1⟩, b.2.1, b.2.2.1⟩
theorem trl24 (l : List Int) : (trL 24 24 l).length ≤ 100000 := by
  unfold trL
  rw [mkL_length]
  have b := trS_bnd (l := l) s24 (24 * 24 : Int).toNat (by omega)
  have h1 : (trR 24 24 l).toNat ≤ 100 := by unfold trR trm; omega
  have h2 : (trC 24 24 l).toNat ≤ 100 := by unfold trC trm; omega
  have := Nat.mul_le_mul h1 h2
  omega
/-- Is a field's smallest part that of another one? -/
def matP (l m : List Int) : Prop := 0 ≤ (trm 24 24 m).2.1 ∧ trR 24 24 m = trR 24 24 l ∧ trC 24 24 m = trC 24 24 l ∧ trL 24 24 m = trL 24 24 l
instance (l m : List Int) : Decidable (matP l m) := by unfold matP; infer_instance
def shpS (b s : List Int) (r c : Int) (l : List Int) (n : Nat) : List Int := rnL false b s 24 24 (shp0 r c l) n
def shpE (b s : List Int) (r c : Int) (l : List Int) (t : Nat) : Prop := brdP 24 24 (shpS b s r c l (t + 1)) ∨ matP (shp0 r c l) (shpS b s r c l (t + 1))
instance (b s : List Int) (r c : Int) (l : List Int) : DecidablePred (shpE b s r c l) := fun t => by unfold shpE; infer_instance
def shpF (b s : List Int) (r c : Int) (l : List Int) (st : Int) : Int := fstN (shpE b s r c l) st.toNat
def shpT (b s : List Int) (r c : Int) (l : List Int) (st : Int) : List Int := shpS b s r c l ((shpF b s r c l st).toNat + 1)
def shpOk (b s : List Int) (r c : Int) (l : List Int) (st : Int) : Prop := canP b s r c l ∧ (1 ≤ st ∧ st ≤ 64) ∧ 0 ≤ (trm 24 24 (shp0 r c l)).2.1 ∧ ¬ brdP 24 24 (shp0 r c l) ∧ 0 ≤ shpF b s r c l st ∧ ¬ brdP 24 24 (shpT b s r c l st)
instance (b s : List Int) (r c : Int) (l : List Int) (st : Int) : Decidable (shpOk b s r c l st) := by unfold shpOk; infer_instance
section
variable {b s : List Int} {r c st : Int} {l : List Int} {t : Nat}
theorem shp_fail (hb : brdP 24 24 (shpS b s r c l (t + 1))) (h : ∀ x, x < t → ¬ shpE b s r c l x) (ht : t < st.toNat) : ¬ shpOk b s r c l st := fun hh => by
  have e : shpF b s r c l st = (t : Int) := fstN_at (p := shpE b s r c l) (.inl hb) h ht
  have := hh.2.2.2.2.2
  unfold shpT at this
  rw [e] at this
  exact this hb
theorem shp_none (h : ∀ x, x < st.toNat → ¬ shpE b s r c l x) : ¬ shpOk b s r c l st := fun hh => by
  have := hh.2.2.2.2.1
  unfold shpF at this
  rw [fstN_none h] at this
  omega
theorem shp_hit (h1 : canP b s r c l) (h2 : 1 ≤ st ∧ st ≤ 64) (h3 : 0 ≤ (trm 24 24 (shp0 r c l)).2.1) (h4 : ¬ brdP 24 24 (shp0 r c l)) (hb : ¬ brdP 24 24 (shpS b s r c l (t + 1))) (hm : matP (shp0 r c l) (shpS b s r c l (t + 1)))
    (h : ∀ x, x < t → ¬ shpE b s r c l x) (ht : t < st.toNat) : shpOk b s r c l st ∧ shpF b s r c l st = (t : Int) ∧ shpT b s r c l st = shpS b s r c l (t + 1) := by
  have e : shpF b s r c l st = (t : Int) := fstN_at (p := shpE b s r c l) (.inr hm) h ht
  have e2 : shpT b s r c l st = shpS b s r c l (t + 1) := by unfold shpT; rw [e]; rfl
  exact ⟨⟨h1, h2, h3, h4, by omega, by rw [e2]; exact hb⟩, e, e2⟩
theorem shp_next (hb : ¬ brdP 24 24 (shpS b s r c l (t + 1))) (hm : ¬ matP (shp0 r c l) (shpS b s r c l (t + 1))) (h : ∀ x, x < t → ¬ shpE b s r c l x) : ∀ x, x < t + 1 → ¬ shpE b s r c l x := fun x hx hp => by
  by_cases e : x = t
  · subst e; exact hp.elim hb hm
  · exact h x (by omega) hp
end
end Go.Proofs.YtnijdhlmimemcaaGreatDoor
/- Numbers with a point: NaNs, what is the same, and single numbers told as double ones. -/
namespace Go.Proofs.YtnijdhlmimemcaaGreatDoor.HL
open Ieee
set_option maxRecDepth 100000
end Go.Proofs.YtnijdhlmimemcaaGreatDoor.HL
namespace Go.Proofs.YtnijdhlmimemcaaGreatDoor
open HL
set_option maxRecDepth 100000
end Go.Proofs.YtnijdhlmimemcaaGreatDoor
/- Numbers compared, shares, seeds. -/
namespace Go.Proofs.YtnijdhlmimemcaaGreatDoor
open HL
set_option maxRecDepth 100000
def HL.fLe (x y : Nat) : Bool := FloatKind.f32.format.order x y == some .lt || FloatKind.f32.format.order x y == some .eq
def HL.fGe (x y : Nat) : Bool := FloatKind.f32.format.order x y == some .gt || FloatKind.f32.format.order x y == some .eq
/-- A share: from 0 to 1. -/
def shrP (x : Nat) : Prop := fGe x 0 = true ∧ fLe x 1065353216 = true
instance (x : Nat) : Decidable (shrP x) := by unfold shrP; infer_instance
end Go.Proofs.YtnijdhlmimemcaaGreatDoor
/- Fields that are drawn. -/
namespace Go.Proofs.YtnijdhlmimemcaaGreatDoor
open HL
set_option maxRecDepth 100000
def drP (r c x : Int) (sh : Nat) : Prop := sidesF r c ∧ shrP sh ∧ 0 ≤ x ∧ x ≤ 4294967295
instance (r c x : Int) (sh : Nat) : Decidable (drP r c x sh) := by unfold drP; infer_instance
def soP (b s : List Int) (r : Int) (sh : Nat) (x st : Int) : Prop := lifP b s ∧ (0 ≤ st ∧ st ≤ 64) ∧ drP r r x sh
instance (b s : List Int) (r : Int) (sh : Nat) (x st : Int) : Decidable (soP b s r sh x st) := by unfold soP; infer_instance
def ssP (b s : List Int) (r : Int) (sh : Nat) (l : List Int) (st wk : Int) : Prop := lifP b s ∧ (1 ≤ r ∧ r ≤ 24) ∧ shrP sh ∧ (l.length : Int) ≤ 16 ∧ (0 ≤ st ∧ st ≤ 64) ∧ (1 ≤ wk ∧ wk ≤ 8) ∧ ∀ x ∈ l, 0 ≤ x ∧ x ≤ 4294967295
instance (b s : List Int) (r : Int) (sh : Nat) (l : List Int) (st wk : Int) : Decidable (ssP b s r sh l st wk) := by unfold ssP; infer_instance
end Go.Proofs.YtnijdhlmimemcaaGreatDoor
/- Fields that are still, and those that lead to one. -/
namespace Go.Proofs.YtnijdhlmimemcaaGreatDoor
open HL
set_option maxRecDepth 100000
end Go.Proofs.YtnijdhlmimemcaaGreatDoor
