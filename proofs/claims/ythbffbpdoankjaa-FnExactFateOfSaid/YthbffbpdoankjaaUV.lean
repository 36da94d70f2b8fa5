/- Fates: what comes again. -/
import Derived.Test.YthbffbpdoankjaaUT
namespace Go.Proofs.Ythbffbpdoankjaa
open HL
set_option maxRecDepth 100000
theorem C.l04Around_r {p vc : Value} {i k r c : Int} {rnd : Bool} {l : List Int}  {H : Hp} {K : Value → Hp → Prop} (hp0 : CelR H p [(.int .i64 (r)), (.int .i64 (c)), vc]) (hvc0 : Sl eI H vc l) (hf : fieldN 1 r c l) (i0 : 0 ≤ i) (i1 : i < r) (j0 : 0 ≤ k) (j1 : k < c)
    (hk : ∀ H', Le H H' → K (.int .i64 (arF rnd r c l i k)) H') : HT prg I.spec_l04Around [p, (.int .i64 (i)), (.int .i64 (k)), (.bool (rnd))].toArray H K := by
  have lE := Le.refl H
  have hp := hp0
  have hvc := hvc0
  refine R.spec_l04Around ?_
  unfold F.spec_l04Around
  have hs := hf.1
  have hl := hf.2.1
  have q1 := hs.1
  have q2 := hs.2
  have qm := sidesF_mul hs
  refine jn_i (fun σ' H' => σ' 9 = (.int .i64 (sumF (fun a => sumF (fun b => skF rnd r c l i k (i - 1 + a) (k - 1 + b)) 3) 3)) ∧ Le H H') (fun σ1 H1 hP => ?_) (fun J1 hJ1 => ?_)
  · skip
    obtain ⟨g9L1, lE⟩ := hP
    have hp := hp0.le lE
    have hvc := hvc0.le lE
    try simp only [g9L1]
    skip
    exact keq (K := K) (by rw [show ((sumF (fun a => sumF (fun b => skF rnd r c l i k (i - 1 + a) (k - 1 + b)) 3) 3) : Int) = (arF rnd r c l i k) from by rfl]) (hk   _    lE)
  refine ob_i (vInt_sub (by omega) (by omega)) ?_
  refine ⟨fun n' σ' H' => ∃ t : Nat, n' = 3 - t ∧ t ≤ 3 ∧ σ' 0 = p ∧ σ' 1 = (.int .i64 (i)) ∧ σ' 2 = (.int .i64 (k)) ∧ σ' 3 = (.bool (rnd)) ∧ σ' 9 = (.int .i64 (sumF (fun a => sumF (fun b => skF rnd r c l i k (i - 1 + a) (k - 1 + b)) 3) t)) ∧ σ' 10 = (.int .i64 (i - 1 + (t : Int))) ∧ Le H H',
    ⟨_, 0, rfl, by omega, rfl, rfl, rfl, rfl, (congrArg (Value.int .i64) (by first | omega | rfl | (simp; done))), (congrArg (Value.int .i64) (by first | omega | rfl | (simp; done))), lE⟩, ?_⟩
  rintro n2 σ2 H2 ⟨t, rfl, htN, g0L2, g1L2, g2L2, g3L2, g9L2, g10L2, lE⟩
  have hp := hp0.le lE
  have hvc := hvc0.le lE
  try simp only [g0L2, g1L2, g2L2, g3L2, g9L2, g10L2]
  have bO := sumF_bnd (f := fun a => sumF (fun b => skF rnd r c l i k (i - 1 + a) (k - 1 + b)) 3) (a := 0) (b := 3) (fun a => by have := sumF_bnd (f := fun b => skF rnd r c l i k (i - 1 + a) (k - 1 + b)) (fun b => skF_01 hf i k _ _) 3; omega) t
  have zI := sumF_zero (fun b => skF rnd r c l i k (i - 1 + (t : Int)) (k - 1 + b))
  refine ob_i (vInt_add (by omega) (by omega)) ?_
  refine ob_i (vInt_leq _ _ _) ?_
  refine cnd_d (fun hg3 => ?_) (fun hg3 => ?_)
  · skip
    have tt := hg3
    refine jn_i (fun σ' H' => σ' 0 = p ∧ σ' 1 = (.int .i64 (i)) ∧ σ' 2 = (.int .i64 (k)) ∧ σ' 3 = (.bool (rnd)) ∧ σ' 9 = (.int .i64 (sumF (fun a => sumF (fun b => skF rnd r c l i k (i - 1 + a) (k - 1 + b)) 3) (t + 1))) ∧ σ' 10 = (.int .i64 (i - 1 + (t : Int))) ∧ Le H H') (fun σ4 H4 hP => ?_) (fun J4 hJ4 => ?_)
    · skip
      obtain ⟨g0L4, g1L4, g2L4, g3L4, g9L4, g10L4, lE⟩ := hP
      have hp := hp0.le lE
      have hvc := hvc0.le lE
      try simp only [g10L4]
      refine ob_i (vInt_add (by omega) (by omega)) ?_
      exact nxt (3 - (t + 1)) (by omega) ⟨t + 1, rfl, by omega, g0L4, g1L4, g2L4, g3L4, (g9L4.trans (congrArg (Value.int .i64) (by first | omega | rfl | (simp; done)))), (congrArg (Value.int .i64) (by first | omega | rfl | (simp; done))), lE⟩
    refine ob_i (vInt_sub (by omega) (by omega)) ?_
    refine ⟨fun n' σ' H' => ∃ u : Nat, n' = 3 - u ∧ u ≤ 3 ∧ σ' 0 = p ∧ σ' 1 = (.int .i64 (i)) ∧ σ' 2 = (.int .i64 (k)) ∧ σ' 3 = (.bool (rnd)) ∧ σ' 9 = (.int .i64 (sumF (fun a => sumF (fun b => skF rnd r c l i k (i - 1 + a) (k - 1 + b)) 3) t + sumF (fun b => skF rnd r c l i k (i - 1 + (t : Int)) (k - 1 + b)) u)) ∧ σ' 10 = (.int .i64 (i - 1 + (t : Int))) ∧ σ' 11 = (.int .i64 (k - 1 + (u : Int))) ∧ Le H H',
      ⟨_, 0, rfl, by omega, g0L2, g1L2, g2L2, g3L2, (g9L2.trans (congrArg (Value.int .i64) (by first | omega | rfl | (simp; done)))), g10L2, (congrArg (Value.int .i64) (by first | omega | rfl | (simp; done))), lE⟩, ?_⟩
    rintro n5 σ5 H5 ⟨u, rfl, huN, g0L5, g1L5, g2L5, g3L5, g9L5, g10L5, g11L5, lE⟩
    have hp := hp0.le lE
    have hvc := hvc0.le lE
    try simp only [g0L5, g1L5, g2L5, g3L5, g9L5, g10L5, g11L5]
    have bI := sumF_bnd (f := fun b => skF rnd r c l i k (i - 1 + (t : Int)) (k - 1 + b)) (fun b => skF_01 hf i k _ _) u
    have bR := roundF_lt (i := i - 1 + (t : Int)) (k := k - 1 + (u : Int)) hs
    have bV := fieldN_at hf (i := roundF r c (i - 1 + (t : Int)) (k - 1 + (u : Int))) (by omega) (by omega)
    refine ob_i (vInt_add (by omega) (by omega)) ?_
    refine ob_i (vInt_leq _ _ _) ?_
    refine cnd_d (fun hg6 => ?_) (fun hg6 => ?_)
    · skip
      have tu := hg6
      refine ob_i (vInt_eql _ _ _) ?_
      by_cases hc7 : (i - 1 + (t : Int)) = i
      · skip
        refine gop_e (decide_eq_true hc7) ?_
        refine gop_rt ?_
        refine gop_e (decide_eq_true hc7) ?_
        refine gop_rt ?_
        refine gop_e (decide_eq_true hc7) ?_
        refine gop_rt ?_
        refine ob_i (vInt_eql _ _ _) ?_
        refine ob_i (vPick_et (decide_eq_true hc7) _ _) ?_
        refine cnd_d (fun hg8 => ?_) (fun hg8 => ?_)
        · skip
          refine ob_i (vInt_add (by omega) (by omega)) ?_
          have e3 : skF rnd r c l i k (i - 1 + (t : Int)) (k - 1 + (u : Int)) = 0 := by rw [skF_eq]; first | rw [if_pos (by omega)] | (rw [if_neg (by omega)]; first | rw [if_pos (by first | (left; assumption) | (right; omega))] | rw [if_neg (by rintro (h | h) <;> first | omega | exact absurd h (by assumption))])
          have eS : sumF (fun b => skF rnd r c l i k (i - 1 + (t : Int)) (k - 1 + b)) (u + 1) = sumF (fun b => skF rnd r c l i k (i - 1 + (t : Int)) (k - 1 + b)) u + skF rnd r c l i k (i - 1 + (t : Int)) (k - 1 + (u : Int)) := rfl
          exact nxt (3 - (u + 1)) (by omega) ⟨u + 1, rfl, by omega, g0L5, g1L5, g2L5, g3L5, (g9L5.trans (congrArg (Value.int .i64) (by first | omega | rfl | (simp; done)))), g10L5, (congrArg (Value.int .i64) (by first | omega | rfl | (simp; done))), lE⟩
        · skip
          by_cases hc9 : (rnd) = true
          · skip
            refine gop_e (hc9) ?_
            refine gop_st ?_
            refine gop_e (hc9) ?_
            refine gop_st ?_
            refine gop_e (hc9) ?_
            refine gop_st ?_
            refine gop_e (hc9) ?_
            refine gop_st ?_
            refine gop_e (hc9) ?_
            refine gop_st ?_
            refine gop_e (hc9) ?_
            refine gop_st ?_
            refine gop_e (hc9) ?_
            refine gop_st ?_
            refine gop_e (hc9) ?_
            refine gop_st ?_
            refine gop_u ?_
            refine gop_u ?_
            refine gop_u ?_
            refine gop_u ?_
            refine gop_u ?_
            refine gop_u ?_
            refine gop_u ?_
            refine gop_e (hc9) ?_
            refine gop_st ?_
            refine ob_i (vPick_et (hc9) _ _) ?_
            refine cnd_t1 ?_
            refine ob_i (hp.nilC) ?_
            refine ob_i (hp.fa 2) ?_
            refine ob_i (hp.ld 2 rfl) ?_
            refine C.l04Round_r hp (by first | omega | assumption) ?_
            refine ⟨Le.refl _, ?_⟩
            refine ob_i (hvc.ix (by omega) (by omega)) ?_
            refine ob_i (hvc.ld 0 (by omega) (by omega)) ?_
            refine ob_i (vInt_add (by omega) (by omega)) ?_
            refine ob_i (vInt_add (by omega) (by omega)) ?_
            have e3 : skF rnd r c l i k (i - 1 + (t : Int)) (k - 1 + (u : Int)) = at_ 0 l (roundF r c (i - 1 + (t : Int)) (k - 1 + (u : Int))) := by rw [skF_eq]; first | rw [if_pos (by omega)] | (rw [if_neg (by omega)]; first | rw [if_pos (by first | (left; assumption) | (right; omega))] | rw [if_neg (by rintro (h | h) <;> first | omega | exact absurd h (by assumption))])
            have eS : sumF (fun b => skF rnd r c l i k (i - 1 + (t : Int)) (k - 1 + b)) (u + 1) = sumF (fun b => skF rnd r c l i k (i - 1 + (t : Int)) (k - 1 + b)) u + skF rnd r c l i k (i - 1 + (t : Int)) (k - 1 + (u : Int)) := rfl
            exact nxt (3 - (u + 1)) (by omega) ⟨u + 1, rfl, by omega, g0L5, g1L5, g2L5, g3L5, (congrArg (Value.int .i64) (by first | omega | rfl | (simp; done))), g10L5, (congrArg (Value.int .i64) (by first | omega | rfl | (simp; done))), lE⟩
          · skip
            refine gop_e (eq_false_of_ne_true hc9) ?_
            refine gop_rf ?_
            refine gop_e (eq_false_of_ne_true hc9) ?_
            refine gop_rf ?_
            refine gop_e (eq_false_of_ne_true hc9) ?_
            refine gop_rf ?_
            refine ob_i (hp.nilC) ?_
            refine gop_e (eq_false_of_ne_true hc9) ?_
            refine gop_rf ?_
            refine ob_i (hp.fa 0) ?_
            refine gop_e (eq_false_of_ne_true hc9) ?_
            refine gop_rf ?_
            refine ob_i (hp.ld 0 rfl) ?_
            refine gop_e (eq_false_of_ne_true hc9) ?_
            refine gop_rf ?_
            refine ob_i (vInt_sub (by omega) (by omega)) ?_
            refine gop_e (eq_false_of_ne_true hc9) ?_
            refine gop_rf ?_
            refine C.spec_l00In  ?_
            refine gop_e (eq_false_of_ne_true hc9) ?_
            refine gop_rf ?_
            by_cases hc10 : 0 ≤ (i - 1 + (t : Int)) ∧ (i - 1 + (t : Int)) ≤ (r - 1)
            · skip
              refine gop_e (decide_eq_true hc10) ?_
              refine gop_rt ?_
              refine gop_e (decide_eq_true hc10) ?_
              refine gop_rt ?_
              refine gop_e (decide_eq_true hc10) ?_
              refine gop_rt ?_
              refine ob_i (hp.nilC) ?_
              refine gop_e (decide_eq_true hc10) ?_
              refine gop_rt ?_
              refine ob_i (hp.fa 1) ?_
              refine gop_e (decide_eq_true hc10) ?_
              refine gop_rt ?_
              refine ob_i (hp.ld 1 rfl) ?_
              refine gop_e (decide_eq_true hc10) ?_
              refine gop_rt ?_
              refine ob_i (vInt_sub (by omega) (by omega)) ?_
              refine gop_e (decide_eq_true hc10) ?_
              refine gop_rt ?_
              refine C.spec_l00In  ?_
              refine gop_e (eq_false_of_ne_true hc9) ?_
              refine gop_rf ?_
              refine ob_i (vPick_et (decide_eq_true hc10) _ _) ?_
              refine ob_i (vPick_ef (eq_false_of_ne_true hc9) _ _) ?_
              refine cnd_d (fun hg11 => ?_) (fun hg11 => ?_)
              · skip
                refine ob_i (hp.nilC) ?_
                refine ob_i (hp.fa 2) ?_
                refine ob_i (hp.ld 2 rfl) ?_
                refine C.l04Round_r hp (by first | omega | assumption) ?_
                refine ⟨Le.refl _, ?_⟩
                refine ob_i (hvc.ix (by omega) (by omega)) ?_
                refine ob_i (hvc.ld 0 (by omega) (by omega)) ?_
                refine ob_i (vInt_add (by omega) (by omega)) ?_
                refine ob_i (vInt_add (by omega) (by omega)) ?_
                have e3 : skF rnd r c l i k (i - 1 + (t : Int)) (k - 1 + (u : Int)) = at_ 0 l (roundF r c (i - 1 + (t : Int)) (k - 1 + (u : Int))) := by rw [skF_eq]; first | rw [if_pos (by omega)] | (rw [if_neg (by omega)]; first | rw [if_pos (by first | (left; assumption) | (right; omega))] | rw [if_neg (by rintro (h | h) <;> first | omega | exact absurd h (by assumption))])
                have eS : sumF (fun b => skF rnd r c l i k (i - 1 + (t : Int)) (k - 1 + b)) (u + 1) = sumF (fun b => skF rnd r c l i k (i - 1 + (t : Int)) (k - 1 + b)) u + skF rnd r c l i k (i - 1 + (t : Int)) (k - 1 + (u : Int)) := rfl
                exact nxt (3 - (u + 1)) (by omega) ⟨u + 1, rfl, by omega, g0L5, g1L5, g2L5, g3L5, (congrArg (Value.int .i64) (by first | omega | rfl | (simp; done))), g10L5, (congrArg (Value.int .i64) (by first | omega | rfl | (simp; done))), lE⟩
              · skip
                refine ob_i (vInt_add (by omega) (by omega)) ?_
                have e3 : skF rnd r c l i k (i - 1 + (t : Int)) (k - 1 + (u : Int)) = 0 := by rw [skF_eq]; first | rw [if_pos (by omega)] | (rw [if_neg (by omega)]; first | rw [if_pos (by first | (left; assumption) | (right; omega))] | rw [if_neg (by rintro (h | h) <;> first | omega | exact absurd h (by assumption))])
                have eS : sumF (fun b => skF rnd r c l i k (i - 1 + (t : Int)) (k - 1 + b)) (u + 1) = sumF (fun b => skF rnd r c l i k (i - 1 + (t : Int)) (k - 1 + b)) u + skF rnd r c l i k (i - 1 + (t : Int)) (k - 1 + (u : Int)) := rfl
                exact nxt (3 - (u + 1)) (by omega) ⟨u + 1, rfl, by omega, g0L5, g1L5, g2L5, g3L5, (g9L5.trans (congrArg (Value.int .i64) (by first | omega | rfl | (simp; done)))), g10L5, (congrArg (Value.int .i64) (by first | omega | rfl | (simp; done))), lE⟩
            · skip
              refine gop_e (decide_eq_false hc10) ?_
              refine gop_sf ?_
              refine gop_e (decide_eq_false hc10) ?_
              refine gop_sf ?_
              refine gop_e (decide_eq_false hc10) ?_
              refine gop_sf ?_
              refine gop_e (decide_eq_false hc10) ?_
              refine gop_sf ?_
              refine gop_e (decide_eq_false hc10) ?_
              refine gop_sf ?_
              refine gop_e (decide_eq_false hc10) ?_
              refine gop_sf ?_
              refine gop_e (decide_eq_false hc10) ?_
              refine gop_sf ?_
              refine gop_e (eq_false_of_ne_true hc9) ?_
              refine gop_rf ?_
              refine ob_i (vPick_ef (decide_eq_false hc10) _ _) ?_
              refine ob_i (vPick_ef (eq_false_of_ne_true hc9) _ _) ?_
              refine cnd_f1 ?_
              refine ob_i (vInt_add (by omega) (by omega)) ?_
              have e3 : skF rnd r c l i k (i - 1 + (t : Int)) (k - 1 + (u : Int)) = 0 := by rw [skF_eq]; first | rw [if_pos (by omega)] | (rw [if_neg (by omega)]; first | rw [if_pos (by first | (left; assumption) | (right; omega))] | rw [if_neg (by rintro (h | h) <;> first | omega | exact absurd h (by assumption))])
              have eS : sumF (fun b => skF rnd r c l i k (i - 1 + (t : Int)) (k - 1 + b)) (u + 1) = sumF (fun b => skF rnd r c l i k (i - 1 + (t : Int)) (k - 1 + b)) u + skF rnd r c l i k (i - 1 + (t : Int)) (k - 1 + (u : Int)) := rfl
              exact nxt (3 - (u + 1)) (by omega) ⟨u + 1, rfl, by omega, g0L5, g1L5, g2L5, g3L5, (g9L5.trans (congrArg (Value.int .i64) (by first | omega | rfl | (simp; done)))), g10L5, (congrArg (Value.int .i64) (by first | omega | rfl | (simp; done))), lE⟩
      · skip
        refine gop_e (decide_eq_false hc7) ?_
        refine gop_sf ?_
        refine gop_e (decide_eq_false hc7) ?_
        refine gop_sf ?_
        refine gop_e (decide_eq_false hc7) ?_
        refine gop_sf ?_
        refine ob_i (vPick_ef (decide_eq_false hc7) _ _) ?_
        refine cnd_f1 ?_
        by_cases hc12 : (rnd) = true
        · skip
          refine gop_e (hc12) ?_
          refine gop_st ?_
          refine gop_e (hc12) ?_
          refine gop_st ?_
          refine gop_e (hc12) ?_
          refine gop_st ?_
          refine gop_e (hc12) ?_
          refine gop_st ?_
          refine gop_e (hc12) ?_
          refine gop_st ?_
          refine gop_e (hc12) ?_
          refine gop_st ?_
          refine gop_e (hc12) ?_
          refine gop_st ?_
          refine gop_e (hc12) ?_
          refine gop_st ?_
          refine gop_u ?_
          refine gop_u ?_
          refine gop_u ?_
          refine gop_u ?_
          refine gop_u ?_
          refine gop_u ?_
          refine gop_u ?_
          refine gop_e (hc12) ?_
          refine gop_st ?_
          refine ob_i (vPick_et (hc12) _ _) ?_
          refine cnd_t1 ?_
          refine ob_i (hp.nilC) ?_
          refine ob_i (hp.fa 2) ?_
          refine ob_i (hp.ld 2 rfl) ?_
          refine C.l04Round_r hp (by first | omega | assumption) ?_
          refine ⟨Le.refl _, ?_⟩
          refine ob_i (hvc.ix (by omega) (by omega)) ?_
          refine ob_i (hvc.ld 0 (by omega) (by omega)) ?_
          refine ob_i (vInt_add (by omega) (by omega)) ?_
          refine ob_i (vInt_add (by omega) (by omega)) ?_
          have e3 : skF rnd r c l i k (i - 1 + (t : Int)) (k - 1 + (u : Int)) = at_ 0 l (roundF r c (i - 1 + (t : Int)) (k - 1 + (u : Int))) := by rw [skF_eq]; first | rw [if_pos (by omega)] | (rw [if_neg (by omega)]; first | rw [if_pos (by first | (left; assumption) | (right; omega))] | rw [if_neg (by rintro (h | h) <;> first | omega | exact absurd h (by assumption))])
          have eS : sumF (fun b => skF rnd r c l i k (i - 1 + (t : Int)) (k - 1 + b)) (u + 1) = sumF (fun b => skF rnd r c l i k (i - 1 + (t : Int)) (k - 1 + b)) u + skF rnd r c l i k (i - 1 + (t : Int)) (k - 1 + (u : Int)) := rfl
          exact nxt (3 - (u + 1)) (by omega) ⟨u + 1, rfl, by omega, g0L5, g1L5, g2L5, g3L5, (congrArg (Value.int .i64) (by first | omega | rfl | (simp; done))), g10L5, (congrArg (Value.int .i64) (by first | omega | rfl | (simp; done))), lE⟩
        · skip
          refine gop_e (eq_false_of_ne_true hc12) ?_
          refine gop_rf ?_
          refine gop_e (eq_false_of_ne_true hc12) ?_
          refine gop_rf ?_
          refine gop_e (eq_false_of_ne_true hc12) ?_
          refine gop_rf ?_
          refine ob_i (hp.nilC) ?_
          refine gop_e (eq_false_of_ne_true hc12) ?_
          refine gop_rf ?_
          refine ob_i (hp.fa 0) ?_
          refine gop_e (eq_false_of_ne_true hc12) ?_
          refine gop_rf ?_
          refine ob_i (hp.ld 0 rfl) ?_
          refine gop_e (eq_false_of_ne_true hc12) ?_
          refine gop_rf ?_
          refine ob_i (vInt_sub (by omega) (by omega)) ?_
          refine gop_e (eq_false_of_ne_true hc12) ?_
          refine gop_rf ?_
          refine C.spec_l00In  ?_
          refine gop_e (eq_false_of_ne_true hc12) ?_
          refine gop_rf ?_
          by_cases hc13 : 0 ≤ (i - 1 + (t : Int)) ∧ (i - 1 + (t : Int)) ≤ (r - 1)
          · skip
            refine gop_e (decide_eq_true hc13) ?_
            refine gop_rt ?_
            refine gop_e (decide_eq_true hc13) ?_
            refine gop_rt ?_
            refine gop_e (decide_eq_true hc13) ?_
            refine gop_rt ?_
            refine ob_i (hp.nilC) ?_
            refine gop_e (decide_eq_true hc13) ?_
            refine gop_rt ?_
            refine ob_i (hp.fa 1) ?_
            refine gop_e (decide_eq_true hc13) ?_
            refine gop_rt ?_
            refine ob_i (hp.ld 1 rfl) ?_
            refine gop_e (decide_eq_true hc13) ?_
            refine gop_rt ?_
            refine ob_i (vInt_sub (by omega) (by omega)) ?_
            refine gop_e (decide_eq_true hc13) ?_
            refine gop_rt ?_
            refine C.spec_l00In  ?_
            refine gop_e (eq_false_of_ne_true hc12) ?_
            refine gop_rf ?_
            refine ob_i (vPick_et (decide_eq_true hc13) _ _) ?_
            refine ob_i (vPick_ef (eq_false_of_ne_true hc12) _ _) ?_
            refine cnd_d (fun hg14 => ?_) (fun hg14 => ?_)
            · skip
              refine ob_i (hp.nilC) ?_
              refine ob_i (hp.fa 2) ?_
              refine ob_i (hp.ld 2 rfl) ?_
              refine C.l04Round_r hp (by first | omega | assumption) ?_
              refine ⟨Le.refl _, ?_⟩
              refine ob_i (hvc.ix (by omega) (by omega)) ?_
              refine ob_i (hvc.ld 0 (by omega) (by omega)) ?_
              refine ob_i (vInt_add (by omega) (by omega)) ?_
              refine ob_i (vInt_add (by omega) (by omega)) ?_
              have e3 : skF rnd r c l i k (i - 1 + (t : Int)) (k - 1 + (u : Int)) = at_ 0 l (roundF r c (i - 1 + (t : Int)) (k - 1 + (u : Int))) := by rw [skF_eq]; first | rw [if_pos (by omega)] | (rw [if_neg (by omega)]; first | rw [if_pos (by first | (left; assumption) | (right; omega))] | rw [if_neg (by rintro (h | h) <;> first | omega | exact absurd h (by assumption))])
              have eS : sumF (fun b => skF rnd r c l i k (i - 1 + (t : Int)) (k - 1 + b)) (u + 1) = sumF (fun b => skF rnd r c l i k (i - 1 + (t : Int)) (k - 1 + b)) u + skF rnd r c l i k (i - 1 + (t : Int)) (k - 1 + (u : Int)) := rfl
              exact nxt (3 - (u + 1)) (by omega) ⟨u + 1, rfl, by omega, g0L5, g1L5, g2L5, g3L5, (congrArg (Value.int .i64) (by first | omega | rfl | (simp; done))), g10L5, (congrArg (Value.int .i64) (by first | omega | rfl | (simp; done))), lE⟩
            · skip
              refine ob_i (vInt_add (by omega) (by omega)) ?_
              have e3 : skF rnd r c l i k (i - 1 + (t : Int)) (k - 1 + (u : Int)) = 0 := by rw [skF_eq]; first | rw [if_pos (by omega)] | (rw [if_neg (by omega)]; first | rw [if_pos (by first | (left; assumption) | (right; omega))] | rw [if_neg (by rintro (h | h) <;> first | omega | exact absurd h (by assumption))])
              have eS : sumF (fun b => skF rnd r c l i k (i - 1 + (t : Int)) (k - 1 + b)) (u + 1) = sumF (fun b => skF rnd r c l i k (i - 1 + (t : Int)) (k - 1 + b)) u + skF rnd r c l i k (i - 1 + (t : Int)) (k - 1 + (u : Int)) := rfl
              exact nxt (3 - (u + 1)) (by omega) ⟨u + 1, rfl, by omega, g0L5, g1L5, g2L5, g3L5, (g9L5.trans (congrArg (Value.int .i64) (by first | omega | rfl | (simp; done)))), g10L5, (congrArg (Value.int .i64) (by first | omega | rfl | (simp; done))), lE⟩
          · skip
            refine gop_e (decide_eq_false hc13) ?_
            refine gop_sf ?_
            refine gop_e (decide_eq_false hc13) ?_
            refine gop_sf ?_
            refine gop_e (decide_eq_false hc13) ?_
            refine gop_sf ?_
            refine gop_e (decide_eq_false hc13) ?_
            refine gop_sf ?_
            refine gop_e (decide_eq_false hc13) ?_
            refine gop_sf ?_
            refine gop_e (decide_eq_false hc13) ?_
            refine gop_sf ?_
            refine gop_e (decide_eq_false hc13) ?_
            refine gop_sf ?_
            refine gop_e (eq_false_of_ne_true hc12) ?_
            refine gop_rf ?_
            refine ob_i (vPick_ef (decide_eq_false hc13) _ _) ?_
            refine ob_i (vPick_ef (eq_false_of_ne_true hc12) _ _) ?_
            refine cnd_f1 ?_
            refine ob_i (vInt_add (by omega) (by omega)) ?_
            have e3 : skF rnd r c l i k (i - 1 + (t : Int)) (k - 1 + (u : Int)) = 0 := by rw [skF_eq]; first | rw [if_pos (by omega)] | (rw [if_neg (by omega)]; first | rw [if_pos (by first | (left; assumption) | (right; omega))] | rw [if_neg (by rintro (h | h) <;> first | omega | exact absurd h (by assumption))])
            have eS : sumF (fun b => skF rnd r c l i k (i - 1 + (t : Int)) (k - 1 + b)) (u + 1) = sumF (fun b => skF rnd r c l i k (i - 1 + (t : Int)) (k - 1 + b)) u + skF rnd r c l i k (i - 1 + (t : Int)) (k - 1 + (u : Int)) := rfl
            exact nxt (3 - (u + 1)) (by omega) ⟨u + 1, rfl, by omega, g0L5, g1L5, g2L5, g3L5, (g9L5.trans (congrArg (Value.int .i64) (by first | omega | rfl | (simp; done)))), g10L5, (congrArg (Value.int .i64) (by first | omega | rfl | (simp; done))), lE⟩
    · skip
      have tu := hg6
      obtain rfl : u = 3 := by omega
      exact hJ4 _ _ ⟨g0L5, g1L5, g2L5, g3L5, (g9L5.trans (congrArg (Value.int .i64) (by first | omega | rfl | (simp; done)))), g10L5, lE⟩
  · skip
    have tt := hg3
    obtain rfl : t = 3 := by omega
    exact hJ1 _ _ ⟨(g9L2.trans (congrArg (Value.int .i64) (by first | omega | rfl | (simp; done)))), lE⟩
theorem C.l04Next_r {w p vb vs vc : Value} {r c : Int} {rnd : Bool} {b : List Int} {s : List Int} {l : List Int}  {H : Hp} {K : Value → Hp → Prop} (hw0 : Cel H w [vb, vs]) (hp0 : CelR H p [(.int .i64 (r)), (.int .i64 (c)), vc]) (hvb0 : Sl eI H vb b) (hvs0 : Sl eI H vs s) (hvc0 : Sl eI H vc l) (hf : fieldN 1 r c l) (kb : b.length ≤ 9223372036854775807) (ks : s.length ≤ 9223372036854775807)
    (hk : ∀ u1 H', Own eI H' u1 (nxL rnd b s r c l) → Nw H u1 → Le H H' → K (.agg #[(.int .i64 (r)), (.int .i64 (c)), u1]) H') : HT prg I.spec_l04Next [w, p, (.bool (rnd))].toArray H K := by
  have lE := Le.refl H
  have hw := hw0
  have hp := hp0
  have hvb := hvb0
  have hvs := hvs0
  have hvc := hvc0
  refine R.spec_l04Next ?_
  unfold F.spec_l04Next
  have hs := hf.1
  have hl := hf.2.1
  have q1 := hs.1
  have q2 := hs.2
  have qm := sidesF_mul hs
  refine nw_i (fun p1 H2 op1 nn3 le4 => ?_)
  have np1 : Nw H p1 := nn3.le lE
  replace hw := hw.le le4
  replace hp := hp.le le4
  replace hvb := hvb.le le4
  replace hvs := hvs.le le4
  replace hvc := hvc.le le4
  replace lE := lE.trans le4
  replace op1 : Cel H2 p1 [(.int .i64 (0)), (.int .i64 (0)), (.slice none 0 0)] := op1
  refine ob_i (hp.nilC) ?_
  refine ob_i (hp.fa 0) ?_
  refine ob_i (hp.ld 0 rfl) ?_
  refine ob_i (hp.nilC) ?_
  refine ob_i (hp.fa 1) ?_
  refine ob_i (hp.ld 1 rfl) ?_
  refine C.spec_l04New (by first | omega | assumption) (by first | omega | assumption) (by first | omega | assumption) (by first | omega | assumption) (fun  u H5 ou nn7  le6 => ?_)
  have ap1Xu : Apart p1 u := op1.apart nn7
  have nu : Nw H u := nn7.le lE
  replace op1 := op1.le le6
  replace hw := hw.le le6
  replace hp := hp.le le6
  replace hvb := hvb.le le6
  replace hvs := hvs.le le6
  replace hvc := hvc.le le6
  replace lE := lE.trans le6
  refine ⟨le6, ?_⟩
  refine nw_i (fun p8 H9 op8 nn10 le11 => ?_)
  have ap1Xp8 : Apart p1 p8 := op1.apart nn10
  have auXp8 : Apart u p8 := ou.apart nn10
  have np8 : Nw H p8 := nn10.le lE
  replace op1 := op1.le le11
  replace ou := ou.le le11
  replace hw := hw.le le11
  replace hp := hp.le le11
  replace hvb := hvb.le le11
  replace hvs := hvs.le le11
  replace hvc := hvc.le le11
  replace lE := lE.trans le11
  replace op8 : Cel H9 p8 [(.int .i64 (0)), (.int .i64 (0)), (.slice none 0 0)] := op8
  refine op8.stn (ws := [(.int .i64 (r)), (.int .i64 (c)), u]) rfl rfl (oc1 rfl (oc1 rfl (oc1 ou.one oc0))) (fun H12 op8 off13 => ?_)
  replace op1 := op1.off off13 ap1Xp8
  replace ou := ou.off off13 auXp8
  replace hw := hw0.le (off13.le lE np8)
  replace hp := hp0.le (off13.le lE np8)
  replace hvb := hvb0.le (off13.le lE np8)
  replace hvs := hvs0.le (off13.le lE np8)
  replace hvc := hvc0.le (off13.le lE np8)
  replace lE := off13.le lE np8
  replace op8 : Cel H12 p8 [(.int .i64 (r)), (.int .i64 (c)), u] := op8
  refine jn_i (fun σ' H' => σ' 6 = p1 ∧ σ' 7 = p8 ∧ Cel H' p1 [(.int .i64 (0)), (.int .i64 (0)), (.slice none 0 0)] ∧ Own eI H' u (nxL rnd b s r c l) ∧ Cel H' p8 [(.int .i64 (r)), (.int .i64 (c)), u] ∧ Le H H') (fun σ14 H14 hP => ?_) (fun J14 hJ14 => ?_)
  · skip
    obtain ⟨g6L14, g7L14, op1, ou, op8, lE⟩ := hP
    have hw := hw0.le lE
    have hp := hp0.le lE
    have hvb := hvb0.le lE
    have hvs := hvs0.le lE
    have hvc := hvc0.le lE
    try simp only [g6L14, g7L14]
    refine ob_i (op8.ldn rfl) ?_
    refine op1.stn (ws := [(.int .i64 (r)), (.int .i64 (c)), u]) rfl rfl (oc1 rfl (oc1 rfl (oc1 ou.one oc0))) (fun H15 op1 off16 => ?_)
    replace ou := ou.off off16 ap1Xu.symm
    replace op8 := op8.off off16 ap1Xp8.symm
    replace hw := hw0.le (off16.le lE np1)
    replace hp := hp0.le (off16.le lE np1)
    replace hvb := hvb0.le (off16.le lE np1)
    replace hvs := hvs0.le (off16.le lE np1)
    replace hvc := hvc0.le (off16.le lE np1)
    replace lE := off16.le lE np1
    replace op1 : Cel H15 p1 [(.int .i64 (r)), (.int .i64 (c)), u] := op1
    refine ob_i (op1.ldn rfl) ?_
    skip
    exact hk  u _ ou nu  lE
  refine ⟨fun n' σ' H' => ∃ i : Nat, n' = r.toNat - i ∧ i ≤ r.toNat ∧ σ' 0 = w ∧ σ' 1 = p ∧ σ' 2 = (.bool (rnd)) ∧ σ' 6 = p1 ∧ σ' 7 = p8 ∧ σ' 8 = (.int .i64 ((i : Int))) ∧ Cel H' p1 [(.int .i64 (0)), (.int .i64 (0)), (.slice none 0 0)] ∧ Own eI H' u (fillL c (nxG rnd b s r c l) (r.toNat * c.toNat) (i * c.toNat)) ∧ Cel H' p8 [(.int .i64 (r)), (.int .i64 (c)), u] ∧ Le H H',
    ⟨_, 0, rfl, by omega, rfl, rfl, rfl, rfl, rfl, (congrArg (Value.int .i64) (by first | omega | rfl | (simp; done))), op1, (by rw [Nat.zero_mul, fillL_zero]; exact ou), op8, lE⟩, ?_⟩
  rintro n17 σ17 H17 ⟨i, rfl, hiN, g0L17, g1L17, g2L17, g6L17, g7L17, g8L17, op1, ou, op8, lE⟩
  have hw := hw0.le lE
  have hp := hp0.le lE
  have hvb := hvb0.le lE
  have hvs := hvs0.le lE
  have hvc := hvc0.le lE
  try simp only [g0L17, g1L17, g2L17, g6L17, g7L17, g8L17]
  refine ob_i (hp.nilC) ?_
  refine ob_i (hp.fa 0) ?_
  refine ob_i (hp.ld 0 rfl) ?_
  refine ob_i (vInt_lss _ _ _) ?_
  refine cnd_d (fun hg18 => ?_) (fun hg18 => ?_)
  · skip
    have ti := hg18
    refine jn_i (fun σ' H' => σ' 0 = w ∧ σ' 1 = p ∧ σ' 2 = (.bool (rnd)) ∧ σ' 6 = p1 ∧ σ' 7 = p8 ∧ σ' 8 = (.int .i64 ((i : Int))) ∧ Cel H' p1 [(.int .i64 (0)), (.int .i64 (0)), (.slice none 0 0)] ∧ Own eI H' u (fillL c (nxG rnd b s r c l) (r.toNat * c.toNat) ((i + 1) * c.toNat)) ∧ Cel H' p8 [(.int .i64 (r)), (.int .i64 (c)), u] ∧ Le H H') (fun σ19 H19 hP => ?_) (fun J19 hJ19 => ?_)
    · skip
      obtain ⟨g0L19, g1L19, g2L19, g6L19, g7L19, g8L19, op1, ou, op8, lE⟩ := hP
      have hw := hw0.le lE
      have hp := hp0.le lE
      have hvb := hvb0.le lE
      have hvs := hvs0.le lE
      have hvc := hvc0.le lE
      try simp only [g6L19, g8L19]
      refine ob_i (vInt_add (by omega) (by omega)) ?_
      exact nxt (r.toNat - (i + 1)) (by omega) ⟨i + 1, rfl, by omega, g0L19, g1L19, g2L19, g6L19, g7L19, (congrArg (Value.int .i64) (by first | omega | rfl | (simp; done))), op1, ou, op8, lE⟩
    refine ⟨fun n' σ' H' => ∃ k : Nat, n' = c.toNat - k ∧ k ≤ c.toNat ∧ σ' 0 = w ∧ σ' 1 = p ∧ σ' 2 = (.bool (rnd)) ∧ σ' 6 = p1 ∧ σ' 7 = p8 ∧ σ' 8 = (.int .i64 ((i : Int))) ∧ σ' 9 = (.int .i64 ((k : Int))) ∧ Cel H' p1 [(.int .i64 (0)), (.int .i64 (0)), (.slice none 0 0)] ∧ Own eI H' u (fillL c (nxG rnd b s r c l) (r.toNat * c.toNat) (i * c.toNat + k)) ∧ Cel H' p8 [(.int .i64 (r)), (.int .i64 (c)), u] ∧ Le H H',
      ⟨_, 0, rfl, by omega, g0L17, g1L17, g2L17, g6L17, g7L17, g8L17, (congrArg (Value.int .i64) (by first | omega | rfl | (simp; done))), op1, ou, op8, lE⟩, ?_⟩
    rintro n20 σ20 H20 ⟨k, rfl, hkN, g0L20, g1L20, g2L20, g6L20, g7L20, g8L20, g9L20, op1, ou, op8, lE⟩
    have hw := hw0.le lE
    have hp := hp0.le lE
    have hvb := hvb0.le lE
    have hvs := hvs0.le lE
    have hvc := hvc0.le lE
    try simp only [g0L20, g1L20, g2L20, g6L20, g7L20, g8L20, g9L20]
    refine ob_i (hp.nilC) ?_
    refine ob_i (hp.fa 1) ?_
    refine ob_i (hp.ld 1 rfl) ?_
    refine ob_i (vInt_lss _ _ _) ?_
    refine cnd_d (fun hg21 => ?_) (fun hg21 => ?_)
    · skip
      have tk := hg21
      have x1 := ix_lt (a := (i : Int)) (b := (k : Int)) (r := r) (c := c) (by omega) (by omega) (by omega) (by omega)
      have x3 := fillL_len (c := c) (g := nxG rnd b s r c l) (rr := r) (cc := c) (t := i * c.toNat + k) (by omega) (by omega)
      have x4 := fieldN_at hf (i := (i : Int) * c + (k : Int)) (by omega) (by omega)
      refine C.l04Around_r hp hvc (by first | omega | assumption) (by first | omega | assumption) (by first | omega | assumption) (by first | omega | assumption) (by first | omega | assumption) (fun   H22    le23 => ?_)
      replace op1 := op1.le le23
      replace ou := ou.le le23
      replace op8 := op8.le le23
      replace hw := hw.le le23
      replace hp := hp.le le23
      replace hvb := hvb.le le23
      replace hvs := hvs.le le23
      replace hvc := hvc.le le23
      replace lE := lE.trans le23
      refine ob_i (hp.nilC) ?_
      refine ob_i (hp.fa 1) ?_
      refine ob_i (hp.ld 1 rfl) ?_
      refine ob_i (vInt_mul (by omega) (by omega)) ?_
      refine ob_i (vInt_add (by omega) (by omega)) ?_
      refine ob_i (hp.nilC) ?_
      refine ob_i (hp.fa 2) ?_
      refine ob_i (hp.ld 2 rfl) ?_
      refine ob_i (hvc.ix (by omega) (by omega)) ?_
      refine ob_i (hvc.ld 0 (by omega) (by omega)) ?_
      refine ob_i (vInt_eql _ _ _) ?_
      by_cases hc24 : (at_ 0 (l) (((i : Int) * c) + (k : Int))) = 0
      · skip
        refine gop_e (decide_eq_true hc24) ?_
        refine gop_rt ?_
        refine gop_e (decide_eq_true hc24) ?_
        refine gop_rt ?_
        refine ob_i (hw.nilC) ?_
        refine gop_e (decide_eq_true hc24) ?_
        refine gop_rt ?_
        refine ob_i (hw.fa 0) ?_
        refine gop_e (decide_eq_true hc24) ?_
        refine gop_rt ?_
        refine ob_i (hw.ld 0 rfl) ?_
        refine gop_e (decide_eq_true hc24) ?_
        refine gop_rt ?_
        refine gop_e (decide_eq_true hc24) ?_
        refine gop_rt ?_
        refine C.spec_l04Has hvb (by first | omega | assumption) (fun   H25    le26 => ?_)
        replace op1 := op1.le le26
        replace ou := ou.le le26
        replace op8 := op8.le le26
        replace hw := hw.le le26
        replace hp := hp.le le26
        replace hvb := hvb.le le26
        replace hvs := hvs.le le26
        replace hvc := hvc.le le26
        replace lE := lE.trans le26
        refine ob_i (vPick_et (decide_eq_true hc24) _ _) ?_
        by_cases hc27 : (arF rnd r c l (i : Int) (k : Int)) ∈ b
        · skip
          refine gop_e (decide_eq_true hc27) ?_
          refine gop_st ?_
          refine gop_e (decide_eq_true hc27) ?_
          refine gop_st ?_
          refine gop_e (decide_eq_true hc27) ?_
          refine gop_st ?_
          refine gop_e (decide_eq_true hc27) ?_
          refine gop_st ?_
          refine gop_e (decide_eq_true hc27) ?_
          refine gop_st ?_
          refine gop_e (decide_eq_true hc27) ?_
          refine gop_st ?_
          refine gop_e (decide_eq_true hc27) ?_
          refine gop_st ?_
          refine gop_e (decide_eq_true hc27) ?_
          refine gop_st ?_
          refine gop_e (decide_eq_true hc27) ?_
          refine gop_st ?_
          refine gop_u ?_
          refine gop_u ?_
          refine gop_u ?_
          refine gop_u ?_
          refine gop_u ?_
          refine gop_u ?_
          refine gop_e (decide_eq_true hc27) ?_
          refine gop_st ?_
          refine ob_i (vPick_et (decide_eq_true hc27) _ _) ?_
          refine cnd_t1 ?_
          refine ob_i (op8.fa 2) ?_
          refine ob_i (op8.ld 2 rfl) ?_
          refine ob_i (ou.sl.ix (by omega) (by omega)) ?_
          refine ou.st (x := 1) (by omega) (by omega) rfl rfl (fun H28 ou off29 => ?_)
          replace op1 := op1.off off29 ap1Xu
          replace op8 := op8.off off29 auXp8.symm
          replace hw := hw0.le (off29.le lE nu)
          replace hp := hp0.le (off29.le lE nu)
          replace hvb := hvb0.le (off29.le lE nu)
          replace hvs := hvs0.le (off29.le lE nu)
          replace hvc := hvc0.le (off29.le lE nu)
          replace lE := off29.le lE nu
          refine ob_i (vInt_add (by omega) (by omega)) ?_
          have eG : nxG rnd b s r c l (i : Int) (k : Int) = 1 := by first | exact nx_b1 (by assumption) (by assumption) | exact nx_s1 (by assumption) (by assumption) | (exfalso; omega)
          replace ou : Own eI H28 u (fillL c (nxG rnd b s r c l) (r.toNat * c.toNat) (i * c.toNat + (k + 1))) := by rw [← Nat.add_assoc, ← fillL_set (c := c) (g := nxG rnd b s r c l) (i := (i : Int)) (k := (k : Int)) (by omega) (by omega) (by omega) (cast_ix (by omega)) (by omega), eG]; exact ou
          exact nxt (c.toNat - (k + 1)) (by omega) ⟨k + 1, rfl, by omega, g0L20, g1L20, g2L20, g6L20, g7L20, g8L20, (congrArg (Value.int .i64) (by first | omega | rfl | (simp; done))), op1, ou, op8, lE⟩
        · skip
          refine gop_e (decide_eq_false hc27) ?_
          refine gop_rf ?_
          refine gop_e (decide_eq_false hc27) ?_
          refine gop_rf ?_
          refine ob_i (hp.nilC) ?_
          refine gop_e (decide_eq_false hc27) ?_
          refine gop_rf ?_
          refine ob_i (hp.fa 2) ?_
          refine gop_e (decide_eq_false hc27) ?_
          refine gop_rf ?_
          refine ob_i (hp.ld 2 rfl) ?_
          refine gop_e (decide_eq_false hc27) ?_
          refine gop_rf ?_
          refine gop_e (decide_eq_false hc27) ?_
          refine gop_rf ?_
          refine ob_i (hvc.ix (by omega) (by omega)) ?_
          refine gop_e (decide_eq_false hc27) ?_
          refine gop_rf ?_
          refine ob_i (hvc.ld 0 (by omega) (by omega)) ?_
          refine gop_e (decide_eq_false hc27) ?_
          refine gop_rf ?_
          refine ob_i (vInt_eql _ _ _) ?_
          refine gop_e (decide_eq_false hc27) ?_
          refine gop_rf ?_
          by_cases hc30 : (at_ 0 (l) (((i : Int) * c) + (k : Int))) = 1
          · skip
            refine gop_e (decide_eq_true hc30) ?_
            refine gop_rt ?_
            refine gop_e (decide_eq_true hc30) ?_
            refine gop_rt ?_
            refine ob_i (hw.nilC) ?_
            refine gop_e (decide_eq_true hc30) ?_
            refine gop_rt ?_
            refine ob_i (hw.fa 1) ?_
            refine gop_e (decide_eq_true hc30) ?_
            refine gop_rt ?_
            refine ob_i (hw.ld 1 rfl) ?_
            refine gop_e (decide_eq_true hc30) ?_
            refine gop_rt ?_
            refine gop_e (decide_eq_true hc30) ?_
            refine gop_rt ?_
            refine C.spec_l04Has hvs (by first | omega | assumption) (fun   H31    le32 => ?_)
            replace op1 := op1.le le32
            replace ou := ou.le le32
            replace op8 := op8.le le32
            replace hw := hw.le le32
            replace hp := hp.le le32
            replace hvb := hvb.le le32
            replace hvs := hvs.le le32
            replace hvc := hvc.le le32
            replace lE := lE.trans le32
            refine gop_e (decide_eq_false hc27) ?_
            refine gop_rf ?_
            refine ob_i (vPick_et (decide_eq_true hc30) _ _) ?_
            refine ob_i (vPick_ef (decide_eq_false hc27) _ _) ?_
            refine cnd_d (fun hg33 => ?_) (fun hg33 => ?_)
            · skip
              refine ob_i (op8.fa 2) ?_
              refine ob_i (op8.ld 2 rfl) ?_
              refine ob_i (ou.sl.ix (by omega) (by omega)) ?_
              refine ou.st (x := 1) (by omega) (by omega) rfl rfl (fun H34 ou off35 => ?_)
              replace op1 := op1.off off35 ap1Xu
              replace op8 := op8.off off35 auXp8.symm
              replace hw := hw0.le (off35.le lE nu)
              replace hp := hp0.le (off35.le lE nu)
              replace hvb := hvb0.le (off35.le lE nu)
              replace hvs := hvs0.le (off35.le lE nu)
              replace hvc := hvc0.le (off35.le lE nu)
              replace lE := off35.le lE nu
              refine ob_i (vInt_add (by omega) (by omega)) ?_
              have eG : nxG rnd b s r c l (i : Int) (k : Int) = 1 := by first | exact nx_b1 (by assumption) (by assumption) | exact nx_s1 (by assumption) (by assumption) | (exfalso; omega)
              replace ou : Own eI H34 u (fillL c (nxG rnd b s r c l) (r.toNat * c.toNat) (i * c.toNat + (k + 1))) := by rw [← Nat.add_assoc, ← fillL_set (c := c) (g := nxG rnd b s r c l) (i := (i : Int)) (k := (k : Int)) (by omega) (by omega) (by omega) (cast_ix (by omega)) (by omega), eG]; exact ou
              exact nxt (c.toNat - (k + 1)) (by omega) ⟨k + 1, rfl, by omega, g0L20, g1L20, g2L20, g6L20, g7L20, g8L20, (congrArg (Value.int .i64) (by first | omega | rfl | (simp; done))), op1, ou, op8, lE⟩
            · skip
              refine ob_i (vInt_add (by omega) (by omega)) ?_
              have eG : nxG rnd b s r c l (i : Int) (k : Int) = 0 := by first | exact nx_b0 (by assumption) (by assumption) | exact nx_s0 (by assumption) (by assumption) | (exfalso; omega)
              replace ou : Own eI H31 u (fillL c (nxG rnd b s r c l) (r.toNat * c.toNat) (i * c.toNat + (k + 1))) := by rw [← Nat.add_assoc, ← fillL_skip (c := c) (g := nxG rnd b s r c l) (i := (i : Int)) (k := (k : Int)) (by omega) (by omega) (by omega) (cast_ix (by omega)) eG]; exact ou
              exact nxt (c.toNat - (k + 1)) (by omega) ⟨k + 1, rfl, by omega, g0L20, g1L20, g2L20, g6L20, g7L20, g8L20, (congrArg (Value.int .i64) (by first | omega | rfl | (simp; done))), op1, ou, op8, lE⟩
          · skip
            refine gop_e (decide_eq_false hc30) ?_
            refine gop_sf ?_
            refine gop_e (decide_eq_false hc30) ?_
            refine gop_sf ?_
            refine gop_e (decide_eq_false hc30) ?_
            refine gop_sf ?_
            refine gop_e (decide_eq_false hc30) ?_
            refine gop_sf ?_
            refine gop_e (decide_eq_false hc30) ?_
            refine gop_sf ?_
            refine gop_e (decide_eq_false hc30) ?_
            refine gop_sf ?_
            refine gop_e (decide_eq_false hc27) ?_
            refine gop_rf ?_
            refine ob_i (vPick_ef (decide_eq_false hc30) _ _) ?_
            refine ob_i (vPick_ef (decide_eq_false hc27) _ _) ?_
            refine cnd_f1 ?_
            refine ob_i (vInt_add (by omega) (by omega)) ?_
            have eG : nxG rnd b s r c l (i : Int) (k : Int) = 0 := by first | exact nx_b0 (by assumption) (by assumption) | exact nx_s0 (by assumption) (by assumption) | (exfalso; omega)
            replace ou : Own eI H25 u (fillL c (nxG rnd b s r c l) (r.toNat * c.toNat) (i * c.toNat + (k + 1))) := by rw [← Nat.add_assoc, ← fillL_skip (c := c) (g := nxG rnd b s r c l) (i := (i : Int)) (k := (k : Int)) (by omega) (by omega) (by omega) (cast_ix (by omega)) eG]; exact ou
            exact nxt (c.toNat - (k + 1)) (by omega) ⟨k + 1, rfl, by omega, g0L20, g1L20, g2L20, g6L20, g7L20, g8L20, (congrArg (Value.int .i64) (by first | omega | rfl | (simp; done))), op1, ou, op8, lE⟩
      · skip
        refine gop_e (decide_eq_false hc24) ?_
        refine gop_sf ?_
        refine gop_e (decide_eq_false hc24) ?_
        refine gop_sf ?_
        refine gop_e (decide_eq_false hc24) ?_
        refine gop_sf ?_
        refine gop_e (decide_eq_false hc24) ?_
        refine gop_sf ?_
        refine gop_e (decide_eq_false hc24) ?_
        refine gop_sf ?_
        refine gop_e (decide_eq_false hc24) ?_
        refine gop_sf ?_
        refine ob_i (vPick_ef (decide_eq_false hc24) _ _) ?_
        refine gop_rf ?_
        refine gop_rf ?_
        refine ob_i (hp.nilC) ?_
        refine gop_rf ?_
        refine ob_i (hp.fa 2) ?_
        refine gop_rf ?_
        refine ob_i (hp.ld 2 rfl) ?_
        refine gop_rf ?_
        refine gop_rf ?_
        refine ob_i (hvc.ix (by omega) (by omega)) ?_
        refine gop_rf ?_
        refine ob_i (hvc.ld 0 (by omega) (by omega)) ?_
        refine gop_rf ?_
        refine ob_i (vInt_eql _ _ _) ?_
        refine gop_rf ?_
        by_cases hc36 : (at_ 0 (l) (((i : Int) * c) + (k : Int))) = 1
        · skip
          refine gop_e (decide_eq_true hc36) ?_
          refine gop_rt ?_
          refine gop_e (decide_eq_true hc36) ?_
          refine gop_rt ?_
          refine ob_i (hw.nilC) ?_
          refine gop_e (decide_eq_true hc36) ?_
          refine gop_rt ?_
          refine ob_i (hw.fa 1) ?_
          refine gop_e (decide_eq_true hc36) ?_
          refine gop_rt ?_
          refine ob_i (hw.ld 1 rfl) ?_
          refine gop_e (decide_eq_true hc36) ?_
          refine gop_rt ?_
          refine gop_e (decide_eq_true hc36) ?_
          refine gop_rt ?_
          refine C.spec_l04Has hvs (by first | omega | assumption) (fun   H37    le38 => ?_)
          replace op1 := op1.le le38
          replace ou := ou.le le38
          replace op8 := op8.le le38
          replace hw := hw.le le38
          replace hp := hp.le le38
          replace hvb := hvb.le le38
          replace hvs := hvs.le le38
          replace hvc := hvc.le le38
          replace lE := lE.trans le38
          refine gop_rf ?_
          refine ob_i (vPick_et (decide_eq_true hc36) _ _) ?_
          refine ob_i (vPick_f _ _) ?_
          refine cnd_d (fun hg39 => ?_) (fun hg39 => ?_)
          · skip
            refine ob_i (op8.fa 2) ?_
            refine ob_i (op8.ld 2 rfl) ?_
            refine ob_i (ou.sl.ix (by omega) (by omega)) ?_
            refine ou.st (x := 1) (by omega) (by omega) rfl rfl (fun H40 ou off41 => ?_)
            replace op1 := op1.off off41 ap1Xu
            replace op8 := op8.off off41 auXp8.symm
            replace hw := hw0.le (off41.le lE nu)
            replace hp := hp0.le (off41.le lE nu)
            replace hvb := hvb0.le (off41.le lE nu)
            replace hvs := hvs0.le (off41.le lE nu)
            replace hvc := hvc0.le (off41.le lE nu)
            replace lE := off41.le lE nu
            refine ob_i (vInt_add (by omega) (by omega)) ?_
            have eG : nxG rnd b s r c l (i : Int) (k : Int) = 1 := by first | exact nx_b1 (by assumption) (by assumption) | exact nx_s1 (by assumption) (by assumption) | (exfalso; omega)
            replace ou : Own eI H40 u (fillL c (nxG rnd b s r c l) (r.toNat * c.toNat) (i * c.toNat + (k + 1))) := by rw [← Nat.add_assoc, ← fillL_set (c := c) (g := nxG rnd b s r c l) (i := (i : Int)) (k := (k : Int)) (by omega) (by omega) (by omega) (cast_ix (by omega)) (by omega), eG]; exact ou
            exact nxt (c.toNat - (k + 1)) (by omega) ⟨k + 1, rfl, by omega, g0L20, g1L20, g2L20, g6L20, g7L20, g8L20, (congrArg (Value.int .i64) (by first | omega | rfl | (simp; done))), op1, ou, op8, lE⟩
          · skip
            refine ob_i (vInt_add (by omega) (by omega)) ?_
            have eG : nxG rnd b s r c l (i : Int) (k : Int) = 0 := by first | exact nx_b0 (by assumption) (by assumption) | exact nx_s0 (by assumption) (by assumption) | (exfalso; omega)
            replace ou : Own eI H37 u (fillL c (nxG rnd b s r c l) (r.toNat * c.toNat) (i * c.toNat + (k + 1))) := by rw [← Nat.add_assoc, ← fillL_skip (c := c) (g := nxG rnd b s r c l) (i := (i : Int)) (k := (k : Int)) (by omega) (by omega) (by omega) (cast_ix (by omega)) eG]; exact ou
            exact nxt (c.toNat - (k + 1)) (by omega) ⟨k + 1, rfl, by omega, g0L20, g1L20, g2L20, g6L20, g7L20, g8L20, (congrArg (Value.int .i64) (by first | omega | rfl | (simp; done))), op1, ou, op8, lE⟩
        · skip
          refine gop_e (decide_eq_false hc36) ?_
          refine gop_sf ?_
          refine gop_e (decide_eq_false hc36) ?_
          refine gop_sf ?_
          refine gop_e (decide_eq_false hc36) ?_
          refine gop_sf ?_
          refine gop_e (decide_eq_false hc36) ?_
          refine gop_sf ?_
          refine gop_e (decide_eq_false hc36) ?_
          refine gop_sf ?_
          refine gop_e (decide_eq_false hc36) ?_
          refine gop_sf ?_
          refine gop_rf ?_
          refine ob_i (vPick_ef (decide_eq_false hc36) _ _) ?_
          refine ob_i (vPick_f _ _) ?_
          refine cnd_f1 ?_
          refine ob_i (vInt_add (by omega) (by omega)) ?_
          have eG : nxG rnd b s r c l (i : Int) (k : Int) = 0 := by first | exact nx_b0 (by assumption) (by assumption) | exact nx_s0 (by assumption) (by assumption) | (exfalso; omega)
          replace ou : Own eI H22 u (fillL c (nxG rnd b s r c l) (r.toNat * c.toNat) (i * c.toNat + (k + 1))) := by rw [← Nat.add_assoc, ← fillL_skip (c := c) (g := nxG rnd b s r c l) (i := (i : Int)) (k := (k : Int)) (by omega) (by omega) (by omega) (cast_ix (by omega)) eG]; exact ou
          exact nxt (c.toNat - (k + 1)) (by omega) ⟨k + 1, rfl, by omega, g0L20, g1L20, g2L20, g6L20, g7L20, g8L20, (congrArg (Value.int .i64) (by first | omega | rfl | (simp; done))), op1, ou, op8, lE⟩
    · skip
      have tk := hg21
      rw [show i * c.toNat + k = (i + 1) * c.toNat by rw [Nat.add_mul, Nat.one_mul]; omega] at ou
      exact hJ19 _ _ ⟨g0L20, g1L20, g2L20, g6L20, g7L20, g8L20, op1, ou, op8, lE⟩
  · skip
    have ti := hg18
    rw [fillL_end (by rw [show i = r.toNat by omega]; exact Nat.le_refl _)] at ou
    exact hJ14 _ _ ⟨g6L17, g7L17, op1, ou, op8, lE⟩
theorem C.l04Same_r {p q vc vd : Value} {r c r2 c2 : Int} {l : List Int} {m : List Int}  {H : Hp} {K : Value → Hp → Prop} (hp0 : CelR H p [(.int .i64 (r)), (.int .i64 (c)), vc]) (hq0 : Cel H q [(.int .i64 (r2)), (.int .i64 (c2)), vd]) (hvc0 : Sl eI H vc l) (hvd0 : Sl eI H vd m) (k1 : l.length ≤ 9223372036854775807)
    (hk : ∀ H', Le H H' → K (.bool (decide (r = r2 ∧ c = c2 ∧ l = m))) H') : HT prg I.spec_l04Same [p, q].toArray H K := by
  have lE := Le.refl H
  have hp := hp0
  have hq := hq0
  have hvc := hvc0
  have hvd := hvd0
  refine R.spec_l04Same ?_
  unfold F.spec_l04Same
  refine ob_i (hp.nilC) ?_
  refine ob_i (hp.fa 0) ?_
  refine ob_i (hp.ld 0 rfl) ?_
  refine ob_i (hq.nilC) ?_
  refine ob_i (hq.fa 0) ?_
  refine ob_i (hq.ld 0 rfl) ?_
  refine ob_i (vInt_eql _ _ _) ?_
  by_cases hc1 : r = r2
  · skip
    refine gop_e (decide_eq_true hc1) ?_
    refine gop_rt ?_
    refine gop_e (decide_eq_true hc1) ?_
    refine gop_rt ?_
    refine ob_i (hp.nilC) ?_
    refine gop_e (decide_eq_true hc1) ?_
    refine gop_rt ?_
    refine ob_i (hp.fa 1) ?_
    refine gop_e (decide_eq_true hc1) ?_
    refine gop_rt ?_
    refine ob_i (hp.ld 1 rfl) ?_
    refine gop_e (decide_eq_true hc1) ?_
    refine gop_rt ?_
    refine gop_e (decide_eq_true hc1) ?_
    refine gop_rt ?_
    refine ob_i (hq.nilC) ?_
    refine gop_e (decide_eq_true hc1) ?_
    refine gop_rt ?_
    refine ob_i (hq.fa 1) ?_
    refine gop_e (decide_eq_true hc1) ?_
    refine gop_rt ?_
    refine ob_i (hq.ld 1 rfl) ?_
    refine gop_e (decide_eq_true hc1) ?_
    refine gop_rt ?_
    refine ob_i (vInt_eql _ _ _) ?_
    refine ob_i (vPick_et (decide_eq_true hc1) _ _) ?_
    by_cases hc2 : c = c2
    · skip
      refine gop_e (decide_eq_true hc2) ?_
      refine gop_rt ?_
      refine gop_e (decide_eq_true hc2) ?_
      refine gop_rt ?_
      refine ob_i (hp.nilC) ?_
      refine gop_e (decide_eq_true hc2) ?_
      refine gop_rt ?_
      refine ob_i (hp.fa 2) ?_
      refine gop_e (decide_eq_true hc2) ?_
      refine gop_rt ?_
      refine ob_i (hp.ld 2 rfl) ?_
      refine gop_e (decide_eq_true hc2) ?_
      refine gop_rt ?_
      refine gop_e (decide_eq_true hc2) ?_
      refine gop_rt ?_
      refine ob_i (hq.nilC) ?_
      refine gop_e (decide_eq_true hc2) ?_
      refine gop_rt ?_
      refine ob_i (hq.fa 2) ?_
      refine gop_e (decide_eq_true hc2) ?_
      refine gop_rt ?_
      refine ob_i (hq.ld 2 rfl) ?_
      refine gop_e (decide_eq_true hc2) ?_
      refine gop_rt ?_
      refine C.spec_l02Equal hvc hvd (by first | omega | assumption) ?_
      refine ⟨Le.refl _, ?_⟩
      refine ob_i (vPick_et (decide_eq_true hc2) _ _) ?_
      skip
      exact keq (K := K) (by rw [show decide (l = m) = decide (r = r2 ∧ c = c2 ∧ l = m) from decide_eq_decide.mpr (by exact ⟨fun h => ⟨by assumption, by assumption, h⟩, fun h => h.2.2⟩)]) (hk   _    lE)
    · skip
      refine gop_e (decide_eq_false hc2) ?_
      refine gop_sf ?_
      refine gop_e (decide_eq_false hc2) ?_
      refine gop_sf ?_
      refine gop_e (decide_eq_false hc2) ?_
      refine gop_sf ?_
      refine gop_e (decide_eq_false hc2) ?_
      refine gop_sf ?_
      refine gop_e (decide_eq_false hc2) ?_
      refine gop_sf ?_
      refine gop_e (decide_eq_false hc2) ?_
      refine gop_sf ?_
      refine gop_e (decide_eq_false hc2) ?_
      refine gop_sf ?_
      refine gop_e (decide_eq_false hc2) ?_
      refine gop_sf ?_
      refine gop_e (decide_eq_false hc2) ?_
      refine gop_sf ?_
      refine ob_i (vPick_ef (decide_eq_false hc2) _ _) ?_
      skip
      exact keq (K := K) (by rw [decide_eq_false (show ¬ (r = r2 ∧ c = c2 ∧ l = m) from by intro h; have h1 := h.1; have h2 := h.2.1; first | contradiction | omega)]) (hk   _    lE)
  · skip
    refine gop_e (decide_eq_false hc1) ?_
    refine gop_sf ?_
    refine gop_e (decide_eq_false hc1) ?_
    refine gop_sf ?_
    refine gop_e (decide_eq_false hc1) ?_
    refine gop_sf ?_
    refine gop_e (decide_eq_false hc1) ?_
    refine gop_sf ?_
    refine gop_e (decide_eq_false hc1) ?_
    refine gop_sf ?_
    refine gop_e (decide_eq_false hc1) ?_
    refine gop_sf ?_
    refine gop_e (decide_eq_false hc1) ?_
    refine gop_sf ?_
    refine gop_e (decide_eq_false hc1) ?_
    refine gop_sf ?_
    refine gop_e (decide_eq_false hc1) ?_
    refine gop_sf ?_
    refine ob_i (vPick_ef (decide_eq_false hc1) _ _) ?_
    refine gop_sf ?_
    refine gop_sf ?_
    refine gop_sf ?_
    refine gop_sf ?_
    refine gop_sf ?_
    refine gop_sf ?_
    refine gop_sf ?_
    refine gop_sf ?_
    refine gop_sf ?_
    refine ob_i (vPick_f _ _) ?_
    skip
    exact keq (K := K) (by rw [decide_eq_false (show ¬ (r = r2 ∧ c = c2 ∧ l = m) from by intro h; have h1 := h.1; have h2 := h.2.1; first | contradiction | omega)]) (hk   _    lE)
theorem key_set {l : List Int} {i : Nat} (h : i < l.length) : (l.take i ++ List.replicate (l.length - i) (0 : Int)).set (i : Int).toNat (at_ 0 l (i : Int)) = l.take (i + 1) ++ List.replicate (l.length - (i + 1)) 0 := by
  rw [Int.toNat_natCast, List.set_append_right _ _ (by rw [List.length_take]; omega), take_at 0 l h, List.append_assoc]
  congr 1
  rw [show i - (l.take i).length = 0 by simp; omega, show l.length - i = (l.length - (i + 1)) + 1 by omega, List.replicate_succ]; rfl
theorem dup_snoc {G : Nat → List Int} {k : Nat} (h : ∀ j, j < k → ¬ dupP G j) (hn : ∀ j, j < k → G j ≠ G k) : ∀ j, j < k + 1 → ¬ dupP G j := fun j hj => by
  by_cases e : j = k
  · subst e; exact dup_no hn
  · exact h j (by omega)
theorem ne_snoc {G : Nat → List Int} {k m : Nat} (h : ∀ j, j < m → G j ≠ G k) (hn : G m ≠ G k) : ∀ j, j < m + 1 → G j ≠ G k := fun j hj => by
  by_cases e : j = m
  · subst e; exact hn
  · exact h j (by omega)
def ftP (b s : List Int) (r c : Int) (l : List Int) (n : Int) : Prop := canP b s r c l ∧ (1 ≤ n ∧ n ≤ 512) ∧ perP (rnL true b s r c l) n.toNat
instance (b s : List Int) (r c : Int) (l : List Int) (n : Int) : Decidable (ftP b s r c l n) := by unfold ftP; infer_instance
theorem C.impl_keyOf {va : Value} {l : List Int}  {H : Hp} {K : Value → Hp → Prop} (hva0 : Sl eI H va l) (hb : ∀ x ∈ l, 0 ≤ x ∧ x ≤ 255) (k2 : l.length ≤ 1000)
    (hk : ∀ H', Le H H' → K (.string (bytesS .empty (l))) H') : HT prg I.impl_keyOf [va].toArray H K := by
  have lE := Le.refl H
  have hva := hva0
  refine R.impl_keyOf ?_
  unfold F.impl_keyOf
  refine ob_i (hva.len) ?_
  refine Own.mk_ (z := (0 : Int)) (by omega) (by omega) (by omega) (by omega) (fun u H1 ou nn2 le3 => ?_)
  have nu : Nw H u := nn2.le lE
  replace hva := hva.le le3
  replace lE := lE.trans le3
  refine jn_i (fun σ' H' => σ' 3 = u ∧ Own eU H' u (l) ∧ Le H H') (fun σ4 H4 hP => ?_) (fun J4 hJ4 => ?_)
  · skip
    obtain ⟨g3L4, ou, lE⟩ := hP
    have hva := hva0.le lE
    try simp only [g3L4]
    refine ob_i (val_convBS (by kernel_rfl) ou.sl) ?_
    skip
    exact hk   _    lE
  refine ob_i (hva.len) ?_
  refine ⟨fun n' σ' H' => ∃ i : Nat, n' = l.length - i ∧ i ≤ l.length ∧ σ' 3 = u ∧ σ' 9 = va ∧ σ' 10 = (.int .i64 (((l).length : Int))) ∧ σ' 11 = (.int .i64 ((i : Int))) ∧ Own eU H' u (l.take i ++ List.replicate (l.length - i) 0) ∧ Le H H',
    ⟨_, 0, rfl, by omega, rfl, rfl, rfl, (congrArg (Value.int .i64) (by first | omega | rfl | (simp; done))), (Own.cast (by simp) ou), lE⟩, ?_⟩
  rintro n5 σ5 H5 ⟨i, rfl, hiN, g3L5, g9L5, g10L5, g11L5, ou, lE⟩
  have hva := hva0.le lE
  try simp only [g3L5, g9L5, g10L5, g11L5]
  have ll : (l.take i ++ List.replicate (l.length - i) (0 : Int)).length = l.length := by simp; omega
  refine ob_i (vInt_lss _ _ _) ?_
  refine cnd_d (fun hg6 => ?_) (fun hg6 => ?_)
  · skip
    have ti := hg6
    have bb := hb _ (at_mem 0 l (i := (i : Int)) (by omega) (by omega))
    refine ob_i (hva.ix (by omega) (by omega)) ?_
    refine ob_i (hva.ld 0 (by omega) (by omega)) ?_
    refine ob_i (vCI_u8 (by omega) (by omega)) ?_
    refine ob_i (ou.sl.ix (by omega) (by omega)) ?_
    refine ou.st (x := at_ 0 (l) ((i : Int))) (by omega) (by omega) rfl rfl (fun H7 ou off8 => ?_)
    replace hva := hva0.le (off8.le lE nu)
    replace lE := off8.le lE nu
    refine ob_i (vInt_add (by omega) (by omega)) ?_
    exact nxt (l.length - (i + 1)) (by omega) ⟨i + 1, rfl, by omega, g3L5, g9L5, g10L5, (congrArg (Value.int .i64) (by first | omega | rfl | (simp; done))), (Own.cast (key_set (by omega)) ou), lE⟩
  · skip
    have ti := hg6
    rw [show i = l.length by omega, Nat.sub_self, List.take_length, List.replicate_zero, List.append_nil] at ou
    exact hJ4 _ _ ⟨g3L5, ou, lE⟩
theorem C.impl_FateOf_1 {vc : Value} {r c : Int} {l : List Int}  {H : Hp} {K : Value → Hp → Prop} (hvc0 : Sl eI H vc l) (hb : ∀ x ∈ l, 0 ≤ x ∧ x ≤ 255) (k2 : l.length ≤ 1000)
    (hk : ∀ H', Le H H' → K (.string (bytesS .empty (l))) H') : HT prg I.impl_FateOf_1 [(.agg #[(.int .i64 (r)), (.int .i64 (c)), vc])].toArray H K := by
  have lE := Le.refl H
  have hvc := hvc0
  refine R.impl_FateOf_1 ?_
  unfold F.impl_FateOf_1
  refine nw_i (fun p1 H2 op1 nn3 le4 => ?_)
  have np1 : Nw H p1 := nn3.le lE
  replace hvc := hvc.le le4
  replace lE := lE.trans le4
  replace op1 : Cel H2 p1 [(.int .i64 (r)), (.int .i64 (c)), vc] := op1
  refine ob_i (op1.fa 2) ?_
  refine ob_i (op1.ld 2 rfl) ?_
  refine C.impl_keyOf hvc (by first | omega | assumption) (by first | omega | assumption) (fun   H5    le6 => ?_)
  replace op1 := op1.le le6
  replace hvc := hvc.le le6
  replace lE := lE.trans le6
  skip
  exact hk   _    lE
theorem C.impl_FateOf_2 {w vb vs vc : Value} {r c : Int} {b : List Int} {s : List Int} {l : List Int}  {H : Hp} {K : Value → Hp → Prop} (hw0 : Cel H w [vb, vs]) (hvb0 : Sl eI H vb b) (hvs0 : Sl eI H vs s) (hvc0 : Sl eI H vc l) (hf : fieldN 1 r c l) (kb : b.length ≤ 9223372036854775807) (ks : s.length ≤ 9223372036854775807)
    (hk : ∀ u1 H', Own eI H' u1 (nxL true b s r c l) → Nw H u1 → Le H H' → K (.agg #[(.int .i64 (r)), (.int .i64 (c)), u1]) H') : HT prg I.impl_FateOf_2 [(.agg #[(.int .i64 (r)), (.int .i64 (c)), vc]), w].toArray H K := by
  have lE := Le.refl H
  have hw := hw0
  have hvb := hvb0
  have hvs := hvs0
  have hvc := hvc0
  refine R.impl_FateOf_2 ?_
  unfold F.impl_FateOf_2
  refine nw_i (fun p1 H2 op1 nn3 le4 => ?_)
  have np1 : Nw H p1 := nn3.le lE
  replace hw := hw.le le4
  replace hvb := hvb.le le4
  replace hvs := hvs.le le4
  replace hvc := hvc.le le4
  replace lE := lE.trans le4
  replace op1 : Cel H2 p1 [(.int .i64 (r)), (.int .i64 (c)), vc] := op1
  refine nw_i (fun p5 H6 op5 nn7 le8 => ?_)
  have ap1Xp5 : Apart p1 p5 := op1.apart nn7
  have np5 : Nw H p5 := nn7.le lE
  replace op1 := op1.le le8
  replace hw := hw.le le8
  replace hvb := hvb.le le8
  replace hvs := hvs.le le8
  replace hvc := hvc.le le8
  replace lE := lE.trans le8
  replace op5 : Cel H6 p5 [(.int .i64 (0)), (.int .i64 (0)), (.slice none 0 0)] := op5
  refine ob_i (hw.ldn rfl) ?_
  refine ob_i (op1.ldn rfl) ?_
  refine C.impl_Life_step hvb hvs hvc (by first | omega | assumption) (by first | omega | assumption) (by first | omega | assumption) (fun  u11 H9 ou11 nn12  le10 => ?_)
  have ap1Xu11 : Apart p1 u11 := op1.apart nn12
  have ap5Xu11 : Apart p5 u11 := op5.apart nn12
  have nu11 : Nw H u11 := nn12.le lE
  replace op1 := op1.le le10
  replace op5 := op5.le le10
  replace hw := hw.le le10
  replace hvb := hvb.le le10
  replace hvs := hvs.le le10
  replace hvc := hvc.le le10
  replace lE := lE.trans le10
  refine op5.stn (ws := [(.int .i64 (r)), (.int .i64 (c)), u11]) rfl rfl (oc1 rfl (oc1 rfl (oc1 ou11.one oc0))) (fun H13 op5 off14 => ?_)
  replace op1 := op1.off off14 ap1Xp5
  replace ou11 := ou11.off off14 ap5Xu11.symm
  replace hw := hw0.le (off14.le lE np5)
  replace hvb := hvb0.le (off14.le lE np5)
  replace hvs := hvs0.le (off14.le lE np5)
  replace hvc := hvc0.le (off14.le lE np5)
  replace lE := off14.le lE np5
  replace op5 : Cel H13 p5 [(.int .i64 (r)), (.int .i64 (c)), u11] := op5
  refine ob_i (op5.ldn rfl) ?_
  skip
  exact hk  u11 _ ou11 nu11  lE
theorem C.spec_FateOf {vb vs vc : Value} {r c n : Int} {b : List Int} {s : List Int} {l : List Int}  {H : Hp} {K : Value → Hp → Prop} (hvb0 : Sl eI H vb b) (hvs0 : Sl eI H vs s) (hvc0 : Sl eI H vc l) (kb : b.length ≤ 9223372036854775807) (ks : s.length ≤ 9223372036854775807) (k1 : l.length ≤ 9223372036854775807)
    (hk : ∀ H', Le H H' → K (.tuple #[(.int .i64 (selI (ftP b s r c l n) ((fsI (rnL true b s r c l) (ftK (rnL true b s r c l) n.toNat) : Int)))), (.int .i64 (selI (ftP b s r c l n) ((ftK (rnL true b s r c l) n.toNat : Int) - (fsI (rnL true b s r c l) (ftK (rnL true b s r c l) n.toNat) : Int)))), (.bool (decide (ftP b s r c l n)))]) H') : HT prg I.spec_FateOf [(.agg #[vb, vs]), (.agg #[(.int .i64 (r)), (.int .i64 (c)), vc]), (.int .i64 (n))].toArray H K := by
  have lE := Le.refl H
  have hvb := hvb0
  have hvs := hvs0
  have hvc := hvc0
  refine R.spec_FateOf ?_
  unfold F.spec_FateOf
  refine nw_i (fun p1 H2 op1 nn3 le4 => ?_)
  have np1 : Nw H p1 := nn3.le lE
  replace hvb := hvb.le le4
  replace hvs := hvs.le le4
  replace hvc := hvc.le le4
  replace lE := lE.trans le4
  replace op1 : Cel H2 p1 [vb, vs] := op1
  refine nw_i (fun p5 H6 op5 nn7 le8 => ?_)
  have ap1Xp5 : Apart p1 p5 := op1.apart nn7
  have np5 : Nw H p5 := nn7.le lE
  replace op1 := op1.le le8
  replace hvb := hvb.le le8
  replace hvs := hvs.le le8
  replace hvc := hvc.le le8
  replace lE := lE.trans le8
  replace op5 : Cel H6 p5 [(.int .i64 (r)), (.int .i64 (c)), vc] := op5
  refine C.spec_l04Can op1 op5 hvb hvs hvc (by first | omega | assumption) (by first | omega | assumption) (by first | omega | (have := hrl i; omega) | (have := hrl m; omega)) (fun   H9    le10 => ?_)
  replace op1 := op1.le le10
  replace op5 := op5.le le10
  replace hvb := hvb.le le10
  replace hvs := hvs.le le10
  replace hvc := hvc.le le10
  replace lE := lE.trans le10
  refine ob_nd (fun hc11 => ?_) (fun hc11 => ?_)
  · skip
    have hf := hc11.2
    have l1 := fieldN_len hf
    have hpos : 0 < l.length := by have := sidesF_mul hf.1; have := hf.2.1; omega
    have hby : ∀ j, ∀ x ∈ rnL true b s r c l j, 0 ≤ x ∧ x ≤ 255 := fun j x hx => by have := (rnL_field (rnd := true) (b := b) (s := s) hf j).2.2 x hx; omega
    have hrf := fun j => rnL_field (rnd := true) (b := b) (s := s) hf j
    have hrl := fun j => fieldN_len (hrf j)
    refine gop_rf ?_
    refine gop_rf ?_
    refine C.spec_l00In  ?_
    refine gop_rf ?_
    refine ob_nd (fun hc12 => ?_) (fun hc12 => ?_)
    · skip
      refine ob_i (vPick_f _ _) ?_
      refine cnd_f1 ?_
      refine C.spec_l04Own op5 hvc (by first | omega | assumption) (fun  u15 H13 ou15 nn16  le14 => ?_)
      have ap1Xu15 : Apart p1 u15 := op1.apart nn16
      have ap5Xu15 : Apart p5 u15 := op5.apart nn16
      have nu15 : Nw H u15 := nn16.le lE
      replace op1 := op1.le le14
      replace op5 := op5.le le14
      replace hvb := hvb.le le14
      replace hvs := hvs.le le14
      replace hvc := hvc.le le14
      replace lE := lE.trans le14
      refine bSE_one (enc := encFv) (x := (⟨r, c, u15⟩ : Fv)) rfl rfl (by omega) (by omega) rfl (fun w0 H17 ow0 nn18 le20 => ?_) rfl
      have ap1Xw0 : Apart p1 w0 := op1.apart nn18
      have ap5Xw0 : Apart p5 w0 := op5.apart nn18
      have au15Xw0 : Apart u15 w0 := ou15.apart nn18
      have nw0 : Nw H w0 := nn18.le lE
      replace op1 := op1.le le20
      replace op5 := op5.le le20
      replace ou15 := ou15.le le20
      replace hvb := hvb.le le20
      replace hvs := hvs.le le20
      replace hvc := hvc.le le20
      replace lE := lE.trans le20
      obtain ⟨Sw0, of21, hS21⟩ := Fam.one_of ow0 ou15 au15Xw0.symm
      replace ap1Xw0 : Apt p1 Sw0 := Apt.of_two hS21 ap1Xw0 ap1Xu15
      replace ap5Xw0 : Apt p5 Sw0 := Apt.of_two hS21 ap5Xw0 ap5Xu15
      replace nw0 : Nws H Sw0 := Nws.of_two hS21 nw0 nu15
      replace ow0 : Fam H17 w0 Sw0 ([⟨r, c, l⟩]) := of21
      refine jn_i (fun σ' H' => Cel H' p1 [vb, vs] ∧ Cel H' p5 [(.int .i64 (r)), (.int .i64 (c)), vc] ∧ Le H H' ∧ (∀ j, j < n.toNat + 1 → ¬ dupP (rnL true b s r c l) j)) (fun σ22 H22 hP => ?_) (fun J22 hJ22 => ?_)
      · skip
        obtain ⟨op1, op5, lE, hdo⟩ := hP
        have hvb := hvb0.le lE
        have hvs := hvs0.le lE
        have hvc := hvc0.le lE
        skip
        have hnoper : ¬ perP (rnL true b s r c l) n.toNat := per_no (fun j hj => hdo j (by omega))
        have hok : ¬ (ftP b s r c l n) := by intro h; first | exact absurd h.1 (by assumption) | exact absurd h.2.1 (by assumption) | exact absurd h.2.2 hnoper
        exact keq (K := K) (by rw [show ((selI (ftP b s r c l n) ((fsI (rnL true b s r c l) (ftK (rnL true b s r c l) n.toNat) : Int))) : Int) = (0) from by first | exact selI_f hok | (rw [selI_t hok, hper.2.2]; done) | (rw [selI_t hok, hper.2.2, hper.2.1]; omega)]; rw [show ((selI (ftP b s r c l n) ((ftK (rnL true b s r c l) n.toNat : Int) - (fsI (rnL true b s r c l) (ftK (rnL true b s r c l) n.toNat) : Int))) : Int) = (0) from by first | exact selI_f hok | (rw [selI_t hok, hper.2.2]; done) | (rw [selI_t hok, hper.2.2, hper.2.1]; omega)]; rw [decide_eq_false (show ¬ (ftP b s r c l n) from by exact hok)]) (hk   _    lE)
      refine ⟨fun n' σ' H' => ∃ i : Nat, n' = n.toNat - i ∧ i ≤ n.toNat ∧ ∃ v, ∃ Sv, σ' 2 = (.int .i64 (n)) ∧ σ' 3 = p1 ∧ σ' 9 = v ∧ σ' 10 = (.int .i64 ((i : Int) + 1)) ∧ Cel H' p1 [vb, vs] ∧ Cel H' p5 [(.int .i64 (r)), (.int .i64 (c)), vc] ∧ Fam H' v Sv (famG r c (rnL true b s r c l) (i + 1)) ∧ Nws H Sv ∧ Apt p1 Sv ∧ Apt p5 Sv ∧ Le H H' ∧ (∀ j, j < i + 1 → ¬ dupP (rnL true b s r c l) j),
        ⟨_, 0, rfl, by omega, w0, _, rfl, rfl, rfl, (congrArg (Value.int .i64) (by first | omega | rfl | (simp; done))), op1, op5, (Fam.cast (by rfl) ow0), nw0, ap1Xw0, ap5Xw0, lE, (fun j hj => dup_no (fun k hk => by omega))⟩, ?_⟩
      rintro n23 σ23 H23 ⟨i, rfl, hiN, v, Sv, g2L23, g3L23, g9L23, g10L23, op1, op5, ov, nv, ap1Xv, ap5Xv, lE, hd⟩
      have hvb := hvb0.le lE
      have hvs := hvs0.le lE
      have hvc := hvc0.le lE
      try simp only [g2L23, g3L23, g9L23, g10L23]
      have vl : (famG r c (rnL true b s r c l) (i + 1)).length = i + 1 := famG_len
      refine ob_i (vInt_leq _ _ _) ?_
      refine cnd_d (fun hg24 => ?_) (fun hg24 => ?_)
      · skip
        have ti := hg24
        refine jn_i (fun σ' H' => ∃ v, ∃ Sv, σ' 2 = (.int .i64 (n)) ∧ σ' 3 = p1 ∧ σ' 9 = v ∧ σ' 10 = (.int .i64 ((i : Int) + 1)) ∧ Cel H' p1 [vb, vs] ∧ Cel H' p5 [(.int .i64 (r)), (.int .i64 (c)), vc] ∧ Fam H' v Sv (famG r c (rnL true b s r c l) (i + 1 + 1)) ∧ Nws H Sv ∧ Apt p1 Sv ∧ Apt p5 Sv ∧ Le H H' ∧ (∀ j, j < i + 1 → rnL true b s r c l j ≠ rnL true b s r c l (i + 1))) (fun σ25 H25 hP => ?_) (fun J25 hJ25 => ?_)
        · skip
          obtain ⟨v, Sv, g2L25, g3L25, g9L25, g10L25, op1, op5, ov, nv, ap1Xv, ap5Xv, lE, hqo⟩ := hP
          have hvb := hvb0.le lE
          have hvs := hvs0.le lE
          have hvc := hvc0.le lE
          try simp only [g10L25]
          refine ob_i (vInt_add (by omega) (by omega)) ?_
          exact nxt (n.toNat - (i + 1)) (by omega) ⟨i + 1, rfl, by omega, v, _, g2L25, g3L25, g9L25, (congrArg (Value.int .i64) (by first | omega | rfl | (simp; done))), op1, op5, ov, nv, ap1Xv, ap5Xv, lE, (dup_snoc hd hqo)⟩
        refine ob_i (vInt_sub (by omega) (by omega)) ?_
        obtain ⟨P26, y27, hb28a, oP26, oy27, hb28p, hb28x⟩ := ov.el (i := ((i : Int) + 1) - 1) (f := ⟨r, c, rnL true b s r c l i⟩) (by omega) (by first | omega | (simp; omega)) (by rw [famG_at (by omega) (by omega)]; simp)
        have ap1XP26 : Apart p1 P26 := fun b h1 h2 => ap1Xv b h1 (hb28p b h2)
        have ap5XP26 : Apart p5 P26 := fun b h1 h2 => ap5Xv b h1 (hb28p b h2)
        have ap1Xy27 : Apart p1 y27 := fun b h1 h2 => ap1Xv b h1 (hb28x b h2)
        have ap5Xy27 : Apart p5 y27 := fun b h1 h2 => ap5Xv b h1 (hb28x b h2)
        replace oP26 : CelR H23 P26 [(.int .i64 (r)), (.int .i64 (c)), y27] := oP26
        replace oy27 : Ro eI H23 y27 (rnL true b s r c l i) := oy27
        refine ob_i (hb28a) ?_
        refine C.l04Next_r op1 oP26 hvb hvs oy27.sl (by first | exact hf | exact hrf _) (by first | omega | assumption) (by first | omega | assumption) (fun  u31 H29 ou31 nn32  le30 => ?_)
        have ap1Xu31 : Apart p1 u31 := op1.apart nn32
        have ap5Xu31 : Apart p5 u31 := op5.apart nn32
        have avXu31 : Apt Sv u31 := Apt.of_nw ov.known nn32
        have aP26Xu31 : Apart P26 u31 := oP26.apart nn32
        have ay27Xu31 : Apart y27 u31 := oy27.apart nn32
        have nu31 : Nw H u31 := nn32.le lE
        replace op1 := op1.le le30
        replace op5 := op5.le le30
        replace ov := ov.le le30
        replace oP26 := oP26.le le30
        replace oy27 := oy27.le le30
        replace hvb := hvb.le le30
        replace hvs := hvs.le le30
        replace hvc := hvc.le le30
        replace lE := lE.trans le30
        refine nw_i (fun p33 H34 op33 nn35 le36 => ?_)
        have ap1Xp33 : Apart p1 p33 := op1.apart nn35
        have ap5Xp33 : Apart p5 p33 := op5.apart nn35
        have avXp33 : Apt Sv p33 := Apt.of_nw ov.known nn35
        have aP26Xp33 : Apart P26 p33 := oP26.apart nn35
        have ay27Xp33 : Apart y27 p33 := oy27.apart nn35
        have au31Xp33 : Apart u31 p33 := ou31.apart nn35
        have np33 : Nw H p33 := nn35.le lE
        replace op1 := op1.le le36
        replace op5 := op5.le le36
        replace ov := ov.le le36
        replace oP26 := oP26.le le36
        replace oy27 := oy27.le le36
        replace ou31 := ou31.le le36
        replace hvb := hvb.le le36
        replace hvs := hvs.le le36
        replace hvc := hvc.le le36
        replace lE := lE.trans le36
        replace op33 : Cel H34 p33 [(.int .i64 (0)), (.int .i64 (0)), (.slice none 0 0)] := op33
        refine op33.stn (ws := [(.int .i64 (r)), (.int .i64 (c)), u31]) rfl rfl (oc1 rfl (oc1 rfl (oc1 ou31.one oc0))) (fun H37 op33 off38 => ?_)
        replace op1 := op1.off off38 ap1Xp33
        replace op5 := op5.off off38 ap5Xp33
        replace ov := ov.off off38 avXp33
        replace oP26 := oP26.off off38 aP26Xp33
        replace oy27 := oy27.off off38 ay27Xp33
        replace ou31 := ou31.off off38 au31Xp33
        replace hvb := hvb0.le (off38.le lE np33)
        replace hvs := hvs0.le (off38.le lE np33)
        replace hvc := hvc0.le (off38.le lE np33)
        replace lE := off38.le lE np33
        replace op33 : Cel H37 p33 [(.int .i64 (r)), (.int .i64 (c)), u31] := op33
        refine jn_i (fun σ' H' => σ' 2 = (.int .i64 (n)) ∧ σ' 3 = p1 ∧ σ' 9 = v ∧ σ' 10 = (.int .i64 ((i : Int) + 1)) ∧ σ' 11 = p33 ∧ Cel H' p1 [vb, vs] ∧ Cel H' p5 [(.int .i64 (r)), (.int .i64 (c)), vc] ∧ Fam H' v Sv (famG r c (rnL true b s r c l) (i + 1)) ∧ CelR H' P26 [(.int .i64 (r)), (.int .i64 (c)), y27] ∧ Ro eI H' y27 (rnL true b s r c l i) ∧ Own eI H' u31 (nxL true b s r c (rnL true b s r c l i)) ∧ Cel H' p33 [(.int .i64 (r)), (.int .i64 (c)), u31] ∧ Le H H' ∧ (∀ j, j < i + 1 → rnL true b s r c l j ≠ rnL true b s r c l (i + 1))) (fun σ39 H39 hP => ?_) (fun J39 hJ39 => ?_)
        · skip
          obtain ⟨g2L39, g3L39, g9L39, g10L39, g11L39, op1, op5, ov, oP26, oy27, ou31, op33, lE, hqi⟩ := hP
          have hvb := hvb0.le lE
          have hvs := hvs0.le lE
          have hvc := hvc0.le lE
          try simp only [g9L39, g11L39]
          refine ob_i (op33.ldn rfl) ?_
          refine bSE_one (enc := encFv) (x := (⟨r, c, u31⟩ : Fv)) rfl rfl (by omega) (by omega) rfl (fun u40 H41 ou40 nn42 le44 => ?_) rfl
          have ap1Xu40 : Apart p1 u40 := op1.apart nn42
          have ap5Xu40 : Apart p5 u40 := op5.apart nn42
          have avXu40 : Apt Sv u40 := Apt.of_nw ov.known nn42
          have aP26Xu40 : Apart P26 u40 := oP26.apart nn42
          have ay27Xu40 : Apart y27 u40 := oy27.apart nn42
          have au31Xu40 : Apart u31 u40 := ou31.apart nn42
          have ap33Xu40 : Apart p33 u40 := op33.apart nn42
          have nu40 : Nw H u40 := nn42.le lE
          replace op1 := op1.le le44
          replace op5 := op5.le le44
          replace ov := ov.le le44
          replace oP26 := oP26.le le44
          replace oy27 := oy27.le le44
          replace ou31 := ou31.le le44
          replace op33 := op33.le le44
          replace hvb := hvb.le le44
          replace hvs := hvs.le le44
          replace hvc := hvc.le le44
          replace lE := lE.trans le44
          refine Fam.push ov rfl (ou40.sl encFv_n) ou31 avXu31.symm (by omega) (by first | omega | (simp; omega)) (fun u49 Su49 H45 ou49 off46 hb47 hx48 oxu31 => ?_)
          have ap1Xu49 : Apt p1 Su49 := Apt.push op1.known ap1Xv ap1Xu31 hb47
          have ap5Xu49 : Apt p5 Su49 := Apt.push op5.known ap5Xv ap5Xu31 hb47
          have ap33Xu49 : Apt p33 Su49 := Apt.push op33.known avXp33.symm au31Xp33.symm hb47
          have au40Xu49 : Apt u40 Su49 := Apt.push ou40.known avXu40.symm au31Xu40.symm hb47
          have nu49 : Nws H Su49 := Nws.push lE nv nu31 hb47
          replace op1 := op1.offS off46 ap1Xv
          replace op5 := op5.offS off46 ap5Xv
          replace op33 := op33.offS off46 avXp33.symm
          replace ou40 := ou40.offS off46 avXu40.symm
          replace hvb := hvb0.le (off46.le lE nv)
          replace hvs := hvs0.le (off46.le lE nv)
          replace hvc := hvc0.le (off46.le lE nv)
          replace lE := off46.le lE nv
          replace ou31 := oxu31.ro
          exact hJ25 _ _ ⟨u49, _, g2L39, g3L39, rfl, g10L39, op1, op5, (Fam.cast famG_succ ou49), nu49, ap1Xu49, ap5Xu49, lE, hqi⟩
        refine ob_i (ov.len) ?_
        refine ⟨fun n' σ' H' => ∃ m : Nat, n' = (i + 1) - m ∧ m ≤ (i + 1) ∧ σ' 2 = (.int .i64 (n)) ∧ σ' 3 = p1 ∧ σ' 9 = v ∧ σ' 10 = (.int .i64 ((i : Int) + 1)) ∧ σ' 11 = p33 ∧ σ' 33 = (.int .i64 (((famG r c (rnL true b s r c l) (i + 1)).length : Int))) ∧ σ' 34 = (.int .i64 ((m : Int))) ∧ Cel H' p1 [vb, vs] ∧ Cel H' p5 [(.int .i64 (r)), (.int .i64 (c)), vc] ∧ Fam H' v Sv (famG r c (rnL true b s r c l) (i + 1)) ∧ CelR H' P26 [(.int .i64 (r)), (.int .i64 (c)), y27] ∧ Ro eI H' y27 (rnL true b s r c l i) ∧ Own eI H' u31 (nxL true b s r c (rnL true b s r c l i)) ∧ Cel H' p33 [(.int .i64 (r)), (.int .i64 (c)), u31] ∧ Le H H' ∧ (∀ j, j < m → rnL true b s r c l j ≠ rnL true b s r c l (i + 1)),
          ⟨_, 0, rfl, by omega, g2L23, g3L23, g9L23, g10L23, rfl, rfl, (congrArg (Value.int .i64) (by first | omega | rfl | (simp; done))), op1, op5, ov, oP26, oy27, ou31, op33, lE, (fun j hj => by omega)⟩, ?_⟩
        rintro n50 σ50 H50 ⟨m, rfl, hmN, g2L50, g3L50, g9L50, g10L50, g11L50, g33L50, g34L50, op1, op5, ov, oP26, oy27, ou31, op33, lE, hq⟩
        have hvb := hvb0.le lE
        have hvs := hvs0.le lE
        have hvc := hvc0.le lE
        try simp only [g9L50, g10L50, g11L50, g33L50, g34L50]
        refine ob_i (vInt_lss _ _ _) ?_
        refine cnd_d (fun hg51 => ?_) (fun hg51 => ?_)
        · skip
          have tm := hg51
          obtain ⟨P52, y53, hb54a, oP52, oy53, hb54p, hb54x⟩ := ov.el (i := (m : Int)) (f := ⟨r, c, rnL true b s r c l m⟩) (by omega) (by first | omega | (simp; omega)) (by rw [famG_at (by omega) (by omega)]; rfl)
          have ap1XP52 : Apart p1 P52 := fun b h1 h2 => ap1Xv b h1 (hb54p b h2)
          have ap5XP52 : Apart p5 P52 := fun b h1 h2 => ap5Xv b h1 (hb54p b h2)
          have au31XP52 : Apart u31 P52 := fun b h1 h2 => avXu31.symm b h1 (hb54p b h2)
          have ap33XP52 : Apart p33 P52 := fun b h1 h2 => avXp33.symm b h1 (hb54p b h2)
          have ap1Xy53 : Apart p1 y53 := fun b h1 h2 => ap1Xv b h1 (hb54x b h2)
          have ap5Xy53 : Apart p5 y53 := fun b h1 h2 => ap5Xv b h1 (hb54x b h2)
          have au31Xy53 : Apart u31 y53 := fun b h1 h2 => avXu31.symm b h1 (hb54x b h2)
          have ap33Xy53 : Apart p33 y53 := fun b h1 h2 => avXp33.symm b h1 (hb54x b h2)
          replace oP52 : CelR H50 P52 [(.int .i64 (r)), (.int .i64 (c)), y53] := oP52
          replace oy53 : Ro eI H50 y53 (rnL true b s r c l m) := oy53
          refine ob_i (hb54a) ?_
          refine C.l04Same_r oP52 op33 oy53.sl ou31.sl (by first | omega | (have := hrl i; omega) | (have := hrl m; omega)) (fun   H55    le56 => ?_)
          replace op1 := op1.le le56
          replace op5 := op5.le le56
          replace ov := ov.le le56
          replace oP26 := oP26.le le56
          replace oy27 := oy27.le le56
          replace ou31 := ou31.le le56
          replace op33 := op33.le le56
          replace oP52 := oP52.le le56
          replace oy53 := oy53.le le56
          replace hvb := hvb.le le56
          replace hvs := hvs.le le56
          replace hvc := hvc.le le56
          replace lE := lE.trans le56
          refine cnd_d (fun hg57 => ?_) (fun hg57 => ?_)
          · skip
            refine ob_i (vInt_sub (by omega) (by omega)) ?_
            refine retK (K := K) (v' := (.tuple #[(.int .i64 ((m : Int))), (.int .i64 (((i : Int) + 1) - (m : Int))), (.bool true)])) rfl ?_
            skip
            have hper := per_at (n := n.toNat) hd (show m < i + 1 by omega) (hg57).2.2 hq (by omega)
            have hok : ftP b s r c l n := by exact ⟨by assumption, by assumption, hper.1⟩
            exact keq (K := K) (by rw [show ((selI (ftP b s r c l n) ((fsI (rnL true b s r c l) (ftK (rnL true b s r c l) n.toNat) : Int))) : Int) = ((m : Int)) from by first | exact selI_f hok | (rw [selI_t hok, hper.2.2]; done) | (rw [selI_t hok, hper.2.2, hper.2.1]; omega)]; rw [show ((selI (ftP b s r c l n) ((ftK (rnL true b s r c l) n.toNat : Int) - (fsI (rnL true b s r c l) (ftK (rnL true b s r c l) n.toNat) : Int))) : Int) = (((i : Int) + 1) - (m : Int)) from by first | exact selI_f hok | (rw [selI_t hok, hper.2.2]; done) | (rw [selI_t hok, hper.2.2, hper.2.1]; omega)]; rw [decide_eq_true (show (ftP b s r c l n) from by exact hok)]) (hk   _    lE)
          · skip
            refine ob_i (vInt_add (by omega) (by omega)) ?_
            exact nxt ((i + 1) - (m + 1)) (by omega) ⟨m + 1, rfl, by omega, g2L50, g3L50, g9L50, g10L50, g11L50, g33L50, (congrArg (Value.int .i64) (by first | omega | rfl | (simp; done))), op1, op5, ov, oP26, oy27, ou31, op33, lE, (ne_snoc hq (fun h => hg57 ⟨rfl, rfl, h⟩))⟩
        · skip
          have tm := hg51
          exact hJ39 _ _ ⟨g2L50, g3L50, g9L50, g10L50, g11L50, op1, op5, ov, oP26, oy27, ou31, op33, lE, (fun j hj => hq j (by omega))⟩
      · skip
        have ti := hg24
        exact hJ22 _ _ ⟨op1, op5, lE, (by rw [show n.toNat = i by omega]; exact hd)⟩
    · skip
      refine ob_i (vPick_f _ _) ?_
      refine cnd_t1 ?_
      skip
      have hok : ¬ (ftP b s r c l n) := by intro h; first | exact absurd h.1 (by assumption) | exact absurd h.2.1 (by assumption) | exact absurd h.2.2 hnoper
      exact keq (K := K) (by rw [show ((selI (ftP b s r c l n) ((fsI (rnL true b s r c l) (ftK (rnL true b s r c l) n.toNat) : Int))) : Int) = (0) from by first | exact selI_f hok | (rw [selI_t hok, hper.2.2]; done) | (rw [selI_t hok, hper.2.2, hper.2.1]; omega)]; rw [show ((selI (ftP b s r c l n) ((ftK (rnL true b s r c l) n.toNat : Int) - (fsI (rnL true b s r c l) (ftK (rnL true b s r c l) n.toNat) : Int))) : Int) = (0) from by first | exact selI_f hok | (rw [selI_t hok, hper.2.2]; done) | (rw [selI_t hok, hper.2.2, hper.2.1]; omega)]; rw [decide_eq_false (show ¬ (ftP b s r c l n) from by exact hok)]) (hk   _    lE)
  · skip
    refine gop_st ?_
    refine gop_st ?_
    refine gop_st ?_
    refine ob_i (vPick_t _ _) ?_
    refine cnd_t1 ?_
    skip
    have hok : ¬ (ftP b s r c l n) := by intro h; first | exact absurd h.1 (by assumption) | exact absurd h.2.1 (by assumption) | exact absurd h.2.2 hnoper
    exact keq (K := K) (by rw [show ((selI (ftP b s r c l n) ((fsI (rnL true b s r c l) (ftK (rnL true b s r c l) n.toNat) : Int))) : Int) = (0) from by first | exact selI_f hok | (rw [selI_t hok, hper.2.2]; done) | (rw [selI_t hok, hper.2.2, hper.2.1]; omega)]; rw [show ((selI (ftP b s r c l n) ((ftK (rnL true b s r c l) n.toNat : Int) - (fsI (rnL true b s r c l) (ftK (rnL true b s r c l) n.toNat) : Int))) : Int) = (0) from by first | exact selI_f hok | (rw [selI_t hok, hper.2.2]; done) | (rw [selI_t hok, hper.2.2, hper.2.1]; omega)]; rw [decide_eq_false (show ¬ (ftP b s r c l n) from by exact hok)]) (hk   _    lE)
theorem C.impl_FateOf {vb vs vc : Value} {r c n : Int} {b : List Int} {s : List Int} {l : List Int}  {H : Hp} {K : Value → Hp → Prop} (hvb0 : Sl eI H vb b) (hvs0 : Sl eI H vs s) (hvc0 : Sl eI H vc l) (kb : b.length ≤ 9223372036854775807) (ks : s.length ≤ 9223372036854775807) (k1 : l.length ≤ 9223372036854775807)
    (hk : ∀ H', Le H H' → K (.tuple #[(.int .i64 (selI (ftP b s r c l n) ((fsI (rnL true b s r c l) (ftK (rnL true b s r c l) n.toNat) : Int)))), (.int .i64 (selI (ftP b s r c l n) ((ftK (rnL true b s r c l) n.toNat : Int) - (fsI (rnL true b s r c l) (ftK (rnL true b s r c l) n.toNat) : Int)))), (.bool (decide (ftP b s r c l n)))]) H') : HT prg I.impl_FateOf [(.agg #[vb, vs]), (.agg #[(.int .i64 (r)), (.int .i64 (c)), vc]), (.int .i64 (n))].toArray H K := by
  have lE := Le.refl H
  have hvb := hvb0
  have hvs := hvs0
  have hvc := hvc0
  refine R.impl_FateOf ?_
  unfold F.impl_FateOf
  refine nw_i (fun p1 H2 op1 nn3 le4 => ?_)
  have np1 : Nw H p1 := nn3.le lE
  replace hvb := hvb.le le4
  replace hvs := hvs.le le4
  replace hvc := hvc.le le4
  replace lE := lE.trans le4
  replace op1 : Cel H2 p1 [vb, vs] := op1
  refine nw_i (fun p5 H6 op5 nn7 le8 => ?_)
  have ap1Xp5 : Apart p1 p5 := op1.apart nn7
  have np5 : Nw H p5 := nn7.le lE
  replace op1 := op1.le le8
  replace hvb := hvb.le le8
  replace hvs := hvs.le le8
  replace hvc := hvc.le le8
  replace lE := lE.trans le8
  replace op5 : Cel H6 p5 [(.int .i64 (r)), (.int .i64 (c)), vc] := op5
  refine ob_i (op1.ldn rfl) ?_
  refine ob_i (op5.ldn rfl) ?_
  refine bSE_one (enc := encFv) (x := (⟨r, c, vc⟩ : Fv)) rfl rfl (by omega) (by omega) rfl (fun u9 H10 ou9 nn11 le13 => ?_) rfl
  have ap1Xu9 : Apart p1 u9 := op1.apart nn11
  have ap5Xu9 : Apart p5 u9 := op5.apart nn11
  have nu9 : Nw H u9 := nn11.le lE
  replace op1 := op1.le le13
  replace op5 := op5.le le13
  replace hvb := hvb.le le13
  replace hvs := hvs.le le13
  replace hvc := hvc.le le13
  replace lE := lE.trans le13
  refine C.impl_lives hvb hvs hvc (ou9.sl encFv_n) (by first | omega | assumption) (by first | omega | assumption) (by first | omega | (have := hrl i; omega)) (fun   H14    le15 => ?_)
  replace op1 := op1.le le15
  replace op5 := op5.le le15
  replace ou9 := ou9.le le15
  replace hvb := hvb.le le15
  replace hvs := hvs.le le15
  replace hvc := hvc.le le15
  replace lE := lE.trans le15
  refine ob_nd (fun hc16 => ?_) (fun hc16 => ?_)
  · skip
    have hf := hc16.2
    have l1 := fieldN_len hf
    have hpos : 0 < l.length := by have := sidesF_mul hf.1; have := hf.2.1; omega
    have hby : ∀ j, ∀ x ∈ rnL true b s r c l j, 0 ≤ x ∧ x ≤ 255 := fun j x hx => by have := (rnL_field (rnd := true) (b := b) (s := s) hf j).2.2 x hx; omega
    have hrf := fun j => rnL_field (rnd := true) (b := b) (s := s) hf j
    have hrl := fun j => fieldN_len (hrf j)
    refine gop_rf ?_
    refine gop_rf ?_
    refine C.impl_within  ?_
    refine gop_rf ?_
    refine ob_nd (fun hc17 => ?_) (fun hc17 => ?_)
    · skip
      refine ob_i (vPick_f _ _) ?_
      refine cnd_f1 ?_
      refine ob_i (op5.ldn rfl) ?_
      refine HTk (fun K18 hK18 => ?_)
      refine R.impl_period_impl_Field ?_
      unfold F.impl_period_impl_Field
      refine nw_i (fun q0 H19 oq0 nn20 le21 => ?_)
      have ap1Xq0 : Apart p1 q0 := op1.apart nn20
      have ap5Xq0 : Apart p5 q0 := op5.apart nn20
      have au9Xq0 : Apart u9 q0 := ou9.apart nn20
      have nq0 : Nw H q0 := nn20.le lE
      replace op1 := op1.le le21
      replace op5 := op5.le le21
      replace ou9 := ou9.le le21
      replace hvb := hvb.le le21
      replace hvs := hvs.le le21
      replace hvc := hvc.le le21
      replace lE := lE.trans le21
      replace oq0 : Cel H19 q0 [(.int .i64 (r)), (.int .i64 (c)), vc] := oq0
      refine Mp.new_ (fun mp Smp H22 omp nn23 le24 => ?_)
      have ap1Xmp : Apt p1 Smp := Apt.of_nws op1.known nn23
      have ap5Xmp : Apt p5 Smp := Apt.of_nws op5.known nn23
      have au9Xmp : Apt u9 Smp := Apt.of_nws ou9.known nn23
      have aq0Xmp : Apt q0 Smp := Apt.of_nws oq0.known nn23
      have nmp : Nws H Smp := nn23.le lE
      replace op1 := op1.le le24
      replace op5 := op5.le le24
      replace ou9 := ou9.le le24
      replace oq0 := oq0.le le24
      replace hvb := hvb.le le24
      replace hvs := hvs.le le24
      replace hvc := hvc.le le24
      replace lE := lE.trans le24
      refine ob_i (oq0.ldn rfl) ?_
      refine nw_i (fun q H25 oq nn26 le27 => ?_)
      have ap1Xq : Apart p1 q := op1.apart nn26
      have ap5Xq : Apart p5 q := op5.apart nn26
      have au9Xq : Apart u9 q := ou9.apart nn26
      have aq0Xq : Apart q0 q := oq0.apart nn26
      have ampXq : Apt Smp q := Apt.of_nw omp.known nn26
      have nq : Nw H q := nn26.le lE
      replace op1 := op1.le le27
      replace op5 := op5.le le27
      replace ou9 := ou9.le le27
      replace oq0 := oq0.le le27
      replace omp := omp.le le27
      replace hvb := hvb.le le27
      replace hvs := hvs.le le27
      replace hvc := hvc.le le27
      replace lE := lE.trans le27
      replace oq : Cel H25 q [(.int .i64 (0)), (.int .i64 (0)), (.slice none 0 0)] := oq
      refine oq.stn (ws := [(.int .i64 (r)), (.int .i64 (c)), vc]) rfl rfl (oc1 rfl (oc1 rfl (oc1 hvc.one oc0))) (fun H28 oq off29 => ?_)
      replace op1 := op1.off off29 ap1Xq
      replace op5 := op5.off off29 ap5Xq
      replace ou9 := ou9.off off29 au9Xq
      replace oq0 := oq0.off off29 aq0Xq
      replace omp := omp.off off29 ampXq
      replace hvb := hvb0.le (off29.le lE nq)
      replace hvs := hvs0.le (off29.le lE nq)
      replace hvc := hvc0.le (off29.le lE nq)
      replace lE := off29.le lE nq
      replace oq : Cel H28 q [(.int .i64 (r)), (.int .i64 (c)), vc] := oq
      refine jn_i (fun σ' H' => Cel H' p1 [vb, vs] ∧ Cel H' p5 [(.int .i64 (r)), (.int .i64 (c)), vc] ∧ OwnE 3 encFv H' u9 ([⟨r, c, vc⟩]) ∧ Cel H' q0 [(.int .i64 (r)), (.int .i64 (c)), vc] ∧ Le H H' ∧ (∀ j, j < n.toNat + 1 → ¬ dupP (rnL true b s r c l) j)) (fun σ30 H30 hP => ?_) (fun J30 hJ30 => ?_)
      · skip
        obtain ⟨op1, op5, ou9, oq0, lE, hdo⟩ := hP
        have hvb := hvb0.le lE
        have hvs := hvs0.le lE
        have hvc := hvc0.le lE
        refine hK18 _ _ ?_
        refine ob_i (vExt_30 _ _ _) ?_
        refine ob_i (vExt_31 _ _ _) ?_
        refine ob_i (vExt_32 _ _ _) ?_
        skip
        have hnoper : ¬ perP (rnL true b s r c l) n.toNat := per_no (fun j hj => hdo j (by omega))
        have hok : ¬ (ftP b s r c l n) := by intro h; first | exact absurd h.1 (by assumption) | exact absurd h.2.1 (by assumption) | exact absurd h.2.2 hnoper
        exact keq (K := K) (by rw [show ((selI (ftP b s r c l n) ((fsI (rnL true b s r c l) (ftK (rnL true b s r c l) n.toNat) : Int))) : Int) = (0) from by first | exact selI_f hok | (rw [selI_t hok, hper.2.2]; omega) | (rw [selI_t hok, hper.2.2, hper.2.1]; omega)]; rw [show ((selI (ftP b s r c l n) ((ftK (rnL true b s r c l) n.toNat : Int) - (fsI (rnL true b s r c l) (ftK (rnL true b s r c l) n.toNat) : Int))) : Int) = (0) from by first | exact selI_f hok | (rw [selI_t hok, hper.2.2]; omega) | (rw [selI_t hok, hper.2.2, hper.2.1]; omega)]; rw [decide_eq_false (show ¬ (ftP b s r c l n) from by exact hok)]) (hk   _    lE)
      refine ⟨fun n' σ' H' => ∃ i : Nat, n' = (n.toNat + 1) - i ∧ i ≤ (n.toNat + 1) ∧ ∃ u, σ' 1 = (.func (.func I.impl_FateOf_1) #[] #[]) ∧ σ' 2 = (.func (.func I.impl_FateOf_2) #[] #[p1]) ∧ σ' 3 = (.int .i64 (n)) ∧ σ' 11 = mp ∧ σ' 12 = q ∧ σ' 13 = (.int .i64 ((i : Int))) ∧ Cel H' p1 [vb, vs] ∧ Cel H' p5 [(.int .i64 (r)), (.int .i64 (c)), vc] ∧ OwnE 3 encFv H' u9 ([⟨r, c, vc⟩]) ∧ Cel H' q0 [(.int .i64 (r)), (.int .i64 (c)), vc] ∧ Mp H' mp Smp (mapG (rnL true b s r c l) i) ∧ Cel H' q [(.int .i64 (r)), (.int .i64 (c)), u] ∧ Ro eI H' u (rnL true b s r c l i) ∧ Apart p1 u ∧ Apart p5 u ∧ Apart u9 u ∧ Apart q0 u ∧ Apt Smp u ∧ Apart q u ∧ Le H H' ∧ (∀ j, j < i → ¬ dupP (rnL true b s r c l) j),
        ⟨_, 0, rfl, by omega, vc, rfl, rfl, rfl, rfl, rfl, (congrArg (Value.int .i64) (by first | omega | rfl | (simp; done))), op1, op5, ou9, oq0, (Mp.cast rfl omp), oq, (show Ro eI _ vc l from Ro.of_sl hvc (by omega)), ((Ro.of_sl hvc0 (by omega)).apart np1).symm, ((Ro.of_sl hvc0 (by omega)).apart np5).symm, ((Ro.of_sl hvc0 (by omega)).apart nu9).symm, ((Ro.of_sl hvc0 (by omega)).apart nq0).symm, (Apt.of_nws (u := vc) (show Kn H vc from (Ro.of_sl hvc0 (by omega)).known) nmp).symm, ((Ro.of_sl hvc0 (by omega)).apart nq).symm, lE, (fun j hj => by omega)⟩, ?_⟩
      rintro n31 σ31 H31 ⟨i, rfl, hiN, u, g1L31, g2L31, g3L31, g11L31, g12L31, g13L31, op1, op5, ou9, oq0, omp, oq, ou, ap1Xu, ap5Xu, au9Xu, aq0Xu, ampXu, aqXu, lE, hd⟩
      have hvb := hvb0.le lE
      have hvs := hvs0.le lE
      have hvc := hvc0.le lE
      try simp only [g1L31, g2L31, g3L31, g11L31, g12L31, g13L31]
      refine ob_i (vInt_leq _ _ _) ?_
      refine cnd_d (fun hg32 => ?_) (fun hg32 => ?_)
      · skip
        have ti := hg32
        refine ob_i (oq.ldn rfl) ?_
        refine ⟨by kernel_rfl, ?_⟩
        refine C.impl_FateOf_1 ou.sl (by exact hby _) (by first | omega | (have := hrl i; omega)) (fun   H33    le34 => ?_)
        replace op1 := op1.le le34
        replace op5 := op5.le le34
        replace ou9 := ou9.le le34
        replace oq0 := oq0.le le34
        replace omp := omp.le le34
        replace oq := oq.le le34
        replace ou := ou.le le34
        replace hvb := hvb.le le34
        replace hvs := hvs.le le34
        replace hvc := hvc.le le34
        replace lE := lE.trans le34
        refine Mp.look' omp (by kernel_rfl) ?_
        refine ob_i (vExt_20 _ _) ?_
        refine ob_i (vExt_21 _ _) ?_
        refine cnd_i (fun hg35 => ?_) (fun hg35 => ?_)
        · skip
          obtain ⟨m, hm1, hm2, hm3, hm4⟩ := mget_some hby hg35
          refine ob_i (vInt_sub (by omega) (by omega)) ?_
          refine retK (K := K18) (v' := (.tuple #[(.int .i64 ((mget (bytesS .empty ((rnL true b s r c l i))) (mapG (rnL true b s r c l) i)).getD 0)), (.int .i64 ((i : Int) - ((mget (bytesS .empty ((rnL true b s r c l i))) (mapG (rnL true b s r c l) i)).getD 0))), (.bool true)])) rfl ?_
          refine hK18 _ _ ?_
          refine ob_i (vExt_30 _ _ _) ?_
          refine ob_i (vExt_31 _ _ _) ?_
          refine ob_i (vExt_32 _ _ _) ?_
          skip
          have hper := per_at (n := n.toNat) hd hm1 hm2 hm3 (by omega)
          have hok : ftP b s r c l n := by exact ⟨by assumption, by assumption, hper.1⟩
          exact keq (K := K) (by rw [show ((selI (ftP b s r c l n) ((fsI (rnL true b s r c l) (ftK (rnL true b s r c l) n.toNat) : Int))) : Int) = ((mget (bytesS .empty ((rnL true b s r c l i))) (mapG (rnL true b s r c l) i)).getD 0) from by first | exact selI_f hok | (rw [selI_t hok, hper.2.2]; omega) | (rw [selI_t hok, hper.2.2, hper.2.1]; omega)]; rw [show ((selI (ftP b s r c l n) ((ftK (rnL true b s r c l) n.toNat : Int) - (fsI (rnL true b s r c l) (ftK (rnL true b s r c l) n.toNat) : Int))) : Int) = ((i : Int) - ((mget (bytesS .empty ((rnL true b s r c l i))) (mapG (rnL true b s r c l) i)).getD 0)) from by first | exact selI_f hok | (rw [selI_t hok, hper.2.2]; omega) | (rw [selI_t hok, hper.2.2, hper.2.1]; omega)]; rw [decide_eq_true (show (ftP b s r c l n) from by exact hok)]) (hk   _    lE)
        · skip
          refine ob_i (oq.ldn rfl) ?_
          refine ⟨by kernel_rfl, ?_⟩
          refine C.impl_FateOf_1 ou.sl (by exact hby _) (by first | omega | (have := hrl i; omega)) (fun   H36    le37 => ?_)
          replace op1 := op1.le le37
          replace op5 := op5.le le37
          replace ou9 := ou9.le le37
          replace oq0 := oq0.le le37
          replace omp := omp.le le37
          replace oq := oq.le le37
          replace ou := ou.le le37
          replace hvb := hvb.le le37
          replace hvs := hvs.le le37
          replace hvc := hvc.le le37
          replace lE := lE.trans le37
          refine Mp.add' omp (by kernel_rfl) (by exact (mget_not hby (by assumption)).2) (fun H38 omp off39 => ?_)
          replace op1 := op1.offS off39 ap1Xmp
          replace op5 := op5.offS off39 ap5Xmp
          replace ou9 := ou9.offS off39 au9Xmp
          replace oq0 := oq0.offS off39 aq0Xmp
          replace oq := oq.offS off39 ampXq.symm
          replace ou := ou.offS off39 ampXu.symm
          replace hvb := hvb0.le (off39.le lE nmp)
          replace hvs := hvs0.le (off39.le lE nmp)
          replace hvc := hvc0.le (off39.le lE nmp)
          replace lE := off39.le lE nmp
          refine ob_i (oq.ldn rfl) ?_
          refine ⟨by kernel_rfl, ?_⟩
          refine C.impl_FateOf_2 op1 hvb hvs ou.sl (by first | exact hf | exact hrf _) (by first | omega | assumption) (by first | omega | assumption) (fun  u42 H40 ou42 nn43  le41 => ?_)
          have ap1Xu42 : Apart p1 u42 := op1.apart nn43
          have ap5Xu42 : Apart p5 u42 := op5.apart nn43
          have au9Xu42 : Apart u9 u42 := ou9.apart nn43
          have aq0Xu42 : Apart q0 u42 := oq0.apart nn43
          have ampXu42 : Apt Smp u42 := Apt.of_nw omp.known nn43
          have aqXu42 : Apart q u42 := oq.apart nn43
          have auXu42 : Apart u u42 := ou.apart nn43
          have nu42 : Nw H u42 := nn43.le lE
          replace op1 := op1.le le41
          replace op5 := op5.le le41
          replace ou9 := ou9.le le41
          replace oq0 := oq0.le le41
          replace omp := omp.le le41
          replace oq := oq.le le41
          replace ou := ou.le le41
          replace hvb := hvb.le le41
          replace hvs := hvs.le le41
          replace hvc := hvc.le le41
          replace lE := lE.trans le41
          refine oq.stn (ws := [(.int .i64 (r)), (.int .i64 (c)), u42]) rfl rfl (oc1 rfl (oc1 rfl (oc1 ou42.one oc0))) (fun H44 oq off45 => ?_)
          replace op1 := op1.off off45 ap1Xq
          replace op5 := op5.off off45 ap5Xq
          replace ou9 := ou9.off off45 au9Xq
          replace oq0 := oq0.off off45 aq0Xq
          replace omp := omp.off off45 ampXq
          replace ou := ou.off off45 aqXu.symm
          replace ou42 := ou42.off off45 aqXu42.symm
          replace hvb := hvb0.le (off45.le lE nq)
          replace hvs := hvs0.le (off45.le lE nq)
          replace hvc := hvc0.le (off45.le lE nq)
          replace lE := off45.le lE nq
          replace oq : Cel H44 q [(.int .i64 (r)), (.int .i64 (c)), u42] := oq
          refine ob_i (vInt_add (by omega) (by omega)) ?_
          exact nxt ((n.toNat + 1) - (i + 1)) (by omega) ⟨i + 1, rfl, by omega, u42, g1L31, g2L31, g3L31, g11L31, g12L31, (congrArg (Value.int .i64) (by first | omega | rfl | (simp; done))), op1, op5, ou9, oq0, (Mp.cast mapG_succ omp), oq, ou42.ro, ap1Xu42, ap5Xu42, au9Xu42, aq0Xu42, ampXu42, aqXu42, lE, (dup_snoc hd (mget_not hby (by assumption)).1)⟩
      · skip
        have ti := hg32
        exact hJ30 _ _ ⟨op1, op5, ou9, oq0, lE, (by rw [show n.toNat + 1 = i by omega]; exact hd)⟩
    · skip
      refine ob_i (vPick_f _ _) ?_
      refine cnd_t1 ?_
      skip
      have hok : ¬ (ftP b s r c l n) := by intro h; first | exact absurd h.1 (by assumption) | exact absurd h.2.1 (by assumption) | exact absurd h.2.2 hnoper
      exact keq (K := K) (by rw [show ((selI (ftP b s r c l n) ((fsI (rnL true b s r c l) (ftK (rnL true b s r c l) n.toNat) : Int))) : Int) = (0) from by first | exact selI_f hok | (rw [selI_t hok, hper.2.2]; omega) | (rw [selI_t hok, hper.2.2, hper.2.1]; omega)]; rw [show ((selI (ftP b s r c l n) ((ftK (rnL true b s r c l) n.toNat : Int) - (fsI (rnL true b s r c l) (ftK (rnL true b s r c l) n.toNat) : Int))) : Int) = (0) from by first | exact selI_f hok | (rw [selI_t hok, hper.2.2]; omega) | (rw [selI_t hok, hper.2.2, hper.2.1]; omega)]; rw [decide_eq_false (show ¬ (ftP b s r c l n) from by exact hok)]) (hk   _    lE)
  · skip
    refine gop_st ?_
    refine gop_st ?_
    refine gop_st ?_
    refine ob_i (vPick_t _ _) ?_
    refine cnd_t1 ?_
    skip
    have hok : ¬ (ftP b s r c l n) := by intro h; first | exact absurd h.1 (by assumption) | exact absurd h.2.1 (by assumption) | exact absurd h.2.2 hnoper
    exact keq (K := K) (by rw [show ((selI (ftP b s r c l n) ((fsI (rnL true b s r c l) (ftK (rnL true b s r c l) n.toNat) : Int))) : Int) = (0) from by first | exact selI_f hok | (rw [selI_t hok, hper.2.2]; omega) | (rw [selI_t hok, hper.2.2, hper.2.1]; omega)]; rw [show ((selI (ftP b s r c l n) ((ftK (rnL true b s r c l) n.toNat : Int) - (fsI (rnL true b s r c l) (ftK (rnL true b s r c l) n.toNat) : Int))) : Int) = (0) from by first | exact selI_f hok | (rw [selI_t hok, hper.2.2]; omega) | (rw [selI_t hok, hper.2.2, hper.2.1]; omega)]; rw [decide_eq_false (show ¬ (ftP b s r c l n) from by exact hok)]) (hk   _    lE)
end Go.Proofs.Ythbffbpdoankjaa
