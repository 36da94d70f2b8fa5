/- Patterns that come again elsewhere: the program's and the reference's. -/
import Derived.Test.YthbffbpdoankjaaUQ
import Derived.Test.YthbffbpdoankjaaUC
namespace Go.Proofs.Ythbffbpdoankjaa
open HL
set_option maxRecDepth 100000
theorem C.spec_l05Border {p vc : Value} {r c : Int} {l : List Int}  {H : Hp} {K : Value → Hp → Prop} (hp0 : Cel H p [(.int .i64 (r)), (.int .i64 (c)), vc]) (hvc0 : Sl eI H vc l) (hs : sidesF r c) (hl : (l.length : Int) = r * c)
    (hk : ∀ H', Le H H' → K (.bool (decide (brdP r c l))) H') : HT prg I.spec_l05Border [p].toArray H K := by
  have lE := Le.refl H
  have hp := hp0
  have hvc := hvc0
  refine R.spec_l05Border ?_
  unfold F.spec_l05Border
  have q1 := hs.1
  have q2 := hs.2
  have qm := sidesF_mul hs
  refine jn_i (fun σ' H' => Le H H' ∧ bdU r c l (r.toNat * c.toNat)) (fun σ1 H1 hP => ?_) (fun J1 hJ1 => ?_)
  · skip
    obtain ⟨lE, ho0⟩ := hP
    have hp := hp0.le lE
    have hvc := hvc0.le lE
    skip
    exact keq (K := K) (by rw [decide_eq_false (show ¬ (brdP r c l) from by exact fun h => h (by rw [Int.toNat_mul (by omega) (by omega)]; exact ho0))]) (hk   _    lE)
  refine ⟨fun n' σ' H' => ∃ i : Nat, n' = r.toNat - i ∧ i ≤ r.toNat ∧ σ' 0 = p ∧ σ' 3 = (.int .i64 ((i : Int))) ∧ Le H H' ∧ bdU r c l (i * c.toNat),
    ⟨_, 0, rfl, by omega, rfl, (congrArg (Value.int .i64) (by first | omega | rfl | (simp; done))), lE, (by rw [Nat.zero_mul]; exact bdU_zero)⟩, ?_⟩
  rintro n2 σ2 H2 ⟨i, rfl, hiN, g0L2, g3L2, lE, hm1⟩
  have hp := hp0.le lE
  have hvc := hvc0.le lE
  try simp only [g0L2, g3L2]
  refine ob_i (hp.nilC) ?_
  refine ob_i (hp.fa 0) ?_
  refine ob_i (hp.ld 0 rfl) ?_
  refine ob_i (vInt_lss _ _ _) ?_
  refine cnd_d (fun hg3 => ?_) (fun hg3 => ?_)
  · skip
    have ti := hg3
    refine jn_i (fun σ' H' => σ' 0 = p ∧ σ' 3 = (.int .i64 ((i : Int))) ∧ Le H H' ∧ bdU r c l ((i + 1) * c.toNat)) (fun σ4 H4 hP => ?_) (fun J4 hJ4 => ?_)
    · skip
      obtain ⟨g0L4, g3L4, lE, ho1⟩ := hP
      have hp := hp0.le lE
      have hvc := hvc0.le lE
      try simp only [g3L4]
      refine ob_i (vInt_add (by omega) (by omega)) ?_
      exact nxt (r.toNat - (i + 1)) (by omega) ⟨i + 1, rfl, by omega, g0L4, (congrArg (Value.int .i64) (by first | omega | rfl | (simp; done))), lE, ho1⟩
    refine ⟨fun n' σ' H' => ∃ k : Nat, n' = c.toNat - k ∧ k ≤ c.toNat ∧ σ' 0 = p ∧ σ' 3 = (.int .i64 ((i : Int))) ∧ σ' 4 = (.int .i64 ((k : Int))) ∧ Le H H' ∧ bdU r c l (i * c.toNat + k),
      ⟨_, 0, rfl, by omega, g0L2, g3L2, (congrArg (Value.int .i64) (by first | omega | rfl | (simp; done))), lE, hm1⟩, ?_⟩
    rintro n5 σ5 H5 ⟨k, rfl, hkN, g0L5, g3L5, g4L5, lE, hm0⟩
    have hp := hp0.le lE
    have hvc := hvc0.le lE
    try simp only [g0L5, g3L5, g4L5]
    refine ob_i (hp.nilC) ?_
    refine ob_i (hp.fa 1) ?_
    refine ob_i (hp.ld 1 rfl) ?_
    refine ob_i (vInt_lss _ _ _) ?_
    refine cnd_d (fun hg6 => ?_) (fun hg6 => ?_)
    · skip
      have tk := hg6
      have x1 := ix_lt (a := (i : Int)) (b := (k : Int)) (r := r) (c := c) (by omega) (by omega) (by omega) (by omega)
      refine ob_i (hp.nilC) ?_
      refine ob_i (hp.fa 2) ?_
      refine ob_i (hp.ld 2 rfl) ?_
      refine ob_i (hp.nilC) ?_
      refine ob_i (hp.fa 1) ?_
      refine ob_i (hp.ld 1 rfl) ?_
      refine ob_i (vInt_mul (by omega) (by omega)) ?_
      refine ob_i (vInt_add (by omega) (by omega)) ?_
      refine ob_i (hvc.ix (by omega) (by omega)) ?_
      refine ob_i (hvc.ld 0 (by omega) (by omega)) ?_
      refine ob_i (vInt_eql _ _ _) ?_
      by_cases hc7 : (at_ 0 (l) (((i : Int) * c) + (k : Int))) = 1
      · skip
        refine gop_e (decide_eq_true hc7) ?_
        refine gop_rt ?_
        refine gop_e (decide_eq_true hc7) ?_
        refine gop_rt ?_
        refine ob_i (vInt_eql _ _ _) ?_
        refine gop_e (decide_eq_true hc7) ?_
        refine gop_rt ?_
        by_cases hc8 : (i : Int) = 0
        · skip
          refine gop_e (decide_eq_true hc8) ?_
          refine gop_st ?_
          refine gop_e (decide_eq_true hc8) ?_
          refine gop_st ?_
          refine gop_e (decide_eq_true hc7) ?_
          refine gop_rt ?_
          refine ob_i (vPick_et (decide_eq_true hc8) _ _) ?_
          refine gop_e (decide_eq_true hc7) ?_
          refine gop_rt ?_
          refine gop_st ?_
          refine gop_st ?_
          refine gop_st ?_
          refine gop_st ?_
          refine gop_st ?_
          refine gop_st ?_
          refine gop_st ?_
          refine gop_e (decide_eq_true hc7) ?_
          refine gop_rt ?_
          refine ob_i (vPick_t _ _) ?_
          refine gop_e (decide_eq_true hc7) ?_
          refine gop_rt ?_
          refine gop_st ?_
          refine gop_st ?_
          refine gop_st ?_
          refine gop_st ?_
          refine gop_st ?_
          refine gop_st ?_
          refine gop_st ?_
          refine gop_e (decide_eq_true hc7) ?_
          refine gop_rt ?_
          refine ob_i (vPick_t _ _) ?_
          refine ob_i (vPick_et (decide_eq_true hc7) _ _) ?_
          refine cnd_t1 ?_
          refine retK (K := K) (v' := (.bool true)) rfl ?_
          skip
          exact keq (K := K) (by rw [decide_eq_true (show (brdP r c l) from by exact brd_yes ((bdC_at (r := r) (c := c) (l := l) (i := i) (k := k) (n := i * c.toNat + k) (by omega) (cast_ix (by omega))).mpr ⟨by assumption, by omega⟩) (by rw [cast_ix (by omega)]; omega))]) (hk   _    lE)
        · skip
          refine gop_e (decide_eq_false hc8) ?_
          refine gop_rf ?_
          refine gop_e (decide_eq_false hc8) ?_
          refine gop_rf ?_
          refine ob_i (vInt_eql _ _ _) ?_
          refine gop_e (decide_eq_true hc7) ?_
          refine gop_rt ?_
          refine ob_i (vPick_ef (decide_eq_false hc8) _ _) ?_
          refine gop_e (decide_eq_true hc7) ?_
          refine gop_rt ?_
          by_cases hc9 : (k : Int) = 0
          · skip
            refine gop_e (decide_eq_true hc9) ?_
            refine gop_st ?_
            refine gop_e (decide_eq_true hc9) ?_
            refine gop_st ?_
            refine gop_e (decide_eq_true hc9) ?_
            refine gop_st ?_
            refine gop_e (decide_eq_true hc9) ?_
            refine gop_st ?_
            refine gop_e (decide_eq_true hc9) ?_
            refine gop_st ?_
            refine gop_e (decide_eq_true hc9) ?_
            refine gop_st ?_
            refine gop_e (decide_eq_true hc9) ?_
            refine gop_st ?_
            refine gop_e (decide_eq_true hc7) ?_
            refine gop_rt ?_
            refine ob_i (vPick_et (decide_eq_true hc9) _ _) ?_
            refine gop_e (decide_eq_true hc7) ?_
            refine gop_rt ?_
            refine gop_st ?_
            refine gop_st ?_
            refine gop_st ?_
            refine gop_st ?_
            refine gop_st ?_
            refine gop_st ?_
            refine gop_st ?_
            refine gop_e (decide_eq_true hc7) ?_
            refine gop_rt ?_
            refine ob_i (vPick_t _ _) ?_
            refine ob_i (vPick_et (decide_eq_true hc7) _ _) ?_
            refine cnd_t1 ?_
            refine retK (K := K) (v' := (.bool true)) rfl ?_
            skip
            exact keq (K := K) (by rw [decide_eq_true (show (brdP r c l) from by exact brd_yes ((bdC_at (r := r) (c := c) (l := l) (i := i) (k := k) (n := i * c.toNat + k) (by omega) (cast_ix (by omega))).mpr ⟨by assumption, by omega⟩) (by rw [cast_ix (by omega)]; omega))]) (hk   _    lE)
          · skip
            refine gop_e (decide_eq_false hc9) ?_
            refine gop_rf ?_
            refine gop_e (decide_eq_false hc9) ?_
            refine gop_rf ?_
            refine gop_e (decide_eq_false hc9) ?_
            refine gop_rf ?_
            refine ob_i (hp.nilC) ?_
            refine gop_e (decide_eq_false hc9) ?_
            refine gop_rf ?_
            refine ob_i (hp.fa 0) ?_
            refine gop_e (decide_eq_false hc9) ?_
            refine gop_rf ?_
            refine ob_i (hp.ld 0 rfl) ?_
            refine gop_e (decide_eq_false hc9) ?_
            refine gop_rf ?_
            refine ob_i (vInt_sub (by omega) (by omega)) ?_
            refine gop_e (decide_eq_false hc9) ?_
            refine gop_rf ?_
            refine ob_i (vInt_eql _ _ _) ?_
            refine gop_e (decide_eq_true hc7) ?_
            refine gop_rt ?_
            refine ob_i (vPick_ef (decide_eq_false hc9) _ _) ?_
            refine gop_e (decide_eq_true hc7) ?_
            refine gop_rt ?_
            by_cases hc10 : (i : Int) = (r - 1)
            · skip
              refine gop_e (decide_eq_true hc10) ?_
              refine gop_st ?_
              refine gop_e (decide_eq_true hc10) ?_
              refine gop_st ?_
              refine gop_e (decide_eq_true hc10) ?_
              refine gop_st ?_
              refine gop_e (decide_eq_true hc10) ?_
              refine gop_st ?_
              refine gop_e (decide_eq_true hc10) ?_
              refine gop_st ?_
              refine gop_e (decide_eq_true hc10) ?_
              refine gop_st ?_
              refine gop_e (decide_eq_true hc10) ?_
              refine gop_st ?_
              refine gop_e (decide_eq_true hc7) ?_
              refine gop_rt ?_
              refine ob_i (vPick_et (decide_eq_true hc10) _ _) ?_
              refine ob_i (vPick_et (decide_eq_true hc7) _ _) ?_
              refine cnd_t1 ?_
              refine retK (K := K) (v' := (.bool true)) rfl ?_
              skip
              exact keq (K := K) (by rw [decide_eq_true (show (brdP r c l) from by exact brd_yes ((bdC_at (r := r) (c := c) (l := l) (i := i) (k := k) (n := i * c.toNat + k) (by omega) (cast_ix (by omega))).mpr ⟨by assumption, by omega⟩) (by rw [cast_ix (by omega)]; omega))]) (hk   _    lE)
            · skip
              refine gop_e (decide_eq_false hc10) ?_
              refine gop_rf ?_
              refine gop_e (decide_eq_false hc10) ?_
              refine gop_rf ?_
              refine gop_e (decide_eq_false hc10) ?_
              refine gop_rf ?_
              refine ob_i (hp.nilC) ?_
              refine gop_e (decide_eq_false hc10) ?_
              refine gop_rf ?_
              refine ob_i (hp.fa 1) ?_
              refine gop_e (decide_eq_false hc10) ?_
              refine gop_rf ?_
              refine ob_i (hp.ld 1 rfl) ?_
              refine gop_e (decide_eq_false hc10) ?_
              refine gop_rf ?_
              refine ob_i (vInt_sub (by omega) (by omega)) ?_
              refine gop_e (decide_eq_false hc10) ?_
              refine gop_rf ?_
              refine ob_i (vInt_eql _ _ _) ?_
              refine gop_e (decide_eq_true hc7) ?_
              refine gop_rt ?_
              refine ob_i (vPick_ef (decide_eq_false hc10) _ _) ?_
              refine ob_i (vPick_et (decide_eq_true hc7) _ _) ?_
              refine cnd_d (fun hg11 => ?_) (fun hg11 => ?_)
              · skip
                refine retK (K := K) (v' := (.bool true)) rfl ?_
                skip
                exact keq (K := K) (by rw [decide_eq_true (show (brdP r c l) from by exact brd_yes ((bdC_at (r := r) (c := c) (l := l) (i := i) (k := k) (n := i * c.toNat + k) (by omega) (cast_ix (by omega))).mpr ⟨by assumption, by omega⟩) (by rw [cast_ix (by omega)]; omega))]) (hk   _    lE)
              · skip
                refine ob_i (vInt_add (by omega) (by omega)) ?_
                exact nxt (c.toNat - (k + 1)) (by omega) ⟨k + 1, rfl, by omega, g0L5, g3L5, (congrArg (Value.int .i64) (by first | omega | rfl | (simp; done))), lE, (bdU_succ hm0 (fun h => by have h2 := (bdC_at (r := r) (c := c) (l := l) (i := i) (k := k) (n := i * c.toNat + k) (by omega) (cast_ix (by omega))).mp h; first | exact absurd h2.1 (by assumption) | (have h3 := h2.2; omega)))⟩
      · skip
        refine gop_e (decide_eq_false hc7) ?_
        refine gop_sf ?_
        refine gop_e (decide_eq_false hc7) ?_
        refine gop_sf ?_
        refine gop_e (decide_eq_false hc7) ?_
        refine gop_sf ?_
        refine gop_u ?_
        refine gop_u ?_
        refine gop_e (decide_eq_false hc7) ?_
        refine gop_sf ?_
        refine gop_e (decide_eq_false hc7) ?_
        refine gop_sf ?_
        refine gop_u ?_
        refine gop_u ?_
        refine gop_u ?_
        refine gop_u ?_
        refine gop_u ?_
        refine gop_u ?_
        refine gop_u ?_
        refine gop_e (decide_eq_false hc7) ?_
        refine gop_sf ?_
        refine gop_e (decide_eq_false hc7) ?_
        refine gop_sf ?_
        refine gop_u ?_
        refine gop_u ?_
        refine gop_u ?_
        refine gop_u ?_
        refine gop_u ?_
        refine gop_u ?_
        refine gop_u ?_
        refine gop_e (decide_eq_false hc7) ?_
        refine gop_sf ?_
        refine ob_i (vPick_ef (decide_eq_false hc7) _ _) ?_
        refine cnd_f1 ?_
        refine ob_i (vInt_add (by omega) (by omega)) ?_
        exact nxt (c.toNat - (k + 1)) (by omega) ⟨k + 1, rfl, by omega, g0L5, g3L5, (congrArg (Value.int .i64) (by first | omega | rfl | (simp; done))), lE, (bdU_succ hm0 (fun h => by have h2 := (bdC_at (r := r) (c := c) (l := l) (i := i) (k := k) (n := i * c.toNat + k) (by omega) (cast_ix (by omega))).mp h; first | exact absurd h2.1 (by assumption) | (have h3 := h2.2; omega)))⟩
    · skip
      have tk := hg6
      exact hJ4 _ _ ⟨g0L5, g3L5, lE, (by rw [Nat.add_mul, Nat.one_mul, show c.toNat = k by omega]; exact (by rw [show c.toNat = k by omega] at hm0; exact hm0))⟩
  · skip
    have ti := hg3
    exact hJ1 _ _ ⟨lE, (by rw [show r.toNat = i by omega]; exact hm1)⟩
theorem C.impl_Field_onBorder {vc : Value} {r c : Int} {l : List Int}  {H : Hp} {K : Value → Hp → Prop} (hvc0 : Sl eI H vc l) (hs : sidesF r c) (hl : (l.length : Int) = r * c)
    (hk : ∀ H', Le H H' → K (.bool (decide (brdP r c l))) H') : HT prg I.impl_Field_onBorder [(.agg #[(.int .i64 (r)), (.int .i64 (c)), vc])].toArray H K := by
  have lE := Le.refl H
  have hvc := hvc0
  refine R.impl_Field_onBorder ?_
  unfold F.impl_Field_onBorder
  have q1 := hs.1
  have q2 := hs.2
  have qm := sidesF_mul hs
  refine nw_i (fun p1 H2 op1 nn3 le4 => ?_)
  have np1 : Nw H p1 := nn3.le lE
  replace hvc := hvc.le le4
  replace lE := lE.trans le4
  replace op1 : Cel H2 p1 [(.int .i64 (r)), (.int .i64 (c)), vc] := op1
  refine jn_i (fun σ' H' => Cel H' p1 [(.int .i64 (r)), (.int .i64 (c)), vc] ∧ Le H H' ∧ bdU r c l l.length) (fun σ5 H5 hP => ?_) (fun J5 hJ5 => ?_)
  · skip
    obtain ⟨op1, lE, ho0⟩ := hP
    have hvc := hvc0.le lE
    skip
    exact keq (K := K) (by rw [decide_eq_false (show ¬ (brdP r c l) from by exact fun h => h (by rw [← hl]; exact ho0))]) (hk   _    lE)
  refine ob_i (op1.fa 2) ?_
  refine ob_i (op1.ld 2 rfl) ?_
  refine ob_i (hvc.len) ?_
  refine ⟨fun n' σ' H' => ∃ i : Nat, n' = l.length - i ∧ i ≤ l.length ∧ σ' 1 = p1 ∧ σ' 8 = vc ∧ σ' 9 = (.int .i64 (((l).length : Int))) ∧ σ' 10 = (.int .i64 ((i : Int))) ∧ Cel H' p1 [(.int .i64 (r)), (.int .i64 (c)), vc] ∧ Le H H' ∧ bdU r c l i,
    ⟨_, 0, rfl, by omega, rfl, rfl, rfl, (congrArg (Value.int .i64) (by first | omega | rfl | (simp; done))), op1, lE, bdU_zero⟩, ?_⟩
  rintro n6 σ6 H6 ⟨i, rfl, hiN, g1L6, g8L6, g9L6, g10L6, op1, lE, hm0⟩
  have hvc := hvc0.le lE
  try simp only [g1L6, g8L6, g9L6, g10L6]
  refine ob_i (vInt_lss _ _ _) ?_
  refine cnd_d (fun hg7 => ?_) (fun hg7 => ?_)
  · skip
    have ti := hg7
    refine ob_i (hvc.ix (by omega) (by omega)) ?_
    refine ob_i (hvc.ld 0 (by omega) (by omega)) ?_
    refine ob_i (op1.fa 1) ?_
    refine ob_i (op1.ld 1 rfl) ?_
    refine ob_i (vInt_quoN (by omega) (by omega) (by omega)) ?_
    refine ob_i (op1.fa 1) ?_
    refine ob_i (op1.ld 1 rfl) ?_
    refine ob_i (vInt_remN (by omega) (by omega)) ?_
    refine ob_i (vInt_eql _ _ _) ?_
    by_cases hc8 : (at_ 0 (l) ((i : Int))) = 1
    · skip
      refine gop_e (decide_eq_true hc8) ?_
      refine gop_rt ?_
      refine gop_e (decide_eq_true hc8) ?_
      refine gop_rt ?_
      refine ob_i (vInt_eql _ _ _) ?_
      refine gop_e (decide_eq_true hc8) ?_
      refine gop_rt ?_
      by_cases hc9 : ((i : Int) / c) = 0
      · skip
        refine gop_e (decide_eq_true hc9) ?_
        refine gop_st ?_
        refine gop_e (decide_eq_true hc9) ?_
        refine gop_st ?_
        refine gop_e (decide_eq_true hc8) ?_
        refine gop_rt ?_
        refine ob_i (vPick_et (decide_eq_true hc9) _ _) ?_
        refine gop_e (decide_eq_true hc8) ?_
        refine gop_rt ?_
        refine gop_st ?_
        refine gop_st ?_
        refine gop_st ?_
        refine gop_st ?_
        refine gop_st ?_
        refine gop_e (decide_eq_true hc8) ?_
        refine gop_rt ?_
        refine ob_i (vPick_t _ _) ?_
        refine gop_e (decide_eq_true hc8) ?_
        refine gop_rt ?_
        refine gop_st ?_
        refine gop_st ?_
        refine gop_st ?_
        refine gop_st ?_
        refine gop_st ?_
        refine gop_e (decide_eq_true hc8) ?_
        refine gop_rt ?_
        refine ob_i (vPick_t _ _) ?_
        refine ob_i (vPick_et (decide_eq_true hc8) _ _) ?_
        refine cnd_t1 ?_
        refine retK (K := K) (v' := (.bool true)) rfl ?_
        skip
        exact keq (K := K) (by rw [decide_eq_true (show (brdP r c l) from by exact brd_yes (n := i) ⟨by assumption, by first | exact Or.inl (by assumption) | exact Or.inr (Or.inl (by assumption)) | exact Or.inr (Or.inr (Or.inl (by assumption))) | exact Or.inr (Or.inr (Or.inr (by assumption)))⟩ (by omega))]) (hk   _    lE)
      · skip
        refine gop_e (decide_eq_false hc9) ?_
        refine gop_rf ?_
        refine gop_e (decide_eq_false hc9) ?_
        refine gop_rf ?_
        refine ob_i (vInt_eql _ _ _) ?_
        refine gop_e (decide_eq_true hc8) ?_
        refine gop_rt ?_
        refine ob_i (vPick_ef (decide_eq_false hc9) _ _) ?_
        refine gop_e (decide_eq_true hc8) ?_
        refine gop_rt ?_
        by_cases hc10 : ((i : Int) % c) = 0
        · skip
          refine gop_e (decide_eq_true hc10) ?_
          refine gop_st ?_
          refine gop_e (decide_eq_true hc10) ?_
          refine gop_st ?_
          refine gop_e (decide_eq_true hc10) ?_
          refine gop_st ?_
          refine gop_e (decide_eq_true hc10) ?_
          refine gop_st ?_
          refine gop_e (decide_eq_true hc10) ?_
          refine gop_st ?_
          refine gop_e (decide_eq_true hc8) ?_
          refine gop_rt ?_
          refine ob_i (vPick_et (decide_eq_true hc10) _ _) ?_
          refine gop_e (decide_eq_true hc8) ?_
          refine gop_rt ?_
          refine gop_st ?_
          refine gop_st ?_
          refine gop_st ?_
          refine gop_st ?_
          refine gop_st ?_
          refine gop_e (decide_eq_true hc8) ?_
          refine gop_rt ?_
          refine ob_i (vPick_t _ _) ?_
          refine ob_i (vPick_et (decide_eq_true hc8) _ _) ?_
          refine cnd_t1 ?_
          refine retK (K := K) (v' := (.bool true)) rfl ?_
          skip
          exact keq (K := K) (by rw [decide_eq_true (show (brdP r c l) from by exact brd_yes (n := i) ⟨by assumption, by first | exact Or.inl (by assumption) | exact Or.inr (Or.inl (by assumption)) | exact Or.inr (Or.inr (Or.inl (by assumption))) | exact Or.inr (Or.inr (Or.inr (by assumption)))⟩ (by omega))]) (hk   _    lE)
        · skip
          refine gop_e (decide_eq_false hc10) ?_
          refine gop_rf ?_
          refine gop_e (decide_eq_false hc10) ?_
          refine gop_rf ?_
          refine ob_i (op1.fa 0) ?_
          refine gop_e (decide_eq_false hc10) ?_
          refine gop_rf ?_
          refine ob_i (op1.ld 0 rfl) ?_
          refine gop_e (decide_eq_false hc10) ?_
          refine gop_rf ?_
          refine ob_i (vInt_sub (by omega) (by omega)) ?_
          refine gop_e (decide_eq_false hc10) ?_
          refine gop_rf ?_
          refine ob_i (vInt_eql _ _ _) ?_
          refine gop_e (decide_eq_true hc8) ?_
          refine gop_rt ?_
          refine ob_i (vPick_ef (decide_eq_false hc10) _ _) ?_
          refine gop_e (decide_eq_true hc8) ?_
          refine gop_rt ?_
          by_cases hc11 : ((i : Int) / c) = (r - 1)
          · skip
            refine gop_e (decide_eq_true hc11) ?_
            refine gop_st ?_
            refine gop_e (decide_eq_true hc11) ?_
            refine gop_st ?_
            refine gop_e (decide_eq_true hc11) ?_
            refine gop_st ?_
            refine gop_e (decide_eq_true hc11) ?_
            refine gop_st ?_
            refine gop_e (decide_eq_true hc11) ?_
            refine gop_st ?_
            refine gop_e (decide_eq_true hc8) ?_
            refine gop_rt ?_
            refine ob_i (vPick_et (decide_eq_true hc11) _ _) ?_
            refine ob_i (vPick_et (decide_eq_true hc8) _ _) ?_
            refine cnd_t1 ?_
            refine retK (K := K) (v' := (.bool true)) rfl ?_
            skip
            exact keq (K := K) (by rw [decide_eq_true (show (brdP r c l) from by exact brd_yes (n := i) ⟨by assumption, by first | exact Or.inl (by assumption) | exact Or.inr (Or.inl (by assumption)) | exact Or.inr (Or.inr (Or.inl (by assumption))) | exact Or.inr (Or.inr (Or.inr (by assumption)))⟩ (by omega))]) (hk   _    lE)
          · skip
            refine gop_e (decide_eq_false hc11) ?_
            refine gop_rf ?_
            refine gop_e (decide_eq_false hc11) ?_
            refine gop_rf ?_
            refine ob_i (op1.fa 1) ?_
            refine gop_e (decide_eq_false hc11) ?_
            refine gop_rf ?_
            refine ob_i (op1.ld 1 rfl) ?_
            refine gop_e (decide_eq_false hc11) ?_
            refine gop_rf ?_
            refine ob_i (vInt_sub (by omega) (by omega)) ?_
            refine gop_e (decide_eq_false hc11) ?_
            refine gop_rf ?_
            refine ob_i (vInt_eql _ _ _) ?_
            refine gop_e (decide_eq_true hc8) ?_
            refine gop_rt ?_
            refine ob_i (vPick_ef (decide_eq_false hc11) _ _) ?_
            refine ob_i (vPick_et (decide_eq_true hc8) _ _) ?_
            refine cnd_d (fun hg12 => ?_) (fun hg12 => ?_)
            · skip
              refine retK (K := K) (v' := (.bool true)) rfl ?_
              skip
              exact keq (K := K) (by rw [decide_eq_true (show (brdP r c l) from by exact brd_yes (n := i) ⟨by assumption, by first | exact Or.inl (by assumption) | exact Or.inr (Or.inl (by assumption)) | exact Or.inr (Or.inr (Or.inl (by assumption))) | exact Or.inr (Or.inr (Or.inr (by assumption)))⟩ (by omega))]) (hk   _    lE)
            · skip
              refine ob_i (vInt_add (by omega) (by omega)) ?_
              exact nxt (l.length - (i + 1)) (by omega) ⟨i + 1, rfl, by omega, g1L6, g8L6, g9L6, (congrArg (Value.int .i64) (by first | omega | rfl | (simp; done))), op1, lE, (bdU_succ hm0 (fun h => by first | exact absurd h.1 (by assumption) | (rcases h.2 with h3 | h3 | h3 | h3 <;> exact absurd h3 (by assumption))))⟩
    · skip
      refine gop_e (decide_eq_false hc8) ?_
      refine gop_sf ?_
      refine gop_e (decide_eq_false hc8) ?_
      refine gop_sf ?_
      refine gop_e (decide_eq_false hc8) ?_
      refine gop_sf ?_
      refine gop_u ?_
      refine gop_u ?_
      refine gop_e (decide_eq_false hc8) ?_
      refine gop_sf ?_
      refine gop_e (decide_eq_false hc8) ?_
      refine gop_sf ?_
      refine gop_u ?_
      refine gop_u ?_
      refine gop_u ?_
      refine gop_u ?_
      refine gop_u ?_
      refine gop_e (decide_eq_false hc8) ?_
      refine gop_sf ?_
      refine gop_e (decide_eq_false hc8) ?_
      refine gop_sf ?_
      refine gop_u ?_
      refine gop_u ?_
      refine gop_u ?_
      refine gop_u ?_
      refine gop_u ?_
      refine gop_e (decide_eq_false hc8) ?_
      refine gop_sf ?_
      refine ob_i (vPick_ef (decide_eq_false hc8) _ _) ?_
      refine cnd_f1 ?_
      refine ob_i (vInt_add (by omega) (by omega)) ?_
      exact nxt (l.length - (i + 1)) (by omega) ⟨i + 1, rfl, by omega, g1L6, g8L6, g9L6, (congrArg (Value.int .i64) (by first | omega | rfl | (simp; done))), op1, lE, (bdU_succ hm0 (fun h => by first | exact absurd h.1 (by assumption) | (rcases h.2 with h3 | h3 | h3 | h3 <;> exact absurd h3 (by assumption))))⟩
  · skip
    have ti := hg7
    exact hJ5 _ _ ⟨op1, lE, (by rw [show l.length = i by omega]; exact hm0)⟩
theorem C.spec_ShipOf {vb vs vc : Value} {r c st : Int} {b : List Int} {s : List Int} {l : List Int}  {H : Hp} {K : Value → Hp → Prop} (hvb0 : Sl eI H vb b) (hvs0 : Sl eI H vs s) (hvc0 : Sl eI H vc l) (kb : b.length ≤ 9223372036854775807) (ks : s.length ≤ 9223372036854775807) (k1 : l.length ≤ 9223372036854775807)
    (hk : ∀ H', Le H H' → K (.tuple #[(.int .i64 (selI (shpOk b s r c l st) (shpF b s r c l st + 1))), (.int .i64 (selI (shpOk b s r c l st) ((trm 24 24 (shpT b s r c l st)).1 - (trm 24 24 (shp0 r c l)).1))), (.int .i64 (selI (shpOk b s r c l st) ((trm 24 24 (shpT b s r c l st)).2.2.1 - (trm 24 24 (shp0 r c l)).2.2.1))), (.bool (decide (shpOk b s r c l st)))]) H') : HT prg I.spec_ShipOf [(.agg #[vb, vs]), (.agg #[(.int .i64 (r)), (.int .i64 (c)), vc]), (.int .i64 (st))].toArray H K := by
  have lE := Le.refl H
  have hvb := hvb0
  have hvs := hvs0
  have hvc := hvc0
  refine R.spec_ShipOf ?_
  unfold F.spec_ShipOf
  refine nw_i (fun p1 H2 op1 nn3 le4 => ?_)
  have np1 : Nw H p1 := nn3.le lE
  replace hvb := hvb.le le4
  replace hvs := hvs.le le4
  replace hvc := hvc.le le4
  replace lE := lE.trans le4
  replace op1 : Cel H2 p1 [vb, vs] := op1
  refine nw_i (fun p5 H6 op5 nn7 le8 => ?_)
  have ap1Xp5 : Apart p1 p5 := op1.apart nn7
  have np5 : Nw H p5 := nn7.le lE
  replace op1 := op1.le le8
  replace hvb := hvb.le le8
  replace hvs := hvs.le le8
  replace hvc := hvc.le le8
  replace lE := lE.trans le8
  replace op5 : Cel H6 p5 [(.int .i64 (r)), (.int .i64 (c)), vc] := op5
  refine C.spec_l04Can op1 op5 hvb hvs hvc (by first | omega | assumption) (by first | omega | assumption) (by first | omega | assumption) (fun   H9    le10 => ?_)
  replace op1 := op1.le le10
  replace op5 := op5.le le10
  replace hvb := hvb.le le10
  replace hvs := hvs.le le10
  replace hvc := hvc.le le10
  replace lE := lE.trans le10
  refine ob_nd (fun hc11 => ?_) (fun hc11 => ?_)
  · skip
    have hf := hc11.2
    have l1 := fieldN_len hf
    have hs := hf.1
    have hl := hf.2.1
    have q1 := hs.1
    have q2 := hs.2
    have qm := sidesF_mul hs
    have hs24 := s24
    have hf0 := shp0_field hf
    have hl0 := hf0.2.1
    have tb0 := trm24 (shp0 r c l)
    have tl0 := trl24 (shp0 r c l)
    refine gop_rf ?_
    refine gop_rf ?_
    refine C.spec_l00In  ?_
    refine gop_rf ?_
    refine ob_nd (fun hc12 => ?_) (fun hc12 => ?_)
    · skip
      refine ob_i (vPick_f _ _) ?_
      refine cnd_f1 ?_
      refine C.spec_l04New (by first | omega | assumption) (by first | omega | assumption) (by first | omega | assumption) (by first | omega | assumption) (fun  u15 H13 ou15 nn16  le14 => ?_)
      have ap1Xu15 : Apart p1 u15 := op1.apart nn16
      have ap5Xu15 : Apart p5 u15 := op5.apart nn16
      have nu15 : Nw H u15 := nn16.le lE
      replace op1 := op1.le le14
      replace op5 := op5.le le14
      replace hvb := hvb.le le14
      replace hvs := hvs.le le14
      replace hvc := hvc.le le14
      replace lE := lE.trans le14
      refine nw_i (fun q H17 oq nn18 le19 => ?_)
      have ap1Xq : Apart p1 q := op1.apart nn18
      have ap5Xq : Apart p5 q := op5.apart nn18
      have au15Xq : Apart u15 q := ou15.apart nn18
      have nq : Nw H q := nn18.le lE
      replace op1 := op1.le le19
      replace op5 := op5.le le19
      replace ou15 := ou15.le le19
      replace hvb := hvb.le le19
      replace hvs := hvs.le le19
      replace hvc := hvc.le le19
      replace lE := lE.trans le19
      replace oq : Cel H17 q [(.int .i64 (0)), (.int .i64 (0)), (.slice none 0 0)] := oq
      refine oq.stn (ws := [(.int .i64 (24)), (.int .i64 (24)), u15]) rfl rfl (oc1 rfl (oc1 rfl (oc1 ou15.one oc0))) (fun H20 oq off21 => ?_)
      replace op1 := op1.off off21 ap1Xq
      replace op5 := op5.off off21 ap5Xq
      replace ou15 := ou15.off off21 au15Xq
      replace hvb := hvb0.le (off21.le lE nq)
      replace hvs := hvs0.le (off21.le lE nq)
      replace hvc := hvc0.le (off21.le lE nq)
      replace lE := off21.le lE nq
      replace oq : Cel H20 q [(.int .i64 (24)), (.int .i64 (24)), u15] := oq
      refine ob_i (op5.fa 0) ?_
      refine ob_i (op5.ld 0 rfl) ?_
      refine ob_i (vInt_sub (by omega) (by omega)) ?_
      refine ob_i (vInt_quoN (by omega) (by omega) (by omega)) ?_
      refine ob_i (op5.fa 1) ?_
      refine ob_i (op5.ld 1 rfl) ?_
      refine ob_i (vInt_sub (by omega) (by omega)) ?_
      refine ob_i (vInt_quoN (by omega) (by omega) (by omega)) ?_
      refine jn_i (fun σ' H' => ∃ u, σ' 2 = (.int .i64 (st)) ∧ σ' 3 = p1 ∧ σ' 10 = q ∧ Cel H' p1 [vb, vs] ∧ Cel H' p5 [(.int .i64 (r)), (.int .i64 (c)), vc] ∧ Cel H' q [(.int .i64 (24)), (.int .i64 (24)), u] ∧ Own eI H' u (shp0 r c l) ∧ Nw H u ∧ Apart p1 u ∧ Apart p5 u ∧ Apart q u ∧ Le H H') (fun σ22 H22 hP => ?_) (fun J22 hJ22 => ?_)
      · skip
        obtain ⟨u, g2L22, g3L22, g10L22, op1, op5, oq, ou, nu, ap1Xu, ap5Xu, aqXu, lE⟩ := hP
        have hvb := hvb0.le lE
        have hvs := hvs0.le lE
        have hvc := hvc0.le lE
        try simp only [g2L22, g3L22, g10L22]
        refine C.spec_l05Trim oq ou.sl (by first | omega | assumption) (by first | assumption | exact hl0 | exact hln) (fun hc23  H24    le25 => ?_) (fun hc26 u29 H27 ou29 nn30  le28 => ?_)
        · skip
          replace op1 := op1.le le25
          replace op5 := op5.le le25
          replace oq := oq.le le25
          replace ou := ou.le le25
          replace hvb := hvb.le le25
          replace hvs := hvs.le le25
          replace hvc := hvc.le le25
          replace lE := lE.trans le25
          refine ob_i (vExt_40 _ _ _ _) ?_
          refine ob_i (vExt_41 _ _ _ _) ?_
          refine ob_i (vExt_42 _ _ _ _) ?_
          refine ob_i (vExt_43 _ _ _ _) ?_
          refine nw_i (fun p31 H32 op31 nn33 le34 => ?_)
          have ap1Xp31 : Apart p1 p31 := op1.apart nn33
          have ap5Xp31 : Apart p5 p31 := op5.apart nn33
          have aqXp31 : Apart q p31 := oq.apart nn33
          have auXp31 : Apart u p31 := ou.apart nn33
          have np31 : Nw H p31 := nn33.le lE
          replace op1 := op1.le le34
          replace op5 := op5.le le34
          replace oq := oq.le le34
          replace ou := ou.le le34
          replace hvb := hvb.le le34
          replace hvs := hvs.le le34
          replace hvc := hvc.le le34
          replace lE := lE.trans le34
          replace op31 : Cel H32 p31 [(.int .i64 (0)), (.int .i64 (0)), (.slice none 0 0)] := op31
          refine op31.stn (ws := [(.int .i64 (0)), (.int .i64 (0)), (.slice none 0 0)]) rfl rfl (oc1 rfl (oc1 rfl (oc1 rfl oc0))) (fun H35 op31 off36 => ?_)
          replace op1 := op1.off off36 ap1Xp31
          replace op5 := op5.off off36 ap5Xp31
          replace oq := oq.off off36 aqXp31
          replace ou := ou.off off36 auXp31
          replace hvb := hvb0.le (off36.le lE np31)
          replace hvs := hvs0.le (off36.le lE np31)
          replace hvc := hvc0.le (off36.le lE np31)
          replace lE := off36.le lE np31
          replace op31 : Cel H35 p31 [(.int .i64 (0)), (.int .i64 (0)), (.slice none 0 0)] := op31
          refine ob_i (a := .bool true) rfl ?_
          refine gop_st ?_
          refine ob_i (vPick_t _ _) ?_
          refine cnd_t1 ?_
          skip
          have hok : ¬ (shpOk b s r c l st) := by intro h; have := h.2.2.1; omega
          exact keq (K := K) (by rw [show ((selI (shpOk b s r c l st) (shpF b s r c l st + 1)) : Int) = (0) from by first | exact selI_f hok | (rw [selI_t hok, hT.2.1]; done) | (rw [selI_t hok, hT.2.2]; rfl)]; rw [show ((selI (shpOk b s r c l st) ((trm 24 24 (shpT b s r c l st)).1 - (trm 24 24 (shp0 r c l)).1)) : Int) = (0) from by first | exact selI_f hok | (rw [selI_t hok, hT.2.1]; done) | (rw [selI_t hok, hT.2.2]; rfl)]; rw [show ((selI (shpOk b s r c l st) ((trm 24 24 (shpT b s r c l st)).2.2.1 - (trm 24 24 (shp0 r c l)).2.2.1)) : Int) = (0) from by first | exact selI_f hok | (rw [selI_t hok, hT.2.1]; done) | (rw [selI_t hok, hT.2.2]; rfl)]; rw [decide_eq_false (show ¬ (shpOk b s r c l st) from by exact hok)]) (hk   _    lE)
        · skip
          have ap1Xu29 : Apart p1 u29 := op1.apart nn30
          have ap5Xu29 : Apart p5 u29 := op5.apart nn30
          have aqXu29 : Apart q u29 := oq.apart nn30
          have auXu29 : Apart u u29 := ou.apart nn30
          have nu29 : Nw H u29 := nn30.le lE
          replace op1 := op1.le le28
          replace op5 := op5.le le28
          replace oq := oq.le le28
          replace ou := ou.le le28
          replace hvb := hvb.le le28
          replace hvs := hvs.le le28
          replace hvc := hvc.le le28
          replace lE := lE.trans le28
          refine ob_i (vExt_40 _ _ _ _) ?_
          refine ob_i (vExt_41 _ _ _ _) ?_
          refine ob_i (vExt_42 _ _ _ _) ?_
          refine ob_i (vExt_43 _ _ _ _) ?_
          refine nw_i (fun p37 H38 op37 nn39 le40 => ?_)
          have ap1Xp37 : Apart p1 p37 := op1.apart nn39
          have ap5Xp37 : Apart p5 p37 := op5.apart nn39
          have aqXp37 : Apart q p37 := oq.apart nn39
          have auXp37 : Apart u p37 := ou.apart nn39
          have au29Xp37 : Apart u29 p37 := ou29.apart nn39
          have np37 : Nw H p37 := nn39.le lE
          replace op1 := op1.le le40
          replace op5 := op5.le le40
          replace oq := oq.le le40
          replace ou := ou.le le40
          replace ou29 := ou29.le le40
          replace hvb := hvb.le le40
          replace hvs := hvs.le le40
          replace hvc := hvc.le le40
          replace lE := lE.trans le40
          replace op37 : Cel H38 p37 [(.int .i64 (0)), (.int .i64 (0)), (.slice none 0 0)] := op37
          refine op37.stn (ws := [(.int .i64 (trR 24 24 (shp0 r c l))), (.int .i64 (trC 24 24 (shp0 r c l))), u29]) rfl rfl (oc1 rfl (oc1 rfl (oc1 ou29.one oc0))) (fun H41 op37 off42 => ?_)
          replace op1 := op1.off off42 ap1Xp37
          replace op5 := op5.off off42 ap5Xp37
          replace oq := oq.off off42 aqXp37
          replace ou := ou.off off42 auXp37
          replace ou29 := ou29.off off42 au29Xp37
          replace hvb := hvb0.le (off42.le lE np37)
          replace hvs := hvs0.le (off42.le lE np37)
          replace hvc := hvc0.le (off42.le lE np37)
          replace lE := off42.le lE np37
          replace op37 : Cel H41 p37 [(.int .i64 (trR 24 24 (shp0 r c l))), (.int .i64 (trC 24 24 (shp0 r c l))), u29] := op37
          refine ob_i (a := .bool false) rfl ?_
          refine gop_rf ?_
          refine C.spec_l05Border oq ou.sl (by first | omega | assumption) (by first | assumption | exact hl0 | exact hln) (fun   H43    le44 => ?_)
          replace op1 := op1.le le44
          replace op5 := op5.le le44
          replace oq := oq.le le44
          replace ou := ou.le le44
          replace ou29 := ou29.le le44
          replace op37 := op37.le le44
          replace hvb := hvb.le le44
          replace hvs := hvs.le le44
          replace hvc := hvc.le le44
          replace lE := lE.trans le44
          refine ob_i (vPick_f _ _) ?_
          refine cnd_d (fun hg45 => ?_) (fun hg45 => ?_)
          · skip
            skip
            have hok : ¬ (shpOk b s r c l st) := by exact fun h => h.2.2.2.1 hg45
            exact keq (K := K) (by rw [show ((selI (shpOk b s r c l st) (shpF b s r c l st + 1)) : Int) = (0) from by first | exact selI_f hok | (rw [selI_t hok, hT.2.1]; done) | (rw [selI_t hok, hT.2.2]; rfl)]; rw [show ((selI (shpOk b s r c l st) ((trm 24 24 (shpT b s r c l st)).1 - (trm 24 24 (shp0 r c l)).1)) : Int) = (0) from by first | exact selI_f hok | (rw [selI_t hok, hT.2.1]; done) | (rw [selI_t hok, hT.2.2]; rfl)]; rw [show ((selI (shpOk b s r c l st) ((trm 24 24 (shpT b s r c l st)).2.2.1 - (trm 24 24 (shp0 r c l)).2.2.1)) : Int) = (0) from by first | exact selI_f hok | (rw [selI_t hok, hT.2.1]; done) | (rw [selI_t hok, hT.2.2]; rfl)]; rw [decide_eq_false (show ¬ (shpOk b s r c l st) from by exact hok)]) (hk   _    lE)
          · skip
            refine jn_i (fun σ' H' => ∃ u, ∃ t', Cel H' p1 [vb, vs] ∧ Cel H' p5 [(.int .i64 (r)), (.int .i64 (c)), vc] ∧ Cel H' q [(.int .i64 (24)), (.int .i64 (24)), u] ∧ Own eI H' u (shpS b s r c l t') ∧ Own eI H' u29 (trL 24 24 (shp0 r c l)) ∧ Cel H' p37 [(.int .i64 (trR 24 24 (shp0 r c l))), (.int .i64 (trC 24 24 (shp0 r c l))), u29] ∧ Nw H u ∧ Apart p1 u ∧ Apart p5 u ∧ Apart q u ∧ Apart u u29 ∧ Apart u p37 ∧ Le H H' ∧ ∀ x, x < st.toNat → ¬ shpE b s r c l x) (fun σ46 H46 hP => ?_) (fun J46 hJ46 => ?_)
            · skip
              obtain ⟨u, t', op1, op5, oq, ou, ou29, op37, nu, ap1Xu, ap5Xu, aqXu, auXu29, auXp37, lE, ho0⟩ := hP
              have hvb := hvb0.le lE
              have hvs := hvs0.le lE
              have hvc := hvc0.le lE
              skip
              have hok : ¬ (shpOk b s r c l st) := by exact shp_none ho0
              exact keq (K := K) (by rw [show ((selI (shpOk b s r c l st) (shpF b s r c l st + 1)) : Int) = (0) from by first | exact selI_f hok | (rw [selI_t hok, hT.2.1]; done) | (rw [selI_t hok, hT.2.2]; rfl)]; rw [show ((selI (shpOk b s r c l st) ((trm 24 24 (shpT b s r c l st)).1 - (trm 24 24 (shp0 r c l)).1)) : Int) = (0) from by first | exact selI_f hok | (rw [selI_t hok, hT.2.1]; done) | (rw [selI_t hok, hT.2.2]; rfl)]; rw [show ((selI (shpOk b s r c l st) ((trm 24 24 (shpT b s r c l st)).2.2.1 - (trm 24 24 (shp0 r c l)).2.2.1)) : Int) = (0) from by first | exact selI_f hok | (rw [selI_t hok, hT.2.1]; done) | (rw [selI_t hok, hT.2.2]; rfl)]; rw [decide_eq_false (show ¬ (shpOk b s r c l st) from by exact hok)]) (hk   _    lE)
            refine ⟨fun n' σ' H' => ∃ t : Nat, n' = st.toNat - t ∧ t ≤ st.toNat ∧ ∃ u, σ' 2 = (.int .i64 (st)) ∧ σ' 3 = p1 ∧ σ' 10 = q ∧ σ' 15 = p37 ∧ σ' 16 = (.int .i64 ((trm 24 24 (shp0 r c l)).1)) ∧ σ' 17 = (.int .i64 ((trm 24 24 (shp0 r c l)).2.2.1)) ∧ σ' 19 = (.int .i64 ((t : Int) + 1)) ∧ Cel H' p1 [vb, vs] ∧ Cel H' p5 [(.int .i64 (r)), (.int .i64 (c)), vc] ∧ Cel H' q [(.int .i64 (24)), (.int .i64 (24)), u] ∧ Own eI H' u (shpS b s r c l t) ∧ Own eI H' u29 (trL 24 24 (shp0 r c l)) ∧ Cel H' p37 [(.int .i64 (trR 24 24 (shp0 r c l))), (.int .i64 (trC 24 24 (shp0 r c l))), u29] ∧ Nw H u ∧ Apart p1 u ∧ Apart p5 u ∧ Apart q u ∧ Apart u u29 ∧ Apart u p37 ∧ Le H H' ∧ ∀ x, x < t → ¬ shpE b s r c l x,
              ⟨_, 0, rfl, by omega, u, g2L22, g3L22, g10L22, rfl, rfl, rfl, (congrArg (Value.int .i64) (by first | omega | rfl | (simp; done))), op1, op5, oq, (Own.cast (by first | rfl | (simp; done)) ou), ou29, op37, nu, ap1Xu, ap5Xu, aqXu, auXu29, auXp37, lE, (fun x hx => by omega)⟩, ?_⟩
            rintro n47 σ47 H47 ⟨t, rfl, htN, u, g2L47, g3L47, g10L47, g15L47, g16L47, g17L47, g19L47, op1, op5, oq, ou, ou29, op37, nu, ap1Xu, ap5Xu, aqXu, auXu29, auXp37, lE, hm0⟩
            have hvb := hvb0.le lE
            have hvs := hvs0.le lE
            have hvc := hvc0.le lE
            try simp only [g2L47, g3L47, g10L47, g15L47, g16L47, g17L47, g19L47]
            have hfi : fieldN 1 24 24 (shpS b s r c l t) := rnL_field hf0 t
            have hfn : fieldN 1 24 24 (nxL false b s 24 24 (shpS b s r c l t)) := nxL_field hs24
            have hln := hfn.2.1
            have tbn := trm24 (nxL false b s 24 24 (shpS b s r c l t))
            have tln := trl24 (nxL false b s 24 24 (shpS b s r c l t))
            refine ob_i (vInt_leq _ _ _) ?_
            refine cnd_d (fun hg48 => ?_) (fun hg48 => ?_)
            · skip
              have tt := hg48
              refine C.spec_l04Step op1 oq hvb hvs ou.sl (by first | omega | assumption) (by first | omega | assumption) (by first | omega | assumption) (fun  u51 H49 ou51 nn52  le50 => ?_)
              have ap1Xu51 : Apart p1 u51 := op1.apart nn52
              have ap5Xu51 : Apart p5 u51 := op5.apart nn52
              have aqXu51 : Apart q u51 := oq.apart nn52
              have auXu51 : Apart u u51 := ou.apart nn52
              have au29Xu51 : Apart u29 u51 := ou29.apart nn52
              have ap37Xu51 : Apart p37 u51 := op37.apart nn52
              have nu51 : Nw H u51 := nn52.le lE
              replace op1 := op1.le le50
              replace op5 := op5.le le50
              replace oq := oq.le le50
              replace ou := ou.le le50
              replace ou29 := ou29.le le50
              replace op37 := op37.le le50
              replace hvb := hvb.le le50
              replace hvs := hvs.le le50
              replace hvc := hvc.le le50
              replace lE := lE.trans le50
              refine oq.stn (ws := [(.int .i64 (24)), (.int .i64 (24)), u51]) rfl rfl (oc1 rfl (oc1 rfl (oc1 ou51.one oc0))) (fun H53 oq off54 => ?_)
              replace op1 := op1.off off54 ap1Xq
              replace op5 := op5.off off54 ap5Xq
              replace ou := ou.off off54 aqXu.symm
              replace ou29 := ou29.off off54 aqXu29.symm
              replace op37 := op37.off off54 aqXp37.symm
              replace ou51 := ou51.off off54 aqXu51.symm
              replace hvb := hvb0.le (off54.le lE nq)
              replace hvs := hvs0.le (off54.le lE nq)
              replace hvc := hvc0.le (off54.le lE nq)
              replace lE := off54.le lE nq
              replace oq : Cel H53 q [(.int .i64 (24)), (.int .i64 (24)), u51] := oq
              refine C.spec_l05Border oq ou51.sl (by first | omega | assumption) (by first | assumption | exact hl0 | exact hln) (fun   H55    le56 => ?_)
              replace op1 := op1.le le56
              replace op5 := op5.le le56
              replace oq := oq.le le56
              replace ou := ou.le le56
              replace ou29 := ou29.le le56
              replace op37 := op37.le le56
              replace ou51 := ou51.le le56
              replace hvb := hvb.le le56
              replace hvs := hvs.le le56
              replace hvc := hvc.le le56
              replace lE := lE.trans le56
              refine cnd_d (fun hg57 => ?_) (fun hg57 => ?_)
              · skip
                refine retK (K := K) (v' := (.tuple #[(.int .i64 (0)), (.int .i64 (0)), (.int .i64 (0)), (.bool false)])) rfl ?_
                skip
                have hok : ¬ (shpOk b s r c l st) := by exact shp_fail hg57 hm0 (by omega)
                exact keq (K := K) (by rw [show ((selI (shpOk b s r c l st) (shpF b s r c l st + 1)) : Int) = (0) from by first | exact selI_f hok | (rw [selI_t hok, hT.2.1]; done) | (rw [selI_t hok, hT.2.2]; rfl)]; rw [show ((selI (shpOk b s r c l st) ((trm 24 24 (shpT b s r c l st)).1 - (trm 24 24 (shp0 r c l)).1)) : Int) = (0) from by first | exact selI_f hok | (rw [selI_t hok, hT.2.1]; done) | (rw [selI_t hok, hT.2.2]; rfl)]; rw [show ((selI (shpOk b s r c l st) ((trm 24 24 (shpT b s r c l st)).2.2.1 - (trm 24 24 (shp0 r c l)).2.2.1)) : Int) = (0) from by first | exact selI_f hok | (rw [selI_t hok, hT.2.1]; done) | (rw [selI_t hok, hT.2.2]; rfl)]; rw [decide_eq_false (show ¬ (shpOk b s r c l st) from by exact hok)]) (hk   _    lE)
              · skip
                refine C.spec_l05Trim oq ou51.sl (by first | omega | assumption) (by first | assumption | exact hl0 | exact hln) (fun hc58  H59    le60 => ?_) (fun hc61 u64 H62 ou64 nn65  le63 => ?_)
                · skip
                  replace op1 := op1.le le60
                  replace op5 := op5.le le60
                  replace oq := oq.le le60
                  replace ou := ou.le le60
                  replace ou29 := ou29.le le60
                  replace op37 := op37.le le60
                  replace ou51 := ou51.le le60
                  replace hvb := hvb.le le60
                  replace hvs := hvs.le le60
                  replace hvc := hvc.le le60
                  replace lE := lE.trans le60
                  refine ob_i (vExt_40 _ _ _ _) ?_
                  refine ob_i (vExt_41 _ _ _ _) ?_
                  refine ob_i (vExt_42 _ _ _ _) ?_
                  refine ob_i (vExt_43 _ _ _ _) ?_
                  refine nw_i (fun p66 H67 op66 nn68 le69 => ?_)
                  have ap1Xp66 : Apart p1 p66 := op1.apart nn68
                  have ap5Xp66 : Apart p5 p66 := op5.apart nn68
                  have aqXp66 : Apart q p66 := oq.apart nn68
                  have auXp66 : Apart u p66 := ou.apart nn68
                  have au29Xp66 : Apart u29 p66 := ou29.apart nn68
                  have ap37Xp66 : Apart p37 p66 := op37.apart nn68
                  have au51Xp66 : Apart u51 p66 := ou51.apart nn68
                  have np66 : Nw H p66 := nn68.le lE
                  replace op1 := op1.le le69
                  replace op5 := op5.le le69
                  replace oq := oq.le le69
                  replace ou := ou.le le69
                  replace ou29 := ou29.le le69
                  replace op37 := op37.le le69
                  replace ou51 := ou51.le le69
                  replace hvb := hvb.le le69
                  replace hvs := hvs.le le69
                  replace hvc := hvc.le le69
                  replace lE := lE.trans le69
                  replace op66 : Cel H67 p66 [(.int .i64 (0)), (.int .i64 (0)), (.slice none 0 0)] := op66
                  refine op66.stn (ws := [(.int .i64 (0)), (.int .i64 (0)), (.slice none 0 0)]) rfl rfl (oc1 rfl (oc1 rfl (oc1 rfl oc0))) (fun H70 op66 off71 => ?_)
                  replace op1 := op1.off off71 ap1Xp66
                  replace op5 := op5.off off71 ap5Xp66
                  replace oq := oq.off off71 aqXp66
                  replace ou := ou.off off71 auXp66
                  replace ou29 := ou29.off off71 au29Xp66
                  replace op37 := op37.off off71 ap37Xp66
                  replace ou51 := ou51.off off71 au51Xp66
                  replace hvb := hvb0.le (off71.le lE np66)
                  replace hvs := hvs0.le (off71.le lE np66)
                  replace hvc := hvc0.le (off71.le lE np66)
                  replace lE := off71.le lE np66
                  replace op66 : Cel H70 p66 [(.int .i64 (0)), (.int .i64 (0)), (.slice none 0 0)] := op66
                  refine gop_sf ?_
                  refine ob_i (vPick_f _ _) ?_
                  refine cnd_f1 ?_
                  refine ob_i (vInt_add (by omega) (by omega)) ?_
                  exact nxt (st.toNat - (t + 1)) (by omega) ⟨t + 1, rfl, by omega, u51, g2L47, g3L47, g10L47, g15L47, g16L47, g17L47, (congrArg (Value.int .i64) (by first | omega | rfl | (simp; done))), op1, op5, oq, ou51, ou29, op37, nu51, ap1Xu51, ap5Xu51, aqXu51, au29Xu51.symm, ap37Xu51.symm, lE, (shp_next hg57 (fun h => by have h1 := h.1; have h2 := hc58; change (trm 24 24 (nxL false b s 24 24 (shpS b s r c l t))).2.1 < 0 at h2; change 0 ≤ (trm 24 24 (nxL false b s 24 24 (shpS b s r c l t))).2.1 at h1; omega) hm0)⟩
                · skip
                  have ap1Xu64 : Apart p1 u64 := op1.apart nn65
                  have ap5Xu64 : Apart p5 u64 := op5.apart nn65
                  have aqXu64 : Apart q u64 := oq.apart nn65
                  have auXu64 : Apart u u64 := ou.apart nn65
                  have au29Xu64 : Apart u29 u64 := ou29.apart nn65
                  have ap37Xu64 : Apart p37 u64 := op37.apart nn65
                  have au51Xu64 : Apart u51 u64 := ou51.apart nn65
                  have nu64 : Nw H u64 := nn65.le lE
                  replace op1 := op1.le le63
                  replace op5 := op5.le le63
                  replace oq := oq.le le63
                  replace ou := ou.le le63
                  replace ou29 := ou29.le le63
                  replace op37 := op37.le le63
                  replace ou51 := ou51.le le63
                  replace hvb := hvb.le le63
                  replace hvs := hvs.le le63
                  replace hvc := hvc.le le63
                  replace lE := lE.trans le63
                  refine ob_i (vExt_40 _ _ _ _) ?_
                  refine ob_i (vExt_41 _ _ _ _) ?_
                  refine ob_i (vExt_42 _ _ _ _) ?_
                  refine ob_i (vExt_43 _ _ _ _) ?_
                  refine nw_i (fun p72 H73 op72 nn74 le75 => ?_)
                  have ap1Xp72 : Apart p1 p72 := op1.apart nn74
                  have ap5Xp72 : Apart p5 p72 := op5.apart nn74
                  have aqXp72 : Apart q p72 := oq.apart nn74
                  have auXp72 : Apart u p72 := ou.apart nn74
                  have au29Xp72 : Apart u29 p72 := ou29.apart nn74
                  have ap37Xp72 : Apart p37 p72 := op37.apart nn74
                  have au51Xp72 : Apart u51 p72 := ou51.apart nn74
                  have au64Xp72 : Apart u64 p72 := ou64.apart nn74
                  have np72 : Nw H p72 := nn74.le lE
                  replace op1 := op1.le le75
                  replace op5 := op5.le le75
                  replace oq := oq.le le75
                  replace ou := ou.le le75
                  replace ou29 := ou29.le le75
                  replace op37 := op37.le le75
                  replace ou51 := ou51.le le75
                  replace ou64 := ou64.le le75
                  replace hvb := hvb.le le75
                  replace hvs := hvs.le le75
                  replace hvc := hvc.le le75
                  replace lE := lE.trans le75
                  replace op72 : Cel H73 p72 [(.int .i64 (0)), (.int .i64 (0)), (.slice none 0 0)] := op72
                  refine op72.stn (ws := [(.int .i64 (trR 24 24 (nxL false b s 24 24 (shpS b s r c l t)))), (.int .i64 (trC 24 24 (nxL false b s 24 24 (shpS b s r c l t)))), u64]) rfl rfl (oc1 rfl (oc1 rfl (oc1 ou64.one oc0))) (fun H76 op72 off77 => ?_)
                  replace op1 := op1.off off77 ap1Xp72
                  replace op5 := op5.off off77 ap5Xp72
                  replace oq := oq.off off77 aqXp72
                  replace ou := ou.off off77 auXp72
                  replace ou29 := ou29.off off77 au29Xp72
                  replace op37 := op37.off off77 ap37Xp72
                  replace ou51 := ou51.off off77 au51Xp72
                  replace ou64 := ou64.off off77 au64Xp72
                  replace hvb := hvb0.le (off77.le lE np72)
                  replace hvs := hvs0.le (off77.le lE np72)
                  replace hvc := hvc0.le (off77.le lE np72)
                  replace lE := off77.le lE np72
                  replace op72 : Cel H76 p72 [(.int .i64 (trR 24 24 (nxL false b s 24 24 (shpS b s r c l t)))), (.int .i64 (trC 24 24 (nxL false b s 24 24 (shpS b s r c l t)))), u64] := op72
                  refine gop_rt ?_
                  refine C.spec_l04Same op72 op37 ou64.sl ou29.sl (by first | omega | assumption) (fun   H78    le79 => ?_)
                  replace op1 := op1.le le79
                  replace op5 := op5.le le79
                  replace oq := oq.le le79
                  replace ou := ou.le le79
                  replace ou29 := ou29.le le79
                  replace op37 := op37.le le79
                  replace ou51 := ou51.le le79
                  replace ou64 := ou64.le le79
                  replace op72 := op72.le le79
                  replace hvb := hvb.le le79
                  replace hvs := hvs.le le79
                  replace hvc := hvc.le le79
                  replace lE := lE.trans le79
                  refine ob_i (vPick_t _ _) ?_
                  refine cnd_d (fun hg80 => ?_) (fun hg80 => ?_)
                  · skip
                    refine ob_i (vInt_sub (by omega) (by omega)) ?_
                    refine ob_i (vInt_sub (by omega) (by omega)) ?_
                    refine retK (K := K) (v' := (.tuple #[(.int .i64 ((t : Int) + 1)), (.int .i64 (((trm 24 24 (nxL false b s 24 24 (shpS b s r c l t))).1) - ((trm 24 24 (shp0 r c l)).1))), (.int .i64 (((trm 24 24 (nxL false b s 24 24 (shpS b s r c l t))).2.2.1) - ((trm 24 24 (shp0 r c l)).2.2.1))), (.bool true)])) rfl ?_
                    skip
                    have hT := shp_hit (b := b) (s := s) (r := r) (c := c) (l := l) (t := t) hc11 hc12 hc26 hg45 hg57 ⟨hc61, hg80.1, hg80.2.1, hg80.2.2⟩ hm0 (by omega)
                    have hok : shpOk b s r c l st := by exact hT.1
                    exact keq (K := K) (by rw [show ((selI (shpOk b s r c l st) (shpF b s r c l st + 1)) : Int) = ((t : Int) + 1) from by first | exact selI_f hok | (rw [selI_t hok, hT.2.1]; done) | (rw [selI_t hok, hT.2.2]; rfl)]; rw [show ((selI (shpOk b s r c l st) ((trm 24 24 (shpT b s r c l st)).1 - (trm 24 24 (shp0 r c l)).1)) : Int) = (((trm 24 24 (nxL false b s 24 24 (shpS b s r c l t))).1) - ((trm 24 24 (shp0 r c l)).1)) from by first | exact selI_f hok | (rw [selI_t hok, hT.2.1]; done) | (rw [selI_t hok, hT.2.2]; rfl)]; rw [show ((selI (shpOk b s r c l st) ((trm 24 24 (shpT b s r c l st)).2.2.1 - (trm 24 24 (shp0 r c l)).2.2.1)) : Int) = (((trm 24 24 (nxL false b s 24 24 (shpS b s r c l t))).2.2.1) - ((trm 24 24 (shp0 r c l)).2.2.1)) from by first | exact selI_f hok | (rw [selI_t hok, hT.2.1]; done) | (rw [selI_t hok, hT.2.2]; rfl)]; rw [decide_eq_true (show (shpOk b s r c l st) from by exact hok)]) (hk   _    lE)
                  · skip
                    refine ob_i (vInt_add (by omega) (by omega)) ?_
                    exact nxt (st.toNat - (t + 1)) (by omega) ⟨t + 1, rfl, by omega, u51, g2L47, g3L47, g10L47, g15L47, g16L47, g17L47, (congrArg (Value.int .i64) (by first | omega | rfl | (simp; done))), op1, op5, oq, ou51, ou29, op37, nu51, ap1Xu51, ap5Xu51, aqXu51, au29Xu51.symm, ap37Xu51.symm, lE, (shp_next hg57 (fun h => hg80 ⟨h.2.1, h.2.2.1, h.2.2.2⟩) hm0)⟩
            · skip
              have tt := hg48
              exact hJ46 _ _ ⟨u, t, op1, op5, oq, ou, ou29, op37, nu, ap1Xu, ap5Xu, aqXu, auXu29, auXp37, lE, (fun x hx => hm0 x (by omega))⟩
      refine ⟨fun n' σ' H' => ∃ i : Nat, n' = r.toNat - i ∧ i ≤ r.toNat ∧ ∃ u, σ' 2 = (.int .i64 (st)) ∧ σ' 3 = p1 ∧ σ' 4 = p5 ∧ σ' 10 = q ∧ σ' 11 = (.int .i64 ((24 - r) / 2)) ∧ σ' 12 = (.int .i64 ((24 - c) / 2)) ∧ σ' 13 = (.int .i64 ((i : Int))) ∧ Cel H' p1 [vb, vs] ∧ Cel H' p5 [(.int .i64 (r)), (.int .i64 (c)), vc] ∧ Cel H' q [(.int .i64 (24)), (.int .i64 (24)), u] ∧ Own eI H' u (mkL 24 (shpA c l ((24 - r) / 2) ((24 - c) / 2) ((i : Int)) (0)) ((24 : Int).toNat * (24 : Int).toNat)) ∧ Nw H u ∧ Apart p1 u ∧ Apart p5 u ∧ Apart q u ∧ Le H H',
        ⟨_, 0, rfl, by omega, u15, rfl, rfl, rfl, rfl, rfl, rfl, (congrArg (Value.int .i64) (by first | omega | rfl | (simp; done))), op1, op5, oq, (Own.cast (by exact shpA_zero (by omega)) ou15), nu15, ap1Xu15, ap5Xu15, au15Xq.symm, lE⟩, ?_⟩
      rintro n81 σ81 H81 ⟨i, rfl, hiN, u, g2L81, g3L81, g4L81, g10L81, g11L81, g12L81, g13L81, op1, op5, oq, ou, nu, ap1Xu, ap5Xu, aqXu, lE⟩
      have hvb := hvb0.le lE
      have hvs := hvs0.le lE
      have hvc := hvc0.le lE
      try simp only [g4L81, g10L81, g11L81, g12L81, g13L81]
      refine ob_i (op5.fa 0) ?_
      refine ob_i (op5.ld 0 rfl) ?_
      refine ob_i (vInt_lss _ _ _) ?_
      refine cnd_d (fun hg82 => ?_) (fun hg82 => ?_)
      · skip
        have ti := hg82
        refine jn_i (fun σ' H' => σ' 2 = (.int .i64 (st)) ∧ σ' 3 = p1 ∧ σ' 4 = p5 ∧ σ' 10 = q ∧ σ' 11 = (.int .i64 ((24 - r) / 2)) ∧ σ' 12 = (.int .i64 ((24 - c) / 2)) ∧ σ' 13 = (.int .i64 ((i : Int))) ∧ Cel H' p1 [vb, vs] ∧ Cel H' p5 [(.int .i64 (r)), (.int .i64 (c)), vc] ∧ Cel H' q [(.int .i64 (24)), (.int .i64 (24)), u] ∧ Own eI H' u (mkL 24 (shpA c l ((24 - r) / 2) ((24 - c) / 2) ((i : Int) + 1) (0)) ((24 : Int).toNat * (24 : Int).toNat)) ∧ Le H H') (fun σ83 H83 hP => ?_) (fun J83 hJ83 => ?_)
        · skip
          obtain ⟨g2L83, g3L83, g4L83, g10L83, g11L83, g12L83, g13L83, op1, op5, oq, ou, lE⟩ := hP
          have hvb := hvb0.le lE
          have hvs := hvs0.le lE
          have hvc := hvc0.le lE
          try simp only [g13L83]
          refine ob_i (vInt_add (by omega) (by omega)) ?_
          exact nxt (r.toNat - (i + 1)) (by omega) ⟨i + 1, rfl, by omega, u, g2L83, g3L83, g4L83, g10L83, g11L83, g12L83, (congrArg (Value.int .i64) (by first | omega | rfl | (simp; done))), op1, op5, oq, ou, nu, ap1Xu, ap5Xu, aqXu, lE⟩
        refine ⟨fun n' σ' H' => ∃ k : Nat, n' = c.toNat - k ∧ k ≤ c.toNat ∧ σ' 2 = (.int .i64 (st)) ∧ σ' 3 = p1 ∧ σ' 4 = p5 ∧ σ' 10 = q ∧ σ' 11 = (.int .i64 ((24 - r) / 2)) ∧ σ' 12 = (.int .i64 ((24 - c) / 2)) ∧ σ' 13 = (.int .i64 ((i : Int))) ∧ σ' 14 = (.int .i64 ((k : Int))) ∧ Cel H' p1 [vb, vs] ∧ Cel H' p5 [(.int .i64 (r)), (.int .i64 (c)), vc] ∧ Cel H' q [(.int .i64 (24)), (.int .i64 (24)), u] ∧ Own eI H' u (mkL 24 (shpA c l ((24 - r) / 2) ((24 - c) / 2) ((i : Int)) ((k : Int))) ((24 : Int).toNat * (24 : Int).toNat)) ∧ Le H H',
          ⟨_, 0, rfl, by omega, g2L81, g3L81, g4L81, g10L81, g11L81, g12L81, g13L81, (congrArg (Value.int .i64) (by first | omega | rfl | (simp; done))), op1, op5, oq, ou, lE⟩, ?_⟩
        rintro n84 σ84 H84 ⟨k, rfl, hkN, g2L84, g3L84, g4L84, g10L84, g11L84, g12L84, g13L84, g14L84, op1, op5, oq, ou, lE⟩
        have hvb := hvb0.le lE
        have hvs := hvs0.le lE
        have hvc := hvc0.le lE
        try simp only [g4L84, g10L84, g11L84, g12L84, g13L84, g14L84]
        refine ob_i (op5.fa 1) ?_
        refine ob_i (op5.ld 1 rfl) ?_
        refine ob_i (vInt_lss _ _ _) ?_
        refine cnd_d (fun hg85 => ?_) (fun hg85 => ?_)
        · skip
          have tk := hg85
          have x1 := ix_lt (a := (i : Int)) (b := (k : Int)) (r := r) (c := c) (by omega) (by omega) (by omega) (by omega)
          have x3 := mkL_length 24 (shpA c l ((24 - r) / 2) ((24 - c) / 2) (i : Int) (k : Int)) ((24 : Int).toNat * (24 : Int).toNat)
          have x4 : ((24 : Int).toNat * (24 : Int).toNat) = 576 := rfl
          refine ob_i (oq.fa 2) ?_
          refine ob_i (oq.ld 2 rfl) ?_
          refine ob_i (vInt_add (by omega) (by omega)) ?_
          refine ob_i (vInt_mul (by omega) (by omega)) ?_
          refine ob_i (vInt_add (by omega) (by omega)) ?_
          refine ob_i (vInt_add (by omega) (by omega)) ?_
          refine ob_i (op5.fa 2) ?_
          refine ob_i (op5.ld 2 rfl) ?_
          refine ob_i (op5.fa 1) ?_
          refine ob_i (op5.ld 1 rfl) ?_
          refine ob_i (vInt_mul (by omega) (by omega)) ?_
          refine ob_i (vInt_add (by omega) (by omega)) ?_
          refine ob_i (hvc.ix (by omega) (by omega)) ?_
          refine ob_i (hvc.ld 0 (by omega) (by omega)) ?_
          refine ob_i (ou.sl.ix (by omega) (by omega)) ?_
          refine ou.st (x := at_ 0 (l) (((i : Int) * c) + (k : Int))) (by omega) (by omega) rfl rfl (fun H86 ou off87 => ?_)
          replace op1 := op1.off off87 ap1Xu
          replace op5 := op5.off off87 ap5Xu
          replace oq := oq.off off87 aqXu
          replace hvb := hvb0.le (off87.le lE nu)
          replace hvs := hvs0.le (off87.le lE nu)
          replace hvc := hvc0.le (off87.le lE nu)
          replace lE := off87.le lE nu
          refine ob_i (vInt_add (by omega) (by omega)) ?_
          exact nxt (c.toNat - (k + 1)) (by omega) ⟨k + 1, rfl, by omega, g2L84, g3L84, g4L84, g10L84, g11L84, g12L84, g13L84, (congrArg (Value.int .i64) (by first | omega | rfl | (simp; done))), op1, op5, oq, (Own.cast (shpA_set (by omega) (by omega) (by omega) (by omega) (by omega) (by omega)) ou), lE⟩
        · skip
          have tk := hg85
          rw [shpA_row (by omega) (show (k : Int) = c by omega)] at ou
          exact hJ83 _ _ ⟨g2L84, g3L84, g4L84, g10L84, g11L84, g12L84, g13L84, op1, op5, oq, ou, lE⟩
      · skip
        have ti := hg82
        rw [show (i : Int) = r by omega, shpA_end] at ou
        exact hJ22 _ _ ⟨u, g2L81, g3L81, g10L81, op1, op5, oq, ou, nu, ap1Xu, ap5Xu, aqXu, lE⟩
    · skip
      refine ob_i (vPick_f _ _) ?_
      refine cnd_t1 ?_
      skip
      have hok : ¬ (shpOk b s r c l st) := by exact fun h => hc12 h.2.1
      exact keq (K := K) (by rw [show ((selI (shpOk b s r c l st) (shpF b s r c l st + 1)) : Int) = (0) from by first | exact selI_f hok | (rw [selI_t hok, hT.2.1]; done) | (rw [selI_t hok, hT.2.2]; rfl)]; rw [show ((selI (shpOk b s r c l st) ((trm 24 24 (shpT b s r c l st)).1 - (trm 24 24 (shp0 r c l)).1)) : Int) = (0) from by first | exact selI_f hok | (rw [selI_t hok, hT.2.1]; done) | (rw [selI_t hok, hT.2.2]; rfl)]; rw [show ((selI (shpOk b s r c l st) ((trm 24 24 (shpT b s r c l st)).2.2.1 - (trm 24 24 (shp0 r c l)).2.2.1)) : Int) = (0) from by first | exact selI_f hok | (rw [selI_t hok, hT.2.1]; done) | (rw [selI_t hok, hT.2.2]; rfl)]; rw [decide_eq_false (show ¬ (shpOk b s r c l st) from by exact hok)]) (hk   _    lE)
  · skip
    refine gop_st ?_
    refine gop_st ?_
    refine gop_st ?_
    refine ob_i (vPick_t _ _) ?_
    refine cnd_t1 ?_
    skip
    have hok : ¬ (shpOk b s r c l st) := by exact fun h => hc11 h.1
    exact keq (K := K) (by rw [show ((selI (shpOk b s r c l st) (shpF b s r c l st + 1)) : Int) = (0) from by first | exact selI_f hok | (rw [selI_t hok, hT.2.1]; done) | (rw [selI_t hok, hT.2.2]; rfl)]; rw [show ((selI (shpOk b s r c l st) ((trm 24 24 (shpT b s r c l st)).1 - (trm 24 24 (shp0 r c l)).1)) : Int) = (0) from by first | exact selI_f hok | (rw [selI_t hok, hT.2.1]; done) | (rw [selI_t hok, hT.2.2]; rfl)]; rw [show ((selI (shpOk b s r c l st) ((trm 24 24 (shpT b s r c l st)).2.2.1 - (trm 24 24 (shp0 r c l)).2.2.1)) : Int) = (0) from by first | exact selI_f hok | (rw [selI_t hok, hT.2.1]; done) | (rw [selI_t hok, hT.2.2]; rfl)]; rw [decide_eq_false (show ¬ (shpOk b s r c l st) from by exact hok)]) (hk   _    lE)
theorem C.impl_ShipOf_1 {p g h vc : Value} {i k r c a bb : Int} {l : List Int}  {H : Hp} {K : Value → Hp → Prop} (hp0 : Cel H p [(.int .i64 (r)), (.int .i64 (c)), vc]) (hg0 : Cel H g [(.int .i64 (a))]) (hh0 : Cel H h [(.int .i64 (bb))]) (hvc0 : Sl eI H vc l) (hf : fieldN 1 r c l) (a0 : -24 ≤ a) (a1 : a ≤ 24) (b0 : -24 ≤ bb) (b1 : bb ≤ 24) (i0 : 0 ≤ i) (i1 : i < 24) (j0 : 0 ≤ k) (j1 : k < 24)
    (hk : ∀ H', Le H H' → K (.int .i64 (flatF r c l (i - a) (k - bb))) H') : HT prg I.impl_ShipOf_1 [(.int .i64 (i)), (.int .i64 (k)), p, g, h].toArray H K := by
  have lE := Le.refl H
  have hp := hp0
  have hg := hg0
  have hh := hh0
  have hvc := hvc0
  refine R.impl_ShipOf_1 ?_
  unfold F.impl_ShipOf_1
  have hs := hf.1
  have hl := hf.2.1
  have q1 := hs.1
  have q2 := hs.2
  have qm := sidesF_mul hs
  refine ob_i (hp.ldn rfl) ?_
  refine ob_i (hg.ld0 rfl) ?_
  refine ob_i (vInt_sub (by omega) (by omega)) ?_
  refine ob_i (hh.ld0 rfl) ?_
  refine ob_i (vInt_sub (by omega) (by omega)) ?_
  refine C.look_any hvc (by first | omega | assumption) (by first | omega | assumption) (by first | omega | assumption) (by first | omega | assumption) (by first | omega | assumption) (by first | omega | assumption) (fun   H1    le2 => ?_)
  replace hp := hp.le le2
  replace hg := hg.le le2
  replace hh := hh.le le2
  replace hvc := hvc.le le2
  replace lE := lE.trans le2
  skip
  exact keq (K := K) (by rw [show ((lkF false r c l (i - a) (k - bb)) : Int) = (flatF r c l (i - a) (k - bb)) from by rfl]) (hk   _    lE)
theorem C.impl_ShipOf {vb vs vc : Value} {r c st : Int} {b : List Int} {s : List Int} {l : List Int}  {H : Hp} {K : Value → Hp → Prop} (hvb0 : Sl eI H vb b) (hvs0 : Sl eI H vs s) (hvc0 : Sl eI H vc l) (kb : b.length ≤ 9223372036854775807) (ks : s.length ≤ 9223372036854775807) (k1 : l.length ≤ 9223372036854775807)
    (hk : ∀ H', Le H H' → K (.tuple #[(.int .i64 (selI (shpOk b s r c l st) (shpF b s r c l st + 1))), (.int .i64 (selI (shpOk b s r c l st) ((trm 24 24 (shpT b s r c l st)).1 - (trm 24 24 (shp0 r c l)).1))), (.int .i64 (selI (shpOk b s r c l st) ((trm 24 24 (shpT b s r c l st)).2.2.1 - (trm 24 24 (shp0 r c l)).2.2.1))), (.bool (decide (shpOk b s r c l st)))]) H') : HT prg I.impl_ShipOf [(.agg #[vb, vs]), (.agg #[(.int .i64 (r)), (.int .i64 (c)), vc]), (.int .i64 (st))].toArray H K := by
  have lE := Le.refl H
  have hvb := hvb0
  have hvs := hvs0
  have hvc := hvc0
  refine R.impl_ShipOf ?_
  unfold F.impl_ShipOf
  refine nw_i (fun p1 H2 op1 nn3 le4 => ?_)
  have np1 : Nw H p1 := nn3.le lE
  replace hvb := hvb.le le4
  replace hvs := hvs.le le4
  replace hvc := hvc.le le4
  replace lE := lE.trans le4
  replace op1 : Cel H2 p1 [vb, vs] := op1
  refine nw_i (fun p5 H6 op5 nn7 le8 => ?_)
  have ap1Xp5 : Apart p1 p5 := op1.apart nn7
  have np5 : Nw H p5 := nn7.le lE
  replace op1 := op1.le le8
  replace hvb := hvb.le le8
  replace hvs := hvs.le le8
  replace hvc := hvc.le le8
  replace lE := lE.trans le8
  replace op5 : Cel H6 p5 [(.int .i64 (r)), (.int .i64 (c)), vc] := op5
  refine ob_i (op1.ldn rfl) ?_
  refine ob_i (op5.ldn rfl) ?_
  refine bSE_one (enc := encFv) (x := (⟨r, c, vc⟩ : Fv)) rfl rfl (by omega) (by omega) rfl (fun u9 H10 ou9 nn11 le13 => ?_) rfl
  have ap1Xu9 : Apart p1 u9 := op1.apart nn11
  have ap5Xu9 : Apart p5 u9 := op5.apart nn11
  have nu9 : Nw H u9 := nn11.le lE
  replace op1 := op1.le le13
  replace op5 := op5.le le13
  replace hvb := hvb.le le13
  replace hvs := hvs.le le13
  replace hvc := hvc.le le13
  replace lE := lE.trans le13
  refine C.impl_lives hvb hvs hvc (ou9.sl encFv_n) (by first | omega | assumption) (by first | omega | assumption) (by first | omega | assumption) (fun   H14    le15 => ?_)
  replace op1 := op1.le le15
  replace op5 := op5.le le15
  replace ou9 := ou9.le le15
  replace hvb := hvb.le le15
  replace hvs := hvs.le le15
  replace hvc := hvc.le le15
  replace lE := lE.trans le15
  refine ob_nd (fun hc16 => ?_) (fun hc16 => ?_)
  · skip
    have hf := hc16.2
    have l1 := fieldN_len hf
    have hs := hf.1
    have hl := hf.2.1
    have q1 := hs.1
    have q2 := hs.2
    have qm := sidesF_mul hs
    have hs24 := s24
    have hf0 := shp0_field hf
    have hl0 := hf0.2.1
    have tb0 := trm24 (shp0 r c l)
    have tl0 := trl24 (shp0 r c l)
    refine gop_rf ?_
    refine gop_rf ?_
    refine C.impl_within  ?_
    refine gop_rf ?_
    refine ob_nd (fun hc17 => ?_) (fun hc17 => ?_)
    · skip
      refine ob_i (vPick_f _ _) ?_
      refine cnd_f1 ?_
      refine ⟨?_, ?_⟩
      · skip
        refine ob_i (op5.fa 0) ?_
        refine ob_i (op5.ld 0 rfl) ?_
        refine ob_i (vInt_sub (by omega) (by omega)) ?_
        refine ob_i (vInt_quoN (by omega) (by omega) (by omega)) ?_
        refine ob_i (op5.fa 1) ?_
        refine ob_i (op5.ld 1 rfl) ?_
        refine ob_i (vInt_sub (by omega) (by omega)) ?_
        refine ob_i (vInt_quoN (by omega) (by omega) (by omega)) ?_
        refine nw_i (fun p18 H19 op18 nn20 le21 => ?_)
        have ap1Xp18 : Apart p1 p18 := op1.apart nn20
        have ap5Xp18 : Apart p5 p18 := op5.apart nn20
        have au9Xp18 : Apart u9 p18 := ou9.apart nn20
        have np18 : Nw H p18 := nn20.le lE
        replace op1 := op1.le le21
        replace op5 := op5.le le21
        replace ou9 := ou9.le le21
        replace hvb := hvb.le le21
        replace hvs := hvs.le le21
        replace hvc := hvc.le le21
        replace lE := lE.trans le21
        replace op18 : Cel H19 p18 [(.int .i64 (0))] := op18
        refine nw_i (fun p22 H23 op22 nn24 le25 => ?_)
        have ap1Xp22 : Apart p1 p22 := op1.apart nn24
        have ap5Xp22 : Apart p5 p22 := op5.apart nn24
        have au9Xp22 : Apart u9 p22 := ou9.apart nn24
        have ap18Xp22 : Apart p18 p22 := op18.apart nn24
        have np22 : Nw H p22 := nn24.le lE
        replace op1 := op1.le le25
        replace op5 := op5.le le25
        replace ou9 := ou9.le le25
        replace op18 := op18.le le25
        replace hvb := hvb.le le25
        replace hvs := hvs.le le25
        replace hvc := hvc.le le25
        replace lE := lE.trans le25
        replace op22 : Cel H23 p22 [(.int .i64 (0))] := op22
        refine op18.st0 (by simp) rfl rfl (fun H26 op18 off27 => ?_)
        replace op1 := op1.off off27 ap1Xp18
        replace op5 := op5.off off27 ap5Xp18
        replace ou9 := ou9.off off27 au9Xp18
        replace op22 := op22.off off27 ap18Xp22.symm
        replace hvb := hvb0.le (off27.le lE np18)
        replace hvs := hvs0.le (off27.le lE np18)
        replace hvc := hvc0.le (off27.le lE np18)
        replace lE := off27.le lE np18
        replace op18 : Cel H26 p18 [(.int .i64 ((24 - r) / 2))] := op18
        refine op22.st0 (by simp) rfl rfl (fun H28 op22 off29 => ?_)
        replace op1 := op1.off off29 ap1Xp22
        replace op5 := op5.off off29 ap5Xp22
        replace ou9 := ou9.off off29 au9Xp22
        replace op18 := op18.off off29 ap18Xp22
        replace hvb := hvb0.le (off29.le lE np22)
        replace hvs := hvs0.le (off29.le lE np22)
        replace hvc := hvc0.le (off29.le lE np22)
        replace lE := off29.le lE np22
        replace op22 : Cel H28 p22 [(.int .i64 ((24 - c) / 2))] := op22
        refine C.impl_madeField (g := (fun x y => flatF r c l (x - ((24 - r) / 2)) (y - ((24 - c) / 2)))) (by omega) (by omega) (by omega) (by omega) (fun H34c i34 k34 Z leZ hi34 hk34 hZ => ?_) (fun u30 H31 ou30 nn32 le33 => ?_)
        · refine ⟨by kernel_rfl, ?_⟩
          replace op1 := op1.le leZ
          replace op5 := op5.le leZ
          replace ou9 := ou9.le leZ
          replace op18 := op18.le leZ
          replace op22 := op22.le leZ
          replace hvb := hvb.le leZ
          replace hvs := hvs.le leZ
          replace hvc := hvc.le leZ
          replace lE := lE.trans leZ
          have lZ := Le.refl H34c
          refine C.impl_ShipOf_1 op5 op18 op22 hvc (by first | omega | assumption) (by first | omega | assumption) (by first | omega | assumption) (by first | omega | assumption) (by first | omega | assumption) (by first | omega | assumption) (by first | omega | assumption) (by first | omega | assumption) (by first | omega | assumption) (fun   H35    le36 => ?_)
          replace op1 := op1.le le36
          replace op5 := op5.le le36
          replace ou9 := ou9.le le36
          replace op18 := op18.le le36
          replace op22 := op22.le le36
          replace hvb := hvb.le le36
          replace hvs := hvs.le le36
          replace hvc := hvc.le le36
          replace lE := lE.trans le36
          replace lZ := lZ.trans le36
          exact keq (K := Z) (by rw [show ((flatF r c l ((i34 : Int) - ((24 - r) / 2)) ((k34 : Int) - ((24 - c) / 2))) : Int) = ((fun x y => flatF r c l (x - ((24 - r) / 2)) (y - ((24 - c) / 2)))) (i34 : Int) (k34 : Int) from rfl]) (hZ _ lZ)
        have ap1Xu30 : Apart p1 u30 := op1.apart nn32
        have ap5Xu30 : Apart p5 u30 := op5.apart nn32
        have au9Xu30 : Apart u9 u30 := ou9.apart nn32
        have ap18Xu30 : Apart p18 u30 := op18.apart nn32
        have ap22Xu30 : Apart p22 u30 := op22.apart nn32
        have nu30 : Nw H u30 := nn32.le lE
        replace op1 := op1.le le33
        replace op5 := op5.le le33
        replace ou9 := ou9.le le33
        replace op18 := op18.le le33
        replace op22 := op22.le le33
        replace hvb := hvb.le le33
        replace hvs := hvs.le le33
        replace hvc := hvc.le le33
        replace lE := lE.trans le33
        replace ou30 : Own eI H31 u30 (shp0 r c l) := ou30
        refine nw_i (fun q H37 oq nn38 le39 => ?_)
        have ap1Xq : Apart p1 q := op1.apart nn38
        have ap5Xq : Apart p5 q := op5.apart nn38
        have au9Xq : Apart u9 q := ou9.apart nn38
        have ap18Xq : Apart p18 q := op18.apart nn38
        have ap22Xq : Apart p22 q := op22.apart nn38
        have au30Xq : Apart u30 q := ou30.apart nn38
        have nq : Nw H q := nn38.le lE
        replace op1 := op1.le le39
        replace op5 := op5.le le39
        replace ou9 := ou9.le le39
        replace op18 := op18.le le39
        replace op22 := op22.le le39
        replace ou30 := ou30.le le39
        replace hvb := hvb.le le39
        replace hvs := hvs.le le39
        replace hvc := hvc.le le39
        replace lE := lE.trans le39
        replace oq : Cel H37 q [(.int .i64 (0)), (.int .i64 (0)), (.slice none 0 0)] := oq
        refine oq.stn (ws := [(.int .i64 (24)), (.int .i64 (24)), u30]) rfl rfl (oc1 rfl (oc1 rfl (oc1 ou30.one oc0))) (fun H40 oq off41 => ?_)
        replace op1 := op1.off off41 ap1Xq
        replace op5 := op5.off off41 ap5Xq
        replace ou9 := ou9.off off41 au9Xq
        replace op18 := op18.off off41 ap18Xq
        replace op22 := op22.off off41 ap22Xq
        replace ou30 := ou30.off off41 au30Xq
        replace hvb := hvb0.le (off41.le lE nq)
        replace hvs := hvs0.le (off41.le lE nq)
        replace hvc := hvc0.le (off41.le lE nq)
        replace lE := off41.le lE nq
        replace oq : Cel H40 q [(.int .i64 (24)), (.int .i64 (24)), u30] := oq
        refine ob_i (oq.ldn rfl) ?_
        refine C.impl_Field_trimmed ou30.sl (by first | omega | assumption) (by first | assumption | exact hl0 | exact hln) (fun hc42  H43    le44 => ?_) (fun hc45 u48 H46 ou48 nn49  le47 => ?_)
        · skip
          replace op1 := op1.le le44
          replace op5 := op5.le le44
          replace ou9 := ou9.le le44
          replace op18 := op18.le le44
          replace op22 := op22.le le44
          replace ou30 := ou30.le le44
          replace oq := oq.le le44
          replace hvb := hvb.le le44
          replace hvs := hvs.le le44
          replace hvc := hvc.le le44
          replace lE := lE.trans le44
          refine ob_i (vExt_40 _ _ _ _) ?_
          refine ob_i (vExt_41 _ _ _ _) ?_
          refine ob_i (vExt_42 _ _ _ _) ?_
          refine ob_i (vExt_43 _ _ _ _) ?_
          refine nw_i (fun p50 H51 op50 nn52 le53 => ?_)
          have ap1Xp50 : Apart p1 p50 := op1.apart nn52
          have ap5Xp50 : Apart p5 p50 := op5.apart nn52
          have au9Xp50 : Apart u9 p50 := ou9.apart nn52
          have ap18Xp50 : Apart p18 p50 := op18.apart nn52
          have ap22Xp50 : Apart p22 p50 := op22.apart nn52
          have au30Xp50 : Apart u30 p50 := ou30.apart nn52
          have aqXp50 : Apart q p50 := oq.apart nn52
          have np50 : Nw H p50 := nn52.le lE
          replace op1 := op1.le le53
          replace op5 := op5.le le53
          replace ou9 := ou9.le le53
          replace op18 := op18.le le53
          replace op22 := op22.le le53
          replace ou30 := ou30.le le53
          replace oq := oq.le le53
          replace hvb := hvb.le le53
          replace hvs := hvs.le le53
          replace hvc := hvc.le le53
          replace lE := lE.trans le53
          replace op50 : Cel H51 p50 [(.int .i64 (0)), (.int .i64 (0)), (.slice none 0 0)] := op50
          refine op50.stn (ws := [(.int .i64 (0)), (.int .i64 (0)), (.slice none 0 0)]) rfl rfl (oc1 rfl (oc1 rfl (oc1 rfl oc0))) (fun H54 op50 off55 => ?_)
          replace op1 := op1.off off55 ap1Xp50
          replace op5 := op5.off off55 ap5Xp50
          replace ou9 := ou9.off off55 au9Xp50
          replace op18 := op18.off off55 ap18Xp50
          replace op22 := op22.off off55 ap22Xp50
          replace ou30 := ou30.off off55 au30Xp50
          replace oq := oq.off off55 aqXp50
          replace hvb := hvb0.le (off55.le lE np50)
          replace hvs := hvs0.le (off55.le lE np50)
          replace hvc := hvc0.le (off55.le lE np50)
          replace lE := off55.le lE np50
          replace op50 : Cel H54 p50 [(.int .i64 (0)), (.int .i64 (0)), (.slice none 0 0)] := op50
          refine ob_i (a := .bool true) rfl ?_
          refine gop_st ?_
          refine gop_st ?_
          refine ob_i (vPick_t _ _) ?_
          refine cnd_t1 ?_
          skip
          have hok : ¬ (shpOk b s r c l st) := by intro h; have := h.2.2.1; omega
          exact keq (K := K) (by rw [show ((selI (shpOk b s r c l st) (shpF b s r c l st + 1)) : Int) = (0) from by first | exact selI_f hok | (rw [selI_t hok, hT.2.1]; done) | (rw [selI_t hok, hT.2.2]; rfl)]; rw [show ((selI (shpOk b s r c l st) ((trm 24 24 (shpT b s r c l st)).1 - (trm 24 24 (shp0 r c l)).1)) : Int) = (0) from by first | exact selI_f hok | (rw [selI_t hok, hT.2.1]; done) | (rw [selI_t hok, hT.2.2]; rfl)]; rw [show ((selI (shpOk b s r c l st) ((trm 24 24 (shpT b s r c l st)).2.2.1 - (trm 24 24 (shp0 r c l)).2.2.1)) : Int) = (0) from by first | exact selI_f hok | (rw [selI_t hok, hT.2.1]; done) | (rw [selI_t hok, hT.2.2]; rfl)]; rw [decide_eq_false (show ¬ (shpOk b s r c l st) from by exact hok)]) (hk   _    lE)
        · skip
          have ap1Xu48 : Apart p1 u48 := op1.apart nn49
          have ap5Xu48 : Apart p5 u48 := op5.apart nn49
          have au9Xu48 : Apart u9 u48 := ou9.apart nn49
          have ap18Xu48 : Apart p18 u48 := op18.apart nn49
          have ap22Xu48 : Apart p22 u48 := op22.apart nn49
          have au30Xu48 : Apart u30 u48 := ou30.apart nn49
          have aqXu48 : Apart q u48 := oq.apart nn49
          have nu48 : Nw H u48 := nn49.le lE
          replace op1 := op1.le le47
          replace op5 := op5.le le47
          replace ou9 := ou9.le le47
          replace op18 := op18.le le47
          replace op22 := op22.le le47
          replace ou30 := ou30.le le47
          replace oq := oq.le le47
          replace hvb := hvb.le le47
          replace hvs := hvs.le le47
          replace hvc := hvc.le le47
          replace lE := lE.trans le47
          refine ob_i (vExt_40 _ _ _ _) ?_
          refine ob_i (vExt_41 _ _ _ _) ?_
          refine ob_i (vExt_42 _ _ _ _) ?_
          refine ob_i (vExt_43 _ _ _ _) ?_
          refine nw_i (fun p56 H57 op56 nn58 le59 => ?_)
          have ap1Xp56 : Apart p1 p56 := op1.apart nn58
          have ap5Xp56 : Apart p5 p56 := op5.apart nn58
          have au9Xp56 : Apart u9 p56 := ou9.apart nn58
          have ap18Xp56 : Apart p18 p56 := op18.apart nn58
          have ap22Xp56 : Apart p22 p56 := op22.apart nn58
          have au30Xp56 : Apart u30 p56 := ou30.apart nn58
          have aqXp56 : Apart q p56 := oq.apart nn58
          have au48Xp56 : Apart u48 p56 := ou48.apart nn58
          have np56 : Nw H p56 := nn58.le lE
          replace op1 := op1.le le59
          replace op5 := op5.le le59
          replace ou9 := ou9.le le59
          replace op18 := op18.le le59
          replace op22 := op22.le le59
          replace ou30 := ou30.le le59
          replace oq := oq.le le59
          replace ou48 := ou48.le le59
          replace hvb := hvb.le le59
          replace hvs := hvs.le le59
          replace hvc := hvc.le le59
          replace lE := lE.trans le59
          replace op56 : Cel H57 p56 [(.int .i64 (0)), (.int .i64 (0)), (.slice none 0 0)] := op56
          refine op56.stn (ws := [(.int .i64 (trR 24 24 (shp0 r c l))), (.int .i64 (trC 24 24 (shp0 r c l))), u48]) rfl rfl (oc1 rfl (oc1 rfl (oc1 ou48.one oc0))) (fun H60 op56 off61 => ?_)
          replace op1 := op1.off off61 ap1Xp56
          replace op5 := op5.off off61 ap5Xp56
          replace ou9 := ou9.off off61 au9Xp56
          replace op18 := op18.off off61 ap18Xp56
          replace op22 := op22.off off61 ap22Xp56
          replace ou30 := ou30.off off61 au30Xp56
          replace oq := oq.off off61 aqXp56
          replace ou48 := ou48.off off61 au48Xp56
          replace hvb := hvb0.le (off61.le lE np56)
          replace hvs := hvs0.le (off61.le lE np56)
          replace hvc := hvc0.le (off61.le lE np56)
          replace lE := off61.le lE np56
          replace op56 : Cel H60 p56 [(.int .i64 (trR 24 24 (shp0 r c l))), (.int .i64 (trC 24 24 (shp0 r c l))), u48] := op56
          refine ob_i (a := .bool false) rfl ?_
          refine gop_rf ?_
          refine ob_i (oq.ldn rfl) ?_
          refine gop_rf ?_
          refine C.impl_Field_onBorder ou30.sl (by first | omega | assumption) (by first | assumption | exact hl0 | exact hln) (fun   H62    le63 => ?_)
          replace op1 := op1.le le63
          replace op5 := op5.le le63
          replace ou9 := ou9.le le63
          replace op18 := op18.le le63
          replace op22 := op22.le le63
          replace ou30 := ou30.le le63
          replace oq := oq.le le63
          replace ou48 := ou48.le le63
          replace op56 := op56.le le63
          replace hvb := hvb.le le63
          replace hvs := hvs.le le63
          replace hvc := hvc.le le63
          replace lE := lE.trans le63
          refine ob_i (vPick_f _ _) ?_
          refine cnd_d (fun hg64 => ?_) (fun hg64 => ?_)
          · skip
            skip
            have hok : ¬ (shpOk b s r c l st) := by exact fun h => h.2.2.2.1 hg64
            exact keq (K := K) (by rw [show ((selI (shpOk b s r c l st) (shpF b s r c l st + 1)) : Int) = (0) from by first | exact selI_f hok | (rw [selI_t hok, hT.2.1]; done) | (rw [selI_t hok, hT.2.2]; rfl)]; rw [show ((selI (shpOk b s r c l st) ((trm 24 24 (shpT b s r c l st)).1 - (trm 24 24 (shp0 r c l)).1)) : Int) = (0) from by first | exact selI_f hok | (rw [selI_t hok, hT.2.1]; done) | (rw [selI_t hok, hT.2.2]; rfl)]; rw [show ((selI (shpOk b s r c l st) ((trm 24 24 (shpT b s r c l st)).2.2.1 - (trm 24 24 (shp0 r c l)).2.2.1)) : Int) = (0) from by first | exact selI_f hok | (rw [selI_t hok, hT.2.1]; done) | (rw [selI_t hok, hT.2.2]; rfl)]; rw [decide_eq_false (show ¬ (shpOk b s r c l st) from by exact hok)]) (hk   _    lE)
          · skip
            refine jn_i (fun σ' H' => ∃ u, ∃ t', Cel H' p1 [vb, vs] ∧ Cel H' p5 [(.int .i64 (r)), (.int .i64 (c)), vc] ∧ OwnE 3 encFv H' u9 ([⟨r, c, vc⟩]) ∧ Cel H' p18 [(.int .i64 ((24 - r) / 2))] ∧ Cel H' p22 [(.int .i64 ((24 - c) / 2))] ∧ Cel H' q [(.int .i64 (24)), (.int .i64 (24)), u] ∧ Own eI H' u48 (trL 24 24 (shp0 r c l)) ∧ Cel H' p56 [(.int .i64 (trR 24 24 (shp0 r c l))), (.int .i64 (trC 24 24 (shp0 r c l))), u48] ∧ Own eI H' u (shpS b s r c l t') ∧ Nw H u ∧ Apart p1 u ∧ Apart p5 u ∧ Apart u9 u ∧ Apart p18 u ∧ Apart p22 u ∧ Apart q u ∧ Apart u48 u ∧ Apart p56 u ∧ Le H H' ∧ ∀ x, x < st.toNat → ¬ shpE b s r c l x) (fun σ65 H65 hP => ?_) (fun J65 hJ65 => ?_)
            · skip
              obtain ⟨u, t', op1, op5, ou9, op18, op22, oq, ou48, op56, ou, nu, ap1Xu, ap5Xu, au9Xu, ap18Xu, ap22Xu, aqXu, au48Xu, ap56Xu, lE, ho0⟩ := hP
              have hvb := hvb0.le lE
              have hvs := hvs0.le lE
              have hvc := hvc0.le lE
              skip
              have hok : ¬ (shpOk b s r c l st) := by exact shp_none ho0
              exact keq (K := K) (by rw [show ((selI (shpOk b s r c l st) (shpF b s r c l st + 1)) : Int) = (0) from by first | exact selI_f hok | (rw [selI_t hok, hT.2.1]; done) | (rw [selI_t hok, hT.2.2]; rfl)]; rw [show ((selI (shpOk b s r c l st) ((trm 24 24 (shpT b s r c l st)).1 - (trm 24 24 (shp0 r c l)).1)) : Int) = (0) from by first | exact selI_f hok | (rw [selI_t hok, hT.2.1]; done) | (rw [selI_t hok, hT.2.2]; rfl)]; rw [show ((selI (shpOk b s r c l st) ((trm 24 24 (shpT b s r c l st)).2.2.1 - (trm 24 24 (shp0 r c l)).2.2.1)) : Int) = (0) from by first | exact selI_f hok | (rw [selI_t hok, hT.2.1]; done) | (rw [selI_t hok, hT.2.2]; rfl)]; rw [decide_eq_false (show ¬ (shpOk b s r c l st) from by exact hok)]) (hk   _    lE)
            refine ⟨fun n' σ' H' => ∃ t : Nat, n' = st.toNat - t ∧ t ≤ st.toNat ∧ ∃ u, σ' 2 = (.int .i64 (st)) ∧ σ' 3 = p1 ∧ σ' 12 = q ∧ σ' 13 = p56 ∧ σ' 14 = (.int .i64 ((trm 24 24 (shp0 r c l)).1)) ∧ σ' 15 = (.int .i64 ((trm 24 24 (shp0 r c l)).2.2.1)) ∧ σ' 17 = (.int .i64 ((t : Int) + 1)) ∧ Cel H' p1 [vb, vs] ∧ Cel H' p5 [(.int .i64 (r)), (.int .i64 (c)), vc] ∧ OwnE 3 encFv H' u9 ([⟨r, c, vc⟩]) ∧ Cel H' p18 [(.int .i64 ((24 - r) / 2))] ∧ Cel H' p22 [(.int .i64 ((24 - c) / 2))] ∧ Cel H' q [(.int .i64 (24)), (.int .i64 (24)), u] ∧ Own eI H' u48 (trL 24 24 (shp0 r c l)) ∧ Cel H' p56 [(.int .i64 (trR 24 24 (shp0 r c l))), (.int .i64 (trC 24 24 (shp0 r c l))), u48] ∧ Own eI H' u (shpS b s r c l t) ∧ Nw H u ∧ Apart p1 u ∧ Apart p5 u ∧ Apart u9 u ∧ Apart p18 u ∧ Apart p22 u ∧ Apart q u ∧ Apart u48 u ∧ Apart p56 u ∧ Le H H' ∧ ∀ x, x < t → ¬ shpE b s r c l x,
              ⟨_, 0, rfl, by omega, u30, rfl, rfl, rfl, rfl, rfl, rfl, (congrArg (Value.int .i64) (by first | omega | rfl | (simp; done))), op1, op5, ou9, op18, op22, oq, ou48, op56, (Own.cast (by first | rfl | (simp; done)) ou30), nu30, ap1Xu30, ap5Xu30, au9Xu30, ap18Xu30, ap22Xu30, au30Xq.symm, au30Xu48.symm, au30Xp56.symm, lE, (fun x hx => by omega)⟩, ?_⟩
            rintro n66 σ66 H66 ⟨t, rfl, htN, u, g2L66, g3L66, g12L66, g13L66, g14L66, g15L66, g17L66, op1, op5, ou9, op18, op22, oq, ou48, op56, ou, nu, ap1Xu, ap5Xu, au9Xu, ap18Xu, ap22Xu, aqXu, au48Xu, ap56Xu, lE, hm0⟩
            have hvb := hvb0.le lE
            have hvs := hvs0.le lE
            have hvc := hvc0.le lE
            try simp only [g2L66, g3L66, g12L66, g13L66, g14L66, g15L66, g17L66]
            have hfi : fieldN 1 24 24 (shpS b s r c l t) := rnL_field hf0 t
            have hfn : fieldN 1 24 24 (nxL false b s 24 24 (shpS b s r c l t)) := nxL_field hs24
            have hln := hfn.2.1
            have tbn := trm24 (nxL false b s 24 24 (shpS b s r c l t))
            have tln := trl24 (nxL false b s 24 24 (shpS b s r c l t))
            refine ob_i (vInt_leq _ _ _) ?_
            refine cnd_d (fun hg67 => ?_) (fun hg67 => ?_)
            · skip
              have tt := hg67
              refine ob_i (op1.ldn rfl) ?_
              refine ob_i (oq.ldn rfl) ?_
              refine C.impl_Life_step hvb hvs ou.sl (by first | omega | assumption) (by first | omega | assumption) (by first | omega | assumption) (fun  u70 H68 ou70 nn71  le69 => ?_)
              have ap1Xu70 : Apart p1 u70 := op1.apart nn71
              have ap5Xu70 : Apart p5 u70 := op5.apart nn71
              have au9Xu70 : Apart u9 u70 := ou9.apart nn71
              have ap18Xu70 : Apart p18 u70 := op18.apart nn71
              have ap22Xu70 : Apart p22 u70 := op22.apart nn71
              have aqXu70 : Apart q u70 := oq.apart nn71
              have au48Xu70 : Apart u48 u70 := ou48.apart nn71
              have ap56Xu70 : Apart p56 u70 := op56.apart nn71
              have auXu70 : Apart u u70 := ou.apart nn71
              have nu70 : Nw H u70 := nn71.le lE
              replace op1 := op1.le le69
              replace op5 := op5.le le69
              replace ou9 := ou9.le le69
              replace op18 := op18.le le69
              replace op22 := op22.le le69
              replace oq := oq.le le69
              replace ou48 := ou48.le le69
              replace op56 := op56.le le69
              replace ou := ou.le le69
              replace hvb := hvb.le le69
              replace hvs := hvs.le le69
              replace hvc := hvc.le le69
              replace lE := lE.trans le69
              refine oq.stn (ws := [(.int .i64 (24)), (.int .i64 (24)), u70]) rfl rfl (oc1 rfl (oc1 rfl (oc1 ou70.one oc0))) (fun H72 oq off73 => ?_)
              replace op1 := op1.off off73 ap1Xq
              replace op5 := op5.off off73 ap5Xq
              replace ou9 := ou9.off off73 au9Xq
              replace op18 := op18.off off73 ap18Xq
              replace op22 := op22.off off73 ap22Xq
              replace ou48 := ou48.off off73 aqXu48.symm
              replace op56 := op56.off off73 aqXp56.symm
              replace ou := ou.off off73 aqXu.symm
              replace ou70 := ou70.off off73 aqXu70.symm
              replace hvb := hvb0.le (off73.le lE nq)
              replace hvs := hvs0.le (off73.le lE nq)
              replace hvc := hvc0.le (off73.le lE nq)
              replace lE := off73.le lE nq
              replace oq : Cel H72 q [(.int .i64 (24)), (.int .i64 (24)), u70] := oq
              refine ob_i (oq.ldn rfl) ?_
              refine C.impl_Field_onBorder ou70.sl (by first | omega | assumption) (by first | assumption | exact hl0 | exact hln) (fun   H74    le75 => ?_)
              replace op1 := op1.le le75
              replace op5 := op5.le le75
              replace ou9 := ou9.le le75
              replace op18 := op18.le le75
              replace op22 := op22.le le75
              replace oq := oq.le le75
              replace ou48 := ou48.le le75
              replace op56 := op56.le le75
              replace ou := ou.le le75
              replace ou70 := ou70.le le75
              replace hvb := hvb.le le75
              replace hvs := hvs.le le75
              replace hvc := hvc.le le75
              replace lE := lE.trans le75
              refine cnd_d (fun hg76 => ?_) (fun hg76 => ?_)
              · skip
                refine retK (K := K) (v' := (.tuple #[(.int .i64 (0)), (.int .i64 (0)), (.int .i64 (0)), (.bool false)])) rfl ?_
                skip
                have hok : ¬ (shpOk b s r c l st) := by exact shp_fail hg76 hm0 (by omega)
                exact keq (K := K) (by rw [show ((selI (shpOk b s r c l st) (shpF b s r c l st + 1)) : Int) = (0) from by first | exact selI_f hok | (rw [selI_t hok, hT.2.1]; done) | (rw [selI_t hok, hT.2.2]; rfl)]; rw [show ((selI (shpOk b s r c l st) ((trm 24 24 (shpT b s r c l st)).1 - (trm 24 24 (shp0 r c l)).1)) : Int) = (0) from by first | exact selI_f hok | (rw [selI_t hok, hT.2.1]; done) | (rw [selI_t hok, hT.2.2]; rfl)]; rw [show ((selI (shpOk b s r c l st) ((trm 24 24 (shpT b s r c l st)).2.2.1 - (trm 24 24 (shp0 r c l)).2.2.1)) : Int) = (0) from by first | exact selI_f hok | (rw [selI_t hok, hT.2.1]; done) | (rw [selI_t hok, hT.2.2]; rfl)]; rw [decide_eq_false (show ¬ (shpOk b s r c l st) from by exact hok)]) (hk   _    lE)
              · skip
                refine ob_i (oq.ldn rfl) ?_
                refine C.impl_Field_trimmed ou70.sl (by first | omega | assumption) (by first | assumption | exact hl0 | exact hln) (fun hc77  H78    le79 => ?_) (fun hc80 u83 H81 ou83 nn84  le82 => ?_)
                · skip
                  replace op1 := op1.le le79
                  replace op5 := op5.le le79
                  replace ou9 := ou9.le le79
                  replace op18 := op18.le le79
                  replace op22 := op22.le le79
                  replace oq := oq.le le79
                  replace ou48 := ou48.le le79
                  replace op56 := op56.le le79
                  replace ou := ou.le le79
                  replace ou70 := ou70.le le79
                  replace hvb := hvb.le le79
                  replace hvs := hvs.le le79
                  replace hvc := hvc.le le79
                  replace lE := lE.trans le79
                  refine ob_i (vExt_40 _ _ _ _) ?_
                  refine ob_i (vExt_41 _ _ _ _) ?_
                  refine ob_i (vExt_42 _ _ _ _) ?_
                  refine ob_i (vExt_43 _ _ _ _) ?_
                  refine nw_i (fun p85 H86 op85 nn87 le88 => ?_)
                  have ap1Xp85 : Apart p1 p85 := op1.apart nn87
                  have ap5Xp85 : Apart p5 p85 := op5.apart nn87
                  have au9Xp85 : Apart u9 p85 := ou9.apart nn87
                  have ap18Xp85 : Apart p18 p85 := op18.apart nn87
                  have ap22Xp85 : Apart p22 p85 := op22.apart nn87
                  have aqXp85 : Apart q p85 := oq.apart nn87
                  have au48Xp85 : Apart u48 p85 := ou48.apart nn87
                  have ap56Xp85 : Apart p56 p85 := op56.apart nn87
                  have auXp85 : Apart u p85 := ou.apart nn87
                  have au70Xp85 : Apart u70 p85 := ou70.apart nn87
                  have np85 : Nw H p85 := nn87.le lE
                  replace op1 := op1.le le88
                  replace op5 := op5.le le88
                  replace ou9 := ou9.le le88
                  replace op18 := op18.le le88
                  replace op22 := op22.le le88
                  replace oq := oq.le le88
                  replace ou48 := ou48.le le88
                  replace op56 := op56.le le88
                  replace ou := ou.le le88
                  replace ou70 := ou70.le le88
                  replace hvb := hvb.le le88
                  replace hvs := hvs.le le88
                  replace hvc := hvc.le le88
                  replace lE := lE.trans le88
                  replace op85 : Cel H86 p85 [(.int .i64 (0)), (.int .i64 (0)), (.slice none 0 0)] := op85
                  refine op85.stn (ws := [(.int .i64 (0)), (.int .i64 (0)), (.slice none 0 0)]) rfl rfl (oc1 rfl (oc1 rfl (oc1 rfl oc0))) (fun H89 op85 off90 => ?_)
                  replace op1 := op1.off off90 ap1Xp85
                  replace op5 := op5.off off90 ap5Xp85
                  replace ou9 := ou9.off off90 au9Xp85
                  replace op18 := op18.off off90 ap18Xp85
                  replace op22 := op22.off off90 ap22Xp85
                  replace oq := oq.off off90 aqXp85
                  replace ou48 := ou48.off off90 au48Xp85
                  replace op56 := op56.off off90 ap56Xp85
                  replace ou := ou.off off90 auXp85
                  replace ou70 := ou70.off off90 au70Xp85
                  replace hvb := hvb0.le (off90.le lE np85)
                  replace hvs := hvs0.le (off90.le lE np85)
                  replace hvc := hvc0.le (off90.le lE np85)
                  replace lE := off90.le lE np85
                  replace op85 : Cel H89 p85 [(.int .i64 (0)), (.int .i64 (0)), (.slice none 0 0)] := op85
                  refine gop_sf ?_
                  refine gop_sf ?_
                  refine gop_sf ?_
                  refine ob_i (vPick_f _ _) ?_
                  refine cnd_f1 ?_
                  refine ob_i (vInt_add (by omega) (by omega)) ?_
                  exact nxt (st.toNat - (t + 1)) (by omega) ⟨t + 1, rfl, by omega, u70, g2L66, g3L66, g12L66, g13L66, g14L66, g15L66, (congrArg (Value.int .i64) (by first | omega | rfl | (simp; done))), op1, op5, ou9, op18, op22, oq, ou48, op56, ou70, nu70, ap1Xu70, ap5Xu70, au9Xu70, ap18Xu70, ap22Xu70, aqXu70, au48Xu70, ap56Xu70, lE, (shp_next hg76 (fun h => by have h1 := h.1; have h2 := hc77; change (trm 24 24 (nxL false b s 24 24 (shpS b s r c l t))).2.1 < 0 at h2; change 0 ≤ (trm 24 24 (nxL false b s 24 24 (shpS b s r c l t))).2.1 at h1; omega) hm0)⟩
                · skip
                  have ap1Xu83 : Apart p1 u83 := op1.apart nn84
                  have ap5Xu83 : Apart p5 u83 := op5.apart nn84
                  have au9Xu83 : Apart u9 u83 := ou9.apart nn84
                  have ap18Xu83 : Apart p18 u83 := op18.apart nn84
                  have ap22Xu83 : Apart p22 u83 := op22.apart nn84
                  have aqXu83 : Apart q u83 := oq.apart nn84
                  have au48Xu83 : Apart u48 u83 := ou48.apart nn84
                  have ap56Xu83 : Apart p56 u83 := op56.apart nn84
                  have auXu83 : Apart u u83 := ou.apart nn84
                  have au70Xu83 : Apart u70 u83 := ou70.apart nn84
                  have nu83 : Nw H u83 := nn84.le lE
                  replace op1 := op1.le le82
                  replace op5 := op5.le le82
                  replace ou9 := ou9.le le82
                  replace op18 := op18.le le82
                  replace op22 := op22.le le82
                  replace oq := oq.le le82
                  replace ou48 := ou48.le le82
                  replace op56 := op56.le le82
                  replace ou := ou.le le82
                  replace ou70 := ou70.le le82
                  replace hvb := hvb.le le82
                  replace hvs := hvs.le le82
                  replace hvc := hvc.le le82
                  replace lE := lE.trans le82
                  refine ob_i (vExt_40 _ _ _ _) ?_
                  refine ob_i (vExt_41 _ _ _ _) ?_
                  refine ob_i (vExt_42 _ _ _ _) ?_
                  refine ob_i (vExt_43 _ _ _ _) ?_
                  refine nw_i (fun p91 H92 op91 nn93 le94 => ?_)
                  have ap1Xp91 : Apart p1 p91 := op1.apart nn93
                  have ap5Xp91 : Apart p5 p91 := op5.apart nn93
                  have au9Xp91 : Apart u9 p91 := ou9.apart nn93
                  have ap18Xp91 : Apart p18 p91 := op18.apart nn93
                  have ap22Xp91 : Apart p22 p91 := op22.apart nn93
                  have aqXp91 : Apart q p91 := oq.apart nn93
                  have au48Xp91 : Apart u48 p91 := ou48.apart nn93
                  have ap56Xp91 : Apart p56 p91 := op56.apart nn93
                  have auXp91 : Apart u p91 := ou.apart nn93
                  have au70Xp91 : Apart u70 p91 := ou70.apart nn93
                  have au83Xp91 : Apart u83 p91 := ou83.apart nn93
                  have np91 : Nw H p91 := nn93.le lE
                  replace op1 := op1.le le94
                  replace op5 := op5.le le94
                  replace ou9 := ou9.le le94
                  replace op18 := op18.le le94
                  replace op22 := op22.le le94
                  replace oq := oq.le le94
                  replace ou48 := ou48.le le94
                  replace op56 := op56.le le94
                  replace ou := ou.le le94
                  replace ou70 := ou70.le le94
                  replace ou83 := ou83.le le94
                  replace hvb := hvb.le le94
                  replace hvs := hvs.le le94
                  replace hvc := hvc.le le94
                  replace lE := lE.trans le94
                  replace op91 : Cel H92 p91 [(.int .i64 (0)), (.int .i64 (0)), (.slice none 0 0)] := op91
                  refine op91.stn (ws := [(.int .i64 (trR 24 24 (nxL false b s 24 24 (shpS b s r c l t)))), (.int .i64 (trC 24 24 (nxL false b s 24 24 (shpS b s r c l t)))), u83]) rfl rfl (oc1 rfl (oc1 rfl (oc1 ou83.one oc0))) (fun H95 op91 off96 => ?_)
                  replace op1 := op1.off off96 ap1Xp91
                  replace op5 := op5.off off96 ap5Xp91
                  replace ou9 := ou9.off off96 au9Xp91
                  replace op18 := op18.off off96 ap18Xp91
                  replace op22 := op22.off off96 ap22Xp91
                  replace oq := oq.off off96 aqXp91
                  replace ou48 := ou48.off off96 au48Xp91
                  replace op56 := op56.off off96 ap56Xp91
                  replace ou := ou.off off96 auXp91
                  replace ou70 := ou70.off off96 au70Xp91
                  replace ou83 := ou83.off off96 au83Xp91
                  replace hvb := hvb0.le (off96.le lE np91)
                  replace hvs := hvs0.le (off96.le lE np91)
                  replace hvc := hvc0.le (off96.le lE np91)
                  replace lE := off96.le lE np91
                  replace op91 : Cel H95 p91 [(.int .i64 (trR 24 24 (nxL false b s 24 24 (shpS b s r c l t)))), (.int .i64 (trC 24 24 (nxL false b s 24 24 (shpS b s r c l t)))), u83] := op91
                  refine gop_rt ?_
                  refine ob_i (op91.ldn rfl) ?_
                  refine gop_rt ?_
                  refine ob_i (op56.ldn rfl) ?_
                  refine gop_rt ?_
                  refine C.impl_SameField ou83.sl ou48.sl (by first | omega | assumption) (fun   H97    le98 => ?_)
                  replace op1 := op1.le le98
                  replace op5 := op5.le le98
                  replace ou9 := ou9.le le98
                  replace op18 := op18.le le98
                  replace op22 := op22.le le98
                  replace oq := oq.le le98
                  replace ou48 := ou48.le le98
                  replace op56 := op56.le le98
                  replace ou := ou.le le98
                  replace ou70 := ou70.le le98
                  replace ou83 := ou83.le le98
                  replace op91 := op91.le le98
                  replace hvb := hvb.le le98
                  replace hvs := hvs.le le98
                  replace hvc := hvc.le le98
                  replace lE := lE.trans le98
                  refine ob_i (vPick_t _ _) ?_
                  refine cnd_d (fun hg99 => ?_) (fun hg99 => ?_)
                  · skip
                    refine ob_i (vInt_sub (by omega) (by omega)) ?_
                    refine ob_i (vInt_sub (by omega) (by omega)) ?_
                    refine retK (K := K) (v' := (.tuple #[(.int .i64 ((t : Int) + 1)), (.int .i64 (((trm 24 24 (nxL false b s 24 24 (shpS b s r c l t))).1) - ((trm 24 24 (shp0 r c l)).1))), (.int .i64 (((trm 24 24 (nxL false b s 24 24 (shpS b s r c l t))).2.2.1) - ((trm 24 24 (shp0 r c l)).2.2.1))), (.bool true)])) rfl ?_
                    skip
                    have hT := shp_hit (b := b) (s := s) (r := r) (c := c) (l := l) (t := t) hc16 hc17 hc45 hg64 hg76 ⟨hc80, hg99.1, hg99.2.1, hg99.2.2⟩ hm0 (by omega)
                    have hok : shpOk b s r c l st := by exact hT.1
                    exact keq (K := K) (by rw [show ((selI (shpOk b s r c l st) (shpF b s r c l st + 1)) : Int) = ((t : Int) + 1) from by first | exact selI_f hok | (rw [selI_t hok, hT.2.1]; done) | (rw [selI_t hok, hT.2.2]; rfl)]; rw [show ((selI (shpOk b s r c l st) ((trm 24 24 (shpT b s r c l st)).1 - (trm 24 24 (shp0 r c l)).1)) : Int) = (((trm 24 24 (nxL false b s 24 24 (shpS b s r c l t))).1) - ((trm 24 24 (shp0 r c l)).1)) from by first | exact selI_f hok | (rw [selI_t hok, hT.2.1]; done) | (rw [selI_t hok, hT.2.2]; rfl)]; rw [show ((selI (shpOk b s r c l st) ((trm 24 24 (shpT b s r c l st)).2.2.1 - (trm 24 24 (shp0 r c l)).2.2.1)) : Int) = (((trm 24 24 (nxL false b s 24 24 (shpS b s r c l t))).2.2.1) - ((trm 24 24 (shp0 r c l)).2.2.1)) from by first | exact selI_f hok | (rw [selI_t hok, hT.2.1]; done) | (rw [selI_t hok, hT.2.2]; rfl)]; rw [decide_eq_true (show (shpOk b s r c l st) from by exact hok)]) (hk   _    lE)
                  · skip
                    refine ob_i (vInt_add (by omega) (by omega)) ?_
                    exact nxt (st.toNat - (t + 1)) (by omega) ⟨t + 1, rfl, by omega, u70, g2L66, g3L66, g12L66, g13L66, g14L66, g15L66, (congrArg (Value.int .i64) (by first | omega | rfl | (simp; done))), op1, op5, ou9, op18, op22, oq, ou48, op56, ou70, nu70, ap1Xu70, ap5Xu70, au9Xu70, ap18Xu70, ap22Xu70, aqXu70, au48Xu70, ap56Xu70, lE, (shp_next hg76 (fun h => hg99 ⟨h.2.1, h.2.2.1, h.2.2.2⟩) hm0)⟩
            · skip
              have tt := hg67
              exact hJ65 _ _ ⟨u, t, op1, op5, ou9, op18, op22, oq, ou48, op56, ou, nu, ap1Xu, ap5Xu, au9Xu, ap18Xu, ap22Xu, aqXu, au48Xu, ap56Xu, lE, (fun x hx => hm0 x (by omega))⟩
      · skip
        refine ob_i (op5.fa 0) ?_
        refine ob_i (op5.ld 0 rfl) ?_
        refine ob_i (vInt_sub (by omega) (by omega)) ?_
        refine ob_i (vInt_quoN (by omega) (by omega) (by omega)) ?_
        refine ob_i (op5.fa 1) ?_
        refine nw_i (fun p100 H101 op100 nn102 le103 => ?_)
        have ap1Xp100 : Apart p1 p100 := op1.apart nn102
        have ap5Xp100 : Apart p5 p100 := op5.apart nn102
        have au9Xp100 : Apart u9 p100 := ou9.apart nn102
        have np100 : Nw H p100 := nn102.le lE
        replace op1 := op1.le le103
        replace op5 := op5.le le103
        replace ou9 := ou9.le le103
        replace hvb := hvb.le le103
        replace hvs := hvs.le le103
        replace hvc := hvc.le le103
        replace lE := lE.trans le103
        replace op100 : Cel H101 p100 [(.int .i64 (0))] := op100
        refine nw_i (fun p104 H105 op104 nn106 le107 => ?_)
        have ap1Xp104 : Apart p1 p104 := op1.apart nn106
        have ap5Xp104 : Apart p5 p104 := op5.apart nn106
        have au9Xp104 : Apart u9 p104 := ou9.apart nn106
        have ap100Xp104 : Apart p100 p104 := op100.apart nn106
        have np104 : Nw H p104 := nn106.le lE
        replace op1 := op1.le le107
        replace op5 := op5.le le107
        replace ou9 := ou9.le le107
        replace op100 := op100.le le107
        replace hvb := hvb.le le107
        replace hvs := hvs.le le107
        replace hvc := hvc.le le107
        replace lE := lE.trans le107
        replace op104 : Cel H105 p104 [(.int .i64 (0))] := op104
        refine op100.st0 (by simp) rfl rfl (fun H108 op100 off109 => ?_)
        replace op1 := op1.off off109 ap1Xp100
        replace op5 := op5.off off109 ap5Xp100
        replace ou9 := ou9.off off109 au9Xp100
        replace op104 := op104.off off109 ap100Xp104.symm
        replace hvb := hvb0.le (off109.le lE np100)
        replace hvs := hvs0.le (off109.le lE np100)
        replace hvc := hvc0.le (off109.le lE np100)
        replace lE := off109.le lE np100
        replace op100 : Cel H108 p100 [(.int .i64 ((24 - r) / 2))] := op100
        refine ob_i (op5.ld 1 rfl) ?_
        refine ob_i (vInt_sub (by omega) (by omega)) ?_
        refine ob_i (vInt_quoN (by omega) (by omega) (by omega)) ?_
        refine op104.st0 (by simp) rfl rfl (fun H110 op104 off111 => ?_)
        replace op1 := op1.off off111 ap1Xp104
        replace op5 := op5.off off111 ap5Xp104
        replace ou9 := ou9.off off111 au9Xp104
        replace op100 := op100.off off111 ap100Xp104
        replace hvb := hvb0.le (off111.le lE np104)
        replace hvs := hvs0.le (off111.le lE np104)
        replace hvc := hvc0.le (off111.le lE np104)
        replace lE := off111.le lE np104
        replace op104 : Cel H110 p104 [(.int .i64 ((24 - c) / 2))] := op104
        refine C.impl_madeField (g := (fun x y => flatF r c l (x - ((24 - r) / 2)) (y - ((24 - c) / 2)))) (by omega) (by omega) (by omega) (by omega) (fun H116c i116 k116 Z leZ hi116 hk116 hZ => ?_) (fun u112 H113 ou112 nn114 le115 => ?_)
        · refine ⟨by kernel_rfl, ?_⟩
          replace op1 := op1.le leZ
          replace op5 := op5.le leZ
          replace ou9 := ou9.le leZ
          replace op100 := op100.le leZ
          replace op104 := op104.le leZ
          replace hvb := hvb.le leZ
          replace hvs := hvs.le leZ
          replace hvc := hvc.le leZ
          replace lE := lE.trans leZ
          have lZ := Le.refl H116c
          refine C.impl_ShipOf_1 op5 op100 op104 hvc (by first | omega | assumption) (by first | omega | assumption) (by first | omega | assumption) (by first | omega | assumption) (by first | omega | assumption) (by first | omega | assumption) (by first | omega | assumption) (by first | omega | assumption) (by first | omega | assumption) (fun   H117    le118 => ?_)
          replace op1 := op1.le le118
          replace op5 := op5.le le118
          replace ou9 := ou9.le le118
          replace op100 := op100.le le118
          replace op104 := op104.le le118
          replace hvb := hvb.le le118
          replace hvs := hvs.le le118
          replace hvc := hvc.le le118
          replace lE := lE.trans le118
          replace lZ := lZ.trans le118
          exact keq (K := Z) (by rw [show ((flatF r c l ((i116 : Int) - ((24 - r) / 2)) ((k116 : Int) - ((24 - c) / 2))) : Int) = ((fun x y => flatF r c l (x - ((24 - r) / 2)) (y - ((24 - c) / 2)))) (i116 : Int) (k116 : Int) from rfl]) (hZ _ lZ)
        have ap1Xu112 : Apart p1 u112 := op1.apart nn114
        have ap5Xu112 : Apart p5 u112 := op5.apart nn114
        have au9Xu112 : Apart u9 u112 := ou9.apart nn114
        have ap100Xu112 : Apart p100 u112 := op100.apart nn114
        have ap104Xu112 : Apart p104 u112 := op104.apart nn114
        have nu112 : Nw H u112 := nn114.le lE
        replace op1 := op1.le le115
        replace op5 := op5.le le115
        replace ou9 := ou9.le le115
        replace op100 := op100.le le115
        replace op104 := op104.le le115
        replace hvb := hvb.le le115
        replace hvs := hvs.le le115
        replace hvc := hvc.le le115
        replace lE := lE.trans le115
        replace ou112 : Own eI H113 u112 (shp0 r c l) := ou112
        refine nw_i (fun q H119 oq nn120 le121 => ?_)
        have ap1Xq : Apart p1 q := op1.apart nn120
        have ap5Xq : Apart p5 q := op5.apart nn120
        have au9Xq : Apart u9 q := ou9.apart nn120
        have ap100Xq : Apart p100 q := op100.apart nn120
        have ap104Xq : Apart p104 q := op104.apart nn120
        have au112Xq : Apart u112 q := ou112.apart nn120
        have nq : Nw H q := nn120.le lE
        replace op1 := op1.le le121
        replace op5 := op5.le le121
        replace ou9 := ou9.le le121
        replace op100 := op100.le le121
        replace op104 := op104.le le121
        replace ou112 := ou112.le le121
        replace hvb := hvb.le le121
        replace hvs := hvs.le le121
        replace hvc := hvc.le le121
        replace lE := lE.trans le121
        replace oq : Cel H119 q [(.int .i64 (0)), (.int .i64 (0)), (.slice none 0 0)] := oq
        refine oq.stn (ws := [(.int .i64 (24)), (.int .i64 (24)), u112]) rfl rfl (oc1 rfl (oc1 rfl (oc1 ou112.one oc0))) (fun H122 oq off123 => ?_)
        replace op1 := op1.off off123 ap1Xq
        replace op5 := op5.off off123 ap5Xq
        replace ou9 := ou9.off off123 au9Xq
        replace op100 := op100.off off123 ap100Xq
        replace op104 := op104.off off123 ap104Xq
        replace ou112 := ou112.off off123 au112Xq
        replace hvb := hvb0.le (off123.le lE nq)
        replace hvs := hvs0.le (off123.le lE nq)
        replace hvc := hvc0.le (off123.le lE nq)
        replace lE := off123.le lE nq
        replace oq : Cel H122 q [(.int .i64 (24)), (.int .i64 (24)), u112] := oq
        refine ob_i (oq.ldn rfl) ?_
        refine C.impl_Field_trimmed ou112.sl (by first | omega | assumption) (by first | assumption | exact hl0 | exact hln) (fun hc124  H125    le126 => ?_) (fun hc127 u130 H128 ou130 nn131  le129 => ?_)
        · skip
          replace op1 := op1.le le126
          replace op5 := op5.le le126
          replace ou9 := ou9.le le126
          replace op100 := op100.le le126
          replace op104 := op104.le le126
          replace ou112 := ou112.le le126
          replace oq := oq.le le126
          replace hvb := hvb.le le126
          replace hvs := hvs.le le126
          replace hvc := hvc.le le126
          replace lE := lE.trans le126
          refine ob_i (vExt_40 _ _ _ _) ?_
          refine ob_i (vExt_41 _ _ _ _) ?_
          refine ob_i (vExt_42 _ _ _ _) ?_
          refine ob_i (vExt_43 _ _ _ _) ?_
          refine nw_i (fun p132 H133 op132 nn134 le135 => ?_)
          have ap1Xp132 : Apart p1 p132 := op1.apart nn134
          have ap5Xp132 : Apart p5 p132 := op5.apart nn134
          have au9Xp132 : Apart u9 p132 := ou9.apart nn134
          have ap100Xp132 : Apart p100 p132 := op100.apart nn134
          have ap104Xp132 : Apart p104 p132 := op104.apart nn134
          have au112Xp132 : Apart u112 p132 := ou112.apart nn134
          have aqXp132 : Apart q p132 := oq.apart nn134
          have np132 : Nw H p132 := nn134.le lE
          replace op1 := op1.le le135
          replace op5 := op5.le le135
          replace ou9 := ou9.le le135
          replace op100 := op100.le le135
          replace op104 := op104.le le135
          replace ou112 := ou112.le le135
          replace oq := oq.le le135
          replace hvb := hvb.le le135
          replace hvs := hvs.le le135
          replace hvc := hvc.le le135
          replace lE := lE.trans le135
          replace op132 : Cel H133 p132 [(.int .i64 (0)), (.int .i64 (0)), (.slice none 0 0)] := op132
          refine op132.stn (ws := [(.int .i64 (0)), (.int .i64 (0)), (.slice none 0 0)]) rfl rfl (oc1 rfl (oc1 rfl (oc1 rfl oc0))) (fun H136 op132 off137 => ?_)
          replace op1 := op1.off off137 ap1Xp132
          replace op5 := op5.off off137 ap5Xp132
          replace ou9 := ou9.off off137 au9Xp132
          replace op100 := op100.off off137 ap100Xp132
          replace op104 := op104.off off137 ap104Xp132
          replace ou112 := ou112.off off137 au112Xp132
          replace oq := oq.off off137 aqXp132
          replace hvb := hvb0.le (off137.le lE np132)
          replace hvs := hvs0.le (off137.le lE np132)
          replace hvc := hvc0.le (off137.le lE np132)
          replace lE := off137.le lE np132
          replace op132 : Cel H136 p132 [(.int .i64 (0)), (.int .i64 (0)), (.slice none 0 0)] := op132
          refine ob_i (a := .bool true) rfl ?_
          refine gop_st ?_
          refine gop_st ?_
          refine ob_i (vPick_t _ _) ?_
          refine cnd_t1 ?_
          skip
          have hok : ¬ (shpOk b s r c l st) := by intro h; have := h.2.2.1; omega
          exact keq (K := K) (by rw [show ((selI (shpOk b s r c l st) (shpF b s r c l st + 1)) : Int) = (0) from by first | exact selI_f hok | (rw [selI_t hok, hT.2.1]; done) | (rw [selI_t hok, hT.2.2]; rfl)]; rw [show ((selI (shpOk b s r c l st) ((trm 24 24 (shpT b s r c l st)).1 - (trm 24 24 (shp0 r c l)).1)) : Int) = (0) from by first | exact selI_f hok | (rw [selI_t hok, hT.2.1]; done) | (rw [selI_t hok, hT.2.2]; rfl)]; rw [show ((selI (shpOk b s r c l st) ((trm 24 24 (shpT b s r c l st)).2.2.1 - (trm 24 24 (shp0 r c l)).2.2.1)) : Int) = (0) from by first | exact selI_f hok | (rw [selI_t hok, hT.2.1]; done) | (rw [selI_t hok, hT.2.2]; rfl)]; rw [decide_eq_false (show ¬ (shpOk b s r c l st) from by exact hok)]) (hk   _    lE)
        · skip
          have ap1Xu130 : Apart p1 u130 := op1.apart nn131
          have ap5Xu130 : Apart p5 u130 := op5.apart nn131
          have au9Xu130 : Apart u9 u130 := ou9.apart nn131
          have ap100Xu130 : Apart p100 u130 := op100.apart nn131
          have ap104Xu130 : Apart p104 u130 := op104.apart nn131
          have au112Xu130 : Apart u112 u130 := ou112.apart nn131
          have aqXu130 : Apart q u130 := oq.apart nn131
          have nu130 : Nw H u130 := nn131.le lE
          replace op1 := op1.le le129
          replace op5 := op5.le le129
          replace ou9 := ou9.le le129
          replace op100 := op100.le le129
          replace op104 := op104.le le129
          replace ou112 := ou112.le le129
          replace oq := oq.le le129
          replace hvb := hvb.le le129
          replace hvs := hvs.le le129
          replace hvc := hvc.le le129
          replace lE := lE.trans le129
          refine ob_i (vExt_40 _ _ _ _) ?_
          refine ob_i (vExt_41 _ _ _ _) ?_
          refine ob_i (vExt_42 _ _ _ _) ?_
          refine ob_i (vExt_43 _ _ _ _) ?_
          refine nw_i (fun p138 H139 op138 nn140 le141 => ?_)
          have ap1Xp138 : Apart p1 p138 := op1.apart nn140
          have ap5Xp138 : Apart p5 p138 := op5.apart nn140
          have au9Xp138 : Apart u9 p138 := ou9.apart nn140
          have ap100Xp138 : Apart p100 p138 := op100.apart nn140
          have ap104Xp138 : Apart p104 p138 := op104.apart nn140
          have au112Xp138 : Apart u112 p138 := ou112.apart nn140
          have aqXp138 : Apart q p138 := oq.apart nn140
          have au130Xp138 : Apart u130 p138 := ou130.apart nn140
          have np138 : Nw H p138 := nn140.le lE
          replace op1 := op1.le le141
          replace op5 := op5.le le141
          replace ou9 := ou9.le le141
          replace op100 := op100.le le141
          replace op104 := op104.le le141
          replace ou112 := ou112.le le141
          replace oq := oq.le le141
          replace ou130 := ou130.le le141
          replace hvb := hvb.le le141
          replace hvs := hvs.le le141
          replace hvc := hvc.le le141
          replace lE := lE.trans le141
          replace op138 : Cel H139 p138 [(.int .i64 (0)), (.int .i64 (0)), (.slice none 0 0)] := op138
          refine op138.stn (ws := [(.int .i64 (trR 24 24 (shp0 r c l))), (.int .i64 (trC 24 24 (shp0 r c l))), u130]) rfl rfl (oc1 rfl (oc1 rfl (oc1 ou130.one oc0))) (fun H142 op138 off143 => ?_)
          replace op1 := op1.off off143 ap1Xp138
          replace op5 := op5.off off143 ap5Xp138
          replace ou9 := ou9.off off143 au9Xp138
          replace op100 := op100.off off143 ap100Xp138
          replace op104 := op104.off off143 ap104Xp138
          replace ou112 := ou112.off off143 au112Xp138
          replace oq := oq.off off143 aqXp138
          replace ou130 := ou130.off off143 au130Xp138
          replace hvb := hvb0.le (off143.le lE np138)
          replace hvs := hvs0.le (off143.le lE np138)
          replace hvc := hvc0.le (off143.le lE np138)
          replace lE := off143.le lE np138
          replace op138 : Cel H142 p138 [(.int .i64 (trR 24 24 (shp0 r c l))), (.int .i64 (trC 24 24 (shp0 r c l))), u130] := op138
          refine ob_i (a := .bool false) rfl ?_
          refine gop_rf ?_
          refine ob_i (oq.ldn rfl) ?_
          refine gop_rf ?_
          refine C.impl_Field_onBorder ou112.sl (by first | omega | assumption) (by first | assumption | exact hl0 | exact hln) (fun   H144    le145 => ?_)
          replace op1 := op1.le le145
          replace op5 := op5.le le145
          replace ou9 := ou9.le le145
          replace op100 := op100.le le145
          replace op104 := op104.le le145
          replace ou112 := ou112.le le145
          replace oq := oq.le le145
          replace ou130 := ou130.le le145
          replace op138 := op138.le le145
          replace hvb := hvb.le le145
          replace hvs := hvs.le le145
          replace hvc := hvc.le le145
          replace lE := lE.trans le145
          refine ob_i (vPick_f _ _) ?_
          refine cnd_d (fun hg146 => ?_) (fun hg146 => ?_)
          · skip
            skip
            have hok : ¬ (shpOk b s r c l st) := by exact fun h => h.2.2.2.1 hg146
            exact keq (K := K) (by rw [show ((selI (shpOk b s r c l st) (shpF b s r c l st + 1)) : Int) = (0) from by first | exact selI_f hok | (rw [selI_t hok, hT.2.1]; done) | (rw [selI_t hok, hT.2.2]; rfl)]; rw [show ((selI (shpOk b s r c l st) ((trm 24 24 (shpT b s r c l st)).1 - (trm 24 24 (shp0 r c l)).1)) : Int) = (0) from by first | exact selI_f hok | (rw [selI_t hok, hT.2.1]; done) | (rw [selI_t hok, hT.2.2]; rfl)]; rw [show ((selI (shpOk b s r c l st) ((trm 24 24 (shpT b s r c l st)).2.2.1 - (trm 24 24 (shp0 r c l)).2.2.1)) : Int) = (0) from by first | exact selI_f hok | (rw [selI_t hok, hT.2.1]; done) | (rw [selI_t hok, hT.2.2]; rfl)]; rw [decide_eq_false (show ¬ (shpOk b s r c l st) from by exact hok)]) (hk   _    lE)
          · skip
            refine jn_i (fun σ' H' => ∃ u, ∃ t', Cel H' p1 [vb, vs] ∧ Cel H' p5 [(.int .i64 (r)), (.int .i64 (c)), vc] ∧ OwnE 3 encFv H' u9 ([⟨r, c, vc⟩]) ∧ Cel H' p100 [(.int .i64 ((24 - r) / 2))] ∧ Cel H' p104 [(.int .i64 ((24 - c) / 2))] ∧ Cel H' q [(.int .i64 (24)), (.int .i64 (24)), u] ∧ Own eI H' u130 (trL 24 24 (shp0 r c l)) ∧ Cel H' p138 [(.int .i64 (trR 24 24 (shp0 r c l))), (.int .i64 (trC 24 24 (shp0 r c l))), u130] ∧ Own eI H' u (shpS b s r c l t') ∧ Nw H u ∧ Apart p1 u ∧ Apart p5 u ∧ Apart u9 u ∧ Apart p100 u ∧ Apart p104 u ∧ Apart q u ∧ Apart u130 u ∧ Apart p138 u ∧ Le H H' ∧ ∀ x, x < st.toNat → ¬ shpE b s r c l x) (fun σ147 H147 hP => ?_) (fun J147 hJ147 => ?_)
            · skip
              obtain ⟨u, t', op1, op5, ou9, op100, op104, oq, ou130, op138, ou, nu, ap1Xu, ap5Xu, au9Xu, ap100Xu, ap104Xu, aqXu, au130Xu, ap138Xu, lE, ho0⟩ := hP
              have hvb := hvb0.le lE
              have hvs := hvs0.le lE
              have hvc := hvc0.le lE
              skip
              have hok : ¬ (shpOk b s r c l st) := by exact shp_none ho0
              exact keq (K := K) (by rw [show ((selI (shpOk b s r c l st) (shpF b s r c l st + 1)) : Int) = (0) from by first | exact selI_f hok | (rw [selI_t hok, hT.2.1]; done) | (rw [selI_t hok, hT.2.2]; rfl)]; rw [show ((selI (shpOk b s r c l st) ((trm 24 24 (shpT b s r c l st)).1 - (trm 24 24 (shp0 r c l)).1)) : Int) = (0) from by first | exact selI_f hok | (rw [selI_t hok, hT.2.1]; done) | (rw [selI_t hok, hT.2.2]; rfl)]; rw [show ((selI (shpOk b s r c l st) ((trm 24 24 (shpT b s r c l st)).2.2.1 - (trm 24 24 (shp0 r c l)).2.2.1)) : Int) = (0) from by first | exact selI_f hok | (rw [selI_t hok, hT.2.1]; done) | (rw [selI_t hok, hT.2.2]; rfl)]; rw [decide_eq_false (show ¬ (shpOk b s r c l st) from by exact hok)]) (hk   _    lE)
            refine ⟨fun n' σ' H' => ∃ t : Nat, n' = st.toNat - t ∧ t ≤ st.toNat ∧ ∃ u, σ' 2 = (.int .i64 (st)) ∧ σ' 3 = p1 ∧ σ' 12 = q ∧ σ' 13 = p138 ∧ σ' 14 = (.int .i64 ((trm 24 24 (shp0 r c l)).1)) ∧ σ' 15 = (.int .i64 ((trm 24 24 (shp0 r c l)).2.2.1)) ∧ σ' 17 = (.int .i64 ((t : Int) + 1)) ∧ Cel H' p1 [vb, vs] ∧ Cel H' p5 [(.int .i64 (r)), (.int .i64 (c)), vc] ∧ OwnE 3 encFv H' u9 ([⟨r, c, vc⟩]) ∧ Cel H' p100 [(.int .i64 ((24 - r) / 2))] ∧ Cel H' p104 [(.int .i64 ((24 - c) / 2))] ∧ Cel H' q [(.int .i64 (24)), (.int .i64 (24)), u] ∧ Own eI H' u130 (trL 24 24 (shp0 r c l)) ∧ Cel H' p138 [(.int .i64 (trR 24 24 (shp0 r c l))), (.int .i64 (trC 24 24 (shp0 r c l))), u130] ∧ Own eI H' u (shpS b s r c l t) ∧ Nw H u ∧ Apart p1 u ∧ Apart p5 u ∧ Apart u9 u ∧ Apart p100 u ∧ Apart p104 u ∧ Apart q u ∧ Apart u130 u ∧ Apart p138 u ∧ Le H H' ∧ ∀ x, x < t → ¬ shpE b s r c l x,
              ⟨_, 0, rfl, by omega, u112, rfl, rfl, rfl, rfl, rfl, rfl, (congrArg (Value.int .i64) (by first | omega | rfl | (simp; done))), op1, op5, ou9, op100, op104, oq, ou130, op138, (Own.cast (by first | rfl | (simp; done)) ou112), nu112, ap1Xu112, ap5Xu112, au9Xu112, ap100Xu112, ap104Xu112, au112Xq.symm, au112Xu130.symm, au112Xp138.symm, lE, (fun x hx => by omega)⟩, ?_⟩
            rintro n148 σ148 H148 ⟨t, rfl, htN, u, g2L148, g3L148, g12L148, g13L148, g14L148, g15L148, g17L148, op1, op5, ou9, op100, op104, oq, ou130, op138, ou, nu, ap1Xu, ap5Xu, au9Xu, ap100Xu, ap104Xu, aqXu, au130Xu, ap138Xu, lE, hm0⟩
            have hvb := hvb0.le lE
            have hvs := hvs0.le lE
            have hvc := hvc0.le lE
            try simp only [g2L148, g3L148, g12L148, g13L148, g14L148, g15L148, g17L148]
            have hfi : fieldN 1 24 24 (shpS b s r c l t) := rnL_field hf0 t
            have hfn : fieldN 1 24 24 (nxL false b s 24 24 (shpS b s r c l t)) := nxL_field hs24
            have hln := hfn.2.1
            have tbn := trm24 (nxL false b s 24 24 (shpS b s r c l t))
            have tln := trl24 (nxL false b s 24 24 (shpS b s r c l t))
            refine ob_i (vInt_leq _ _ _) ?_
            refine cnd_d (fun hg149 => ?_) (fun hg149 => ?_)
            · skip
              have tt := hg149
              refine ob_i (op1.ldn rfl) ?_
              refine ob_i (oq.ldn rfl) ?_
              refine C.impl_Life_step hvb hvs ou.sl (by first | omega | assumption) (by first | omega | assumption) (by first | omega | assumption) (fun  u152 H150 ou152 nn153  le151 => ?_)
              have ap1Xu152 : Apart p1 u152 := op1.apart nn153
              have ap5Xu152 : Apart p5 u152 := op5.apart nn153
              have au9Xu152 : Apart u9 u152 := ou9.apart nn153
              have ap100Xu152 : Apart p100 u152 := op100.apart nn153
              have ap104Xu152 : Apart p104 u152 := op104.apart nn153
              have aqXu152 : Apart q u152 := oq.apart nn153
              have au130Xu152 : Apart u130 u152 := ou130.apart nn153
              have ap138Xu152 : Apart p138 u152 := op138.apart nn153
              have auXu152 : Apart u u152 := ou.apart nn153
              have nu152 : Nw H u152 := nn153.le lE
              replace op1 := op1.le le151
              replace op5 := op5.le le151
              replace ou9 := ou9.le le151
              replace op100 := op100.le le151
              replace op104 := op104.le le151
              replace oq := oq.le le151
              replace ou130 := ou130.le le151
              replace op138 := op138.le le151
              replace ou := ou.le le151
              replace hvb := hvb.le le151
              replace hvs := hvs.le le151
              replace hvc := hvc.le le151
              replace lE := lE.trans le151
              refine oq.stn (ws := [(.int .i64 (24)), (.int .i64 (24)), u152]) rfl rfl (oc1 rfl (oc1 rfl (oc1 ou152.one oc0))) (fun H154 oq off155 => ?_)
              replace op1 := op1.off off155 ap1Xq
              replace op5 := op5.off off155 ap5Xq
              replace ou9 := ou9.off off155 au9Xq
              replace op100 := op100.off off155 ap100Xq
              replace op104 := op104.off off155 ap104Xq
              replace ou130 := ou130.off off155 aqXu130.symm
              replace op138 := op138.off off155 aqXp138.symm
              replace ou := ou.off off155 aqXu.symm
              replace ou152 := ou152.off off155 aqXu152.symm
              replace hvb := hvb0.le (off155.le lE nq)
              replace hvs := hvs0.le (off155.le lE nq)
              replace hvc := hvc0.le (off155.le lE nq)
              replace lE := off155.le lE nq
              replace oq : Cel H154 q [(.int .i64 (24)), (.int .i64 (24)), u152] := oq
              refine ob_i (oq.ldn rfl) ?_
              refine C.impl_Field_onBorder ou152.sl (by first | omega | assumption) (by first | assumption | exact hl0 | exact hln) (fun   H156    le157 => ?_)
              replace op1 := op1.le le157
              replace op5 := op5.le le157
              replace ou9 := ou9.le le157
              replace op100 := op100.le le157
              replace op104 := op104.le le157
              replace oq := oq.le le157
              replace ou130 := ou130.le le157
              replace op138 := op138.le le157
              replace ou := ou.le le157
              replace ou152 := ou152.le le157
              replace hvb := hvb.le le157
              replace hvs := hvs.le le157
              replace hvc := hvc.le le157
              replace lE := lE.trans le157
              refine cnd_d (fun hg158 => ?_) (fun hg158 => ?_)
              · skip
                refine retK (K := K) (v' := (.tuple #[(.int .i64 (0)), (.int .i64 (0)), (.int .i64 (0)), (.bool false)])) rfl ?_
                skip
                have hok : ¬ (shpOk b s r c l st) := by exact shp_fail hg158 hm0 (by omega)
                exact keq (K := K) (by rw [show ((selI (shpOk b s r c l st) (shpF b s r c l st + 1)) : Int) = (0) from by first | exact selI_f hok | (rw [selI_t hok, hT.2.1]; done) | (rw [selI_t hok, hT.2.2]; rfl)]; rw [show ((selI (shpOk b s r c l st) ((trm 24 24 (shpT b s r c l st)).1 - (trm 24 24 (shp0 r c l)).1)) : Int) = (0) from by first | exact selI_f hok | (rw [selI_t hok, hT.2.1]; done) | (rw [selI_t hok, hT.2.2]; rfl)]; rw [show ((selI (shpOk b s r c l st) ((trm 24 24 (shpT b s r c l st)).2.2.1 - (trm 24 24 (shp0 r c l)).2.2.1)) : Int) = (0) from by first | exact selI_f hok | (rw [selI_t hok, hT.2.1]; done) | (rw [selI_t hok, hT.2.2]; rfl)]; rw [decide_eq_false (show ¬ (shpOk b s r c l st) from by exact hok)]) (hk   _    lE)
              · skip
                refine ob_i (oq.ldn rfl) ?_
                refine C.impl_Field_trimmed ou152.sl (by first | omega | assumption) (by first | assumption | exact hl0 | exact hln) (fun hc159  H160    le161 => ?_) (fun hc162 u165 H163 ou165 nn166  le164 => ?_)
                · skip
                  replace op1 := op1.le le161
                  replace op5 := op5.le le161
                  replace ou9 := ou9.le le161
                  replace op100 := op100.le le161
                  replace op104 := op104.le le161
                  replace oq := oq.le le161
                  replace ou130 := ou130.le le161
                  replace op138 := op138.le le161
                  replace ou := ou.le le161
                  replace ou152 := ou152.le le161
                  replace hvb := hvb.le le161
                  replace hvs := hvs.le le161
                  replace hvc := hvc.le le161
                  replace lE := lE.trans le161
                  refine ob_i (vExt_40 _ _ _ _) ?_
                  refine ob_i (vExt_41 _ _ _ _) ?_
                  refine ob_i (vExt_42 _ _ _ _) ?_
                  refine ob_i (vExt_43 _ _ _ _) ?_
                  refine nw_i (fun p167 H168 op167 nn169 le170 => ?_)
                  have ap1Xp167 : Apart p1 p167 := op1.apart nn169
                  have ap5Xp167 : Apart p5 p167 := op5.apart nn169
                  have au9Xp167 : Apart u9 p167 := ou9.apart nn169
                  have ap100Xp167 : Apart p100 p167 := op100.apart nn169
                  have ap104Xp167 : Apart p104 p167 := op104.apart nn169
                  have aqXp167 : Apart q p167 := oq.apart nn169
                  have au130Xp167 : Apart u130 p167 := ou130.apart nn169
                  have ap138Xp167 : Apart p138 p167 := op138.apart nn169
                  have auXp167 : Apart u p167 := ou.apart nn169
                  have au152Xp167 : Apart u152 p167 := ou152.apart nn169
                  have np167 : Nw H p167 := nn169.le lE
                  replace op1 := op1.le le170
                  replace op5 := op5.le le170
                  replace ou9 := ou9.le le170
                  replace op100 := op100.le le170
                  replace op104 := op104.le le170
                  replace oq := oq.le le170
                  replace ou130 := ou130.le le170
                  replace op138 := op138.le le170
                  replace ou := ou.le le170
                  replace ou152 := ou152.le le170
                  replace hvb := hvb.le le170
                  replace hvs := hvs.le le170
                  replace hvc := hvc.le le170
                  replace lE := lE.trans le170
                  replace op167 : Cel H168 p167 [(.int .i64 (0)), (.int .i64 (0)), (.slice none 0 0)] := op167
                  refine op167.stn (ws := [(.int .i64 (0)), (.int .i64 (0)), (.slice none 0 0)]) rfl rfl (oc1 rfl (oc1 rfl (oc1 rfl oc0))) (fun H171 op167 off172 => ?_)
                  replace op1 := op1.off off172 ap1Xp167
                  replace op5 := op5.off off172 ap5Xp167
                  replace ou9 := ou9.off off172 au9Xp167
                  replace op100 := op100.off off172 ap100Xp167
                  replace op104 := op104.off off172 ap104Xp167
                  replace oq := oq.off off172 aqXp167
                  replace ou130 := ou130.off off172 au130Xp167
                  replace op138 := op138.off off172 ap138Xp167
                  replace ou := ou.off off172 auXp167
                  replace ou152 := ou152.off off172 au152Xp167
                  replace hvb := hvb0.le (off172.le lE np167)
                  replace hvs := hvs0.le (off172.le lE np167)
                  replace hvc := hvc0.le (off172.le lE np167)
                  replace lE := off172.le lE np167
                  replace op167 : Cel H171 p167 [(.int .i64 (0)), (.int .i64 (0)), (.slice none 0 0)] := op167
                  refine gop_sf ?_
                  refine gop_sf ?_
                  refine gop_sf ?_
                  refine ob_i (vPick_f _ _) ?_
                  refine cnd_f1 ?_
                  refine ob_i (vInt_add (by omega) (by omega)) ?_
                  exact nxt (st.toNat - (t + 1)) (by omega) ⟨t + 1, rfl, by omega, u152, g2L148, g3L148, g12L148, g13L148, g14L148, g15L148, (congrArg (Value.int .i64) (by first | omega | rfl | (simp; done))), op1, op5, ou9, op100, op104, oq, ou130, op138, ou152, nu152, ap1Xu152, ap5Xu152, au9Xu152, ap100Xu152, ap104Xu152, aqXu152, au130Xu152, ap138Xu152, lE, (shp_next hg158 (fun h => by have h1 := h.1; have h2 := hc159; change (trm 24 24 (nxL false b s 24 24 (shpS b s r c l t))).2.1 < 0 at h2; change 0 ≤ (trm 24 24 (nxL false b s 24 24 (shpS b s r c l t))).2.1 at h1; omega) hm0)⟩
                · skip
                  have ap1Xu165 : Apart p1 u165 := op1.apart nn166
                  have ap5Xu165 : Apart p5 u165 := op5.apart nn166
                  have au9Xu165 : Apart u9 u165 := ou9.apart nn166
                  have ap100Xu165 : Apart p100 u165 := op100.apart nn166
                  have ap104Xu165 : Apart p104 u165 := op104.apart nn166
                  have aqXu165 : Apart q u165 := oq.apart nn166
                  have au130Xu165 : Apart u130 u165 := ou130.apart nn166
                  have ap138Xu165 : Apart p138 u165 := op138.apart nn166
                  have auXu165 : Apart u u165 := ou.apart nn166
                  have au152Xu165 : Apart u152 u165 := ou152.apart nn166
                  have nu165 : Nw H u165 := nn166.le lE
                  replace op1 := op1.le le164
                  replace op5 := op5.le le164
                  replace ou9 := ou9.le le164
                  replace op100 := op100.le le164
                  replace op104 := op104.le le164
                  replace oq := oq.le le164
                  replace ou130 := ou130.le le164
                  replace op138 := op138.le le164
                  replace ou := ou.le le164
                  replace ou152 := ou152.le le164
                  replace hvb := hvb.le le164
                  replace hvs := hvs.le le164
                  replace hvc := hvc.le le164
                  replace lE := lE.trans le164
                  refine ob_i (vExt_40 _ _ _ _) ?_
                  refine ob_i (vExt_41 _ _ _ _) ?_
                  refine ob_i (vExt_42 _ _ _ _) ?_
                  refine ob_i (vExt_43 _ _ _ _) ?_
                  refine nw_i (fun p173 H174 op173 nn175 le176 => ?_)
                  have ap1Xp173 : Apart p1 p173 := op1.apart nn175
                  have ap5Xp173 : Apart p5 p173 := op5.apart nn175
                  have au9Xp173 : Apart u9 p173 := ou9.apart nn175
                  have ap100Xp173 : Apart p100 p173 := op100.apart nn175
                  have ap104Xp173 : Apart p104 p173 := op104.apart nn175
                  have aqXp173 : Apart q p173 := oq.apart nn175
                  have au130Xp173 : Apart u130 p173 := ou130.apart nn175
                  have ap138Xp173 : Apart p138 p173 := op138.apart nn175
                  have auXp173 : Apart u p173 := ou.apart nn175
                  have au152Xp173 : Apart u152 p173 := ou152.apart nn175
                  have au165Xp173 : Apart u165 p173 := ou165.apart nn175
                  have np173 : Nw H p173 := nn175.le lE
                  replace op1 := op1.le le176
                  replace op5 := op5.le le176
                  replace ou9 := ou9.le le176
                  replace op100 := op100.le le176
                  replace op104 := op104.le le176
                  replace oq := oq.le le176
                  replace ou130 := ou130.le le176
                  replace op138 := op138.le le176
                  replace ou := ou.le le176
                  replace ou152 := ou152.le le176
                  replace ou165 := ou165.le le176
                  replace hvb := hvb.le le176
                  replace hvs := hvs.le le176
                  replace hvc := hvc.le le176
                  replace lE := lE.trans le176
                  replace op173 : Cel H174 p173 [(.int .i64 (0)), (.int .i64 (0)), (.slice none 0 0)] := op173
                  refine op173.stn (ws := [(.int .i64 (trR 24 24 (nxL false b s 24 24 (shpS b s r c l t)))), (.int .i64 (trC 24 24 (nxL false b s 24 24 (shpS b s r c l t)))), u165]) rfl rfl (oc1 rfl (oc1 rfl (oc1 ou165.one oc0))) (fun H177 op173 off178 => ?_)
                  replace op1 := op1.off off178 ap1Xp173
                  replace op5 := op5.off off178 ap5Xp173
                  replace ou9 := ou9.off off178 au9Xp173
                  replace op100 := op100.off off178 ap100Xp173
                  replace op104 := op104.off off178 ap104Xp173
                  replace oq := oq.off off178 aqXp173
                  replace ou130 := ou130.off off178 au130Xp173
                  replace op138 := op138.off off178 ap138Xp173
                  replace ou := ou.off off178 auXp173
                  replace ou152 := ou152.off off178 au152Xp173
                  replace ou165 := ou165.off off178 au165Xp173
                  replace hvb := hvb0.le (off178.le lE np173)
                  replace hvs := hvs0.le (off178.le lE np173)
                  replace hvc := hvc0.le (off178.le lE np173)
                  replace lE := off178.le lE np173
                  replace op173 : Cel H177 p173 [(.int .i64 (trR 24 24 (nxL false b s 24 24 (shpS b s r c l t)))), (.int .i64 (trC 24 24 (nxL false b s 24 24 (shpS b s r c l t)))), u165] := op173
                  refine gop_rt ?_
                  refine ob_i (op173.ldn rfl) ?_
                  refine gop_rt ?_
                  refine ob_i (op138.ldn rfl) ?_
                  refine gop_rt ?_
                  refine C.impl_SameField ou165.sl ou130.sl (by first | omega | assumption) (fun   H179    le180 => ?_)
                  replace op1 := op1.le le180
                  replace op5 := op5.le le180
                  replace ou9 := ou9.le le180
                  replace op100 := op100.le le180
                  replace op104 := op104.le le180
                  replace oq := oq.le le180
                  replace ou130 := ou130.le le180
                  replace op138 := op138.le le180
                  replace ou := ou.le le180
                  replace ou152 := ou152.le le180
                  replace ou165 := ou165.le le180
                  replace op173 := op173.le le180
                  replace hvb := hvb.le le180
                  replace hvs := hvs.le le180
                  replace hvc := hvc.le le180
                  replace lE := lE.trans le180
                  refine ob_i (vPick_t _ _) ?_
                  refine cnd_d (fun hg181 => ?_) (fun hg181 => ?_)
                  · skip
                    refine ob_i (vInt_sub (by omega) (by omega)) ?_
                    refine ob_i (vInt_sub (by omega) (by omega)) ?_
                    refine retK (K := K) (v' := (.tuple #[(.int .i64 ((t : Int) + 1)), (.int .i64 (((trm 24 24 (nxL false b s 24 24 (shpS b s r c l t))).1) - ((trm 24 24 (shp0 r c l)).1))), (.int .i64 (((trm 24 24 (nxL false b s 24 24 (shpS b s r c l t))).2.2.1) - ((trm 24 24 (shp0 r c l)).2.2.1))), (.bool true)])) rfl ?_
                    skip
                    have hT := shp_hit (b := b) (s := s) (r := r) (c := c) (l := l) (t := t) hc16 hc17 hc127 hg146 hg158 ⟨hc162, hg181.1, hg181.2.1, hg181.2.2⟩ hm0 (by omega)
                    have hok : shpOk b s r c l st := by exact hT.1
                    exact keq (K := K) (by rw [show ((selI (shpOk b s r c l st) (shpF b s r c l st + 1)) : Int) = ((t : Int) + 1) from by first | exact selI_f hok | (rw [selI_t hok, hT.2.1]; done) | (rw [selI_t hok, hT.2.2]; rfl)]; rw [show ((selI (shpOk b s r c l st) ((trm 24 24 (shpT b s r c l st)).1 - (trm 24 24 (shp0 r c l)).1)) : Int) = (((trm 24 24 (nxL false b s 24 24 (shpS b s r c l t))).1) - ((trm 24 24 (shp0 r c l)).1)) from by first | exact selI_f hok | (rw [selI_t hok, hT.2.1]; done) | (rw [selI_t hok, hT.2.2]; rfl)]; rw [show ((selI (shpOk b s r c l st) ((trm 24 24 (shpT b s r c l st)).2.2.1 - (trm 24 24 (shp0 r c l)).2.2.1)) : Int) = (((trm 24 24 (nxL false b s 24 24 (shpS b s r c l t))).2.2.1) - ((trm 24 24 (shp0 r c l)).2.2.1)) from by first | exact selI_f hok | (rw [selI_t hok, hT.2.1]; done) | (rw [selI_t hok, hT.2.2]; rfl)]; rw [decide_eq_true (show (shpOk b s r c l st) from by exact hok)]) (hk   _    lE)
                  · skip
                    refine ob_i (vInt_add (by omega) (by omega)) ?_
                    exact nxt (st.toNat - (t + 1)) (by omega) ⟨t + 1, rfl, by omega, u152, g2L148, g3L148, g12L148, g13L148, g14L148, g15L148, (congrArg (Value.int .i64) (by first | omega | rfl | (simp; done))), op1, op5, ou9, op100, op104, oq, ou130, op138, ou152, nu152, ap1Xu152, ap5Xu152, au9Xu152, ap100Xu152, ap104Xu152, aqXu152, au130Xu152, ap138Xu152, lE, (shp_next hg158 (fun h => hg181 ⟨h.2.1, h.2.2.1, h.2.2.2⟩) hm0)⟩
            · skip
              have tt := hg149
              exact hJ147 _ _ ⟨u, t, op1, op5, ou9, op100, op104, oq, ou130, op138, ou, nu, ap1Xu, ap5Xu, au9Xu, ap100Xu, ap104Xu, aqXu, au130Xu, ap138Xu, lE, (fun x hx => hm0 x (by omega))⟩
    · skip
      refine ob_i (vPick_f _ _) ?_
      refine cnd_t1 ?_
      skip
      have hok : ¬ (shpOk b s r c l st) := by exact fun h => hc17 h.2.1
      exact keq (K := K) (by rw [show ((selI (shpOk b s r c l st) (shpF b s r c l st + 1)) : Int) = (0) from by first | exact selI_f hok | (rw [selI_t hok, hT.2.1]; done) | (rw [selI_t hok, hT.2.2]; rfl)]; rw [show ((selI (shpOk b s r c l st) ((trm 24 24 (shpT b s r c l st)).1 - (trm 24 24 (shp0 r c l)).1)) : Int) = (0) from by first | exact selI_f hok | (rw [selI_t hok, hT.2.1]; done) | (rw [selI_t hok, hT.2.2]; rfl)]; rw [show ((selI (shpOk b s r c l st) ((trm 24 24 (shpT b s r c l st)).2.2.1 - (trm 24 24 (shp0 r c l)).2.2.1)) : Int) = (0) from by first | exact selI_f hok | (rw [selI_t hok, hT.2.1]; done) | (rw [selI_t hok, hT.2.2]; rfl)]; rw [decide_eq_false (show ¬ (shpOk b s r c l st) from by exact hok)]) (hk   _    lE)
  · skip
    refine gop_st ?_
    refine gop_st ?_
    refine gop_st ?_
    refine ob_i (vPick_t _ _) ?_
    refine cnd_t1 ?_
    skip
    have hok : ¬ (shpOk b s r c l st) := by exact fun h => hc16 h.1
    exact keq (K := K) (by rw [show ((selI (shpOk b s r c l st) (shpF b s r c l st + 1)) : Int) = (0) from by first | exact selI_f hok | (rw [selI_t hok, hT.2.1]; done) | (rw [selI_t hok, hT.2.2]; rfl)]; rw [show ((selI (shpOk b s r c l st) ((trm 24 24 (shpT b s r c l st)).1 - (trm 24 24 (shp0 r c l)).1)) : Int) = (0) from by first | exact selI_f hok | (rw [selI_t hok, hT.2.1]; done) | (rw [selI_t hok, hT.2.2]; rfl)]; rw [show ((selI (shpOk b s r c l st) ((trm 24 24 (shpT b s r c l st)).2.2.1 - (trm 24 24 (shp0 r c l)).2.2.1)) : Int) = (0) from by first | exact selI_f hok | (rw [selI_t hok, hT.2.1]; done) | (rw [selI_t hok, hT.2.2]; rfl)]; rw [decide_eq_false (show ¬ (shpOk b s r c l st) from by exact hok)]) (hk   _    lE)
end Go.Proofs.Ythbffbpdoankjaa
