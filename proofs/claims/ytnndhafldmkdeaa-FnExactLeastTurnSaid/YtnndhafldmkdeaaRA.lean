/- Rings that are turned: the program's and the reference's. -/
import Derived.Test.YtnndhafldmkdeaaRL
import Derived.Test.YtnndhafldmkdeaaTC
import Derived.Test.YtnndhafldmkdeaaSE
namespace Go.Proofs.Ytnndhafldmkdeaa
open HL
set_option maxRecDepth 100000
theorem all_take {l : List Int} {i : Nat} {p : Int → Prop} (h : ∀ x ∈ l.take i, p x) (hi : i < l.length) (hp : p (at_ 0 l (i : Int))) : ∀ x ∈ l.take (i + 1), p x := by
  rw [take_at 0 l hi]
  intro x hx
  rcases List.mem_append.mp hx with hx | hx
  · exact h x hx
  · simp only [List.mem_singleton] at hx; subst hx; exact hp
theorem C.spec_l02Ring {va : Value} {st : Int} {l : List Int}  {H : Hp} {K : Value → Hp → Prop} (hva0 : Sl eI H va l) (k1 : l.length ≤ 9223372036854775807) (s0 : 0 ≤ st) (s1 : st ≤ 100)
    (hk : ∀ H', Le H H' → K (.bool (decide (ringP st l))) H') : HT prg I.spec_l02Ring [va, (.int .i64 (st))].toArray H K := by
  have lE := Le.refl H
  have hva := hva0
  refine R.spec_l02Ring ?_
  unfold F.spec_l02Ring
  refine jn_i (fun σ' H' => σ' 0 = va ∧ Le H H' ∧ ∀ x ∈ l, 0 ≤ x ∧ x ≤ st - 1) (fun σ1 H1 hP => ?_) (fun J1 hJ1 => ?_)
  · skip
    obtain ⟨g0L1, lE, ho0⟩ := hP
    have hva := hva0.le lE
    try simp only [g0L1]
    refine ob_i (hva.len) ?_
    refine ob_i (vInt_geq _ _ _) ?_
    by_cases hc2 : 1 ≤ (((l).length : Int))
    · skip
      refine gop_e (decide_eq_true hc2) ?_
      refine gop_rt ?_
      refine gop_e (decide_eq_true hc2) ?_
      refine gop_rt ?_
      refine ob_i (hva.len) ?_
      refine gop_e (decide_eq_true hc2) ?_
      refine gop_rt ?_
      refine ob_i (vInt_leq _ _ _) ?_
      refine ob_i (vPick_et (decide_eq_true hc2) _ _) ?_
      skip
      exact keq (K := K) (by rw [show decide ((((l).length : Int)) ≤ 64) = decide (ringP st l) from decide_eq_decide.mpr (by exact ⟨fun h => ⟨ho0, by omega, h⟩, fun h => h.2.2⟩)]) (hk   _    lE)
    · skip
      refine gop_e (decide_eq_false hc2) ?_
      refine gop_sf ?_
      refine gop_e (decide_eq_false hc2) ?_
      refine gop_sf ?_
      refine gop_e (decide_eq_false hc2) ?_
      refine gop_sf ?_
      refine ob_i (vPick_ef (decide_eq_false hc2) _ _) ?_
      skip
      exact keq (K := K) (by rw [decide_eq_false (show ¬ (ringP st l) from by intro h; first | (have h1 := h.1 _ (at_mem 0 l (i := (i : Int)) (by omega) (by omega)); omega) | (have h2 := h.2; omega))]) (hk   _    lE)
  refine ⟨fun n' σ' H' => ∃ i : Nat, n' = l.length - i ∧ i ≤ l.length ∧ σ' 0 = va ∧ σ' 1 = (.int .i64 (st)) ∧ σ' 5 = (.int .i64 ((i : Int))) ∧ Le H H' ∧ ∀ x ∈ l.take i, 0 ≤ x ∧ x ≤ st - 1,
    ⟨_, 0, rfl, by omega, rfl, rfl, (congrArg (Value.int .i64) (by first | omega | rfl | (simp; done))), lE, (by simp)⟩, ?_⟩
  rintro n3 σ3 H3 ⟨i, rfl, hiN, g0L3, g1L3, g5L3, lE, hm0⟩
  have hva := hva0.le lE
  try simp only [g0L3, g1L3, g5L3]
  refine ob_i (hva.len) ?_
  refine ob_i (vInt_lss _ _ _) ?_
  refine cnd_d (fun hg4 => ?_) (fun hg4 => ?_)
  · skip
    have ti := hg4
    refine ob_i (hva.ix (by omega) (by omega)) ?_
    refine ob_i (hva.ld 0 (by omega) (by omega)) ?_
    refine ob_i (vInt_sub (by omega) (by omega)) ?_
    refine C.spec_l00In  ?_
    refine ob_nd (fun hc5 => ?_) (fun hc5 => ?_)
    · skip
      refine cnd_f1 ?_
      refine ob_i (vInt_add (by omega) (by omega)) ?_
      exact nxt (l.length - (i + 1)) (by omega) ⟨i + 1, rfl, by omega, g0L3, g1L3, (congrArg (Value.int .i64) (by first | omega | rfl | (simp; done))), lE, (all_take hm0 (by omega) (by assumption))⟩
    · skip
      refine cnd_t1 ?_
      refine retK (K := K) (v' := (.bool false)) rfl ?_
      skip
      exact keq (K := K) (by rw [decide_eq_false (show ¬ (ringP st l) from by intro h; first | (have h1 := h.1 _ (at_mem 0 l (i := (i : Int)) (by omega) (by omega)); omega) | (have h2 := h.2; omega))]) (hk   _    lE)
  · skip
    have ti := hg4
    exact hJ1 _ _ ⟨g0L3, lE, (by rw [List.take_of_length_le (by omega)] at hm0; exact hm0)⟩
theorem C.impl_areStates {st : Int}  {H : Hp} {K : Value → Hp → Prop}
    (hk : ∀ H', Le H H' → K (.bool (decide (st = 2 ∨ st = 3))) H') : HT prg I.impl_areStates [(.int .i64 (st))].toArray H K := by
  have lE := Le.refl H
  refine R.impl_areStates ?_
  unfold F.impl_areStates
  refine ob_i (vInt_eql _ _ _) ?_
  by_cases hc1 : st = 2
  · skip
    refine gop_e (decide_eq_true hc1) ?_
    refine gop_st ?_
    refine gop_e (decide_eq_true hc1) ?_
    refine gop_st ?_
    refine ob_i (vPick_et (decide_eq_true hc1) _ _) ?_
    skip
    exact keq (K := K) (by rw [decide_eq_true (show (st = 2 ∨ st = 3) from by omega)]) (hk   _    lE)
  · skip
    refine gop_e (decide_eq_false hc1) ?_
    refine gop_rf ?_
    refine gop_e (decide_eq_false hc1) ?_
    refine gop_rf ?_
    refine ob_i (vInt_eql _ _ _) ?_
    refine ob_i (vPick_ef (decide_eq_false hc1) _ _) ?_
    skip
    exact keq (K := K) (by rw [show decide (st = 3) = decide (st = 2 ∨ st = 3) from decide_eq_decide.mpr (by omega)]) (hk   _    lE)
theorem C.impl_IsRing {va : Value} {st : Int} {l : List Int}  {H : Hp} {K : Value → Hp → Prop} (hva0 : Sl eI H va l) (k1 : l.length ≤ 9223372036854775807)
    (hk : ∀ H', Le H H' → K (.bool (decide ((st = 2 ∨ st = 3) ∧ ringP st l))) H') : HT prg I.impl_IsRing [va, (.int .i64 (st))].toArray H K := by
  have lE := Le.refl H
  have hva := hva0
  refine R.impl_IsRing ?_
  unfold F.impl_IsRing
  refine C.impl_areStates  (fun   H1    le2 => ?_)
  replace hva := hva.le le2
  replace lE := lE.trans le2
  by_cases hc3 : st = 2 ∨ st = 3
  · skip
    refine gop_e (decide_eq_true hc3) ?_
    refine gop_rt ?_
    refine gop_e (decide_eq_true hc3) ?_
    refine gop_rt ?_
    refine gop_e (decide_eq_true hc3) ?_
    refine gop_rt ?_
    refine ob_i (vInt_sub (by omega) (by omega)) ?_
    refine gop_e (decide_eq_true hc3) ?_
    refine gop_rt ?_
    refine C.impl_areMany hva (by first | assumption | omega) ?_
    refine ob_i (vPick_et (decide_eq_true hc3) _ _) ?_
    skip
    exact keq (K := K) (by rw [show decide ((1 ≤ (l.length : Int) ∧ (l.length : Int) ≤ 64) ∧ ∀ x ∈ l, 0 ≤ x ∧ x ≤ (st - 1)) = decide ((st = 2 ∨ st = 3) ∧ ringP st l) from decide_eq_decide.mpr (by exact ⟨fun h => ⟨by assumption, h.2, h.1⟩, fun h => ⟨h.2.2, h.2.1⟩⟩)]) (hk   _    lE)
  · skip
    refine gop_e (decide_eq_false hc3) ?_
    refine gop_sf ?_
    refine gop_e (decide_eq_false hc3) ?_
    refine gop_sf ?_
    refine gop_e (decide_eq_false hc3) ?_
    refine gop_sf ?_
    refine gop_e (decide_eq_false hc3) ?_
    refine gop_sf ?_
    refine ob_i (vPick_ef (decide_eq_false hc3) _ _) ?_
    skip
    exact keq (K := K) (by rw [decide_eq_false (show ¬ ((st = 2 ∨ st = 3) ∧ ringP st l) from by exact fun h => absurd h.1 (by assumption))]) (hk   _    lE)
theorem C.spec_l02Turned {va : Value} {d : Int} {l : List Int}  {H : Hp} {K : Value → Hp → Prop} (hva0 : Sl eI H va l) (d0 : 0 ≤ d) (d1 : d ≤ 1000) (l0 : 0 < l.length) (l1 : l.length ≤ 1000)
    (hk : ∀ u1 H', Own eI H' u1 (turnL l d) → Nw H u1 → Le H H' → K u1 H') : HT prg I.spec_l02Turned [va, (.int .i64 (d))].toArray H K := by
  have lE := Le.refl H
  have hva := hva0
  refine R.spec_l02Turned ?_
  unfold F.spec_l02Turned
  refine bS_nil (enc := eI) (fun u1 H2 ou1 nn3 kk4 le5 => ?_)
  have nu1 : Nw H u1 := nn3.le lE
  replace hva := hva.le le5
  replace lE := lE.trans le5
  refine ob_i (hva.len) ?_
  refine jn_i (fun σ' H' => ∃ u, σ' 5 = u ∧ Own eI H' u (turnL l d) ∧ Nw H u ∧ Le H H') (fun σ6 H6 hP => ?_) (fun J6 hJ6 => ?_)
  · skip
    obtain ⟨u, g5L6, ou, nu, lE⟩ := hP
    have hva := hva0.le lE
    try simp only [g5L6]
    skip
    exact hk  u _ ou nu  lE
  refine ⟨fun n' σ' H' => ∃ i : Nat, n' = l.length - i ∧ i ≤ l.length ∧ ∃ u, σ' 0 = va ∧ σ' 1 = (.int .i64 (d)) ∧ σ' 5 = u ∧ σ' 6 = (.int .i64 (((l).length : Int))) ∧ σ' 7 = (.int .i64 ((i : Int))) ∧ Own eI H' u (turnF l d i) ∧ Nw H u ∧ Le H H',
    ⟨_, 0, rfl, by omega, u1, rfl, rfl, rfl, rfl, (congrArg (Value.int .i64) (by first | omega | rfl | (simp; done))), (Own.cast (by first | rfl | (simp; done)) ou1), nu1, lE⟩, ?_⟩
  rintro n7 σ7 H7 ⟨i, rfl, hiN, u, g0L7, g1L7, g5L7, g6L7, g7L7, ou, nu, lE⟩
  have hva := hva0.le lE
  try simp only [g0L7, g1L7, g5L7, g6L7, g7L7]
  have bl := turnF_len l d i
  have bm := Int.emod_nonneg ((i : Int) + d) (b := (l.length : Int)) (by omega)
  have bn := Int.emod_lt_of_pos ((i : Int) + d) (b := (l.length : Int)) (by omega)
  refine ob_i (vInt_lss _ _ _) ?_
  refine cnd_d (fun hg8 => ?_) (fun hg8 => ?_)
  · skip
    have ti := hg8
    refine ob_i (vInt_add (by omega) (by omega)) ?_
    refine ob_i (vInt_remN (by omega) (by omega)) ?_
    refine ob_i (hva.ix (by omega) (by omega)) ?_
    refine ob_i (hva.ld 0 (by omega) (by omega)) ?_
    refine bS_i (enc := eI) (l := [at_ 0 (l) (((i : Int) + d) % (((l).length : Int)))]) (by omega) rfl (by kernel_rfl) (fun u9 H10 ou9 nn11 le13 => ?_)
    have auXu9 : Apart u u9 := ou.apart nn11
    have nu9 : Nw H u9 := nn11.le lE
    replace ou := ou.le le13
    replace hva := hva.le le13
    replace lE := lE.trans le13
    refine apd_any ou ou9.sl (fun _ => rfl) (by omega) (by first | omega | (simp only [List.length_cons, List.length_nil, List.length_append, List.length_replicate, List.length_map, List.length_range]; omega)) (fun u17 H14 ou17 off15 hb16 => ?_)
    have au9Xu17 : Apart u9 u17 := Apart.ap2 ou9.known auXu9.symm hb16
    have nu17 : Nw H u17 := Nw.ap2 nu lE hb16
    replace ou9 := ou9.off off15 auXu9.symm
    replace hva := hva0.le (off15.le lE nu)
    replace lE := off15.le lE nu
    refine ob_i (vInt_add (by omega) (by omega)) ?_
    exact nxt (l.length - (i + 1)) (by omega) ⟨i + 1, rfl, by omega, u17, g0L7, g1L7, rfl, g6L7, (congrArg (Value.int .i64) (by first | omega | rfl | (simp; done))), (Own.cast (turnF_succ l d i) ou17), nu17, lE⟩
  · skip
    have ti := hg8
    rw [show i = l.length by omega] at ou
    exact hJ6 _ _ ⟨u, g5L7, ou, nu, lE⟩
theorem C.impl_turned {va : Value} {d : Int} {l : List Int}  {H : Hp} {K : Value → Hp → Prop} (hva0 : Sl eI H va l) (d0 : 0 ≤ d) (d1 : d ≤ 1000) (l0 : 0 < l.length) (l1 : l.length ≤ 1000)
    (hk : ∀ u1 H', Own eI H' u1 (turnL l d) → Nw H u1 → Le H H' → K u1 H') : HT prg I.impl_turned [va, (.int .i64 (d))].toArray H K := by
  have lE := Le.refl H
  have hva := hva0
  refine R.impl_turned ?_
  unfold F.impl_turned
  have bm := Int.emod_nonneg d (b := (l.length : Int)) (by omega)
  have bn := Int.emod_lt_of_pos d (b := (l.length : Int)) (by omega)
  refine ob_i (hva.len) ?_
  refine ob_i (vInt_remN (by omega) (by omega)) ?_
  obtain ⟨x1, eq2a, eq2b, eq2c, eq2d, hx10, hb3⟩ := hva0.cut (lo := d % (((l).length : Int))) (hi := ((l).length : Int)) (by omega) (by omega) (by omega)
  refine ob_i (eq2b rfl) ?_
  have hx1 := hx10.le lE
  obtain ⟨x4, eq5a, eq5b, eq5c, eq5d, hx40, hb6⟩ := hva0.cut (lo := (0 : Int)) (hi := d % (((l).length : Int))) (by omega) (by omega) (by omega)
  refine ob_i (eq5c rfl) ?_
  have hx4 := hx40.le lE
  refine bS_i (enc := id) (l := [x1, x4]) (by omega) rfl (by obtain ⟨_, _, _, rfl⟩ := hx1.isSl; obtain ⟨_, _, _, rfl⟩ := hx4.isSl; kernel_rfl) (fun u7 H8 ou7 nn9 le10 => ?_)
  have nu7 : Nw H u7 := nn9.le lE
  replace hva := hva.le le10
  replace hx1 := hx1.le le10
  replace hx4 := hx4.le le10
  replace lE := lE.trans le10
  refine C.Concat2 ou7.sl hx1 hx4 (by first | omega | (simp; omega)) (by first | omega | (simp; omega)) (fun u11 H12 ou11 nn13 le14 => ?_)
  have au7Xu11 : Apart u7 u11 := ou7.apart nn13
  have nu11 : Nw H u11 := nn13.le lE
  replace ou7 := ou7.le le14
  replace hva := hva.le le14
  replace hx1 := hx1.le le14
  replace hx4 := hx4.le le14
  replace lE := lE.trans le14
  refine ⟨le14, ?_⟩
  skip
  exact hk  u11 _ (Own.cast (show (((l).drop (d % (((l).length : Int))).toNat).take ((((l).length : Int)).toNat - (d % (((l).length : Int))).toNat)) ++ (((l).drop ((0 : Int)).toNat).take ((d % (((l).length : Int))).toNat - ((0 : Int)).toNat)) = turnL l d by exact turn_cut (by omega) (by omega)) ou11) nu11  lE
theorem C.spec_TurnRing {va : Value} {d : Int} {l : List Int}  {H : Hp} {K : Value → Hp → Prop} (hva0 : Sl eI H va l) (k1 : l.length ≤ 9223372036854775807)
    (hk : ∀ u1 H', Own eI H' u1 (selL (trnP l d) (turnL l d)) → Nw H u1 → Le H H' → K (.tuple #[u1, (.bool (decide (trnP l d)))]) H') : HT prg I.spec_TurnRing [va, (.int .i64 (d))].toArray H K := by
  have lE := Le.refl H
  have hva := hva0
  refine R.spec_TurnRing ?_
  unfold F.spec_TurnRing
  refine C.spec_l02Ring hva (by first | assumption | omega) (by first | assumption | omega) (by first | assumption | omega) (fun   H1    le2 => ?_)
  replace hva := hva.le le2
  replace lE := lE.trans le2
  refine ob_nd (fun hc3 => ?_) (fun hc3 => ?_)
  · skip
    have hr2 := hc3.2
    refine gop_rf ?_
    refine gop_rf ?_
    refine C.spec_l00In  ?_
    refine gop_rf ?_
    refine ob_nd (fun hc4 => ?_) (fun hc4 => ?_)
    · skip
      refine ob_i (vPick_f _ _) ?_
      refine cnd_f1 ?_
      refine C.spec_l02Turned hva (by first | assumption | omega) (by first | assumption | omega) (by first | assumption | omega) (by first | assumption | omega) (fun  u7 H5 ou7 nn8  le6 => ?_)
      have nu7 : Nw H u7 := nn8.le lE
      replace hva := hva.le le6
      replace lE := lE.trans le6
      skip
      have hok : trnP l d := by first | exact ⟨by assumption, by assumption⟩ | exact ⟨hr, by assumption⟩
      exact keq (K := K) (by rw [decide_eq_true (show (trnP l d) from by exact hok)]) (hk  u7 _ (Own.cast (show turnL l d = selL (trnP l d) (turnL l d) by exact (selL_t hok).symm) ou7) nu7  lE)
    · skip
      refine ob_i (vPick_f _ _) ?_
      refine cnd_t1 ?_
      skip
      have hok : ¬ (trnP l d) := by intro h; first | exact absurd h.1 (by assumption) | exact absurd h.2 (by assumption) | exact absurd (show ((3 : Int) = 2 ∨ (3 : Int) = 3) ∧ ringP 3 l from ⟨Or.inr rfl, h.1⟩) (by assumption)
      exact keq (K := K) (by rw [decide_eq_false (show ¬ (trnP l d) from by exact hok)]) (hk  (.slice none 0 0) _ (Own.cast (show [] = selL (trnP l d) (turnL l d) by exact (selL_f hok).symm) (Own.nil_of none)) (fun b hb => by simp [bk] at hb)  lE)
  · skip
    refine gop_st ?_
    refine gop_st ?_
    refine gop_st ?_
    refine ob_i (vPick_t _ _) ?_
    refine cnd_t1 ?_
    skip
    have hok : ¬ (trnP l d) := by intro h; first | exact absurd h.1 (by assumption) | exact absurd h.2 (by assumption) | exact absurd (show ((3 : Int) = 2 ∨ (3 : Int) = 3) ∧ ringP 3 l from ⟨Or.inr rfl, h.1⟩) (by assumption)
    exact keq (K := K) (by rw [decide_eq_false (show ¬ (trnP l d) from by exact hok)]) (hk  (.slice none 0 0) _ (Own.cast (show [] = selL (trnP l d) (turnL l d) by exact (selL_f hok).symm) (Own.nil_of none)) (fun b hb => by simp [bk] at hb)  lE)
theorem C.impl_TurnRing {va : Value} {d : Int} {l : List Int}  {H : Hp} {K : Value → Hp → Prop} (hva0 : Sl eI H va l) (k1 : l.length ≤ 9223372036854775807)
    (hk : ∀ u1 H', Own eI H' u1 (selL (trnP l d) (turnL l d)) → Nw H u1 → Le H H' → K (.tuple #[u1, (.bool (decide (trnP l d)))]) H') : HT prg I.impl_TurnRing [va, (.int .i64 (d))].toArray H K := by
  have lE := Le.refl H
  have hva := hva0
  refine R.impl_TurnRing ?_
  unfold F.impl_TurnRing
  refine C.impl_IsRing hva (by first | assumption | omega) (fun   H1    le2 => ?_)
  replace hva := hva.le le2
  replace lE := lE.trans le2
  refine ob_nd (fun hc3 => ?_) (fun hc3 => ?_)
  · skip
    have hr2 := hc3.2.2
    have hr := hc3.2
    refine gop_rf ?_
    refine gop_rf ?_
    refine C.impl_within  ?_
    refine gop_rf ?_
    refine ob_nd (fun hc4 => ?_) (fun hc4 => ?_)
    · skip
      refine ob_i (vPick_f _ _) ?_
      refine cnd_f1 ?_
      refine C.impl_turned hva (by first | assumption | omega) (by first | assumption | omega) (by first | assumption | omega) (by first | assumption | omega) (fun  u7 H5 ou7 nn8  le6 => ?_)
      have nu7 : Nw H u7 := nn8.le lE
      replace hva := hva.le le6
      replace lE := lE.trans le6
      skip
      have hok : trnP l d := by first | exact ⟨by assumption, by assumption⟩ | exact ⟨hr, by assumption⟩
      exact keq (K := K) (by rw [decide_eq_true (show (trnP l d) from by exact hok)]) (hk  u7 _ (Own.cast (show turnL l d = selL (trnP l d) (turnL l d) by exact (selL_t hok).symm) ou7) nu7  lE)
    · skip
      refine ob_i (vPick_f _ _) ?_
      refine cnd_t1 ?_
      skip
      have hok : ¬ (trnP l d) := by intro h; first | exact absurd h.1 (by assumption) | exact absurd h.2 (by assumption) | exact absurd (show ((3 : Int) = 2 ∨ (3 : Int) = 3) ∧ ringP 3 l from ⟨Or.inr rfl, h.1⟩) (by assumption)
      exact keq (K := K) (by rw [decide_eq_false (show ¬ (trnP l d) from by exact hok)]) (hk  (.slice none 0 0) _ (Own.cast (show [] = selL (trnP l d) (turnL l d) by exact (selL_f hok).symm) (Own.nil_of none)) (fun b hb => by simp [bk] at hb)  lE)
  · skip
    refine gop_st ?_
    refine gop_st ?_
    refine gop_st ?_
    refine ob_i (vPick_t _ _) ?_
    refine cnd_t1 ?_
    skip
    have hok : ¬ (trnP l d) := by intro h; first | exact absurd h.1 (by assumption) | exact absurd h.2 (by assumption) | exact absurd (show ((3 : Int) = 2 ∨ (3 : Int) = 3) ∧ ringP 3 l from ⟨Or.inr rfl, h.1⟩) (by assumption)
    exact keq (K := K) (by rw [decide_eq_false (show ¬ (trnP l d) from by exact hok)]) (hk  (.slice none 0 0) _ (Own.cast (show [] = selL (trnP l d) (turnL l d) by exact (selL_f hok).symm) (Own.nil_of none)) (fun b hb => by simp [bk] at hb)  lE)
theorem C.spec_l02Before {va vb : Value} {l : List Int} {m : List Int}  {H : Hp} {K : Value → Hp → Prop} (hva0 : Sl eI H va l) (hvb0 : Sl eI H vb m) (k1 : l.length ≤ 9223372036854775807) (e1 : m.length = l.length)
    (hk : ∀ H', Le H H' → K (.bool (lexL l m)) H') : HT prg I.spec_l02Before [va, vb].toArray H K := by
  have lE := Le.refl H
  have hva := hva0
  have hvb := hvb0
  refine R.spec_l02Before ?_
  unfold F.spec_l02Before
  refine jn_i (fun σ' H' => Le H H' ∧ l.take l.length = m.take l.length) (fun σ1 H1 hP => ?_) (fun J1 hJ1 => ?_)
  · skip
    obtain ⟨lE, ho0⟩ := hP
    have hva := hva0.le lE
    have hvb := hvb0.le lE
    skip
    exact keq (K := K) (by rw [show (lexL l m) = (false) from by rw [take_all_eq (a := l) (b := m) (Nat.le_refl _) (by omega) ho0, lexL_self]]) (hk   _    lE)
  refine ⟨fun n' σ' H' => ∃ i : Nat, n' = l.length - i ∧ i ≤ l.length ∧ σ' 0 = va ∧ σ' 1 = vb ∧ σ' 5 = (.int .i64 ((i : Int))) ∧ Le H H' ∧ l.take i = m.take i,
    ⟨_, 0, rfl, by omega, rfl, rfl, (congrArg (Value.int .i64) (by first | omega | rfl | (simp; done))), lE, (by simp)⟩, ?_⟩
  rintro n2 σ2 H2 ⟨i, rfl, hiN, g0L2, g1L2, g5L2, lE, hm0⟩
  have hva := hva0.le lE
  have hvb := hvb0.le lE
  try simp only [g0L2, g1L2, g5L2]
  refine ob_i (hva.len) ?_
  refine ob_i (vInt_lss _ _ _) ?_
  refine cnd_d (fun hg3 => ?_) (fun hg3 => ?_)
  · skip
    have ti := hg3
    refine ob_i (hva.ix (by omega) (by omega)) ?_
    refine ob_i (hva.ld 0 (by omega) (by omega)) ?_
    refine ob_i (hvb.ix (by omega) (by omega)) ?_
    refine ob_i (hvb.ld 0 (by omega) (by omega)) ?_
    refine ob_i (vInt_neq _ _ _) ?_
    refine cnd_d (fun hg4 => ?_) (fun hg4 => ?_)
    · skip
      refine ob_i (hva.ix (by omega) (by omega)) ?_
      refine ob_i (hva.ld 0 (by omega) (by omega)) ?_
      refine ob_i (hvb.ix (by omega) (by omega)) ?_
      refine ob_i (hvb.ld 0 (by omega) (by omega)) ?_
      refine ob_i (vInt_lss _ _ _) ?_
      refine retK (K := K) (v' := (.bool (decide ((at_ 0 (l) ((i : Int))) < (at_ 0 (m) ((i : Int))))))) rfl ?_
      skip
      exact keq (K := K) (by rw [show (lexL l m) = (decide ((at_ 0 (l) ((i : Int))) < (at_ 0 (m) ((i : Int))))) from by exact lexL_at (by omega) (by omega) hm0 hg4]) (hk   _    lE)
    · skip
      refine ob_i (vInt_add (by omega) (by omega)) ?_
      exact nxt (l.length - (i + 1)) (by omega) ⟨i + 1, rfl, by omega, g0L2, g1L2, (congrArg (Value.int .i64) (by first | omega | rfl | (simp; done))), lE, (take_succ_eq (by omega) (by omega) hm0 (Decidable.not_not.mp hg4))⟩
  · skip
    have ti := hg3
    exact hJ1 _ _ ⟨lE, (by rw [show l.length = i by omega]; exact hm0)⟩
theorem C.cmp_isNaN_int64 {x : Int}  {H : Hp} {K : Value → Hp → Prop}
    (hk : K (.bool (decide (x ≠ x))) H) : HT prg I.cmp_isNaN_int64 [(.int .i64 (x))].toArray H K := by
  have lE := Le.refl H
  refine R.cmp_isNaN_int64 ?_
  unfold F.cmp_isNaN_int64
  refine ob_i (vInt_neq _ _ _) ?_
  skip
  exact hk 
theorem C.cmp_Compare_int64 {x y : Int}  {H : Hp} {K : Value → Hp → Prop}
    (hk : K (.int .i64 (cmp1 x y)) H) : HT prg I.cmp_Compare_int64 [(.int .i64 (x)), (.int .i64 (y))].toArray H K := by
  have lE := Le.refl H
  refine R.cmp_Compare_int64 ?_
  unfold F.cmp_Compare_int64
  refine C.cmp_isNaN_int64  ?_
  refine C.cmp_isNaN_int64  ?_
  refine cnd_d (fun hg1 => ?_) (fun hg1 => ?_)
  · skip
    exact absurd hg1 (by simp)
  · skip
    refine cnd_d (fun hg2 => ?_) (fun hg2 => ?_)
    · skip
      exact absurd hg2 (by simp)
    · skip
      refine ob_i (vInt_lss _ _ _) ?_
      refine cnd_d (fun hg3 => ?_) (fun hg3 => ?_)
      · skip
        skip
        exact keq (K := K) (by rw [show ((cmp1 x y) : Int) = ((-1)) from by unfold cmp1; first | rw [if_pos (by assumption)] | (rw [if_neg (by assumption)]; first | rw [if_pos (by assumption)] | rw [if_neg (by assumption)])]) (hk )
      · skip
        refine ob_i (vInt_gtr _ _ _) ?_
        refine cnd_d (fun hg4 => ?_) (fun hg4 => ?_)
        · skip
          skip
          exact keq (K := K) (by rw [show ((cmp1 x y) : Int) = (1) from by unfold cmp1; first | rw [if_pos (by assumption)] | (rw [if_neg (by assumption)]; first | rw [if_pos (by assumption)] | rw [if_neg (by assumption)])]) (hk )
        · skip
          skip
          exact keq (K := K) (by rw [show ((cmp1 x y) : Int) = (0) from by unfold cmp1; first | rw [if_pos (by assumption)] | (rw [if_neg (by assumption)]; first | rw [if_pos (by assumption)] | rw [if_neg (by assumption)])]) (hk )
theorem C.slices_Compare_int64Zint64 {va vb : Value} {l : List Int} {m : List Int}  {H : Hp} {K : Value → Hp → Prop} (hva0 : Sl eI H va l) (hvb0 : Sl eI H vb m) (k1 : l.length ≤ 9223372036854775807) (e1 : m.length = l.length)
    (hk : ∀ H', Le H H' → K (.int .i64 (cmpL l m)) H') : HT prg I.slices_Compare_int64Zint64 [va, vb].toArray H K := by
  have lE := Le.refl H
  have hva := hva0
  have hvb := hvb0
  refine R.slices_Compare_int64Zint64 ?_
  unfold F.slices_Compare_int64Zint64
  refine jn_i (fun σ' H' => σ' 0 = va ∧ σ' 1 = vb ∧ Le H H' ∧ l.take l.length = m.take l.length) (fun σ1 H1 hP => ?_) (fun J1 hJ1 => ?_)
  · skip
    obtain ⟨g0L1, g1L1, lE, ho0⟩ := hP
    have hva := hva0.le lE
    have hvb := hvb0.le lE
    try simp only [g0L1, g1L1]
    refine ob_i (hva.len) ?_
    refine ob_i (hvb.len) ?_
    refine ob_i (vInt_lss _ _ _) ?_
    refine cnd_d (fun hg2 => ?_) (fun hg2 => ?_)
    · skip
      exact absurd hg2 (by omega)
    · skip
      skip
      exact keq (K := K) (by rw [show ((cmpL l m) : Int) = (0) from by unfold cmpL; rw [if_pos (take_all_eq (Nat.le_refl _) (by omega) ho0)]]) (hk   _    lE)
  refine ob_i (hva.len) ?_
  refine ⟨fun n' σ' H' => ∃ i : Nat, n' = l.length - i ∧ i ≤ l.length ∧ σ' 0 = va ∧ σ' 1 = vb ∧ σ' 9 = va ∧ σ' 10 = (.int .i64 (((l).length : Int))) ∧ σ' 11 = (.int .i64 ((i : Int))) ∧ Le H H' ∧ l.take i = m.take i,
    ⟨_, 0, rfl, by omega, rfl, rfl, rfl, rfl, (congrArg (Value.int .i64) (by first | omega | rfl | (simp; done))), lE, (by simp)⟩, ?_⟩
  rintro n3 σ3 H3 ⟨i, rfl, hiN, g0L3, g1L3, g9L3, g10L3, g11L3, lE, hm0⟩
  have hva := hva0.le lE
  have hvb := hvb0.le lE
  try simp only [g1L3, g9L3, g10L3, g11L3]
  refine ob_i (vInt_lss _ _ _) ?_
  refine cnd_d (fun hg4 => ?_) (fun hg4 => ?_)
  · skip
    have ti := hg4
    refine ob_i (hva.ix (by omega) (by omega)) ?_
    refine ob_i (hva.ld 0 (by omega) (by omega)) ?_
    refine ob_i (hvb.len) ?_
    refine ob_i (vInt_geq _ _ _) ?_
    refine cnd_d (fun hg5 => ?_) (fun hg5 => ?_)
    · skip
      exact absurd hg5 (by omega)
    · skip
      refine ob_i (hvb.ix (by omega) (by omega)) ?_
      refine ob_i (hvb.ld 0 (by omega) (by omega)) ?_
      refine C.cmp_Compare_int64  ?_
      refine ob_i (vInt_neq _ _ _) ?_
      refine cnd_d (fun hg6 => ?_) (fun hg6 => ?_)
      · skip
        refine retK (K := K) (v' := (.int .i64 (cmp1 (at_ 0 (l) ((i : Int))) (at_ 0 (m) ((i : Int)))))) rfl ?_
        skip
        exact keq (K := K) (by rw [show ((cmp1 (at_ 0 (l) ((i : Int))) (at_ 0 (m) ((i : Int)))) : Int) = (cmpL l m) from by exact cmpL_at (by omega) (by omega) hm0 (cmp1_ne hg6)]) (hk   _    lE)
      · skip
        refine ob_i (vInt_add (by omega) (by omega)) ?_
        exact nxt (l.length - (i + 1)) (by omega) ⟨i + 1, rfl, by omega, g0L3, g1L3, g9L3, g10L3, (congrArg (Value.int .i64) (by first | omega | rfl | (simp; done))), lE, (take_succ_eq (by omega) (by omega) hm0 (cmp1_eq hg6))⟩
  · skip
    have ti := hg4
    exact hJ1 _ _ ⟨g0L3, g1L3, lE, (by rw [show l.length = i by omega]; exact hm0)⟩
theorem C.spec_LeastTurn {va : Value} {l : List Int}  {H : Hp} {K : Value → Hp → Prop} (hva0 : Sl eI H va l) (k1 : l.length ≤ 9223372036854775807)
    (hk : ∀ u1 H', Own eI H' u1 (selL (ringP 3 l) (bstL l l.length)) → Nw H u1 → Le H H' → K (.tuple #[u1, (.bool (decide (ringP 3 l)))]) H') : HT prg I.spec_LeastTurn [va].toArray H K := by
  have lE := Le.refl H
  have hva := hva0
  refine R.spec_LeastTurn ?_
  unfold F.spec_LeastTurn
  refine C.spec_l02Ring hva (by first | assumption | omega) (by first | assumption | omega) (by first | assumption | omega) (fun   H1    le2 => ?_)
  replace hva := hva.le le2
  replace lE := lE.trans le2
  refine ob_nd (fun hc3 => ?_) (fun hc3 => ?_)
  · skip
    have hr2 := hc3.2
    refine cnd_f1 ?_
    refine bS_nil (enc := eI) (fun u4 H5 ou4 nn6 kk7 le8 => ?_)
    have nu4 : Nw H u4 := nn6.le lE
    replace hva := hva.le le8
    replace lE := lE.trans le8
    refine apd_nil ou4 kk7 hva (fun _ => rfl) (by omega) (by omega) (fun u12 H9 ou12 nn13 le14 => ?_)
    have au4Xu12 : Apart u4 u12 := ou4.apart nn13
    have nu12 : Nw H u12 := nn13.le lE
    replace ou4 := ou4.le le14
    replace hva := hva.le le14
    replace lE := lE.trans le14
    refine jn_i (fun σ' H' => ∃ u, σ' 4 = u ∧ Own eI H' u4 ([]) ∧ Own eI H' u (bstL l l.length) ∧ Nw H u ∧ Apart u4 u ∧ Le H H') (fun σ15 H15 hP => ?_) (fun J15 hJ15 => ?_)
    · skip
      obtain ⟨u, g4L15, ou4, ou, nu, au4Xu, lE⟩ := hP
      have hva := hva0.le lE
      try simp only [g4L15]
      skip
      have hok : ringP 3 l := by first | assumption | exact ⟨by assumption, by assumption⟩ | exact ⟨by assumption, by omega⟩
      exact keq (K := K) (by rw [decide_eq_true (show (ringP 3 l) from by exact hok)]) (hk  u _ (Own.cast (show bstL l l.length = selL (ringP 3 l) (bstL l l.length) by exact (selL_t hok).symm) ou) nu  lE)
    refine ⟨fun n' σ' H' => ∃ i : Nat, n' = l.length - 1 - i ∧ i ≤ l.length - 1 ∧ ∃ u, σ' 0 = va ∧ σ' 4 = u ∧ σ' 5 = (.int .i64 ((i : Int) + 1)) ∧ Own eI H' u4 ([]) ∧ Own eI H' u (bstL l (i + 1)) ∧ Nw H u ∧ Apart u4 u ∧ Le H H',
      ⟨_, 0, rfl, by omega, u12, rfl, rfl, (congrArg (Value.int .i64) (by first | omega | rfl | (simp; done))), ou4, (Own.cast (by exact (bstL_one l).symm) ou12), nu12, au4Xu12, lE⟩, ?_⟩
    rintro n16 σ16 H16 ⟨i, rfl, hiN, u, g0L16, g4L16, g5L16, ou4, ou, nu, au4Xu, lE⟩
    have hva := hva0.le lE
    try simp only [g0L16, g4L16, g5L16]
    have bl := bstL_len l (i + 1)
    have bt := turnL_len l ((i : Int) + 1)
    refine ob_i (hva.len) ?_
    refine ob_i (vInt_lss _ _ _) ?_
    refine cnd_d (fun hg17 => ?_) (fun hg17 => ?_)
    · skip
      have ti := hg17
      refine C.spec_l02Turned hva (by first | assumption | omega) (by first | assumption | omega) (by first | assumption | omega) (by first | assumption | omega) (fun  u20 H18 ou20 nn21  le19 => ?_)
      have au4Xu20 : Apart u4 u20 := ou4.apart nn21
      have auXu20 : Apart u u20 := ou.apart nn21
      have nu20 : Nw H u20 := nn21.le lE
      replace ou4 := ou4.le le19
      replace ou := ou.le le19
      replace hva := hva.le le19
      replace lE := lE.trans le19
      refine C.spec_l02Before ou20.sl ou.sl (by first | assumption | omega) (by first | assumption | omega) (fun   H22    le23 => ?_)
      replace ou4 := ou4.le le23
      replace ou := ou.le le23
      replace ou20 := ou20.le le23
      replace hva := hva.le le23
      replace lE := lE.trans le23
      refine cnd_i (fun hg24 => ?_) (fun hg24 => ?_)
      · skip
        refine ob_i (vInt_add (by omega) (by omega)) ?_
        exact nxt (l.length - 1 - (i + 1)) (by omega) ⟨i + 1, rfl, by omega, u20, g0L16, rfl, (congrArg (Value.int .i64) (by first | omega | rfl | (simp; done))), ou4, (Own.cast (bstL_t hg24) ou20), nu20, au4Xu20, lE⟩
      · skip
        refine ob_i (vInt_add (by omega) (by omega)) ?_
        exact nxt (l.length - 1 - (i + 1)) (by omega) ⟨i + 1, rfl, by omega, u, g0L16, g4L16, (congrArg (Value.int .i64) (by first | omega | rfl | (simp; done))), ou4, (Own.cast (bstL_f (fun hh => Bool.noConfusion (hg24.symm.trans hh))) ou), nu, au4Xu, lE⟩
    · skip
      have ti := hg17
      rw [show i + 1 = l.length by omega] at ou
      exact hJ15 _ _ ⟨u, g4L16, ou4, ou, nu, au4Xu, lE⟩
  · skip
    refine cnd_t1 ?_
    skip
    have hok : ¬ (ringP 3 l) := by assumption
    exact keq (K := K) (by rw [decide_eq_false (show ¬ (ringP 3 l) from by exact hok)]) (hk  (.slice none 0 0) _ (Own.cast (show [] = selL (ringP 3 l) (bstL l l.length) by exact (selL_f hok).symm) (Own.nil_of none)) (fun b hb => by simp [bk] at hb)  lE)
theorem C.impl_LeastTurn {va : Value} {l : List Int}  {H : Hp} {K : Value → Hp → Prop} (hva0 : Sl eI H va l) (k1 : l.length ≤ 9223372036854775807)
    (hk : ∀ u1 H', Own eI H' u1 (selL (ringP 3 l) (bstL l l.length)) → Nw H u1 → Le H H' → K (.tuple #[u1, (.bool (decide (ringP 3 l)))]) H') : HT prg I.impl_LeastTurn [va].toArray H K := by
  have lE := Le.refl H
  have hva := hva0
  refine R.impl_LeastTurn ?_
  unfold F.impl_LeastTurn
  refine C.impl_IsRing hva (by first | assumption | omega) (fun   H1    le2 => ?_)
  replace hva := hva.le le2
  replace lE := lE.trans le2
  refine ob_nd (fun hc3 => ?_) (fun hc3 => ?_)
  · skip
    have hr2 := hc3.2.2
    have hr := hc3.2
    refine cnd_f1 ?_
    refine C.slices_Clone_int64Zint64 hva (by first | assumption | omega) (fun  u6 H4 ou6 nn7  le5 => ?_)
    have nu6 : Nw H u6 := nn7.le lE
    replace hva := hva.le le5
    replace lE := lE.trans le5
    refine jn_i (fun σ' H' => ∃ u, σ' 4 = u ∧ Own eI H' u (bstL l l.length) ∧ Nw H u ∧ Le H H') (fun σ8 H8 hP => ?_) (fun J8 hJ8 => ?_)
    · skip
      obtain ⟨u, g4L8, ou, nu, lE⟩ := hP
      have hva := hva0.le lE
      try simp only [g4L8]
      skip
      have hok : ringP 3 l := by assumption
      exact keq (K := K) (by rw [decide_eq_true (show (ringP 3 l) from by exact hok)]) (hk  u _ (Own.cast (show bstL l l.length = selL (ringP 3 l) (bstL l l.length) by exact (selL_t hok).symm) ou) nu  lE)
    refine ob_i (hva.len) ?_
    refine ⟨fun n' σ' H' => ∃ i : Nat, n' = l.length - i ∧ i ≤ l.length ∧ ∃ u, σ' 0 = va ∧ σ' 4 = u ∧ σ' 13 = (.int .i64 (((l).length : Int))) ∧ σ' 14 = (.int .i64 ((i : Int))) ∧ Own eI H' u (bstL l i) ∧ Nw H u ∧ Le H H',
      ⟨_, 0, rfl, by omega, u6, rfl, rfl, rfl, (congrArg (Value.int .i64) (by first | omega | rfl | (simp; done))), (Own.cast (by first | rfl | (simp; done)) ou6), nu6, lE⟩, ?_⟩
    rintro n9 σ9 H9 ⟨i, rfl, hiN, u, g0L9, g4L9, g13L9, g14L9, ou, nu, lE⟩
    have hva := hva0.le lE
    try simp only [g0L9, g4L9, g13L9, g14L9]
    have bl := bstL_len l i
    have bt := turnL_len l (i : Int)
    refine ob_i (vInt_lss _ _ _) ?_
    refine cnd_d (fun hg10 => ?_) (fun hg10 => ?_)
    · skip
      have ti := hg10
      refine C.impl_turned hva (by first | assumption | omega) (by first | assumption | omega) (by first | assumption | omega) (by first | assumption | omega) (fun  u13 H11 ou13 nn14  le12 => ?_)
      have auXu13 : Apart u u13 := ou.apart nn14
      have nu13 : Nw H u13 := nn14.le lE
      replace ou := ou.le le12
      replace hva := hva.le le12
      replace lE := lE.trans le12
      refine C.slices_Compare_int64Zint64 ou13.sl ou.sl (by first | assumption | omega) (by first | assumption | omega) (fun   H15    le16 => ?_)
      replace ou := ou.le le16
      replace ou13 := ou13.le le16
      replace hva := hva.le le16
      replace lE := lE.trans le16
      refine ob_i (vInt_lss _ _ _) ?_
      refine cnd_d (fun hg17 => ?_) (fun hg17 => ?_)
      · skip
        refine ob_i (vInt_add (by omega) (by omega)) ?_
        exact nxt (l.length - (i + 1)) (by omega) ⟨i + 1, rfl, by omega, u13, g0L9, rfl, g13L9, (congrArg (Value.int .i64) (by first | omega | rfl | (simp; done))), (Own.cast (bstL_t (cmpL_lt.mp hg17)) ou13), nu13, lE⟩
      · skip
        refine ob_i (vInt_add (by omega) (by omega)) ?_
        exact nxt (l.length - (i + 1)) (by omega) ⟨i + 1, rfl, by omega, u, g0L9, g4L9, g13L9, (congrArg (Value.int .i64) (by first | omega | rfl | (simp; done))), (Own.cast (bstL_f (fun h => hg17 (cmpL_lt.mpr h))) ou), nu, lE⟩
    · skip
      have ti := hg10
      rw [show i = l.length by omega] at ou
      exact hJ8 _ _ ⟨u, g4L9, ou, nu, lE⟩
  · skip
    refine cnd_t1 ?_
    skip
    have hok : ¬ (ringP 3 l) := by exact fun h => absurd (show ((3 : Int) = 2 ∨ (3 : Int) = 3) ∧ ringP 3 l from ⟨Or.inr rfl, h⟩) (by assumption)
    exact keq (K := K) (by rw [decide_eq_false (show ¬ (ringP 3 l) from by exact hok)]) (hk  (.slice none 0 0) _ (Own.cast (show [] = selL (ringP 3 l) (bstL l l.length) by exact (selL_f hok).symm) (Own.nil_of none)) (fun b hb => by simp [bk] at hb)  lE)
end Go.Proofs.Ytnndhafldmkdeaa
