/- Rules on rings: tables, digits, steps. -/
import Derived.Test.YtelcmohhjkgjoaaRH
import Derived.Test.YtelcmohhjkgjoaaKI
namespace Go.Proofs.Ytelcmohhjkgjoaa
open HL
set_option maxRecDepth 100000
theorem all_take {l : List Int} {i : Nat} {p : Int → Prop} (h : ∀ x ∈ l.take i, p x) (hi : i < l.length) (hp : p (at_ 0 l (i : Int))) : ∀ x ∈ l.take (i + 1), p x := by
  rw [take_at 0 l hi]
  intro x hx
  rcases List.mem_append.mp hx with hx | hx
  · exact h x hx
  · simp only [List.mem_singleton] at hx; subst hx; exact hp
theorem mul3_bnd {a b : Int} (h : 0 ≤ a) (b0 : 1 ≤ b) (b1 : b ≤ 3) : 0 ≤ a * b ∧ a * b ≤ 3 * a := by
  refine ⟨Int.mul_nonneg h (by omega), ?_⟩
  have := Int.mul_le_mul_of_nonneg_left b1 h
  omega
theorem stp_set {st rc : Int} {T l : List Int} {i : Nat} (h : i < l.length) : (stpF st rc T l i ++ List.replicate (l.length - i) (0 : Int)).set (i : Int).toNat (tdN st rc T l (i : Int)) = stpF st rc T l (i + 1) ++ List.replicate (l.length - (i + 1)) 0 := by
  rw [Int.toNat_natCast, List.set_append_right _ _ (by rw [stpF_len]; omega), ← stpF_succ, List.append_assoc]
  congr 1
  rw [show i - (stpF st rc T l i).length = 0 by rw [stpF_len]; omega, show l.length - i = (l.length - (i + 1)) + 1 by omega, List.replicate_succ]; rfl
theorem C.spec_l02Ring {va : Value} {st : Int} {l : List Int}  {H : Hp} {K : Value → Hp → Prop} (hva0 : Sl eI H va l) (k1 : l.length ≤ 9223372036854775807) (s0 : 0 ≤ st) (s1 : st ≤ 100)
    (hk : ∀ H', Le H H' → K (.bool (decide (ringP st l))) H') : HT prg I.spec_l02Ring [va, (.int .i64 (st))].toArray H K := by
  have lE := Le.refl H
  have hva := hva0
  refine R.spec_l02Ring ?_
  unfold F.spec_l02Ring
  refine jn_i (fun σ' H' => σ' 0 = va ∧ Le H H' ∧ ∀ x ∈ l, 0 ≤ x ∧ x ≤ st - 1) (fun σ1 H1 hP => ?_) (fun J1 hJ1 => ?_)
  · skip
    obtain ⟨g0L1, lE, ho0⟩ := hP
    have hva := hva0.le lE
    try simp only [g0L1]
    refine ob_i (hva.len) ?_
    refine ob_i (vInt_geq _ _ _) ?_
    by_cases hc2 : 1 ≤ (((l).length : Int))
    · skip
      refine gop_e (decide_eq_true hc2) ?_
      refine gop_rt ?_
      refine gop_e (decide_eq_true hc2) ?_
      refine gop_rt ?_
      refine ob_i (hva.len) ?_
      refine gop_e (decide_eq_true hc2) ?_
      refine gop_rt ?_
      refine ob_i (vInt_leq _ _ _) ?_
      refine ob_i (vPick_et (decide_eq_true hc2) _ _) ?_
      skip
      exact keq (K := K) (by rw [show decide ((((l).length : Int)) ≤ 64) = decide (ringP st l) from decide_eq_decide.mpr (by exact ⟨fun h => ⟨ho0, by omega, h⟩, fun h => h.2.2⟩)]) (hk   _    lE)
    · skip
      refine gop_e (decide_eq_false hc2) ?_
      refine gop_sf ?_
      refine gop_e (decide_eq_false hc2) ?_
      refine gop_sf ?_
      refine gop_e (decide_eq_false hc2) ?_
      refine gop_sf ?_
      refine ob_i (vPick_ef (decide_eq_false hc2) _ _) ?_
      skip
      exact keq (K := K) (by rw [decide_eq_false (show ¬ (ringP st l) from by intro h; first | (have h1 := h.1 _ (at_mem 0 l (i := (i : Int)) (by omega) (by omega)); omega) | (have h2 := h.2; omega))]) (hk   _    lE)
  refine ⟨fun n' σ' H' => ∃ i : Nat, n' = l.length - i ∧ i ≤ l.length ∧ σ' 0 = va ∧ σ' 1 = (.int .i64 (st)) ∧ σ' 5 = (.int .i64 ((i : Int))) ∧ Le H H' ∧ ∀ x ∈ l.take i, 0 ≤ x ∧ x ≤ st - 1,
    ⟨_, 0, rfl, by omega, rfl, rfl, (congrArg (Value.int .i64) (by first | omega | rfl | (simp; done))), lE, (by simp)⟩, ?_⟩
  rintro n3 σ3 H3 ⟨i, rfl, hiN, g0L3, g1L3, g5L3, lE, hm0⟩
  have hva := hva0.le lE
  try simp only [g0L3, g1L3, g5L3]
  refine ob_i (hva.len) ?_
  refine ob_i (vInt_lss _ _ _) ?_
  refine cnd_d (fun hg4 => ?_) (fun hg4 => ?_)
  · skip
    have ti := hg4
    refine ob_i (hva.ix (by omega) (by omega)) ?_
    refine ob_i (hva.ld 0 (by omega) (by omega)) ?_
    refine ob_i (vInt_sub (by omega) (by omega)) ?_
    refine C.spec_l00In  ?_
    refine ob_nd (fun hc5 => ?_) (fun hc5 => ?_)
    · skip
      refine cnd_f1 ?_
      refine ob_i (vInt_add (by omega) (by omega)) ?_
      exact nxt (l.length - (i + 1)) (by omega) ⟨i + 1, rfl, by omega, g0L3, g1L3, (congrArg (Value.int .i64) (by first | omega | rfl | (simp; done))), lE, (all_take hm0 (by omega) (by assumption))⟩
    · skip
      refine cnd_t1 ?_
      refine retK (K := K) (v' := (.bool false)) rfl ?_
      skip
      exact keq (K := K) (by rw [decide_eq_false (show ¬ (ringP st l) from by intro h; first | (have h1 := h.1 _ (at_mem 0 l (i := (i : Int)) (by omega) (by omega)); omega) | (have h2 := h.2; omega))]) (hk   _    lE)
  · skip
    have ti := hg4
    exact hJ1 _ _ ⟨g0L3, lE, (by rw [List.take_of_length_le (by omega)] at hm0; exact hm0)⟩
theorem C.impl_areStates {st : Int}  {H : Hp} {K : Value → Hp → Prop}
    (hk : ∀ H', Le H H' → K (.bool (decide (st = 2 ∨ st = 3))) H') : HT prg I.impl_areStates [(.int .i64 (st))].toArray H K := by
  have lE := Le.refl H
  refine R.impl_areStates ?_
  unfold F.impl_areStates
  refine ob_i (vInt_eql _ _ _) ?_
  by_cases hc1 : st = 2
  · skip
    refine gop_e (decide_eq_true hc1) ?_
    refine gop_st ?_
    refine gop_e (decide_eq_true hc1) ?_
    refine gop_st ?_
    refine ob_i (vPick_et (decide_eq_true hc1) _ _) ?_
    skip
    exact keq (K := K) (by rw [decide_eq_true (show (st = 2 ∨ st = 3) from by omega)]) (hk   _    lE)
  · skip
    refine gop_e (decide_eq_false hc1) ?_
    refine gop_rf ?_
    refine gop_e (decide_eq_false hc1) ?_
    refine gop_rf ?_
    refine ob_i (vInt_eql _ _ _) ?_
    refine ob_i (vPick_ef (decide_eq_false hc1) _ _) ?_
    skip
    exact keq (K := K) (by rw [show decide (st = 3) = decide (st = 2 ∨ st = 3) from decide_eq_decide.mpr (by omega)]) (hk   _    lE)
theorem C.impl_IsRing {va : Value} {st : Int} {l : List Int}  {H : Hp} {K : Value → Hp → Prop} (hva0 : Sl eI H va l) (k1 : l.length ≤ 9223372036854775807)
    (hk : ∀ H', Le H H' → K (.bool (decide ((st = 2 ∨ st = 3) ∧ ringP st l))) H') : HT prg I.impl_IsRing [va, (.int .i64 (st))].toArray H K := by
  have lE := Le.refl H
  have hva := hva0
  refine R.impl_IsRing ?_
  unfold F.impl_IsRing
  refine C.impl_areStates  (fun   H1    le2 => ?_)
  replace hva := hva.le le2
  replace lE := lE.trans le2
  by_cases hc3 : st = 2 ∨ st = 3
  · skip
    refine gop_e (decide_eq_true hc3) ?_
    refine gop_rt ?_
    refine gop_e (decide_eq_true hc3) ?_
    refine gop_rt ?_
    refine gop_e (decide_eq_true hc3) ?_
    refine gop_rt ?_
    refine ob_i (vInt_sub (by omega) (by omega)) ?_
    refine gop_e (decide_eq_true hc3) ?_
    refine gop_rt ?_
    refine C.impl_areMany hva (by first | omega | assumption) ?_
    refine ob_i (vPick_et (decide_eq_true hc3) _ _) ?_
    skip
    exact keq (K := K) (by rw [show decide ((1 ≤ (l.length : Int) ∧ (l.length : Int) ≤ 64) ∧ ∀ x ∈ l, 0 ≤ x ∧ x ≤ (st - 1)) = decide ((st = 2 ∨ st = 3) ∧ ringP st l) from decide_eq_decide.mpr (by exact ⟨fun h => ⟨by assumption, h.2, h.1⟩, fun h => ⟨h.2.2, h.2.1⟩⟩)]) (hk   _    lE)
  · skip
    refine gop_e (decide_eq_false hc3) ?_
    refine gop_sf ?_
    refine gop_e (decide_eq_false hc3) ?_
    refine gop_sf ?_
    refine gop_e (decide_eq_false hc3) ?_
    refine gop_sf ?_
    refine gop_e (decide_eq_false hc3) ?_
    refine gop_sf ?_
    refine ob_i (vPick_ef (decide_eq_false hc3) _ _) ?_
    skip
    exact keq (K := K) (by rw [decide_eq_false (show ¬ ((st = 2 ∨ st = 3) ∧ ringP st l) from by exact fun h => absurd h.1 (by assumption))]) (hk   _    lE)
theorem C.spec_l02Turned {va : Value} {d : Int} {l : List Int}  {H : Hp} {K : Value → Hp → Prop} (hva0 : Sl eI H va l) (d0 : 0 ≤ d) (d1 : d ≤ 1000) (l0 : 0 < l.length) (l1 : l.length ≤ 1000)
    (hk : ∀ u1 H', Own eI H' u1 (turnL l d) → Nw H u1 → Le H H' → K u1 H') : HT prg I.spec_l02Turned [va, (.int .i64 (d))].toArray H K := by
  have lE := Le.refl H
  have hva := hva0
  refine R.spec_l02Turned ?_
  unfold F.spec_l02Turned
  refine bS_nil (enc := eI) (fun u1 H2 ou1 nn3 kk4 le5 => ?_)
  have nu1 : Nw H u1 := nn3.le lE
  replace hva := hva.le le5
  replace lE := lE.trans le5
  refine ob_i (hva.len) ?_
  refine jn_i (fun σ' H' => ∃ u, σ' 5 = u ∧ Own eI H' u (turnL l d) ∧ Nw H u ∧ Le H H') (fun σ6 H6 hP => ?_) (fun J6 hJ6 => ?_)
  · skip
    obtain ⟨u, g5L6, ou, nu, lE⟩ := hP
    have hva := hva0.le lE
    try simp only [g5L6]
    skip
    exact hk  u _ ou nu  lE
  refine ⟨fun n' σ' H' => ∃ i : Nat, n' = l.length - i ∧ i ≤ l.length ∧ ∃ u, σ' 0 = va ∧ σ' 1 = (.int .i64 (d)) ∧ σ' 5 = u ∧ σ' 6 = (.int .i64 (((l).length : Int))) ∧ σ' 7 = (.int .i64 ((i : Int))) ∧ Own eI H' u (turnF l d i) ∧ Nw H u ∧ Le H H',
    ⟨_, 0, rfl, by omega, u1, rfl, rfl, rfl, rfl, (congrArg (Value.int .i64) (by first | omega | rfl | (simp; done))), (Own.cast (by first | rfl | (simp; done)) ou1), nu1, lE⟩, ?_⟩
  rintro n7 σ7 H7 ⟨i, rfl, hiN, u, g0L7, g1L7, g5L7, g6L7, g7L7, ou, nu, lE⟩
  have hva := hva0.le lE
  try simp only [g0L7, g1L7, g5L7, g6L7, g7L7]
  have bl := turnF_len l d i
  have bm := Int.emod_nonneg ((i : Int) + d) (b := (l.length : Int)) (by omega)
  have bn := Int.emod_lt_of_pos ((i : Int) + d) (b := (l.length : Int)) (by omega)
  refine ob_i (vInt_lss _ _ _) ?_
  refine cnd_d (fun hg8 => ?_) (fun hg8 => ?_)
  · skip
    have ti := hg8
    refine ob_i (vInt_add (by omega) (by omega)) ?_
    have rm9 := And.intro (Int.emod_nonneg ((i : Int) + d) (b := ((l).length : Int)) (by omega)) (Int.emod_lt_of_pos ((i : Int) + d) (b := ((l).length : Int)) (by omega))
    refine ob_i (vInt_remN (by omega) (by omega)) ?_
    refine ob_i (hva.ix (by omega) (by omega)) ?_
    refine ob_i (hva.ld 0 (by omega) (by omega)) ?_
    refine bS_i (enc := eI) (l := [at_ 0 (l) (((i : Int) + d) % (((l).length : Int)))]) (by omega) rfl (by kernel_rfl) (fun u10 H11 ou10 nn12 le14 => ?_)
    have auXu10 : Apart u u10 := ou.apart nn12
    have nu10 : Nw H u10 := nn12.le lE
    replace ou := ou.le le14
    replace hva := hva.le le14
    replace lE := lE.trans le14
    refine apd_any ou ou10.sl (fun _ => rfl) (by omega) (by first | omega | (simp only [List.length_cons, List.length_nil, List.length_append, List.length_replicate, List.length_map, List.length_range]; omega)) (fun u18 H15 ou18 off16 hb17 => ?_)
    have au10Xu18 : Apart u10 u18 := Apart.ap2 ou10.known auXu10.symm hb17
    have nu18 : Nw H u18 := Nw.ap2 nu lE hb17
    replace ou10 := ou10.off off16 auXu10.symm
    replace hva := hva0.le (off16.le lE nu)
    replace lE := off16.le lE nu
    refine ob_i (vInt_add (by omega) (by omega)) ?_
    exact nxt (l.length - (i + 1)) (by omega) ⟨i + 1, rfl, by omega, u18, g0L7, g1L7, rfl, g6L7, (congrArg (Value.int .i64) (by first | omega | rfl | (simp; done))), (Own.cast (turnF_succ l d i) ou18), nu18, lE⟩
  · skip
    have ti := hg8
    rw [show i = l.length by omega] at ou
    exact hJ6 _ _ ⟨u, g5L7, ou, nu, lE⟩
theorem C.impl_turned {va : Value} {d : Int} {l : List Int}  {H : Hp} {K : Value → Hp → Prop} (hva0 : Sl eI H va l) (d0 : 0 ≤ d) (d1 : d ≤ 1000) (l0 : 0 < l.length) (l1 : l.length ≤ 1000)
    (hk : ∀ u1 H', Own eI H' u1 (turnL l d) → Nw H u1 → Le H H' → K u1 H') : HT prg I.impl_turned [va, (.int .i64 (d))].toArray H K := by
  have lE := Le.refl H
  have hva := hva0
  refine R.impl_turned ?_
  unfold F.impl_turned
  have bm := Int.emod_nonneg d (b := (l.length : Int)) (by omega)
  have bn := Int.emod_lt_of_pos d (b := (l.length : Int)) (by omega)
  refine ob_i (hva.len) ?_
  have rm1 := And.intro (Int.emod_nonneg (d) (b := ((l).length : Int)) (by omega)) (Int.emod_lt_of_pos (d) (b := ((l).length : Int)) (by omega))
  refine ob_i (vInt_remN (by omega) (by omega)) ?_
  obtain ⟨x2, eq3a, eq3b, eq3c, eq3d, hx20, hb4⟩ := hva0.cut (lo := d % (((l).length : Int))) (hi := ((l).length : Int)) (by omega) (by omega) (by omega)
  refine ob_i (eq3b rfl) ?_
  have hx2 := hx20.le lE
  obtain ⟨x5, eq6a, eq6b, eq6c, eq6d, hx50, hb7⟩ := hva0.cut (lo := (0 : Int)) (hi := d % (((l).length : Int))) (by omega) (by omega) (by omega)
  refine ob_i (eq6c rfl) ?_
  have hx5 := hx50.le lE
  refine bS_i (enc := id) (l := [x2, x5]) (by omega) rfl (by obtain ⟨_, _, _, rfl⟩ := hx2.isSl; obtain ⟨_, _, _, rfl⟩ := hx5.isSl; kernel_rfl) (fun u8 H9 ou8 nn10 le11 => ?_)
  have nu8 : Nw H u8 := nn10.le lE
  replace hva := hva.le le11
  replace hx2 := hx2.le le11
  replace hx5 := hx5.le le11
  replace lE := lE.trans le11
  refine C.Concat2 ou8.sl hx2 hx5 (by first | omega | (simp; omega)) (by first | omega | (simp; omega)) (fun u12 H13 ou12 nn14 le15 => ?_)
  have au8Xu12 : Apart u8 u12 := ou8.apart nn14
  have nu12 : Nw H u12 := nn14.le lE
  replace ou8 := ou8.le le15
  replace hva := hva.le le15
  replace hx2 := hx2.le le15
  replace hx5 := hx5.le le15
  replace lE := lE.trans le15
  refine ⟨le15, ?_⟩
  skip
  exact hk  u12 _ (Own.cast (show (((l).drop (d % (((l).length : Int))).toNat).take ((((l).length : Int)).toNat - (d % (((l).length : Int))).toNat)) ++ (((l).drop ((0 : Int)).toNat).take ((d % (((l).length : Int))).toNat - ((0 : Int)).toNat)) = turnL l d by exact turn_cut (by omega) (by omega)) ou12) nu12  lE
theorem C.spec_l02Powers {b n : Int}  {H : Hp} {K : Value → Hp → Prop} (b0 : 1 ≤ b) (b1 : b ≤ 3) (n0 : 0 ≤ n) (n1 : n ≤ 16)
    (hk : ∀ H', Le H H' → K (.int .i64 (pwr b n)) H') : HT prg I.spec_l02Powers [(.int .i64 (b)), (.int .i64 (n))].toArray H K := by
  have lE := Le.refl H
  refine R.spec_l02Powers ?_
  unfold F.spec_l02Powers
  refine jn_i (fun σ' H' => σ' 5 = (.int .i64 (pwr b n)) ∧ Le H H') (fun σ1 H1 hP => ?_) (fun J1 hJ1 => ?_)
  · skip
    obtain ⟨g5L1, lE⟩ := hP
    try simp only [g5L1]
    skip
    exact hk   _    lE
  refine ⟨fun n' σ' H' => ∃ i : Nat, n' = n.toNat - i ∧ i ≤ n.toNat ∧ σ' 0 = (.int .i64 (b)) ∧ σ' 1 = (.int .i64 (n - (i : Int))) ∧ σ' 5 = (.int .i64 (b ^ i)) ∧ Le H H',
    ⟨_, 0, rfl, by omega, rfl, (congrArg (Value.int .i64) (by first | omega | rfl | (simp; done))), (congrArg (Value.int .i64) (Int.pow_zero b).symm), lE⟩, ?_⟩
  rintro n2 σ2 H2 ⟨i, rfl, hiN, g0L2, g1L2, g5L2, lE⟩
  try simp only [g0L2, g1L2, g5L2]
  have p1 := pow_le16 b0 b1 (i := i) (by omega)
  refine ob_i (vInt_gtr _ _ _) ?_
  refine cnd_d (fun hg3 => ?_) (fun hg3 => ?_)
  · skip
    have ti := hg3
    have p2 := pow_le16 b0 b1 (i := i + 1) (by omega)
    rw [Int.pow_succ] at p2
    refine ob_i (vInt_mul (by omega) (by omega)) ?_
    refine ob_i (vInt_sub (by omega) (by omega)) ?_
    exact nxt (n.toNat - (i + 1)) (by omega) ⟨i + 1, rfl, by omega, g0L2, (congrArg (Value.int .i64) (by first | omega | rfl | (simp; done))), (congrArg (Value.int .i64) (Int.pow_succ b i).symm), lE⟩
  · skip
    have ti := hg3
    obtain rfl : i = n.toNat := by omega
    exact hJ1 _ _ ⟨(g5L2.trans (congrArg (Value.int .i64) (by first | omega | rfl | (simp; done)))), lE⟩
theorem C.spec_l03Power {b n : Int}  {H : Hp} {K : Value → Hp → Prop} (b0 : 1 ≤ b) (b1 : b ≤ 3) (n0 : 0 ≤ n) (n1 : n ≤ 16)
    (hk : ∀ H', Le H H' → K (.int .i64 (pwr b n)) H') : HT prg I.spec_l03Power [(.int .i64 (b)), (.int .i64 (n))].toArray H K := by
  have lE := Le.refl H
  refine R.spec_l03Power ?_
  unfold F.spec_l03Power
  refine jn_i (fun σ' H' => σ' 5 = (.int .i64 (pwr b n)) ∧ Le H H') (fun σ1 H1 hP => ?_) (fun J1 hJ1 => ?_)
  · skip
    obtain ⟨g5L1, lE⟩ := hP
    try simp only [g5L1]
    skip
    exact hk   _    lE
  refine ⟨fun n' σ' H' => ∃ i : Nat, n' = n.toNat - i ∧ i ≤ n.toNat ∧ σ' 0 = (.int .i64 (b)) ∧ σ' 1 = (.int .i64 (n - (i : Int))) ∧ σ' 5 = (.int .i64 (b ^ i)) ∧ Le H H',
    ⟨_, 0, rfl, by omega, rfl, (congrArg (Value.int .i64) (by first | omega | rfl | (simp; done))), (congrArg (Value.int .i64) (Int.pow_zero b).symm), lE⟩, ?_⟩
  rintro n2 σ2 H2 ⟨i, rfl, hiN, g0L2, g1L2, g5L2, lE⟩
  try simp only [g0L2, g1L2, g5L2]
  have p1 := pow_le16 b0 b1 (i := i) (by omega)
  refine ob_i (vInt_gtr _ _ _) ?_
  refine cnd_d (fun hg3 => ?_) (fun hg3 => ?_)
  · skip
    have ti := hg3
    have p2 := pow_le16 b0 b1 (i := i + 1) (by omega)
    rw [Int.pow_succ] at p2
    refine ob_i (vInt_mul (by omega) (by omega)) ?_
    refine ob_i (vInt_sub (by omega) (by omega)) ?_
    exact nxt (n.toNat - (i + 1)) (by omega) ⟨i + 1, rfl, by omega, g0L2, (congrArg (Value.int .i64) (by first | omega | rfl | (simp; done))), (congrArg (Value.int .i64) (Int.pow_succ b i).symm), lE⟩
  · skip
    have ti := hg3
    obtain rfl : i = n.toNat := by omega
    exact hJ1 _ _ ⟨(g5L2.trans (congrArg (Value.int .i64) (by first | omega | rfl | (simp; done)))), lE⟩
theorem C.impl_raised {b n : Int}  {H : Hp} {K : Value → Hp → Prop} (b0 : 1 ≤ b) (b1 : b ≤ 3) (n0 : 0 ≤ n) (n1 : n ≤ 16)
    (hk : ∀ H', Le H H' → K (.int .i64 (pwr b n)) H') : HT prg I.impl_raised [(.int .i64 (b)), (.int .i64 (n))].toArray H K := by
  have lE := Le.refl H
  refine R.impl_raised ?_
  unfold F.impl_raised
  refine jn_i (fun σ' H' => σ' 5 = (.int .i64 (pwr b n)) ∧ Le H H') (fun σ1 H1 hP => ?_) (fun J1 hJ1 => ?_)
  · skip
    obtain ⟨g5L1, lE⟩ := hP
    try simp only [g5L1]
    skip
    exact hk   _    lE
  refine ⟨fun n' σ' H' => ∃ i : Nat, n' = n.toNat - i ∧ i ≤ n.toNat ∧ σ' 0 = (.int .i64 (b)) ∧ σ' 5 = (.int .i64 (b ^ i)) ∧ σ' 6 = (.int .i64 (n)) ∧ σ' 7 = (.int .i64 ((i : Int))) ∧ Le H H',
    ⟨_, 0, rfl, by omega, rfl, (congrArg (Value.int .i64) (Int.pow_zero b).symm), rfl, (congrArg (Value.int .i64) (by first | omega | rfl | (simp; done))), lE⟩, ?_⟩
  rintro n2 σ2 H2 ⟨i, rfl, hiN, g0L2, g5L2, g6L2, g7L2, lE⟩
  try simp only [g0L2, g5L2, g6L2, g7L2]
  have p1 := pow_le16 b0 b1 (i := i) (by omega)
  refine ob_i (vInt_lss _ _ _) ?_
  refine cnd_d (fun hg3 => ?_) (fun hg3 => ?_)
  · skip
    have ti := hg3
    have p2 := pow_le16 b0 b1 (i := i + 1) (by omega)
    rw [Int.pow_succ] at p2
    refine ob_i (vInt_mul (by omega) (by omega)) ?_
    refine ob_i (vInt_add (by omega) (by omega)) ?_
    exact nxt (n.toNat - (i + 1)) (by omega) ⟨i + 1, rfl, by omega, g0L2, (congrArg (Value.int .i64) (Int.pow_succ b i).symm), g6L2, (congrArg (Value.int .i64) (by first | omega | rfl | (simp; done))), lE⟩
  · skip
    have ti := hg3
    obtain rfl : i = n.toNat := by omega
    exact hJ1 _ _ ⟨(g5L2.trans (congrArg (Value.int .i64) (by first | omega | rfl | (simp; done)))), lE⟩
theorem C.impl_Rule_cells {vt : Value} {st rc : Int} {T : List Int}  {H : Hp} {K : Value → Hp → Prop} (hvt0 : Sl eI H vt T) (c0 : -1000000 ≤ rc) (c1 : rc ≤ 1000000)
    (hk : ∀ H', Le H H' → K (.int .i64 (2 * rc + 1)) H') : HT prg I.impl_Rule_cells [(.agg #[(.int .i64 (st)), (.int .i64 (rc)), vt])].toArray H K := by
  have lE := Le.refl H
  have hvt := hvt0
  refine R.impl_Rule_cells ?_
  unfold F.impl_Rule_cells
  refine nw_i (fun p1 H2 op1 nn3 le4 => ?_)
  have np1 : Nw H p1 := nn3.le lE
  replace hvt := hvt.le le4
  replace lE := lE.trans le4
  replace op1 : Cel H2 p1 [(.int .i64 (st)), (.int .i64 (rc)), vt] := op1
  refine ob_i (op1.fa 1) ?_
  refine ob_i (op1.ld 1 rfl) ?_
  refine ob_i (vInt_mul (by omega) (by omega)) ?_
  refine ob_i (vInt_add (by omega) (by omega)) ?_
  skip
  exact keq (K := K) (by rw [show (((2 * rc) + 1) : Int) = (2 * rc + 1) from by omega]) (hk   _    lE)
theorem C.spec_l03Wide {p vt : Value} {st rc : Int} {T : List Int}  {H : Hp} {K : Value → Hp → Prop} (hp0 : Cel H p [(.int .i64 (st)), (.int .i64 (rc)), vt]) (hvt0 : Sl eI H vt T) (c0 : -1000000 ≤ rc) (c1 : rc ≤ 1000000)
    (hk : K (.int .i64 (2 * rc + 1)) H) : HT prg I.spec_l03Wide [p].toArray H K := by
  have lE := Le.refl H
  have hp := hp0
  have hvt := hvt0
  refine R.spec_l03Wide ?_
  unfold F.spec_l03Wide
  refine ob_i (hp.nilC) ?_
  refine ob_i (hp.fa 1) ?_
  refine ob_i (hp.ld 1 rfl) ?_
  refine ob_i (vInt_mul (by omega) (by omega)) ?_
  refine ob_i (vInt_add (by omega) (by omega)) ?_
  skip
  exact keq (K := K) (by rw [show (((2 * rc) + 1) : Int) = (2 * rc + 1) from by omega]) (hk )
theorem C.impl_isReach {rc : Int}  {H : Hp} {K : Value → Hp → Prop}
    (hk : ∀ H', Le H H' → K (.bool (decide (0 ≤ rc ∧ rc ≤ 2))) H') : HT prg I.impl_isReach [(.int .i64 (rc))].toArray H K := by
  have lE := Le.refl H
  refine R.impl_isReach ?_
  unfold F.impl_isReach
  refine C.impl_within  ?_
  skip
  exact hk   _    lE
theorem C.impl_ValidRule {vt : Value} {st rc : Int} {T : List Int}  {H : Hp} {K : Value → Hp → Prop} (hvt0 : Sl eI H vt T) (k1 : T.length ≤ 9223372036854775807)
    (hk : ∀ H', Le H H' → K (.bool (decide (ruleP st rc T))) H') : HT prg I.impl_ValidRule [(.agg #[(.int .i64 (st)), (.int .i64 (rc)), vt])].toArray H K := by
  have lE := Le.refl H
  have hvt := hvt0
  refine R.impl_ValidRule ?_
  unfold F.impl_ValidRule
  refine nw_i (fun p1 H2 op1 nn3 le4 => ?_)
  have np1 : Nw H p1 := nn3.le lE
  replace hvt := hvt.le le4
  replace lE := lE.trans le4
  replace op1 : Cel H2 p1 [(.int .i64 (st)), (.int .i64 (rc)), vt] := op1
  refine ob_i (op1.fa 0) ?_
  refine ob_i (op1.ld 0 rfl) ?_
  refine C.impl_areStates  (fun   H5    le6 => ?_)
  replace op1 := op1.le le6
  replace hvt := hvt.le le6
  replace lE := lE.trans le6
  refine ob_nd (fun hc7 => ?_) (fun hc7 => ?_)
  · skip
    refine gop_rf ?_
    refine ob_i (op1.fa 1) ?_
    refine gop_rf ?_
    refine ob_i (op1.ld 1 rfl) ?_
    refine gop_rf ?_
    refine C.impl_isReach  (fun   H8    le9 => ?_)
    replace op1 := op1.le le9
    replace hvt := hvt.le le9
    replace lE := lE.trans le9
    refine gop_rf ?_
    refine ob_nd (fun hc10 => ?_) (fun hc10 => ?_)
    · skip
      have pb := pwr_bnd (b := st) (n := 2 * rc + 1) (by omega) (by omega) (by omega)
      refine ob_i (vPick_f _ _) ?_
      refine cnd_f1 ?_
      refine ob_i (op1.fa 0) ?_
      refine ob_i (op1.ld 0 rfl) ?_
      refine ob_i (op1.ldn rfl) ?_
      refine C.impl_Rule_cells hvt (by first | omega | assumption) (by first | omega | assumption) (fun   H11    le12 => ?_)
      replace op1 := op1.le le12
      replace hvt := hvt.le le12
      replace lE := lE.trans le12
      refine ⟨le12, ?_⟩
      refine C.impl_raised (by first | omega | assumption) (by first | omega | assumption) (by first | omega | assumption) (by first | omega | assumption) (fun   H13    le14 => ?_)
      replace op1 := op1.le le14
      replace hvt := hvt.le le14
      replace lE := lE.trans le14
      refine ⟨le14, ?_⟩
      refine ob_i (op1.fa 2) ?_
      refine ob_i (op1.ld 2 rfl) ?_
      refine ob_i (op1.fa 0) ?_
      refine ob_i (op1.ld 0 rfl) ?_
      refine ob_i (vInt_sub (by omega) (by omega)) ?_
      refine C.impl_areMany hvt (by first | omega | assumption) ?_
      skip
      exact keq (K := K) (by rw [show decide (((pwr st (2 * rc + 1)) ≤ (T.length : Int) ∧ (T.length : Int) ≤ (pwr st (2 * rc + 1))) ∧ ∀ x ∈ T, 0 ≤ x ∧ x ≤ (st - 1)) = decide (ruleP st rc T) from decide_eq_decide.mpr (by exact ⟨fun h => ⟨by assumption, by assumption, by omega, h.2⟩, fun h => ⟨by have := h.2.2.1; omega, h.2.2.2⟩⟩)]) (hk   _    lE)
    · skip
      refine ob_i (vPick_f _ _) ?_
      refine cnd_t1 ?_
      skip
      exact keq (K := K) (by rw [decide_eq_false (show ¬ (ruleP st rc T) from by intro h; have h1 := h.1; have h2 := h.2.1; first | contradiction | omega)]) (hk   _    lE)
  · skip
    refine gop_st ?_
    refine gop_st ?_
    refine gop_st ?_
    refine gop_st ?_
    refine ob_i (vPick_t _ _) ?_
    refine cnd_t1 ?_
    skip
    exact keq (K := K) (by rw [decide_eq_false (show ¬ (ruleP st rc T) from by intro h; have h1 := h.1; have h2 := h.2.1; first | contradiction | omega)]) (hk   _    lE)
theorem C.spec_l02Is {p vt : Value} {st rc : Int} {T : List Int}  {H : Hp} {K : Value → Hp → Prop} (hp0 : Cel H p [(.int .i64 (st)), (.int .i64 (rc)), vt]) (hvt0 : Sl eI H vt T) (k1 : T.length ≤ 9223372036854775807)
    (hk : ∀ H', Le H H' → K (.bool (decide (ruleP st rc T))) H') : HT prg I.spec_l02Is [p].toArray H K := by
  have lE := Le.refl H
  have hp := hp0
  have hvt := hvt0
  refine R.spec_l02Is ?_
  unfold F.spec_l02Is
  refine ob_i (hp.nilC) ?_
  refine ob_i (hp.fa 0) ?_
  refine ob_i (hp.ld 0 rfl) ?_
  refine C.spec_l00In  ?_
  refine ⟨Le.refl _, ?_⟩
  refine ob_nd (fun hc1 => ?_) (fun hc1 => ?_)
  · skip
    refine gop_rf ?_
    refine gop_rf ?_
    refine ob_i (hp.nilC) ?_
    refine gop_rf ?_
    refine ob_i (hp.fa 1) ?_
    refine gop_rf ?_
    refine ob_i (hp.ld 1 rfl) ?_
    refine gop_rf ?_
    refine C.spec_l00In  ?_
    refine ⟨Le.refl _, ?_⟩
    refine gop_rf ?_
    refine ob_nd (fun hc2 => ?_) (fun hc2 => ?_)
    · skip
      refine ob_i (vPick_f _ _) ?_
      refine gop_rf ?_
      refine gop_rf ?_
      refine ob_i (hp.nilC) ?_
      refine gop_rf ?_
      refine ob_i (hp.fa 2) ?_
      refine gop_rf ?_
      refine ob_i (hp.ld 2 rfl) ?_
      refine gop_rf ?_
      refine ob_i (hvt.len) ?_
      refine gop_rf ?_
      refine gop_rf ?_
      refine ob_i (hp.nilC) ?_
      refine gop_rf ?_
      refine ob_i (hp.fa 0) ?_
      refine gop_rf ?_
      refine ob_i (hp.ld 0 rfl) ?_
      refine gop_rf ?_
      refine gop_rf ?_
      refine ob_i (hp.nilC) ?_
      refine gop_rf ?_
      refine ob_i (hp.fa 1) ?_
      refine gop_rf ?_
      refine ob_i (hp.ld 1 rfl) ?_
      refine gop_rf ?_
      refine ob_i (vInt_mul (by omega) (by omega)) ?_
      refine gop_rf ?_
      refine ob_i (vInt_add (by omega) (by omega)) ?_
      refine gop_rf ?_
      refine C.spec_l02Powers (by first | omega | assumption) (by first | omega | assumption) (by first | omega | assumption) (by first | omega | assumption) (fun   H3    le4 => ?_)
      replace hp := hp.le le4
      replace hvt := hvt.le le4
      replace lE := lE.trans le4
      refine ⟨le4, ?_⟩
      refine gop_rf ?_
      refine ob_i (vInt_neq _ _ _) ?_
      refine ob_i (vPick_f _ _) ?_
      refine cnd_d (fun hg5 => ?_) (fun hg5 => ?_)
      · skip
        skip
        exact keq (K := K) (by rw [decide_eq_false (show ¬ (ruleP st rc T) from by intro h; obtain ⟨h1, h2, h3, h4⟩ := h; first | contradiction | omega | (have h5 := h4 _ (at_mem 0 T (i := (i : Int)) (by omega) (by omega)); contradiction))]) (hk   _    lE)
      · skip
        refine jn_i (fun σ' H' => Le H H' ∧ ∀ x ∈ T, 0 ≤ x ∧ x ≤ st - 1) (fun σ6 H6 hP => ?_) (fun J6 hJ6 => ?_)
        · skip
          obtain ⟨lE, ho0⟩ := hP
          have hp := hp0.le lE
          have hvt := hvt0.le lE
          skip
          exact keq (K := K) (by rw [decide_eq_true (show (ruleP st rc T) from by exact ⟨by omega, by assumption, by omega, ho0⟩)]) (hk   _    lE)
        refine ⟨fun n' σ' H' => ∃ i : Nat, n' = T.length - i ∧ i ≤ T.length ∧ σ' 0 = p ∧ σ' 3 = (.int .i64 ((i : Int))) ∧ Le H H' ∧ ∀ x ∈ T.take i, 0 ≤ x ∧ x ≤ st - 1,
          ⟨_, 0, rfl, by omega, rfl, (congrArg (Value.int .i64) (by first | omega | rfl | (simp; done))), lE, (by simp)⟩, ?_⟩
        rintro n7 σ7 H7 ⟨i, rfl, hiN, g0L7, g3L7, lE, hm0⟩
        have hp := hp0.le lE
        have hvt := hvt0.le lE
        try simp only [g0L7, g3L7]
        refine ob_i (hp.nilC) ?_
        refine ob_i (hp.fa 2) ?_
        refine ob_i (hp.ld 2 rfl) ?_
        refine ob_i (hvt.len) ?_
        refine ob_i (vInt_lss _ _ _) ?_
        refine cnd_d (fun hg8 => ?_) (fun hg8 => ?_)
        · skip
          have ti := hg8
          refine ob_i (hp.nilC) ?_
          refine ob_i (hp.fa 2) ?_
          refine ob_i (hp.ld 2 rfl) ?_
          refine ob_i (hvt.ix (by omega) (by omega)) ?_
          refine ob_i (hvt.ld 0 (by omega) (by omega)) ?_
          refine ob_i (hp.nilC) ?_
          refine ob_i (hp.fa 0) ?_
          refine ob_i (hp.ld 0 rfl) ?_
          refine ob_i (vInt_sub (by omega) (by omega)) ?_
          refine C.spec_l00In  ?_
          refine ⟨Le.refl _, ?_⟩
          refine ob_nd (fun hc9 => ?_) (fun hc9 => ?_)
          · skip
            refine cnd_f1 ?_
            refine ob_i (vInt_add (by omega) (by omega)) ?_
            exact nxt (T.length - (i + 1)) (by omega) ⟨i + 1, rfl, by omega, g0L7, (congrArg (Value.int .i64) (by first | omega | rfl | (simp; done))), lE, (all_take hm0 (by omega) (by assumption))⟩
          · skip
            refine cnd_t1 ?_
            refine retK (K := K) (v' := (.bool false)) rfl ?_
            skip
            exact keq (K := K) (by rw [decide_eq_false (show ¬ (ruleP st rc T) from by intro h; obtain ⟨h1, h2, h3, h4⟩ := h; first | contradiction | omega | (have h5 := h4 _ (at_mem 0 T (i := (i : Int)) (by omega) (by omega)); contradiction))]) (hk   _    lE)
        · skip
          have ti := hg8
          exact hJ6 _ _ ⟨lE, (by rw [List.take_of_length_le (by omega)] at hm0; exact hm0)⟩
    · skip
      refine ob_i (vPick_f _ _) ?_
      refine gop_st ?_
      refine gop_st ?_
      refine gop_st ?_
      refine gop_st ?_
      refine gop_st ?_
      refine gop_st ?_
      refine gop_st ?_
      refine gop_st ?_
      refine gop_st ?_
      refine gop_st ?_
      refine gop_st ?_
      refine gop_st ?_
      refine gop_st ?_
      refine gop_st ?_
      refine gop_st ?_
      refine gop_st ?_
      refine gop_st ?_
      refine ob_i (vPick_t _ _) ?_
      refine cnd_t1 ?_
      skip
      exact keq (K := K) (by rw [decide_eq_false (show ¬ (ruleP st rc T) from by intro h; obtain ⟨h1, h2, h3, h4⟩ := h; first | contradiction | omega | (have h5 := h4 _ (at_mem 0 T (i := (i : Int)) (by omega) (by omega)); contradiction))]) (hk   _    lE)
  · skip
    refine gop_st ?_
    refine gop_st ?_
    refine gop_st ?_
    refine gop_st ?_
    refine gop_st ?_
    refine gop_st ?_
    refine ob_i (vPick_t _ _) ?_
    refine gop_st ?_
    refine gop_st ?_
    refine gop_st ?_
    refine gop_st ?_
    refine gop_st ?_
    refine gop_st ?_
    refine gop_st ?_
    refine gop_st ?_
    refine gop_st ?_
    refine gop_st ?_
    refine gop_st ?_
    refine gop_st ?_
    refine gop_st ?_
    refine gop_st ?_
    refine gop_st ?_
    refine gop_st ?_
    refine gop_st ?_
    refine ob_i (vPick_t _ _) ?_
    refine cnd_t1 ?_
    skip
    exact keq (K := K) (by rw [decide_eq_false (show ¬ (ruleP st rc T) from by intro h; obtain ⟨h1, h2, h3, h4⟩ := h; first | contradiction | omega | (have h5 := h4 _ (at_mem 0 T (i := (i : Int)) (by omega) (by omega)); contradiction))]) (hk   _    lE)
theorem C.impl_digitsOf {n b k : Int}  {H : Hp} {K : Value → Hp → Prop} (b0 : 1 ≤ b) (b1 : b ≤ 3) (n0 : 0 ≤ n) (n1 : n ≤ 50000000) (k0 : 0 ≤ k) (k1 : k ≤ 16)
    (hk : ∀ u1 H', Own eI H' u1 (digL n b k.toNat) → Nw H u1 → Le H H' → K u1 H') : HT prg I.impl_digitsOf [(.int .i64 (n)), (.int .i64 (b)), (.int .i64 (k))].toArray H K := by
  have lE := Le.refl H
  refine R.impl_digitsOf ?_
  unfold F.impl_digitsOf
  refine Own.mk_ (z := (0 : Int)) (by omega) (by omega) (by omega) (by omega) (fun u H1 ou nn2 le3 => ?_)
  have nu : Nw H u := nn2.le lE
  replace lE := lE.trans le3
  refine jn_i (fun σ' H' => σ' 7 = u ∧ Own eI H' u (digL n b k.toNat) ∧ Le H H') (fun σ4 H4 hP => ?_) (fun J4 hJ4 => ?_)
  · skip
    obtain ⟨g7L4, ou, lE⟩ := hP
    try simp only [g7L4]
    skip
    exact hk  u _ ou nu  lE
  refine ob_i (vInt_sub (by omega) (by omega)) ?_
  refine ⟨fun n' σ' H' => ∃ j : Nat, n' = k.toNat - j ∧ j ≤ k.toNat ∧ σ' 0 = (.int .i64 (n / b ^ j)) ∧ σ' 1 = (.int .i64 (b)) ∧ σ' 7 = u ∧ σ' 8 = (.int .i64 (k - 1 - (j : Int))) ∧ Own eI H' u (digF n b k.toNat j) ∧ Le H H',
    ⟨_, 0, rfl, by omega, (congrArg (Value.int .i64) (by rw [Int.pow_zero, Int.ediv_one])), rfl, rfl, (congrArg (Value.int .i64) (by first | omega | rfl | (simp; done))), (Own.cast (digF_zero n b k.toNat).symm ou), lE⟩, ?_⟩
  rintro n5 σ5 H5 ⟨j, rfl, hjN, g0L5, g1L5, g7L5, g8L5, ou, lE⟩
  try simp only [g0L5, g1L5, g7L5, g8L5]
  have dl := digF_len n b k.toNat j
  have db := div_pow_bnd n0 b0 j
  refine ob_i (vInt_geq _ _ _) ?_
  refine cnd_d (fun hg6 => ?_) (fun hg6 => ?_)
  · skip
    have tj := hg6
    have rm7 := And.intro (Int.emod_nonneg (n / b ^ j) (b := b) (by omega)) (Int.emod_lt_of_pos (n / b ^ j) (b := b) (by omega))
    refine ob_i (vInt_remN (by omega) (by omega)) ?_
    refine ob_i (ou.sl.ix (by omega) (by omega)) ?_
    refine ou.st (x := (n / b ^ j) % b) (by omega) (by omega) rfl rfl (fun H8 ou off9 => ?_)
    replace lE := off9.le lE nu
    refine ob_i (vInt_quoN (by omega) (by omega) (by omega)) ?_
    refine ob_i (vInt_sub (by omega) (by omega)) ?_
    exact nxt (k.toNat - (j + 1)) (by omega) ⟨j + 1, rfl, by omega, (congrArg (Value.int .i64) (div_pow_succ (by omega) j)), g1L5, g7L5, (congrArg (Value.int .i64) (by first | omega | rfl | (simp; done))), (Own.cast (by rw [show (k - 1 - (j : Int)).toNat = k.toNat - 1 - j by omega]; exact digF_set (by omega)) ou), lE⟩
  · skip
    have tj := hg6
    rw [digF_end (by omega)] at ou
    exact hJ4 _ _ ⟨g7L5, ou, lE⟩
theorem C.spec_l03Cells {n b k : Int}  {H : Hp} {K : Value → Hp → Prop} (b0 : 1 ≤ b) (b1 : b ≤ 3) (n0 : 0 ≤ n) (n1 : n ≤ 50000000) (k0 : 0 ≤ k) (k1 : k ≤ 16)
    (hk : ∀ u1 H', Own eI H' u1 (digL n b k.toNat) → Nw H u1 → Le H H' → K u1 H') : HT prg I.spec_l03Cells [(.int .i64 (n)), (.int .i64 (b)), (.int .i64 (k))].toArray H K := by
  have lE := Le.refl H
  refine R.spec_l03Cells ?_
  unfold F.spec_l03Cells
  refine Own.mk_ (z := (0 : Int)) (by omega) (by omega) (by omega) (by omega) (fun u H1 ou nn2 le3 => ?_)
  have nu : Nw H u := nn2.le lE
  replace lE := lE.trans le3
  refine jn_i (fun σ' H' => σ' 7 = u ∧ Own eI H' u (digL n b k.toNat) ∧ Le H H') (fun σ4 H4 hP => ?_) (fun J4 hJ4 => ?_)
  · skip
    obtain ⟨g7L4, ou, lE⟩ := hP
    try simp only [g7L4]
    skip
    exact hk  u _ ou nu  lE
  refine ob_i (vInt_sub (by omega) (by omega)) ?_
  refine ⟨fun n' σ' H' => ∃ j : Nat, n' = k.toNat - j ∧ j ≤ k.toNat ∧ σ' 0 = (.int .i64 (n / b ^ j)) ∧ σ' 1 = (.int .i64 (b)) ∧ σ' 7 = u ∧ σ' 8 = (.int .i64 (k - 1 - (j : Int))) ∧ Own eI H' u (digF n b k.toNat j) ∧ Le H H',
    ⟨_, 0, rfl, by omega, (congrArg (Value.int .i64) (by rw [Int.pow_zero, Int.ediv_one])), rfl, rfl, (congrArg (Value.int .i64) (by first | omega | rfl | (simp; done))), (Own.cast (digF_zero n b k.toNat).symm ou), lE⟩, ?_⟩
  rintro n5 σ5 H5 ⟨j, rfl, hjN, g0L5, g1L5, g7L5, g8L5, ou, lE⟩
  try simp only [g0L5, g1L5, g7L5, g8L5]
  have dl := digF_len n b k.toNat j
  have db := div_pow_bnd n0 b0 j
  refine ob_i (vInt_geq _ _ _) ?_
  refine cnd_d (fun hg6 => ?_) (fun hg6 => ?_)
  · skip
    have tj := hg6
    have rm7 := And.intro (Int.emod_nonneg (n / b ^ j) (b := b) (by omega)) (Int.emod_lt_of_pos (n / b ^ j) (b := b) (by omega))
    refine ob_i (vInt_remN (by omega) (by omega)) ?_
    refine ob_i (ou.sl.ix (by omega) (by omega)) ?_
    refine ou.st (x := (n / b ^ j) % b) (by omega) (by omega) rfl rfl (fun H8 ou off9 => ?_)
    replace lE := off9.le lE nu
    refine ob_i (vInt_quoN (by omega) (by omega) (by omega)) ?_
    refine ob_i (vInt_sub (by omega) (by omega)) ?_
    exact nxt (k.toNat - (j + 1)) (by omega) ⟨j + 1, rfl, by omega, (congrArg (Value.int .i64) (div_pow_succ (by omega) j)), g1L5, g7L5, (congrArg (Value.int .i64) (by first | omega | rfl | (simp; done))), (Own.cast (by rw [show (k - 1 - (j : Int)).toNat = k.toNat - 1 - j by omega]; exact digF_set (by omega)) ou), lE⟩
  · skip
    have tj := hg6
    rw [digF_end (by omega)] at ou
    exact hJ4 _ _ ⟨g7L5, ou, lE⟩
theorem C.impl_numberOf {va : Value} {b : Int} {l : List Int}  {H : Hp} {K : Value → Hp → Prop} (hva0 : Sl eI H va l) (b0 : 1 ≤ b) (b1 : b ≤ 3) (he : ∀ x ∈ l, 0 ≤ x ∧ x ≤ b - 1) (hl : l.length ≤ 16)
    (hk : ∀ H', Le H H' → K (.int .i64 (numL b l)) H') : HT prg I.impl_numberOf [va, (.int .i64 (b))].toArray H K := by
  have lE := Le.refl H
  have hva := hva0
  refine R.impl_numberOf ?_
  unfold F.impl_numberOf
  refine jn_i (fun σ' H' => σ' 5 = (.int .i64 (numL b l)) ∧ Le H H') (fun σ1 H1 hP => ?_) (fun J1 hJ1 => ?_)
  · skip
    obtain ⟨g5L1, lE⟩ := hP
    have hva := hva0.le lE
    try simp only [g5L1]
    skip
    exact hk   _    lE
  refine ob_i (hva.len) ?_
  refine ⟨fun n' σ' H' => ∃ i : Nat, n' = l.length - i ∧ i ≤ l.length ∧ σ' 1 = (.int .i64 (b)) ∧ σ' 5 = (.int .i64 (numL b (l.take i))) ∧ σ' 8 = va ∧ σ' 9 = (.int .i64 (((l).length : Int))) ∧ σ' 10 = (.int .i64 ((i : Int))) ∧ Le H H',
    ⟨_, 0, rfl, by omega, rfl, (congrArg (Value.int .i64) (numL_nil b).symm), rfl, rfl, (congrArg (Value.int .i64) (by first | omega | rfl | (simp; done))), lE⟩, ?_⟩
  rintro n2 σ2 H2 ⟨i, rfl, hiN, g1L2, g5L2, g8L2, g9L2, g10L2, lE⟩
  have hva := hva0.le lE
  try simp only [g1L2, g5L2, g8L2, g9L2, g10L2]
  have n1 := numL_bnd16 b0 b1 (take_in (n := i) he) (by rw [List.length_take]; omega)
  refine ob_i (vInt_lss _ _ _) ?_
  refine cnd_d (fun hg3 => ?_) (fun hg3 => ?_)
  · skip
    have ti := hg3
    have n2 := numL_bnd16 b0 b1 (take_in (n := i + 1) he) (by rw [List.length_take]; omega)
    rw [numL_take (by omega)] at n2
    have n3 := he _ (at_mem 0 l (i := (i : Int)) (by omega) (by omega))
    have n4 := mul3_bnd n1.1 b0 b1
    refine ob_i (hva.ix (by omega) (by omega)) ?_
    refine ob_i (hva.ld 0 (by omega) (by omega)) ?_
    refine ob_i (vInt_mul (by omega) (by omega)) ?_
    refine ob_i (vInt_add (by omega) (by omega)) ?_
    refine ob_i (vInt_add (by omega) (by omega)) ?_
    exact nxt (l.length - (i + 1)) (by omega) ⟨i + 1, rfl, by omega, g1L2, (congrArg (Value.int .i64) (numL_take (by omega)).symm), g8L2, g9L2, (congrArg (Value.int .i64) (by first | omega | rfl | (simp; done))), lE⟩
  · skip
    have ti := hg3
    obtain rfl : i = l.length := by omega
    exact hJ1 _ _ ⟨(g5L2.trans (congrArg (Value.int .i64) (by rw [List.take_of_length_le (by omega)]))), lE⟩
theorem C.spec_l03Number {va : Value} {b : Int} {l : List Int}  {H : Hp} {K : Value → Hp → Prop} (hva0 : Sl eI H va l) (b0 : 1 ≤ b) (b1 : b ≤ 3) (he : ∀ x ∈ l, 0 ≤ x ∧ x ≤ b - 1) (hl : l.length ≤ 16)
    (hk : ∀ H', Le H H' → K (.int .i64 (numL b l)) H') : HT prg I.spec_l03Number [va, (.int .i64 (b))].toArray H K := by
  have lE := Le.refl H
  have hva := hva0
  refine R.spec_l03Number ?_
  unfold F.spec_l03Number
  refine jn_i (fun σ' H' => σ' 5 = (.int .i64 (numL b l)) ∧ Le H H') (fun σ1 H1 hP => ?_) (fun J1 hJ1 => ?_)
  · skip
    obtain ⟨g5L1, lE⟩ := hP
    have hva := hva0.le lE
    try simp only [g5L1]
    skip
    exact hk   _    lE
  refine ob_i (hva.len) ?_
  refine ⟨fun n' σ' H' => ∃ i : Nat, n' = l.length - i ∧ i ≤ l.length ∧ σ' 0 = va ∧ σ' 1 = (.int .i64 (b)) ∧ σ' 5 = (.int .i64 (numL b (l.take i))) ∧ σ' 8 = (.int .i64 (((l).length : Int))) ∧ σ' 9 = (.int .i64 ((i : Int))) ∧ Le H H',
    ⟨_, 0, rfl, by omega, rfl, rfl, (congrArg (Value.int .i64) (numL_nil b).symm), rfl, (congrArg (Value.int .i64) (by first | omega | rfl | (simp; done))), lE⟩, ?_⟩
  rintro n2 σ2 H2 ⟨i, rfl, hiN, g0L2, g1L2, g5L2, g8L2, g9L2, lE⟩
  have hva := hva0.le lE
  try simp only [g0L2, g1L2, g5L2, g8L2, g9L2]
  have n1 := numL_bnd16 b0 b1 (take_in (n := i) he) (by rw [List.length_take]; omega)
  refine ob_i (vInt_lss _ _ _) ?_
  refine cnd_d (fun hg3 => ?_) (fun hg3 => ?_)
  · skip
    have ti := hg3
    have n2 := numL_bnd16 b0 b1 (take_in (n := i + 1) he) (by rw [List.length_take]; omega)
    rw [numL_take (by omega)] at n2
    have n3 := he _ (at_mem 0 l (i := (i : Int)) (by omega) (by omega))
    have n4 := mul3_bnd n1.1 b0 b1
    refine ob_i (vInt_mul (by omega) (by omega)) ?_
    refine ob_i (hva.ix (by omega) (by omega)) ?_
    refine ob_i (hva.ld 0 (by omega) (by omega)) ?_
    refine ob_i (vInt_add (by omega) (by omega)) ?_
    refine ob_i (vInt_add (by omega) (by omega)) ?_
    exact nxt (l.length - (i + 1)) (by omega) ⟨i + 1, rfl, by omega, g0L2, g1L2, (congrArg (Value.int .i64) (numL_take (by omega)).symm), g8L2, (congrArg (Value.int .i64) (by first | omega | rfl | (simp; done))), lE⟩
  · skip
    have ti := hg3
    obtain rfl : i = l.length := by omega
    exact hJ1 _ _ ⟨(g5L2.trans (congrArg (Value.int .i64) (by rw [List.take_of_length_le (by omega)]))), lE⟩
theorem C.impl_Rule_at {vt va : Value} {st rc i : Int} {T : List Int} {l : List Int}  {H : Hp} {K : Value → Hp → Prop} (hvt0 : Sl eI H vt T) (hva0 : Sl eI H va l) (hr : ruleP st rc T) (h0 : 0 < l.length) (h1 : l.length ≤ 64) (he : ∀ x ∈ l, 0 ≤ x ∧ x ≤ st - 1) (i0 : 0 ≤ i) (i1 : i < l.length)
    (hk : ∀ H', Le H H' → K (.int .i64 (tdN st rc T l i)) H') : HT prg I.impl_Rule_at [(.agg #[(.int .i64 (st)), (.int .i64 (rc)), vt]), va, (.int .i64 (i))].toArray H K := by
  have lE := Le.refl H
  have hvt := hvt0
  have hva := hva0
  refine R.impl_Rule_at ?_
  unfold F.impl_Rule_at
  have hr1 := hr.1
  have hr2 := hr.2.1
  have hr3 := ruleP_len hr
  have hr4 := hr.2.2.2
  have hix := hdN_ix hr he h0 i
  refine nw_i (fun p1 H2 op1 nn3 le4 => ?_)
  have np1 : Nw H p1 := nn3.le lE
  replace hvt := hvt.le le4
  replace hva := hva.le le4
  replace lE := lE.trans le4
  replace op1 : Cel H2 p1 [(.int .i64 (st)), (.int .i64 (rc)), vt] := op1
  refine ob_i (hva.len) ?_
  refine jn_i (fun σ' H' => σ' 3 = p1 ∧ σ' 8 = (.int .i64 (hdN st rc l i (2 * rc + 1).toNat)) ∧ Cel H' p1 [(.int .i64 (st)), (.int .i64 (rc)), vt] ∧ Le H H') (fun σ5 H5 hP => ?_) (fun J5 hJ5 => ?_)
  · skip
    obtain ⟨g3L5, g8L5, op1, lE⟩ := hP
    have hvt := hvt0.le lE
    have hva := hva0.le lE
    try simp only [g3L5, g8L5]
    refine ob_i (op1.fa 2) ?_
    refine ob_i (op1.ld 2 rfl) ?_
    refine ob_i (hvt.ix (by omega) (by omega)) ?_
    refine ob_i (hvt.ld 0 (by omega) (by omega)) ?_
    skip
    exact keq (K := K) (by rw [show ((at_ 0 (T) (hdN st rc l i (2 * rc + 1).toNat)) : Int) = (tdN st rc T l i) from by rfl]) (hk   _    lE)
  refine ob_i (op1.fa 1) ?_
  refine ob_i (op1.ld 1 rfl) ?_
  refine ob_i (vInt_sub (by omega) (by omega)) ?_
  refine ⟨fun n' σ' H' => ∃ t : Nat, n' = (2 * rc + 1).toNat - t ∧ t ≤ (2 * rc + 1).toNat ∧ σ' 1 = va ∧ σ' 2 = (.int .i64 (i)) ∧ σ' 3 = p1 ∧ σ' 7 = (.int .i64 (((l).length : Int))) ∧ σ' 8 = (.int .i64 (hdN st rc l i t)) ∧ σ' 9 = (.int .i64 (i - rc + (t : Int))) ∧ Cel H' p1 [(.int .i64 (st)), (.int .i64 (rc)), vt] ∧ Le H H',
    ⟨_, 0, rfl, by omega, rfl, rfl, rfl, rfl, (congrArg (Value.int .i64) (by first | omega | rfl | (simp; done))), (congrArg (Value.int .i64) (by first | omega | rfl | (simp; done))), op1, lE⟩, ?_⟩
  rintro n6 σ6 H6 ⟨t, rfl, htN, g1L6, g2L6, g3L6, g7L6, g8L6, g9L6, op1, lE⟩
  have hvt := hvt0.le lE
  have hva := hva0.le lE
  try simp only [g1L6, g2L6, g3L6, g7L6, g8L6, g9L6]
  have z1 := hdN_bnd5 (st := st) (rc := rc) (by omega) (by omega) he h0 i (t := t) (by omega)
  refine ob_i (op1.fa 1) ?_
  refine ob_i (op1.ld 1 rfl) ?_
  refine ob_i (vInt_add (by omega) (by omega)) ?_
  refine ob_i (vInt_leq _ _ _) ?_
  refine cnd_d (fun hg7 => ?_) (fun hg7 => ?_)
  · skip
    have tt := hg7
    have z2 := hdN_bnd5 (st := st) (rc := rc) (by omega) (by omega) he h0 i (t := t + 1) (by omega)
    have z3 : hdN st rc l i (t + 1) = hdN st rc l i t * st + at_ 0 l ((i - rc + (t : Int)) % (l.length : Int)) := rfl
    have z4 := Int.emod_nonneg (i - rc + (t : Int)) (b := (l.length : Int)) (by omega)
    have z5 := Int.emod_lt_of_pos (i - rc + (t : Int)) (b := (l.length : Int)) (by omega)
    have z6 := he _ (at_mem 0 l z4 z5)
    have z7 := mul3_bnd z1.1 (show 1 ≤ st by omega) (by omega)
    refine ob_i (op1.fa 0) ?_
    refine ob_i (op1.ld 0 rfl) ?_
    refine ob_i (vInt_mul (by omega) (by omega)) ?_
    refine C.floorMod (by first | omega | assumption) (by first | omega | assumption) (by first | omega | assumption) (by first | omega | assumption) ?_
    refine ⟨Le.refl _, ?_⟩
    refine ob_i (hva.ix (by omega) (by omega)) ?_
    refine ob_i (hva.ld 0 (by omega) (by omega)) ?_
    refine ob_i (vInt_add (by omega) (by omega)) ?_
    refine ob_i (vInt_add (by omega) (by omega)) ?_
    exact nxt ((2 * rc + 1).toNat - (t + 1)) (by omega) ⟨t + 1, rfl, by omega, g1L6, g2L6, g3L6, g7L6, (congrArg (Value.int .i64) (by first | omega | rfl | (simp; done))), (congrArg (Value.int .i64) (by first | omega | rfl | (simp; done))), op1, lE⟩
  · skip
    have tt := hg7
    obtain rfl : t = (2 * rc + 1).toNat := by omega
    exact hJ5 _ _ ⟨g3L6, (g8L6.trans (congrArg (Value.int .i64) (by first | omega | rfl | (simp; done)))), op1, lE⟩
theorem C.spec_l02Told {p vt va : Value} {i st rc : Int} {T : List Int} {l : List Int}  {H : Hp} {K : Value → Hp → Prop} (hp0 : Cel H p [(.int .i64 (st)), (.int .i64 (rc)), vt]) (hvt0 : Sl eI H vt T) (hva0 : Sl eI H va l) (hr : ruleP st rc T) (h0 : 0 < l.length) (h1 : l.length ≤ 64) (he : ∀ x ∈ l, 0 ≤ x ∧ x ≤ st - 1) (i0 : 0 ≤ i) (i1 : i < l.length)
    (hk : ∀ H', Le H H' → K (.int .i64 (tdN st rc T l i)) H') : HT prg I.spec_l02Told [p, va, (.int .i64 (i))].toArray H K := by
  have lE := Le.refl H
  have hp := hp0
  have hvt := hvt0
  have hva := hva0
  refine R.spec_l02Told ?_
  unfold F.spec_l02Told
  have hr1 := hr.1
  have hr2 := hr.2.1
  have hr3 := ruleP_len hr
  have hr4 := hr.2.2.2
  have hix := hdN_ix hr he h0 i
  refine ob_i (hva.len) ?_
  refine jn_i (fun σ' H' => σ' 0 = p ∧ σ' 8 = (.int .i64 (hdN st rc l i (2 * rc + 1).toNat)) ∧ Le H H') (fun σ1 H1 hP => ?_) (fun J1 hJ1 => ?_)
  · skip
    obtain ⟨g0L1, g8L1, lE⟩ := hP
    have hp := hp0.le lE
    have hvt := hvt0.le lE
    have hva := hva0.le lE
    try simp only [g0L1, g8L1]
    refine ob_i (hp.nilC) ?_
    refine ob_i (hp.fa 2) ?_
    refine ob_i (hp.ld 2 rfl) ?_
    refine ob_i (hvt.ix (by omega) (by omega)) ?_
    refine ob_i (hvt.ld 0 (by omega) (by omega)) ?_
    skip
    exact keq (K := K) (by rw [show ((at_ 0 (T) (hdN st rc l i (2 * rc + 1).toNat)) : Int) = (tdN st rc T l i) from by rfl]) (hk   _    lE)
  refine ob_i (hp.nilC) ?_
  refine ob_i (hp.fa 1) ?_
  refine ob_i (hp.ld 1 rfl) ?_
  refine ob_i (vInt_sub (by omega) (by omega)) ?_
  refine ⟨fun n' σ' H' => ∃ t : Nat, n' = (2 * rc + 1).toNat - t ∧ t ≤ (2 * rc + 1).toNat ∧ σ' 0 = p ∧ σ' 1 = va ∧ σ' 2 = (.int .i64 (i)) ∧ σ' 7 = (.int .i64 (((l).length : Int))) ∧ σ' 8 = (.int .i64 (hdN st rc l i t)) ∧ σ' 9 = (.int .i64 (i - rc + (t : Int))) ∧ Le H H',
    ⟨_, 0, rfl, by omega, rfl, rfl, rfl, rfl, (congrArg (Value.int .i64) (by first | omega | rfl | (simp; done))), (congrArg (Value.int .i64) (by first | omega | rfl | (simp; done))), lE⟩, ?_⟩
  rintro n2 σ2 H2 ⟨t, rfl, htN, g0L2, g1L2, g2L2, g7L2, g8L2, g9L2, lE⟩
  have hp := hp0.le lE
  have hvt := hvt0.le lE
  have hva := hva0.le lE
  try simp only [g0L2, g1L2, g2L2, g7L2, g8L2, g9L2]
  have z1 := hdN_bnd5 (st := st) (rc := rc) (by omega) (by omega) he h0 i (t := t) (by omega)
  refine ob_i (hp.nilC) ?_
  refine ob_i (hp.fa 1) ?_
  refine ob_i (hp.ld 1 rfl) ?_
  refine ob_i (vInt_add (by omega) (by omega)) ?_
  refine ob_i (vInt_leq _ _ _) ?_
  refine cnd_d (fun hg3 => ?_) (fun hg3 => ?_)
  · skip
    have tt := hg3
    have z2 := hdN_bnd5 (st := st) (rc := rc) (by omega) (by omega) he h0 i (t := t + 1) (by omega)
    have z3 : hdN st rc l i (t + 1) = hdN st rc l i t * st + at_ 0 l ((i - rc + (t : Int)) % (l.length : Int)) := rfl
    have z4 := Int.emod_nonneg (i - rc + (t : Int)) (b := (l.length : Int)) (by omega)
    have z5 := Int.emod_lt_of_pos (i - rc + (t : Int)) (b := (l.length : Int)) (by omega)
    have z6 := he _ (at_mem 0 l z4 z5)
    have z7 := mul3_bnd z1.1 (show 1 ≤ st by omega) (by omega)
    refine ob_i (hp.nilC) ?_
    refine ob_i (hp.fa 0) ?_
    refine ob_i (hp.ld 0 rfl) ?_
    refine ob_i (vInt_mul (by omega) (by omega)) ?_
    have tm4 := (fmod_eq (a := i - rc + (t : Int)) (n := ((l).length : Int)) (by omega)).2
    refine ob_i (vInt_rem (by omega)) ?_
    refine ob_i (vInt_add (by omega) (by omega)) ?_
    have rm5 := And.intro (Int.emod_nonneg (i - rc + (t : Int)) (b := ((l).length : Int)) (by omega)) (Int.emod_lt_of_pos (i - rc + (t : Int)) (b := ((l).length : Int)) (by omega))
    refine ob_i (a := .int .i64 ((i - rc + (t : Int)) % (((l).length : Int)))) (by rw [vInt_remN (by omega) (by omega), (fmod_eq (a := i - rc + (t : Int)) (n := ((l).length : Int)) (by omega)).1]) ?_
    refine ob_i (hva.ix (by omega) (by omega)) ?_
    refine ob_i (hva.ld 0 (by omega) (by omega)) ?_
    refine ob_i (vInt_add (by omega) (by omega)) ?_
    refine ob_i (vInt_add (by omega) (by omega)) ?_
    exact nxt ((2 * rc + 1).toNat - (t + 1)) (by omega) ⟨t + 1, rfl, by omega, g0L2, g1L2, g2L2, g7L2, (congrArg (Value.int .i64) (by first | omega | rfl | (simp; done))), (congrArg (Value.int .i64) (by first | omega | rfl | (simp; done))), lE⟩
  · skip
    have tt := hg3
    obtain rfl : t = (2 * rc + 1).toNat := by omega
    exact hJ1 _ _ ⟨g0L2, (g8L2.trans (congrArg (Value.int .i64) (by first | omega | rfl | (simp; done)))), lE⟩
theorem C.impl_Rule_step {vt va : Value} {st rc : Int} {T : List Int} {l : List Int}  {H : Hp} {K : Value → Hp → Prop} (hvt0 : Sl eI H vt T) (hva0 : Sl eI H va l) (hr : ruleP st rc T) (h0 : 0 < l.length) (h1 : l.length ≤ 64) (he : ∀ x ∈ l, 0 ≤ x ∧ x ≤ st - 1)
    (hk : ∀ u1 H', Own eI H' u1 (stpL st rc T l) → Nw H u1 → Le H H' → K u1 H') : HT prg I.impl_Rule_step [(.agg #[(.int .i64 (st)), (.int .i64 (rc)), vt]), va].toArray H K := by
  have lE := Le.refl H
  have hvt := hvt0
  have hva := hva0
  refine R.impl_Rule_step ?_
  unfold F.impl_Rule_step
  have hr1 := hr.1
  have hr2 := hr.2.1
  have hr3 := ruleP_len hr
  have hr4 := hr.2.2.2
  refine nw_i (fun p1 H2 op1 nn3 le4 => ?_)
  have np1 : Nw H p1 := nn3.le lE
  replace hvt := hvt.le le4
  replace hva := hva.le le4
  replace lE := lE.trans le4
  replace op1 : Cel H2 p1 [(.int .i64 (st)), (.int .i64 (rc)), vt] := op1
  refine ob_i (hva.len) ?_
  refine Own.mk_ (z := (0 : Int)) (by omega) (by omega) (by omega) (by omega) (fun u H5 ou nn6 le7 => ?_)
  have ap1Xu : Apart p1 u := op1.apart nn6
  have nu : Nw H u := nn6.le lE
  replace op1 := op1.le le7
  replace hvt := hvt.le le7
  replace hva := hva.le le7
  replace lE := lE.trans le7
  refine jn_i (fun σ' H' => σ' 5 = u ∧ Cel H' p1 [(.int .i64 (st)), (.int .i64 (rc)), vt] ∧ Own eI H' u (stpL st rc T l) ∧ Le H H') (fun σ8 H8 hP => ?_) (fun J8 hJ8 => ?_)
  · skip
    obtain ⟨g5L8, op1, ou, lE⟩ := hP
    have hvt := hvt0.le lE
    have hva := hva0.le lE
    try simp only [g5L8]
    skip
    exact hk  u _ ou nu  lE
  refine ob_i (ou.len) ?_
  refine ⟨fun n' σ' H' => ∃ i : Nat, n' = l.length - i ∧ i ≤ l.length ∧ σ' 1 = va ∧ σ' 2 = p1 ∧ σ' 5 = u ∧ σ' 11 = (.int .i64 (((List.replicate (((l).length : Int) : Int).toNat 0).length : Int))) ∧ σ' 12 = (.int .i64 ((i : Int))) ∧ Cel H' p1 [(.int .i64 (st)), (.int .i64 (rc)), vt] ∧ Own eI H' u (stpF st rc T l i ++ List.replicate (l.length - i) 0) ∧ Le H H',
    ⟨_, 0, rfl, by omega, rfl, rfl, rfl, rfl, (congrArg (Value.int .i64) (by first | omega | rfl | (simp; done))), op1, (Own.cast (by simp [stpF]) ou), lE⟩, ?_⟩
  rintro n9 σ9 H9 ⟨i, rfl, hiN, g1L9, g2L9, g5L9, g11L9, g12L9, op1, ou, lE⟩
  have hvt := hvt0.le lE
  have hva := hva0.le lE
  try simp only [g1L9, g2L9, g5L9, g11L9, g12L9]
  have rl : (List.replicate ((l.length : Int)).toNat (0 : Int)).length = l.length := by simp
  have sl : (stpF st rc T l i ++ List.replicate (l.length - i) (0 : Int)).length = l.length := by simp [stpF]; omega
  refine ob_i (vInt_lss _ _ _) ?_
  refine cnd_d (fun hg10 => ?_) (fun hg10 => ?_)
  · skip
    have ti := hg10
    refine ob_i (op1.ldn rfl) ?_
    refine C.impl_Rule_at hvt hva (by first | omega | assumption) (by first | omega | assumption) (by first | omega | assumption) (by first | omega | assumption) (by first | omega | assumption) (by first | omega | assumption) (fun   H11    le12 => ?_)
    replace op1 := op1.le le12
    replace ou := ou.le le12
    replace hvt := hvt.le le12
    replace hva := hva.le le12
    replace lE := lE.trans le12
    refine ob_i (ou.sl.ix (by omega) (by omega)) ?_
    refine ou.st (x := tdN st rc T l (i : Int)) (by omega) (by omega) rfl rfl (fun H13 ou off14 => ?_)
    replace op1 := op1.off off14 ap1Xu
    replace hvt := hvt0.le (off14.le lE nu)
    replace hva := hva0.le (off14.le lE nu)
    replace lE := off14.le lE nu
    refine ob_i (vInt_add (by omega) (by omega)) ?_
    exact nxt (l.length - (i + 1)) (by omega) ⟨i + 1, rfl, by omega, g1L9, g2L9, g5L9, g11L9, (congrArg (Value.int .i64) (by first | omega | rfl | (simp; done))), op1, (Own.cast (stp_set (by omega)) ou), lE⟩
  · skip
    have ti := hg10
    rw [show i = l.length by omega, Nat.sub_self, List.replicate_zero, List.append_nil] at ou
    exact hJ8 _ _ ⟨g5L9, op1, ou, lE⟩
theorem C.spec_l02Step {p vt va : Value} {st rc : Int} {T : List Int} {l : List Int}  {H : Hp} {K : Value → Hp → Prop} (hp0 : Cel H p [(.int .i64 (st)), (.int .i64 (rc)), vt]) (hvt0 : Sl eI H vt T) (hva0 : Sl eI H va l) (hr : ruleP st rc T) (h0 : 0 < l.length) (h1 : l.length ≤ 64) (he : ∀ x ∈ l, 0 ≤ x ∧ x ≤ st - 1)
    (hk : ∀ u1 H', Own eI H' u1 (stpL st rc T l) → Nw H u1 → Le H H' → K u1 H') : HT prg I.spec_l02Step [p, va].toArray H K := by
  have lE := Le.refl H
  have hp := hp0
  have hvt := hvt0
  have hva := hva0
  refine R.spec_l02Step ?_
  unfold F.spec_l02Step
  have hr1 := hr.1
  have hr2 := hr.2.1
  have hr3 := ruleP_len hr
  have hr4 := hr.2.2.2
  refine bS_nil (enc := eI) (fun u1 H2 ou1 nn3 kk4 le5 => ?_)
  have nu1 : Nw H u1 := nn3.le lE
  replace hp := hp.le le5
  replace hvt := hvt.le le5
  replace hva := hva.le le5
  replace lE := lE.trans le5
  refine jn_i (fun σ' H' => ∃ u, σ' 5 = u ∧ Own eI H' u (stpL st rc T l) ∧ Nw H u ∧ Le H H') (fun σ6 H6 hP => ?_) (fun J6 hJ6 => ?_)
  · skip
    obtain ⟨u, g5L6, ou, nu, lE⟩ := hP
    have hp := hp0.le lE
    have hvt := hvt0.le lE
    have hva := hva0.le lE
    try simp only [g5L6]
    skip
    exact hk  u _ ou nu  lE
  refine ⟨fun n' σ' H' => ∃ i : Nat, n' = l.length - i ∧ i ≤ l.length ∧ ∃ u, σ' 0 = p ∧ σ' 1 = va ∧ σ' 5 = u ∧ σ' 6 = (.int .i64 ((i : Int))) ∧ Own eI H' u (stpF st rc T l i) ∧ Nw H u ∧ Le H H',
    ⟨_, 0, rfl, by omega, u1, rfl, rfl, rfl, (congrArg (Value.int .i64) (by first | omega | rfl | (simp; done))), (Own.cast (by first | rfl | (simp; done)) ou1), nu1, lE⟩, ?_⟩
  rintro n7 σ7 H7 ⟨i, rfl, hiN, u, g0L7, g1L7, g5L7, g6L7, ou, nu, lE⟩
  have hp := hp0.le lE
  have hvt := hvt0.le lE
  have hva := hva0.le lE
  try simp only [g0L7, g1L7, g5L7, g6L7]
  have sl := stpF_len st rc T l i
  refine ob_i (hva.len) ?_
  refine ob_i (vInt_lss _ _ _) ?_
  refine cnd_d (fun hg8 => ?_) (fun hg8 => ?_)
  · skip
    have ti := hg8
    refine C.spec_l02Told hp hvt hva (by first | omega | assumption) (by first | omega | assumption) (by first | omega | assumption) (by first | omega | assumption) (by first | omega | assumption) (by first | omega | assumption) (fun   H9    le10 => ?_)
    replace ou := ou.le le10
    replace hp := hp.le le10
    replace hvt := hvt.le le10
    replace hva := hva.le le10
    replace lE := lE.trans le10
    refine bS_i (enc := eI) (l := [tdN st rc T l (i : Int)]) (by omega) rfl (by kernel_rfl) (fun u11 H12 ou11 nn13 le15 => ?_)
    have auXu11 : Apart u u11 := ou.apart nn13
    have nu11 : Nw H u11 := nn13.le lE
    replace ou := ou.le le15
    replace hp := hp.le le15
    replace hvt := hvt.le le15
    replace hva := hva.le le15
    replace lE := lE.trans le15
    refine apd_any ou ou11.sl (fun _ => rfl) (by omega) (by first | omega | (simp only [List.length_cons, List.length_nil, List.length_append, List.length_replicate, List.length_map, List.length_range]; omega)) (fun u19 H16 ou19 off17 hb18 => ?_)
    have au11Xu19 : Apart u11 u19 := Apart.ap2 ou11.known auXu11.symm hb18
    have nu19 : Nw H u19 := Nw.ap2 nu lE hb18
    replace ou11 := ou11.off off17 auXu11.symm
    replace hp := hp0.le (off17.le lE nu)
    replace hvt := hvt0.le (off17.le lE nu)
    replace hva := hva0.le (off17.le lE nu)
    replace lE := off17.le lE nu
    refine ob_i (vInt_add (by omega) (by omega)) ?_
    exact nxt (l.length - (i + 1)) (by omega) ⟨i + 1, rfl, by omega, u19, g0L7, g1L7, rfl, (congrArg (Value.int .i64) (by first | omega | rfl | (simp; done))), (Own.cast (stpF_succ st rc T l i) ou19), nu19, lE⟩
  · skip
    have ti := hg8
    rw [show i = l.length by omega] at ou
    exact hJ6 _ _ ⟨u, g5L7, ou, nu, lE⟩
end Go.Proofs.Ytelcmohhjkgjoaa
