/- The law of tables. -/
import Derived.Test.YtelcmohhjkgjoaaRT
import Derived.Test.YtelcmohhjkgjoaaRF
import Derived.Test.YtelcmohhjkgjoaaZA
import Derived.Test.YtelcmohhjkgjoaaKZ
namespace Go.Proofs.Ytelcmohhjkgjoaa
open HL
set_option maxRecDepth 100000
theorem snoc_all {l : List Int} {x : Int} {p : Int → Prop} (h : ∀ y ∈ l, p y) (hx : p x) : ∀ y ∈ l ++ [x], p y := fun y hy => by
  rcases List.mem_append.mp hy with hy | hy
  · exact h y hy
  · simp only [List.mem_singleton] at hy; subst hy; exact hx
theorem rule8 {T : List Int} (h : ruleP 2 1 T) : T.length = 8 := by
  have e : pwr 2 (2 * 1 + 1) = 8 := by decide
  have := h.2.2.1
  omega
theorem r8_eq {l m : List Int} (h : l.length = m.length) (ha : ∀ j : Nat, j < l.length → at_ 0 l (j : Int) = at_ 0 m (j : Int)) : l = m := by
  apply List.ext_getElem h
  intro j h1 h2
  have := ha j h1
  rw [at_eq 0 l h1, at_eq 0 m h2] at this
  exact this
theorem r8_snoc {l m : List Int} {i : Nat} (ha : ∀ j : Nat, j < i → at_ 0 l (j : Int) = at_ 0 m (j : Int)) (h : at_ 0 l (i : Int) = at_ 0 m (i : Int)) : ∀ j : Nat, j < i + 1 → at_ 0 l (j : Int) = at_ 0 m (j : Int) := fun j hj => by
  by_cases e : j = i
  · subst e; exact h
  · exact ha j (by omega)
theorem C.impl_Rule_tells {vt va : Value} {st rc : Int} {T : List Int} {l : List Int}  {H : Hp} {K : Value → Hp → Prop} (hvt0 : Sl eI H vt T) (hva0 : Sl eI H va l) (hr : ruleP st rc T) (he : ∀ x ∈ l, 0 ≤ x ∧ x ≤ st - 1) (hl : (l.length : Int) ≤ 2 * rc + 1)
    (hk : ∀ H', Le H H' → K (.int .i64 (zrN st T l)) H') : HT prg I.impl_Rule_tells [(.agg #[(.int .i64 (st)), (.int .i64 (rc)), vt]), va].toArray H K := by
  have lE := Le.refl H
  have hvt := hvt0
  have hva := hva0
  refine R.impl_Rule_tells ?_
  unfold F.impl_Rule_tells
  have hr1 := hr.1
  have hr2 := hr.2.1
  have hr3 := ruleP_len hr
  have hr4 := hr.2.2.2
  have ix := zr_ix hr he hl
  refine nw_i (fun p1 H2 op1 nn3 le4 => ?_)
  have np1 : Nw H p1 := nn3.le lE
  replace hvt := hvt.le le4
  replace hva := hva.le le4
  replace lE := lE.trans le4
  replace op1 : Cel H2 p1 [(.int .i64 (st)), (.int .i64 (rc)), vt] := op1
  refine ob_i (op1.fa 2) ?_
  refine ob_i (op1.ld 2 rfl) ?_
  refine ob_i (op1.fa 0) ?_
  refine ob_i (op1.ld 0 rfl) ?_
  refine C.impl_numberOf hva (by first | omega | assumption) (by first | omega | assumption) (by first | omega | assumption) (by first | omega | assumption) (fun   H5    le6 => ?_)
  replace op1 := op1.le le6
  replace hvt := hvt.le le6
  replace hva := hva.le le6
  replace lE := lE.trans le6
  refine ⟨le6, ?_⟩
  refine ob_i (hvt.ix (by omega) (by omega)) ?_
  refine ob_i (hvt.ld 0 (by omega) (by omega)) ?_
  skip
  exact keq (K := K) (by rw [show ((at_ 0 (T) (numL st l)) : Int) = (zrN st T l) from by rfl]) (hk   _    lE)
theorem C.impl_sumOf {va : Value} {l : List Int}  {H : Hp} {K : Value → Hp → Prop} (hva0 : Sl eI H va l) (he : ∀ x ∈ l, 0 ≤ x ∧ x ≤ 2) (hl : l.length ≤ 1000)
    (hk : ∀ H', Le H H' → K (.int .i64 (numL 1 l)) H') : HT prg I.impl_sumOf [va].toArray H K := by
  have lE := Le.refl H
  have hva := hva0
  refine R.impl_sumOf ?_
  unfold F.impl_sumOf
  refine jn_i (fun σ' H' => σ' 3 = (.int .i64 (numL 1 l)) ∧ Le H H') (fun σ1 H1 hP => ?_) (fun J1 hJ1 => ?_)
  · skip
    obtain ⟨g3L1, lE⟩ := hP
    have hva := hva0.le lE
    try simp only [g3L1]
    skip
    exact hk   _    lE
  refine ob_i (hva.len) ?_
  refine ⟨fun n' σ' H' => ∃ i : Nat, n' = l.length - i ∧ i ≤ l.length ∧ σ' 3 = (.int .i64 (numL 1 (l.take i))) ∧ σ' 6 = va ∧ σ' 7 = (.int .i64 (((l).length : Int))) ∧ σ' 8 = (.int .i64 ((i : Int))) ∧ Le H H',
    ⟨_, 0, rfl, by omega, (congrArg (Value.int .i64) (numL_nil 1).symm), rfl, rfl, (congrArg (Value.int .i64) (by first | omega | rfl | (simp; done))), lE⟩, ?_⟩
  rintro n2 σ2 H2 ⟨i, rfl, hiN, g3L2, g6L2, g7L2, g8L2, lE⟩
  have hva := hva0.le lE
  try simp only [g3L2, g6L2, g7L2, g8L2]
  have sb := sum_bnd (m := 2) (l := l.take i) (take_in he)
  have lt : (l.take i).length = i := by rw [List.length_take]; omega
  refine ob_i (vInt_lss _ _ _) ?_
  refine cnd_d (fun hg3 => ?_) (fun hg3 => ?_)
  · skip
    have ti := hg3
    have ea := he _ (at_mem 0 l (i := (i : Int)) (by omega) (by omega))
    refine ob_i (hva.ix (by omega) (by omega)) ?_
    refine ob_i (hva.ld 0 (by omega) (by omega)) ?_
    refine ob_i (vInt_add (by omega) (by omega)) ?_
    refine ob_i (vInt_add (by omega) (by omega)) ?_
    exact nxt (l.length - (i + 1)) (by omega) ⟨i + 1, rfl, by omega, (congrArg (Value.int .i64) (by rw [numL_take (by omega), Int.mul_one])), g6L2, g7L2, (congrArg (Value.int .i64) (by first | omega | rfl | (simp; done))), lE⟩
  · skip
    have ti := hg3
    obtain rfl : i = l.length := by omega
    exact hJ1 _ _ ⟨(g3L2.trans (congrArg (Value.int .i64) (by rw [List.take_length]))), lE⟩
theorem C.impl_RuleOfNumber {num : Int}  {H : Hp} {K : Value → Hp → Prop} (n0 : 0 ≤ num) (n1 : num ≤ 255)
    (hk : ∀ u1 H', Own eI H' u1 (nbF num 8) → Nw H u1 → Le H H' → K (.tuple #[(.agg #[(.int .i64 (2)), (.int .i64 (1)), u1]), (.bool true)]) H') : HT prg I.impl_RuleOfNumber [(.int .i64 (num))].toArray H K := by
  have lE := Le.refl H
  refine R.impl_RuleOfNumber ?_
  unfold F.impl_RuleOfNumber
  refine nw_i (fun q0 H1 oq0 nn2 le3 => ?_)
  have nq0 : Nw H q0 := nn2.le lE
  replace lE := lE.trans le3
  replace oq0 : Cel H1 q0 [(.int .i64 (0)), (.int .i64 (0)), (.slice none 0 0)] := oq0
  refine C.impl_within  ?_
  refine ob_nd (fun hc4 => ?_) (fun hc4 => ?_)
  · skip
    refine cnd_f1 ?_
    refine ob_i (a := (.agg #[(.int .i64 (2)), (.int .i64 (1)), (.slice none 0 0)])) (by rfl) ?_
    refine nw_i (fun q H5 oq nn6 le7 => ?_)
    have aq0Xq : Apart q0 q := oq0.apart nn6
    have nq : Nw H q := nn6.le lE
    replace oq0 := oq0.le le7
    replace lE := lE.trans le7
    replace oq : Cel H5 q [(.int .i64 (0)), (.int .i64 (0)), (.slice none 0 0)] := oq
    refine oq.stn (ws := [(.int .i64 (2)), (.int .i64 (1)), (.slice none 0 0)]) rfl rfl (oc1 rfl (oc1 rfl (oc1 rfl oc0))) (fun H8 oq off9 => ?_)
    replace oq0 := oq0.off off9 aq0Xq
    replace lE := off9.le lE nq
    replace oq : Cel H8 q [(.int .i64 (2)), (.int .i64 (1)), (.slice none 0 0)] := oq
    refine jn_i (fun σ' H' => ∃ u, σ' 2 = q0 ∧ σ' 4 = q ∧ Cel H' q0 [(.int .i64 (0)), (.int .i64 (0)), (.slice none 0 0)] ∧ Cel H' q [(.int .i64 (2)), (.int .i64 (1)), u] ∧ Own eI H' u (nbF num 8) ∧ Nw H u ∧ Apart q0 u ∧ Apart q u ∧ Le H H') (fun σ10 H10 hP => ?_) (fun J10 hJ10 => ?_)
    · skip
      obtain ⟨u, g2L10, g4L10, oq0, oq, ou, nu, aq0Xu, aqXu, lE⟩ := hP
      try simp only [g2L10, g4L10]
      refine ob_i (oq.ldn rfl) ?_
      refine oq0.stn (ws := [(.int .i64 (2)), (.int .i64 (1)), u]) rfl rfl (oc1 rfl (oc1 rfl (oc1 ou.one oc0))) (fun H11 oq0 off12 => ?_)
      replace oq := oq.off off12 aq0Xq.symm
      replace ou := ou.off off12 aq0Xu.symm
      replace lE := off12.le lE nq0
      replace oq0 : Cel H11 q0 [(.int .i64 (2)), (.int .i64 (1)), u] := oq0
      refine ob_i (oq0.ldn rfl) ?_
      skip
      exact hk  u _ ou nu  lE
    refine ⟨fun n' σ' H' => ∃ i : Nat, n' = 8 - i ∧ i ≤ 8 ∧ ∃ u, σ' 0 = (.int .i64 (num)) ∧ σ' 2 = q0 ∧ σ' 4 = q ∧ σ' 11 = (.int .i64 ((i : Int))) ∧ Cel H' q0 [(.int .i64 (0)), (.int .i64 (0)), (.slice none 0 0)] ∧ Cel H' q [(.int .i64 (2)), (.int .i64 (1)), u] ∧ Own eI H' u (nbF num i) ∧ Nw H u ∧ Apart q0 u ∧ Apart q u ∧ Le H H',
      ⟨_, 0, rfl, by omega, _, rfl, rfl, rfl, (congrArg (Value.int .i64) (by first | omega | rfl | (simp; done))), oq0, oq, (Own.cast (by first | rfl | (simp; done)) (Own.nil_of none)), (fun b hb => by simp [bk] at hb), (fun b _ hb => by simp [bk] at hb), (fun b _ hb => by simp [bk] at hb), lE⟩, ?_⟩
    rintro n13 σ13 H13 ⟨i, rfl, hiN, u, g0L13, g2L13, g4L13, g11L13, oq0, oq, ou, nu, aq0Xu, aqXu, lE⟩
    try simp only [g0L13, g2L13, g4L13, g11L13]
    have fl := nbF_len num i
    have dv0 : 0 ≤ num / 2 ^ (i : Int).toNat ∧ num / 2 ^ (i : Int).toNat ≤ num := ⟨Int.ediv_nonneg (by omega) (Int.pow_nonneg (by omega)), Int.ediv_le_self _ (by omega)⟩
    refine ob_i (vInt_lss _ _ _) ?_
    refine cnd_d (fun hg14 => ?_) (fun hg14 => ?_)
    · skip
      have ti := hg14
      refine ob_i (oq.fa 2) ?_
      refine ob_i (oq.ld 2 rfl) ?_
      refine ob_i (vInt_shrN (by omega) (by omega)) ?_
      refine ob_i (vInt_and1 (by omega) (by omega)) ?_
      refine bS_i (enc := eI) (l := [(num / 2 ^ ((i : Int) : Int).toNat) % 2]) (by omega) rfl (by kernel_rfl) (fun u15 H16 ou15 nn17 le19 => ?_)
      have aq0Xu15 : Apart q0 u15 := oq0.apart nn17
      have aqXu15 : Apart q u15 := oq.apart nn17
      have auXu15 : Apart u u15 := ou.apart nn17
      have nu15 : Nw H u15 := nn17.le lE
      replace oq0 := oq0.le le19
      replace oq := oq.le le19
      replace ou := ou.le le19
      replace lE := lE.trans le19
      refine apd_any ou ou15.sl (fun _ => rfl) (by omega) (by first | omega | (simp only [List.length_cons, List.length_nil, List.length_append, List.length_replicate, List.length_map, List.length_range]; omega)) (fun u23 H20 ou23 off21 hb22 => ?_)
      have aq0Xu23 : Apart q0 u23 := Apart.ap2 oq0.known aq0Xu hb22
      have aqXu23 : Apart q u23 := Apart.ap2 oq.known aqXu hb22
      have au15Xu23 : Apart u15 u23 := Apart.ap2 ou15.known auXu15.symm hb22
      have nu23 : Nw H u23 := Nw.ap2 nu lE hb22
      replace oq0 := oq0.off off21 aq0Xu
      replace oq := oq.off off21 aqXu
      replace ou15 := ou15.off off21 auXu15.symm
      replace lE := off21.le lE nu
      refine ob_i (oq.fa 2) ?_
      refine oq.st (by simp) ou23.one ou23.cells (fun H24 oq off25 => ?_)
      replace oq0 := oq0.off off25 aq0Xq
      replace ou15 := ou15.off off25 aqXu15.symm
      replace ou23 := ou23.off off25 aqXu23.symm
      replace lE := off25.le lE nq
      replace oq : Cel H24 q [(.int .i64 (2)), (.int .i64 (1)), u23] := oq
      refine ob_i (vInt_add (by omega) (by omega)) ?_
      exact nxt (8 - (i + 1)) (by omega) ⟨i + 1, rfl, by omega, u23, g0L13, g2L13, g4L13, (congrArg (Value.int .i64) (by first | omega | rfl | (simp; done))), oq0, oq, (Own.cast (nbF_succ num i) ou23), nu23, aq0Xu23, aqXu23, lE⟩
    · skip
      have ti := hg14
      obtain rfl : i = 8 := by omega
      exact hJ10 _ _ ⟨u, g2L13, g4L13, oq0, oq, ou, nu, aq0Xu, aqXu, lE⟩
  · skip
    refine cnd_t1 ?_
    refine ob_i (a := (.agg #[(.int .i64 (0)), (.int .i64 (0)), (.slice none 0 0)])) (by rfl) ?_
    refine oq0.stn (ws := [(.int .i64 (0)), (.int .i64 (0)), (.slice none 0 0)]) rfl rfl (oc1 rfl (oc1 rfl (oc1 rfl oc0))) (fun H26 oq0 off27 => ?_)
    replace lE := off27.le lE nq0
    replace oq0 : Cel H26 q0 [(.int .i64 (0)), (.int .i64 (0)), (.slice none 0 0)] := oq0
    refine ob_i (oq0.ldn rfl) ?_
    exfalso; omega
theorem C.impl_NumberOfRule {vt : Value} {T : List Int}  {H : Hp} {K : Value → Hp → Prop} (hvt0 : Sl eI H vt T) (hr : ruleP 2 1 T)
    (hk : ∀ H', Le H H' → K (.tuple #[(.int .i64 (orN T 8)), (.bool true)]) H') : HT prg I.impl_NumberOfRule [(.agg #[(.int .i64 (2)), (.int .i64 (1)), vt])].toArray H K := by
  have lE := Le.refl H
  have hvt := hvt0
  refine R.impl_NumberOfRule ?_
  unfold F.impl_NumberOfRule
  have hr3 := ruleP_len hr
  have hT1 : ∀ x ∈ T, 0 ≤ x ∧ x ≤ 1 := fun x hx => by have := hr.2.2.2 x hx; omega
  have hT8 := rule8 hr
  refine nw_i (fun p1 H2 op1 nn3 le4 => ?_)
  have np1 : Nw H p1 := nn3.le lE
  replace hvt := hvt.le le4
  replace lE := lE.trans le4
  replace op1 : Cel H2 p1 [(.int .i64 (2)), (.int .i64 (1)), vt] := op1
  refine ob_i (op1.ldn rfl) ?_
  refine C.impl_ValidRule hvt (by first | omega | assumption) (fun   H5    le6 => ?_)
  replace op1 := op1.le le6
  replace hvt := hvt.le le6
  replace lE := lE.trans le6
  refine ob_nd (fun hc7 => ?_) (fun hc7 => ?_)
  · skip
    refine gop_rf ?_
    refine ob_i (op1.fa 0) ?_
    refine gop_rf ?_
    refine ob_i (op1.ld 0 rfl) ?_
    refine gop_rf ?_
    refine ob_i (a := .bool false) (by kernel_rfl) ?_
    refine ob_i (vPick_f _ _) ?_
    refine gop_rf ?_
    refine ob_i (op1.fa 1) ?_
    refine gop_rf ?_
    refine ob_i (op1.ld 1 rfl) ?_
    refine gop_rf ?_
    refine ob_i (a := .bool false) (by kernel_rfl) ?_
    refine ob_i (vPick_f _ _) ?_
    refine cnd_f1 ?_
    refine jn_i (fun σ' H' => σ' 4 = (.int .i64 (orN T 8)) ∧ Cel H' p1 [(.int .i64 (2)), (.int .i64 (1)), vt] ∧ Le H H') (fun σ8 H8 hP => ?_) (fun J8 hJ8 => ?_)
    · skip
      obtain ⟨g4L8, op1, lE⟩ := hP
      have hvt := hvt0.le lE
      try simp only [g4L8]
      skip
      exact hk   _    lE
    refine ob_i (op1.fa 2) ?_
    refine ob_i (op1.ld 2 rfl) ?_
    refine ob_i (hvt.len) ?_
    refine ⟨fun n' σ' H' => ∃ i : Nat, n' = 8 - i ∧ i ≤ 8 ∧ σ' 4 = (.int .i64 (orN T i)) ∧ σ' 21 = vt ∧ σ' 22 = (.int .i64 (((T).length : Int))) ∧ σ' 23 = (.int .i64 ((i : Int))) ∧ Cel H' p1 [(.int .i64 (2)), (.int .i64 (1)), vt] ∧ Le H H',
      ⟨_, 0, rfl, by omega, rfl, rfl, rfl, (congrArg (Value.int .i64) (by first | omega | rfl | (simp; done))), op1, lE⟩, ?_⟩
    rintro n9 σ9 H9 ⟨i, rfl, hiN, g4L9, g21L9, g22L9, g23L9, op1, lE⟩
    have hvt := hvt0.le lE
    try simp only [g4L9, g21L9, g22L9, g23L9]
    have ob := orN_bnd hT1 i (by omega)
    have p7 : (2 : Nat) ^ i ≤ 256 := Nat.le_trans (Nat.pow_le_pow_right (by omega) (show i ≤ 8 by omega)) (by decide)
    refine ob_i (vInt_lss _ _ _) ?_
    refine cnd_d (fun hg10 => ?_) (fun hg10 => ?_)
    · skip
      have ti := hg10
      have bs := bit_shl (hT1 _ (at_mem 0 T (i := (i : Int)) (by omega) (by omega))) (i : Int).toNat
      have p8 : (2 : Nat) ^ ((i : Int).toNat + 1) ≤ 256 := Nat.le_trans (Nat.pow_le_pow_right (by omega) (show (i : Int).toNat + 1 ≤ 8 by omega)) (by decide)
      refine ob_i (hvt.ix (by omega) (by omega)) ?_
      refine ob_i (hvt.ld 0 (by omega) (by omega)) ?_
      refine ob_i (vInt_shlN (by omega) (by omega) (by omega) (by omega)) ?_
      refine ob_i (vInt_orN (by omega) (by omega) (by omega) (by omega)) ?_
      refine ob_i (vInt_add (by omega) (by omega)) ?_
      exact nxt (8 - (i + 1)) (by omega) ⟨i + 1, rfl, by omega, rfl, g21L9, g22L9, (congrArg (Value.int .i64) (by first | omega | rfl | (simp; done))), op1, lE⟩
    · skip
      have ti := hg10
      obtain rfl : i = 8 := by omega
      exact hJ8 _ _ ⟨(g4L9.trans (congrArg (Value.int .i64) (by first | omega | rfl | (simp; done)))), op1, lE⟩
  · skip
    exact absurd hc7 (fun h => h hr)
theorem C.impl_ActiveShare {vt : Value} {st rc : Int} {T : List Int}  {H : Hp} {K : Value → Hp → Prop} (hvt0 : Sl eI H vt T) (hr : ruleP st rc T)
    (hk : ∀ z1, FR .f32 (fDiv (fI (czF T T.length)) (fI (T.length : Int))) z1 → ∀ H', Le H H' → K (.tuple #[(.float .f32 z1), (.bool true)]) H') : HT prg I.impl_ActiveShare [(.agg #[(.int .i64 (st)), (.int .i64 (rc)), vt])].toArray H K := by
  have lE := Le.refl H
  have hvt := hvt0
  refine R.impl_ActiveShare ?_
  unfold F.impl_ActiveShare
  have hr1 := hr.1
  have hr2 := hr.2.1
  have hr3 := ruleP_len hr
  have hr4 := hr.2.2.2
  refine nw_i (fun p1 H2 op1 nn3 le4 => ?_)
  have np1 : Nw H p1 := nn3.le lE
  replace hvt := hvt.le le4
  replace lE := lE.trans le4
  replace op1 : Cel H2 p1 [(.int .i64 (st)), (.int .i64 (rc)), vt] := op1
  refine ob_i (op1.ldn rfl) ?_
  refine C.impl_ValidRule hvt (by first | omega | assumption) (fun   H5    le6 => ?_)
  replace op1 := op1.le le6
  replace hvt := hvt.le le6
  replace lE := lE.trans le6
  refine ob_nd (fun hc7 => ?_) (fun hc7 => ?_)
  · skip
    refine cnd_f1 ?_
    refine jn_i (fun σ' H' => σ' 1 = p1 ∧ σ' 4 = (.int .i64 (czF T T.length)) ∧ Cel H' p1 [(.int .i64 (st)), (.int .i64 (rc)), vt] ∧ Le H H' ∧ 0 ≤ czF T T.length ∧ czF T T.length ≤ 1000) (fun σ8 H8 hP => ?_) (fun J8 hJ8 => ?_)
    · skip
      obtain ⟨g1L8, g4L8, op1, lE, ho0⟩ := hP
      have hvt := hvt0.le lE
      try simp only [g1L8, g4L8]
      refine ob_i (a := (.float .f32 (FloatKind.nearest .f32 (czF T T.length)))) rfl ?_
      refine ob_i (op1.fa 2) ?_
      refine ob_i (op1.ld 2 rfl) ?_
      refine ob_i (hvt.len) ?_
      refine ob_i (a := (.float .f32 (FloatKind.nearest .f32 (((T).length : Int))))) rfl ?_
      refine fA_quo (a := (fI (czF T T.length))) (b := (fI (((T).length : Int)))) (FR_some _) (FR_some _) (fun z9 hz9 => ?_)
      skip
      exact hk  z9 (FR_cast (by rfl) hz9)  _    lE
    refine ob_i (op1.fa 2) ?_
    refine ob_i (op1.ld 2 rfl) ?_
    refine ob_i (hvt.len) ?_
    refine ⟨fun n' σ' H' => ∃ i : Nat, n' = T.length - i ∧ i ≤ T.length ∧ σ' 1 = p1 ∧ σ' 4 = (.int .i64 (czF T i)) ∧ σ' 11 = vt ∧ σ' 12 = (.int .i64 (((T).length : Int))) ∧ σ' 13 = (.int .i64 ((i : Int))) ∧ Cel H' p1 [(.int .i64 (st)), (.int .i64 (rc)), vt] ∧ Le H H',
      ⟨_, 0, rfl, by omega, rfl, rfl, rfl, rfl, (congrArg (Value.int .i64) (by first | omega | rfl | (simp; done))), op1, lE⟩, ?_⟩
    rintro n10 σ10 H10 ⟨i, rfl, hiN, g1L10, g4L10, g11L10, g12L10, g13L10, op1, lE⟩
    have hvt := hvt0.le lE
    try simp only [g4L10, g11L10, g12L10, g13L10]
    have cb := czF_bnd T i
    refine ob_i (vInt_lss _ _ _) ?_
    refine cnd_d (fun hg11 => ?_) (fun hg11 => ?_)
    · skip
      have ti := hg11
      refine ob_i (hvt.ix (by omega) (by omega)) ?_
      refine ob_i (hvt.ld 0 (by omega) (by omega)) ?_
      refine ob_i (vInt_neq _ _ _) ?_
      refine cnd_d (fun hg12 => ?_) (fun hg12 => ?_)
      · skip
        refine ob_i (vInt_add (by omega) (by omega)) ?_
        refine ob_i (vInt_add (by omega) (by omega)) ?_
        exact nxt (T.length - (i + 1)) (by omega) ⟨i + 1, rfl, by omega, g1L10, (congrArg (Value.int .i64) (czF_f hg12)), g11L10, g12L10, (congrArg (Value.int .i64) (by first | omega | rfl | (simp; done))), op1, lE⟩
      · skip
        refine ob_i (vInt_add (by omega) (by omega)) ?_
        exact nxt (T.length - (i + 1)) (by omega) ⟨i + 1, rfl, by omega, g1L10, (g4L10.trans (congrArg (Value.int .i64) (czF_t (Decidable.not_not.mp hg12)))), g11L10, g12L10, (congrArg (Value.int .i64) (by first | omega | rfl | (simp; done))), op1, lE⟩
    · skip
      have ti := hg11
      obtain rfl : i = T.length := by omega
      exact hJ8 _ _ ⟨g1L10, (g4L10.trans (congrArg (Value.int .i64) (by first | omega | rfl | (simp; done)))), op1, lE, (by omega)⟩
  · skip
    exact absurd hc7 (fun h => h hr)
theorem C.impl_SumRule {vw : Value} {st : Int} {w : List Int}  {H : Hp} {K : Value → Hp → Prop} (hvw0 : Sl eI H vw w) (hs : st = 2 ∨ st = 3) (hl : (w.length : Int) = 1 ∨ (w.length : Int) = 3 ∨ (w.length : Int) = 5) (hw : ∀ x ∈ w, 0 ≤ x ∧ x ≤ st - 1)
    (hk : ∀ u1 H', Own eI H' u1 (wgL st w) → Nw H u1 → Le H H' → K (.tuple #[(.agg #[(.int .i64 (st)), (.int .i64 ((w.length : Int) / 2)), u1]), (.bool true)]) H') : HT prg I.impl_SumRule [(.int .i64 (st)), vw].toArray H K := by
  have lE := Le.refl H
  have hvw := hvw0
  refine R.impl_SumRule ?_
  unfold F.impl_SumRule
  refine nw_i (fun p1 H2 op1 nn3 le4 => ?_)
  have np1 : Nw H p1 := nn3.le lE
  replace hvw := hvw.le le4
  replace lE := lE.trans le4
  replace op1 : Cel H2 p1 [(.int .i64 (0)), (.int .i64 (0)), (.slice none 0 0)] := op1
  refine C.impl_areStates  (fun   H5    le6 => ?_)
  replace op1 := op1.le le6
  replace hvw := hvw.le le6
  replace lE := lE.trans le6
  refine ob_nd (fun hc7 => ?_) (fun hc7 => ?_)
  · skip
    refine gop_rf ?_
    refine gop_rf ?_
    refine gop_rf ?_
    refine ob_i (vInt_sub (by omega) (by omega)) ?_
    refine gop_rf ?_
    refine C.impl_areMany hvw (by first | omega | assumption) ?_
    refine gop_rf ?_
    refine ob_nd (fun hc8 => ?_) (fun hc8 => ?_)
    · skip
      refine ob_i (vPick_f _ _) ?_
      refine gop_rf ?_
      refine gop_rf ?_
      refine ob_i (hvw.len) ?_
      refine gop_rf ?_
      refine ob_i (vInt_remN (by omega) (by omega)) ?_
      refine gop_rf ?_
      refine ob_i (vInt_eql _ _ _) ?_
      refine ob_i (vPick_f _ _) ?_
      refine cnd_d (fun hg9 => ?_) (fun hg9 => ?_)
      · skip
        refine ob_i (a := (.agg #[(.int .i64 (0)), (.int .i64 (0)), (.slice none 0 0)])) (by rfl) ?_
        refine op1.stn (ws := [(.int .i64 (0)), (.int .i64 (0)), (.slice none 0 0)]) rfl rfl (oc1 rfl (oc1 rfl (oc1 rfl oc0))) (fun H10 op1 off11 => ?_)
        replace hvw := hvw0.le (off11.le lE np1)
        replace lE := off11.le lE np1
        replace op1 : Cel H10 p1 [(.int .i64 (0)), (.int .i64 (0)), (.slice none 0 0)] := op1
        refine ob_i (op1.ldn rfl) ?_
        exfalso
        first | omega | (have hm : (1 ≤ (w.length : Int) ∧ (w.length : Int) ≤ 5) ∧ ∀ x ∈ w, 0 ≤ x ∧ x ≤ st - 1 := ⟨by omega, hw⟩; contradiction)
      · skip
        refine C.impl_weighed hvw (by first | omega | assumption) (by first | omega | assumption) (by first | omega | assumption) (by first | omega | assumption) (by first | omega | assumption) (fun  u14 H12 ou14 nn15  le13 => ?_)
        have ap1Xu14 : Apart p1 u14 := op1.apart nn15
        have nu14 : Nw H u14 := nn15.le lE
        replace op1 := op1.le le13
        replace hvw := hvw.le le13
        replace lE := lE.trans le13
        refine op1.stn (ws := [(.int .i64 (st)), (.int .i64 ((w.length : Int) / 2)), u14]) rfl rfl (oc1 rfl (oc1 rfl (oc1 ou14.one oc0))) (fun H16 op1 off17 => ?_)
        replace ou14 := ou14.off off17 ap1Xu14.symm
        replace hvw := hvw0.le (off17.le lE np1)
        replace lE := off17.le lE np1
        replace op1 : Cel H16 p1 [(.int .i64 (st)), (.int .i64 ((w.length : Int) / 2)), u14] := op1
        refine ob_i (op1.ldn rfl) ?_
        skip
        exact hk  u14 _ ou14 nu14  lE
    · skip
      refine ob_i (vPick_f _ _) ?_
      refine gop_st ?_
      refine gop_st ?_
      refine gop_st ?_
      refine gop_st ?_
      refine ob_i (vPick_t _ _) ?_
      refine cnd_t1 ?_
      refine ob_i (a := (.agg #[(.int .i64 (0)), (.int .i64 (0)), (.slice none 0 0)])) (by rfl) ?_
      refine op1.stn (ws := [(.int .i64 (0)), (.int .i64 (0)), (.slice none 0 0)]) rfl rfl (oc1 rfl (oc1 rfl (oc1 rfl oc0))) (fun H18 op1 off19 => ?_)
      replace hvw := hvw0.le (off19.le lE np1)
      replace lE := off19.le lE np1
      replace op1 : Cel H18 p1 [(.int .i64 (0)), (.int .i64 (0)), (.slice none 0 0)] := op1
      refine ob_i (op1.ldn rfl) ?_
      exfalso
      first | omega | (have hm : (1 ≤ (w.length : Int) ∧ (w.length : Int) ≤ 5) ∧ ∀ x ∈ w, 0 ≤ x ∧ x ≤ st - 1 := ⟨by omega, hw⟩; contradiction)
  · skip
    refine gop_st ?_
    refine gop_st ?_
    refine gop_st ?_
    refine gop_st ?_
    refine gop_st ?_
    refine ob_i (vPick_t _ _) ?_
    refine gop_st ?_
    refine gop_st ?_
    refine gop_st ?_
    refine gop_st ?_
    refine ob_i (vPick_t _ _) ?_
    refine cnd_t1 ?_
    refine ob_i (a := (.agg #[(.int .i64 (0)), (.int .i64 (0)), (.slice none 0 0)])) (by rfl) ?_
    refine op1.stn (ws := [(.int .i64 (0)), (.int .i64 (0)), (.slice none 0 0)]) rfl rfl (oc1 rfl (oc1 rfl (oc1 rfl oc0))) (fun H20 op1 off21 => ?_)
    replace hvw := hvw0.le (off21.le lE np1)
    replace lE := off21.le lE np1
    replace op1 : Cel H20 p1 [(.int .i64 (0)), (.int .i64 (0)), (.slice none 0 0)] := op1
    refine ob_i (op1.ldn rfl) ?_
    exfalso
    first | omega | (have hm : (1 ≤ (w.length : Int) ∧ (w.length : Int) ≤ 5) ∧ ∀ x ∈ w, 0 ≤ x ∧ x ≤ st - 1 := ⟨by omega, hw⟩; contradiction)
theorem C.impl_IsSumRule {vt : Value} {st rc : Int} {T : List Int}  {H : Hp} {K : Value → Hp → Prop} (hvt0 : Sl eI H vt T) (hr : ruleP st rc T)
    (hk : ∀ H', Le H H' → K (.tuple #[(.bool (decide (addP st rc T))), (.bool true)]) H') : HT prg I.impl_IsSumRule [(.agg #[(.int .i64 (st)), (.int .i64 (rc)), vt])].toArray H K := by
  have lE := Le.refl H
  have hvt := hvt0
  refine R.impl_IsSumRule ?_
  unfold F.impl_IsSumRule
  have hr1 := hr.1
  have hr2 := hr.2.1
  have hr3 := ruleP_len hr
  have hr4 := hr.2.2.2
  have tl := tmL_len (st := st) (T := T) hr.2.1.1
  have ti : ∀ x ∈ tmL st rc T, 0 ≤ x ∧ x ≤ st - 1 := tmF_in hr (by omega)
  refine nw_i (fun p1 H2 op1 nn3 le4 => ?_)
  have np1 : Nw H p1 := nn3.le lE
  replace hvt := hvt.le le4
  replace lE := lE.trans le4
  replace op1 : Cel H2 p1 [(.int .i64 (st)), (.int .i64 (rc)), vt] := op1
  refine ob_i (op1.ldn rfl) ?_
  refine C.impl_ValidRule hvt (by first | omega | assumption) (fun   H5    le6 => ?_)
  replace op1 := op1.le le6
  replace hvt := hvt.le le6
  replace lE := lE.trans le6
  refine ob_nd (fun hc7 => ?_) (fun hc7 => ?_)
  · skip
    refine cnd_f1 ?_
    refine ob_i (op1.ldn rfl) ?_
    refine ob_i (op1.fa 0) ?_
    refine ob_i (op1.ld 0 rfl) ?_
    refine ob_i (op1.ldn rfl) ?_
    refine C.impl_Rule_terms hvt (by first | omega | assumption) (fun  u10 H8 ou10 nn11  le9 => ?_)
    have ap1Xu10 : Apart p1 u10 := op1.apart nn11
    have nu10 : Nw H u10 := nn11.le lE
    replace op1 := op1.le le9
    replace hvt := hvt.le le9
    replace lE := lE.trans le9
    refine ⟨le9, ?_⟩
    refine C.impl_weighed ou10.sl (by first | omega | assumption) (by first | omega | assumption) (by exact ti) (by first | omega | assumption) (by first | omega | assumption) (fun  u14 H12 ou14 nn15  le13 => ?_)
    have ap1Xu14 : Apart p1 u14 := op1.apart nn15
    have au10Xu14 : Apart u10 u14 := ou10.apart nn15
    have nu14 : Nw H u14 := nn15.le lE
    replace op1 := op1.le le13
    replace ou10 := ou10.le le13
    replace hvt := hvt.le le13
    replace lE := lE.trans le13
    refine ⟨le13, ?_⟩
    refine C.impl_SameRule hvt ou14.sl (by first | omega | assumption) (fun   H16    le17 => ?_)
    replace op1 := op1.le le17
    replace ou10 := ou10.le le17
    replace ou14 := ou14.le le17
    replace hvt := hvt.le le17
    replace lE := lE.trans le17
    refine ⟨le17, ?_⟩
    skip
    exact keq (K := K) (by rw [show decide (st = st ∧ rc = (((tmL st rc T).length : Int) / 2) ∧ T = (wgL st (tmL st rc T))) = decide (addP st rc T) from decide_eq_decide.mpr (by exact ⟨fun h => h.2.2, fun h => ⟨rfl, by omega, h⟩⟩)]) (hk   _    lE)
  · skip
    exact absurd hc7 (fun h => h hr)
/-- The ring behind some steps. -/
def itL (st rc : Int) (T l : List Int) : Nat → List Int
  | 0 => l
  | n + 1 => stpL st rc T (itL st rc T l n)
theorem itL_ring {st rc : Int} {T l : List Int} (h : ruleP st rc T) (hl : ringP st l) : ∀ n, ringP st (itL st rc T l n)
  | 0 => hl
  | n + 1 => stpL_ring h (itL_ring h hl n)
theorem C.impl_RunRing {vt va : Value} {st rc m : Int} {T : List Int} {l : List Int}  {H : Hp} {K : Value → Hp → Prop} (hvt0 : Sl eI H vt T) (hva0 : Sl eI H va l) (hr : ruleP st rc T) (hg : ringP st l) (m0 : 0 ≤ m) (m1 : m ≤ 1000)
    (hk : ∀ u1 H', Own eI H' u1 (itL st rc T l (m : Int).toNat) → Nw H u1 → Le H H' → K (.tuple #[u1, (.bool true)]) H') : HT prg I.impl_RunRing [(.agg #[(.int .i64 (st)), (.int .i64 (rc)), vt]), va, (.int .i64 (m))].toArray H K := by
  have lE := Le.refl H
  have hvt := hvt0
  have hva := hva0
  refine R.impl_RunRing ?_
  unfold F.impl_RunRing
  have hr1 := hr.1
  have hr2 := hr.2.1
  have hr3 := ruleP_len hr
  have hr4 := hr.2.2.2
  have hg2 := hg.2
  refine nw_i (fun p1 H2 op1 nn3 le4 => ?_)
  have np1 : Nw H p1 := nn3.le lE
  replace hvt := hvt.le le4
  replace hva := hva.le le4
  replace lE := lE.trans le4
  replace op1 : Cel H2 p1 [(.int .i64 (st)), (.int .i64 (rc)), vt] := op1
  refine ob_i (op1.ldn rfl) ?_
  refine bS_i (enc := id) (l := [va]) (by omega) rfl (by obtain ⟨_, _, _, rfl⟩ := hva.isSl; kernel_rfl) (fun u5 H6 ou5 nn7 le8 => ?_)
  have ap1Xu5 : Apart p1 u5 := op1.apart nn7
  have nu5 : Nw H u5 := nn7.le lE
  replace op1 := op1.le le8
  replace hvt := hvt.le le8
  replace hva := hva.le le8
  replace lE := lE.trans le8
  refine C.impl_ringed hvt hva ou5.sl (by first | omega | assumption) (by first | omega | assumption) (fun   H9    le10 => ?_)
  replace op1 := op1.le le10
  replace ou5 := ou5.le le10
  replace hvt := hvt.le le10
  replace hva := hva.le le10
  replace lE := lE.trans le10
  refine ob_nd (fun hc11 => ?_) (fun hc11 => ?_)
  · skip
    refine gop_rf ?_
    refine gop_rf ?_
    refine C.impl_within  ?_
    refine gop_rf ?_
    refine ob_nd (fun hc12 => ?_) (fun hc12 => ?_)
    · skip
      refine ob_i (vPick_f _ _) ?_
      refine cnd_f1 ?_
      refine C.slices_Clone_int64Zint64 hva (by first | omega | assumption) (fun  u15 H13 ou15 nn16  le14 => ?_)
      have ap1Xu15 : Apart p1 u15 := op1.apart nn16
      have au5Xu15 : Apart u5 u15 := ou5.apart nn16
      have nu15 : Nw H u15 := nn16.le lE
      replace op1 := op1.le le14
      replace ou5 := ou5.le le14
      replace hvt := hvt.le le14
      replace hva := hva.le le14
      replace lE := lE.trans le14
      refine jn_i (fun σ' H' => ∃ u, σ' 8 = u ∧ Cel H' p1 [(.int .i64 (st)), (.int .i64 (rc)), vt] ∧ Own id H' u5 ([va]) ∧ Own eI H' u (itL st rc T l (m : Int).toNat) ∧ Nw H u ∧ Apart p1 u ∧ Apart u5 u ∧ Le H H') (fun σ17 H17 hP => ?_) (fun J17 hJ17 => ?_)
      · skip
        obtain ⟨u, g8L17, op1, ou5, ou, nu, ap1Xu, au5Xu, lE⟩ := hP
        have hvt := hvt0.le lE
        have hva := hva0.le lE
        try simp only [g8L17]
        skip
        exact hk  u _ ou nu  lE
      refine ⟨fun n' σ' H' => ∃ i : Nat, n' = m.toNat - i ∧ i ≤ m.toNat ∧ ∃ u, σ' 3 = p1 ∧ σ' 8 = u ∧ σ' 21 = (.int .i64 (m)) ∧ σ' 22 = (.int .i64 ((i : Int))) ∧ Cel H' p1 [(.int .i64 (st)), (.int .i64 (rc)), vt] ∧ Own id H' u5 ([va]) ∧ Own eI H' u (itL st rc T l i) ∧ Nw H u ∧ Apart p1 u ∧ Apart u5 u ∧ Le H H',
        ⟨_, 0, rfl, by omega, u15, rfl, rfl, rfl, (congrArg (Value.int .i64) (by first | omega | rfl | (simp; done))), op1, ou5, (Own.cast (by first | rfl | (simp; done)) ou15), nu15, ap1Xu15, au5Xu15, lE⟩, ?_⟩
      rintro n18 σ18 H18 ⟨i, rfl, hiN, u, g3L18, g8L18, g21L18, g22L18, op1, ou5, ou, nu, ap1Xu, au5Xu, lE⟩
      have hvt := hvt0.le lE
      have hva := hva0.le lE
      try simp only [g3L18, g8L18, g21L18, g22L18]
      have hi := itL_ring hr hg i
      have hi2 := hi.2
      refine ob_i (vInt_lss _ _ _) ?_
      refine cnd_d (fun hg19 => ?_) (fun hg19 => ?_)
      · skip
        have ti := hg19
        refine ob_i (op1.ldn rfl) ?_
        refine C.impl_Rule_step hvt ou.sl (by first | omega | assumption) (by first | omega | assumption) (by first | omega | assumption) (by exact hi.1) (fun  u22 H20 ou22 nn23  le21 => ?_)
        have ap1Xu22 : Apart p1 u22 := op1.apart nn23
        have au5Xu22 : Apart u5 u22 := ou5.apart nn23
        have auXu22 : Apart u u22 := ou.apart nn23
        have nu22 : Nw H u22 := nn23.le lE
        replace op1 := op1.le le21
        replace ou5 := ou5.le le21
        replace ou := ou.le le21
        replace hvt := hvt.le le21
        replace hva := hva.le le21
        replace lE := lE.trans le21
        refine ob_i (vInt_add (by omega) (by omega)) ?_
        exact nxt (m.toNat - (i + 1)) (by omega) ⟨i + 1, rfl, by omega, u22, g3L18, rfl, g21L18, (congrArg (Value.int .i64) (by first | omega | rfl | (simp; done))), op1, ou5, ou22, nu22, ap1Xu22, au5Xu22, lE⟩
      · skip
        have ti := hg19
        obtain rfl : i = m.toNat := by omega
        exact hJ17 _ _ ⟨u, g8L18, op1, ou5, ou, nu, ap1Xu, au5Xu, lE⟩
    · skip
      refine ob_i (vPick_f _ _) ?_
      refine cnd_t1 ?_
      exfalso; omega
  · skip
    exact absurd hc11 (fun h => h ⟨hr, hg⟩)
theorem C.impl_StepRing {vt va : Value} {st rc : Int} {T : List Int} {l : List Int}  {H : Hp} {K : Value → Hp → Prop} (hvt0 : Sl eI H vt T) (hva0 : Sl eI H va l) (hr : ruleP st rc T) (hg : ringP st l)
    (hk : ∀ u1 H', Own eI H' u1 (stpL st rc T l) → Nw H u1 → Le H H' → K (.tuple #[u1, (.bool true)]) H') : HT prg I.impl_StepRing [(.agg #[(.int .i64 (st)), (.int .i64 (rc)), vt]), va].toArray H K := by
  have lE := Le.refl H
  have hvt := hvt0
  have hva := hva0
  refine R.impl_StepRing ?_
  unfold F.impl_StepRing
  refine nw_i (fun p1 H2 op1 nn3 le4 => ?_)
  have np1 : Nw H p1 := nn3.le lE
  replace hvt := hvt.le le4
  replace hva := hva.le le4
  replace lE := lE.trans le4
  replace op1 : Cel H2 p1 [(.int .i64 (st)), (.int .i64 (rc)), vt] := op1
  refine ob_i (op1.ldn rfl) ?_
  refine C.impl_RunRing hvt hva (by first | omega | assumption) (by first | omega | assumption) (by first | omega | assumption) (by first | omega | assumption) (fun  u7 H5 ou7 nn8  le6 => ?_)
  have ap1Xu7 : Apart p1 u7 := op1.apart nn8
  have nu7 : Nw H u7 := nn8.le lE
  replace op1 := op1.le le6
  replace hvt := hvt.le le6
  replace hva := hva.le le6
  replace lE := lE.trans le6
  refine ob_i (vExt_20 _ _) ?_
  refine ob_i (vExt_21 _ _) ?_
  skip
  exact hk  u7 _ (Own.cast (show itL st rc T l (1 : Int).toNat = stpL st rc T l by rfl) ou7) nu7  lE
theorem C.laws_r8Long {vy vm : Value} {l : List Int} {m : List Int}  {H : Hp} {K : Value → Hp → Prop} (hvy0 : Sl eU H vy l) (hvm0 : Sl eU H vm m)
    (hk : ∀ H', Le H H' → K (.bool (decide (48 < l.length ∨ 48 < m.length))) H') : HT prg I.laws_r8Long [vy, vm].toArray H K := by
  have lE := Le.refl H
  have hvy := hvy0
  have hvm := hvm0
  refine R.laws_r8Long ?_
  unfold F.laws_r8Long
  refine ob_i (hvy.len) ?_
  refine ob_i (vInt_gtr _ _ _) ?_
  by_cases hc1 : 48 < (((l).length : Int))
  · skip
    refine gop_e (decide_eq_true hc1) ?_
    refine gop_st ?_
    refine gop_e (decide_eq_true hc1) ?_
    refine gop_st ?_
    refine gop_e (decide_eq_true hc1) ?_
    refine gop_st ?_
    refine ob_i (vPick_et (decide_eq_true hc1) _ _) ?_
    skip
    exact keq (K := K) (by rw [decide_eq_true (show (48 < l.length ∨ 48 < m.length) from by omega)]) (hk   _    lE)
  · skip
    refine gop_e (decide_eq_false hc1) ?_
    refine gop_rf ?_
    refine gop_e (decide_eq_false hc1) ?_
    refine gop_rf ?_
    refine ob_i (hvm.len) ?_
    refine gop_e (decide_eq_false hc1) ?_
    refine gop_rf ?_
    refine ob_i (vInt_gtr _ _ _) ?_
    refine ob_i (vPick_ef (decide_eq_false hc1) _ _) ?_
    skip
    exact keq (K := K) (by rw [show decide (48 < (((m).length : Int))) = decide (48 < l.length ∨ 48 < m.length) from decide_eq_decide.mpr (by omega)]) (hk   _    lE)
theorem C.laws_r8Plus {va vb : Value} {st : Int} {l : List Int} {m : List Int}  {H : Hp} {K : Value → Hp → Prop} (hva0 : Sl eI H va l) (hvb0 : Sl eI H vb m) (s0 : 2 ≤ st) (s1 : st ≤ 3) (ha : ∀ x ∈ l, 0 ≤ x ∧ x ≤ st - 1) (hb : ∀ x ∈ m, 0 ≤ x ∧ x ≤ st - 1) (el : m.length = l.length) (ll : l.length ≤ 64)
    (hk : ∀ u1 H', Own eI H' u1 (plL st l m) → Nw H u1 → Le H H' → K u1 H') : HT prg I.laws_r8Plus [va, vb, (.int .i64 (st))].toArray H K := by
  have lE := Le.refl H
  have hva := hva0
  have hvb := hvb0
  refine R.laws_r8Plus ?_
  unfold F.laws_r8Plus
  refine bS_nil (enc := eI) (fun u1 H2 ou1 nn3 kk4 le5 => ?_)
  have nu1 : Nw H u1 := nn3.le lE
  replace hva := hva.le le5
  replace hvb := hvb.le le5
  replace lE := lE.trans le5
  refine jn_i (fun σ' H' => ∃ u, σ' 7 = u ∧ Own eI H' u (plL st l m) ∧ Nw H u ∧ Le H H') (fun σ6 H6 hP => ?_) (fun J6 hJ6 => ?_)
  · skip
    obtain ⟨u, g7L6, ou, nu, lE⟩ := hP
    have hva := hva0.le lE
    have hvb := hvb0.le lE
    try simp only [g7L6]
    skip
    exact hk  u _ ou nu  lE
  refine ⟨fun n' σ' H' => ∃ i : Nat, n' = l.length - i ∧ i ≤ l.length ∧ ∃ u, σ' 0 = va ∧ σ' 1 = vb ∧ σ' 2 = (.int .i64 (st)) ∧ σ' 7 = u ∧ σ' 8 = (.int .i64 ((i : Int))) ∧ Own eI H' u (plF st l m i) ∧ Nw H u ∧ Le H H',
    ⟨_, 0, rfl, by omega, u1, rfl, rfl, rfl, rfl, (congrArg (Value.int .i64) (by first | omega | rfl | (simp; done))), (Own.cast (by first | rfl | (simp; done)) ou1), nu1, lE⟩, ?_⟩
  rintro n7 σ7 H7 ⟨i, rfl, hiN, u, g0L7, g1L7, g2L7, g7L7, g8L7, ou, nu, lE⟩
  have hva := hva0.le lE
  have hvb := hvb0.le lE
  try simp only [g0L7, g1L7, g2L7, g7L7, g8L7]
  have fl := plF_len st l m i
  refine ob_i (hva.len) ?_
  refine ob_i (vInt_lss _ _ _) ?_
  by_cases hc8 : (i : Int) < (((l).length : Int))
  · skip
    have xa := ha _ (at_mem 0 l (i := (i : Int)) (by omega) (by omega))
    have xb := hb _ (at_mem 0 m (i := (i : Int)) (by omega) (by omega))
    refine gop_e (decide_eq_true hc8) ?_
    refine gop_rt ?_
    refine gop_e (decide_eq_true hc8) ?_
    refine gop_rt ?_
    refine gop_e (decide_eq_true hc8) ?_
    refine gop_rt ?_
    refine ob_i (hvb.len) ?_
    refine gop_e (decide_eq_true hc8) ?_
    refine gop_rt ?_
    refine ob_i (vInt_lss _ _ _) ?_
    refine ob_i (vPick_et (decide_eq_true hc8) _ _) ?_
    refine cnd_d (fun hg9 => ?_) (fun hg9 => ?_)
    · skip
      refine ob_i (hva.ix (by omega) (by omega)) ?_
      refine ob_i (hva.ld 0 (by omega) (by omega)) ?_
      refine ob_i (hvb.ix (by omega) (by omega)) ?_
      refine ob_i (hvb.ld 0 (by omega) (by omega)) ?_
      refine ob_i (vInt_add (by omega) (by omega)) ?_
      have rm10 := And.intro (Int.emod_nonneg ((at_ 0 (l) ((i : Int))) + (at_ 0 (m) ((i : Int)))) (b := st) (by omega)) (Int.emod_lt_of_pos ((at_ 0 (l) ((i : Int))) + (at_ 0 (m) ((i : Int)))) (b := st) (by omega))
      refine ob_i (vInt_remN (by omega) (by omega)) ?_
      refine bS_i (enc := eI) (l := [((at_ 0 (l) ((i : Int))) + (at_ 0 (m) ((i : Int)))) % st]) (by omega) rfl (by kernel_rfl) (fun u11 H12 ou11 nn13 le15 => ?_)
      have auXu11 : Apart u u11 := ou.apart nn13
      have nu11 : Nw H u11 := nn13.le lE
      replace ou := ou.le le15
      replace hva := hva.le le15
      replace hvb := hvb.le le15
      replace lE := lE.trans le15
      refine apd_any ou ou11.sl (fun _ => rfl) (by omega) (by first | omega | (simp only [List.length_cons, List.length_nil, List.length_append, List.length_replicate, List.length_map, List.length_range]; omega)) (fun u19 H16 ou19 off17 hb18 => ?_)
      have au11Xu19 : Apart u11 u19 := Apart.ap2 ou11.known auXu11.symm hb18
      have nu19 : Nw H u19 := Nw.ap2 nu lE hb18
      replace ou11 := ou11.off off17 auXu11.symm
      replace hva := hva0.le (off17.le lE nu)
      replace hvb := hvb0.le (off17.le lE nu)
      replace lE := off17.le lE nu
      refine ob_i (vInt_add (by omega) (by omega)) ?_
      exact nxt (l.length - (i + 1)) (by omega) ⟨i + 1, rfl, by omega, u19, g0L7, g1L7, g2L7, rfl, (congrArg (Value.int .i64) (by first | omega | rfl | (simp; done))), (Own.cast (plF_succ st l m i) ou19), nu19, lE⟩
    · skip
      obtain rfl : i = l.length := by omega
      exact hJ6 _ _ ⟨u, g7L7, ou, nu, lE⟩
  · skip
    refine gop_e (decide_eq_false hc8) ?_
    refine gop_sf ?_
    refine gop_e (decide_eq_false hc8) ?_
    refine gop_sf ?_
    refine gop_e (decide_eq_false hc8) ?_
    refine gop_sf ?_
    refine gop_e (decide_eq_false hc8) ?_
    refine gop_sf ?_
    refine ob_i (vPick_ef (decide_eq_false hc8) _ _) ?_
    refine cnd_f1 ?_
    obtain rfl : i = l.length := by omega
    exact hJ6 _ _ ⟨u, g7L7, ou, nu, lE⟩
theorem C.laws_r8Same {va vb : Value} {l : List Int} {m : List Int}  {H : Hp} {K : Value → Hp → Prop} (hva0 : Sl eI H va l) (hvb0 : Sl eI H vb m) (k1 : l.length ≤ 9223372036854775807)
    (hk : ∀ H', Le H H' → K (.bool (decide (l = m))) H') : HT prg I.laws_r8Same [va, vb].toArray H K := by
  have lE := Le.refl H
  have hva := hva0
  have hvb := hvb0
  refine R.laws_r8Same ?_
  unfold F.laws_r8Same
  refine ob_i (hva.len) ?_
  refine ob_i (hvb.len) ?_
  refine ob_i (vInt_neq _ _ _) ?_
  refine cnd_d (fun hg1 => ?_) (fun hg1 => ?_)
  · skip
    skip
    exact keq (K := K) (by rw [decide_eq_false (show ¬ (l = m) from by intro h; subst h; omega)]) (hk   _    lE)
  · skip
    refine jn_i (fun σ' H' => Le H H' ∧ (∀ j : Nat, j < l.length → at_ 0 l (j : Int) = at_ 0 m (j : Int))) (fun σ2 H2 hP => ?_) (fun J2 hJ2 => ?_)
    · skip
      obtain ⟨lE, ho0⟩ := hP
      have hva := hva0.le lE
      have hvb := hvb0.le lE
      skip
      exact keq (K := K) (by rw [decide_eq_true (show (l = m) from by exact r8_eq (by omega) ho0)]) (hk   _    lE)
    refine ⟨fun n' σ' H' => ∃ i : Nat, n' = l.length - i ∧ i ≤ l.length ∧ σ' 0 = va ∧ σ' 1 = vb ∧ σ' 5 = (.int .i64 ((i : Int))) ∧ Le H H' ∧ (∀ j : Nat, j < i → at_ 0 l (j : Int) = at_ 0 m (j : Int)),
      ⟨_, 0, rfl, by omega, rfl, rfl, (congrArg (Value.int .i64) (by first | omega | rfl | (simp; done))), lE, (fun j hj => by omega)⟩, ?_⟩
    rintro n3 σ3 H3 ⟨i, rfl, hiN, g0L3, g1L3, g5L3, lE, hm0⟩
    have hva := hva0.le lE
    have hvb := hvb0.le lE
    try simp only [g0L3, g1L3, g5L3]
    refine ob_i (hva.len) ?_
    refine ob_i (vInt_lss _ _ _) ?_
    refine cnd_d (fun hg4 => ?_) (fun hg4 => ?_)
    · skip
      have ti := hg4
      refine ob_i (hva.ix (by omega) (by omega)) ?_
      refine ob_i (hva.ld 0 (by omega) (by omega)) ?_
      refine ob_i (hvb.ix (by omega) (by omega)) ?_
      refine ob_i (hvb.ld 0 (by omega) (by omega)) ?_
      refine ob_i (vInt_neq _ _ _) ?_
      refine cnd_d (fun hg5 => ?_) (fun hg5 => ?_)
      · skip
        refine retK (K := K) (v' := (.bool false)) rfl ?_
        skip
        exact keq (K := K) (by rw [decide_eq_false (show ¬ (l = m) from by intro h; subst h; omega)]) (hk   _    lE)
      · skip
        refine ob_i (vInt_add (by omega) (by omega)) ?_
        exact nxt (l.length - (i + 1)) (by omega) ⟨i + 1, rfl, by omega, g0L3, g1L3, (congrArg (Value.int .i64) (by first | omega | rfl | (simp; done))), lE, (r8_snoc hm0 (Decidable.not_not.mp hg5))⟩
    · skip
      have ti := hg4
      exact hJ2 _ _ ⟨lE, (by rw [show l.length = i by omega]; exact hm0)⟩
theorem C.spec_l00Min {a b : Int}  {H : Hp} {K : Value → Hp → Prop}
    (hk : ∀ H', Le H H' → K (.int .i64 (min a b)) H') : HT prg I.spec_l00Min [(.int .i64 (a)), (.int .i64 (b))].toArray H K := by
  have lE := Le.refl H
  refine R.spec_l00Min ?_
  unfold F.spec_l00Min
  refine ob_i (vInt_lss _ _ _) ?_
  refine cnd_d (fun hg1 => ?_) (fun hg1 => ?_)
  · skip
    skip
    exact keq (K := K) (by rw [show ((min a b) : Int) = (a) from by omega]) (hk   _    lE)
  · skip
    skip
    exact keq (K := K) (by rw [show ((min a b) : Int) = (b) from by omega]) (hk   _    lE)
theorem C.spec_l00Max {a b : Int}  {H : Hp} {K : Value → Hp → Prop}
    (hk : ∀ H', Le H H' → K (.int .i64 (max a b)) H') : HT prg I.spec_l00Max [(.int .i64 (a)), (.int .i64 (b))].toArray H K := by
  have lE := Le.refl H
  refine R.spec_l00Max ?_
  unfold F.spec_l00Max
  refine ob_i (vInt_gtr _ _ _) ?_
  refine cnd_d (fun hg1 => ?_) (fun hg1 => ?_)
  · skip
    skip
    exact keq (K := K) (by rw [show ((max a b) : Int) = (a) from by omega]) (hk   _    lE)
  · skip
    skip
    exact keq (K := K) (by rw [show ((max a b) : Int) = (b) from by omega]) (hk   _    lE)
theorem C.spec_R8Ring {vy : Value} {st n : Int} {l : List Int}  {H : Hp} {K : Value → Hp → Prop} (hvy0 : Sl eU H vy l) (hb_vy : bytP l) (hl_vy : l.length ≤ 9223372036854775807) (s0 : 2 ≤ st) (s1 : st ≤ 3) (n0 : 1 ≤ n) (n1 : n ≤ 64)
    (hk : ∀ (ls : List Int), ((ls.length : Int) = n ∧ ∀ x ∈ ls, 0 ≤ x ∧ x ≤ st - 1) → ∀ u1 H', Own eI H' u1 ls → Nw H u1 → Le H H' → K u1 H') : HT prg I.spec_R8Ring [vy, (.int .i64 (st)), (.int .i64 (n))].toArray H K := by
  have lE := Le.refl H
  have hvy := hvy0
  refine R.spec_R8Ring ?_
  unfold F.spec_R8Ring
  refine C.spec_l00From hvy (fun z H1 oz nn2 le3 => ?_)
  have nz : Nw H z := nn2.le lE
  replace hvy := hvy.le le3
  replace lE := lE.trans le3
  replace oz : Cel H1 z [vy, (.int .i64 (0)), (.int .u64 (0))] := oz
  refine R.spec_l02DrawCells ?_
  unfold F.spec_l02DrawCells
  refine bS_nil (enc := eI) (fun u4 H5 ou4 nn6 kk7 le8 => ?_)
  have azXu4 : Apart z u4 := oz.apart nn6
  have nu4 : Nw H u4 := nn6.le lE
  replace oz := oz.le le8
  replace hvy := hvy.le le8
  replace lE := lE.trans le8
  refine jn_i (fun σ' H' => ∃ u, ∃ lu, σ' 7 = u ∧ Own eI H' u (lu) ∧ Nw H u ∧ Le H H' ∧ (lu.length : Int) = n ∧ (∀ x ∈ lu, 0 ≤ x ∧ x ≤ st - 1)) (fun σ9 H9 hP => ?_) (fun J9 hJ9 => ?_)
  · skip
    obtain ⟨u, lu, g7L9, ou, nu, lE, hln, hLa⟩ := hP
    have hvy := hvy0.le lE
    try simp only [g7L9]
    skip
    exact hk  lu (by exact ⟨hln, hLa⟩) u _ ou nu  lE
  refine ⟨fun n' σ' H' => ∃ i : Nat, n' = n.toNat - i ∧ i ≤ n.toNat ∧ ∃ u, ∃ lu, ∃ ats, ∃ sd, σ' 0 = z ∧ σ' 1 = (.int .i64 (st)) ∧ σ' 2 = (.int .i64 (n - (i : Int))) ∧ σ' 7 = u ∧ Cel H' z [vy, (.int .i64 (ats)), (.int .u64 (sd))] ∧ Own eI H' u (lu) ∧ Nw H u ∧ Apart z u ∧ Le H H' ∧ lu.length = i ∧ (∀ x ∈ lu, 0 ≤ x ∧ x ≤ st - 1) ∧ 0 ≤ ats ∧ ats ≤ 2 * (i : Int),
    ⟨_, 0, rfl, by omega, u4, [], 0, 0, rfl, rfl, (congrArg (Value.int .i64) (by first | omega | rfl | (simp; done))), rfl, oz, (Own.cast (by first | rfl | (simp; done)) ou4), nu4, azXu4, lE, rfl, (by simp), ⟨by omega, by omega⟩⟩, ?_⟩
  rintro n10 σ10 H10 ⟨i, rfl, hiN, u, lu, ats, sd, g0L10, g1L10, g2L10, g7L10, oz, ou, nu, azXu, lE, hln, hLa, hat⟩
  have hvy := hvy0.le lE
  try simp only [g0L10, g1L10, g2L10, g7L10]
  refine ob_i (vInt_gtr _ _ _) ?_
  refine cnd_d (fun hg11 => ?_) (fun hg11 => ?_)
  · skip
    have ti := hg11
    refine C.spec_l00Min  (fun   H12    le13 => ?_)
    replace oz := oz.le le13
    replace ou := ou.le le13
    replace hvy := hvy.le le13
    replace lE := lE.trans le13
    refine C.spec_l00Max  (fun   H14    le15 => ?_)
    replace oz := oz.le le15
    replace ou := ou.le le15
    replace hvy := hvy.le le15
    replace lE := lE.trans le15
    refine C.pspec_l00Src_pick hvy0 hb_vy hl_vy lE nz oz (by omega) (by omega) (fun x16 at17 sd18 H19 xp21 xq22 ap23 aq24 oz off20 => ?_)
    replace xq22 := xq22 (by omega)
    replace ou := ou.off off20 azXu.symm
    replace hvy := hvy0.le (off20.le lE nz)
    replace lE := off20.le lE nz
    replace oz : Cel H19 z [vy, (.int .i64 (at17)), (.int .u64 (sd18))] := oz
    refine bS_i (enc := eI) (l := [x16]) (by omega) rfl (by kernel_rfl) (fun u25 H26 ou25 nn27 le29 => ?_)
    have azXu25 : Apart z u25 := oz.apart nn27
    have auXu25 : Apart u u25 := ou.apart nn27
    have nu25 : Nw H u25 := nn27.le lE
    replace oz := oz.le le29
    replace ou := ou.le le29
    replace hvy := hvy.le le29
    replace lE := lE.trans le29
    refine apd_any ou ou25.sl (fun _ => rfl) (by omega) (by first | omega | (simp only [List.length_cons, List.length_nil, List.length_append, List.length_replicate, List.length_map, List.length_range]; omega)) (fun u33 H30 ou33 off31 hb32 => ?_)
    have azXu33 : Apart z u33 := Apart.ap2 oz.known azXu hb32
    have au25Xu33 : Apart u25 u33 := Apart.ap2 ou25.known auXu25.symm hb32
    have nu33 : Nw H u33 := Nw.ap2 nu lE hb32
    replace oz := oz.off off31 azXu
    replace ou25 := ou25.off off31 auXu25.symm
    replace hvy := hvy0.le (off31.le lE nu)
    replace lE := off31.le lE nu
    refine ob_i (vInt_sub (by omega) (by omega)) ?_
    exact nxt (n.toNat - (i + 1)) (by omega) ⟨i + 1, rfl, by omega, u33, (lu ++ ([x16])), (at17), (sd18), g0L10, g1L10, (congrArg (Value.int .i64) (by first | omega | rfl | (simp; done))), rfl, oz, ou33, nu33, azXu33, lE, (by rw [List.length_append, hln]; rfl), (snoc_all hLa (by omega)), ⟨by omega, by omega⟩⟩
  · skip
    have ti := hg11
    exact hJ9 _ _ ⟨u, _, g7L10, ou, nu, lE, (by omega), hLa⟩
theorem C.spec_R8Rule {vy : Value} {st rc : Int} {l : List Int}  {H : Hp} {K : Value → Hp → Prop} (hvy0 : Sl eU H vy l) (hb_vy : bytP l) (hl_vy : l.length ≤ 9223372036854775807) (s0 : 2 ≤ st) (s1 : st ≤ 3) (r0 : 0 ≤ rc) (r1 : rc ≤ 2)
    (hk : ∀ (lT : List Int), (ruleP st rc lT) → ∀ u1 H', Own eI H' u1 lT → Nw H u1 → Le H H' → K (.agg #[(.int .i64 (st)), (.int .i64 (rc)), u1]) H') : HT prg I.spec_R8Rule [vy, (.int .i64 (st)), (.int .i64 (rc))].toArray H K := by
  have lE := Le.refl H
  have hvy := hvy0
  refine R.spec_R8Rule ?_
  unfold F.spec_R8Rule
  have pb := pwr_bnd (b := st) (n := 2 * rc + 1) (by omega) (by omega) (by omega)
  refine nw_i (fun p1 H2 op1 nn3 le4 => ?_)
  have np1 : Nw H p1 := nn3.le lE
  replace hvy := hvy.le le4
  replace lE := lE.trans le4
  replace op1 : Cel H2 p1 [(.int .i64 (0)), (.int .i64 (0)), (.slice none 0 0)] := op1
  refine C.spec_l00From hvy (fun z H5 oz nn6 le7 => ?_)
  have ap1Xz : Apart p1 z := op1.apart nn6
  have nz : Nw H z := nn6.le lE
  replace op1 := op1.le le7
  replace hvy := hvy.le le7
  replace lE := lE.trans le7
  replace oz : Cel H5 z [vy, (.int .i64 (0)), (.int .u64 (0))] := oz
  refine R.spec_l02DrawSidesX ?_
  unfold F.spec_l02DrawSidesX
  refine nw_i (fun q0 H8 oq0 nn9 le10 => ?_)
  have ap1Xq0 : Apart p1 q0 := op1.apart nn9
  have azXq0 : Apart z q0 := oz.apart nn9
  have nq0 : Nw H q0 := nn9.le lE
  replace op1 := op1.le le10
  replace oz := oz.le le10
  replace hvy := hvy.le le10
  replace lE := lE.trans le10
  replace oq0 : Cel H8 q0 [(.int .i64 (0)), (.int .i64 (0)), (.slice none 0 0)] := oq0
  refine ob_i (a := (.agg #[(.int .i64 (st)), (.int .i64 (rc)), (.slice none 0 0)])) (by rfl) ?_
  refine nw_i (fun q H11 oq nn12 le13 => ?_)
  have ap1Xq : Apart p1 q := op1.apart nn12
  have azXq : Apart z q := oz.apart nn12
  have aq0Xq : Apart q0 q := oq0.apart nn12
  have nq : Nw H q := nn12.le lE
  replace op1 := op1.le le13
  replace oz := oz.le le13
  replace oq0 := oq0.le le13
  replace hvy := hvy.le le13
  replace lE := lE.trans le13
  replace oq : Cel H11 q [(.int .i64 (0)), (.int .i64 (0)), (.slice none 0 0)] := oq
  refine oq.stn (ws := [(.int .i64 (st)), (.int .i64 (rc)), (.slice none 0 0)]) rfl rfl (oc1 rfl (oc1 rfl (oc1 rfl oc0))) (fun H14 oq off15 => ?_)
  replace op1 := op1.off off15 ap1Xq
  replace oz := oz.off off15 azXq
  replace oq0 := oq0.off off15 aq0Xq
  replace hvy := hvy0.le (off15.le lE nq)
  replace lE := off15.le lE nq
  replace oq : Cel H14 q [(.int .i64 (st)), (.int .i64 (rc)), (.slice none 0 0)] := oq
  refine jn_i (fun σ' H' => ∃ u, ∃ lu, σ' 6 = q0 ∧ σ' 7 = q ∧ Cel H' p1 [(.int .i64 (0)), (.int .i64 (0)), (.slice none 0 0)] ∧ Cel H' q0 [(.int .i64 (0)), (.int .i64 (0)), (.slice none 0 0)] ∧ Cel H' q [(.int .i64 (st)), (.int .i64 (rc)), u] ∧ Own eI H' u (lu) ∧ Nw H u ∧ Apart p1 u ∧ Apart q0 u ∧ Apart q u ∧ Le H H' ∧ (lu.length : Int) = pwr st (2 * rc + 1) ∧ (∀ x ∈ lu, 0 ≤ x ∧ x ≤ st - 1)) (fun σ16 H16 hP => ?_) (fun J16 hJ16 => ?_)
  · skip
    obtain ⟨u, lu, g6L16, g7L16, op1, oq0, oq, ou, nu, ap1Xu, aq0Xu, aqXu, lE, hln, hLa⟩ := hP
    have hvy := hvy0.le lE
    try simp only [g6L16, g7L16]
    refine ob_i (oq.ldn rfl) ?_
    refine oq0.stn (ws := [(.int .i64 (st)), (.int .i64 (rc)), u]) rfl rfl (oc1 rfl (oc1 rfl (oc1 ou.one oc0))) (fun H17 oq0 off18 => ?_)
    replace op1 := op1.off off18 ap1Xq0
    replace oq := oq.off off18 aq0Xq.symm
    replace ou := ou.off off18 aq0Xu.symm
    replace hvy := hvy0.le (off18.le lE nq0)
    replace lE := off18.le lE nq0
    replace oq0 : Cel H17 q0 [(.int .i64 (st)), (.int .i64 (rc)), u] := oq0
    refine ob_i (oq0.ldn rfl) ?_
    refine op1.stn (ws := [(.int .i64 (st)), (.int .i64 (rc)), u]) rfl rfl (oc1 rfl (oc1 rfl (oc1 ou.one oc0))) (fun H19 op1 off20 => ?_)
    replace oq0 := oq0.off off20 ap1Xq0.symm
    replace oq := oq.off off20 ap1Xq.symm
    replace ou := ou.off off20 ap1Xu.symm
    replace hvy := hvy0.le (off20.le lE np1)
    replace lE := off20.le lE np1
    replace op1 : Cel H19 p1 [(.int .i64 (st)), (.int .i64 (rc)), u] := op1
    refine ob_i (op1.ldn rfl) ?_
    skip
    exact hk  lu (by exact ⟨by omega, ⟨by omega, by omega⟩, hln, hLa⟩) u _ ou nu  lE
  refine ob_i (vInt_mul (by omega) (by omega)) ?_
  refine ob_i (vInt_add (by omega) (by omega)) ?_
  refine C.spec_l02Powers (by first | omega | assumption) (by first | omega | assumption) (by first | omega | assumption) (by first | omega | assumption) (fun   H21    le22 => ?_)
  replace op1 := op1.le le22
  replace oz := oz.le le22
  replace oq0 := oq0.le le22
  replace oq := oq.le le22
  replace hvy := hvy.le le22
  replace lE := lE.trans le22
  refine ⟨fun n' σ' H' => ∃ i : Nat, n' = (pwr st (2 * rc + 1)).toNat - i ∧ i ≤ (pwr st (2 * rc + 1)).toNat ∧ ∃ u, ∃ lu, ∃ ats, ∃ sd, σ' 0 = z ∧ σ' 1 = (.int .i64 (st)) ∧ σ' 6 = q0 ∧ σ' 7 = q ∧ σ' 8 = (.int .i64 (pwr st (2 * rc + 1) - (i : Int))) ∧ Cel H' p1 [(.int .i64 (0)), (.int .i64 (0)), (.slice none 0 0)] ∧ Cel H' z [vy, (.int .i64 (ats)), (.int .u64 (sd))] ∧ Cel H' q0 [(.int .i64 (0)), (.int .i64 (0)), (.slice none 0 0)] ∧ Cel H' q [(.int .i64 (st)), (.int .i64 (rc)), u] ∧ Own eI H' u (lu) ∧ Nw H u ∧ Apart p1 u ∧ Apart z u ∧ Apart q0 u ∧ Apart q u ∧ Le H H' ∧ lu.length = i ∧ (∀ x ∈ lu, 0 ≤ x ∧ x ≤ st - 1) ∧ 0 ≤ ats ∧ ats ≤ 2 * (i : Int),
    ⟨_, 0, rfl, by omega, _, [], 0, 0, rfl, rfl, rfl, rfl, (congrArg (Value.int .i64) (by first | omega | rfl | (simp; done))), op1, oz, oq0, oq, (Own.cast (by first | rfl | (simp; done)) (Own.nil_of none)), (fun b hb => by simp [bk] at hb), (fun b _ hb => by simp [bk] at hb), (fun b _ hb => by simp [bk] at hb), (fun b _ hb => by simp [bk] at hb), (fun b _ hb => by simp [bk] at hb), lE, rfl, (by simp), ⟨by omega, by omega⟩⟩, ?_⟩
  rintro n23 σ23 H23 ⟨i, rfl, hiN, u, lu, ats, sd, g0L23, g1L23, g6L23, g7L23, g8L23, op1, oz, oq0, oq, ou, nu, ap1Xu, azXu, aq0Xu, aqXu, lE, hln, hLa, hat⟩
  have hvy := hvy0.le lE
  try simp only [g0L23, g1L23, g6L23, g7L23, g8L23]
  refine ob_i (vInt_gtr _ _ _) ?_
  refine cnd_d (fun hg24 => ?_) (fun hg24 => ?_)
  · skip
    have ti := hg24
    refine ⟨?_, ?_⟩
    · skip
      refine ob_i (oq.fa 2) ?_
      refine ob_i (oq.ld 2 rfl) ?_
      refine C.pspec_l00Src_pick hvy0 hb_vy hl_vy lE nz oz (by omega) (by omega) (fun x25 at26 sd27 H28 xp30 xq31 ap32 aq33 oz off29 => ?_)
      replace xq31 := xq31 (by omega)
      replace op1 := op1.off off29 ap1Xz
      replace oq0 := oq0.off off29 azXq0.symm
      replace oq := oq.off off29 azXq.symm
      replace ou := ou.off off29 azXu.symm
      replace hvy := hvy0.le (off29.le lE nz)
      replace lE := off29.le lE nz
      replace oz : Cel H28 z [vy, (.int .i64 (at26)), (.int .u64 (sd27))] := oz
      refine bS_i (enc := eI) (l := [x25]) (by omega) rfl (by kernel_rfl) (fun u34 H35 ou34 nn36 le38 => ?_)
      have ap1Xu34 : Apart p1 u34 := op1.apart nn36
      have azXu34 : Apart z u34 := oz.apart nn36
      have aq0Xu34 : Apart q0 u34 := oq0.apart nn36
      have aqXu34 : Apart q u34 := oq.apart nn36
      have auXu34 : Apart u u34 := ou.apart nn36
      have nu34 : Nw H u34 := nn36.le lE
      replace op1 := op1.le le38
      replace oz := oz.le le38
      replace oq0 := oq0.le le38
      replace oq := oq.le le38
      replace ou := ou.le le38
      replace hvy := hvy.le le38
      replace lE := lE.trans le38
      refine apd_any ou ou34.sl (fun _ => rfl) (by omega) (by first | omega | (simp only [List.length_cons, List.length_nil, List.length_append, List.length_replicate, List.length_map, List.length_range]; omega)) (fun u42 H39 ou42 off40 hb41 => ?_)
      have ap1Xu42 : Apart p1 u42 := Apart.ap2 op1.known ap1Xu hb41
      have azXu42 : Apart z u42 := Apart.ap2 oz.known azXu hb41
      have aq0Xu42 : Apart q0 u42 := Apart.ap2 oq0.known aq0Xu hb41
      have aqXu42 : Apart q u42 := Apart.ap2 oq.known aqXu hb41
      have au34Xu42 : Apart u34 u42 := Apart.ap2 ou34.known auXu34.symm hb41
      have nu42 : Nw H u42 := Nw.ap2 nu lE hb41
      replace op1 := op1.off off40 ap1Xu
      replace oz := oz.off off40 azXu
      replace oq0 := oq0.off off40 aq0Xu
      replace oq := oq.off off40 aqXu
      replace ou34 := ou34.off off40 auXu34.symm
      replace hvy := hvy0.le (off40.le lE nu)
      replace lE := off40.le lE nu
      refine ob_i (oq.fa 2) ?_
      refine oq.st (by simp) ou42.one ou42.cells (fun H43 oq off44 => ?_)
      replace op1 := op1.off off44 ap1Xq
      replace oz := oz.off off44 azXq
      replace oq0 := oq0.off off44 aq0Xq
      replace ou34 := ou34.off off44 aqXu34.symm
      replace ou42 := ou42.off off44 aqXu42.symm
      replace hvy := hvy0.le (off44.le lE nq)
      replace lE := off44.le lE nq
      replace oq : Cel H43 q [(.int .i64 (st)), (.int .i64 (rc)), u42] := oq
      refine ob_i (vInt_sub (by omega) (by omega)) ?_
      exact nxt ((pwr st (2 * rc + 1)).toNat - (i + 1)) (by omega) ⟨i + 1, rfl, by omega, u42, (lu ++ ([x25])), (at26), (sd27), g0L23, g1L23, g6L23, g7L23, (congrArg (Value.int .i64) (by first | omega | rfl | (simp; done))), op1, oz, oq0, oq, ou42, nu42, ap1Xu42, azXu42, aq0Xu42, aqXu42, lE, (by rw [List.length_append, hln]; rfl), (snoc_all hLa (by omega)), ⟨by omega, by omega⟩⟩
    · skip
      refine ob_i (oq.fa 2) ?_
      refine C.pspec_l00Src_pick hvy0 hb_vy hl_vy lE nz oz (by omega) (by omega) (fun x45 at46 sd47 H48 xp50 xq51 ap52 aq53 oz off49 => ?_)
      replace xq51 := xq51 (by omega)
      replace op1 := op1.off off49 ap1Xz
      replace oq0 := oq0.off off49 azXq0.symm
      replace oq := oq.off off49 azXq.symm
      replace ou := ou.off off49 azXu.symm
      replace hvy := hvy0.le (off49.le lE nz)
      replace lE := off49.le lE nz
      replace oz : Cel H48 z [vy, (.int .i64 (at46)), (.int .u64 (sd47))] := oz
      refine ob_i (oq.ld 2 rfl) ?_
      refine bS_i (enc := eI) (l := [x45]) (by omega) rfl (by kernel_rfl) (fun u54 H55 ou54 nn56 le58 => ?_)
      have ap1Xu54 : Apart p1 u54 := op1.apart nn56
      have azXu54 : Apart z u54 := oz.apart nn56
      have aq0Xu54 : Apart q0 u54 := oq0.apart nn56
      have aqXu54 : Apart q u54 := oq.apart nn56
      have auXu54 : Apart u u54 := ou.apart nn56
      have nu54 : Nw H u54 := nn56.le lE
      replace op1 := op1.le le58
      replace oz := oz.le le58
      replace oq0 := oq0.le le58
      replace oq := oq.le le58
      replace ou := ou.le le58
      replace hvy := hvy.le le58
      replace lE := lE.trans le58
      refine apd_any ou ou54.sl (fun _ => rfl) (by omega) (by first | omega | (simp only [List.length_cons, List.length_nil, List.length_append, List.length_replicate, List.length_map, List.length_range]; omega)) (fun u62 H59 ou62 off60 hb61 => ?_)
      have ap1Xu62 : Apart p1 u62 := Apart.ap2 op1.known ap1Xu hb61
      have azXu62 : Apart z u62 := Apart.ap2 oz.known azXu hb61
      have aq0Xu62 : Apart q0 u62 := Apart.ap2 oq0.known aq0Xu hb61
      have aqXu62 : Apart q u62 := Apart.ap2 oq.known aqXu hb61
      have au54Xu62 : Apart u54 u62 := Apart.ap2 ou54.known auXu54.symm hb61
      have nu62 : Nw H u62 := Nw.ap2 nu lE hb61
      replace op1 := op1.off off60 ap1Xu
      replace oz := oz.off off60 azXu
      replace oq0 := oq0.off off60 aq0Xu
      replace oq := oq.off off60 aqXu
      replace ou54 := ou54.off off60 auXu54.symm
      replace hvy := hvy0.le (off60.le lE nu)
      replace lE := off60.le lE nu
      refine ob_i (oq.fa 2) ?_
      refine oq.st (by simp) ou62.one ou62.cells (fun H63 oq off64 => ?_)
      replace op1 := op1.off off64 ap1Xq
      replace oz := oz.off off64 azXq
      replace oq0 := oq0.off off64 aq0Xq
      replace ou54 := ou54.off off64 aqXu54.symm
      replace ou62 := ou62.off off64 aqXu62.symm
      replace hvy := hvy0.le (off64.le lE nq)
      replace lE := off64.le lE nq
      replace oq : Cel H63 q [(.int .i64 (st)), (.int .i64 (rc)), u62] := oq
      refine ob_i (vInt_sub (by omega) (by omega)) ?_
      exact nxt ((pwr st (2 * rc + 1)).toNat - (i + 1)) (by omega) ⟨i + 1, rfl, by omega, u62, (lu ++ ([x45])), (at46), (sd47), g0L23, g1L23, g6L23, g7L23, (congrArg (Value.int .i64) (by first | omega | rfl | (simp; done))), op1, oz, oq0, oq, ou62, nu62, ap1Xu62, azXu62, aq0Xu62, aqXu62, lE, (by rw [List.length_append, hln]; rfl), (snoc_all hLa (by omega)), ⟨by omega, by omega⟩⟩
  · skip
    have ti := hg24
    exact hJ16 _ _ ⟨u, _, g6L23, g7L23, op1, oq0, oq, ou, nu, ap1Xu, aq0Xu, aqXu, lE, (by omega), hLa⟩
theorem C.impl_reversed {va : Value} {l : List Int}  {H : Hp} {K : Value → Hp → Prop} (hva0 : Sl eI H va l) (l3 : l.length = 3)
    (hk : ∀ u1 H', Own eI H' u1 (rv3 l 1) → Nw H u1 → Le H H' → K u1 H') : HT prg I.impl_reversed [va].toArray H K := by
  have lE := Le.refl H
  have hva := hva0
  refine R.impl_reversed ?_
  unfold F.impl_reversed
  refine C.slices_Clone_int64Zint64 hva (by first | omega | assumption) (fun  u H1 ou nn3  le2 => ?_)
  have nu : Nw H u := nn3.le lE
  replace hva := hva.le le2
  replace lE := lE.trans le2
  refine R.slices_Reverse_int64Zint64 ?_
  unfold F.slices_Reverse_int64Zint64
  refine ob_i (ou.len) ?_
  refine ob_i (vInt_sub (by omega) (by omega)) ?_
  refine ⟨fun n' σ' H' => ∃ i : Nat, n' = 1 - i ∧ i ≤ 1 ∧ σ' 0 = u ∧ σ' 2 = (.int .i64 ((i : Int))) ∧ σ' 3 = (.int .i64 (2 - (i : Int))) ∧ Own eI H' u (rv3 l i) ∧ Le H H',
    ⟨_, 0, rfl, by omega, rfl, (congrArg (Value.int .i64) (by first | omega | rfl | (simp; done))), (congrArg (Value.int .i64) (by first | omega | rfl | (simp; done))), ou, lE⟩, ?_⟩
  rintro n4 σ4 H4 ⟨i, rfl, hiN, g0L4, g2L4, g3L4, ou, lE⟩
  have hva := hva0.le lE
  try simp only [g0L4, g2L4, g3L4]
  have rl : (rv3 l i).length = 3 := by cases i with
      | zero => exact l3
      | succ _ => rfl
  refine ob_i (vInt_lss _ _ _) ?_
  refine cnd_d (fun hg5 => ?_) (fun hg5 => ?_)
  · skip
    have ti := hg5
    have i00 : i = 0 := by omega
    have sl1 : ((rv3 l i).set (i : Int).toNat (at_ 0 (rv3 l i) (2 - (i : Int)))).length = 3 := by rw [List.length_set]; exact rl
    refine ob_i (ou.sl.ix (by omega) (by omega)) ?_
    refine ob_i (ou.sl.ld 0 (by omega) (by omega)) ?_
    refine ob_i (ou.sl.ix (by omega) (by omega)) ?_
    refine ob_i (ou.sl.ld 0 (by omega) (by omega)) ?_
    refine ob_i (ou.sl.ix (by omega) (by omega)) ?_
    refine ou.st (x := at_ 0 (rv3 l i) (2 - (i : Int))) (by omega) (by omega) rfl rfl (fun H6 ou off7 => ?_)
    replace hva := hva0.le (off7.le lE nu)
    replace lE := off7.le lE nu
    refine ob_i (ou.sl.ix (by omega) (by omega)) ?_
    refine ou.st (x := at_ 0 (rv3 l i) ((i : Int))) (by omega) (by omega) rfl rfl (fun H8 ou off9 => ?_)
    replace hva := hva0.le (off9.le lE nu)
    replace lE := off9.le lE nu
    refine ob_i (vInt_add (by omega) (by omega)) ?_
    refine ob_i (vInt_sub (by omega) (by omega)) ?_
    exact nxt (1 - (i + 1)) (by omega) ⟨i + 1, rfl, by omega, g0L4, (congrArg (Value.int .i64) (by first | omega | rfl | (simp; done))), (congrArg (Value.int .i64) (by first | omega | rfl | (simp; done))), (Own.cast (by subst i00; first | exact (rv3_set l3).1 | exact (rv3_set l3).2) ou), lE⟩
  · skip
    have ti := hg5
    skip
    exact hk  u _ (Own.cast (show rv3 l i = rv3 l 1 by rw [show i = 1 by omega]) ou) nu  lE
theorem C.impl_MirrorRule_1 {p vt va : Value} {st : Int} {T : List Int} {l : List Int}  {H : Hp} {K : Value → Hp → Prop} (hp0 : Cel H p [(.int .i64 (st)), (.int .i64 (1)), vt]) (hvt0 : Sl eI H vt T) (hva0 : Sl eI H va l) (hr : ruleP st 1 T) (he : ∀ x ∈ l, 0 ≤ x ∧ x ≤ st - 1) (l3 : l.length = 3)
    (hk : ∀ H', Le H H' → K (.int .i64 (zrN st T (rv3 l 1))) H') : HT prg I.impl_MirrorRule_1 [va, p].toArray H K := by
  have lE := Le.refl H
  have hp := hp0
  have hvt := hvt0
  have hva := hva0
  refine R.impl_MirrorRule_1 ?_
  unfold F.impl_MirrorRule_1
  refine ob_i (hp.ldn rfl) ?_
  refine C.impl_reversed hva (by first | omega | assumption) (fun  u3 H1 ou3 nn4  le2 => ?_)
  have nu3 : Nw H u3 := nn4.le lE
  replace hp := hp.le le2
  replace hvt := hvt.le le2
  replace hva := hva.le le2
  replace lE := lE.trans le2
  refine ⟨le2, ?_⟩
  refine C.impl_Rule_tells hvt ou3.sl (by first | omega | assumption) (by exact rv3_in (p := fun x => 0 ≤ x ∧ x ≤ st - 1) l3 he) (by rw [show (rv3 l 1).length = 3 from rfl]; omega) (fun   H5    le6 => ?_)
  replace ou3 := ou3.le le6
  replace hp := hp.le le6
  replace hvt := hvt.le le6
  replace hva := hva.le le6
  replace lE := lE.trans le6
  refine ⟨le6, ?_⟩
  skip
  exact hk   _    lE
theorem C.impl_MirrorRule {vt : Value} {st : Int} {T : List Int}  {H : Hp} {K : Value → Hp → Prop} (hvt0 : Sl eI H vt T) (hr : ruleP st 1 T)
    (hk : ∀ u1 H', Own eI H' u1 (mirF st T (pwr st 3).toNat) → Nw H u1 → Le H H' → K (.tuple #[(.agg #[(.int .i64 (st)), (.int .i64 (1)), u1]), (.bool true)]) H') : HT prg I.impl_MirrorRule [(.agg #[(.int .i64 (st)), (.int .i64 (1)), vt])].toArray H K := by
  have lE := Le.refl H
  have hvt := hvt0
  refine R.impl_MirrorRule ?_
  unfold F.impl_MirrorRule
  have hr1 := hr.1
  have hr3 := ruleP_len hr
  have hr4 := hr.2.2.2
  have pb := pwr_bnd (b := st) (n := 3) (by omega) (by omega) (by omega)
  have p3 : pwr st (2 * 1 + 1) = pwr st 3 := rfl
  have hl3 : T.length = (pwr st 3).toNat := by have := hr.2.2.1; omega
  refine nw_i (fun p1 H2 op1 nn3 le4 => ?_)
  have np1 : Nw H p1 := nn3.le lE
  replace hvt := hvt.le le4
  replace lE := lE.trans le4
  replace op1 : Cel H2 p1 [(.int .i64 (st)), (.int .i64 (1)), vt] := op1
  refine nw_i (fun p5 H6 op5 nn7 le8 => ?_)
  have ap1Xp5 : Apart p1 p5 := op1.apart nn7
  have np5 : Nw H p5 := nn7.le lE
  replace op1 := op1.le le8
  replace hvt := hvt.le le8
  replace lE := lE.trans le8
  replace op5 : Cel H6 p5 [(.int .i64 (0)), (.int .i64 (0)), (.slice none 0 0)] := op5
  refine ob_i (op1.ldn rfl) ?_
  refine C.impl_ValidRule hvt (by first | omega | assumption) (fun   H9    le10 => ?_)
  replace op1 := op1.le le10
  replace op5 := op5.le le10
  replace hvt := hvt.le le10
  replace lE := lE.trans le10
  refine ob_nd (fun hc11 => ?_) (fun hc11 => ?_)
  · skip
    refine cnd_f1 ?_
    refine ob_i (op1.fa 0) ?_
    refine ob_i (op1.ld 0 rfl) ?_
    refine ob_i (op1.fa 1) ?_
    refine ob_i (op1.ld 1 rfl) ?_
    refine R.impl_made ?_
    unfold F.impl_made
    refine nw_i (fun q0 H12 oq0 nn13 le14 => ?_)
    have ap1Xq0 : Apart p1 q0 := op1.apart nn13
    have ap5Xq0 : Apart p5 q0 := op5.apart nn13
    have nq0 : Nw H q0 := nn13.le lE
    replace op1 := op1.le le14
    replace op5 := op5.le le14
    replace hvt := hvt.le le14
    replace lE := lE.trans le14
    replace oq0 : Cel H12 q0 [(.int .i64 (0)), (.int .i64 (0)), (.slice none 0 0)] := oq0
    refine ob_i (a := (.agg #[(.int .i64 (st)), (.int .i64 (1)), (.slice none 0 0)])) (by rfl) ?_
    refine nw_i (fun q H15 oq nn16 le17 => ?_)
    have ap1Xq : Apart p1 q := op1.apart nn16
    have ap5Xq : Apart p5 q := op5.apart nn16
    have aq0Xq : Apart q0 q := oq0.apart nn16
    have nq : Nw H q := nn16.le lE
    replace op1 := op1.le le17
    replace op5 := op5.le le17
    replace oq0 := oq0.le le17
    replace hvt := hvt.le le17
    replace lE := lE.trans le17
    replace oq : Cel H15 q [(.int .i64 (0)), (.int .i64 (0)), (.slice none 0 0)] := oq
    refine oq.stn (ws := [(.int .i64 (st)), (.int .i64 (1)), (.slice none 0 0)]) rfl rfl (oc1 rfl (oc1 rfl (oc1 rfl oc0))) (fun H18 oq off19 => ?_)
    replace op1 := op1.off off19 ap1Xq
    replace op5 := op5.off off19 ap5Xq
    replace oq0 := oq0.off off19 aq0Xq
    replace hvt := hvt0.le (off19.le lE nq)
    replace lE := off19.le lE nq
    replace oq : Cel H18 q [(.int .i64 (st)), (.int .i64 (1)), (.slice none 0 0)] := oq
    refine jn_i (fun σ' H' => ∃ u, σ' 6 = q0 ∧ σ' 7 = q ∧ Cel H' p1 [(.int .i64 (st)), (.int .i64 (1)), vt] ∧ Cel H' p5 [(.int .i64 (0)), (.int .i64 (0)), (.slice none 0 0)] ∧ Cel H' q0 [(.int .i64 (0)), (.int .i64 (0)), (.slice none 0 0)] ∧ Cel H' q [(.int .i64 (st)), (.int .i64 (1)), u] ∧ Own eI H' u (mirF st T (pwr st 3).toNat) ∧ Nw H u ∧ Apart p1 u ∧ Apart p5 u ∧ Apart q0 u ∧ Apart q u ∧ Le H H') (fun σ20 H20 hP => ?_) (fun J20 hJ20 => ?_)
    · skip
      obtain ⟨u, g6L20, g7L20, op1, op5, oq0, oq, ou, nu, ap1Xu, ap5Xu, aq0Xu, aqXu, lE⟩ := hP
      have hvt := hvt0.le lE
      try simp only [g6L20, g7L20]
      refine ob_i (oq.ldn rfl) ?_
      refine oq0.stn (ws := [(.int .i64 (st)), (.int .i64 (1)), u]) rfl rfl (oc1 rfl (oc1 rfl (oc1 ou.one oc0))) (fun H21 oq0 off22 => ?_)
      replace op1 := op1.off off22 ap1Xq0
      replace op5 := op5.off off22 ap5Xq0
      replace oq := oq.off off22 aq0Xq.symm
      replace ou := ou.off off22 aq0Xu.symm
      replace hvt := hvt0.le (off22.le lE nq0)
      replace lE := off22.le lE nq0
      replace oq0 : Cel H21 q0 [(.int .i64 (st)), (.int .i64 (1)), u] := oq0
      refine ob_i (oq0.ldn rfl) ?_
      refine op5.stn (ws := [(.int .i64 (st)), (.int .i64 (1)), u]) rfl rfl (oc1 rfl (oc1 rfl (oc1 ou.one oc0))) (fun H23 op5 off24 => ?_)
      replace op1 := op1.off off24 ap1Xp5
      replace oq0 := oq0.off off24 ap5Xq0.symm
      replace oq := oq.off off24 ap5Xq.symm
      replace ou := ou.off off24 ap5Xu.symm
      replace hvt := hvt0.le (off24.le lE np5)
      replace lE := off24.le lE np5
      replace op5 : Cel H23 p5 [(.int .i64 (st)), (.int .i64 (1)), u] := op5
      refine ob_i (op5.ldn rfl) ?_
      skip
      exact hk  u _ ou nu  lE
    refine ob_i (oq.ldn rfl) ?_
    refine C.impl_Rule_cells (Sl.nil 0 none) (by first | omega | assumption) (by first | omega | assumption) (fun   H25    le26 => ?_)
    replace op1 := op1.le le26
    replace op5 := op5.le le26
    replace oq0 := oq0.le le26
    replace oq := oq.le le26
    replace hvt := hvt.le le26
    replace lE := lE.trans le26
    refine C.impl_raised (by first | omega | assumption) (by first | omega | assumption) (by first | omega | assumption) (by first | omega | assumption) (fun   H27    le28 => ?_)
    replace op1 := op1.le le28
    replace op5 := op5.le le28
    replace oq0 := oq0.le le28
    replace oq := oq.le le28
    replace hvt := hvt.le le28
    replace lE := lE.trans le28
    refine ⟨fun n' σ' H' => ∃ i : Nat, n' = (pwr st 3).toNat - i ∧ i ≤ (pwr st 3).toNat ∧ ∃ u, σ' 0 = (.int .i64 (st)) ∧ σ' 2 = (.func (.func I.impl_MirrorRule_1) #[] #[p1]) ∧ σ' 6 = q0 ∧ σ' 7 = q ∧ σ' 15 = (.int .i64 (pwr st (2 * 1 + 1))) ∧ σ' 16 = (.int .i64 ((i : Int))) ∧ Cel H' p1 [(.int .i64 (st)), (.int .i64 (1)), vt] ∧ Cel H' p5 [(.int .i64 (0)), (.int .i64 (0)), (.slice none 0 0)] ∧ Cel H' q0 [(.int .i64 (0)), (.int .i64 (0)), (.slice none 0 0)] ∧ Cel H' q [(.int .i64 (st)), (.int .i64 (1)), u] ∧ Own eI H' u (mirF st T i) ∧ Nw H u ∧ Apart p1 u ∧ Apart p5 u ∧ Apart q0 u ∧ Apart q u ∧ Le H H',
      ⟨_, 0, rfl, by omega, _, rfl, rfl, rfl, rfl, rfl, (congrArg (Value.int .i64) (by first | omega | rfl | (simp; done))), op1, op5, oq0, oq, (Own.cast (by first | rfl | (simp; done)) (Own.nil_of none)), (fun b hb => by simp [bk] at hb), (fun b _ hb => by simp [bk] at hb), (fun b _ hb => by simp [bk] at hb), (fun b _ hb => by simp [bk] at hb), (fun b _ hb => by simp [bk] at hb), lE⟩, ?_⟩
    rintro n29 σ29 H29 ⟨i, rfl, hiN, u, g0L29, g2L29, g6L29, g7L29, g15L29, g16L29, op1, op5, oq0, oq, ou, nu, ap1Xu, ap5Xu, aq0Xu, aqXu, lE⟩
    have hvt := hvt0.le lE
    try simp only [g0L29, g2L29, g6L29, g7L29, g15L29, g16L29]
    have fl := mirF_len st T i
    have dl := digL_len (i : Int) st 3
    have di := digL_in (n := (i : Int)) (b := st) (k := 3) (by omega)
    refine ob_i (vInt_lss _ _ _) ?_
    refine cnd_d (fun hg30 => ?_) (fun hg30 => ?_)
    · skip
      have ti := hg30
      refine ob_i (oq.fa 2) ?_
      refine ob_i (oq.ld 2 rfl) ?_
      refine ob_i (oq.ldn rfl) ?_
      refine C.impl_Rule_cells ou.sl (by first | omega | assumption) (by first | omega | assumption) (fun   H31    le32 => ?_)
      replace op1 := op1.le le32
      replace op5 := op5.le le32
      replace oq0 := oq0.le le32
      replace oq := oq.le le32
      replace ou := ou.le le32
      replace hvt := hvt.le le32
      replace lE := lE.trans le32
      refine ⟨le32, ?_⟩
      refine C.impl_digitsOf (by first | omega | assumption) (by first | omega | assumption) (by first | omega | assumption) (by first | omega | assumption) (by first | omega | assumption) (by first | omega | assumption) (fun  u35 H33 ou35 nn36  le34 => ?_)
      have ap1Xu35 : Apart p1 u35 := op1.apart nn36
      have ap5Xu35 : Apart p5 u35 := op5.apart nn36
      have aq0Xu35 : Apart q0 u35 := oq0.apart nn36
      have aqXu35 : Apart q u35 := oq.apart nn36
      have auXu35 : Apart u u35 := ou.apart nn36
      have nu35 : Nw H u35 := nn36.le lE
      replace op1 := op1.le le34
      replace op5 := op5.le le34
      replace oq0 := oq0.le le34
      replace oq := oq.le le34
      replace ou := ou.le le34
      replace hvt := hvt.le le34
      replace lE := lE.trans le34
      refine ⟨le34, ?_⟩
      replace ou35 : Own eI H33 u35 (digL (i : Int) st 3) := ou35
      refine ⟨by kernel_rfl, ?_⟩
      refine C.impl_MirrorRule_1 op1 hvt ou35.sl (by first | omega | assumption) (by exact di) (by exact dl) (fun   H37    le38 => ?_)
      replace op1 := op1.le le38
      replace op5 := op5.le le38
      replace oq0 := oq0.le le38
      replace oq := oq.le le38
      replace ou := ou.le le38
      replace ou35 := ou35.le le38
      replace hvt := hvt.le le38
      replace lE := lE.trans le38
      refine ⟨le38, ?_⟩
      refine bS_i (enc := eI) (l := [zrN st T (rv3 (digL (i : Int) st 3) 1)]) (by omega) rfl (by kernel_rfl) (fun u39 H40 ou39 nn41 le43 => ?_)
      have ap1Xu39 : Apart p1 u39 := op1.apart nn41
      have ap5Xu39 : Apart p5 u39 := op5.apart nn41
      have aq0Xu39 : Apart q0 u39 := oq0.apart nn41
      have aqXu39 : Apart q u39 := oq.apart nn41
      have auXu39 : Apart u u39 := ou.apart nn41
      have au35Xu39 : Apart u35 u39 := ou35.apart nn41
      have nu39 : Nw H u39 := nn41.le lE
      replace op1 := op1.le le43
      replace op5 := op5.le le43
      replace oq0 := oq0.le le43
      replace oq := oq.le le43
      replace ou := ou.le le43
      replace ou35 := ou35.le le43
      replace hvt := hvt.le le43
      replace lE := lE.trans le43
      refine apd_any ou ou39.sl (fun _ => rfl) (by omega) (by first | omega | (simp only [List.length_cons, List.length_nil, List.length_append, List.length_replicate, List.length_map, List.length_range]; omega)) (fun u47 H44 ou47 off45 hb46 => ?_)
      have ap1Xu47 : Apart p1 u47 := Apart.ap2 op1.known ap1Xu hb46
      have ap5Xu47 : Apart p5 u47 := Apart.ap2 op5.known ap5Xu hb46
      have aq0Xu47 : Apart q0 u47 := Apart.ap2 oq0.known aq0Xu hb46
      have aqXu47 : Apart q u47 := Apart.ap2 oq.known aqXu hb46
      have au35Xu47 : Apart u35 u47 := Apart.ap2 ou35.known auXu35.symm hb46
      have au39Xu47 : Apart u39 u47 := Apart.ap2 ou39.known auXu39.symm hb46
      have nu47 : Nw H u47 := Nw.ap2 nu lE hb46
      replace op1 := op1.off off45 ap1Xu
      replace op5 := op5.off off45 ap5Xu
      replace oq0 := oq0.off off45 aq0Xu
      replace oq := oq.off off45 aqXu
      replace ou35 := ou35.off off45 auXu35.symm
      replace ou39 := ou39.off off45 auXu39.symm
      replace hvt := hvt0.le (off45.le lE nu)
      replace lE := off45.le lE nu
      refine ob_i (oq.fa 2) ?_
      refine oq.st (by simp) ou47.one ou47.cells (fun H48 oq off49 => ?_)
      replace op1 := op1.off off49 ap1Xq
      replace op5 := op5.off off49 ap5Xq
      replace oq0 := oq0.off off49 aq0Xq
      replace ou35 := ou35.off off49 aqXu35.symm
      replace ou39 := ou39.off off49 aqXu39.symm
      replace ou47 := ou47.off off49 aqXu47.symm
      replace hvt := hvt0.le (off49.le lE nq)
      replace lE := off49.le lE nq
      replace oq : Cel H48 q [(.int .i64 (st)), (.int .i64 (1)), u47] := oq
      refine ob_i (vInt_add (by omega) (by omega)) ?_
      exact nxt ((pwr st 3).toNat - (i + 1)) (by omega) ⟨i + 1, rfl, by omega, u47, g0L29, g2L29, g6L29, g7L29, g15L29, (congrArg (Value.int .i64) (by first | omega | rfl | (simp; done))), op1, op5, oq0, oq, (Own.cast (mirF_succ st T i) ou47), nu47, ap1Xu47, ap5Xu47, aq0Xu47, aqXu47, lE⟩
    · skip
      have ti := hg30
      obtain rfl : i = (pwr st 3).toNat := by omega
      exact hJ20 _ _ ⟨u, g6L29, g7L29, op1, op5, oq0, oq, ou, nu, ap1Xu, ap5Xu, aq0Xu, aqXu, lE⟩
  · skip
    exact absurd hc11 (fun h => h hr)
theorem C.impl_TotalRule_1 {p va vw : Value} {l : List Int} {w : List Int} {st : Int} {H : Hp} {K : Value → Hp → Prop} (hp0 : Cel H p [vw]) (hva0 : Sl eI H va l) (hvw0 : Sl eI H vw w) (hs : st = 2 ∨ st = 3) (ht : ∀ x ∈ w, 0 ≤ x ∧ x ≤ st - 1) (hw : (w.length : Int) = 3 * (st - 1) + 1) (he : ∀ x ∈ l, 0 ≤ x ∧ x ≤ st - 1) (l3 : l.length = 3)
    (hk : ∀ H', Le H H' → K (.int .i64 (at_ 0 w (numL 1 l))) H') : HT prg I.impl_TotalRule_1 [va, p].toArray H K := by
  have lE := Le.refl H
  have hp := hp0
  have hva := hva0
  have hvw := hvw0
  refine R.impl_TotalRule_1 ?_
  unfold F.impl_TotalRule_1
  have sb := sum_bnd he
  rw [l3] at sb
  refine ob_i (hp.ld0 rfl) ?_
  refine C.impl_sumOf hva (by intro x hx; have := he x hx; omega) (by first | omega | assumption) (fun   H1    le2 => ?_)
  replace hp := hp.le le2
  replace hva := hva.le le2
  replace hvw := hvw.le le2
  replace lE := lE.trans le2
  refine ⟨le2, ?_⟩
  refine ob_i (hvw.ix (by omega) (by omega)) ?_
  refine ob_i (hvw.ld 0 (by omega) (by omega)) ?_
  skip
  exact keq (K := K) (by rw [show ((at_ 0 (w) (numL 1 l)) : Int) = (at_ 0 w (numL 1 l)) from by omega]) (hk   _    lE)
theorem C.impl_TotalRule {vw : Value} {st : Int} {w : List Int}  {H : Hp} {K : Value → Hp → Prop} (hvw0 : Sl eI H vw w) (hs : st = 2 ∨ st = 3) (ht : ∀ x ∈ w, 0 ≤ x ∧ x ≤ st - 1) (hw : (w.length : Int) = 3 * (st - 1) + 1)
    (hk : ∀ u1 H', Own eI H' u1 (totL w st) → Nw H u1 → Le H H' → K (.tuple #[(.agg #[(.int .i64 (st)), (.int .i64 (1)), u1]), (.bool true)]) H') : HT prg I.impl_TotalRule [(.int .i64 (st)), (.int .i64 (1)), vw].toArray H K := by
  have lE := Le.refl H
  have hvw := hvw0
  refine R.impl_TotalRule ?_
  unfold F.impl_TotalRule
  have pb := pwr_bnd (b := st) (n := 3) (by omega) (by omega) (by omega)
  have p3 : pwr st (2 * 1 + 1) = pwr st 3 := rfl
  rw [hvw.cells]
  refine nw_i (fun p1 H2 op1 nn3 le4 => ?_)
  have np1 : Nw H p1 := nn3.le lE
  replace hvw := hvw.le le4
  replace lE := lE.trans le4
  replace op1 : Cel H2 p1 [vw] := op1
  refine nw_i (fun p5 H6 op5 nn7 le8 => ?_)
  have ap1Xp5 : Apart p1 p5 := op1.apart nn7
  have np5 : Nw H p5 := nn7.le lE
  replace op1 := op1.le le8
  replace hvw := hvw.le le8
  replace lE := lE.trans le8
  replace op5 : Cel H6 p5 [(.int .i64 (0)), (.int .i64 (0)), (.slice none 0 0)] := op5
  refine C.impl_areStates  (fun   H9    le10 => ?_)
  replace op1 := op1.le le10
  replace op5 := op5.le le10
  replace hvw := hvw.le le10
  replace lE := lE.trans le10
  refine ob_nd (fun hc11 => ?_) (fun hc11 => ?_)
  · skip
    refine gop_rf ?_
    refine gop_rf ?_
    refine C.impl_isReach  (fun   H12    le13 => ?_)
    replace op1 := op1.le le13
    replace op5 := op5.le le13
    replace hvw := hvw.le le13
    replace lE := lE.trans le13
    refine gop_rf ?_
    refine ob_nd (fun hc14 => ?_) (fun hc14 => ?_)
    · skip
      refine ob_i (vPick_f _ _) ?_
      refine cnd_f1 ?_
      refine ob_i (a := .int .i64 2) (by kernel_rfl) ?_
      refine ob_i (a := .int .i64 3) (by kernel_rfl) ?_
      refine ob_i (vInt_sub (by omega) (by omega)) ?_
      refine ob_i (vInt_mul (by omega) (by omega)) ?_
      refine ob_i (vInt_add (by omega) (by omega)) ?_
      refine ob_i (op1.ld0 rfl) ?_
      refine ob_i (vInt_sub (by omega) (by omega)) ?_
      refine C.impl_areMany hvw (by first | omega | assumption) ?_
      refine ob_nd (fun hc15 => ?_) (fun hc15 => ?_)
      · skip
        refine cnd_f1 ?_
        refine R.impl_made ?_
        unfold F.impl_made
        refine nw_i (fun q0 H16 oq0 nn17 le18 => ?_)
        have ap1Xq0 : Apart p1 q0 := op1.apart nn17
        have ap5Xq0 : Apart p5 q0 := op5.apart nn17
        have nq0 : Nw H q0 := nn17.le lE
        replace op1 := op1.le le18
        replace op5 := op5.le le18
        replace hvw := hvw.le le18
        replace lE := lE.trans le18
        replace oq0 : Cel H16 q0 [(.int .i64 (0)), (.int .i64 (0)), (.slice none 0 0)] := oq0
        refine ob_i (a := (.agg #[(.int .i64 (st)), (.int .i64 (1)), (.slice none 0 0)])) (by rfl) ?_
        refine nw_i (fun q H19 oq nn20 le21 => ?_)
        have ap1Xq : Apart p1 q := op1.apart nn20
        have ap5Xq : Apart p5 q := op5.apart nn20
        have aq0Xq : Apart q0 q := oq0.apart nn20
        have nq : Nw H q := nn20.le lE
        replace op1 := op1.le le21
        replace op5 := op5.le le21
        replace oq0 := oq0.le le21
        replace hvw := hvw.le le21
        replace lE := lE.trans le21
        replace oq : Cel H19 q [(.int .i64 (0)), (.int .i64 (0)), (.slice none 0 0)] := oq
        refine oq.stn (ws := [(.int .i64 (st)), (.int .i64 (1)), (.slice none 0 0)]) rfl rfl (oc1 rfl (oc1 rfl (oc1 rfl oc0))) (fun H22 oq off23 => ?_)
        replace op1 := op1.off off23 ap1Xq
        replace op5 := op5.off off23 ap5Xq
        replace oq0 := oq0.off off23 aq0Xq
        replace hvw := hvw0.le (off23.le lE nq)
        replace lE := off23.le lE nq
        replace oq : Cel H22 q [(.int .i64 (st)), (.int .i64 (1)), (.slice none 0 0)] := oq
        refine jn_i (fun σ' H' => ∃ u, σ' 6 = q0 ∧ σ' 7 = q ∧ Cel H' p1 [vw] ∧ Cel H' p5 [(.int .i64 (0)), (.int .i64 (0)), (.slice none 0 0)] ∧ Cel H' q0 [(.int .i64 (0)), (.int .i64 (0)), (.slice none 0 0)] ∧ Cel H' q [(.int .i64 (st)), (.int .i64 (1)), u] ∧ Own eI H' u (totL w st) ∧ Nw H u ∧ Apart p1 u ∧ Apart p5 u ∧ Apart q0 u ∧ Apart q u ∧ Le H H') (fun σ24 H24 hP => ?_) (fun J24 hJ24 => ?_)
        · skip
          obtain ⟨u, g6L24, g7L24, op1, op5, oq0, oq, ou, nu, ap1Xu, ap5Xu, aq0Xu, aqXu, lE⟩ := hP
          have hvw := hvw0.le lE
          try simp only [g6L24, g7L24]
          refine ob_i (oq.ldn rfl) ?_
          refine oq0.stn (ws := [(.int .i64 (st)), (.int .i64 (1)), u]) rfl rfl (oc1 rfl (oc1 rfl (oc1 ou.one oc0))) (fun H25 oq0 off26 => ?_)
          replace op1 := op1.off off26 ap1Xq0
          replace op5 := op5.off off26 ap5Xq0
          replace oq := oq.off off26 aq0Xq.symm
          replace ou := ou.off off26 aq0Xu.symm
          replace hvw := hvw0.le (off26.le lE nq0)
          replace lE := off26.le lE nq0
          replace oq0 : Cel H25 q0 [(.int .i64 (st)), (.int .i64 (1)), u] := oq0
          refine ob_i (oq0.ldn rfl) ?_
          refine op5.stn (ws := [(.int .i64 (st)), (.int .i64 (1)), u]) rfl rfl (oc1 rfl (oc1 rfl (oc1 ou.one oc0))) (fun H27 op5 off28 => ?_)
          replace op1 := op1.off off28 ap1Xp5
          replace oq0 := oq0.off off28 ap5Xq0.symm
          replace oq := oq.off off28 ap5Xq.symm
          replace ou := ou.off off28 ap5Xu.symm
          replace hvw := hvw0.le (off28.le lE np5)
          replace lE := off28.le lE np5
          replace op5 : Cel H27 p5 [(.int .i64 (st)), (.int .i64 (1)), u] := op5
          refine ob_i (op5.ldn rfl) ?_
          skip
          exact hk  u _ ou nu  lE
        refine ob_i (oq.ldn rfl) ?_
        refine C.impl_Rule_cells (Sl.nil 0 none) (by first | omega | assumption) (by first | omega | assumption) (fun   H29    le30 => ?_)
        replace op1 := op1.le le30
        replace op5 := op5.le le30
        replace oq0 := oq0.le le30
        replace oq := oq.le le30
        replace hvw := hvw.le le30
        replace lE := lE.trans le30
        refine C.impl_raised (by first | omega | assumption) (by first | omega | assumption) (by first | omega | assumption) (by first | omega | assumption) (fun   H31    le32 => ?_)
        replace op1 := op1.le le32
        replace op5 := op5.le le32
        replace oq0 := oq0.le le32
        replace oq := oq.le le32
        replace hvw := hvw.le le32
        replace lE := lE.trans le32
        refine ⟨fun n' σ' H' => ∃ i : Nat, n' = (pwr st 3).toNat - i ∧ i ≤ (pwr st 3).toNat ∧ ∃ u, σ' 0 = (.int .i64 (st)) ∧ σ' 2 = (.func (.func I.impl_TotalRule_1) #[] #[p1]) ∧ σ' 6 = q0 ∧ σ' 7 = q ∧ σ' 15 = (.int .i64 (pwr st (2 * 1 + 1))) ∧ σ' 16 = (.int .i64 ((i : Int))) ∧ Cel H' p1 [vw] ∧ Cel H' p5 [(.int .i64 (0)), (.int .i64 (0)), (.slice none 0 0)] ∧ Cel H' q0 [(.int .i64 (0)), (.int .i64 (0)), (.slice none 0 0)] ∧ Cel H' q [(.int .i64 (st)), (.int .i64 (1)), u] ∧ Own eI H' u (totF w st i) ∧ Nw H u ∧ Apart p1 u ∧ Apart p5 u ∧ Apart q0 u ∧ Apart q u ∧ Le H H',
          ⟨_, 0, rfl, by omega, _, rfl, rfl, rfl, rfl, rfl, (congrArg (Value.int .i64) (by first | omega | rfl | (simp; done))), op1, op5, oq0, oq, (Own.cast (by first | rfl | (simp; done)) (Own.nil_of none)), (fun b hb => by simp [bk] at hb), (fun b _ hb => by simp [bk] at hb), (fun b _ hb => by simp [bk] at hb), (fun b _ hb => by simp [bk] at hb), (fun b _ hb => by simp [bk] at hb), lE⟩, ?_⟩
        rintro n33 σ33 H33 ⟨i, rfl, hiN, u, g0L33, g2L33, g6L33, g7L33, g15L33, g16L33, op1, op5, oq0, oq, ou, nu, ap1Xu, ap5Xu, aq0Xu, aqXu, lE⟩
        have hvw := hvw0.le lE
        try simp only [g0L33, g2L33, g6L33, g7L33, g15L33, g16L33]
        have fl := totF_len w st i
        have dl := digL_len (i : Int) st 3
        have di := digL_in (n := (i : Int)) (b := st) (k := 3) (by omega)
        refine ob_i (vInt_lss _ _ _) ?_
        refine cnd_d (fun hg34 => ?_) (fun hg34 => ?_)
        · skip
          have ti := hg34
          refine ob_i (oq.fa 2) ?_
          refine ob_i (oq.ld 2 rfl) ?_
          refine ob_i (oq.ldn rfl) ?_
          refine C.impl_Rule_cells ou.sl (by first | omega | assumption) (by first | omega | assumption) (fun   H35    le36 => ?_)
          replace op1 := op1.le le36
          replace op5 := op5.le le36
          replace oq0 := oq0.le le36
          replace oq := oq.le le36
          replace ou := ou.le le36
          replace hvw := hvw.le le36
          replace lE := lE.trans le36
          refine ⟨le36, ?_⟩
          refine C.impl_digitsOf (by first | omega | assumption) (by first | omega | assumption) (by first | omega | assumption) (by first | omega | assumption) (by first | omega | assumption) (by first | omega | assumption) (fun  u39 H37 ou39 nn40  le38 => ?_)
          have ap1Xu39 : Apart p1 u39 := op1.apart nn40
          have ap5Xu39 : Apart p5 u39 := op5.apart nn40
          have aq0Xu39 : Apart q0 u39 := oq0.apart nn40
          have aqXu39 : Apart q u39 := oq.apart nn40
          have auXu39 : Apart u u39 := ou.apart nn40
          have nu39 : Nw H u39 := nn40.le lE
          replace op1 := op1.le le38
          replace op5 := op5.le le38
          replace oq0 := oq0.le le38
          replace oq := oq.le le38
          replace ou := ou.le le38
          replace hvw := hvw.le le38
          replace lE := lE.trans le38
          refine ⟨le38, ?_⟩
          replace ou39 : Own eI H37 u39 (digL (i : Int) st 3) := ou39
          refine ⟨by kernel_rfl, ?_⟩
          refine C.impl_TotalRule_1 op1 ou39.sl hvw (by first | omega | assumption) (by first | omega | assumption) (by first | omega | assumption) (by exact di) (by exact dl) (fun   H41    le42 => ?_)
          replace op1 := op1.le le42
          replace op5 := op5.le le42
          replace oq0 := oq0.le le42
          replace oq := oq.le le42
          replace ou := ou.le le42
          replace ou39 := ou39.le le42
          replace hvw := hvw.le le42
          replace lE := lE.trans le42
          refine ⟨le42, ?_⟩
          refine bS_i (enc := eI) (l := [at_ 0 w (numL 1 (digL (i : Int) st 3))]) (by omega) rfl (by kernel_rfl) (fun u43 H44 ou43 nn45 le47 => ?_)
          have ap1Xu43 : Apart p1 u43 := op1.apart nn45
          have ap5Xu43 : Apart p5 u43 := op5.apart nn45
          have aq0Xu43 : Apart q0 u43 := oq0.apart nn45
          have aqXu43 : Apart q u43 := oq.apart nn45
          have auXu43 : Apart u u43 := ou.apart nn45
          have au39Xu43 : Apart u39 u43 := ou39.apart nn45
          have nu43 : Nw H u43 := nn45.le lE
          replace op1 := op1.le le47
          replace op5 := op5.le le47
          replace oq0 := oq0.le le47
          replace oq := oq.le le47
          replace ou := ou.le le47
          replace ou39 := ou39.le le47
          replace hvw := hvw.le le47
          replace lE := lE.trans le47
          refine apd_any ou ou43.sl (fun _ => rfl) (by omega) (by first | omega | (simp only [List.length_cons, List.length_nil, List.length_append, List.length_replicate, List.length_map, List.length_range]; omega)) (fun u51 H48 ou51 off49 hb50 => ?_)
          have ap1Xu51 : Apart p1 u51 := Apart.ap2 op1.known ap1Xu hb50
          have ap5Xu51 : Apart p5 u51 := Apart.ap2 op5.known ap5Xu hb50
          have aq0Xu51 : Apart q0 u51 := Apart.ap2 oq0.known aq0Xu hb50
          have aqXu51 : Apart q u51 := Apart.ap2 oq.known aqXu hb50
          have au39Xu51 : Apart u39 u51 := Apart.ap2 ou39.known auXu39.symm hb50
          have au43Xu51 : Apart u43 u51 := Apart.ap2 ou43.known auXu43.symm hb50
          have nu51 : Nw H u51 := Nw.ap2 nu lE hb50
          replace op1 := op1.off off49 ap1Xu
          replace op5 := op5.off off49 ap5Xu
          replace oq0 := oq0.off off49 aq0Xu
          replace oq := oq.off off49 aqXu
          replace ou39 := ou39.off off49 auXu39.symm
          replace ou43 := ou43.off off49 auXu43.symm
          replace hvw := hvw0.le (off49.le lE nu)
          replace lE := off49.le lE nu
          refine ob_i (oq.fa 2) ?_
          refine oq.st (by simp) ou51.one ou51.cells (fun H52 oq off53 => ?_)
          replace op1 := op1.off off53 ap1Xq
          replace op5 := op5.off off53 ap5Xq
          replace oq0 := oq0.off off53 aq0Xq
          replace ou39 := ou39.off off53 aqXu39.symm
          replace ou43 := ou43.off off53 aqXu43.symm
          replace ou51 := ou51.off off53 aqXu51.symm
          replace hvw := hvw0.le (off53.le lE nq)
          replace lE := off53.le lE nq
          replace oq : Cel H52 q [(.int .i64 (st)), (.int .i64 (1)), u51] := oq
          refine ob_i (vInt_add (by omega) (by omega)) ?_
          exact nxt ((pwr st 3).toNat - (i + 1)) (by omega) ⟨i + 1, rfl, by omega, u51, g0L33, g2L33, g6L33, g7L33, g15L33, (congrArg (Value.int .i64) (by first | omega | rfl | (simp; done))), op1, op5, oq0, oq, (Own.cast (totF_succ w st i) ou51), nu51, ap1Xu51, ap5Xu51, aq0Xu51, aqXu51, lE⟩
        · skip
          have ti := hg34
          obtain rfl : i = (pwr st 3).toNat := by omega
          exact hJ24 _ _ ⟨u, g6L33, g7L33, op1, op5, oq0, oq, ou, nu, ap1Xu, ap5Xu, aq0Xu, aqXu, lE⟩
      · skip
        refine cnd_t1 ?_
        refine ob_i (a := (.agg #[(.int .i64 (0)), (.int .i64 (0)), (.slice none 0 0)])) (by rfl) ?_
        refine op5.stn (ws := [(.int .i64 (0)), (.int .i64 (0)), (.slice none 0 0)]) rfl rfl (oc1 rfl (oc1 rfl (oc1 rfl oc0))) (fun H54 op5 off55 => ?_)
        replace op1 := op1.off off55 ap1Xp5
        replace hvw := hvw0.le (off55.le lE np5)
        replace lE := off55.le lE np5
        replace op5 : Cel H54 p5 [(.int .i64 (0)), (.int .i64 (0)), (.slice none 0 0)] := op5
        refine ob_i (op5.ldn rfl) ?_
        exfalso
        first | omega | (have hm : ((2 * 1 + 1) * (st - 1) + 1 ≤ (w.length : Int) ∧ (w.length : Int) ≤ (2 * 1 + 1) * (st - 1) + 1) ∧ ∀ x ∈ w, 0 ≤ x ∧ x ≤ st - 1 := ⟨by omega, ht⟩; contradiction)
    · skip
      refine ob_i (vPick_f _ _) ?_
      refine cnd_t1 ?_
      refine ob_i (a := (.agg #[(.int .i64 (0)), (.int .i64 (0)), (.slice none 0 0)])) (by rfl) ?_
      refine op5.stn (ws := [(.int .i64 (0)), (.int .i64 (0)), (.slice none 0 0)]) rfl rfl (oc1 rfl (oc1 rfl (oc1 rfl oc0))) (fun H56 op5 off57 => ?_)
      replace op1 := op1.off off57 ap1Xp5
      replace hvw := hvw0.le (off57.le lE np5)
      replace lE := off57.le lE np5
      replace op5 : Cel H56 p5 [(.int .i64 (0)), (.int .i64 (0)), (.slice none 0 0)] := op5
      refine ob_i (op5.ldn rfl) ?_
      exfalso
      first | omega | (have hm : ((2 * 1 + 1) * (st - 1) + 1 ≤ (w.length : Int) ∧ (w.length : Int) ≤ (2 * 1 + 1) * (st - 1) + 1) ∧ ∀ x ∈ w, 0 ≤ x ∧ x ≤ st - 1 := ⟨by omega, ht⟩; contradiction)
  · skip
    refine gop_st ?_
    refine gop_st ?_
    refine gop_st ?_
    refine ob_i (vPick_t _ _) ?_
    refine cnd_t1 ?_
    refine ob_i (a := (.agg #[(.int .i64 (0)), (.int .i64 (0)), (.slice none 0 0)])) (by rfl) ?_
    refine op5.stn (ws := [(.int .i64 (0)), (.int .i64 (0)), (.slice none 0 0)]) rfl rfl (oc1 rfl (oc1 rfl (oc1 rfl oc0))) (fun H58 op5 off59 => ?_)
    replace op1 := op1.off off59 ap1Xp5
    replace hvw := hvw0.le (off59.le lE np5)
    replace lE := off59.le lE np5
    replace op5 : Cel H58 p5 [(.int .i64 (0)), (.int .i64 (0)), (.slice none 0 0)] := op5
    refine ob_i (op5.ldn rfl) ?_
    exfalso
    first | omega | (have hm : ((2 * 1 + 1) * (st - 1) + 1 ≤ (w.length : Int) ∧ (w.length : Int) ≤ (2 * 1 + 1) * (st - 1) + 1) ∧ ∀ x ∈ w, 0 ≤ x ∧ x ≤ st - 1 := ⟨by omega, ht⟩; contradiction)
theorem C.impl_IsTotal {vt : Value} {st : Int} {T : List Int} {w : List Int} {H : Hp} {K : Value → Hp → Prop} (hvt0 : Sl eI H vt T) (hr : ruleP st 1 T) (hT : ∀ i : Nat, i < T.length → at_ 0 T (i : Int) = at_ 0 w (numL 1 (digL (i : Int) st 3)))
    (hk : ∀ H', Le H H' → K (.tuple #[(.bool true), (.bool true)]) H') : HT prg I.impl_IsTotal [(.agg #[(.int .i64 (st)), (.int .i64 (1)), vt])].toArray H K := by
  have lE := Le.refl H
  have hvt := hvt0
  refine R.impl_IsTotal ?_
  unfold F.impl_IsTotal
  have hr1 := hr.1
  have hr3 := ruleP_len hr
  have hr4 := hr.2.2.2
  refine nw_i (fun p1 H2 op1 nn3 le4 => ?_)
  have np1 : Nw H p1 := nn3.le lE
  replace hvt := hvt.le le4
  replace lE := lE.trans le4
  replace op1 : Cel H2 p1 [(.int .i64 (st)), (.int .i64 (1)), vt] := op1
  refine ob_i (op1.ldn rfl) ?_
  refine C.impl_ValidRule hvt (by first | omega | assumption) (fun   H5    le6 => ?_)
  replace op1 := op1.le le6
  replace hvt := hvt.le le6
  replace lE := lE.trans le6
  refine ob_nd (fun hc7 => ?_) (fun hc7 => ?_)
  · skip
    refine cnd_f1 ?_
    refine MpG.new_ (fun s => at_ 0 w s) (fun mg Smg H8 omg nn9 le10 => ?_)
    have ap1Xmg : Apt p1 Smg := Apt.of_nws op1.known nn9
    have nmg : Nws H Smg := nn9.le lE
    replace op1 := op1.le le10
    replace hvt := hvt.le le10
    replace lE := lE.trans le10
    refine jn_i (fun σ' H' => Cel H' p1 [(.int .i64 (st)), (.int .i64 (1)), vt] ∧ MpG H' mg Smg (fun s => at_ 0 w s) ∧ Le H H' ∧ True) (fun σ11 H11 hP => ?_) (fun J11 hJ11 => ?_)
    · skip
      obtain ⟨op1, omg, lE, ho0⟩ := hP
      have hvt := hvt0.le lE
      skip
      exact hk   _    lE
    refine ob_i (op1.fa 2) ?_
    refine ob_i (op1.ld 2 rfl) ?_
    refine ob_i (hvt.len) ?_
    refine ⟨fun n' σ' H' => ∃ i : Nat, n' = T.length - i ∧ i ≤ T.length ∧ σ' 1 = p1 ∧ σ' 4 = mg ∧ σ' 15 = vt ∧ σ' 16 = (.int .i64 (((T).length : Int))) ∧ σ' 17 = (.int .i64 ((i : Int))) ∧ Cel H' p1 [(.int .i64 (st)), (.int .i64 (1)), vt] ∧ MpG H' mg Smg (fun s => at_ 0 w s) ∧ Le H H',
      ⟨_, 0, rfl, by omega, rfl, rfl, rfl, rfl, (congrArg (Value.int .i64) (by first | omega | rfl | (simp; done))), op1, omg, lE⟩, ?_⟩
    rintro n12 σ12 H12 ⟨i, rfl, hiN, g1L12, g4L12, g15L12, g16L12, g17L12, op1, omg, lE⟩
    have hvt := hvt0.le lE
    try simp only [g1L12, g4L12, g15L12, g16L12, g17L12]
    have dl := digL_len (i : Int) st 3
    have di := digL_in (n := (i : Int)) (b := st) (k := 3) (by omega)
    refine ob_i (vInt_lss _ _ _) ?_
    refine cnd_d (fun hg13 => ?_) (fun hg13 => ?_)
    · skip
      have ti := hg13
      have ha := hT i (by omega)
      refine ob_i (hvt.ix (by omega) (by omega)) ?_
      refine ob_i (hvt.ld 0 (by omega) (by omega)) ?_
      refine ob_i (op1.fa 0) ?_
      refine ob_i (op1.ld 0 rfl) ?_
      refine ob_i (op1.ldn rfl) ?_
      refine C.impl_Rule_cells hvt (by first | omega | assumption) (by first | omega | assumption) (fun   H14    le15 => ?_)
      replace op1 := op1.le le15
      replace omg := omg.le le15
      replace hvt := hvt.le le15
      replace lE := lE.trans le15
      refine ⟨le15, ?_⟩
      refine C.impl_digitsOf (by first | omega | assumption) (by first | omega | assumption) (by first | omega | assumption) (by first | omega | assumption) (by first | omega | assumption) (by first | omega | assumption) (fun  u18 H16 ou18 nn19  le17 => ?_)
      have ap1Xu18 : Apart p1 u18 := op1.apart nn19
      have amgXu18 : Apt Smg u18 := Apt.of_nw omg.known nn19
      have nu18 : Nw H u18 := nn19.le lE
      replace op1 := op1.le le17
      replace omg := omg.le le17
      replace hvt := hvt.le le17
      replace lE := lE.trans le17
      refine ⟨le17, ?_⟩
      replace ou18 : Own eI H16 u18 (digL (i : Int) st 3) := ou18
      refine C.impl_sumOf ou18.sl (by intro x hx; have := di x hx; omega) (by first | omega | assumption) (fun   H20    le21 => ?_)
      replace op1 := op1.le le21
      replace omg := omg.le le21
      replace ou18 := ou18.le le21
      replace hvt := hvt.le le21
      replace lE := lE.trans le21
      refine ⟨le21, ?_⟩
      refine MpG.look omg (by kernel_rfl) (fun mx22 mb23 hm24 => ?_)
      refine ob_i (vExt_20 _ _) ?_
      refine ob_i (vExt_21 _ _) ?_
      by_cases hc25 : (mb23) = true
      · skip
        refine gop_e (hc25) ?_
        refine gop_rt ?_
        refine gop_e (hc25) ?_
        refine gop_rt ?_
        refine gop_e (hc25) ?_
        refine gop_rt ?_
        refine ob_i (vInt_neq _ _ _) ?_
        refine ob_i (vPick_et (hc25) _ _) ?_
        refine cnd_d (fun hg26 => ?_) (fun hg26 => ?_)
        · skip
          refine retK (K := K) (v' := (.tuple #[(.bool false), (.bool true)])) rfl ?_
          exfalso
          have hq := hm24 hc25
          omega
        · skip
          refine MpG.put omg (by kernel_rfl) (by exact ha) (fun H27 omg off28 => ?_)
          replace op1 := op1.offS off28 ap1Xmg
          replace ou18 := ou18.offS off28 amgXu18.symm
          replace hvt := hvt0.le (off28.le lE nmg)
          replace lE := off28.le lE nmg
          refine ob_i (vInt_add (by omega) (by omega)) ?_
          exact nxt (T.length - (i + 1)) (by omega) ⟨i + 1, rfl, by omega, g1L12, g4L12, g15L12, g16L12, (congrArg (Value.int .i64) (by first | omega | rfl | (simp; done))), op1, omg, lE⟩
      · skip
        refine gop_e (eq_false_of_ne_true hc25) ?_
        refine gop_sf ?_
        refine gop_e (eq_false_of_ne_true hc25) ?_
        refine gop_sf ?_
        refine gop_e (eq_false_of_ne_true hc25) ?_
        refine gop_sf ?_
        refine ob_i (vPick_ef (eq_false_of_ne_true hc25) _ _) ?_
        refine cnd_f1 ?_
        refine MpG.put omg (by kernel_rfl) (by exact ha) (fun H29 omg off30 => ?_)
        replace op1 := op1.offS off30 ap1Xmg
        replace ou18 := ou18.offS off30 amgXu18.symm
        replace hvt := hvt0.le (off30.le lE nmg)
        replace lE := off30.le lE nmg
        refine ob_i (vInt_add (by omega) (by omega)) ?_
        exact nxt (T.length - (i + 1)) (by omega) ⟨i + 1, rfl, by omega, g1L12, g4L12, g15L12, g16L12, (congrArg (Value.int .i64) (by first | omega | rfl | (simp; done))), op1, omg, lE⟩
    · skip
      have ti := hg13
      exact hJ11 _ _ ⟨op1, omg, lE, trivial⟩
  · skip
    exact absurd hc7 (fun h => h hr)
set_option maxHeartbeats 800000 in
theorem C.impl_SenseOf {vt : Value} {T : List Int}  {H : Hp} {K : Value → Hp → Prop} (hvt0 : Sl eI H vt T) (hr : ruleP 2 1 T)
    (hk : ∀ z1, FR .f32 (fDiv (fI (snT T 8)) (fI 24)) z1 → ∀ H', Le H H' → K (.tuple #[(.float .f32 z1), (.bool true)]) H') : HT prg I.impl_SenseOf [(.agg #[(.int .i64 (2)), (.int .i64 (1)), vt])].toArray H K := by
  have lE := Le.refl H
  have hvt := hvt0
  refine R.impl_SenseOf ?_
  unfold F.impl_SenseOf
  have hr3 := ruleP_len hr
  have hT1 : ∀ x ∈ T, 0 ≤ x ∧ x ≤ 1 := fun x hx => by have := hr.2.2.2 x hx; omega
  have hT8 := rule8 hr
  refine nw_i (fun p1 H2 op1 nn3 le4 => ?_)
  have np1 : Nw H p1 := nn3.le lE
  replace hvt := hvt.le le4
  replace lE := lE.trans le4
  replace op1 : Cel H2 p1 [(.int .i64 (2)), (.int .i64 (1)), vt] := op1
  refine ob_i (op1.ldn rfl) ?_
  refine C.impl_ValidRule hvt (by first | omega | assumption) (fun   H5    le6 => ?_)
  replace op1 := op1.le le6
  replace hvt := hvt.le le6
  replace lE := lE.trans le6
  refine ob_nd (fun hc7 => ?_) (fun hc7 => ?_)
  · skip
    refine cnd_f1 ?_
    refine jn_i (fun σ' H' => σ' 4 = (.int .i64 (snT T 8)) ∧ σ' 5 = (.int .i64 (24)) ∧ Cel H' p1 [(.int .i64 (2)), (.int .i64 (1)), vt] ∧ Le H H' ∧ 0 ≤ snT T 8 ∧ snT T 8 ≤ 24) (fun σ8 H8 hP => ?_) (fun J8 hJ8 => ?_)
    · skip
      obtain ⟨g4L8, g5L8, op1, lE, ho0⟩ := hP
      have hvt := hvt0.le lE
      try simp only [g4L8, g5L8]
      refine ob_i (a := (.float .f32 (FloatKind.nearest .f32 (snT T 8)))) rfl ?_
      refine ob_i (a := (.float .f32 (FloatKind.nearest .f32 (24)))) rfl ?_
      refine fA_quo (a := (fI (snT T 8))) (b := (fI (24))) (FR_some _) (FR_some _) (fun z9 hz9 => ?_)
      skip
      exact hk  z9 (FR_cast (by rfl) hz9)  _    lE
    refine ob_i (op1.fa 2) ?_
    refine ob_i (op1.ld 2 rfl) ?_
    refine ob_i (hvt.len) ?_
    refine ⟨fun n' σ' H' => ∃ i : Nat, n' = 8 - i ∧ i ≤ 8 ∧ σ' 1 = p1 ∧ σ' 4 = (.int .i64 (snT T i)) ∧ σ' 5 = (.int .i64 (3 * (i : Int))) ∧ σ' 16 = vt ∧ σ' 17 = (.int .i64 (((T).length : Int))) ∧ σ' 18 = (.int .i64 ((i : Int))) ∧ Cel H' p1 [(.int .i64 (2)), (.int .i64 (1)), vt] ∧ Le H H',
      ⟨_, 0, rfl, by omega, rfl, rfl, (congrArg (Value.int .i64) (by first | omega | rfl | (simp; done))), rfl, rfl, (congrArg (Value.int .i64) (by first | omega | rfl | (simp; done))), op1, lE⟩, ?_⟩
    rintro n10 σ10 H10 ⟨i, rfl, hiN, g1L10, g4L10, g5L10, g16L10, g17L10, g18L10, op1, lE⟩
    have hvt := hvt0.le lE
    try simp only [g1L10, g4L10, g5L10, g16L10, g17L10, g18L10]
    have sb := snT_bnd T i
    have f0 : snF T i 0 = 0 := rfl
    have dl := digL_len (i : Int) 2 3
    have hD : ∀ x ∈ (digL (i : Int) 2 3), 0 ≤ x ∧ x ≤ 1 := fun x hx => by have := digL_in (n := (i : Int)) (b := 2) (k := 3) (by omega) x hx; omega
    refine ob_i (vInt_lss _ _ _) ?_
    refine cnd_d (fun hg11 => ?_) (fun hg11 => ?_)
    · skip
      have ti := hg11
      refine jn_i (fun σ' H' => σ' 1 = p1 ∧ σ' 4 = (.int .i64 (snT T (i + 1))) ∧ σ' 5 = (.int .i64 (3 * ((i : Int) + 1))) ∧ σ' 16 = vt ∧ σ' 17 = (.int .i64 (((T).length : Int))) ∧ σ' 18 = (.int .i64 ((i : Int))) ∧ Cel H' p1 [(.int .i64 (2)), (.int .i64 (1)), vt] ∧ Le H H') (fun σ12 H12 hP => ?_) (fun J12 hJ12 => ?_)
      · skip
        obtain ⟨g1L12, g4L12, g5L12, g16L12, g17L12, g18L12, op1, lE⟩ := hP
        have hvt := hvt0.le lE
        try simp only [g18L12]
        refine ob_i (vInt_add (by omega) (by omega)) ?_
        exact nxt (8 - (i + 1)) (by omega) ⟨i + 1, rfl, by omega, g1L12, (g4L12.trans (congrArg (Value.int .i64) (by first | omega | rfl | (simp; done)))), (g5L12.trans (congrArg (Value.int .i64) (by first | omega | rfl | (simp; done)))), g16L12, g17L12, (congrArg (Value.int .i64) (by first | omega | rfl | (simp; done))), op1, lE⟩
      refine ob_i (hvt.ix (by omega) (by omega)) ?_
      refine ob_i (hvt.ld 0 (by omega) (by omega)) ?_
      refine ob_i (op1.fa 0) ?_
      refine ob_i (op1.ld 0 rfl) ?_
      refine ob_i (op1.ldn rfl) ?_
      refine C.impl_Rule_cells hvt (by first | omega | assumption) (by first | omega | assumption) (fun   H13    le14 => ?_)
      replace op1 := op1.le le14
      replace hvt := hvt.le le14
      replace lE := lE.trans le14
      refine ⟨le14, ?_⟩
      refine C.impl_digitsOf (by first | omega | assumption) (by first | omega | assumption) (by first | omega | assumption) (by first | omega | assumption) (by first | omega | assumption) (by first | omega | assumption) (fun  u H15 ou nn17  le16 => ?_)
      have ap1Xu : Apart p1 u := op1.apart nn17
      have nu : Nw H u := nn17.le lE
      replace op1 := op1.le le16
      replace hvt := hvt.le le16
      replace lE := lE.trans le16
      refine ⟨le16, ?_⟩
      replace ou : Own eI H15 u (digL (i : Int) 2 3) := ou
      refine ob_i (ou.len) ?_
      refine ⟨fun n' σ' H' => ∃ k : Nat, n' = 3 - k ∧ k ≤ 3 ∧ σ' 1 = p1 ∧ σ' 4 = (.int .i64 (snT T i + snF T i k)) ∧ σ' 5 = (.int .i64 (3 * (i : Int) + (k : Int))) ∧ σ' 7 = (.int .i64 (at_ 0 (T) ((i : Int)))) ∧ σ' 8 = u ∧ σ' 16 = vt ∧ σ' 17 = (.int .i64 (((T).length : Int))) ∧ σ' 18 = (.int .i64 ((i : Int))) ∧ σ' 29 = u ∧ σ' 30 = (.int .i64 (((digL (i : Int) 2 3).length : Int))) ∧ σ' 31 = (.int .i64 ((k : Int))) ∧ Cel H' p1 [(.int .i64 (2)), (.int .i64 (1)), vt] ∧ Own eI H' u (digL (i : Int) 2 3) ∧ Le H H',
        ⟨_, 0, rfl, by omega, g1L10, (g4L10.trans (congrArg (Value.int .i64) (by first | omega | rfl | (simp; done)))), (g5L10.trans (congrArg (Value.int .i64) (by first | omega | rfl | (simp; done)))), rfl, rfl, g16L10, g17L10, g18L10, rfl, rfl, (congrArg (Value.int .i64) (by first | omega | rfl | (simp; done))), op1, ou, lE⟩, ?_⟩
      rintro n18 σ18 H18 ⟨k, rfl, hkN, g1L18, g4L18, g5L18, g7L18, g8L18, g16L18, g17L18, g18L18, g29L18, g30L18, g31L18, op1, ou, lE⟩
      have hvt := hvt0.le lE
      try simp only [g1L18, g4L18, g5L18, g7L18, g8L18, g29L18, g30L18, g31L18]
      have fb := snF_bnd T i k
      have kb := snK_bnd T i k
      have fs : snF T i (k + 1) = snF T i k + snK T i k := rfl
      have f0 : snF T i 0 = 0 := rfl
      have ts : snT T (i + 1) = snT T i + snF T i 3 := rfl
      refine ob_i (vInt_lss _ _ _) ?_
      refine cnd_d (fun hg19 => ?_) (fun hg19 => ?_)
      · skip
        have tk := hg19
        have hold := hD _ (at_mem 0 (digL (i : Int) 2 3) (i := (k : Int)) (by omega) (by omega))
        have z01 := cO_zero hold (snK T i k)
        have z02 := cO_zero hold 1
        refine jn_i (fun σ' H' => σ' 1 = p1 ∧ σ' 4 = (.int .i64 (snT T i + snF T i (k + 1))) ∧ σ' 5 = (.int .i64 (3 * (i : Int) + ((k : Int) + 1))) ∧ σ' 7 = (.int .i64 (at_ 0 (T) ((i : Int)))) ∧ σ' 8 = u ∧ σ' 16 = vt ∧ σ' 17 = (.int .i64 (((T).length : Int))) ∧ σ' 18 = (.int .i64 ((i : Int))) ∧ σ' 29 = u ∧ σ' 30 = (.int .i64 (((digL (i : Int) 2 3).length : Int))) ∧ σ' 31 = (.int .i64 ((k : Int))) ∧ Cel H' p1 [(.int .i64 (2)), (.int .i64 (1)), vt] ∧ Own eI H' u (digL (i : Int) 2 3) ∧ Le H H') (fun σ20 H20 hP => ?_) (fun J20 hJ20 => ?_)
        · skip
          obtain ⟨g1L20, g4L20, g5L20, g7L20, g8L20, g16L20, g17L20, g18L20, g29L20, g30L20, g31L20, op1, ou, lE⟩ := hP
          have hvt := hvt0.le lE
          try simp only [g31L20]
          refine ob_i (vInt_add (by omega) (by omega)) ?_
          exact nxt (3 - (k + 1)) (by omega) ⟨k + 1, rfl, by omega, g1L20, (g4L20.trans (congrArg (Value.int .i64) (by first | omega | rfl | (simp; done)))), (g5L20.trans (congrArg (Value.int .i64) (by first | omega | rfl | (simp; done)))), g7L20, g8L20, g16L20, g17L20, g18L20, g29L20, g30L20, (congrArg (Value.int .i64) (by first | omega | rfl | (simp; done))), op1, ou, lE⟩
        refine ob_i (ou.sl.ix (by omega) (by omega)) ?_
        refine ob_i (ou.sl.ld 0 (by omega) (by omega)) ?_
        refine jn_i (fun σ' H' => σ' 1 = p1 ∧ σ' 4 = (.int .i64 (snT T i + snF T i k + snK T i k)) ∧ σ' 5 = (.int .i64 (3 * (i : Int) + (k : Int) + 1)) ∧ σ' 7 = (.int .i64 (at_ 0 (T) ((i : Int)))) ∧ σ' 8 = u ∧ σ' 9 = (.int .i64 ((k : Int))) ∧ σ' 10 = (.int .i64 (at_ 0 (digL (i : Int) 2 3) ((k : Int)))) ∧ σ' 16 = vt ∧ σ' 17 = (.int .i64 (((T).length : Int))) ∧ σ' 18 = (.int .i64 ((i : Int))) ∧ σ' 29 = u ∧ σ' 30 = (.int .i64 (((digL (i : Int) 2 3).length : Int))) ∧ σ' 31 = (.int .i64 ((k : Int))) ∧ Cel H' p1 [(.int .i64 (2)), (.int .i64 (1)), vt] ∧ Own eI H' u (lsO (digL (i : Int) 2 3) k 2) ∧ Le H H') (fun σ21 H21 hP => ?_) (fun J21 hJ21 => ?_)
        · skip
          obtain ⟨g1L21, g4L21, g5L21, g7L21, g8L21, g9L21, g10L21, g16L21, g17L21, g18L21, g29L21, g30L21, g31L21, op1, ou, lE⟩ := hP
          have hvt := hvt0.le lE
          try simp only [g8L21, g9L21, g10L21]
          have l2 := lsO_len (D := (digL (i : Int) 2 3)) (k := k) (o := 2)
          refine ob_i (ou.sl.ix (by omega) (by omega)) ?_
          refine ou.st (x := at_ 0 (digL (i : Int) 2 3) ((k : Int))) (by omega) (by omega) rfl rfl (fun H22 ou off23 => ?_)
          replace op1 := op1.off off23 ap1Xu
          replace hvt := hvt0.le (off23.le lE nu)
          replace lE := off23.le lE nu
          exact hJ20 _ _ ⟨g1L21, (g4L21.trans (congrArg (Value.int .i64) (by first | omega | rfl | (simp; done)))), (g5L21.trans (congrArg (Value.int .i64) (by first | omega | rfl | (simp; done)))), g7L21, g8L21, g16L21, g17L21, g18L21, g29L21, g30L21, g31L21, op1, (Own.cast (lsO_back hold (by omega)) ou), lE⟩
        refine ob_i (op1.fa 0) ?_
        refine ob_i (op1.ld 0 rfl) ?_
        refine ⟨fun n' σ' H' => ∃ o : Nat, n' = 2 - o ∧ o ≤ 2 ∧ σ' 1 = p1 ∧ σ' 4 = (.int .i64 (snT T i + snF T i k + cO (digL (i : Int) 2 3) k o (snK T i k))) ∧ σ' 5 = (.int .i64 (3 * (i : Int) + (k : Int) + cO (digL (i : Int) 2 3) k o (1))) ∧ σ' 7 = (.int .i64 (at_ 0 (T) ((i : Int)))) ∧ σ' 8 = u ∧ σ' 9 = (.int .i64 ((k : Int))) ∧ σ' 10 = (.int .i64 (at_ 0 (digL (i : Int) 2 3) ((k : Int)))) ∧ σ' 16 = vt ∧ σ' 17 = (.int .i64 (((T).length : Int))) ∧ σ' 18 = (.int .i64 ((i : Int))) ∧ σ' 29 = u ∧ σ' 30 = (.int .i64 (((digL (i : Int) 2 3).length : Int))) ∧ σ' 31 = (.int .i64 ((k : Int))) ∧ σ' 37 = (.int .i64 (2)) ∧ σ' 38 = (.int .i64 ((o : Int))) ∧ Cel H' p1 [(.int .i64 (2)), (.int .i64 (1)), vt] ∧ Own eI H' u (lsO (digL (i : Int) 2 3) k o) ∧ Le H H',
          ⟨_, 0, rfl, by omega, g1L18, (g4L18.trans (congrArg (Value.int .i64) (by first | omega | rfl | (simp; done)))), (g5L18.trans (congrArg (Value.int .i64) (by first | omega | rfl | (simp; done)))), g7L18, g8L18, rfl, rfl, g16L18, g17L18, g18L18, g29L18, g30L18, g31L18, rfl, (congrArg (Value.int .i64) (by first | omega | rfl | (simp; done))), op1, (Own.cast (lsO_zero hold).symm ou), lE⟩, ?_⟩
        rintro n24 σ24 H24 ⟨o, rfl, hoN, g1L24, g4L24, g5L24, g7L24, g8L24, g9L24, g10L24, g16L24, g17L24, g18L24, g29L24, g30L24, g31L24, g37L24, g38L24, op1, ou, lE⟩
        have hvt := hvt0.le lE
        try simp only [g1L24, g4L24, g5L24, g7L24, g8L24, g9L24, g10L24, g37L24, g38L24]
        have ll := lsO_len (D := (digL (i : Int) 2 3)) (k := k) (o := o)
        have c1 := cO_bnd (D := (digL (i : Int) 2 3)) (k := k) (o := o) (snK T i k)
        have c2 := cO_bnd (D := (digL (i : Int) 2 3)) (k := k) (o := o) 1
        refine ob_i (vInt_lss _ _ _) ?_
        refine cnd_d (fun hg25 => ?_) (fun hg25 => ?_)
        · skip
          have to := hg25
          refine ob_i (vInt_eql _ _ _) ?_
          refine cnd_d (fun hg26 => ?_) (fun hg26 => ?_)
          · skip
            refine ob_i (vInt_add (by omega) (by omega)) ?_
            have q1 := cO_skip hold hg26 (snK T i k)
            have q2 := cO_skip hold hg26 1
            exact nxt (2 - (o + 1)) (by omega) ⟨o + 1, rfl, by omega, g1L24, (g4L24.trans (congrArg (Value.int .i64) (by first | omega | rfl | (simp; done)))), (g5L24.trans (congrArg (Value.int .i64) (by first | omega | rfl | (simp; done)))), g7L24, g8L24, g9L24, g10L24, g16L24, g17L24, g18L24, g29L24, g30L24, g31L24, g37L24, (congrArg (Value.int .i64) (by first | omega | rfl | (simp; done))), op1, (Own.cast (lsO_skip hold hg26) ou), lE⟩
          · skip
            refine ob_i (ou.sl.ix (by omega) (by omega)) ?_
            refine ou.st (x := (o : Int)) (by omega) (by omega) rfl rfl (fun H27 ou off28 => ?_)
            replace op1 := op1.off off28 ap1Xu
            replace hvt := hvt0.le (off28.le lE nu)
            replace lE := off28.le lE nu
            refine ob_i (vInt_add (by omega) (by omega)) ?_
            refine ob_i (op1.ldn rfl) ?_
            refine C.impl_Rule_tells hvt ou.sl (by first | omega | assumption) (by intro x hx; rw [lsO_put hold (by omega) hg26] at hx; have := lsO_in hD (by omega) x hx; omega) (by rw [List.length_set, lsO_len]; omega) (fun   H29    le30 => ?_)
            replace op1 := op1.le le30
            replace ou := ou.le le30
            replace hvt := hvt.le le30
            replace lE := lE.trans le30
            refine ob_i (vInt_neq _ _ _) ?_
            refine cnd_d (fun hg31 => ?_) (fun hg31 => ?_)
            · skip
              refine ob_i (vInt_add (by omega) (by omega)) ?_
              refine ob_i (vInt_add (by omega) (by omega)) ?_
              have q1 := cO_put hold (by omega) hg26 (snK T i k)
              have q2 := cO_put hold (by omega) hg26 1
              have q3 := (snK_of (T := T) hold (by omega) hg26).1 hg31
              exact nxt (2 - (o + 1)) (by omega) ⟨o + 1, rfl, by omega, g1L24, (congrArg (Value.int .i64) (by first | omega | rfl | (simp; done))), (congrArg (Value.int .i64) (by first | omega | rfl | (simp; done))), g7L24, g8L24, g9L24, g10L24, g16L24, g17L24, g18L24, g29L24, g30L24, g31L24, g37L24, (congrArg (Value.int .i64) (by first | omega | rfl | (simp; done))), op1, (Own.cast (lsO_put hold (by omega) hg26) ou), lE⟩
            · skip
              refine ob_i (vInt_add (by omega) (by omega)) ?_
              have q1 := cO_put hold (by omega) hg26 (snK T i k)
              have q2 := cO_put hold (by omega) hg26 1
              have q3 := (snK_of (T := T) hold (by omega) hg26).2 hg31
              exact nxt (2 - (o + 1)) (by omega) ⟨o + 1, rfl, by omega, g1L24, (g4L24.trans (congrArg (Value.int .i64) (by first | omega | rfl | (simp; done)))), (congrArg (Value.int .i64) (by first | omega | rfl | (simp; done))), g7L24, g8L24, g9L24, g10L24, g16L24, g17L24, g18L24, g29L24, g30L24, g31L24, g37L24, (congrArg (Value.int .i64) (by first | omega | rfl | (simp; done))), op1, (Own.cast (lsO_put hold (by omega) hg26) ou), lE⟩
        · skip
          have to := hg25
          obtain rfl : o = 2 := by omega
          have z1 := cO_two hold (snK T i k)
          have z2 := cO_two hold 1
          exact hJ21 _ _ ⟨g1L24, (g4L24.trans (congrArg (Value.int .i64) (by first | omega | rfl | (simp; done)))), (g5L24.trans (congrArg (Value.int .i64) (by first | omega | rfl | (simp; done)))), g7L24, g8L24, g9L24, g10L24, g16L24, g17L24, g18L24, g29L24, g30L24, g31L24, op1, ou, lE⟩
      · skip
        have tk := hg19
        obtain rfl : k = 3 := by omega
        exact hJ12 _ _ ⟨g1L18, (g4L18.trans (congrArg (Value.int .i64) (by first | omega | rfl | (simp; done)))), (g5L18.trans (congrArg (Value.int .i64) (by first | omega | rfl | (simp; done)))), g16L18, g17L18, g18L18, op1, lE⟩
    · skip
      have ti := hg11
      obtain rfl : i = 8 := by omega
      exact hJ8 _ _ ⟨(g4L10.trans (congrArg (Value.int .i64) (by first | omega | rfl | (simp; done)))), (g5L10.trans (congrArg (Value.int .i64) (by first | omega | rfl | (simp; done)))), op1, lE, (by omega)⟩
  · skip
    exact absurd hc7 (fun h => h hr)
set_option maxHeartbeats 2000000 in
theorem C.laws_FnTables {vy vm : Value} {l : List Int} {mm : List Int}  {H : Hp} {K : Value → Hp → Prop} (hvy0 : Sl eU H vy l) (hvm0 : Sl eU H vm mm) (hb_vy : bytP l) (hl_vy : l.length ≤ 9223372036854775807) (hb_vm : bytP mm) (hl_vm : mm.length ≤ 9223372036854775807)
    (hk : ∀ H', Le H H' → K (.bool true) H') : HT prg I.laws_FnTables [vy, vm].toArray H K := by
  have lE := Le.refl H
  have hvy := hvy0
  have hvm := hvm0
  refine R.laws_FnTables ?_
  unfold F.laws_FnTables
  refine C.laws_r8Long hvy hvm (fun   H1    le2 => ?_)
  replace hvy := hvy.le le2
  replace hvm := hvm.le le2
  replace lE := lE.trans le2
  refine cnd_d (fun hg3 => ?_) (fun hg3 => ?_)
  · skip
    skip
    exact hk   _    lE
  · skip
    refine C.laws_r8At (k := 40) (n := 256) hvm hb_vm hl_vm (by omega) (fun x4 xp5 xq6 => ?_)
    replace xq6 := xq6 (by omega)
    obtain ⟨num, hnum⟩ : ∃ x : Int, x = x4 := ⟨_, rfl⟩
    rw [← hnum]
    refine C.impl_RuleOfNumber (by first | omega | assumption) (by first | omega | assumption) (fun  u9 H7 ou9 nn10  le8 => ?_)
    have nu9 : Nw H u9 := nn10.le lE
    replace hvy := hvy.le le8
    replace hvm := hvm.le le8
    replace lE := lE.trans le8
    have nf := num_facts (num := num) (by omega) (by omega)
    have o1 := nf.1
    have b1 := nf.2.1
    have hnr : ruleP 2 1 (nbF num 8) := nb_rule
    have l8 := nbF_len num 8
    refine ob_i (vExt_20 _ _) ?_
    refine ob_i (vExt_21 _ _) ?_
    refine nw_i (fun p11 H12 op11 nn13 le14 => ?_)
    have au9Xp11 : Apart u9 p11 := ou9.apart nn13
    have np11 : Nw H p11 := nn13.le lE
    replace ou9 := ou9.le le14
    replace hvy := hvy.le le14
    replace hvm := hvm.le le14
    replace lE := lE.trans le14
    replace op11 : Cel H12 p11 [(.int .i64 (0)), (.int .i64 (0)), (.slice none 0 0)] := op11
    refine op11.stn (ws := [(.int .i64 (2)), (.int .i64 (1)), u9]) rfl rfl (oc1 rfl (oc1 rfl (oc1 ou9.one oc0))) (fun H15 op11 off16 => ?_)
    replace ou9 := ou9.off off16 au9Xp11
    replace hvy := hvy0.le (off16.le lE np11)
    replace hvm := hvm0.le (off16.le lE np11)
    replace lE := off16.le lE np11
    replace op11 : Cel H15 p11 [(.int .i64 (2)), (.int .i64 (1)), u9] := op11
    refine ob_i (op11.ldn rfl) ?_
    refine C.impl_NumberOfRule ou9.sl (by first | omega | assumption) (fun   H17    le18 => ?_)
    replace ou9 := ou9.le le18
    replace op11 := op11.le le18
    replace hvy := hvy.le le18
    replace hvm := hvm.le le18
    replace lE := lE.trans le18
    refine ob_i (vExt_20 _ _) ?_
    refine ob_i (vExt_21 _ _) ?_
    refine ob_i (op11.ldn rfl) ?_
    refine C.impl_ActiveShare ou9.sl (by first | omega | assumption) (fun  z19 hz19  H20    le21 => ?_)
    replace ou9 := ou9.le le21
    replace op11 := op11.le le21
    replace hvy := hvy.le le21
    replace hvm := hvm.le le21
    replace lE := lE.trans le21
    refine ob_i (vExt_20 _ _) ?_
    refine ob_i (vExt_21 _ _) ?_
    refine ob_i (op11.ldn rfl) ?_
    refine C.impl_SenseOf ou9.sl (by first | omega | assumption) (fun  z22 hz22  H23    le24 => ?_)
    replace ou9 := ou9.le le24
    replace op11 := op11.le le24
    replace hvy := hvy.le le24
    replace hvm := hvm.le le24
    replace lE := lE.trans le24
    refine ob_i (vExt_20 _ _) ?_
    refine ob_i (vExt_21 _ _) ?_
    refine jn_i (fun σ' H' => σ' 0 = vy ∧ σ' 1 = vm ∧ σ' 5 = (.int .i64 (num)) ∧ σ' 7 = (.bool true) ∧ σ' 8 = (.int .i64 (orN (nbF num 8) 8)) ∧ σ' 9 = (.bool true) ∧ σ' 10 = (.float .f32 z19) ∧ σ' 11 = (.bool true) ∧ σ' 12 = (.float .f32 z22) ∧ σ' 13 = (.bool true) ∧ σ' 14 = (.int .i64 (btF num 8)) ∧ Own eI H' u9 (nbF num 8) ∧ Cel H' p11 [(.int .i64 (2)), (.int .i64 (1)), u9] ∧ Le H H' ∧ True) (fun σ25 H25 hP => ?_) (fun J25 hJ25 => ?_)
    · skip
      obtain ⟨g0L25, g1L25, g5L25, g7L25, g8L25, g9L25, g10L25, g11L25, g12L25, g13L25, g14L25, ou9, op11, lE, ho0⟩ := hP
      have hvy := hvy0.le lE
      have hvm := hvm0.le lE
      try simp only [g0L25, g1L25, g5L25, g7L25, g8L25, g9L25, g10L25, g11L25, g12L25, g13L25, g14L25]
      refine ob_i (a := .bool false) rfl ?_
      refine gop_rf ?_
      refine gop_rf ?_
      refine ob_i (a := .bool false) rfl ?_
      refine ob_i (vPick_f _ _) ?_
      refine gop_rf ?_
      refine gop_rf ?_
      refine ob_i (a := .bool false) rfl ?_
      refine ob_i (vPick_f _ _) ?_
      refine gop_rf ?_
      refine gop_rf ?_
      refine ob_i (a := .bool false) rfl ?_
      refine ob_i (vPick_f _ _) ?_
      refine gop_rf ?_
      refine gop_rf ?_
      refine gop_rf ?_
      refine ob_i (vInt_neq _ _ _) ?_
      refine ob_i (vPick_f _ _) ?_
      by_cases hc26 : (orN (nbF num 8) 8) ≠ num
      · skip
        refine gop_e (decide_eq_true hc26) ?_
        refine gop_st ?_
        refine gop_e (decide_eq_true hc26) ?_
        refine gop_st ?_
        refine gop_e (decide_eq_true hc26) ?_
        refine gop_st ?_
        refine gop_e (decide_eq_true hc26) ?_
        refine gop_st ?_
        refine gop_e (decide_eq_true hc26) ?_
        refine gop_st ?_
        refine ob_i (vPick_et (decide_eq_true hc26) _ _) ?_
        refine gop_st ?_
        refine gop_st ?_
        refine ob_i (vPick_t _ _) ?_
        refine gop_st ?_
        refine gop_st ?_
        refine ob_i (vPick_t _ _) ?_
        refine gop_st ?_
        refine gop_st ?_
        refine gop_st ?_
        refine gop_st ?_
        refine gop_st ?_
        refine gop_u ?_
        refine gop_u ?_
        refine gop_st ?_
        refine gop_st ?_
        refine ob_i (vPick_t _ _) ?_
        refine cnd_t1 ?_
        exfalso
        omega
      · skip
        refine gop_e (decide_eq_false hc26) ?_
        refine gop_rf ?_
        refine gop_e (decide_eq_false hc26) ?_
        refine gop_rf ?_
        refine fA_mul (a := (fDiv (fI (czF (nbF num 8) (nbF num 8).length)) (fI ((nbF num 8).length : Int)))) (b := (some 1090519040)) hz19 (FR_some _) (fun z27 hz27 => ?_)
        refine gop_e (decide_eq_false hc26) ?_
        refine gop_rf ?_
        refine gop_e (decide_eq_false hc26) ?_
        refine gop_rf ?_
        refine ob_i (a := (.float .f32 (FloatKind.nearest .f32 (btF num 8)))) rfl ?_
        refine gop_e (decide_eq_false hc26) ?_
        refine gop_rf ?_
        refine ob_i (vF_neq _ _) ?_
        refine ob_i (vPick_ef (decide_eq_false hc26) _ _) ?_
        by_cases hc28 : (!(fEq z27 (FloatKind.nearest .f32 (btF num 8)))) = true
        · skip
          refine gop_e (hc28) ?_
          refine gop_st ?_
          refine gop_e (hc28) ?_
          refine gop_st ?_
          refine ob_i (vPick_et (hc28) _ _) ?_
          refine gop_st ?_
          refine gop_st ?_
          refine ob_i (vPick_t _ _) ?_
          refine gop_st ?_
          refine gop_st ?_
          refine gop_st ?_
          refine gop_st ?_
          refine gop_st ?_
          refine gop_u ?_
          refine gop_u ?_
          refine gop_st ?_
          refine gop_st ?_
          refine ob_i (vPick_t _ _) ?_
          refine cnd_t1 ?_
          exfalso
          rw [b1, share_fin l8 hz27] at hc28; simp at hc28
        · skip
          refine gop_e (eq_false_of_ne_true hc28) ?_
          refine gop_rf ?_
          refine gop_e (eq_false_of_ne_true hc28) ?_
          refine gop_rf ?_
          refine ob_i (vF_lss _ _) ?_
          refine ob_i (vPick_ef (eq_false_of_ne_true hc28) _ _) ?_
          by_cases hc29 : (fLt z22 0) = true
          · skip
            refine gop_e (hc29) ?_
            refine gop_st ?_
            refine gop_e (hc29) ?_
            refine gop_st ?_
            refine ob_i (vPick_et (hc29) _ _) ?_
            refine gop_st ?_
            refine gop_st ?_
            refine gop_st ?_
            refine gop_st ?_
            refine gop_st ?_
            refine gop_u ?_
            refine gop_u ?_
            refine gop_st ?_
            refine gop_st ?_
            refine ob_i (vPick_t _ _) ?_
            refine cnd_t1 ?_
            exfalso
            rw [(sense_fin hz22).1] at hc29; simp at hc29
          · skip
            refine gop_e (eq_false_of_ne_true hc29) ?_
            refine gop_rf ?_
            refine gop_e (eq_false_of_ne_true hc29) ?_
            refine gop_rf ?_
            refine ob_i (vF_gtr _ _) ?_
            refine ob_i (vPick_ef (eq_false_of_ne_true hc29) _ _) ?_
            by_cases hc30 : (fGt z22 1065353216) = true
            · skip
              refine gop_e (hc30) ?_
              refine gop_st ?_
              refine gop_e (hc30) ?_
              refine gop_st ?_
              refine gop_e (hc30) ?_
              refine gop_st ?_
              refine gop_e (hc30) ?_
              refine gop_st ?_
              refine gop_e (hc30) ?_
              refine gop_st ?_
              refine gop_u ?_
              refine gop_u ?_
              refine gop_e (hc30) ?_
              refine gop_st ?_
              refine gop_e (hc30) ?_
              refine gop_st ?_
              refine ob_i (vPick_et (hc30) _ _) ?_
              refine cnd_t1 ?_
              exfalso
              rw [(sense_fin hz22).2.1] at hc30; simp at hc30
            · skip
              refine gop_e (eq_false_of_ne_true hc30) ?_
              refine gop_rf ?_
              refine gop_e (eq_false_of_ne_true hc30) ?_
              refine gop_rf ?_
              refine ob_i (vF_eql _ _) ?_
              refine gop_e (eq_false_of_ne_true hc30) ?_
              refine gop_rf ?_
              refine gop_e (eq_false_of_ne_true hc30) ?_
              refine gop_rf ?_
              refine ob_i (vInt_eql _ _ _) ?_
              refine gop_e (eq_false_of_ne_true hc30) ?_
              refine gop_rf ?_
              by_cases hc31 : num = 0
              · skip
                refine gop_e (decide_eq_true hc31) ?_
                refine gop_st ?_
                refine gop_e (decide_eq_true hc31) ?_
                refine gop_st ?_
                refine gop_e (eq_false_of_ne_true hc30) ?_
                refine gop_rf ?_
                refine ob_i (vPick_et (decide_eq_true hc31) _ _) ?_
                refine gop_e (eq_false_of_ne_true hc30) ?_
                refine gop_rf ?_
                refine ob_i (vBool_neq _ _) ?_
                refine ob_i (vPick_ef (eq_false_of_ne_true hc30) _ _) ?_
                refine cnd_i (fun hg32 => ?_) (fun hg32 => ?_)
                · skip
                  exfalso
                  rw [sense_bad (by omega) (by omega) hz22] at hg32; first | (simp_all; done) | (simp_all; omega)
                · skip
                  refine C.laws_r8At (k := 41) (n := 2) hvm hb_vm hl_vm (by omega) (fun x33 xp34 xq35 => ?_)
                  replace xq35 := xq35 (by omega)
                  refine ob_i (vInt_add (by omega) (by omega)) ?_
                  obtain ⟨st, hst⟩ : ∃ x : Int, x = 2 + x33 := ⟨_, rfl⟩
                  rw [← hst]
                  refine C.laws_r8At (k := 42) (n := 3) hvm hb_vm hl_vm (by omega) (fun x36 xp37 xq38 => ?_)
                  replace xq38 := xq38 (by omega)
                  refine ob_i (vInt_mul (by omega) (by omega)) ?_
                  refine ob_i (vInt_add (by omega) (by omega)) ?_
                  refine C.spec_R8Ring hvy (by first | omega | assumption) (by first | omega | assumption) (by first | omega | assumption) (by first | omega | assumption) (by first | omega | assumption) (by first | omega | assumption) (fun  ls39 hls39 u42 H40 ou42 nn43  le41 => ?_)
                  have au9Xu42 : Apart u9 u42 := ou9.apart nn43
                  have ap11Xu42 : Apart p11 u42 := op11.apart nn43
                  have nu42 : Nw H u42 := nn43.le lE
                  replace ou9 := ou9.le le41
                  replace op11 := op11.le le41
                  replace hvy := hvy.le le41
                  replace hvm := hvm.le le41
                  replace lE := lE.trans le41
                  have els39 := hls39.1
                  have ils39 := hls39.2
                  have rls39 : ringP st ls39 := ⟨ils39, by omega, by omega⟩
                  refine C.impl_SumRule ou42.sl (by first | omega | assumption) (by first | omega | assumption) (by first | omega | assumption) (fun  u46 H44 ou46 nn47  le45 => ?_)
                  have au9Xu46 : Apart u9 u46 := ou9.apart nn47
                  have ap11Xu46 : Apart p11 u46 := op11.apart nn47
                  have au42Xu46 : Apart u42 u46 := ou42.apart nn47
                  have nu46 : Nw H u46 := nn47.le lE
                  replace ou9 := ou9.le le45
                  replace op11 := op11.le le45
                  replace ou42 := ou42.le le45
                  replace hvy := hvy.le le45
                  replace hvm := hvm.le le45
                  replace lE := lE.trans le45
                  have hrs := wg_rule (st := st) (rc := (ls39.length : Int) / 2) (w := ls39) (by omega) (by omega) (by omega)
                  have has := add_wg (st := st) (rc := (ls39.length : Int) / 2) (w := ls39) (by omega) (by omega) (by omega) ils39
                  refine ob_i (vExt_20 _ _) ?_
                  refine ob_i (vExt_21 _ _) ?_
                  refine nw_i (fun p48 H49 op48 nn50 le51 => ?_)
                  have au9Xp48 : Apart u9 p48 := ou9.apart nn50
                  have ap11Xp48 : Apart p11 p48 := op11.apart nn50
                  have au42Xp48 : Apart u42 p48 := ou42.apart nn50
                  have au46Xp48 : Apart u46 p48 := ou46.apart nn50
                  have np48 : Nw H p48 := nn50.le lE
                  replace ou9 := ou9.le le51
                  replace op11 := op11.le le51
                  replace ou42 := ou42.le le51
                  replace ou46 := ou46.le le51
                  replace hvy := hvy.le le51
                  replace hvm := hvm.le le51
                  replace lE := lE.trans le51
                  replace op48 : Cel H49 p48 [(.int .i64 (0)), (.int .i64 (0)), (.slice none 0 0)] := op48
                  refine op48.stn (ws := [(.int .i64 (st)), (.int .i64 ((ls39.length : Int) / 2)), u46]) rfl rfl (oc1 rfl (oc1 rfl (oc1 ou46.one oc0))) (fun H52 op48 off53 => ?_)
                  replace ou9 := ou9.off off53 au9Xp48
                  replace op11 := op11.off off53 ap11Xp48
                  replace ou42 := ou42.off off53 au42Xp48
                  replace ou46 := ou46.off off53 au46Xp48
                  replace hvy := hvy0.le (off53.le lE np48)
                  replace hvm := hvm0.le (off53.le lE np48)
                  replace lE := off53.le lE np48
                  replace op48 : Cel H52 p48 [(.int .i64 (st)), (.int .i64 ((ls39.length : Int) / 2)), u46] := op48
                  refine ob_i (op48.ldn rfl) ?_
                  refine C.impl_IsSumRule ou46.sl (by first | omega | assumption) (fun   H54    le55 => ?_)
                  replace ou9 := ou9.le le55
                  replace op11 := op11.le le55
                  replace ou42 := ou42.le le55
                  replace ou46 := ou46.le le55
                  replace op48 := op48.le le55
                  replace hvy := hvy.le le55
                  replace hvm := hvm.le le55
                  replace lE := lE.trans le55
                  refine ob_i (vExt_20 _ _) ?_
                  refine ob_i (vExt_21 _ _) ?_
                  refine C.laws_r8At (k := 43) (n := 12) hvm hb_vm hl_vm (by omega) (fun x56 xp57 xq58 => ?_)
                  replace xq58 := xq58 (by omega)
                  refine ob_i (vInt_add (by omega) (by omega)) ?_
                  obtain ⟨n, hn⟩ : ∃ x : Int, x = 1 + x56 := ⟨_, rfl⟩
                  rw [← hn]
                  refine C.spec_R8Ring hvy (by first | omega | assumption) (by first | omega | assumption) (by first | omega | assumption) (by first | omega | assumption) (by first | omega | assumption) (by first | omega | assumption) (fun  ls59 hls59 u62 H60 ou62 nn63  le61 => ?_)
                  have au9Xu62 : Apart u9 u62 := ou9.apart nn63
                  have ap11Xu62 : Apart p11 u62 := op11.apart nn63
                  have au42Xu62 : Apart u42 u62 := ou42.apart nn63
                  have au46Xu62 : Apart u46 u62 := ou46.apart nn63
                  have ap48Xu62 : Apart p48 u62 := op48.apart nn63
                  have nu62 : Nw H u62 := nn63.le lE
                  replace ou9 := ou9.le le61
                  replace op11 := op11.le le61
                  replace ou42 := ou42.le le61
                  replace ou46 := ou46.le le61
                  replace op48 := op48.le le61
                  replace hvy := hvy.le le61
                  replace hvm := hvm.le le61
                  replace lE := lE.trans le61
                  have els59 := hls59.1
                  have ils59 := hls59.2
                  have rls59 : ringP st ls59 := ⟨ils59, by omega, by omega⟩
                  refine C.spec_R8Ring hvm (by first | omega | assumption) (by first | omega | assumption) (by first | omega | assumption) (by first | omega | assumption) (by first | omega | assumption) (by first | omega | assumption) (fun  ls64 hls64 u67 H65 ou67 nn68  le66 => ?_)
                  have au9Xu67 : Apart u9 u67 := ou9.apart nn68
                  have ap11Xu67 : Apart p11 u67 := op11.apart nn68
                  have au42Xu67 : Apart u42 u67 := ou42.apart nn68
                  have au46Xu67 : Apart u46 u67 := ou46.apart nn68
                  have ap48Xu67 : Apart p48 u67 := op48.apart nn68
                  have au62Xu67 : Apart u62 u67 := ou62.apart nn68
                  have nu67 : Nw H u67 := nn68.le lE
                  replace ou9 := ou9.le le66
                  replace op11 := op11.le le66
                  replace ou42 := ou42.le le66
                  replace ou46 := ou46.le le66
                  replace op48 := op48.le le66
                  replace ou62 := ou62.le le66
                  replace hvy := hvy.le le66
                  replace hvm := hvm.le le66
                  replace lE := lE.trans le66
                  have els64 := hls64.1
                  have ils64 := hls64.2
                  have rls64 : ringP st ls64 := ⟨ils64, by omega, by omega⟩
                  refine ob_i (op48.ldn rfl) ?_
                  refine C.impl_StepRing ou46.sl ou62.sl (by first | omega | assumption) (by first | assumption | exact zero_ring (by omega) (by omega) (by omega)) (fun  u71 H69 ou71 nn72  le70 => ?_)
                  have au9Xu71 : Apart u9 u71 := ou9.apart nn72
                  have ap11Xu71 : Apart p11 u71 := op11.apart nn72
                  have au42Xu71 : Apart u42 u71 := ou42.apart nn72
                  have au46Xu71 : Apart u46 u71 := ou46.apart nn72
                  have ap48Xu71 : Apart p48 u71 := op48.apart nn72
                  have au62Xu71 : Apart u62 u71 := ou62.apart nn72
                  have au67Xu71 : Apart u67 u71 := ou67.apart nn72
                  have nu71 : Nw H u71 := nn72.le lE
                  replace ou9 := ou9.le le70
                  replace op11 := op11.le le70
                  replace ou42 := ou42.le le70
                  replace ou46 := ou46.le le70
                  replace op48 := op48.le le70
                  replace ou62 := ou62.le le70
                  replace ou67 := ou67.le le70
                  replace hvy := hvy.le le70
                  replace hvm := hvm.le le70
                  replace lE := lE.trans le70
                  have rgk73 : ringP st (ls59) := by first | assumption | exact zero_ring (by omega) (by omega) (by omega)
                  have lrk73 := rgk73.2
                  have rsk73 := stpL_ring (st := st) (rc := (ls39.length : Int) / 2) (T := wgL st ls39) (ring := ls59) (by assumption) (by first | assumption | exact zero_ring (by omega) (by omega) (by omega))
                  have isk73 := rsk73.1
                  have lsk73 := stpL_len st ((ls39.length : Int) / 2) (wgL st ls39) (ls59)
                  refine ob_i (vExt_20 _ _) ?_
                  refine ob_i (vExt_21 _ _) ?_
                  refine ob_i (op48.ldn rfl) ?_
                  refine C.impl_StepRing ou46.sl ou67.sl (by first | omega | assumption) (by first | assumption | exact zero_ring (by omega) (by omega) (by omega)) (fun  u76 H74 ou76 nn77  le75 => ?_)
                  have au9Xu76 : Apart u9 u76 := ou9.apart nn77
                  have ap11Xu76 : Apart p11 u76 := op11.apart nn77
                  have au42Xu76 : Apart u42 u76 := ou42.apart nn77
                  have au46Xu76 : Apart u46 u76 := ou46.apart nn77
                  have ap48Xu76 : Apart p48 u76 := op48.apart nn77
                  have au62Xu76 : Apart u62 u76 := ou62.apart nn77
                  have au67Xu76 : Apart u67 u76 := ou67.apart nn77
                  have au71Xu76 : Apart u71 u76 := ou71.apart nn77
                  have nu76 : Nw H u76 := nn77.le lE
                  replace ou9 := ou9.le le75
                  replace op11 := op11.le le75
                  replace ou42 := ou42.le le75
                  replace ou46 := ou46.le le75
                  replace op48 := op48.le le75
                  replace ou62 := ou62.le le75
                  replace ou67 := ou67.le le75
                  replace ou71 := ou71.le le75
                  replace hvy := hvy.le le75
                  replace hvm := hvm.le le75
                  replace lE := lE.trans le75
                  have rgk78 : ringP st (ls64) := by first | assumption | exact zero_ring (by omega) (by omega) (by omega)
                  have lrk78 := rgk78.2
                  have rsk78 := stpL_ring (st := st) (rc := (ls39.length : Int) / 2) (T := wgL st ls39) (ring := ls64) (by assumption) (by first | assumption | exact zero_ring (by omega) (by omega) (by omega))
                  have isk78 := rsk78.1
                  have lsk78 := stpL_len st ((ls39.length : Int) / 2) (wgL st ls39) (ls64)
                  refine ob_i (vExt_20 _ _) ?_
                  refine ob_i (vExt_21 _ _) ?_
                  refine ob_i (op48.ldn rfl) ?_
                  refine C.laws_r8Plus ou62.sl ou67.sl (by first | omega | assumption) (by first | omega | assumption) (by first | omega | assumption) (by first | omega | assumption) (by first | omega | assumption) (by first | omega | assumption) (fun  u81 H79 ou81 nn82  le80 => ?_)
                  have au9Xu81 : Apart u9 u81 := ou9.apart nn82
                  have ap11Xu81 : Apart p11 u81 := op11.apart nn82
                  have au42Xu81 : Apart u42 u81 := ou42.apart nn82
                  have au46Xu81 : Apart u46 u81 := ou46.apart nn82
                  have ap48Xu81 : Apart p48 u81 := op48.apart nn82
                  have au62Xu81 : Apart u62 u81 := ou62.apart nn82
                  have au67Xu81 : Apart u67 u81 := ou67.apart nn82
                  have au71Xu81 : Apart u71 u81 := ou71.apart nn82
                  have au76Xu81 : Apart u76 u81 := ou76.apart nn82
                  have nu81 : Nw H u81 := nn82.le lE
                  replace ou9 := ou9.le le80
                  replace op11 := op11.le le80
                  replace ou42 := ou42.le le80
                  replace ou46 := ou46.le le80
                  replace op48 := op48.le le80
                  replace ou62 := ou62.le le80
                  replace ou67 := ou67.le le80
                  replace ou71 := ou71.le le80
                  replace ou76 := ou76.le le80
                  replace hvy := hvy.le le80
                  replace hvm := hvm.le le80
                  replace lE := lE.trans le80
                  refine ⟨le80, ?_⟩
                  have lpk83 : (plL st (ls59) (ls64)).length = (ls59).length := plF_len _ _ _ _
                  have rpk83 : ringP st (plL st (ls59) (ls64)) := ⟨plL_in (by omega), by omega, by omega⟩
                  refine C.impl_StepRing ou46.sl ou81.sl (by first | omega | assumption) (by first | assumption | exact zero_ring (by omega) (by omega) (by omega)) (fun  u86 H84 ou86 nn87  le85 => ?_)
                  have au9Xu86 : Apart u9 u86 := ou9.apart nn87
                  have ap11Xu86 : Apart p11 u86 := op11.apart nn87
                  have au42Xu86 : Apart u42 u86 := ou42.apart nn87
                  have au46Xu86 : Apart u46 u86 := ou46.apart nn87
                  have ap48Xu86 : Apart p48 u86 := op48.apart nn87
                  have au62Xu86 : Apart u62 u86 := ou62.apart nn87
                  have au67Xu86 : Apart u67 u86 := ou67.apart nn87
                  have au71Xu86 : Apart u71 u86 := ou71.apart nn87
                  have au76Xu86 : Apart u76 u86 := ou76.apart nn87
                  have au81Xu86 : Apart u81 u86 := ou81.apart nn87
                  have nu86 : Nw H u86 := nn87.le lE
                  replace ou9 := ou9.le le85
                  replace op11 := op11.le le85
                  replace ou42 := ou42.le le85
                  replace ou46 := ou46.le le85
                  replace op48 := op48.le le85
                  replace ou62 := ou62.le le85
                  replace ou67 := ou67.le le85
                  replace ou71 := ou71.le le85
                  replace ou76 := ou76.le le85
                  replace ou81 := ou81.le le85
                  replace hvy := hvy.le le85
                  replace hvm := hvm.le le85
                  replace lE := lE.trans le85
                  refine ⟨le85, ?_⟩
                  have rgk88 : ringP st (plL st ls59 ls64) := by first | assumption | exact zero_ring (by omega) (by omega) (by omega)
                  have lrk88 := rgk88.2
                  have rsk88 := stpL_ring (st := st) (rc := (ls39.length : Int) / 2) (T := wgL st ls39) (ring := plL st ls59 ls64) (by assumption) (by first | assumption | exact zero_ring (by omega) (by omega) (by omega))
                  have isk88 := rsk88.1
                  have lsk88 := stpL_len st ((ls39.length : Int) / 2) (wgL st ls39) (plL st ls59 ls64)
                  refine ob_i (vExt_20 _ _) ?_
                  refine ob_i (vExt_21 _ _) ?_
                  refine ob_i (a := .bool false) rfl ?_
                  refine gop_rf ?_
                  refine gop_rf ?_
                  refine ob_i (a := .bool false) rfl ?_
                  refine ob_i (vPick_f _ _) ?_
                  refine gop_rf ?_
                  refine gop_rf ?_
                  refine ob_i (a := .bool false) rfl ?_
                  refine ob_i (vPick_f _ _) ?_
                  refine gop_rf ?_
                  refine gop_rf ?_
                  refine ob_i (a := .bool false) rfl ?_
                  refine ob_i (vPick_f _ _) ?_
                  refine gop_rf ?_
                  refine gop_rf ?_
                  refine ob_i (a := .bool false) rfl ?_
                  refine ob_i (vPick_f _ _) ?_
                  refine gop_rf ?_
                  refine gop_rf ?_
                  refine ob_nd (fun hc89 => ?_) (fun hc89 => ?_)
                  · skip
                    refine ob_i (vPick_f _ _) ?_
                    refine gop_rf ?_
                    refine gop_rf ?_
                    refine gop_rf ?_
                    refine gop_rf ?_
                    refine gop_rf ?_
                    refine C.laws_r8Plus ou71.sl ou76.sl (by first | omega | assumption) (by first | omega | assumption) (by first | omega | assumption) (by first | omega | assumption) (by first | omega | assumption) (by first | omega | assumption) (fun  u92 H90 ou92 nn93  le91 => ?_)
                    have au9Xu92 : Apart u9 u92 := ou9.apart nn93
                    have ap11Xu92 : Apart p11 u92 := op11.apart nn93
                    have au42Xu92 : Apart u42 u92 := ou42.apart nn93
                    have au46Xu92 : Apart u46 u92 := ou46.apart nn93
                    have ap48Xu92 : Apart p48 u92 := op48.apart nn93
                    have au62Xu92 : Apart u62 u92 := ou62.apart nn93
                    have au67Xu92 : Apart u67 u92 := ou67.apart nn93
                    have au71Xu92 : Apart u71 u92 := ou71.apart nn93
                    have au76Xu92 : Apart u76 u92 := ou76.apart nn93
                    have au81Xu92 : Apart u81 u92 := ou81.apart nn93
                    have au86Xu92 : Apart u86 u92 := ou86.apart nn93
                    have nu92 : Nw H u92 := nn93.le lE
                    replace ou9 := ou9.le le91
                    replace op11 := op11.le le91
                    replace ou42 := ou42.le le91
                    replace ou46 := ou46.le le91
                    replace op48 := op48.le le91
                    replace ou62 := ou62.le le91
                    replace ou67 := ou67.le le91
                    replace ou71 := ou71.le le91
                    replace ou76 := ou76.le le91
                    replace ou81 := ou81.le le91
                    replace ou86 := ou86.le le91
                    replace hvy := hvy.le le91
                    replace hvm := hvm.le le91
                    replace lE := lE.trans le91
                    have lpk94 : (plL st (stpL st ((ls39.length : Int) / 2) (wgL st ls39) ls59) (stpL st ((ls39.length : Int) / 2) (wgL st ls39) ls64)).length = (stpL st ((ls39.length : Int) / 2) (wgL st ls39) ls59).length := plF_len _ _ _ _
                    have rpk94 : ringP st (plL st (stpL st ((ls39.length : Int) / 2) (wgL st ls39) ls59) (stpL st ((ls39.length : Int) / 2) (wgL st ls39) ls64)) := ⟨plL_in (by omega), by omega, by omega⟩
                    refine gop_rf ?_
                    refine C.laws_r8Same ou86.sl ou92.sl (by first | omega | assumption) (fun   H95    le96 => ?_)
                    replace ou9 := ou9.le le96
                    replace op11 := op11.le le96
                    replace ou42 := ou42.le le96
                    replace ou46 := ou46.le le96
                    replace op48 := op48.le le96
                    replace ou62 := ou62.le le96
                    replace ou67 := ou67.le le96
                    replace ou71 := ou71.le le96
                    replace ou76 := ou76.le le96
                    replace ou81 := ou81.le le96
                    replace ou86 := ou86.le le96
                    replace ou92 := ou92.le le96
                    replace hvy := hvy.le le96
                    replace hvm := hvm.le le96
                    replace lE := lE.trans le96
                    refine gop_rf ?_
                    refine ob_nd (fun hc97 => ?_) (fun hc97 => ?_)
                    · skip
                      refine ob_i (vPick_f _ _) ?_
                      refine cnd_f1 ?_
                      refine ob_i (vInt_sub (by omega) (by omega)) ?_
                      refine ob_i (vInt_mul (by omega) (by omega)) ?_
                      refine ob_i (vInt_add (by omega) (by omega)) ?_
                      refine C.spec_R8Ring hvm (by first | omega | assumption) (by first | omega | assumption) (by first | omega | assumption) (by first | omega | assumption) (by first | omega | assumption) (by first | omega | assumption) (fun  ls98 hls98 u101 H99 ou101 nn102  le100 => ?_)
                      have au9Xu101 : Apart u9 u101 := ou9.apart nn102
                      have ap11Xu101 : Apart p11 u101 := op11.apart nn102
                      have au42Xu101 : Apart u42 u101 := ou42.apart nn102
                      have au46Xu101 : Apart u46 u101 := ou46.apart nn102
                      have ap48Xu101 : Apart p48 u101 := op48.apart nn102
                      have au62Xu101 : Apart u62 u101 := ou62.apart nn102
                      have au67Xu101 : Apart u67 u101 := ou67.apart nn102
                      have au71Xu101 : Apart u71 u101 := ou71.apart nn102
                      have au76Xu101 : Apart u76 u101 := ou76.apart nn102
                      have au81Xu101 : Apart u81 u101 := ou81.apart nn102
                      have au86Xu101 : Apart u86 u101 := ou86.apart nn102
                      have au92Xu101 : Apart u92 u101 := ou92.apart nn102
                      have nu101 : Nw H u101 := nn102.le lE
                      replace ou9 := ou9.le le100
                      replace op11 := op11.le le100
                      replace ou42 := ou42.le le100
                      replace ou46 := ou46.le le100
                      replace op48 := op48.le le100
                      replace ou62 := ou62.le le100
                      replace ou67 := ou67.le le100
                      replace ou71 := ou71.le le100
                      replace ou76 := ou76.le le100
                      replace ou81 := ou81.le le100
                      replace ou86 := ou86.le le100
                      replace ou92 := ou92.le le100
                      replace hvy := hvy.le le100
                      replace hvm := hvm.le le100
                      replace lE := lE.trans le100
                      have els98 := hls98.1
                      have ils98 := hls98.2
                      have rls98 : ringP st ls98 := ⟨ils98, by omega, by omega⟩
                      refine C.impl_TotalRule ou101.sl (by first | omega | assumption) (by first | omega | assumption) (by first | omega | assumption) (fun  u105 H103 ou105 nn106  le104 => ?_)
                      have au9Xu105 : Apart u9 u105 := ou9.apart nn106
                      have ap11Xu105 : Apart p11 u105 := op11.apart nn106
                      have au42Xu105 : Apart u42 u105 := ou42.apart nn106
                      have au46Xu105 : Apart u46 u105 := ou46.apart nn106
                      have ap48Xu105 : Apart p48 u105 := op48.apart nn106
                      have au62Xu105 : Apart u62 u105 := ou62.apart nn106
                      have au67Xu105 : Apart u67 u105 := ou67.apart nn106
                      have au71Xu105 : Apart u71 u105 := ou71.apart nn106
                      have au76Xu105 : Apart u76 u105 := ou76.apart nn106
                      have au81Xu105 : Apart u81 u105 := ou81.apart nn106
                      have au86Xu105 : Apart u86 u105 := ou86.apart nn106
                      have au92Xu105 : Apart u92 u105 := ou92.apart nn106
                      have au101Xu105 : Apart u101 u105 := ou101.apart nn106
                      have nu105 : Nw H u105 := nn106.le lE
                      replace ou9 := ou9.le le104
                      replace op11 := op11.le le104
                      replace ou42 := ou42.le le104
                      replace ou46 := ou46.le le104
                      replace op48 := op48.le le104
                      replace ou62 := ou62.le le104
                      replace ou67 := ou67.le le104
                      replace ou71 := ou71.le le104
                      replace ou76 := ou76.le le104
                      replace ou81 := ou81.le le104
                      replace ou86 := ou86.le le104
                      replace ou92 := ou92.le le104
                      replace ou101 := ou101.le le104
                      replace hvy := hvy.le le104
                      replace hvm := hvm.le le104
                      replace lE := lE.trans le104
                      have hrt := tot_rule (told := ls98) (st := st) (by omega) els98 ils98
                      have hTt : ∀ i : Nat, i < (totL ls98 st).length → at_ 0 (totL ls98 st) (i : Int) = at_ 0 ls98 (numL 1 (digL (i : Int) st 3)) := fun i hi => totL_at hi
                      have mt := mir_tot2 (told := ls98) (st := st) (by omega) els98 ils98
                      have rl3 := ruleP_len hrt
                      refine ob_i (vExt_20 _ _) ?_
                      refine ob_i (vExt_21 _ _) ?_
                      refine nw_i (fun p107 H108 op107 nn109 le110 => ?_)
                      have au9Xp107 : Apart u9 p107 := ou9.apart nn109
                      have ap11Xp107 : Apart p11 p107 := op11.apart nn109
                      have au42Xp107 : Apart u42 p107 := ou42.apart nn109
                      have au46Xp107 : Apart u46 p107 := ou46.apart nn109
                      have ap48Xp107 : Apart p48 p107 := op48.apart nn109
                      have au62Xp107 : Apart u62 p107 := ou62.apart nn109
                      have au67Xp107 : Apart u67 p107 := ou67.apart nn109
                      have au71Xp107 : Apart u71 p107 := ou71.apart nn109
                      have au76Xp107 : Apart u76 p107 := ou76.apart nn109
                      have au81Xp107 : Apart u81 p107 := ou81.apart nn109
                      have au86Xp107 : Apart u86 p107 := ou86.apart nn109
                      have au92Xp107 : Apart u92 p107 := ou92.apart nn109
                      have au101Xp107 : Apart u101 p107 := ou101.apart nn109
                      have au105Xp107 : Apart u105 p107 := ou105.apart nn109
                      have np107 : Nw H p107 := nn109.le lE
                      replace ou9 := ou9.le le110
                      replace op11 := op11.le le110
                      replace ou42 := ou42.le le110
                      replace ou46 := ou46.le le110
                      replace op48 := op48.le le110
                      replace ou62 := ou62.le le110
                      replace ou67 := ou67.le le110
                      replace ou71 := ou71.le le110
                      replace ou76 := ou76.le le110
                      replace ou81 := ou81.le le110
                      replace ou86 := ou86.le le110
                      replace ou92 := ou92.le le110
                      replace ou101 := ou101.le le110
                      replace ou105 := ou105.le le110
                      replace hvy := hvy.le le110
                      replace hvm := hvm.le le110
                      replace lE := lE.trans le110
                      replace op107 : Cel H108 p107 [(.int .i64 (0)), (.int .i64 (0)), (.slice none 0 0)] := op107
                      refine op107.stn (ws := [(.int .i64 (st)), (.int .i64 (1)), u105]) rfl rfl (oc1 rfl (oc1 rfl (oc1 ou105.one oc0))) (fun H111 op107 off112 => ?_)
                      replace ou9 := ou9.off off112 au9Xp107
                      replace op11 := op11.off off112 ap11Xp107
                      replace ou42 := ou42.off off112 au42Xp107
                      replace ou46 := ou46.off off112 au46Xp107
                      replace op48 := op48.off off112 ap48Xp107
                      replace ou62 := ou62.off off112 au62Xp107
                      replace ou67 := ou67.off off112 au67Xp107
                      replace ou71 := ou71.off off112 au71Xp107
                      replace ou76 := ou76.off off112 au76Xp107
                      replace ou81 := ou81.off off112 au81Xp107
                      replace ou86 := ou86.off off112 au86Xp107
                      replace ou92 := ou92.off off112 au92Xp107
                      replace ou101 := ou101.off off112 au101Xp107
                      replace ou105 := ou105.off off112 au105Xp107
                      replace hvy := hvy0.le (off112.le lE np107)
                      replace hvm := hvm0.le (off112.le lE np107)
                      replace lE := off112.le lE np107
                      replace op107 : Cel H111 p107 [(.int .i64 (st)), (.int .i64 (1)), u105] := op107
                      refine ob_i (op107.ldn rfl) ?_
                      refine C.impl_IsTotal ou105.sl (by first | omega | assumption) (by first | omega | assumption) (fun   H113    le114 => ?_)
                      replace ou9 := ou9.le le114
                      replace op11 := op11.le le114
                      replace ou42 := ou42.le le114
                      replace ou46 := ou46.le le114
                      replace op48 := op48.le le114
                      replace ou62 := ou62.le le114
                      replace ou67 := ou67.le le114
                      replace ou71 := ou71.le le114
                      replace ou76 := ou76.le le114
                      replace ou81 := ou81.le le114
                      replace ou86 := ou86.le le114
                      replace ou92 := ou92.le le114
                      replace ou101 := ou101.le le114
                      replace ou105 := ou105.le le114
                      replace op107 := op107.le le114
                      replace hvy := hvy.le le114
                      replace hvm := hvm.le le114
                      replace lE := lE.trans le114
                      refine ob_i (vExt_20 _ _) ?_
                      refine ob_i (vExt_21 _ _) ?_
                      refine ob_i (op107.ldn rfl) ?_
                      refine C.impl_MirrorRule ou105.sl (by first | omega | assumption) (fun  u117 H115 ou117 nn118  le116 => ?_)
                      have au9Xu117 : Apart u9 u117 := ou9.apart nn118
                      have ap11Xu117 : Apart p11 u117 := op11.apart nn118
                      have au42Xu117 : Apart u42 u117 := ou42.apart nn118
                      have au46Xu117 : Apart u46 u117 := ou46.apart nn118
                      have ap48Xu117 : Apart p48 u117 := op48.apart nn118
                      have au62Xu117 : Apart u62 u117 := ou62.apart nn118
                      have au67Xu117 : Apart u67 u117 := ou67.apart nn118
                      have au71Xu117 : Apart u71 u117 := ou71.apart nn118
                      have au76Xu117 : Apart u76 u117 := ou76.apart nn118
                      have au81Xu117 : Apart u81 u117 := ou81.apart nn118
                      have au86Xu117 : Apart u86 u117 := ou86.apart nn118
                      have au92Xu117 : Apart u92 u117 := ou92.apart nn118
                      have au101Xu117 : Apart u101 u117 := ou101.apart nn118
                      have au105Xu117 : Apart u105 u117 := ou105.apart nn118
                      have ap107Xu117 : Apart p107 u117 := op107.apart nn118
                      have nu117 : Nw H u117 := nn118.le lE
                      replace ou9 := ou9.le le116
                      replace op11 := op11.le le116
                      replace ou42 := ou42.le le116
                      replace ou46 := ou46.le le116
                      replace op48 := op48.le le116
                      replace ou62 := ou62.le le116
                      replace ou67 := ou67.le le116
                      replace ou71 := ou71.le le116
                      replace ou76 := ou76.le le116
                      replace ou81 := ou81.le le116
                      replace ou86 := ou86.le le116
                      replace ou92 := ou92.le le116
                      replace ou101 := ou101.le le116
                      replace ou105 := ou105.le le116
                      replace op107 := op107.le le116
                      replace hvy := hvy.le le116
                      replace hvm := hvm.le le116
                      replace lE := lE.trans le116
                      have lm := mirF_len st (totL ls98 st) (pwr st 3).toNat
                      have pb3 := pwr_bnd (b := st) (n := 3) (by omega) (by omega) (by omega)
                      refine ob_i (vExt_20 _ _) ?_
                      refine ob_i (vExt_21 _ _) ?_
                      refine nw_i (fun p119 H120 op119 nn121 le122 => ?_)
                      have au9Xp119 : Apart u9 p119 := ou9.apart nn121
                      have ap11Xp119 : Apart p11 p119 := op11.apart nn121
                      have au42Xp119 : Apart u42 p119 := ou42.apart nn121
                      have au46Xp119 : Apart u46 p119 := ou46.apart nn121
                      have ap48Xp119 : Apart p48 p119 := op48.apart nn121
                      have au62Xp119 : Apart u62 p119 := ou62.apart nn121
                      have au67Xp119 : Apart u67 p119 := ou67.apart nn121
                      have au71Xp119 : Apart u71 p119 := ou71.apart nn121
                      have au76Xp119 : Apart u76 p119 := ou76.apart nn121
                      have au81Xp119 : Apart u81 p119 := ou81.apart nn121
                      have au86Xp119 : Apart u86 p119 := ou86.apart nn121
                      have au92Xp119 : Apart u92 p119 := ou92.apart nn121
                      have au101Xp119 : Apart u101 p119 := ou101.apart nn121
                      have au105Xp119 : Apart u105 p119 := ou105.apart nn121
                      have ap107Xp119 : Apart p107 p119 := op107.apart nn121
                      have au117Xp119 : Apart u117 p119 := ou117.apart nn121
                      have np119 : Nw H p119 := nn121.le lE
                      replace ou9 := ou9.le le122
                      replace op11 := op11.le le122
                      replace ou42 := ou42.le le122
                      replace ou46 := ou46.le le122
                      replace op48 := op48.le le122
                      replace ou62 := ou62.le le122
                      replace ou67 := ou67.le le122
                      replace ou71 := ou71.le le122
                      replace ou76 := ou76.le le122
                      replace ou81 := ou81.le le122
                      replace ou86 := ou86.le le122
                      replace ou92 := ou92.le le122
                      replace ou101 := ou101.le le122
                      replace ou105 := ou105.le le122
                      replace op107 := op107.le le122
                      replace ou117 := ou117.le le122
                      replace hvy := hvy.le le122
                      replace hvm := hvm.le le122
                      replace lE := lE.trans le122
                      replace op119 : Cel H120 p119 [(.int .i64 (0)), (.int .i64 (0)), (.slice none 0 0)] := op119
                      refine op119.stn (ws := [(.int .i64 (st)), (.int .i64 (1)), u117]) rfl rfl (oc1 rfl (oc1 rfl (oc1 ou117.one oc0))) (fun H123 op119 off124 => ?_)
                      replace ou9 := ou9.off off124 au9Xp119
                      replace op11 := op11.off off124 ap11Xp119
                      replace ou42 := ou42.off off124 au42Xp119
                      replace ou46 := ou46.off off124 au46Xp119
                      replace op48 := op48.off off124 ap48Xp119
                      replace ou62 := ou62.off off124 au62Xp119
                      replace ou67 := ou67.off off124 au67Xp119
                      replace ou71 := ou71.off off124 au71Xp119
                      replace ou76 := ou76.off off124 au76Xp119
                      replace ou81 := ou81.off off124 au81Xp119
                      replace ou86 := ou86.off off124 au86Xp119
                      replace ou92 := ou92.off off124 au92Xp119
                      replace ou101 := ou101.off off124 au101Xp119
                      replace ou105 := ou105.off off124 au105Xp119
                      replace op107 := op107.off off124 ap107Xp119
                      replace ou117 := ou117.off off124 au117Xp119
                      replace hvy := hvy0.le (off124.le lE np119)
                      replace hvm := hvm0.le (off124.le lE np119)
                      replace lE := off124.le lE np119
                      replace op119 : Cel H123 p119 [(.int .i64 (st)), (.int .i64 (1)), u117] := op119
                      refine C.spec_R8Rule hvm (by first | omega | assumption) (by first | omega | assumption) (by first | omega | assumption) (by first | omega | assumption) (by first | omega | assumption) (by first | omega | assumption) (fun  ls125 hls125 u128 H126 ou128 nn129  le127 => ?_)
                      have au9Xu128 : Apart u9 u128 := ou9.apart nn129
                      have ap11Xu128 : Apart p11 u128 := op11.apart nn129
                      have au42Xu128 : Apart u42 u128 := ou42.apart nn129
                      have au46Xu128 : Apart u46 u128 := ou46.apart nn129
                      have ap48Xu128 : Apart p48 u128 := op48.apart nn129
                      have au62Xu128 : Apart u62 u128 := ou62.apart nn129
                      have au67Xu128 : Apart u67 u128 := ou67.apart nn129
                      have au71Xu128 : Apart u71 u128 := ou71.apart nn129
                      have au76Xu128 : Apart u76 u128 := ou76.apart nn129
                      have au81Xu128 : Apart u81 u128 := ou81.apart nn129
                      have au86Xu128 : Apart u86 u128 := ou86.apart nn129
                      have au92Xu128 : Apart u92 u128 := ou92.apart nn129
                      have au101Xu128 : Apart u101 u128 := ou101.apart nn129
                      have au105Xu128 : Apart u105 u128 := ou105.apart nn129
                      have ap107Xu128 : Apart p107 u128 := op107.apart nn129
                      have au117Xu128 : Apart u117 u128 := ou117.apart nn129
                      have ap119Xu128 : Apart p119 u128 := op119.apart nn129
                      have nu128 : Nw H u128 := nn129.le lE
                      replace ou9 := ou9.le le127
                      replace op11 := op11.le le127
                      replace ou42 := ou42.le le127
                      replace ou46 := ou46.le le127
                      replace op48 := op48.le le127
                      replace ou62 := ou62.le le127
                      replace ou67 := ou67.le le127
                      replace ou71 := ou71.le le127
                      replace ou76 := ou76.le le127
                      replace ou81 := ou81.le le127
                      replace ou86 := ou86.le le127
                      replace ou92 := ou92.le le127
                      replace ou101 := ou101.le le127
                      replace ou105 := ou105.le le127
                      replace op107 := op107.le le127
                      replace ou117 := ou117.le le127
                      replace op119 := op119.le le127
                      replace hvy := hvy.le le127
                      replace hvm := hvm.le le127
                      replace lE := lE.trans le127
                      refine nw_i (fun p130 H131 op130 nn132 le133 => ?_)
                      have au9Xp130 : Apart u9 p130 := ou9.apart nn132
                      have ap11Xp130 : Apart p11 p130 := op11.apart nn132
                      have au42Xp130 : Apart u42 p130 := ou42.apart nn132
                      have au46Xp130 : Apart u46 p130 := ou46.apart nn132
                      have ap48Xp130 : Apart p48 p130 := op48.apart nn132
                      have au62Xp130 : Apart u62 p130 := ou62.apart nn132
                      have au67Xp130 : Apart u67 p130 := ou67.apart nn132
                      have au71Xp130 : Apart u71 p130 := ou71.apart nn132
                      have au76Xp130 : Apart u76 p130 := ou76.apart nn132
                      have au81Xp130 : Apart u81 p130 := ou81.apart nn132
                      have au86Xp130 : Apart u86 p130 := ou86.apart nn132
                      have au92Xp130 : Apart u92 p130 := ou92.apart nn132
                      have au101Xp130 : Apart u101 p130 := ou101.apart nn132
                      have au105Xp130 : Apart u105 p130 := ou105.apart nn132
                      have ap107Xp130 : Apart p107 p130 := op107.apart nn132
                      have au117Xp130 : Apart u117 p130 := ou117.apart nn132
                      have ap119Xp130 : Apart p119 p130 := op119.apart nn132
                      have au128Xp130 : Apart u128 p130 := ou128.apart nn132
                      have np130 : Nw H p130 := nn132.le lE
                      replace ou9 := ou9.le le133
                      replace op11 := op11.le le133
                      replace ou42 := ou42.le le133
                      replace ou46 := ou46.le le133
                      replace op48 := op48.le le133
                      replace ou62 := ou62.le le133
                      replace ou67 := ou67.le le133
                      replace ou71 := ou71.le le133
                      replace ou76 := ou76.le le133
                      replace ou81 := ou81.le le133
                      replace ou86 := ou86.le le133
                      replace ou92 := ou92.le le133
                      replace ou101 := ou101.le le133
                      replace ou105 := ou105.le le133
                      replace op107 := op107.le le133
                      replace ou117 := ou117.le le133
                      replace op119 := op119.le le133
                      replace ou128 := ou128.le le133
                      replace hvy := hvy.le le133
                      replace hvm := hvm.le le133
                      replace lE := lE.trans le133
                      replace op130 : Cel H131 p130 [(.int .i64 (0)), (.int .i64 (0)), (.slice none 0 0)] := op130
                      refine op130.stn (ws := [(.int .i64 (st)), (.int .i64 (1)), u128]) rfl rfl (oc1 rfl (oc1 rfl (oc1 ou128.one oc0))) (fun H134 op130 off135 => ?_)
                      replace ou9 := ou9.off off135 au9Xp130
                      replace op11 := op11.off off135 ap11Xp130
                      replace ou42 := ou42.off off135 au42Xp130
                      replace ou46 := ou46.off off135 au46Xp130
                      replace op48 := op48.off off135 ap48Xp130
                      replace ou62 := ou62.off off135 au62Xp130
                      replace ou67 := ou67.off off135 au67Xp130
                      replace ou71 := ou71.off off135 au71Xp130
                      replace ou76 := ou76.off off135 au76Xp130
                      replace ou81 := ou81.off off135 au81Xp130
                      replace ou86 := ou86.off off135 au86Xp130
                      replace ou92 := ou92.off off135 au92Xp130
                      replace ou101 := ou101.off off135 au101Xp130
                      replace ou105 := ou105.off off135 au105Xp130
                      replace op107 := op107.off off135 ap107Xp130
                      replace ou117 := ou117.off off135 au117Xp130
                      replace op119 := op119.off off135 ap119Xp130
                      replace ou128 := ou128.off off135 au128Xp130
                      replace hvy := hvy0.le (off135.le lE np130)
                      replace hvm := hvm0.le (off135.le lE np130)
                      replace lE := off135.le lE np130
                      replace op130 : Cel H134 p130 [(.int .i64 (st)), (.int .i64 (1)), u128] := op130
                      refine ob_i (op130.ldn rfl) ?_
                      refine C.impl_IsSumRule ou128.sl (by first | omega | assumption) (fun   H136    le137 => ?_)
                      replace ou9 := ou9.le le137
                      replace op11 := op11.le le137
                      replace ou42 := ou42.le le137
                      replace ou46 := ou46.le le137
                      replace op48 := op48.le le137
                      replace ou62 := ou62.le le137
                      replace ou67 := ou67.le le137
                      replace ou71 := ou71.le le137
                      replace ou76 := ou76.le le137
                      replace ou81 := ou81.le le137
                      replace ou86 := ou86.le le137
                      replace ou92 := ou92.le le137
                      replace ou101 := ou101.le le137
                      replace ou105 := ou105.le le137
                      replace op107 := op107.le le137
                      replace ou117 := ou117.le le137
                      replace op119 := op119.le le137
                      replace ou128 := ou128.le le137
                      replace op130 := op130.le le137
                      replace hvy := hvy.le le137
                      replace hvm := hvm.le le137
                      replace lE := lE.trans le137
                      refine ob_i (vExt_20 _ _) ?_
                      refine ob_i (vExt_21 _ _) ?_
                      refine ob_i (a := .bool false) rfl ?_
                      refine gop_rf ?_
                      refine gop_rf ?_
                      refine ob_i (a := .bool false) rfl ?_
                      refine ob_i (vPick_f _ _) ?_
                      refine gop_rf ?_
                      refine gop_rf ?_
                      refine ob_i (a := .bool false) rfl ?_
                      refine ob_i (vPick_f _ _) ?_
                      refine gop_rf ?_
                      refine gop_rf ?_
                      refine ob_i (a := .bool false) rfl ?_
                      refine ob_i (vPick_f _ _) ?_
                      refine gop_rf ?_
                      refine gop_rf ?_
                      refine ob_i (a := .bool false) rfl ?_
                      refine ob_i (vPick_f _ _) ?_
                      refine gop_rf ?_
                      refine ob_i (op119.ldn rfl) ?_
                      refine gop_rf ?_
                      refine ob_i (op107.ldn rfl) ?_
                      refine gop_rf ?_
                      refine C.impl_SameRule ou117.sl ou105.sl (by first | omega | assumption) (fun   H138    le139 => ?_)
                      replace ou9 := ou9.le le139
                      replace op11 := op11.le le139
                      replace ou42 := ou42.le le139
                      replace ou46 := ou46.le le139
                      replace op48 := op48.le le139
                      replace ou62 := ou62.le le139
                      replace ou67 := ou67.le le139
                      replace ou71 := ou71.le le139
                      replace ou76 := ou76.le le139
                      replace ou81 := ou81.le le139
                      replace ou86 := ou86.le le139
                      replace ou92 := ou92.le le139
                      replace ou101 := ou101.le le139
                      replace ou105 := ou105.le le139
                      replace op107 := op107.le le139
                      replace ou117 := ou117.le le139
                      replace op119 := op119.le le139
                      replace ou128 := ou128.le le139
                      replace op130 := op130.le le139
                      replace hvy := hvy.le le139
                      replace hvm := hvm.le le139
                      replace lE := lE.trans le139
                      refine gop_rf ?_
                      refine ob_nd (fun hc140 => ?_) (fun hc140 => ?_)
                      · skip
                        refine ob_i (vPick_f _ _) ?_
                        refine cnd_f1 ?_
                        refine cnd_d (fun hg141 => ?_) (fun hg141 => ?_)
                        · skip
                          refine ob_i (op130.ldn rfl) ?_
                          refine Own.mk_ (z := (0 : Int)) (by omega) (by omega) (by omega) (by omega) (fun u142 H143 ou142 nn144 le145 => ?_)
                          have au9Xu142 : Apart u9 u142 := ou9.apart nn144
                          have ap11Xu142 : Apart p11 u142 := op11.apart nn144
                          have au42Xu142 : Apart u42 u142 := ou42.apart nn144
                          have au46Xu142 : Apart u46 u142 := ou46.apart nn144
                          have ap48Xu142 : Apart p48 u142 := op48.apart nn144
                          have au62Xu142 : Apart u62 u142 := ou62.apart nn144
                          have au67Xu142 : Apart u67 u142 := ou67.apart nn144
                          have au71Xu142 : Apart u71 u142 := ou71.apart nn144
                          have au76Xu142 : Apart u76 u142 := ou76.apart nn144
                          have au81Xu142 : Apart u81 u142 := ou81.apart nn144
                          have au86Xu142 : Apart u86 u142 := ou86.apart nn144
                          have au92Xu142 : Apart u92 u142 := ou92.apart nn144
                          have au101Xu142 : Apart u101 u142 := ou101.apart nn144
                          have au105Xu142 : Apart u105 u142 := ou105.apart nn144
                          have ap107Xu142 : Apart p107 u142 := op107.apart nn144
                          have au117Xu142 : Apart u117 u142 := ou117.apart nn144
                          have ap119Xu142 : Apart p119 u142 := op119.apart nn144
                          have au128Xu142 : Apart u128 u142 := ou128.apart nn144
                          have ap130Xu142 : Apart p130 u142 := op130.apart nn144
                          have nu142 : Nw H u142 := nn144.le lE
                          replace ou9 := ou9.le le145
                          replace op11 := op11.le le145
                          replace ou42 := ou42.le le145
                          replace ou46 := ou46.le le145
                          replace op48 := op48.le le145
                          replace ou62 := ou62.le le145
                          replace ou67 := ou67.le le145
                          replace ou71 := ou71.le le145
                          replace ou76 := ou76.le le145
                          replace ou81 := ou81.le le145
                          replace ou86 := ou86.le le145
                          replace ou92 := ou92.le le145
                          replace ou101 := ou101.le le145
                          replace ou105 := ou105.le le145
                          replace op107 := op107.le le145
                          replace ou117 := ou117.le le145
                          replace op119 := op119.le le145
                          replace ou128 := ou128.le le145
                          replace op130 := op130.le le145
                          replace hvy := hvy.le le145
                          replace hvm := hvm.le le145
                          replace lE := lE.trans le145
                          refine C.impl_StepRing ou128.sl ou142.sl (by first | omega | assumption) (by first | assumption | exact zero_ring (by omega) (by omega) (by omega)) (fun  u148 H146 ou148 nn149  le147 => ?_)
                          have au9Xu148 : Apart u9 u148 := ou9.apart nn149
                          have ap11Xu148 : Apart p11 u148 := op11.apart nn149
                          have au42Xu148 : Apart u42 u148 := ou42.apart nn149
                          have au46Xu148 : Apart u46 u148 := ou46.apart nn149
                          have ap48Xu148 : Apart p48 u148 := op48.apart nn149
                          have au62Xu148 : Apart u62 u148 := ou62.apart nn149
                          have au67Xu148 : Apart u67 u148 := ou67.apart nn149
                          have au71Xu148 : Apart u71 u148 := ou71.apart nn149
                          have au76Xu148 : Apart u76 u148 := ou76.apart nn149
                          have au81Xu148 : Apart u81 u148 := ou81.apart nn149
                          have au86Xu148 : Apart u86 u148 := ou86.apart nn149
                          have au92Xu148 : Apart u92 u148 := ou92.apart nn149
                          have au101Xu148 : Apart u101 u148 := ou101.apart nn149
                          have au105Xu148 : Apart u105 u148 := ou105.apart nn149
                          have ap107Xu148 : Apart p107 u148 := op107.apart nn149
                          have au117Xu148 : Apart u117 u148 := ou117.apart nn149
                          have ap119Xu148 : Apart p119 u148 := op119.apart nn149
                          have au128Xu148 : Apart u128 u148 := ou128.apart nn149
                          have ap130Xu148 : Apart p130 u148 := op130.apart nn149
                          have au142Xu148 : Apart u142 u148 := ou142.apart nn149
                          have nu148 : Nw H u148 := nn149.le lE
                          replace ou9 := ou9.le le147
                          replace op11 := op11.le le147
                          replace ou42 := ou42.le le147
                          replace ou46 := ou46.le le147
                          replace op48 := op48.le le147
                          replace ou62 := ou62.le le147
                          replace ou67 := ou67.le le147
                          replace ou71 := ou71.le le147
                          replace ou76 := ou76.le le147
                          replace ou81 := ou81.le le147
                          replace ou86 := ou86.le le147
                          replace ou92 := ou92.le le147
                          replace ou101 := ou101.le le147
                          replace ou105 := ou105.le le147
                          replace op107 := op107.le le147
                          replace ou117 := ou117.le le147
                          replace op119 := op119.le le147
                          replace ou128 := ou128.le le147
                          replace op130 := op130.le le147
                          replace ou142 := ou142.le le147
                          replace hvy := hvy.le le147
                          replace hvm := hvm.le le147
                          replace lE := lE.trans le147
                          refine ⟨le147, ?_⟩
                          have rgk150 : ringP st (List.replicate (n : Int).toNat 0) := by first | assumption | exact zero_ring (by omega) (by omega) (by omega)
                          have lrk150 := rgk150.2
                          have rsk150 := stpL_ring (st := st) (rc := 1) (T := ls125) (ring := List.replicate (n : Int).toNat 0) (by assumption) (by first | assumption | exact zero_ring (by omega) (by omega) (by omega))
                          have isk150 := rsk150.1
                          have lsk150 := stpL_len st (1) (ls125) (List.replicate (n : Int).toNat 0)
                          refine ob_i (vExt_20 _ _) ?_
                          refine ob_i (vExt_21 _ _) ?_
                          refine gop_rt ?_
                          refine gop_rt ?_
                          refine gop_rt ?_
                          refine Own.mk_ (z := (0 : Int)) (by omega) (by omega) (by omega) (by omega) (fun u151 H152 ou151 nn153 le154 => ?_)
                          have au9Xu151 : Apart u9 u151 := ou9.apart nn153
                          have ap11Xu151 : Apart p11 u151 := op11.apart nn153
                          have au42Xu151 : Apart u42 u151 := ou42.apart nn153
                          have au46Xu151 : Apart u46 u151 := ou46.apart nn153
                          have ap48Xu151 : Apart p48 u151 := op48.apart nn153
                          have au62Xu151 : Apart u62 u151 := ou62.apart nn153
                          have au67Xu151 : Apart u67 u151 := ou67.apart nn153
                          have au71Xu151 : Apart u71 u151 := ou71.apart nn153
                          have au76Xu151 : Apart u76 u151 := ou76.apart nn153
                          have au81Xu151 : Apart u81 u151 := ou81.apart nn153
                          have au86Xu151 : Apart u86 u151 := ou86.apart nn153
                          have au92Xu151 : Apart u92 u151 := ou92.apart nn153
                          have au101Xu151 : Apart u101 u151 := ou101.apart nn153
                          have au105Xu151 : Apart u105 u151 := ou105.apart nn153
                          have ap107Xu151 : Apart p107 u151 := op107.apart nn153
                          have au117Xu151 : Apart u117 u151 := ou117.apart nn153
                          have ap119Xu151 : Apart p119 u151 := op119.apart nn153
                          have au128Xu151 : Apart u128 u151 := ou128.apart nn153
                          have ap130Xu151 : Apart p130 u151 := op130.apart nn153
                          have au142Xu151 : Apart u142 u151 := ou142.apart nn153
                          have au148Xu151 : Apart u148 u151 := ou148.apart nn153
                          have nu151 : Nw H u151 := nn153.le lE
                          replace ou9 := ou9.le le154
                          replace op11 := op11.le le154
                          replace ou42 := ou42.le le154
                          replace ou46 := ou46.le le154
                          replace op48 := op48.le le154
                          replace ou62 := ou62.le le154
                          replace ou67 := ou67.le le154
                          replace ou71 := ou71.le le154
                          replace ou76 := ou76.le le154
                          replace ou81 := ou81.le le154
                          replace ou86 := ou86.le le154
                          replace ou92 := ou92.le le154
                          replace ou101 := ou101.le le154
                          replace ou105 := ou105.le le154
                          replace op107 := op107.le le154
                          replace ou117 := ou117.le le154
                          replace op119 := op119.le le154
                          replace ou128 := ou128.le le154
                          replace op130 := op130.le le154
                          replace ou142 := ou142.le le154
                          replace ou148 := ou148.le le154
                          replace hvy := hvy.le le154
                          replace hvm := hvm.le le154
                          replace lE := lE.trans le154
                          refine gop_rt ?_
                          refine C.laws_r8Same ou148.sl ou151.sl (by first | omega | assumption) (fun   H155    le156 => ?_)
                          replace ou9 := ou9.le le156
                          replace op11 := op11.le le156
                          replace ou42 := ou42.le le156
                          replace ou46 := ou46.le le156
                          replace op48 := op48.le le156
                          replace ou62 := ou62.le le156
                          replace ou67 := ou67.le le156
                          replace ou71 := ou71.le le156
                          replace ou76 := ou76.le le156
                          replace ou81 := ou81.le le156
                          replace ou86 := ou86.le le156
                          replace ou92 := ou92.le le156
                          replace ou101 := ou101.le le156
                          replace ou105 := ou105.le le156
                          replace op107 := op107.le le156
                          replace ou117 := ou117.le le156
                          replace op119 := op119.le le156
                          replace ou128 := ou128.le le156
                          replace op130 := op130.le le156
                          replace ou142 := ou142.le le156
                          replace ou148 := ou148.le le156
                          replace ou151 := ou151.le le156
                          replace hvy := hvy.le le156
                          replace hvm := hvm.le le156
                          replace lE := lE.trans le156
                          refine ob_i (vPick_t _ _) ?_
                          rw [decide_eq_true (show (stpL st 1 ls125 (List.replicate (n : Int).toNat 0)) = (List.replicate (n : Int).toNat 0) from add_zero (by assumption) (by assumption) (by omega))]
                          exact hk _ lE
                        · skip
                          skip
                          exact hk   _    lE
                      · skip
                        refine ob_i (vPick_f _ _) ?_
                        refine cnd_t1 ?_
                        exfalso
                        exact hc140 ⟨rfl, rfl, mt⟩
                    · skip
                      refine ob_i (vPick_f _ _) ?_
                      refine cnd_t1 ?_
                      exfalso
                      exact hc97 (add_step hrs has (by assumption) (by assumption) (by omega))
                  · skip
                    refine ob_i (vPick_f _ _) ?_
                    refine gop_st ?_
                    refine gop_st ?_
                    refine gop_st ?_
                    refine gop_st ?_
                    refine gop_st ?_
                    refine gop_st ?_
                    refine gop_st ?_
                    refine ob_i (vPick_t _ _) ?_
                    refine cnd_t1 ?_
                    exfalso
                    exact hc89 has
              · skip
                refine gop_e (decide_eq_false hc31) ?_
                refine gop_rf ?_
                refine gop_e (decide_eq_false hc31) ?_
                refine gop_rf ?_
                refine ob_i (vInt_eql _ _ _) ?_
                refine gop_e (eq_false_of_ne_true hc30) ?_
                refine gop_rf ?_
                refine ob_i (vPick_ef (decide_eq_false hc31) _ _) ?_
                refine gop_e (eq_false_of_ne_true hc30) ?_
                refine gop_rf ?_
                refine ob_i (vBool_neq _ _) ?_
                refine ob_i (vPick_ef (eq_false_of_ne_true hc30) _ _) ?_
                refine cnd_i (fun hg157 => ?_) (fun hg157 => ?_)
                · skip
                  exfalso
                  rw [sense_bad (by omega) (by omega) hz22] at hg157; first | (simp_all; done) | (simp_all; omega)
                · skip
                  refine C.laws_r8At (k := 41) (n := 2) hvm hb_vm hl_vm (by omega) (fun x158 xp159 xq160 => ?_)
                  replace xq160 := xq160 (by omega)
                  refine ob_i (vInt_add (by omega) (by omega)) ?_
                  obtain ⟨st, hst⟩ : ∃ x : Int, x = 2 + x158 := ⟨_, rfl⟩
                  rw [← hst]
                  refine C.laws_r8At (k := 42) (n := 3) hvm hb_vm hl_vm (by omega) (fun x161 xp162 xq163 => ?_)
                  replace xq163 := xq163 (by omega)
                  refine ob_i (vInt_mul (by omega) (by omega)) ?_
                  refine ob_i (vInt_add (by omega) (by omega)) ?_
                  refine C.spec_R8Ring hvy (by first | omega | assumption) (by first | omega | assumption) (by first | omega | assumption) (by first | omega | assumption) (by first | omega | assumption) (by first | omega | assumption) (fun  ls164 hls164 u167 H165 ou167 nn168  le166 => ?_)
                  have au9Xu167 : Apart u9 u167 := ou9.apart nn168
                  have ap11Xu167 : Apart p11 u167 := op11.apart nn168
                  have nu167 : Nw H u167 := nn168.le lE
                  replace ou9 := ou9.le le166
                  replace op11 := op11.le le166
                  replace hvy := hvy.le le166
                  replace hvm := hvm.le le166
                  replace lE := lE.trans le166
                  have els164 := hls164.1
                  have ils164 := hls164.2
                  have rls164 : ringP st ls164 := ⟨ils164, by omega, by omega⟩
                  refine C.impl_SumRule ou167.sl (by first | omega | assumption) (by first | omega | assumption) (by first | omega | assumption) (fun  u171 H169 ou171 nn172  le170 => ?_)
                  have au9Xu171 : Apart u9 u171 := ou9.apart nn172
                  have ap11Xu171 : Apart p11 u171 := op11.apart nn172
                  have au167Xu171 : Apart u167 u171 := ou167.apart nn172
                  have nu171 : Nw H u171 := nn172.le lE
                  replace ou9 := ou9.le le170
                  replace op11 := op11.le le170
                  replace ou167 := ou167.le le170
                  replace hvy := hvy.le le170
                  replace hvm := hvm.le le170
                  replace lE := lE.trans le170
                  have hrs := wg_rule (st := st) (rc := (ls164.length : Int) / 2) (w := ls164) (by omega) (by omega) (by omega)
                  have has := add_wg (st := st) (rc := (ls164.length : Int) / 2) (w := ls164) (by omega) (by omega) (by omega) ils164
                  refine ob_i (vExt_20 _ _) ?_
                  refine ob_i (vExt_21 _ _) ?_
                  refine nw_i (fun p173 H174 op173 nn175 le176 => ?_)
                  have au9Xp173 : Apart u9 p173 := ou9.apart nn175
                  have ap11Xp173 : Apart p11 p173 := op11.apart nn175
                  have au167Xp173 : Apart u167 p173 := ou167.apart nn175
                  have au171Xp173 : Apart u171 p173 := ou171.apart nn175
                  have np173 : Nw H p173 := nn175.le lE
                  replace ou9 := ou9.le le176
                  replace op11 := op11.le le176
                  replace ou167 := ou167.le le176
                  replace ou171 := ou171.le le176
                  replace hvy := hvy.le le176
                  replace hvm := hvm.le le176
                  replace lE := lE.trans le176
                  replace op173 : Cel H174 p173 [(.int .i64 (0)), (.int .i64 (0)), (.slice none 0 0)] := op173
                  refine op173.stn (ws := [(.int .i64 (st)), (.int .i64 ((ls164.length : Int) / 2)), u171]) rfl rfl (oc1 rfl (oc1 rfl (oc1 ou171.one oc0))) (fun H177 op173 off178 => ?_)
                  replace ou9 := ou9.off off178 au9Xp173
                  replace op11 := op11.off off178 ap11Xp173
                  replace ou167 := ou167.off off178 au167Xp173
                  replace ou171 := ou171.off off178 au171Xp173
                  replace hvy := hvy0.le (off178.le lE np173)
                  replace hvm := hvm0.le (off178.le lE np173)
                  replace lE := off178.le lE np173
                  replace op173 : Cel H177 p173 [(.int .i64 (st)), (.int .i64 ((ls164.length : Int) / 2)), u171] := op173
                  refine ob_i (op173.ldn rfl) ?_
                  refine C.impl_IsSumRule ou171.sl (by first | omega | assumption) (fun   H179    le180 => ?_)
                  replace ou9 := ou9.le le180
                  replace op11 := op11.le le180
                  replace ou167 := ou167.le le180
                  replace ou171 := ou171.le le180
                  replace op173 := op173.le le180
                  replace hvy := hvy.le le180
                  replace hvm := hvm.le le180
                  replace lE := lE.trans le180
                  refine ob_i (vExt_20 _ _) ?_
                  refine ob_i (vExt_21 _ _) ?_
                  refine C.laws_r8At (k := 43) (n := 12) hvm hb_vm hl_vm (by omega) (fun x181 xp182 xq183 => ?_)
                  replace xq183 := xq183 (by omega)
                  refine ob_i (vInt_add (by omega) (by omega)) ?_
                  obtain ⟨n, hn⟩ : ∃ x : Int, x = 1 + x181 := ⟨_, rfl⟩
                  rw [← hn]
                  refine C.spec_R8Ring hvy (by first | omega | assumption) (by first | omega | assumption) (by first | omega | assumption) (by first | omega | assumption) (by first | omega | assumption) (by first | omega | assumption) (fun  ls184 hls184 u187 H185 ou187 nn188  le186 => ?_)
                  have au9Xu187 : Apart u9 u187 := ou9.apart nn188
                  have ap11Xu187 : Apart p11 u187 := op11.apart nn188
                  have au167Xu187 : Apart u167 u187 := ou167.apart nn188
                  have au171Xu187 : Apart u171 u187 := ou171.apart nn188
                  have ap173Xu187 : Apart p173 u187 := op173.apart nn188
                  have nu187 : Nw H u187 := nn188.le lE
                  replace ou9 := ou9.le le186
                  replace op11 := op11.le le186
                  replace ou167 := ou167.le le186
                  replace ou171 := ou171.le le186
                  replace op173 := op173.le le186
                  replace hvy := hvy.le le186
                  replace hvm := hvm.le le186
                  replace lE := lE.trans le186
                  have els184 := hls184.1
                  have ils184 := hls184.2
                  have rls184 : ringP st ls184 := ⟨ils184, by omega, by omega⟩
                  refine C.spec_R8Ring hvm (by first | omega | assumption) (by first | omega | assumption) (by first | omega | assumption) (by first | omega | assumption) (by first | omega | assumption) (by first | omega | assumption) (fun  ls189 hls189 u192 H190 ou192 nn193  le191 => ?_)
                  have au9Xu192 : Apart u9 u192 := ou9.apart nn193
                  have ap11Xu192 : Apart p11 u192 := op11.apart nn193
                  have au167Xu192 : Apart u167 u192 := ou167.apart nn193
                  have au171Xu192 : Apart u171 u192 := ou171.apart nn193
                  have ap173Xu192 : Apart p173 u192 := op173.apart nn193
                  have au187Xu192 : Apart u187 u192 := ou187.apart nn193
                  have nu192 : Nw H u192 := nn193.le lE
                  replace ou9 := ou9.le le191
                  replace op11 := op11.le le191
                  replace ou167 := ou167.le le191
                  replace ou171 := ou171.le le191
                  replace op173 := op173.le le191
                  replace ou187 := ou187.le le191
                  replace hvy := hvy.le le191
                  replace hvm := hvm.le le191
                  replace lE := lE.trans le191
                  have els189 := hls189.1
                  have ils189 := hls189.2
                  have rls189 : ringP st ls189 := ⟨ils189, by omega, by omega⟩
                  refine ob_i (op173.ldn rfl) ?_
                  refine C.impl_StepRing ou171.sl ou187.sl (by first | omega | assumption) (by first | assumption | exact zero_ring (by omega) (by omega) (by omega)) (fun  u196 H194 ou196 nn197  le195 => ?_)
                  have au9Xu196 : Apart u9 u196 := ou9.apart nn197
                  have ap11Xu196 : Apart p11 u196 := op11.apart nn197
                  have au167Xu196 : Apart u167 u196 := ou167.apart nn197
                  have au171Xu196 : Apart u171 u196 := ou171.apart nn197
                  have ap173Xu196 : Apart p173 u196 := op173.apart nn197
                  have au187Xu196 : Apart u187 u196 := ou187.apart nn197
                  have au192Xu196 : Apart u192 u196 := ou192.apart nn197
                  have nu196 : Nw H u196 := nn197.le lE
                  replace ou9 := ou9.le le195
                  replace op11 := op11.le le195
                  replace ou167 := ou167.le le195
                  replace ou171 := ou171.le le195
                  replace op173 := op173.le le195
                  replace ou187 := ou187.le le195
                  replace ou192 := ou192.le le195
                  replace hvy := hvy.le le195
                  replace hvm := hvm.le le195
                  replace lE := lE.trans le195
                  have rgk198 : ringP st (ls184) := by first | assumption | exact zero_ring (by omega) (by omega) (by omega)
                  have lrk198 := rgk198.2
                  have rsk198 := stpL_ring (st := st) (rc := (ls164.length : Int) / 2) (T := wgL st ls164) (ring := ls184) (by assumption) (by first | assumption | exact zero_ring (by omega) (by omega) (by omega))
                  have isk198 := rsk198.1
                  have lsk198 := stpL_len st ((ls164.length : Int) / 2) (wgL st ls164) (ls184)
                  refine ob_i (vExt_20 _ _) ?_
                  refine ob_i (vExt_21 _ _) ?_
                  refine ob_i (op173.ldn rfl) ?_
                  refine C.impl_StepRing ou171.sl ou192.sl (by first | omega | assumption) (by first | assumption | exact zero_ring (by omega) (by omega) (by omega)) (fun  u201 H199 ou201 nn202  le200 => ?_)
                  have au9Xu201 : Apart u9 u201 := ou9.apart nn202
                  have ap11Xu201 : Apart p11 u201 := op11.apart nn202
                  have au167Xu201 : Apart u167 u201 := ou167.apart nn202
                  have au171Xu201 : Apart u171 u201 := ou171.apart nn202
                  have ap173Xu201 : Apart p173 u201 := op173.apart nn202
                  have au187Xu201 : Apart u187 u201 := ou187.apart nn202
                  have au192Xu201 : Apart u192 u201 := ou192.apart nn202
                  have au196Xu201 : Apart u196 u201 := ou196.apart nn202
                  have nu201 : Nw H u201 := nn202.le lE
                  replace ou9 := ou9.le le200
                  replace op11 := op11.le le200
                  replace ou167 := ou167.le le200
                  replace ou171 := ou171.le le200
                  replace op173 := op173.le le200
                  replace ou187 := ou187.le le200
                  replace ou192 := ou192.le le200
                  replace ou196 := ou196.le le200
                  replace hvy := hvy.le le200
                  replace hvm := hvm.le le200
                  replace lE := lE.trans le200
                  have rgk203 : ringP st (ls189) := by first | assumption | exact zero_ring (by omega) (by omega) (by omega)
                  have lrk203 := rgk203.2
                  have rsk203 := stpL_ring (st := st) (rc := (ls164.length : Int) / 2) (T := wgL st ls164) (ring := ls189) (by assumption) (by first | assumption | exact zero_ring (by omega) (by omega) (by omega))
                  have isk203 := rsk203.1
                  have lsk203 := stpL_len st ((ls164.length : Int) / 2) (wgL st ls164) (ls189)
                  refine ob_i (vExt_20 _ _) ?_
                  refine ob_i (vExt_21 _ _) ?_
                  refine ob_i (op173.ldn rfl) ?_
                  refine C.laws_r8Plus ou187.sl ou192.sl (by first | omega | assumption) (by first | omega | assumption) (by first | omega | assumption) (by first | omega | assumption) (by first | omega | assumption) (by first | omega | assumption) (fun  u206 H204 ou206 nn207  le205 => ?_)
                  have au9Xu206 : Apart u9 u206 := ou9.apart nn207
                  have ap11Xu206 : Apart p11 u206 := op11.apart nn207
                  have au167Xu206 : Apart u167 u206 := ou167.apart nn207
                  have au171Xu206 : Apart u171 u206 := ou171.apart nn207
                  have ap173Xu206 : Apart p173 u206 := op173.apart nn207
                  have au187Xu206 : Apart u187 u206 := ou187.apart nn207
                  have au192Xu206 : Apart u192 u206 := ou192.apart nn207
                  have au196Xu206 : Apart u196 u206 := ou196.apart nn207
                  have au201Xu206 : Apart u201 u206 := ou201.apart nn207
                  have nu206 : Nw H u206 := nn207.le lE
                  replace ou9 := ou9.le le205
                  replace op11 := op11.le le205
                  replace ou167 := ou167.le le205
                  replace ou171 := ou171.le le205
                  replace op173 := op173.le le205
                  replace ou187 := ou187.le le205
                  replace ou192 := ou192.le le205
                  replace ou196 := ou196.le le205
                  replace ou201 := ou201.le le205
                  replace hvy := hvy.le le205
                  replace hvm := hvm.le le205
                  replace lE := lE.trans le205
                  refine ⟨le205, ?_⟩
                  have lpk208 : (plL st (ls184) (ls189)).length = (ls184).length := plF_len _ _ _ _
                  have rpk208 : ringP st (plL st (ls184) (ls189)) := ⟨plL_in (by omega), by omega, by omega⟩
                  refine C.impl_StepRing ou171.sl ou206.sl (by first | omega | assumption) (by first | assumption | exact zero_ring (by omega) (by omega) (by omega)) (fun  u211 H209 ou211 nn212  le210 => ?_)
                  have au9Xu211 : Apart u9 u211 := ou9.apart nn212
                  have ap11Xu211 : Apart p11 u211 := op11.apart nn212
                  have au167Xu211 : Apart u167 u211 := ou167.apart nn212
                  have au171Xu211 : Apart u171 u211 := ou171.apart nn212
                  have ap173Xu211 : Apart p173 u211 := op173.apart nn212
                  have au187Xu211 : Apart u187 u211 := ou187.apart nn212
                  have au192Xu211 : Apart u192 u211 := ou192.apart nn212
                  have au196Xu211 : Apart u196 u211 := ou196.apart nn212
                  have au201Xu211 : Apart u201 u211 := ou201.apart nn212
                  have au206Xu211 : Apart u206 u211 := ou206.apart nn212
                  have nu211 : Nw H u211 := nn212.le lE
                  replace ou9 := ou9.le le210
                  replace op11 := op11.le le210
                  replace ou167 := ou167.le le210
                  replace ou171 := ou171.le le210
                  replace op173 := op173.le le210
                  replace ou187 := ou187.le le210
                  replace ou192 := ou192.le le210
                  replace ou196 := ou196.le le210
                  replace ou201 := ou201.le le210
                  replace ou206 := ou206.le le210
                  replace hvy := hvy.le le210
                  replace hvm := hvm.le le210
                  replace lE := lE.trans le210
                  refine ⟨le210, ?_⟩
                  have rgk213 : ringP st (plL st ls184 ls189) := by first | assumption | exact zero_ring (by omega) (by omega) (by omega)
                  have lrk213 := rgk213.2
                  have rsk213 := stpL_ring (st := st) (rc := (ls164.length : Int) / 2) (T := wgL st ls164) (ring := plL st ls184 ls189) (by assumption) (by first | assumption | exact zero_ring (by omega) (by omega) (by omega))
                  have isk213 := rsk213.1
                  have lsk213 := stpL_len st ((ls164.length : Int) / 2) (wgL st ls164) (plL st ls184 ls189)
                  refine ob_i (vExt_20 _ _) ?_
                  refine ob_i (vExt_21 _ _) ?_
                  refine ob_i (a := .bool false) rfl ?_
                  refine gop_rf ?_
                  refine gop_rf ?_
                  refine ob_i (a := .bool false) rfl ?_
                  refine ob_i (vPick_f _ _) ?_
                  refine gop_rf ?_
                  refine gop_rf ?_
                  refine ob_i (a := .bool false) rfl ?_
                  refine ob_i (vPick_f _ _) ?_
                  refine gop_rf ?_
                  refine gop_rf ?_
                  refine ob_i (a := .bool false) rfl ?_
                  refine ob_i (vPick_f _ _) ?_
                  refine gop_rf ?_
                  refine gop_rf ?_
                  refine ob_i (a := .bool false) rfl ?_
                  refine ob_i (vPick_f _ _) ?_
                  refine gop_rf ?_
                  refine gop_rf ?_
                  refine ob_nd (fun hc214 => ?_) (fun hc214 => ?_)
                  · skip
                    refine ob_i (vPick_f _ _) ?_
                    refine gop_rf ?_
                    refine gop_rf ?_
                    refine gop_rf ?_
                    refine gop_rf ?_
                    refine gop_rf ?_
                    refine C.laws_r8Plus ou196.sl ou201.sl (by first | omega | assumption) (by first | omega | assumption) (by first | omega | assumption) (by first | omega | assumption) (by first | omega | assumption) (by first | omega | assumption) (fun  u217 H215 ou217 nn218  le216 => ?_)
                    have au9Xu217 : Apart u9 u217 := ou9.apart nn218
                    have ap11Xu217 : Apart p11 u217 := op11.apart nn218
                    have au167Xu217 : Apart u167 u217 := ou167.apart nn218
                    have au171Xu217 : Apart u171 u217 := ou171.apart nn218
                    have ap173Xu217 : Apart p173 u217 := op173.apart nn218
                    have au187Xu217 : Apart u187 u217 := ou187.apart nn218
                    have au192Xu217 : Apart u192 u217 := ou192.apart nn218
                    have au196Xu217 : Apart u196 u217 := ou196.apart nn218
                    have au201Xu217 : Apart u201 u217 := ou201.apart nn218
                    have au206Xu217 : Apart u206 u217 := ou206.apart nn218
                    have au211Xu217 : Apart u211 u217 := ou211.apart nn218
                    have nu217 : Nw H u217 := nn218.le lE
                    replace ou9 := ou9.le le216
                    replace op11 := op11.le le216
                    replace ou167 := ou167.le le216
                    replace ou171 := ou171.le le216
                    replace op173 := op173.le le216
                    replace ou187 := ou187.le le216
                    replace ou192 := ou192.le le216
                    replace ou196 := ou196.le le216
                    replace ou201 := ou201.le le216
                    replace ou206 := ou206.le le216
                    replace ou211 := ou211.le le216
                    replace hvy := hvy.le le216
                    replace hvm := hvm.le le216
                    replace lE := lE.trans le216
                    have lpk219 : (plL st (stpL st ((ls164.length : Int) / 2) (wgL st ls164) ls184) (stpL st ((ls164.length : Int) / 2) (wgL st ls164) ls189)).length = (stpL st ((ls164.length : Int) / 2) (wgL st ls164) ls184).length := plF_len _ _ _ _
                    have rpk219 : ringP st (plL st (stpL st ((ls164.length : Int) / 2) (wgL st ls164) ls184) (stpL st ((ls164.length : Int) / 2) (wgL st ls164) ls189)) := ⟨plL_in (by omega), by omega, by omega⟩
                    refine gop_rf ?_
                    refine C.laws_r8Same ou211.sl ou217.sl (by first | omega | assumption) (fun   H220    le221 => ?_)
                    replace ou9 := ou9.le le221
                    replace op11 := op11.le le221
                    replace ou167 := ou167.le le221
                    replace ou171 := ou171.le le221
                    replace op173 := op173.le le221
                    replace ou187 := ou187.le le221
                    replace ou192 := ou192.le le221
                    replace ou196 := ou196.le le221
                    replace ou201 := ou201.le le221
                    replace ou206 := ou206.le le221
                    replace ou211 := ou211.le le221
                    replace ou217 := ou217.le le221
                    replace hvy := hvy.le le221
                    replace hvm := hvm.le le221
                    replace lE := lE.trans le221
                    refine gop_rf ?_
                    refine ob_nd (fun hc222 => ?_) (fun hc222 => ?_)
                    · skip
                      refine ob_i (vPick_f _ _) ?_
                      refine cnd_f1 ?_
                      refine ob_i (vInt_sub (by omega) (by omega)) ?_
                      refine ob_i (vInt_mul (by omega) (by omega)) ?_
                      refine ob_i (vInt_add (by omega) (by omega)) ?_
                      refine C.spec_R8Ring hvm (by first | omega | assumption) (by first | omega | assumption) (by first | omega | assumption) (by first | omega | assumption) (by first | omega | assumption) (by first | omega | assumption) (fun  ls223 hls223 u226 H224 ou226 nn227  le225 => ?_)
                      have au9Xu226 : Apart u9 u226 := ou9.apart nn227
                      have ap11Xu226 : Apart p11 u226 := op11.apart nn227
                      have au167Xu226 : Apart u167 u226 := ou167.apart nn227
                      have au171Xu226 : Apart u171 u226 := ou171.apart nn227
                      have ap173Xu226 : Apart p173 u226 := op173.apart nn227
                      have au187Xu226 : Apart u187 u226 := ou187.apart nn227
                      have au192Xu226 : Apart u192 u226 := ou192.apart nn227
                      have au196Xu226 : Apart u196 u226 := ou196.apart nn227
                      have au201Xu226 : Apart u201 u226 := ou201.apart nn227
                      have au206Xu226 : Apart u206 u226 := ou206.apart nn227
                      have au211Xu226 : Apart u211 u226 := ou211.apart nn227
                      have au217Xu226 : Apart u217 u226 := ou217.apart nn227
                      have nu226 : Nw H u226 := nn227.le lE
                      replace ou9 := ou9.le le225
                      replace op11 := op11.le le225
                      replace ou167 := ou167.le le225
                      replace ou171 := ou171.le le225
                      replace op173 := op173.le le225
                      replace ou187 := ou187.le le225
                      replace ou192 := ou192.le le225
                      replace ou196 := ou196.le le225
                      replace ou201 := ou201.le le225
                      replace ou206 := ou206.le le225
                      replace ou211 := ou211.le le225
                      replace ou217 := ou217.le le225
                      replace hvy := hvy.le le225
                      replace hvm := hvm.le le225
                      replace lE := lE.trans le225
                      have els223 := hls223.1
                      have ils223 := hls223.2
                      have rls223 : ringP st ls223 := ⟨ils223, by omega, by omega⟩
                      refine C.impl_TotalRule ou226.sl (by first | omega | assumption) (by first | omega | assumption) (by first | omega | assumption) (fun  u230 H228 ou230 nn231  le229 => ?_)
                      have au9Xu230 : Apart u9 u230 := ou9.apart nn231
                      have ap11Xu230 : Apart p11 u230 := op11.apart nn231
                      have au167Xu230 : Apart u167 u230 := ou167.apart nn231
                      have au171Xu230 : Apart u171 u230 := ou171.apart nn231
                      have ap173Xu230 : Apart p173 u230 := op173.apart nn231
                      have au187Xu230 : Apart u187 u230 := ou187.apart nn231
                      have au192Xu230 : Apart u192 u230 := ou192.apart nn231
                      have au196Xu230 : Apart u196 u230 := ou196.apart nn231
                      have au201Xu230 : Apart u201 u230 := ou201.apart nn231
                      have au206Xu230 : Apart u206 u230 := ou206.apart nn231
                      have au211Xu230 : Apart u211 u230 := ou211.apart nn231
                      have au217Xu230 : Apart u217 u230 := ou217.apart nn231
                      have au226Xu230 : Apart u226 u230 := ou226.apart nn231
                      have nu230 : Nw H u230 := nn231.le lE
                      replace ou9 := ou9.le le229
                      replace op11 := op11.le le229
                      replace ou167 := ou167.le le229
                      replace ou171 := ou171.le le229
                      replace op173 := op173.le le229
                      replace ou187 := ou187.le le229
                      replace ou192 := ou192.le le229
                      replace ou196 := ou196.le le229
                      replace ou201 := ou201.le le229
                      replace ou206 := ou206.le le229
                      replace ou211 := ou211.le le229
                      replace ou217 := ou217.le le229
                      replace ou226 := ou226.le le229
                      replace hvy := hvy.le le229
                      replace hvm := hvm.le le229
                      replace lE := lE.trans le229
                      have hrt := tot_rule (told := ls223) (st := st) (by omega) els223 ils223
                      have hTt : ∀ i : Nat, i < (totL ls223 st).length → at_ 0 (totL ls223 st) (i : Int) = at_ 0 ls223 (numL 1 (digL (i : Int) st 3)) := fun i hi => totL_at hi
                      have mt := mir_tot2 (told := ls223) (st := st) (by omega) els223 ils223
                      have rl3 := ruleP_len hrt
                      refine ob_i (vExt_20 _ _) ?_
                      refine ob_i (vExt_21 _ _) ?_
                      refine nw_i (fun p232 H233 op232 nn234 le235 => ?_)
                      have au9Xp232 : Apart u9 p232 := ou9.apart nn234
                      have ap11Xp232 : Apart p11 p232 := op11.apart nn234
                      have au167Xp232 : Apart u167 p232 := ou167.apart nn234
                      have au171Xp232 : Apart u171 p232 := ou171.apart nn234
                      have ap173Xp232 : Apart p173 p232 := op173.apart nn234
                      have au187Xp232 : Apart u187 p232 := ou187.apart nn234
                      have au192Xp232 : Apart u192 p232 := ou192.apart nn234
                      have au196Xp232 : Apart u196 p232 := ou196.apart nn234
                      have au201Xp232 : Apart u201 p232 := ou201.apart nn234
                      have au206Xp232 : Apart u206 p232 := ou206.apart nn234
                      have au211Xp232 : Apart u211 p232 := ou211.apart nn234
                      have au217Xp232 : Apart u217 p232 := ou217.apart nn234
                      have au226Xp232 : Apart u226 p232 := ou226.apart nn234
                      have au230Xp232 : Apart u230 p232 := ou230.apart nn234
                      have np232 : Nw H p232 := nn234.le lE
                      replace ou9 := ou9.le le235
                      replace op11 := op11.le le235
                      replace ou167 := ou167.le le235
                      replace ou171 := ou171.le le235
                      replace op173 := op173.le le235
                      replace ou187 := ou187.le le235
                      replace ou192 := ou192.le le235
                      replace ou196 := ou196.le le235
                      replace ou201 := ou201.le le235
                      replace ou206 := ou206.le le235
                      replace ou211 := ou211.le le235
                      replace ou217 := ou217.le le235
                      replace ou226 := ou226.le le235
                      replace ou230 := ou230.le le235
                      replace hvy := hvy.le le235
                      replace hvm := hvm.le le235
                      replace lE := lE.trans le235
                      replace op232 : Cel H233 p232 [(.int .i64 (0)), (.int .i64 (0)), (.slice none 0 0)] := op232
                      refine op232.stn (ws := [(.int .i64 (st)), (.int .i64 (1)), u230]) rfl rfl (oc1 rfl (oc1 rfl (oc1 ou230.one oc0))) (fun H236 op232 off237 => ?_)
                      replace ou9 := ou9.off off237 au9Xp232
                      replace op11 := op11.off off237 ap11Xp232
                      replace ou167 := ou167.off off237 au167Xp232
                      replace ou171 := ou171.off off237 au171Xp232
                      replace op173 := op173.off off237 ap173Xp232
                      replace ou187 := ou187.off off237 au187Xp232
                      replace ou192 := ou192.off off237 au192Xp232
                      replace ou196 := ou196.off off237 au196Xp232
                      replace ou201 := ou201.off off237 au201Xp232
                      replace ou206 := ou206.off off237 au206Xp232
                      replace ou211 := ou211.off off237 au211Xp232
                      replace ou217 := ou217.off off237 au217Xp232
                      replace ou226 := ou226.off off237 au226Xp232
                      replace ou230 := ou230.off off237 au230Xp232
                      replace hvy := hvy0.le (off237.le lE np232)
                      replace hvm := hvm0.le (off237.le lE np232)
                      replace lE := off237.le lE np232
                      replace op232 : Cel H236 p232 [(.int .i64 (st)), (.int .i64 (1)), u230] := op232
                      refine ob_i (op232.ldn rfl) ?_
                      refine C.impl_IsTotal ou230.sl (by first | omega | assumption) (by first | omega | assumption) (fun   H238    le239 => ?_)
                      replace ou9 := ou9.le le239
                      replace op11 := op11.le le239
                      replace ou167 := ou167.le le239
                      replace ou171 := ou171.le le239
                      replace op173 := op173.le le239
                      replace ou187 := ou187.le le239
                      replace ou192 := ou192.le le239
                      replace ou196 := ou196.le le239
                      replace ou201 := ou201.le le239
                      replace ou206 := ou206.le le239
                      replace ou211 := ou211.le le239
                      replace ou217 := ou217.le le239
                      replace ou226 := ou226.le le239
                      replace ou230 := ou230.le le239
                      replace op232 := op232.le le239
                      replace hvy := hvy.le le239
                      replace hvm := hvm.le le239
                      replace lE := lE.trans le239
                      refine ob_i (vExt_20 _ _) ?_
                      refine ob_i (vExt_21 _ _) ?_
                      refine ob_i (op232.ldn rfl) ?_
                      refine C.impl_MirrorRule ou230.sl (by first | omega | assumption) (fun  u242 H240 ou242 nn243  le241 => ?_)
                      have au9Xu242 : Apart u9 u242 := ou9.apart nn243
                      have ap11Xu242 : Apart p11 u242 := op11.apart nn243
                      have au167Xu242 : Apart u167 u242 := ou167.apart nn243
                      have au171Xu242 : Apart u171 u242 := ou171.apart nn243
                      have ap173Xu242 : Apart p173 u242 := op173.apart nn243
                      have au187Xu242 : Apart u187 u242 := ou187.apart nn243
                      have au192Xu242 : Apart u192 u242 := ou192.apart nn243
                      have au196Xu242 : Apart u196 u242 := ou196.apart nn243
                      have au201Xu242 : Apart u201 u242 := ou201.apart nn243
                      have au206Xu242 : Apart u206 u242 := ou206.apart nn243
                      have au211Xu242 : Apart u211 u242 := ou211.apart nn243
                      have au217Xu242 : Apart u217 u242 := ou217.apart nn243
                      have au226Xu242 : Apart u226 u242 := ou226.apart nn243
                      have au230Xu242 : Apart u230 u242 := ou230.apart nn243
                      have ap232Xu242 : Apart p232 u242 := op232.apart nn243
                      have nu242 : Nw H u242 := nn243.le lE
                      replace ou9 := ou9.le le241
                      replace op11 := op11.le le241
                      replace ou167 := ou167.le le241
                      replace ou171 := ou171.le le241
                      replace op173 := op173.le le241
                      replace ou187 := ou187.le le241
                      replace ou192 := ou192.le le241
                      replace ou196 := ou196.le le241
                      replace ou201 := ou201.le le241
                      replace ou206 := ou206.le le241
                      replace ou211 := ou211.le le241
                      replace ou217 := ou217.le le241
                      replace ou226 := ou226.le le241
                      replace ou230 := ou230.le le241
                      replace op232 := op232.le le241
                      replace hvy := hvy.le le241
                      replace hvm := hvm.le le241
                      replace lE := lE.trans le241
                      have lm := mirF_len st (totL ls223 st) (pwr st 3).toNat
                      have pb3 := pwr_bnd (b := st) (n := 3) (by omega) (by omega) (by omega)
                      refine ob_i (vExt_20 _ _) ?_
                      refine ob_i (vExt_21 _ _) ?_
                      refine nw_i (fun p244 H245 op244 nn246 le247 => ?_)
                      have au9Xp244 : Apart u9 p244 := ou9.apart nn246
                      have ap11Xp244 : Apart p11 p244 := op11.apart nn246
                      have au167Xp244 : Apart u167 p244 := ou167.apart nn246
                      have au171Xp244 : Apart u171 p244 := ou171.apart nn246
                      have ap173Xp244 : Apart p173 p244 := op173.apart nn246
                      have au187Xp244 : Apart u187 p244 := ou187.apart nn246
                      have au192Xp244 : Apart u192 p244 := ou192.apart nn246
                      have au196Xp244 : Apart u196 p244 := ou196.apart nn246
                      have au201Xp244 : Apart u201 p244 := ou201.apart nn246
                      have au206Xp244 : Apart u206 p244 := ou206.apart nn246
                      have au211Xp244 : Apart u211 p244 := ou211.apart nn246
                      have au217Xp244 : Apart u217 p244 := ou217.apart nn246
                      have au226Xp244 : Apart u226 p244 := ou226.apart nn246
                      have au230Xp244 : Apart u230 p244 := ou230.apart nn246
                      have ap232Xp244 : Apart p232 p244 := op232.apart nn246
                      have au242Xp244 : Apart u242 p244 := ou242.apart nn246
                      have np244 : Nw H p244 := nn246.le lE
                      replace ou9 := ou9.le le247
                      replace op11 := op11.le le247
                      replace ou167 := ou167.le le247
                      replace ou171 := ou171.le le247
                      replace op173 := op173.le le247
                      replace ou187 := ou187.le le247
                      replace ou192 := ou192.le le247
                      replace ou196 := ou196.le le247
                      replace ou201 := ou201.le le247
                      replace ou206 := ou206.le le247
                      replace ou211 := ou211.le le247
                      replace ou217 := ou217.le le247
                      replace ou226 := ou226.le le247
                      replace ou230 := ou230.le le247
                      replace op232 := op232.le le247
                      replace ou242 := ou242.le le247
                      replace hvy := hvy.le le247
                      replace hvm := hvm.le le247
                      replace lE := lE.trans le247
                      replace op244 : Cel H245 p244 [(.int .i64 (0)), (.int .i64 (0)), (.slice none 0 0)] := op244
                      refine op244.stn (ws := [(.int .i64 (st)), (.int .i64 (1)), u242]) rfl rfl (oc1 rfl (oc1 rfl (oc1 ou242.one oc0))) (fun H248 op244 off249 => ?_)
                      replace ou9 := ou9.off off249 au9Xp244
                      replace op11 := op11.off off249 ap11Xp244
                      replace ou167 := ou167.off off249 au167Xp244
                      replace ou171 := ou171.off off249 au171Xp244
                      replace op173 := op173.off off249 ap173Xp244
                      replace ou187 := ou187.off off249 au187Xp244
                      replace ou192 := ou192.off off249 au192Xp244
                      replace ou196 := ou196.off off249 au196Xp244
                      replace ou201 := ou201.off off249 au201Xp244
                      replace ou206 := ou206.off off249 au206Xp244
                      replace ou211 := ou211.off off249 au211Xp244
                      replace ou217 := ou217.off off249 au217Xp244
                      replace ou226 := ou226.off off249 au226Xp244
                      replace ou230 := ou230.off off249 au230Xp244
                      replace op232 := op232.off off249 ap232Xp244
                      replace ou242 := ou242.off off249 au242Xp244
                      replace hvy := hvy0.le (off249.le lE np244)
                      replace hvm := hvm0.le (off249.le lE np244)
                      replace lE := off249.le lE np244
                      replace op244 : Cel H248 p244 [(.int .i64 (st)), (.int .i64 (1)), u242] := op244
                      refine C.spec_R8Rule hvm (by first | omega | assumption) (by first | omega | assumption) (by first | omega | assumption) (by first | omega | assumption) (by first | omega | assumption) (by first | omega | assumption) (fun  ls250 hls250 u253 H251 ou253 nn254  le252 => ?_)
                      have au9Xu253 : Apart u9 u253 := ou9.apart nn254
                      have ap11Xu253 : Apart p11 u253 := op11.apart nn254
                      have au167Xu253 : Apart u167 u253 := ou167.apart nn254
                      have au171Xu253 : Apart u171 u253 := ou171.apart nn254
                      have ap173Xu253 : Apart p173 u253 := op173.apart nn254
                      have au187Xu253 : Apart u187 u253 := ou187.apart nn254
                      have au192Xu253 : Apart u192 u253 := ou192.apart nn254
                      have au196Xu253 : Apart u196 u253 := ou196.apart nn254
                      have au201Xu253 : Apart u201 u253 := ou201.apart nn254
                      have au206Xu253 : Apart u206 u253 := ou206.apart nn254
                      have au211Xu253 : Apart u211 u253 := ou211.apart nn254
                      have au217Xu253 : Apart u217 u253 := ou217.apart nn254
                      have au226Xu253 : Apart u226 u253 := ou226.apart nn254
                      have au230Xu253 : Apart u230 u253 := ou230.apart nn254
                      have ap232Xu253 : Apart p232 u253 := op232.apart nn254
                      have au242Xu253 : Apart u242 u253 := ou242.apart nn254
                      have ap244Xu253 : Apart p244 u253 := op244.apart nn254
                      have nu253 : Nw H u253 := nn254.le lE
                      replace ou9 := ou9.le le252
                      replace op11 := op11.le le252
                      replace ou167 := ou167.le le252
                      replace ou171 := ou171.le le252
                      replace op173 := op173.le le252
                      replace ou187 := ou187.le le252
                      replace ou192 := ou192.le le252
                      replace ou196 := ou196.le le252
                      replace ou201 := ou201.le le252
                      replace ou206 := ou206.le le252
                      replace ou211 := ou211.le le252
                      replace ou217 := ou217.le le252
                      replace ou226 := ou226.le le252
                      replace ou230 := ou230.le le252
                      replace op232 := op232.le le252
                      replace ou242 := ou242.le le252
                      replace op244 := op244.le le252
                      replace hvy := hvy.le le252
                      replace hvm := hvm.le le252
                      replace lE := lE.trans le252
                      refine nw_i (fun p255 H256 op255 nn257 le258 => ?_)
                      have au9Xp255 : Apart u9 p255 := ou9.apart nn257
                      have ap11Xp255 : Apart p11 p255 := op11.apart nn257
                      have au167Xp255 : Apart u167 p255 := ou167.apart nn257
                      have au171Xp255 : Apart u171 p255 := ou171.apart nn257
                      have ap173Xp255 : Apart p173 p255 := op173.apart nn257
                      have au187Xp255 : Apart u187 p255 := ou187.apart nn257
                      have au192Xp255 : Apart u192 p255 := ou192.apart nn257
                      have au196Xp255 : Apart u196 p255 := ou196.apart nn257
                      have au201Xp255 : Apart u201 p255 := ou201.apart nn257
                      have au206Xp255 : Apart u206 p255 := ou206.apart nn257
                      have au211Xp255 : Apart u211 p255 := ou211.apart nn257
                      have au217Xp255 : Apart u217 p255 := ou217.apart nn257
                      have au226Xp255 : Apart u226 p255 := ou226.apart nn257
                      have au230Xp255 : Apart u230 p255 := ou230.apart nn257
                      have ap232Xp255 : Apart p232 p255 := op232.apart nn257
                      have au242Xp255 : Apart u242 p255 := ou242.apart nn257
                      have ap244Xp255 : Apart p244 p255 := op244.apart nn257
                      have au253Xp255 : Apart u253 p255 := ou253.apart nn257
                      have np255 : Nw H p255 := nn257.le lE
                      replace ou9 := ou9.le le258
                      replace op11 := op11.le le258
                      replace ou167 := ou167.le le258
                      replace ou171 := ou171.le le258
                      replace op173 := op173.le le258
                      replace ou187 := ou187.le le258
                      replace ou192 := ou192.le le258
                      replace ou196 := ou196.le le258
                      replace ou201 := ou201.le le258
                      replace ou206 := ou206.le le258
                      replace ou211 := ou211.le le258
                      replace ou217 := ou217.le le258
                      replace ou226 := ou226.le le258
                      replace ou230 := ou230.le le258
                      replace op232 := op232.le le258
                      replace ou242 := ou242.le le258
                      replace op244 := op244.le le258
                      replace ou253 := ou253.le le258
                      replace hvy := hvy.le le258
                      replace hvm := hvm.le le258
                      replace lE := lE.trans le258
                      replace op255 : Cel H256 p255 [(.int .i64 (0)), (.int .i64 (0)), (.slice none 0 0)] := op255
                      refine op255.stn (ws := [(.int .i64 (st)), (.int .i64 (1)), u253]) rfl rfl (oc1 rfl (oc1 rfl (oc1 ou253.one oc0))) (fun H259 op255 off260 => ?_)
                      replace ou9 := ou9.off off260 au9Xp255
                      replace op11 := op11.off off260 ap11Xp255
                      replace ou167 := ou167.off off260 au167Xp255
                      replace ou171 := ou171.off off260 au171Xp255
                      replace op173 := op173.off off260 ap173Xp255
                      replace ou187 := ou187.off off260 au187Xp255
                      replace ou192 := ou192.off off260 au192Xp255
                      replace ou196 := ou196.off off260 au196Xp255
                      replace ou201 := ou201.off off260 au201Xp255
                      replace ou206 := ou206.off off260 au206Xp255
                      replace ou211 := ou211.off off260 au211Xp255
                      replace ou217 := ou217.off off260 au217Xp255
                      replace ou226 := ou226.off off260 au226Xp255
                      replace ou230 := ou230.off off260 au230Xp255
                      replace op232 := op232.off off260 ap232Xp255
                      replace ou242 := ou242.off off260 au242Xp255
                      replace op244 := op244.off off260 ap244Xp255
                      replace ou253 := ou253.off off260 au253Xp255
                      replace hvy := hvy0.le (off260.le lE np255)
                      replace hvm := hvm0.le (off260.le lE np255)
                      replace lE := off260.le lE np255
                      replace op255 : Cel H259 p255 [(.int .i64 (st)), (.int .i64 (1)), u253] := op255
                      refine ob_i (op255.ldn rfl) ?_
                      refine C.impl_IsSumRule ou253.sl (by first | omega | assumption) (fun   H261    le262 => ?_)
                      replace ou9 := ou9.le le262
                      replace op11 := op11.le le262
                      replace ou167 := ou167.le le262
                      replace ou171 := ou171.le le262
                      replace op173 := op173.le le262
                      replace ou187 := ou187.le le262
                      replace ou192 := ou192.le le262
                      replace ou196 := ou196.le le262
                      replace ou201 := ou201.le le262
                      replace ou206 := ou206.le le262
                      replace ou211 := ou211.le le262
                      replace ou217 := ou217.le le262
                      replace ou226 := ou226.le le262
                      replace ou230 := ou230.le le262
                      replace op232 := op232.le le262
                      replace ou242 := ou242.le le262
                      replace op244 := op244.le le262
                      replace ou253 := ou253.le le262
                      replace op255 := op255.le le262
                      replace hvy := hvy.le le262
                      replace hvm := hvm.le le262
                      replace lE := lE.trans le262
                      refine ob_i (vExt_20 _ _) ?_
                      refine ob_i (vExt_21 _ _) ?_
                      refine ob_i (a := .bool false) rfl ?_
                      refine gop_rf ?_
                      refine gop_rf ?_
                      refine ob_i (a := .bool false) rfl ?_
                      refine ob_i (vPick_f _ _) ?_
                      refine gop_rf ?_
                      refine gop_rf ?_
                      refine ob_i (a := .bool false) rfl ?_
                      refine ob_i (vPick_f _ _) ?_
                      refine gop_rf ?_
                      refine gop_rf ?_
                      refine ob_i (a := .bool false) rfl ?_
                      refine ob_i (vPick_f _ _) ?_
                      refine gop_rf ?_
                      refine gop_rf ?_
                      refine ob_i (a := .bool false) rfl ?_
                      refine ob_i (vPick_f _ _) ?_
                      refine gop_rf ?_
                      refine ob_i (op244.ldn rfl) ?_
                      refine gop_rf ?_
                      refine ob_i (op232.ldn rfl) ?_
                      refine gop_rf ?_
                      refine C.impl_SameRule ou242.sl ou230.sl (by first | omega | assumption) (fun   H263    le264 => ?_)
                      replace ou9 := ou9.le le264
                      replace op11 := op11.le le264
                      replace ou167 := ou167.le le264
                      replace ou171 := ou171.le le264
                      replace op173 := op173.le le264
                      replace ou187 := ou187.le le264
                      replace ou192 := ou192.le le264
                      replace ou196 := ou196.le le264
                      replace ou201 := ou201.le le264
                      replace ou206 := ou206.le le264
                      replace ou211 := ou211.le le264
                      replace ou217 := ou217.le le264
                      replace ou226 := ou226.le le264
                      replace ou230 := ou230.le le264
                      replace op232 := op232.le le264
                      replace ou242 := ou242.le le264
                      replace op244 := op244.le le264
                      replace ou253 := ou253.le le264
                      replace op255 := op255.le le264
                      replace hvy := hvy.le le264
                      replace hvm := hvm.le le264
                      replace lE := lE.trans le264
                      refine gop_rf ?_
                      refine ob_nd (fun hc265 => ?_) (fun hc265 => ?_)
                      · skip
                        refine ob_i (vPick_f _ _) ?_
                        refine cnd_f1 ?_
                        refine cnd_d (fun hg266 => ?_) (fun hg266 => ?_)
                        · skip
                          refine ob_i (op255.ldn rfl) ?_
                          refine Own.mk_ (z := (0 : Int)) (by omega) (by omega) (by omega) (by omega) (fun u267 H268 ou267 nn269 le270 => ?_)
                          have au9Xu267 : Apart u9 u267 := ou9.apart nn269
                          have ap11Xu267 : Apart p11 u267 := op11.apart nn269
                          have au167Xu267 : Apart u167 u267 := ou167.apart nn269
                          have au171Xu267 : Apart u171 u267 := ou171.apart nn269
                          have ap173Xu267 : Apart p173 u267 := op173.apart nn269
                          have au187Xu267 : Apart u187 u267 := ou187.apart nn269
                          have au192Xu267 : Apart u192 u267 := ou192.apart nn269
                          have au196Xu267 : Apart u196 u267 := ou196.apart nn269
                          have au201Xu267 : Apart u201 u267 := ou201.apart nn269
                          have au206Xu267 : Apart u206 u267 := ou206.apart nn269
                          have au211Xu267 : Apart u211 u267 := ou211.apart nn269
                          have au217Xu267 : Apart u217 u267 := ou217.apart nn269
                          have au226Xu267 : Apart u226 u267 := ou226.apart nn269
                          have au230Xu267 : Apart u230 u267 := ou230.apart nn269
                          have ap232Xu267 : Apart p232 u267 := op232.apart nn269
                          have au242Xu267 : Apart u242 u267 := ou242.apart nn269
                          have ap244Xu267 : Apart p244 u267 := op244.apart nn269
                          have au253Xu267 : Apart u253 u267 := ou253.apart nn269
                          have ap255Xu267 : Apart p255 u267 := op255.apart nn269
                          have nu267 : Nw H u267 := nn269.le lE
                          replace ou9 := ou9.le le270
                          replace op11 := op11.le le270
                          replace ou167 := ou167.le le270
                          replace ou171 := ou171.le le270
                          replace op173 := op173.le le270
                          replace ou187 := ou187.le le270
                          replace ou192 := ou192.le le270
                          replace ou196 := ou196.le le270
                          replace ou201 := ou201.le le270
                          replace ou206 := ou206.le le270
                          replace ou211 := ou211.le le270
                          replace ou217 := ou217.le le270
                          replace ou226 := ou226.le le270
                          replace ou230 := ou230.le le270
                          replace op232 := op232.le le270
                          replace ou242 := ou242.le le270
                          replace op244 := op244.le le270
                          replace ou253 := ou253.le le270
                          replace op255 := op255.le le270
                          replace hvy := hvy.le le270
                          replace hvm := hvm.le le270
                          replace lE := lE.trans le270
                          refine C.impl_StepRing ou253.sl ou267.sl (by first | omega | assumption) (by first | assumption | exact zero_ring (by omega) (by omega) (by omega)) (fun  u273 H271 ou273 nn274  le272 => ?_)
                          have au9Xu273 : Apart u9 u273 := ou9.apart nn274
                          have ap11Xu273 : Apart p11 u273 := op11.apart nn274
                          have au167Xu273 : Apart u167 u273 := ou167.apart nn274
                          have au171Xu273 : Apart u171 u273 := ou171.apart nn274
                          have ap173Xu273 : Apart p173 u273 := op173.apart nn274
                          have au187Xu273 : Apart u187 u273 := ou187.apart nn274
                          have au192Xu273 : Apart u192 u273 := ou192.apart nn274
                          have au196Xu273 : Apart u196 u273 := ou196.apart nn274
                          have au201Xu273 : Apart u201 u273 := ou201.apart nn274
                          have au206Xu273 : Apart u206 u273 := ou206.apart nn274
                          have au211Xu273 : Apart u211 u273 := ou211.apart nn274
                          have au217Xu273 : Apart u217 u273 := ou217.apart nn274
                          have au226Xu273 : Apart u226 u273 := ou226.apart nn274
                          have au230Xu273 : Apart u230 u273 := ou230.apart nn274
                          have ap232Xu273 : Apart p232 u273 := op232.apart nn274
                          have au242Xu273 : Apart u242 u273 := ou242.apart nn274
                          have ap244Xu273 : Apart p244 u273 := op244.apart nn274
                          have au253Xu273 : Apart u253 u273 := ou253.apart nn274
                          have ap255Xu273 : Apart p255 u273 := op255.apart nn274
                          have au267Xu273 : Apart u267 u273 := ou267.apart nn274
                          have nu273 : Nw H u273 := nn274.le lE
                          replace ou9 := ou9.le le272
                          replace op11 := op11.le le272
                          replace ou167 := ou167.le le272
                          replace ou171 := ou171.le le272
                          replace op173 := op173.le le272
                          replace ou187 := ou187.le le272
                          replace ou192 := ou192.le le272
                          replace ou196 := ou196.le le272
                          replace ou201 := ou201.le le272
                          replace ou206 := ou206.le le272
                          replace ou211 := ou211.le le272
                          replace ou217 := ou217.le le272
                          replace ou226 := ou226.le le272
                          replace ou230 := ou230.le le272
                          replace op232 := op232.le le272
                          replace ou242 := ou242.le le272
                          replace op244 := op244.le le272
                          replace ou253 := ou253.le le272
                          replace op255 := op255.le le272
                          replace ou267 := ou267.le le272
                          replace hvy := hvy.le le272
                          replace hvm := hvm.le le272
                          replace lE := lE.trans le272
                          refine ⟨le272, ?_⟩
                          have rgk275 : ringP st (List.replicate (n : Int).toNat 0) := by first | assumption | exact zero_ring (by omega) (by omega) (by omega)
                          have lrk275 := rgk275.2
                          have rsk275 := stpL_ring (st := st) (rc := 1) (T := ls250) (ring := List.replicate (n : Int).toNat 0) (by assumption) (by first | assumption | exact zero_ring (by omega) (by omega) (by omega))
                          have isk275 := rsk275.1
                          have lsk275 := stpL_len st (1) (ls250) (List.replicate (n : Int).toNat 0)
                          refine ob_i (vExt_20 _ _) ?_
                          refine ob_i (vExt_21 _ _) ?_
                          refine gop_rt ?_
                          refine gop_rt ?_
                          refine gop_rt ?_
                          refine Own.mk_ (z := (0 : Int)) (by omega) (by omega) (by omega) (by omega) (fun u276 H277 ou276 nn278 le279 => ?_)
                          have au9Xu276 : Apart u9 u276 := ou9.apart nn278
                          have ap11Xu276 : Apart p11 u276 := op11.apart nn278
                          have au167Xu276 : Apart u167 u276 := ou167.apart nn278
                          have au171Xu276 : Apart u171 u276 := ou171.apart nn278
                          have ap173Xu276 : Apart p173 u276 := op173.apart nn278
                          have au187Xu276 : Apart u187 u276 := ou187.apart nn278
                          have au192Xu276 : Apart u192 u276 := ou192.apart nn278
                          have au196Xu276 : Apart u196 u276 := ou196.apart nn278
                          have au201Xu276 : Apart u201 u276 := ou201.apart nn278
                          have au206Xu276 : Apart u206 u276 := ou206.apart nn278
                          have au211Xu276 : Apart u211 u276 := ou211.apart nn278
                          have au217Xu276 : Apart u217 u276 := ou217.apart nn278
                          have au226Xu276 : Apart u226 u276 := ou226.apart nn278
                          have au230Xu276 : Apart u230 u276 := ou230.apart nn278
                          have ap232Xu276 : Apart p232 u276 := op232.apart nn278
                          have au242Xu276 : Apart u242 u276 := ou242.apart nn278
                          have ap244Xu276 : Apart p244 u276 := op244.apart nn278
                          have au253Xu276 : Apart u253 u276 := ou253.apart nn278
                          have ap255Xu276 : Apart p255 u276 := op255.apart nn278
                          have au267Xu276 : Apart u267 u276 := ou267.apart nn278
                          have au273Xu276 : Apart u273 u276 := ou273.apart nn278
                          have nu276 : Nw H u276 := nn278.le lE
                          replace ou9 := ou9.le le279
                          replace op11 := op11.le le279
                          replace ou167 := ou167.le le279
                          replace ou171 := ou171.le le279
                          replace op173 := op173.le le279
                          replace ou187 := ou187.le le279
                          replace ou192 := ou192.le le279
                          replace ou196 := ou196.le le279
                          replace ou201 := ou201.le le279
                          replace ou206 := ou206.le le279
                          replace ou211 := ou211.le le279
                          replace ou217 := ou217.le le279
                          replace ou226 := ou226.le le279
                          replace ou230 := ou230.le le279
                          replace op232 := op232.le le279
                          replace ou242 := ou242.le le279
                          replace op244 := op244.le le279
                          replace ou253 := ou253.le le279
                          replace op255 := op255.le le279
                          replace ou267 := ou267.le le279
                          replace ou273 := ou273.le le279
                          replace hvy := hvy.le le279
                          replace hvm := hvm.le le279
                          replace lE := lE.trans le279
                          refine gop_rt ?_
                          refine C.laws_r8Same ou273.sl ou276.sl (by first | omega | assumption) (fun   H280    le281 => ?_)
                          replace ou9 := ou9.le le281
                          replace op11 := op11.le le281
                          replace ou167 := ou167.le le281
                          replace ou171 := ou171.le le281
                          replace op173 := op173.le le281
                          replace ou187 := ou187.le le281
                          replace ou192 := ou192.le le281
                          replace ou196 := ou196.le le281
                          replace ou201 := ou201.le le281
                          replace ou206 := ou206.le le281
                          replace ou211 := ou211.le le281
                          replace ou217 := ou217.le le281
                          replace ou226 := ou226.le le281
                          replace ou230 := ou230.le le281
                          replace op232 := op232.le le281
                          replace ou242 := ou242.le le281
                          replace op244 := op244.le le281
                          replace ou253 := ou253.le le281
                          replace op255 := op255.le le281
                          replace ou267 := ou267.le le281
                          replace ou273 := ou273.le le281
                          replace ou276 := ou276.le le281
                          replace hvy := hvy.le le281
                          replace hvm := hvm.le le281
                          replace lE := lE.trans le281
                          refine ob_i (vPick_t _ _) ?_
                          rw [decide_eq_true (show (stpL st 1 ls250 (List.replicate (n : Int).toNat 0)) = (List.replicate (n : Int).toNat 0) from add_zero (by assumption) (by assumption) (by omega))]
                          exact hk _ lE
                        · skip
                          skip
                          exact hk   _    lE
                      · skip
                        refine ob_i (vPick_f _ _) ?_
                        refine cnd_t1 ?_
                        exfalso
                        exact hc265 ⟨rfl, rfl, mt⟩
                    · skip
                      refine ob_i (vPick_f _ _) ?_
                      refine cnd_t1 ?_
                      exfalso
                      exact hc222 (add_step hrs has (by assumption) (by assumption) (by omega))
                  · skip
                    refine ob_i (vPick_f _ _) ?_
                    refine gop_st ?_
                    refine gop_st ?_
                    refine gop_st ?_
                    refine gop_st ?_
                    refine gop_st ?_
                    refine gop_st ?_
                    refine gop_st ?_
                    refine ob_i (vPick_t _ _) ?_
                    refine cnd_t1 ?_
                    exfalso
                    exact hc214 has
    refine ⟨fun n' σ' H' => ∃ i : Nat, n' = 8 - i ∧ i ≤ 8 ∧ σ' 0 = vy ∧ σ' 1 = vm ∧ σ' 5 = (.int .i64 (num)) ∧ σ' 7 = (.bool true) ∧ σ' 8 = (.int .i64 (orN (nbF num 8) 8)) ∧ σ' 9 = (.bool true) ∧ σ' 10 = (.float .f32 z19) ∧ σ' 11 = (.bool true) ∧ σ' 12 = (.float .f32 z22) ∧ σ' 13 = (.bool true) ∧ σ' 14 = (.int .i64 (btF num i)) ∧ σ' 15 = (.int .i64 ((i : Int))) ∧ Own eI H' u9 (nbF num 8) ∧ Cel H' p11 [(.int .i64 (2)), (.int .i64 (1)), u9] ∧ Le H H',
      ⟨_, 0, rfl, by omega, rfl, rfl, rfl, rfl, rfl, rfl, rfl, rfl, rfl, rfl, rfl, (congrArg (Value.int .i64) (by first | omega | rfl | (simp; done))), ou9, op11, lE⟩, ?_⟩
    rintro n282 σ282 H282 ⟨i, rfl, hiN, g0L282, g1L282, g5L282, g7L282, g8L282, g9L282, g10L282, g11L282, g12L282, g13L282, g14L282, g15L282, ou9, op11, lE⟩
    have hvy := hvy0.le lE
    have hvm := hvm0.le lE
    try simp only [g5L282, g14L282, g15L282]
    have bb := btF_bnd num i
    have dv0 : 0 ≤ num / 2 ^ (i : Int).toNat ∧ num / 2 ^ (i : Int).toNat ≤ num := ⟨Int.ediv_nonneg (by omega) (Int.pow_nonneg (by omega)), Int.ediv_le_self _ (by omega)⟩
    refine ob_i (vInt_lss _ _ _) ?_
    refine cnd_d (fun hg283 => ?_) (fun hg283 => ?_)
    · skip
      have ti := hg283
      refine ob_i (vCI_u64 (by omega) (by omega)) ?_
      refine ob_i (vInt_shrN (by omega) (by omega)) ?_
      refine ob_i (vInt_and1 (by omega) (by omega)) ?_
      refine ob_i (vInt_add (by omega) (by omega)) ?_
      refine ob_i (vInt_add (by omega) (by omega)) ?_
      exact nxt (8 - (i + 1)) (by omega) ⟨i + 1, rfl, by omega, g0L282, g1L282, g5L282, g7L282, g8L282, g9L282, g10L282, g11L282, g12L282, g13L282, rfl, (congrArg (Value.int .i64) (by first | omega | rfl | (simp; done))), ou9, op11, lE⟩
    · skip
      have ti := hg283
      obtain rfl : i = 8 := by omega
      exact hJ25 _ _ ⟨g0L282, g1L282, g5L282, g7L282, g8L282, g9L282, g10L282, g11L282, g12L282, g13L282, (g14L282.trans (congrArg (Value.int .i64) (by first | omega | rfl | (simp; done)))), ou9, op11, lE, trivial⟩
theorem L.FnTables {vy vm : Value} {l m : List Int} {H : Hp} {K : Value → Hp → Prop} (h0 : Sl eU H vy l) (h1 : Sl eU H vm m) (l0 : l.length ≤ 9223372036854775807) (l1 : m.length ≤ 9223372036854775807) (b0 : bytP l) (b1 : bytP m) (hk : ∀ H', Le H H' → K (.bool true) H') : HT prg I.laws_FnTables [vy, vm].toArray H K :=
  C.laws_FnTables h0 h1 b0 l0 b1 l1 hk
end Go.Proofs.Ytelcmohhjkgjoaa
