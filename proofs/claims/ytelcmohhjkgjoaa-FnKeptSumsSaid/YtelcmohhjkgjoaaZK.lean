/- The law of kept sums. -/
import Derived.Test.YtelcmohhjkgjoaaRKT
import Derived.Test.YtelcmohhjkgjoaaRB
import Derived.Test.YtelcmohhjkgjoaaZA
namespace Go.Proofs.Ytelcmohhjkgjoaa
open HL
set_option maxRecDepth 100000
theorem snoc_all {l : List Int} {x : Int} {p : Int → Prop} (h : ∀ y ∈ l, p y) (hx : p x) : ∀ y ∈ l ++ [x], p y := fun y hy => by
  rcases List.mem_append.mp hy with hy | hy
  · exact h y hy
  · simp only [List.mem_singleton] at hy; subst hy; exact hx
theorem C.impl_Rule_tells {vt va : Value} {st rc : Int} {T : List Int} {l : List Int}  {H : Hp} {K : Value → Hp → Prop} (hvt0 : Sl eI H vt T) (hva0 : Sl eI H va l) (hr : ruleP st rc T) (he : ∀ x ∈ l, 0 ≤ x ∧ x ≤ st - 1) (hl : (l.length : Int) ≤ 2 * rc + 1)
    (hk : ∀ H', Le H H' → K (.int .i64 (zrN st T l)) H') : HT prg I.impl_Rule_tells [(.agg #[(.int .i64 (st)), (.int .i64 (rc)), vt]), va].toArray H K := by
  have lE := Le.refl H
  have hvt := hvt0
  have hva := hva0
  refine R.impl_Rule_tells ?_
  unfold F.impl_Rule_tells
  have hr1 := hr.1
  have hr2 := hr.2.1
  have hr3 := ruleP_len hr
  have hr4 := hr.2.2.2
  have ix := zr_ix hr he hl
  refine nw_i (fun p1 H2 op1 nn3 le4 => ?_)
  have np1 : Nw H p1 := nn3.le lE
  replace hvt := hvt.le le4
  replace hva := hva.le le4
  replace lE := lE.trans le4
  replace op1 : Cel H2 p1 [(.int .i64 (st)), (.int .i64 (rc)), vt] := op1
  refine ob_i (op1.fa 2) ?_
  refine ob_i (op1.ld 2 rfl) ?_
  refine ob_i (op1.fa 0) ?_
  refine ob_i (op1.ld 0 rfl) ?_
  refine C.impl_numberOf hva (by first | omega | assumption) (by first | omega | assumption) (by first | omega | assumption) (by first | omega | assumption) (fun   H5    le6 => ?_)
  replace op1 := op1.le le6
  replace hvt := hvt.le le6
  replace hva := hva.le le6
  replace lE := lE.trans le6
  refine ⟨le6, ?_⟩
  refine ob_i (hvt.ix (by omega) (by omega)) ?_
  refine ob_i (hvt.ld 0 (by omega) (by omega)) ?_
  skip
  exact keq (K := K) (by rw [show ((at_ 0 (T) (numL st l)) : Int) = (zrN st T l) from by rfl]) (hk   _    lE)
theorem C.impl_Rule_zeros {vt va : Value} {st rc : Int} {T l : List Int} {H : Hp} {K : Value → Hp → Prop} (hvt0 : Sl eI H vt T) (hva0 : Sl eI H va l) (hr : ruleP st rc T) (he : ∀ x ∈ l, 0 ≤ x ∧ x ≤ st - 1) (hl : (l.length : Int) ≤ 2 * rc + 1)
    (hk : ∀ H', Le H H' → K (.int .i64 (zrN st T l)) H') : HT prg I.impl_Rule_zeros [(.agg #[.int .i64 st, .int .i64 rc, vt]), va].toArray H K := by
  have hr1 := hr.1
  have hr2 := hr.2.1
  refine R.impl_Rule_zeros ?_
  unfold F.impl_Rule_zeros
  refine nw_i (fun p1 H2 op1 nn3 le4 => ?_)
  refine ob_i (op1.ldn rfl) (ob_i (op1.ldn rfl) (ob_i hva0.len ?_))
  refine C.impl_Rule_cells (hvt0.le le4) (by omega) (by omega) (fun H5 le6 => ⟨le6, ?_⟩)
  refine ob_i (vInt_sub (by omega) (by omega)) ?_
  refine mk_apd (by omega) (by omega) (hva0.le (le4.trans le6)) (by omega) (fun u H7 ou nu le8 => ?_)
  refine C.impl_Rule_tells (hvt0.le ((le4.trans le6).trans le8)) ou.sl hr ?_ ?_ (fun H9 le10 => ⟨le10, ?_⟩)
  · intro x hx
    rcases List.mem_append.mp hx with hx | hx
    · have := List.eq_of_mem_replicate hx; omega
    · exact he x hx
  · simp only [List.length_append, List.length_replicate]; omega
  · have := hk H9 (((le4.trans le6).trans le8).trans le10)
    unfold zrN at this ⊢
    rw [numL_zeros]; exact this
theorem C.spec_l03Behind {p vt va : Value} {k m st rc : Int} {T : List Int} {l : List Int}  {H : Hp} {K : Value → Hp → Prop} (hp0 : Cel H p [(.int .i64 (st)), (.int .i64 (rc)), vt]) (hvt0 : Sl eI H vt T) (hva0 : Sl eI H va l) (hr : ruleP st rc T) (he : ∀ x ∈ l, 0 ≤ x ∧ x ≤ st - 1) (k0 : 0 ≤ k) (kw : k ≤ 2 * rc + 1) (m0 : 0 ≤ m) (hl : m + (2 * rc + 1 - k) ≤ l.length) (m1 : m ≤ 100)
    (hk : ∀ H', Le H H' → K (.int .i64 (zrN st T ((l.drop (m : Int).toNat).take (2 * rc + 1 - k).toNat))) H') : HT prg I.spec_l03Behind [p, va, (.int .i64 (k)), (.int .i64 (m))].toArray H K := by
  have lE := Le.refl H
  have hp := hp0
  have hvt := hvt0
  have hva := hva0
  refine R.spec_l03Behind ?_
  unfold F.spec_l03Behind
  have hr1 := hr.1
  have hr2 := hr.2.1
  have hr3 := ruleP_len hr
  have hr4 := hr.2.2.2
  have ix := zr_ix hr (row := (l.drop m.toNat).take (2 * rc + 1 - k).toNat) (take_in (drop_in he)) (by rw [List.length_take]; omega)
  refine jn_i (fun σ' H' => σ' 0 = p ∧ σ' 9 = (.int .i64 (numL st ((l.drop m.toNat).take (2 * rc + 1 - k).toNat))) ∧ Le H H') (fun σ1 H1 hP => ?_) (fun J1 hJ1 => ?_)
  · skip
    obtain ⟨g0L1, g9L1, lE⟩ := hP
    have hp := hp0.le lE
    have hvt := hvt0.le lE
    have hva := hva0.le lE
    try simp only [g0L1, g9L1]
    refine ob_i (hp.nilC) ?_
    refine ob_i (hp.fa 2) ?_
    refine ob_i (hp.ld 2 rfl) ?_
    refine ob_i (hvt.ix (by omega) (by omega)) ?_
    refine ob_i (hvt.ld 0 (by omega) (by omega)) ?_
    skip
    exact keq (K := K) (by rw [show ((at_ 0 (T) (numL st ((l.drop m.toNat).take (2 * rc + 1 - k).toNat))) : Int) = (zrN st T ((l.drop (m : Int).toNat).take (2 * rc + 1 - k).toNat)) from by rfl]) (hk   _    lE)
  refine ⟨fun n' σ' H' => ∃ i : Nat, n' = (2 * rc + 1 - k).toNat - i ∧ i ≤ (2 * rc + 1 - k).toNat ∧ σ' 0 = p ∧ σ' 1 = va ∧ σ' 2 = (.int .i64 (k)) ∧ σ' 3 = (.int .i64 (m)) ∧ σ' 9 = (.int .i64 (numL st ((l.drop m.toNat).take i))) ∧ σ' 10 = (.int .i64 ((i : Int))) ∧ Le H H',
    ⟨_, 0, rfl, by omega, rfl, rfl, rfl, rfl, (congrArg (Value.int .i64) (numL_nil st).symm), (congrArg (Value.int .i64) (by first | omega | rfl | (simp; done))), lE⟩, ?_⟩
  rintro n2 σ2 H2 ⟨i, rfl, hiN, g0L2, g1L2, g2L2, g3L2, g9L2, g10L2, lE⟩
  have hp := hp0.le lE
  have hvt := hvt0.le lE
  have hva := hva0.le lE
  try simp only [g0L2, g1L2, g2L2, g3L2, g9L2, g10L2]
  have nb := numL_bnd16 (b := st) (by omega) (by omega) (take_in (n := i) (drop_in (n := m.toNat) he)) (by rw [List.length_take]; omega)
  refine C.spec_l03Wide hp hvt (by first | omega | assumption) (by first | omega | assumption) ?_
  refine ob_i (vInt_sub (by omega) (by omega)) ?_
  refine ob_i (vInt_lss _ _ _) ?_
  refine cnd_d (fun hg3 => ?_) (fun hg3 => ?_)
  · skip
    have ti := hg3
    have ea : at_ 0 (l.drop m.toNat) (i : Int) = at_ 0 l (m + (i : Int)) := by
        rw [at_eq 0 _ (by rw [List.length_drop]; omega), List.getElem_drop, show m + (i : Int) = ((m.toNat + i : Nat) : Int) by omega, at_eq 0 _ (by omega)]
    have nt := numL_take (b := st) (l := l.drop m.toNat) (i := i) (by rw [List.length_drop]; omega)
    rw [ea] at nt
    have nb2 := numL_bnd16 (b := st) (by omega) (by omega) (take_in (n := i + 1) (drop_in (n := m.toNat) he)) (by rw [List.length_take]; omega)
    rw [nt] at nb2
    have eb := he _ (at_mem 0 l (i := m + (i : Int)) (by omega) (by omega))
    have nm3 := mul3_bnd nb.1 (b := st) (by omega) (by omega)
    refine ob_i (hp.nilC) ?_
    refine ob_i (hp.fa 0) ?_
    refine ob_i (hp.ld 0 rfl) ?_
    refine ob_i (vInt_mul (by omega) (by omega)) ?_
    refine ob_i (vInt_add (by omega) (by omega)) ?_
    refine ob_i (hva.ix (by omega) (by omega)) ?_
    refine ob_i (hva.ld 0 (by omega) (by omega)) ?_
    refine ob_i (vInt_add (by omega) (by omega)) ?_
    refine ob_i (vInt_add (by omega) (by omega)) ?_
    exact nxt ((2 * rc + 1 - k).toNat - (i + 1)) (by omega) ⟨i + 1, rfl, by omega, g0L2, g1L2, g2L2, g3L2, (congrArg (Value.int .i64) nt.symm), (congrArg (Value.int .i64) (by first | omega | rfl | (simp; done))), lE⟩
  · skip
    have ti := hg3
    obtain rfl : i = (2 * rc + 1 - k).toNat := by omega
    exact hJ1 _ _ ⟨g0L2, (g9L2.trans (congrArg (Value.int .i64) (by first | omega | rfl | (simp; done)))), lE⟩
theorem C.impl_Rule_keepsSum {vt : Value} {st rc : Int} {T : List Int}  {H : Hp} {K : Value → Hp → Prop} (hvt0 : Sl eI H vt T) (hr : ruleP st rc T)
    (hk : ∀ H', Le H H' → K (.bool (decide (keepP st rc T))) H') : HT prg I.impl_Rule_keepsSum [(.agg #[(.int .i64 (st)), (.int .i64 (rc)), vt])].toArray H K := by
  have lE := Le.refl H
  have hvt := hvt0
  refine R.impl_Rule_keepsSum ?_
  unfold F.impl_Rule_keepsSum
  have hr1 := hr.1
  have hr2 := hr.2.1
  have hr3 := ruleP_len hr
  have hr4 := hr.2.2.2
  refine nw_i (fun p1 H2 op1 nn3 le4 => ?_)
  have np1 : Nw H p1 := nn3.le lE
  replace hvt := hvt.le le4
  replace lE := lE.trans le4
  replace op1 : Cel H2 p1 [(.int .i64 (st)), (.int .i64 (rc)), vt] := op1
  refine ob_i (op1.ldn rfl) ?_
  refine C.impl_Rule_cells hvt (by first | omega | assumption) (by first | omega | assumption) (fun   H5    le6 => ?_)
  replace op1 := op1.le le6
  replace hvt := hvt.le le6
  replace lE := lE.trans le6
  refine jn_i (fun σ' H' => Cel H' p1 [(.int .i64 (st)), (.int .i64 (rc)), vt] ∧ Le H H' ∧ keepP st rc T) (fun σ7 H7 hP => ?_) (fun J7 hJ7 => ?_)
  · skip
    obtain ⟨op1, lE, ho0⟩ := hP
    have hvt := hvt0.le lE
    skip
    exact keq (K := K) (by rw [decide_eq_true (show (keepP st rc T) from by assumption)]) (hk   _    lE)
  refine ob_i (op1.fa 2) ?_
  refine ob_i (op1.ld 2 rfl) ?_
  refine ob_i (hvt.len) ?_
  refine ⟨fun n' σ' H' => ∃ i : Nat, n' = T.length - i ∧ i ≤ T.length ∧ σ' 1 = p1 ∧ σ' 3 = (.int .i64 (2 * rc + 1)) ∧ σ' 12 = vt ∧ σ' 13 = (.int .i64 (((T).length : Int))) ∧ σ' 14 = (.int .i64 ((i : Int))) ∧ Cel H' p1 [(.int .i64 (st)), (.int .i64 (rc)), vt] ∧ Le H H' ∧ (∀ h : Nat, h < i → kpS st rc T (digL (h : Int) st (2 * rc + 1).toNat) (2 * rc).toNat = at_ 0 T (h : Int)),
    ⟨_, 0, rfl, by omega, rfl, rfl, rfl, rfl, (congrArg (Value.int .i64) (by first | omega | rfl | (simp; done))), op1, lE, (fun h hh => by omega)⟩, ?_⟩
  rintro n8 σ8 H8 ⟨i, rfl, hiN, g1L8, g3L8, g12L8, g13L8, g14L8, op1, lE, hm0⟩
  have hvt := hvt0.le lE
  try simp only [g1L8, g3L8, g12L8, g13L8, g14L8]
  have dl := digL_len (i : Int) st (2 * rc + 1).toNat
  have di := digL_in (n := (i : Int)) (b := st) (k := (2 * rc + 1).toNat) (by omega)
  refine ob_i (vInt_lss _ _ _) ?_
  refine cnd_d (fun hg9 => ?_) (fun hg9 => ?_)
  · skip
    have ti := hg9
    refine jn_i (fun σ' H' => σ' 1 = p1 ∧ σ' 3 = (.int .i64 (2 * rc + 1)) ∧ σ' 12 = vt ∧ σ' 13 = (.int .i64 (((T).length : Int))) ∧ σ' 14 = (.int .i64 ((i : Int))) ∧ Cel H' p1 [(.int .i64 (st)), (.int .i64 (rc)), vt] ∧ Le H H' ∧ kpS st rc T (digL (i : Int) st (2 * rc + 1).toNat) (2 * rc).toNat = at_ 0 T (i : Int)) (fun σ10 H10 hP => ?_) (fun J10 hJ10 => ?_)
    · skip
      obtain ⟨g1L10, g3L10, g12L10, g13L10, g14L10, op1, lE, ho0⟩ := hP
      have hvt := hvt0.le lE
      try simp only [g14L10]
      refine ob_i (vInt_add (by omega) (by omega)) ?_
      exact nxt (T.length - (i + 1)) (by omega) ⟨i + 1, rfl, by omega, g1L10, g3L10, g12L10, g13L10, (congrArg (Value.int .i64) (by first | omega | rfl | (simp; done))), op1, lE, (fun h hh => by by_cases eh : h = i; (rw [eh]; exact ho0); exact hm0 h (by omega))⟩
    refine ob_i (hvt.ix (by omega) (by omega)) ?_
    refine ob_i (hvt.ld 0 (by omega) (by omega)) ?_
    refine ob_i (op1.fa 0) ?_
    refine ob_i (op1.ld 0 rfl) ?_
    refine C.impl_digitsOf (by first | omega | assumption) (by first | omega | assumption) (by first | omega | assumption) (by first | omega | assumption) (by first | omega | assumption) (by first | omega | assumption) (fun  u13 H11 ou13 nn14  le12 => ?_)
    have ap1Xu13 : Apart p1 u13 := op1.apart nn14
    have nu13 : Nw H u13 := nn14.le lE
    replace op1 := op1.le le12
    replace hvt := hvt.le le12
    replace lE := lE.trans le12
    refine ob_i (ou13.sl.ix (by omega) (by omega)) ?_
    refine ob_i (ou13.sl.ld 0 (by omega) (by omega)) ?_
    refine jn_i (fun σ' H' => σ' 1 = p1 ∧ σ' 3 = (.int .i64 (2 * rc + 1)) ∧ σ' 5 = (.int .i64 (at_ 0 (T) ((i : Int)))) ∧ σ' 7 = (.int .i64 (kpS st rc T (digL (i : Int) st (2 * rc + 1).toNat) (2 * rc).toNat)) ∧ σ' 12 = vt ∧ σ' 13 = (.int .i64 (((T).length : Int))) ∧ σ' 14 = (.int .i64 ((i : Int))) ∧ Cel H' p1 [(.int .i64 (st)), (.int .i64 (rc)), vt] ∧ Own eI H' u13 (digL (i : Int) st (2 * rc + 1).toNat) ∧ Le H H') (fun σ15 H15 hP => ?_) (fun J15 hJ15 => ?_)
    · skip
      obtain ⟨g1L15, g3L15, g5L15, g7L15, g12L15, g13L15, g14L15, op1, ou13, lE⟩ := hP
      have hvt := hvt0.le lE
      try simp only [g5L15, g7L15]
      refine ob_i (vInt_neq _ _ _) ?_
      refine cnd_d (fun hg16 => ?_) (fun hg16 => ?_)
      · skip
        refine retK (K := K) (v' := (.bool false)) rfl ?_
        skip
        exact keq (K := K) (by rw [decide_eq_false (show ¬ (keepP st rc T) from by intro hh; exact hg16 (hh i (by omega)))]) (hk   _    lE)
      · skip
        exact hJ10 _ _ ⟨g1L15, g3L15, g12L15, g13L15, g14L15, op1, lE, (Decidable.not_not.mp hg16)⟩
    refine ⟨fun n' σ' H' => ∃ n : Nat, n' = (2 * rc).toNat - n ∧ n ≤ (2 * rc).toNat ∧ σ' 1 = p1 ∧ σ' 3 = (.int .i64 (2 * rc + 1)) ∧ σ' 5 = (.int .i64 (at_ 0 (T) ((i : Int)))) ∧ σ' 6 = u13 ∧ σ' 7 = (.int .i64 (kpS st rc T (digL (i : Int) st (2 * rc + 1).toNat) n)) ∧ σ' 8 = (.int .i64 ((n : Int) + 1)) ∧ σ' 12 = vt ∧ σ' 13 = (.int .i64 (((T).length : Int))) ∧ σ' 14 = (.int .i64 ((i : Int))) ∧ Cel H' p1 [(.int .i64 (st)), (.int .i64 (rc)), vt] ∧ Own eI H' u13 (digL (i : Int) st (2 * rc + 1).toNat) ∧ Le H H',
      ⟨_, 0, rfl, by omega, g1L8, g3L8, rfl, rfl, rfl, (congrArg (Value.int .i64) (by first | omega | rfl | (simp; done))), g12L8, g13L8, g14L8, op1, ou13, lE⟩, ?_⟩
    rintro n17 σ17 H17 ⟨n, rfl, hnN, g1L17, g3L17, g5L17, g6L17, g7L17, g8L17, g12L17, g13L17, g14L17, op1, ou13, lE⟩
    have hvt := hvt0.le lE
    try simp only [g1L17, g3L17, g6L17, g7L17, g8L17]
    have kb := kpS_bnd hr di (by omega) n
    have za := zrN_in hr (row := ((digL (i : Int) st (2 * rc + 1).toNat).drop (1 : Int).toNat).take (2 * rc - (n : Int)).toNat) (take_in (drop_in di)) (by rw [List.length_take]; omega)
    have zb := zrN_in hr (row := ((digL (i : Int) st (2 * rc + 1).toNat).drop (0 : Int).toNat).take (2 * rc - (n : Int)).toNat) (take_in (drop_in di)) (by rw [List.length_take]; omega)
    refine ob_i (vInt_lss _ _ _) ?_
    refine cnd_d (fun hg18 => ?_) (fun hg18 => ?_)
    · skip
      have tn := hg18
      have ke := kpS_step (st := st) (rc := rc) (T := T) (d := digL (i : Int) st (2 * rc + 1).toNat) (n := n) rfl rfl
      have kb2 := kpS_bnd hr di (by omega) (n + 1)
      refine ob_i (op1.ldn rfl) ?_
      refine ob_i (vInt_sub (by omega) (by omega)) ?_
      refine ob_i (vInt_add (by omega) (by omega)) ?_
      obtain ⟨x19, eq20a, eq20b, eq20c, eq20d, hx190, hb21⟩ := ou13.sl.cut (lo := (1 : Int)) (hi := ((2 * rc + 1) - ((n : Int) + 1)) + 1) (by omega) (by omega) (by omega)
      refine ob_i (eq20a) ?_
      have ox19 : Ro eI H17 x19 (((digL (i : Int) st (2 * rc + 1).toNat).drop ((1 : Int)).toNat).take ((((2 * rc + 1) - ((n : Int) + 1)) + 1).toNat - ((1 : Int)).toNat)) := ⟨hx190, fun b hb => ou13.known b (hb21 b hb)⟩
      have ap1Xx19 : Apart p1 x19 := fun b h1 h2 => ap1Xu13 b h1 (hb21 b h2)
      refine ob_i (op1.ldn rfl) ?_
      refine ob_i (vInt_sub (by omega) (by omega)) ?_
      obtain ⟨x22, eq23a, eq23b, eq23c, eq23d, hx220, hb24⟩ := ou13.sl.cut (lo := (0 : Int)) (hi := (2 * rc + 1) - ((n : Int) + 1)) (by omega) (by omega) (by omega)
      refine ob_i (eq23c rfl) ?_
      have ox22 : Ro eI H17 x22 (((digL (i : Int) st (2 * rc + 1).toNat).drop ((0 : Int)).toNat).take (((2 * rc + 1) - ((n : Int) + 1)).toNat - ((0 : Int)).toNat)) := ⟨hx220, fun b hb => ou13.known b (hb24 b hb)⟩
      have ap1Xx22 : Apart p1 x22 := fun b h1 h2 => ap1Xu13 b h1 (hb24 b h2)
      refine C.impl_Rule_zeros hvt ox19.sl (by first | omega | assumption) (by exact take_in (drop_in di)) (by rw [List.length_take]; omega) (fun   H25    le26 => ?_)
      replace op1 := op1.le le26
      replace ou13 := ou13.le le26
      replace ox19 := ox19.le le26
      replace ox22 := ox22.le le26
      replace hvt := hvt.le le26
      replace lE := lE.trans le26
      refine ⟨le26, ?_⟩
      have zzq27 := zrN_in (T := T) hr (row := (((digL (i : Int) st (2 * rc + 1).toNat).drop ((1 : Int)).toNat).take ((((2 * rc + 1) - ((n : Int) + 1)) + 1).toNat - ((1 : Int)).toNat))) (by exact take_in (drop_in di)) (by rw [List.length_take]; omega)
      refine C.impl_Rule_zeros hvt ox22.sl (by first | omega | assumption) (by exact take_in (drop_in di)) (by rw [List.length_take]; omega) (fun   H28    le29 => ?_)
      replace op1 := op1.le le29
      replace ou13 := ou13.le le29
      replace ox19 := ox19.le le29
      replace ox22 := ox22.le le29
      replace hvt := hvt.le le29
      replace lE := lE.trans le29
      refine ⟨le29, ?_⟩
      have zzq30 := zrN_in (T := T) hr (row := (((digL (i : Int) st (2 * rc + 1).toNat).drop ((0 : Int)).toNat).take (((2 * rc + 1) - ((n : Int) + 1)).toNat - ((0 : Int)).toNat))) (by exact take_in (drop_in di)) (by rw [List.length_take]; omega)
      refine ob_i (vInt_sub (by omega) (by omega)) ?_
      refine ob_i (vInt_add (by omega) (by omega)) ?_
      refine ob_i (vInt_add (by omega) (by omega)) ?_
      exact nxt ((2 * rc).toNat - (n + 1)) (by omega) ⟨n + 1, rfl, by omega, g1L17, g3L17, g5L17, g6L17, (congrArg (Value.int .i64) (kpS_step (by omega) (by omega))), (congrArg (Value.int .i64) (by first | omega | rfl | (simp; done))), g12L17, g13L17, g14L17, op1, ou13, lE⟩
    · skip
      have tn := hg18
      obtain rfl : n = (2 * rc).toNat := by omega
      exact hJ15 _ _ ⟨g1L17, g3L17, g5L17, (g7L17.trans (congrArg (Value.int .i64) (by first | omega | rfl | (simp; done)))), g12L17, g13L17, g14L17, op1, ou13, lE⟩
  · skip
    have ti := hg9
    exact hJ7 _ _ ⟨op1, lE, (fun h hh => hm0 h (by omega))⟩
theorem C.spec_l03Keeps {p vt : Value} {st rc : Int} {T : List Int}  {H : Hp} {K : Value → Hp → Prop} (hp0 : Cel H p [(.int .i64 (st)), (.int .i64 (rc)), vt]) (hvt0 : Sl eI H vt T) (hr : ruleP st rc T)
    (hk : ∀ H', Le H H' → K (.bool (decide (keepP st rc T))) H') : HT prg I.spec_l03Keeps [p].toArray H K := by
  have lE := Le.refl H
  have hp := hp0
  have hvt := hvt0
  refine R.spec_l03Keeps ?_
  unfold F.spec_l03Keeps
  have hr1 := hr.1
  have hr2 := hr.2.1
  have hr3 := ruleP_len hr
  have hr4 := hr.2.2.2
  refine C.spec_l03Wide hp hvt (by first | omega | assumption) (by first | omega | assumption) ?_
  refine jn_i (fun σ' H' => Le H H' ∧ keepP st rc T) (fun σ1 H1 hP => ?_) (fun J1 hJ1 => ?_)
  · skip
    obtain ⟨lE, ho0⟩ := hP
    have hp := hp0.le lE
    have hvt := hvt0.le lE
    skip
    exact keq (K := K) (by rw [decide_eq_true (show (keepP st rc T) from by assumption)]) (hk   _    lE)
  refine ob_i (hp.nilC) ?_
  refine ob_i (hp.fa 2) ?_
  refine ob_i (hp.ld 2 rfl) ?_
  refine ob_i (hvt.len) ?_
  refine ⟨fun n' σ' H' => ∃ i : Nat, n' = T.length - i ∧ i ≤ T.length ∧ σ' 0 = p ∧ σ' 3 = (.int .i64 (2 * rc + 1)) ∧ σ' 14 = (.int .i64 (((T).length : Int))) ∧ σ' 15 = (.int .i64 ((i : Int))) ∧ Le H H' ∧ (∀ h : Nat, h < i → kpS st rc T (digL (h : Int) st (2 * rc + 1).toNat) (2 * rc).toNat = at_ 0 T (h : Int)),
    ⟨_, 0, rfl, by omega, rfl, rfl, rfl, (congrArg (Value.int .i64) (by first | omega | rfl | (simp; done))), lE, (fun h hh => by omega)⟩, ?_⟩
  rintro n2 σ2 H2 ⟨i, rfl, hiN, g0L2, g3L2, g14L2, g15L2, lE, hm0⟩
  have hp := hp0.le lE
  have hvt := hvt0.le lE
  try simp only [g0L2, g3L2, g14L2, g15L2]
  have dl := digL_len (i : Int) st (2 * rc + 1).toNat
  have di := digL_in (n := (i : Int)) (b := st) (k := (2 * rc + 1).toNat) (by omega)
  refine ob_i (vInt_lss _ _ _) ?_
  refine cnd_d (fun hg3 => ?_) (fun hg3 => ?_)
  · skip
    have ti := hg3
    refine jn_i (fun σ' H' => σ' 0 = p ∧ σ' 3 = (.int .i64 (2 * rc + 1)) ∧ σ' 14 = (.int .i64 (((T).length : Int))) ∧ σ' 15 = (.int .i64 ((i : Int))) ∧ Le H H' ∧ kpS st rc T (digL (i : Int) st (2 * rc + 1).toNat) (2 * rc).toNat = at_ 0 T (i : Int)) (fun σ4 H4 hP => ?_) (fun J4 hJ4 => ?_)
    · skip
      obtain ⟨g0L4, g3L4, g14L4, g15L4, lE, ho0⟩ := hP
      have hp := hp0.le lE
      have hvt := hvt0.le lE
      try simp only [g15L4]
      refine ob_i (vInt_add (by omega) (by omega)) ?_
      exact nxt (T.length - (i + 1)) (by omega) ⟨i + 1, rfl, by omega, g0L4, g3L4, g14L4, (congrArg (Value.int .i64) (by first | omega | rfl | (simp; done))), lE, (fun h hh => by by_cases eh : h = i; (rw [eh]; exact ho0); exact hm0 h (by omega))⟩
    refine ob_i (hp.nilC) ?_
    refine ob_i (hp.fa 0) ?_
    refine ob_i (hp.ld 0 rfl) ?_
    refine C.spec_l03Cells (by first | omega | assumption) (by first | omega | assumption) (by first | omega | assumption) (by first | omega | assumption) (by first | omega | assumption) (by first | omega | assumption) (fun  u7 H5 ou7 nn8  le6 => ?_)
    have nu7 : Nw H u7 := nn8.le lE
    replace hp := hp.le le6
    replace hvt := hvt.le le6
    replace lE := lE.trans le6
    refine ob_i (ou7.sl.ix (by omega) (by omega)) ?_
    refine ob_i (ou7.sl.ld 0 (by omega) (by omega)) ?_
    refine jn_i (fun σ' H' => σ' 0 = p ∧ σ' 3 = (.int .i64 (2 * rc + 1)) ∧ σ' 4 = (.int .i64 ((i : Int))) ∧ σ' 6 = (.int .i64 (kpS st rc T (digL (i : Int) st (2 * rc + 1).toNat) (2 * rc).toNat)) ∧ σ' 14 = (.int .i64 (((T).length : Int))) ∧ σ' 15 = (.int .i64 ((i : Int))) ∧ Own eI H' u7 (digL (i : Int) st (2 * rc + 1).toNat) ∧ Le H H') (fun σ9 H9 hP => ?_) (fun J9 hJ9 => ?_)
    · skip
      obtain ⟨g0L9, g3L9, g4L9, g6L9, g14L9, g15L9, ou7, lE⟩ := hP
      have hp := hp0.le lE
      have hvt := hvt0.le lE
      try simp only [g0L9, g4L9, g6L9]
      refine ob_i (hp.nilC) ?_
      refine ob_i (hp.fa 2) ?_
      refine ob_i (hp.ld 2 rfl) ?_
      refine ob_i (hvt.ix (by omega) (by omega)) ?_
      refine ob_i (hvt.ld 0 (by omega) (by omega)) ?_
      refine ob_i (vInt_neq _ _ _) ?_
      refine cnd_d (fun hg10 => ?_) (fun hg10 => ?_)
      · skip
        refine retK (K := K) (v' := (.bool false)) rfl ?_
        skip
        exact keq (K := K) (by rw [decide_eq_false (show ¬ (keepP st rc T) from by intro hh; exact hg10 (hh i (by omega)))]) (hk   _    lE)
      · skip
        exact hJ4 _ _ ⟨g0L9, g3L9, g14L9, g15L9, lE, (Decidable.not_not.mp hg10)⟩
    refine ⟨fun n' σ' H' => ∃ n : Nat, n' = (2 * rc).toNat - n ∧ n ≤ (2 * rc).toNat ∧ σ' 0 = p ∧ σ' 3 = (.int .i64 (2 * rc + 1)) ∧ σ' 4 = (.int .i64 ((i : Int))) ∧ σ' 5 = u7 ∧ σ' 6 = (.int .i64 (kpS st rc T (digL (i : Int) st (2 * rc + 1).toNat) n)) ∧ σ' 7 = (.int .i64 ((n : Int) + 1)) ∧ σ' 14 = (.int .i64 (((T).length : Int))) ∧ σ' 15 = (.int .i64 ((i : Int))) ∧ Own eI H' u7 (digL (i : Int) st (2 * rc + 1).toNat) ∧ Le H H',
      ⟨_, 0, rfl, by omega, g0L2, g3L2, rfl, rfl, rfl, (congrArg (Value.int .i64) (by first | omega | rfl | (simp; done))), g14L2, g15L2, ou7, lE⟩, ?_⟩
    rintro n11 σ11 H11 ⟨n, rfl, hnN, g0L11, g3L11, g4L11, g5L11, g6L11, g7L11, g14L11, g15L11, ou7, lE⟩
    have hp := hp0.le lE
    have hvt := hvt0.le lE
    try simp only [g0L11, g3L11, g5L11, g6L11, g7L11]
    have kb := kpS_bnd hr di (by omega) n
    have za := zrN_in hr (row := ((digL (i : Int) st (2 * rc + 1).toNat).drop (1 : Int).toNat).take (2 * rc - (n : Int)).toNat) (take_in (drop_in di)) (by rw [List.length_take]; omega)
    have zb := zrN_in hr (row := ((digL (i : Int) st (2 * rc + 1).toNat).drop (0 : Int).toNat).take (2 * rc - (n : Int)).toNat) (take_in (drop_in di)) (by rw [List.length_take]; omega)
    refine ob_i (vInt_lss _ _ _) ?_
    refine cnd_d (fun hg12 => ?_) (fun hg12 => ?_)
    · skip
      have tn := hg12
      have ke := kpS_step (st := st) (rc := rc) (T := T) (d := digL (i : Int) st (2 * rc + 1).toNat) (n := n) rfl rfl
      have kb2 := kpS_bnd hr di (by omega) (n + 1)
      refine C.spec_l03Behind hp hvt ou7.sl (by first | omega | assumption) (by first | omega | assumption) (by first | omega | assumption) (by first | omega | assumption) (by first | omega | assumption) (by first | omega | assumption) (by first | omega | assumption) (fun   H13    le14 => ?_)
      replace ou7 := ou7.le le14
      replace hp := hp.le le14
      replace hvt := hvt.le le14
      replace lE := lE.trans le14
      have zzq15 := zrN_in (T := T) hr (row := (((digL (i : Int) st (2 * rc + 1).toNat).drop (1 : Int).toNat).take (2 * rc + 1 - ((n : Int) + 1)).toNat)) (by exact take_in (drop_in di)) (by rw [List.length_take]; omega)
      refine C.spec_l03Behind hp hvt ou7.sl (by first | omega | assumption) (by first | omega | assumption) (by first | omega | assumption) (by first | omega | assumption) (by first | omega | assumption) (by first | omega | assumption) (by first | omega | assumption) (fun   H16    le17 => ?_)
      replace ou7 := ou7.le le17
      replace hp := hp.le le17
      replace hvt := hvt.le le17
      replace lE := lE.trans le17
      have zzq18 := zrN_in (T := T) hr (row := (((digL (i : Int) st (2 * rc + 1).toNat).drop (0 : Int).toNat).take (2 * rc + 1 - ((n : Int) + 1)).toNat)) (by exact take_in (drop_in di)) (by rw [List.length_take]; omega)
      refine ob_i (vInt_sub (by omega) (by omega)) ?_
      refine ob_i (vInt_add (by omega) (by omega)) ?_
      refine ob_i (vInt_add (by omega) (by omega)) ?_
      exact nxt ((2 * rc).toNat - (n + 1)) (by omega) ⟨n + 1, rfl, by omega, g0L11, g3L11, g4L11, g5L11, (congrArg (Value.int .i64) (kpS_step (by omega) (by omega))), (congrArg (Value.int .i64) (by first | omega | rfl | (simp; done))), g14L11, g15L11, ou7, lE⟩
    · skip
      have tn := hg12
      obtain rfl : n = (2 * rc).toNat := by omega
      exact hJ9 _ _ ⟨g0L11, g3L11, g4L11, (g6L11.trans (congrArg (Value.int .i64) (by first | omega | rfl | (simp; done)))), g14L11, g15L11, ou7, lE⟩
  · skip
    have ti := hg3
    exact hJ1 _ _ ⟨lE, (fun h hh => hm0 h (by omega))⟩
theorem C.impl_KeepsSum {vt : Value} {st rc : Int} {T : List Int}  {H : Hp} {K : Value → Hp → Prop} (hvt0 : Sl eI H vt T) (hr : ruleP st rc T)
    (hk : ∀ H', Le H H' → K (.tuple #[(.bool (decide (keepP st rc T))), (.bool true)]) H') : HT prg I.impl_KeepsSum [(.agg #[(.int .i64 (st)), (.int .i64 (rc)), vt])].toArray H K := by
  have lE := Le.refl H
  have hvt := hvt0
  refine R.impl_KeepsSum ?_
  unfold F.impl_KeepsSum
  have hr1 := hr.1
  have hr2 := hr.2.1
  have hr3 := ruleP_len hr
  have hr4 := hr.2.2.2
  refine nw_i (fun p1 H2 op1 nn3 le4 => ?_)
  have np1 : Nw H p1 := nn3.le lE
  replace hvt := hvt.le le4
  replace lE := lE.trans le4
  replace op1 : Cel H2 p1 [(.int .i64 (st)), (.int .i64 (rc)), vt] := op1
  refine ob_i (op1.ldn rfl) ?_
  refine C.impl_ValidRule hvt (by first | omega | assumption) (fun   H5    le6 => ?_)
  replace op1 := op1.le le6
  replace hvt := hvt.le le6
  replace lE := lE.trans le6
  refine ob_nd (fun hc7 => ?_) (fun hc7 => ?_)
  · skip
    refine cnd_f1 ?_
    refine ob_i (op1.ldn rfl) ?_
    refine C.impl_Rule_keepsSum hvt (by first | omega | assumption) (fun   H8    le9 => ?_)
    replace op1 := op1.le le9
    replace hvt := hvt.le le9
    replace lE := lE.trans le9
    skip
    exact hk   _    lE
  · skip
    exact absurd hc7 (fun h => h hr)
theorem C.spec_KeepsSum {vt : Value} {st rc : Int} {T : List Int}  {H : Hp} {K : Value → Hp → Prop} (hvt0 : Sl eI H vt T) (hr : ruleP st rc T)
    (hk : ∀ H', Le H H' → K (.tuple #[(.bool (decide (keepP st rc T))), (.bool true)]) H') : HT prg I.spec_KeepsSum [(.agg #[(.int .i64 (st)), (.int .i64 (rc)), vt])].toArray H K := by
  have lE := Le.refl H
  have hvt := hvt0
  refine R.spec_KeepsSum ?_
  unfold F.spec_KeepsSum
  have hr1 := hr.1
  have hr2 := hr.2.1
  have hr3 := ruleP_len hr
  have hr4 := hr.2.2.2
  refine nw_i (fun p1 H2 op1 nn3 le4 => ?_)
  have np1 : Nw H p1 := nn3.le lE
  replace hvt := hvt.le le4
  replace lE := lE.trans le4
  replace op1 : Cel H2 p1 [(.int .i64 (st)), (.int .i64 (rc)), vt] := op1
  refine C.spec_l02Is op1 hvt (by first | omega | assumption) (fun   H5    le6 => ?_)
  replace op1 := op1.le le6
  replace hvt := hvt.le le6
  replace lE := lE.trans le6
  refine ob_nd (fun hc7 => ?_) (fun hc7 => ?_)
  · skip
    refine cnd_f1 ?_
    refine C.spec_l03Keeps op1 hvt (by first | omega | assumption) (fun   H8    le9 => ?_)
    replace op1 := op1.le le9
    replace hvt := hvt.le le9
    replace lE := lE.trans le9
    skip
    exact hk   _    lE
  · skip
    exact absurd hc7 (fun h => h hr)
theorem C.impl_countWord {va vw : Value} {l : List Int}  {H : Hp} {K : Value → Hp → Prop} (hva0 : Sl eI H va l) (hvw0 : Sl eI H vw ([1] : List Int)) (hl : l.length ≤ 64)
    (hk : ∀ H', Le H H' → K (.int .i64 (onesL l)) H') : HT prg I.impl_countWord [va, vw].toArray H K := by
  have lE := Le.refl H
  have hva := hva0
  have hvw := hvw0
  refine R.impl_countWord ?_
  unfold F.impl_countWord
  refine jn_i (fun σ' H' => σ' 5 = (.int .i64 (onesL l)) ∧ Le H H') (fun σ1 H1 hP => ?_) (fun J1 hJ1 => ?_)
  · skip
    obtain ⟨g5L1, lE⟩ := hP
    have hva := hva0.le lE
    have hvw := hvw0.le lE
    try simp only [g5L1]
    skip
    exact hk   _    lE
  refine ob_i (hva.len) ?_
  refine ⟨fun n' σ' H' => ∃ i : Nat, n' = l.length - i ∧ i ≤ l.length ∧ σ' 0 = va ∧ σ' 1 = vw ∧ σ' 5 = (.int .i64 (onesF l i)) ∧ σ' 11 = (.int .i64 (((l).length : Int))) ∧ σ' 12 = (.int .i64 ((i : Int))) ∧ Le H H',
    ⟨_, 0, rfl, by omega, rfl, rfl, rfl, rfl, (congrArg (Value.int .i64) (by first | omega | rfl | (simp; done))), lE⟩, ?_⟩
  rintro n2 σ2 H2 ⟨i, rfl, hiN, g0L2, g1L2, g5L2, g11L2, g12L2, lE⟩
  have hva := hva0.le lE
  have hvw := hvw0.le lE
  try simp only [g0L2, g1L2, g5L2, g11L2, g12L2]
  have ob := onesF_bnd l i
  refine ob_i (vInt_lss _ _ _) ?_
  refine cnd_d (fun hg3 => ?_) (fun hg3 => ?_)
  · skip
    have ti := hg3
    refine jn_i (fun σ' H' => σ' 0 = va ∧ σ' 1 = vw ∧ σ' 5 = (.int .i64 (onesF l (i + 1))) ∧ σ' 11 = (.int .i64 (((l).length : Int))) ∧ σ' 12 = (.int .i64 ((i : Int))) ∧ Le H H') (fun σ4 H4 hP => ?_) (fun J4 hJ4 => ?_)
    · skip
      obtain ⟨g0L4, g1L4, g5L4, g11L4, g12L4, lE⟩ := hP
      have hva := hva0.le lE
      have hvw := hvw0.le lE
      try simp only [g12L4]
      refine ob_i (vInt_add (by omega) (by omega)) ?_
      exact nxt (l.length - (i + 1)) (by omega) ⟨i + 1, rfl, by omega, g0L4, g1L4, (g5L4.trans (congrArg (Value.int .i64) (by first | omega | rfl | (simp; done)))), g11L4, (congrArg (Value.int .i64) (by first | omega | rfl | (simp; done))), lE⟩
    refine jn_i (fun σ' H' => σ' 0 = va ∧ σ' 1 = vw ∧ σ' 5 = (.int .i64 (onesF l i)) ∧ σ' 7 = (.bool (decide (at_ 0 l (i : Int) = 1))) ∧ σ' 11 = (.int .i64 (((l).length : Int))) ∧ σ' 12 = (.int .i64 ((i : Int))) ∧ Le H H') (fun σ5 H5 hP => ?_) (fun J5 hJ5 => ?_)
    · skip
      obtain ⟨g0L5, g1L5, g5L5, g7L5, g11L5, g12L5, lE⟩ := hP
      have hva := hva0.le lE
      have hvw := hvw0.le lE
      try simp only [g5L5, g7L5]
      refine cnd_d (fun hg6 => ?_) (fun hg6 => ?_)
      · skip
        refine ob_i (vInt_add (by omega) (by omega)) ?_
        exact hJ4 _ _ ⟨g0L5, g1L5, (congrArg (Value.int .i64) (onesF_t hg6)), g11L5, g12L5, lE⟩
      · skip
        exact hJ4 _ _ ⟨g0L5, g1L5, (g5L5.trans (congrArg (Value.int .i64) (onesF_f hg6))), g11L5, g12L5, lE⟩
    refine ob_i (hvw.len) ?_
    refine ⟨fun n' σ' H' => ∃ j : Nat, n' = 1 - j ∧ j ≤ 1 ∧ σ' 0 = va ∧ σ' 1 = vw ∧ σ' 5 = (.int .i64 (onesF l i)) ∧ σ' 6 = (.int .i64 ((i : Int))) ∧ σ' 7 = (.bool (decide (j = 0 ∨ at_ 0 l (i : Int) = 1))) ∧ σ' 11 = (.int .i64 (((l).length : Int))) ∧ σ' 12 = (.int .i64 ((i : Int))) ∧ σ' 15 = vw ∧ σ' 16 = (.int .i64 (((([1] : List Int)).length : Int))) ∧ σ' 17 = (.int .i64 ((j : Int))) ∧ Le H H',
      ⟨_, 0, rfl, by omega, g0L2, g1L2, g5L2, rfl, (congrArg Value.bool (decide_eq_true (Or.inl rfl)).symm), g11L2, g12L2, rfl, rfl, (congrArg (Value.int .i64) (by first | omega | rfl | (simp; done))), lE⟩, ?_⟩
    rintro n7 σ7 H7 ⟨j, rfl, hjN, g0L7, g1L7, g5L7, g6L7, g7L7, g11L7, g12L7, g15L7, g16L7, g17L7, lE⟩
    have hva := hva0.le lE
    have hvw := hvw0.le lE
    try simp only [g0L7, g6L7, g7L7, g15L7, g16L7, g17L7]
    have o1 : ([1] : List Int).length = 1 := rfl
    refine ob_i (vInt_lss _ _ _) ?_
    refine cnd_d (fun hg8 => ?_) (fun hg8 => ?_)
    · skip
      have tj := hg8
      refine ob_i (hvw.ix (by omega) (by omega)) ?_
      refine ob_i (hvw.ld 0 (by omega) (by omega)) ?_
      by_cases hc9 : j = 0 ∨ at_ 0 l (i : Int) = 1
      · skip
        refine gop_e (decide_eq_true hc9) ?_
        refine gop_rt ?_
        refine gop_e (decide_eq_true hc9) ?_
        refine gop_rt ?_
        refine gop_e (decide_eq_true hc9) ?_
        refine gop_rt ?_
        refine gop_e (decide_eq_true hc9) ?_
        refine gop_rt ?_
        refine ob_i (vInt_add (by omega) (by omega)) ?_
        refine gop_e (decide_eq_true hc9) ?_
        refine gop_rt ?_
        refine gop_e (decide_eq_true hc9) ?_
        refine gop_rt ?_
        refine ob_i (hva.len) ?_
        refine gop_e (decide_eq_true hc9) ?_
        refine gop_rt ?_
        have rm10 := And.intro (Int.emod_nonneg ((i : Int) + (j : Int)) (b := ((l).length : Int)) (by omega)) (Int.emod_lt_of_pos ((i : Int) + (j : Int)) (b := ((l).length : Int)) (by omega))
        refine ob_i (vInt_remN (by omega) (by omega)) ?_
        refine gop_e (decide_eq_true hc9) ?_
        refine gop_rt ?_
        refine ob_i (hva.ix (by omega) (by omega)) ?_
        refine gop_e (decide_eq_true hc9) ?_
        refine gop_rt ?_
        refine ob_i (hva.ld 0 (by omega) (by omega)) ?_
        refine gop_e (decide_eq_true hc9) ?_
        refine gop_rt ?_
        refine gop_e (decide_eq_true hc9) ?_
        refine gop_rt ?_
        refine ob_i (vInt_eql _ _ _) ?_
        refine ob_i (vPick_et (decide_eq_true hc9) _ _) ?_
        refine ob_i (vInt_add (by omega) (by omega)) ?_
        exact nxt (1 - (j + 1)) (by omega) ⟨j + 1, rfl, by omega, g0L7, g1L7, g5L7, g6L7, (congrArg Value.bool (decide_eq_decide.mpr (by obtain rfl : j = 0 := (by omega); exact ones_step (by omega)))), g11L7, g12L7, g15L7, g16L7, (congrArg (Value.int .i64) (by first | omega | rfl | (simp; done))), lE⟩
      · skip
        refine gop_e (decide_eq_false hc9) ?_
        refine gop_sf ?_
        refine gop_e (decide_eq_false hc9) ?_
        refine gop_sf ?_
        refine gop_e (decide_eq_false hc9) ?_
        refine gop_sf ?_
        refine gop_e (decide_eq_false hc9) ?_
        refine gop_sf ?_
        refine gop_e (decide_eq_false hc9) ?_
        refine gop_sf ?_
        refine gop_e (decide_eq_false hc9) ?_
        refine gop_sf ?_
        refine gop_e (decide_eq_false hc9) ?_
        refine gop_sf ?_
        refine gop_e (decide_eq_false hc9) ?_
        refine gop_sf ?_
        refine gop_e (decide_eq_false hc9) ?_
        refine gop_sf ?_
        refine gop_e (decide_eq_false hc9) ?_
        refine gop_sf ?_
        refine gop_e (decide_eq_false hc9) ?_
        refine gop_sf ?_
        refine ob_i (vPick_ef (decide_eq_false hc9) _ _) ?_
        refine ob_i (vInt_add (by omega) (by omega)) ?_
        exact nxt (1 - (j + 1)) (by omega) ⟨j + 1, rfl, by omega, g0L7, g1L7, g5L7, g6L7, (by exfalso; omega), g11L7, g12L7, g15L7, g16L7, (congrArg (Value.int .i64) (by first | omega | rfl | (simp; done))), lE⟩
    · skip
      have tj := hg8
      obtain rfl : j = 1 := by omega
      exact hJ5 _ _ ⟨g0L7, g1L7, g5L7, (g7L7.trans (congrArg Value.bool (decide_eq_decide.mpr (by omega)))), g11L7, g12L7, lE⟩
  · skip
    have ti := hg3
    obtain rfl : i = l.length := by omega
    exact hJ1 _ _ ⟨(g5L2.trans (congrArg (Value.int .i64) (by first | omega | rfl | (simp; done)))), lE⟩
theorem C.spec_l03Often {va vw : Value} {l : List Int}  {H : Hp} {K : Value → Hp → Prop} (hva0 : Sl eI H va l) (hvw0 : Sl eI H vw ([1] : List Int)) (hl : l.length ≤ 64)
    (hk : ∀ H', Le H H' → K (.int .i64 (onesL l)) H') : HT prg I.spec_l03Often [va, vw].toArray H K := by
  have lE := Le.refl H
  have hva := hva0
  have hvw := hvw0
  refine R.spec_l03Often ?_
  unfold F.spec_l03Often
  refine jn_i (fun σ' H' => σ' 5 = (.int .i64 (onesL l)) ∧ Le H H') (fun σ1 H1 hP => ?_) (fun J1 hJ1 => ?_)
  · skip
    obtain ⟨g5L1, lE⟩ := hP
    have hva := hva0.le lE
    have hvw := hvw0.le lE
    try simp only [g5L1]
    skip
    exact hk   _    lE
  refine ob_i (hva.len) ?_
  refine ⟨fun n' σ' H' => ∃ i : Nat, n' = l.length - i ∧ i ≤ l.length ∧ σ' 0 = va ∧ σ' 1 = vw ∧ σ' 5 = (.int .i64 (onesF l i)) ∧ σ' 10 = (.int .i64 (((l).length : Int))) ∧ σ' 11 = (.int .i64 ((i : Int))) ∧ Le H H',
    ⟨_, 0, rfl, by omega, rfl, rfl, rfl, rfl, (congrArg (Value.int .i64) (by first | omega | rfl | (simp; done))), lE⟩, ?_⟩
  rintro n2 σ2 H2 ⟨i, rfl, hiN, g0L2, g1L2, g5L2, g10L2, g11L2, lE⟩
  have hva := hva0.le lE
  have hvw := hvw0.le lE
  try simp only [g0L2, g1L2, g5L2, g10L2, g11L2]
  have ob := onesF_bnd l i
  refine ob_i (vInt_lss _ _ _) ?_
  refine cnd_d (fun hg3 => ?_) (fun hg3 => ?_)
  · skip
    have ti := hg3
    refine jn_i (fun σ' H' => σ' 0 = va ∧ σ' 1 = vw ∧ σ' 5 = (.int .i64 (onesF l (i + 1))) ∧ σ' 10 = (.int .i64 (((l).length : Int))) ∧ σ' 11 = (.int .i64 ((i : Int))) ∧ Le H H') (fun σ4 H4 hP => ?_) (fun J4 hJ4 => ?_)
    · skip
      obtain ⟨g0L4, g1L4, g5L4, g10L4, g11L4, lE⟩ := hP
      have hva := hva0.le lE
      have hvw := hvw0.le lE
      try simp only [g11L4]
      refine ob_i (vInt_add (by omega) (by omega)) ?_
      exact nxt (l.length - (i + 1)) (by omega) ⟨i + 1, rfl, by omega, g0L4, g1L4, (g5L4.trans (congrArg (Value.int .i64) (by first | omega | rfl | (simp; done)))), g10L4, (congrArg (Value.int .i64) (by first | omega | rfl | (simp; done))), lE⟩
    refine jn_i (fun σ' H' => σ' 0 = va ∧ σ' 1 = vw ∧ σ' 5 = (.int .i64 (onesF l i)) ∧ σ' 7 = (.bool (decide (at_ 0 l (i : Int) = 1))) ∧ σ' 10 = (.int .i64 (((l).length : Int))) ∧ σ' 11 = (.int .i64 ((i : Int))) ∧ Le H H') (fun σ5 H5 hP => ?_) (fun J5 hJ5 => ?_)
    · skip
      obtain ⟨g0L5, g1L5, g5L5, g7L5, g10L5, g11L5, lE⟩ := hP
      have hva := hva0.le lE
      have hvw := hvw0.le lE
      try simp only [g5L5, g7L5]
      refine cnd_d (fun hg6 => ?_) (fun hg6 => ?_)
      · skip
        refine ob_i (vInt_add (by omega) (by omega)) ?_
        exact hJ4 _ _ ⟨g0L5, g1L5, (congrArg (Value.int .i64) (onesF_t hg6)), g10L5, g11L5, lE⟩
      · skip
        exact hJ4 _ _ ⟨g0L5, g1L5, (g5L5.trans (congrArg (Value.int .i64) (onesF_f hg6))), g10L5, g11L5, lE⟩
    refine ob_i (hvw.len) ?_
    refine ⟨fun n' σ' H' => ∃ j : Nat, n' = 1 - j ∧ j ≤ 1 ∧ σ' 0 = va ∧ σ' 1 = vw ∧ σ' 5 = (.int .i64 (onesF l i)) ∧ σ' 6 = (.int .i64 ((i : Int))) ∧ σ' 7 = (.bool (decide (j = 0 ∨ at_ 0 l (i : Int) = 1))) ∧ σ' 10 = (.int .i64 (((l).length : Int))) ∧ σ' 11 = (.int .i64 ((i : Int))) ∧ σ' 15 = (.int .i64 (((([1] : List Int)).length : Int))) ∧ σ' 16 = (.int .i64 ((j : Int))) ∧ Le H H',
      ⟨_, 0, rfl, by omega, g0L2, g1L2, g5L2, rfl, (congrArg Value.bool (decide_eq_true (Or.inl rfl)).symm), g10L2, g11L2, rfl, (congrArg (Value.int .i64) (by first | omega | rfl | (simp; done))), lE⟩, ?_⟩
    rintro n7 σ7 H7 ⟨j, rfl, hjN, g0L7, g1L7, g5L7, g6L7, g7L7, g10L7, g11L7, g15L7, g16L7, lE⟩
    have hva := hva0.le lE
    have hvw := hvw0.le lE
    try simp only [g0L7, g1L7, g6L7, g7L7, g15L7, g16L7]
    have o1 : ([1] : List Int).length = 1 := rfl
    refine ob_i (vInt_lss _ _ _) ?_
    refine cnd_d (fun hg8 => ?_) (fun hg8 => ?_)
    · skip
      have tj := hg8
      by_cases hc9 : j = 0 ∨ at_ 0 l (i : Int) = 1
      · skip
        refine gop_e (decide_eq_true hc9) ?_
        refine gop_rt ?_
        refine gop_e (decide_eq_true hc9) ?_
        refine gop_rt ?_
        refine gop_e (decide_eq_true hc9) ?_
        refine gop_rt ?_
        refine gop_e (decide_eq_true hc9) ?_
        refine gop_rt ?_
        refine ob_i (vInt_add (by omega) (by omega)) ?_
        refine gop_e (decide_eq_true hc9) ?_
        refine gop_rt ?_
        refine gop_e (decide_eq_true hc9) ?_
        refine gop_rt ?_
        refine ob_i (hva.len) ?_
        refine gop_e (decide_eq_true hc9) ?_
        refine gop_rt ?_
        have rm10 := And.intro (Int.emod_nonneg ((i : Int) + (j : Int)) (b := ((l).length : Int)) (by omega)) (Int.emod_lt_of_pos ((i : Int) + (j : Int)) (b := ((l).length : Int)) (by omega))
        refine ob_i (vInt_remN (by omega) (by omega)) ?_
        refine gop_e (decide_eq_true hc9) ?_
        refine gop_rt ?_
        refine ob_i (hva.ix (by omega) (by omega)) ?_
        refine gop_e (decide_eq_true hc9) ?_
        refine gop_rt ?_
        refine ob_i (hva.ld 0 (by omega) (by omega)) ?_
        refine gop_e (decide_eq_true hc9) ?_
        refine gop_rt ?_
        refine gop_e (decide_eq_true hc9) ?_
        refine gop_rt ?_
        refine gop_e (decide_eq_true hc9) ?_
        refine gop_rt ?_
        refine ob_i (hvw.ix (by omega) (by omega)) ?_
        refine gop_e (decide_eq_true hc9) ?_
        refine gop_rt ?_
        refine ob_i (hvw.ld 0 (by omega) (by omega)) ?_
        refine gop_e (decide_eq_true hc9) ?_
        refine gop_rt ?_
        refine ob_i (vInt_eql _ _ _) ?_
        refine ob_i (vPick_et (decide_eq_true hc9) _ _) ?_
        refine ob_i (vInt_add (by omega) (by omega)) ?_
        exact nxt (1 - (j + 1)) (by omega) ⟨j + 1, rfl, by omega, g0L7, g1L7, g5L7, g6L7, (congrArg Value.bool (decide_eq_decide.mpr (by obtain rfl : j = 0 := (by omega); exact ones_step (by omega)))), g10L7, g11L7, g15L7, (congrArg (Value.int .i64) (by first | omega | rfl | (simp; done))), lE⟩
      · skip
        refine gop_e (decide_eq_false hc9) ?_
        refine gop_sf ?_
        refine gop_e (decide_eq_false hc9) ?_
        refine gop_sf ?_
        refine gop_e (decide_eq_false hc9) ?_
        refine gop_sf ?_
        refine gop_e (decide_eq_false hc9) ?_
        refine gop_sf ?_
        refine gop_e (decide_eq_false hc9) ?_
        refine gop_sf ?_
        refine gop_e (decide_eq_false hc9) ?_
        refine gop_sf ?_
        refine gop_e (decide_eq_false hc9) ?_
        refine gop_sf ?_
        refine gop_e (decide_eq_false hc9) ?_
        refine gop_sf ?_
        refine gop_e (decide_eq_false hc9) ?_
        refine gop_sf ?_
        refine gop_e (decide_eq_false hc9) ?_
        refine gop_sf ?_
        refine gop_e (decide_eq_false hc9) ?_
        refine gop_sf ?_
        refine gop_e (decide_eq_false hc9) ?_
        refine gop_sf ?_
        refine gop_e (decide_eq_false hc9) ?_
        refine gop_sf ?_
        refine gop_e (decide_eq_false hc9) ?_
        refine gop_sf ?_
        refine ob_i (vPick_ef (decide_eq_false hc9) _ _) ?_
        refine ob_i (vInt_add (by omega) (by omega)) ?_
        exact nxt (1 - (j + 1)) (by omega) ⟨j + 1, rfl, by omega, g0L7, g1L7, g5L7, g6L7, (by exfalso; omega), g10L7, g11L7, g15L7, (congrArg (Value.int .i64) (by first | omega | rfl | (simp; done))), lE⟩
    · skip
      have tj := hg8
      obtain rfl : j = 1 := by omega
      exact hJ5 _ _ ⟨g0L7, g1L7, g5L7, (g7L7.trans (congrArg Value.bool (decide_eq_decide.mpr (by omega)))), g10L7, g11L7, lE⟩
  · skip
    have ti := hg3
    obtain rfl : i = l.length := by omega
    exact hJ1 _ _ ⟨(g5L2.trans (congrArg (Value.int .i64) (by first | omega | rfl | (simp; done)))), lE⟩
theorem C.impl_Rule_mostCells {vt : Value} {st rc a b : Int} {T : List Int}  {H : Hp} {K : Value → Hp → Prop} (hvt0 : Sl eI H vt T) (s2 : st = 2)
    (hk : ∀ H', Le H H' → K (.int .i64 (a)) H') : HT prg I.impl_Rule_mostCells [(.agg #[(.int .i64 (st)), (.int .i64 (rc)), vt]), (.int .i64 (a)), (.int .i64 (b))].toArray H K := by
  have lE := Le.refl H
  have hvt := hvt0
  refine R.impl_Rule_mostCells ?_
  unfold F.impl_Rule_mostCells
  refine nw_i (fun p1 H2 op1 nn3 le4 => ?_)
  have np1 : Nw H p1 := nn3.le lE
  replace hvt := hvt.le le4
  replace lE := lE.trans le4
  replace op1 : Cel H2 p1 [(.int .i64 (st)), (.int .i64 (rc)), vt] := op1
  refine ob_i (op1.fa 0) ?_
  refine ob_i (op1.ld 0 rfl) ?_
  refine ob_i (vInt_eql _ _ _) ?_
  refine cnd_d (fun hg5 => ?_) (fun hg5 => ?_)
  · skip
    skip
    exact hk   _    lE
  · skip
    exact absurd hg5 (fun h => h s2)
theorem C.impl_worded {vt vw : Value} {st rc : Int} {T : List Int}  {H : Hp} {K : Value → Hp → Prop} (hvt0 : Sl eI H vt T) (hvw0 : Sl eI H vw ([1] : List Int)) (hr : ruleP st rc T) (s2 : st = 2)
    (hk : ∀ H', Le H H' → K (.bool true) H') : HT prg I.impl_worded [(.agg #[(.int .i64 (st)), (.int .i64 (rc)), vt]), vw].toArray H K := by
  have lE := Le.refl H
  have hvt := hvt0
  have hvw := hvw0
  refine R.impl_worded ?_
  unfold F.impl_worded
  have hr1 := hr.1
  have hr2 := hr.2.1
  have hr3 := ruleP_len hr
  have hr4 := hr.2.2.2
  have o1 : ([1] : List Int).length = 1 := rfl
  refine nw_i (fun p1 H2 op1 nn3 le4 => ?_)
  have np1 : Nw H p1 := nn3.le lE
  replace hvt := hvt.le le4
  replace hvw := hvw.le le4
  replace lE := lE.trans le4
  replace op1 : Cel H2 p1 [(.int .i64 (st)), (.int .i64 (rc)), vt] := op1
  refine ob_i (op1.ldn rfl) ?_
  refine C.impl_ValidRule hvt (by first | omega | assumption) (fun   H5    le6 => ?_)
  replace op1 := op1.le le6
  replace hvt := hvt.le le6
  replace hvw := hvw.le le6
  replace lE := lE.trans le6
  by_cases hc7 : ruleP st rc T
  · skip
    refine gop_e (decide_eq_true hc7) ?_
    refine gop_rt ?_
    refine gop_e (decide_eq_true hc7) ?_
    refine gop_rt ?_
    refine ob_i (op1.fa 0) ?_
    refine gop_e (decide_eq_true hc7) ?_
    refine gop_rt ?_
    refine ob_i (op1.ld 0 rfl) ?_
    refine gop_e (decide_eq_true hc7) ?_
    refine gop_rt ?_
    refine ob_i (vInt_sub (by omega) (by omega)) ?_
    refine gop_e (decide_eq_true hc7) ?_
    refine gop_rt ?_
    refine C.impl_areMany hvw (by first | omega | assumption) ?_
    refine ob_i (vPick_et (decide_eq_true hc7) _ _) ?_
    rw [decide_eq_true (show (1 ≤ (([1] : List Int).length : Int) ∧ (([1] : List Int).length : Int) ≤ 12) ∧ ∀ x ∈ ([1] : List Int), 0 ≤ x ∧ x ≤ (st - 1) from ⟨⟨by simp, by simp⟩, fun x hx => by simp at hx; subst hx; omega⟩)]
    exact hk _ lE
  · skip
    exact absurd hc7 (fun h => h hr)
theorem C.spec_l03Word {p vt vw : Value} {st rc : Int} {T : List Int}  {H : Hp} {K : Value → Hp → Prop} (hp0 : Cel H p [(.int .i64 (st)), (.int .i64 (rc)), vt]) (hvt0 : Sl eI H vt T) (hvw0 : Sl eI H vw ([1] : List Int)) (hr : ruleP st rc T) (s2 : st = 2)
    (hk : ∀ H', Le H H' → K (.bool true) H') : HT prg I.spec_l03Word [p, vw].toArray H K := by
  have lE := Le.refl H
  have hp := hp0
  have hvt := hvt0
  have hvw := hvw0
  refine R.spec_l03Word ?_
  unfold F.spec_l03Word
  have hr1 := hr.1
  have hr2 := hr.2.1
  have hr3 := ruleP_len hr
  have hr4 := hr.2.2.2
  have o1 : ([1] : List Int).length = 1 := rfl
  refine C.spec_l02Is hp hvt (by first | omega | assumption) (fun   H1    le2 => ?_)
  replace hp := hp.le le2
  replace hvt := hvt.le le2
  replace hvw := hvw.le le2
  replace lE := lE.trans le2
  refine ob_nd (fun hc3 => ?_) (fun hc3 => ?_)
  · skip
    refine gop_rf ?_
    refine gop_rf ?_
    refine ob_i (hvw.len) ?_
    refine gop_rf ?_
    refine ob_i (vInt_lss _ _ _) ?_
    refine ob_i (vPick_f _ _) ?_
    by_cases hc4 : (((([1] : List Int)).length : Int)) < 1
    · skip
      refine gop_e (decide_eq_true hc4) ?_
      refine gop_st ?_
      refine gop_e (decide_eq_true hc4) ?_
      refine gop_st ?_
      refine gop_e (decide_eq_true hc4) ?_
      refine gop_st ?_
      refine ob_i (vPick_et (decide_eq_true hc4) _ _) ?_
      refine cnd_t1 ?_
      exfalso; omega
    · skip
      refine gop_e (decide_eq_false hc4) ?_
      refine gop_rf ?_
      refine gop_e (decide_eq_false hc4) ?_
      refine gop_rf ?_
      refine ob_i (hvw.len) ?_
      refine gop_e (decide_eq_false hc4) ?_
      refine gop_rf ?_
      refine ob_i (vInt_gtr _ _ _) ?_
      refine ob_i (vPick_ef (decide_eq_false hc4) _ _) ?_
      refine cnd_d (fun hg5 => ?_) (fun hg5 => ?_)
      · skip
        exfalso; omega
      · skip
        refine jn_i (fun σ' H' => Le H H' ∧ True) (fun σ6 H6 hP => ?_) (fun J6 hJ6 => ?_)
        · skip
          obtain ⟨lE, ho0⟩ := hP
          have hp := hp0.le lE
          have hvt := hvt0.le lE
          have hvw := hvw0.le lE
          skip
          exact hk   _    lE
        refine ob_i (hvw.len) ?_
        refine ⟨fun n' σ' H' => ∃ i : Nat, n' = 1 - i ∧ i ≤ 1 ∧ σ' 0 = p ∧ σ' 1 = vw ∧ σ' 20 = (.int .i64 (((([1] : List Int)).length : Int))) ∧ σ' 21 = (.int .i64 ((i : Int))) ∧ Le H H',
          ⟨_, 0, rfl, by omega, rfl, rfl, rfl, (congrArg (Value.int .i64) (by first | omega | rfl | (simp; done))), lE⟩, ?_⟩
        rintro n7 σ7 H7 ⟨i, rfl, hiN, g0L7, g1L7, g20L7, g21L7, lE⟩
        have hp := hp0.le lE
        have hvt := hvt0.le lE
        have hvw := hvw0.le lE
        try simp only [g0L7, g1L7, g20L7, g21L7]
        refine ob_i (vInt_lss _ _ _) ?_
        refine cnd_d (fun hg8 => ?_) (fun hg8 => ?_)
        · skip
          have ti := hg8
          have i00 : i = 0 := by omega
          have a0 : at_ 0 ([1] : List Int) (i : Int) = (1 : Int) := by rw [i00]; rfl
          refine ob_i (hvw.ix (by omega) (by omega)) ?_
          refine ob_i (hvw.ld 0 (by omega) (by omega)) ?_
          refine ob_i (hp.nilC) ?_
          refine ob_i (hp.fa 0) ?_
          refine ob_i (hp.ld 0 rfl) ?_
          refine ob_i (vInt_sub (by omega) (by omega)) ?_
          refine C.spec_l00In  ?_
          refine ⟨Le.refl _, ?_⟩
          refine ob_nd (fun hc9 => ?_) (fun hc9 => ?_)
          · skip
            refine cnd_f1 ?_
            refine ob_i (vInt_add (by omega) (by omega)) ?_
            exact nxt (1 - (i + 1)) (by omega) ⟨i + 1, rfl, by omega, g0L7, g1L7, g20L7, (congrArg (Value.int .i64) (by first | omega | rfl | (simp; done))), lE⟩
          · skip
            refine cnd_t1 ?_
            refine retK (K := K) (v' := (.bool false)) rfl ?_
            exfalso; omega
        · skip
          have ti := hg8
          exact hJ6 _ _ ⟨lE, trivial⟩
  · skip
    exact absurd hc3 (fun h => h hr)
theorem C.spec_l03Small {p vt : Value} {n st rc : Int} {T : List Int}  {H : Hp} {K : Value → Hp → Prop} (hp0 : Cel H p [(.int .i64 (st)), (.int .i64 (rc)), vt]) (hvt0 : Sl eI H vt T) (hr : ruleP st rc T) (s2 : st = 2) (n0 : 2 * rc + 1 ≤ n) (n1 : n ≤ 10)
    (hk : ∀ H', Le H H' → K (.bool true) H') : HT prg I.spec_l03Small [p, (.int .i64 (n)), (.int .i64 (10)), (.int .i64 (6))].toArray H K := by
  have lE := Le.refl H
  have hp := hp0
  have hvt := hvt0
  refine R.spec_l03Small ?_
  unfold F.spec_l03Small
  have hr1 := hr.1
  have hr2 := hr.2.1
  have hr3 := ruleP_len hr
  have hr4 := hr.2.2.2
  refine C.spec_l02Is hp hvt (by first | omega | assumption) (fun   H1    le2 => ?_)
  replace hp := hp.le le2
  replace hvt := hvt.le le2
  replace lE := lE.trans le2
  refine ob_nd (fun hc3 => ?_) (fun hc3 => ?_)
  · skip
    refine cnd_f1 ?_
    refine ob_i (hp.nilC) ?_
    refine ob_i (hp.fa 0) ?_
    refine ob_i (hp.ld 0 rfl) ?_
    refine ob_i (vInt_eql _ _ _) ?_
    refine cnd_d (fun hg4 => ?_) (fun hg4 => ?_)
    · skip
      exact absurd hg4 (by omega)
    · skip
      refine C.spec_l03Wide hp hvt (by first | omega | assumption) (by first | omega | assumption) ?_
      refine C.spec_l00In  ?_
      rw [decide_eq_true (show (2 * rc + 1) ≤ n ∧ n ≤ 10 from by omega)]
      exact hk _ lE
  · skip
    exact absurd hc3 (fun h => h hr)
theorem C.impl_KeepsCount {vt vw : Value} {st rc n : Int} {T : List Int}  {H : Hp} {K : Value → Hp → Prop} (hvt0 : Sl eI H vt T) (hvw0 : Sl eI H vw ([1] : List Int)) (hr : ruleP st rc T) (s2 : st = 2) (n0 : 2 * rc + 1 ≤ n) (n1 : n ≤ 10)
    (hk : ∀ H', Le H H' → K (.tuple #[(.bool (decide (kcP st rc T n))), (.bool true)]) H') : HT prg I.impl_KeepsCount [(.agg #[(.int .i64 (st)), (.int .i64 (rc)), vt]), vw, (.int .i64 (n))].toArray H K := by
  have lE := Le.refl H
  have hvt := hvt0
  have hvw := hvw0
  refine R.impl_KeepsCount ?_
  unfold F.impl_KeepsCount
  have hr1 := hr.1
  have hr2 := hr.2.1
  have hr3 := ruleP_len hr
  have hr4 := hr.2.2.2
  have o1 : ([1] : List Int).length = 1 := rfl
  have pb := pwr_bnd (b := st) (n := n) (by omega) (by omega) (by omega)
  refine nw_i (fun p1 H2 op1 nn3 le4 => ?_)
  have np1 : Nw H p1 := nn3.le lE
  replace hvt := hvt.le le4
  replace hvw := hvw.le le4
  replace lE := lE.trans le4
  replace op1 : Cel H2 p1 [(.int .i64 (st)), (.int .i64 (rc)), vt] := op1
  refine ob_i (op1.ldn rfl) ?_
  refine C.impl_worded hvt hvw (by first | omega | assumption) (by first | omega | assumption) (fun   H5    le6 => ?_)
  replace op1 := op1.le le6
  replace hvt := hvt.le le6
  replace hvw := hvw.le le6
  replace lE := lE.trans le6
  refine ⟨le6, ?_⟩
  refine ob_i (a := .bool false) rfl ?_
  refine gop_rf ?_
  refine gop_rf ?_
  refine ob_i (hvw.len) ?_
  refine gop_rf ?_
  refine ob_i (vInt_gtr _ _ _) ?_
  refine ob_i (vPick_f _ _) ?_
  by_cases hc7 : 3 < (((([1] : List Int)).length : Int))
  · skip
    refine gop_e (decide_eq_true hc7) ?_
    refine gop_st ?_
    refine gop_e (decide_eq_true hc7) ?_
    refine gop_st ?_
    refine gop_e (decide_eq_true hc7) ?_
    refine gop_st ?_
    refine gop_e (decide_eq_true hc7) ?_
    refine gop_st ?_
    refine gop_e (decide_eq_true hc7) ?_
    refine gop_st ?_
    refine gop_e (decide_eq_true hc7) ?_
    refine gop_st ?_
    refine gop_e (decide_eq_true hc7) ?_
    refine gop_st ?_
    refine gop_e (decide_eq_true hc7) ?_
    refine gop_st ?_
    refine gop_e (decide_eq_true hc7) ?_
    refine gop_st ?_
    refine gop_e (decide_eq_true hc7) ?_
    refine gop_st ?_
    refine ob_i (vPick_et (decide_eq_true hc7) _ _) ?_
    refine cnd_t1 ?_
    exfalso; omega
  · skip
    refine gop_e (decide_eq_false hc7) ?_
    refine gop_rf ?_
    refine gop_e (decide_eq_false hc7) ?_
    refine gop_rf ?_
    refine ob_i (op1.ldn rfl) ?_
    refine gop_e (decide_eq_false hc7) ?_
    refine gop_rf ?_
    refine gop_e (decide_eq_false hc7) ?_
    refine gop_rf ?_
    refine ob_i (hvw.len) ?_
    refine gop_e (decide_eq_false hc7) ?_
    refine gop_rf ?_
    refine ob_i (op1.ldn rfl) ?_
    refine gop_e (decide_eq_false hc7) ?_
    refine gop_rf ?_
    refine C.impl_Rule_cells hvt (by first | omega | assumption) (by first | omega | assumption) (fun   H8    le9 => ?_)
    replace op1 := op1.le le9
    replace hvt := hvt.le le9
    replace hvw := hvw.le le9
    replace lE := lE.trans le9
    refine ⟨le9, ?_⟩
    refine gop_e (decide_eq_false hc7) ?_
    refine gop_rf ?_
    refine ob_i (vMx_max _ _ _) ?_
    refine gop_e (decide_eq_false hc7) ?_
    refine gop_rf ?_
    refine C.impl_Rule_mostCells hvt (by first | omega | assumption) (fun   H10    le11 => ?_)
    replace op1 := op1.le le11
    replace hvt := hvt.le le11
    replace hvw := hvw.le le11
    replace lE := lE.trans le11
    refine ⟨le11, ?_⟩
    refine gop_e (decide_eq_false hc7) ?_
    refine gop_rf ?_
    refine C.impl_within  ?_
    refine ⟨Le.refl _, ?_⟩
    refine gop_e (decide_eq_false hc7) ?_
    refine gop_rf ?_
    refine ob_nd (fun hc12 => ?_) (fun hc12 => ?_)
    · skip
      refine ob_i (vPick_ef (decide_eq_false hc7) _ _) ?_
      refine cnd_f1 ?_
      refine jn_i (fun σ' H' => Cel H' p1 [(.int .i64 (st)), (.int .i64 (rc)), vt] ∧ Le H H' ∧ kcP st rc T n) (fun σ13 H13 hP => ?_) (fun J13 hJ13 => ?_)
      · skip
        obtain ⟨op1, lE, ho0⟩ := hP
        have hvt := hvt0.le lE
        have hvw := hvw0.le lE
        skip
        exact keq (K := K) (by rw [decide_eq_true (show (kcP st rc T n) from by assumption)]) (hk   _    lE)
      refine ob_i (op1.fa 0) ?_
      refine ob_i (op1.ld 0 rfl) ?_
      refine C.impl_raised (by first | omega | assumption) (by first | omega | assumption) (by first | omega | assumption) (by first | omega | assumption) (fun   H14    le15 => ?_)
      replace op1 := op1.le le15
      replace hvt := hvt.le le15
      replace hvw := hvw.le le15
      replace lE := lE.trans le15
      refine ⟨fun n' σ' H' => ∃ k : Nat, n' = (pwr st n).toNat - k ∧ k ≤ (pwr st n).toNat ∧ σ' 1 = vw ∧ σ' 2 = (.int .i64 (n)) ∧ σ' 3 = p1 ∧ σ' 34 = (.int .i64 (pwr st n)) ∧ σ' 35 = (.int .i64 ((k : Int))) ∧ Cel H' p1 [(.int .i64 (st)), (.int .i64 (rc)), vt] ∧ Le H H' ∧ (∀ h : Nat, h < k → onesL (digL (h : Int) st n.toNat) = onesL (stpL st rc T (digL (h : Int) st n.toNat))),
        ⟨_, 0, rfl, by omega, rfl, rfl, rfl, rfl, (congrArg (Value.int .i64) (by first | omega | rfl | (simp; done))), op1, lE, (fun h hh => by omega)⟩, ?_⟩
      rintro n16 σ16 H16 ⟨k, rfl, hkN, g1L16, g2L16, g3L16, g34L16, g35L16, op1, lE, hm0⟩
      have hvt := hvt0.le lE
      have hvw := hvw0.le lE
      try simp only [g1L16, g2L16, g3L16, g34L16, g35L16]
      have dl := digL_len (k : Int) st n.toNat
      have di := digL_in (n := (k : Int)) (b := st) (k := n.toNat) (by omega)
      have sl := stpL_len st rc T (digL (k : Int) st n.toNat)
      have ob1 := onesF_bnd (digL (k : Int) st n.toNat) (digL (k : Int) st n.toNat).length
      have ob2 := onesF_bnd (stpL st rc T (digL (k : Int) st n.toNat)) (stpL st rc T (digL (k : Int) st n.toNat)).length
      refine ob_i (vInt_lss _ _ _) ?_
      refine cnd_d (fun hg17 => ?_) (fun hg17 => ?_)
      · skip
        have tk := hg17
        refine ob_i (op1.fa 0) ?_
        refine ob_i (op1.ld 0 rfl) ?_
        refine C.impl_digitsOf (by first | omega | assumption) (by first | omega | assumption) (by first | omega | assumption) (by first | omega | assumption) (by first | omega | assumption) (by first | omega | assumption) (fun  u20 H18 ou20 nn21  le19 => ?_)
        have ap1Xu20 : Apart p1 u20 := op1.apart nn21
        have nu20 : Nw H u20 := nn21.le lE
        replace op1 := op1.le le19
        replace hvt := hvt.le le19
        replace hvw := hvw.le le19
        replace lE := lE.trans le19
        refine ob_i (op1.ldn rfl) ?_
        refine C.impl_countWord ou20.sl hvw (by first | omega | assumption) (fun   H22    le23 => ?_)
        replace op1 := op1.le le23
        replace ou20 := ou20.le le23
        replace hvt := hvt.le le23
        replace hvw := hvw.le le23
        replace lE := lE.trans le23
        refine ⟨le23, ?_⟩
        refine C.impl_Rule_step hvt ou20.sl (by first | omega | assumption) (by first | omega | assumption) (by first | omega | assumption) (by first | omega | assumption) (fun  u26 H24 ou26 nn27  le25 => ?_)
        have ap1Xu26 : Apart p1 u26 := op1.apart nn27
        have au20Xu26 : Apart u20 u26 := ou20.apart nn27
        have nu26 : Nw H u26 := nn27.le lE
        replace op1 := op1.le le25
        replace ou20 := ou20.le le25
        replace hvt := hvt.le le25
        replace hvw := hvw.le le25
        replace lE := lE.trans le25
        refine ⟨le25, ?_⟩
        refine C.impl_countWord ou26.sl hvw (by first | omega | assumption) (fun   H28    le29 => ?_)
        replace op1 := op1.le le29
        replace ou20 := ou20.le le29
        replace ou26 := ou26.le le29
        replace hvt := hvt.le le29
        replace hvw := hvw.le le29
        replace lE := lE.trans le29
        refine ⟨le29, ?_⟩
        refine ob_i (vInt_neq _ _ _) ?_
        refine cnd_d (fun hg30 => ?_) (fun hg30 => ?_)
        · skip
          refine retK (K := K) (v' := (.tuple #[(.bool false), (.bool true)])) rfl ?_
          skip
          exact keq (K := K) (by rw [decide_eq_false (show ¬ (kcP st rc T n) from by intro hh; exact hg30 (hh k (by omega)))]) (hk   _    lE)
        · skip
          refine ob_i (vInt_add (by omega) (by omega)) ?_
          exact nxt ((pwr st n).toNat - (k + 1)) (by omega) ⟨k + 1, rfl, by omega, g1L16, g2L16, g3L16, g34L16, (congrArg (Value.int .i64) (by first | omega | rfl | (simp; done))), op1, lE, (fun h hh => by by_cases eh : h = k; (rw [eh]; exact (Decidable.not_not.mp hg30)); exact hm0 h (by omega))⟩
      · skip
        have tk := hg17
        exact hJ13 _ _ ⟨op1, lE, (fun h hh => hm0 h (by omega))⟩
    · skip
      refine ob_i (vPick_ef (decide_eq_false hc7) _ _) ?_
      refine cnd_t1 ?_
      exfalso; omega
theorem C.spec_KeepsCount {vt vw : Value} {st rc n : Int} {T : List Int}  {H : Hp} {K : Value → Hp → Prop} (hvt0 : Sl eI H vt T) (hvw0 : Sl eI H vw ([1] : List Int)) (hr : ruleP st rc T) (s2 : st = 2) (n0 : 2 * rc + 1 ≤ n) (n1 : n ≤ 10)
    (hk : ∀ H', Le H H' → K (.tuple #[(.bool (decide (kcP st rc T n))), (.bool true)]) H') : HT prg I.spec_KeepsCount [(.agg #[(.int .i64 (st)), (.int .i64 (rc)), vt]), vw, (.int .i64 (n))].toArray H K := by
  have lE := Le.refl H
  have hvt := hvt0
  have hvw := hvw0
  refine R.spec_KeepsCount ?_
  unfold F.spec_KeepsCount
  have hr1 := hr.1
  have hr2 := hr.2.1
  have hr3 := ruleP_len hr
  have hr4 := hr.2.2.2
  have o1 : ([1] : List Int).length = 1 := rfl
  have pb := pwr_bnd (b := st) (n := n) (by omega) (by omega) (by omega)
  refine nw_i (fun p1 H2 op1 nn3 le4 => ?_)
  have np1 : Nw H p1 := nn3.le lE
  replace hvt := hvt.le le4
  replace hvw := hvw.le le4
  replace lE := lE.trans le4
  replace op1 : Cel H2 p1 [(.int .i64 (st)), (.int .i64 (rc)), vt] := op1
  refine C.spec_l03Small op1 hvt (by first | omega | assumption) (by first | omega | assumption) (by first | omega | assumption) (by first | omega | assumption) (fun   H5    le6 => ?_)
  replace op1 := op1.le le6
  replace hvt := hvt.le le6
  replace hvw := hvw.le le6
  replace lE := lE.trans le6
  refine ob_i (a := .bool false) rfl ?_
  refine gop_rf ?_
  refine gop_rf ?_
  refine C.spec_l03Word op1 hvt hvw (by first | omega | assumption) (by first | omega | assumption) (fun   H7    le8 => ?_)
  replace op1 := op1.le le8
  replace hvt := hvt.le le8
  replace hvw := hvw.le le8
  replace lE := lE.trans le8
  refine gop_rf ?_
  refine ob_i (a := .bool false) rfl ?_
  refine ob_i (vPick_f _ _) ?_
  refine gop_rf ?_
  refine gop_rf ?_
  refine ob_i (hvw.len) ?_
  refine gop_rf ?_
  refine ob_i (vInt_gtr _ _ _) ?_
  refine ob_i (vPick_f _ _) ?_
  by_cases hc9 : 3 < (((([1] : List Int)).length : Int))
  · skip
    refine gop_e (decide_eq_true hc9) ?_
    refine gop_st ?_
    refine gop_e (decide_eq_true hc9) ?_
    refine gop_st ?_
    refine gop_e (decide_eq_true hc9) ?_
    refine gop_st ?_
    refine gop_e (decide_eq_true hc9) ?_
    refine gop_st ?_
    refine ob_i (vPick_et (decide_eq_true hc9) _ _) ?_
    refine cnd_t1 ?_
    exfalso; omega
  · skip
    refine gop_e (decide_eq_false hc9) ?_
    refine gop_rf ?_
    refine gop_e (decide_eq_false hc9) ?_
    refine gop_rf ?_
    refine ob_i (hvw.len) ?_
    refine gop_e (decide_eq_false hc9) ?_
    refine gop_rf ?_
    refine gop_e (decide_eq_false hc9) ?_
    refine gop_rf ?_
    refine ob_i (vInt_gtr _ _ _) ?_
    refine ob_i (vPick_ef (decide_eq_false hc9) _ _) ?_
    refine cnd_d (fun hg10 => ?_) (fun hg10 => ?_)
    · skip
      exfalso; omega
    · skip
      refine jn_i (fun σ' H' => Cel H' p1 [(.int .i64 (st)), (.int .i64 (rc)), vt] ∧ Le H H' ∧ kcP st rc T n) (fun σ11 H11 hP => ?_) (fun J11 hJ11 => ?_)
      · skip
        obtain ⟨op1, lE, ho0⟩ := hP
        have hvt := hvt0.le lE
        have hvw := hvw0.le lE
        skip
        exact keq (K := K) (by rw [decide_eq_true (show (kcP st rc T n) from by assumption)]) (hk   _    lE)
      refine ⟨fun n' σ' H' => ∃ k : Nat, n' = (pwr st n).toNat - k ∧ k ≤ (pwr st n).toNat ∧ σ' 1 = vw ∧ σ' 2 = (.int .i64 (n)) ∧ σ' 3 = p1 ∧ σ' 8 = (.int .i64 ((k : Int))) ∧ Cel H' p1 [(.int .i64 (st)), (.int .i64 (rc)), vt] ∧ Le H H' ∧ (∀ h : Nat, h < k → onesL (digL (h : Int) st n.toNat) = onesL (stpL st rc T (digL (h : Int) st n.toNat))),
        ⟨_, 0, rfl, by omega, rfl, rfl, rfl, (congrArg (Value.int .i64) (by first | omega | rfl | (simp; done))), op1, lE, (fun h hh => by omega)⟩, ?_⟩
      rintro n12 σ12 H12 ⟨k, rfl, hkN, g1L12, g2L12, g3L12, g8L12, op1, lE, hm0⟩
      have hvt := hvt0.le lE
      have hvw := hvw0.le lE
      try simp only [g1L12, g2L12, g3L12, g8L12]
      have dl := digL_len (k : Int) st n.toNat
      have di := digL_in (n := (k : Int)) (b := st) (k := n.toNat) (by omega)
      have sl := stpL_len st rc T (digL (k : Int) st n.toNat)
      have ob1 := onesF_bnd (digL (k : Int) st n.toNat) (digL (k : Int) st n.toNat).length
      have ob2 := onesF_bnd (stpL st rc T (digL (k : Int) st n.toNat)) (stpL st rc T (digL (k : Int) st n.toNat)).length
      refine ob_i (op1.fa 0) ?_
      refine ob_i (op1.ld 0 rfl) ?_
      refine C.spec_l03Power (by first | omega | assumption) (by first | omega | assumption) (by first | omega | assumption) (by first | omega | assumption) (fun   H13    le14 => ?_)
      replace op1 := op1.le le14
      replace hvt := hvt.le le14
      replace hvw := hvw.le le14
      replace lE := lE.trans le14
      refine ob_i (vInt_lss _ _ _) ?_
      refine cnd_d (fun hg15 => ?_) (fun hg15 => ?_)
      · skip
        have tk := hg15
        refine ob_i (op1.fa 0) ?_
        refine ob_i (op1.ld 0 rfl) ?_
        refine C.spec_l03Cells (by first | omega | assumption) (by first | omega | assumption) (by first | omega | assumption) (by first | omega | assumption) (by first | omega | assumption) (by first | omega | assumption) (fun  u18 H16 ou18 nn19  le17 => ?_)
        have ap1Xu18 : Apart p1 u18 := op1.apart nn19
        have nu18 : Nw H u18 := nn19.le lE
        replace op1 := op1.le le17
        replace hvt := hvt.le le17
        replace hvw := hvw.le le17
        replace lE := lE.trans le17
        refine C.spec_l02Step op1 hvt ou18.sl (by first | omega | assumption) (by first | omega | assumption) (by first | omega | assumption) (by first | omega | assumption) (fun  u22 H20 ou22 nn23  le21 => ?_)
        have ap1Xu22 : Apart p1 u22 := op1.apart nn23
        have au18Xu22 : Apart u18 u22 := ou18.apart nn23
        have nu22 : Nw H u22 := nn23.le lE
        replace op1 := op1.le le21
        replace ou18 := ou18.le le21
        replace hvt := hvt.le le21
        replace hvw := hvw.le le21
        replace lE := lE.trans le21
        refine C.spec_l03Often ou22.sl hvw (by first | omega | assumption) (fun   H24    le25 => ?_)
        replace op1 := op1.le le25
        replace ou18 := ou18.le le25
        replace ou22 := ou22.le le25
        replace hvt := hvt.le le25
        replace hvw := hvw.le le25
        replace lE := lE.trans le25
        refine C.spec_l03Often ou18.sl hvw (by first | omega | assumption) (fun   H26    le27 => ?_)
        replace op1 := op1.le le27
        replace ou18 := ou18.le le27
        replace ou22 := ou22.le le27
        replace hvt := hvt.le le27
        replace hvw := hvw.le le27
        replace lE := lE.trans le27
        refine ob_i (vInt_neq _ _ _) ?_
        refine cnd_d (fun hg28 => ?_) (fun hg28 => ?_)
        · skip
          refine retK (K := K) (v' := (.tuple #[(.bool false), (.bool true)])) rfl ?_
          skip
          exact keq (K := K) (by rw [decide_eq_false (show ¬ (kcP st rc T n) from by intro hh; exact hg28 (hh k (by omega)).symm)]) (hk   _    lE)
        · skip
          refine ob_i (vInt_add (by omega) (by omega)) ?_
          exact nxt ((pwr st n).toNat - (k + 1)) (by omega) ⟨k + 1, rfl, by omega, g1L12, g2L12, g3L12, (congrArg (Value.int .i64) (by first | omega | rfl | (simp; done))), op1, lE, (fun h hh => by by_cases eh : h = k; (rw [eh]; exact (Decidable.not_not.mp hg28).symm); exact hm0 h (by omega))⟩
      · skip
        have tk := hg15
        exact hJ11 _ _ ⟨op1, lE, (fun h hh => hm0 h (by omega))⟩
theorem C.impl_sumOf {va : Value} {l : List Int}  {H : Hp} {K : Value → Hp → Prop} (hva0 : Sl eI H va l) (he : ∀ x ∈ l, 0 ≤ x ∧ x ≤ 2) (hl : l.length ≤ 1000)
    (hk : ∀ H', Le H H' → K (.int .i64 (numL 1 l)) H') : HT prg I.impl_sumOf [va].toArray H K := by
  have lE := Le.refl H
  have hva := hva0
  refine R.impl_sumOf ?_
  unfold F.impl_sumOf
  refine jn_i (fun σ' H' => σ' 3 = (.int .i64 (numL 1 l)) ∧ Le H H') (fun σ1 H1 hP => ?_) (fun J1 hJ1 => ?_)
  · skip
    obtain ⟨g3L1, lE⟩ := hP
    have hva := hva0.le lE
    try simp only [g3L1]
    skip
    exact hk   _    lE
  refine ob_i (hva.len) ?_
  refine ⟨fun n' σ' H' => ∃ i : Nat, n' = l.length - i ∧ i ≤ l.length ∧ σ' 3 = (.int .i64 (numL 1 (l.take i))) ∧ σ' 6 = va ∧ σ' 7 = (.int .i64 (((l).length : Int))) ∧ σ' 8 = (.int .i64 ((i : Int))) ∧ Le H H',
    ⟨_, 0, rfl, by omega, (congrArg (Value.int .i64) (numL_nil 1).symm), rfl, rfl, (congrArg (Value.int .i64) (by first | omega | rfl | (simp; done))), lE⟩, ?_⟩
  rintro n2 σ2 H2 ⟨i, rfl, hiN, g3L2, g6L2, g7L2, g8L2, lE⟩
  have hva := hva0.le lE
  try simp only [g3L2, g6L2, g7L2, g8L2]
  have sb := sum_bnd (m := 2) (l := l.take i) (take_in he)
  have lt : (l.take i).length = i := by rw [List.length_take]; omega
  refine ob_i (vInt_lss _ _ _) ?_
  refine cnd_d (fun hg3 => ?_) (fun hg3 => ?_)
  · skip
    have ti := hg3
    have ea := he _ (at_mem 0 l (i := (i : Int)) (by omega) (by omega))
    refine ob_i (hva.ix (by omega) (by omega)) ?_
    refine ob_i (hva.ld 0 (by omega) (by omega)) ?_
    refine ob_i (vInt_add (by omega) (by omega)) ?_
    refine ob_i (vInt_add (by omega) (by omega)) ?_
    exact nxt (l.length - (i + 1)) (by omega) ⟨i + 1, rfl, by omega, (congrArg (Value.int .i64) (by rw [numL_take (by omega), Int.mul_one])), g6L2, g7L2, (congrArg (Value.int .i64) (by first | omega | rfl | (simp; done))), lE⟩
  · skip
    have ti := hg3
    obtain rfl : i = l.length := by omega
    exact hJ1 _ _ ⟨(g3L2.trans (congrArg (Value.int .i64) (by rw [List.take_length]))), lE⟩
theorem C.impl_Rule_ends {vt : Value} {st rc : Int} {T : List Int}  {H : Hp} {K : Value → Hp → Prop} (hvt0 : Sl eI H vt T) (hr : ruleP st rc T)
    (hk : ∀ H', Le H H' → K (.int .i64 (pwr st (2 * rc))) H') : HT prg I.impl_Rule_ends [(.agg #[(.int .i64 (st)), (.int .i64 (rc)), vt])].toArray H K := by
  have lE := Le.refl H
  have hvt := hvt0
  refine R.impl_Rule_ends ?_
  unfold F.impl_Rule_ends
  have hr1 := hr.1
  have hr2 := hr.2.1
  have hr3 := ruleP_len hr
  have hr4 := hr.2.2.2
  refine nw_i (fun p1 H2 op1 nn3 le4 => ?_)
  have np1 : Nw H p1 := nn3.le lE
  replace hvt := hvt.le le4
  replace lE := lE.trans le4
  replace op1 : Cel H2 p1 [(.int .i64 (st)), (.int .i64 (rc)), vt] := op1
  refine ob_i (op1.fa 0) ?_
  refine ob_i (op1.ld 0 rfl) ?_
  refine ob_i (op1.ldn rfl) ?_
  refine C.impl_Rule_cells hvt (by first | omega | assumption) (by first | omega | assumption) (fun   H5    le6 => ?_)
  replace op1 := op1.le le6
  replace hvt := hvt.le le6
  replace lE := lE.trans le6
  refine ⟨le6, ?_⟩
  refine ob_i (vInt_sub (by omega) (by omega)) ?_
  refine C.impl_raised (by first | omega | assumption) (by first | omega | assumption) (by first | omega | assumption) (by first | omega | assumption) (fun   H7    le8 => ?_)
  replace op1 := op1.le le8
  replace hvt := hvt.le le8
  replace lE := lE.trans le8
  refine ⟨le8, ?_⟩
  skip
  exact keq (K := K) (by rw [show ((pwr st ((2 * rc + 1) - 1)) : Int) = (pwr st (2 * rc)) from by congr 1; omega]) (hk   _    lE)
theorem C.impl_FlowOf {vt : Value} {st rc : Int} {T : List Int}  {H : Hp} {K : Value → Hp → Prop} (hvt0 : Sl eI H vt T) (hr : ruleP st rc T)
    (hk1 : 1 ≤ rc ∧ keepP st rc T → ∀ u1 H', Own eI H' u1 (flwL st rc T) → Nw H u1 → Le H H' → K (.tuple #[u1, (.bool true)]) H')
    (hk2 : ¬ (1 ≤ rc ∧ keepP st rc T) → ∀ H', Le H H' → K (.tuple #[(.slice none 0 0), (.bool false)]) H') : HT prg I.impl_FlowOf [(.agg #[(.int .i64 (st)), (.int .i64 (rc)), vt])].toArray H K := by
  have lE := Le.refl H
  have hvt := hvt0
  refine R.impl_FlowOf ?_
  unfold F.impl_FlowOf
  have hr1 := hr.1
  have hr2 := hr.2.1
  have hr3 := ruleP_len hr
  have hr4 := hr.2.2.2
  have pb := pwr_bnd (b := st) (n := 2 * rc) (by omega) (by omega) (by omega)
  refine nw_i (fun p1 H2 op1 nn3 le4 => ?_)
  have np1 : Nw H p1 := nn3.le lE
  replace hvt := hvt.le le4
  replace lE := lE.trans le4
  replace op1 : Cel H2 p1 [(.int .i64 (st)), (.int .i64 (rc)), vt] := op1
  refine ob_i (op1.ldn rfl) ?_
  refine C.impl_ValidRule hvt (by first | omega | assumption) (fun   H5    le6 => ?_)
  replace op1 := op1.le le6
  replace hvt := hvt.le le6
  replace lE := lE.trans le6
  refine ob_nd (fun hc7 => ?_) (fun hc7 => ?_)
  · skip
    refine gop_rf ?_
    refine ob_i (op1.fa 1) ?_
    refine gop_rf ?_
    refine ob_i (op1.ld 1 rfl) ?_
    refine gop_rf ?_
    refine ob_i (vInt_eql _ _ _) ?_
    refine ob_i (vPick_f _ _) ?_
    by_cases hc8 : rc = 0
    · skip
      refine gop_e (decide_eq_true hc8) ?_
      refine gop_st ?_
      refine gop_e (decide_eq_true hc8) ?_
      refine gop_st ?_
      refine gop_e (decide_eq_true hc8) ?_
      refine gop_st ?_
      refine ob_i (vPick_et (decide_eq_true hc8) _ _) ?_
      refine cnd_t1 ?_
      skip
      exact hk2 (by intro h; first | omega | exact absurd h.2 (by assumption))  _    lE
    · skip
      refine gop_e (decide_eq_false hc8) ?_
      refine gop_rf ?_
      refine ob_i (op1.ldn rfl) ?_
      refine gop_e (decide_eq_false hc8) ?_
      refine gop_rf ?_
      refine C.impl_Rule_keepsSum hvt (by first | omega | assumption) (fun   H9    le10 => ?_)
      replace op1 := op1.le le10
      replace hvt := hvt.le le10
      replace lE := lE.trans le10
      refine gop_e (decide_eq_false hc8) ?_
      refine gop_rf ?_
      refine ob_nd (fun hc11 => ?_) (fun hc11 => ?_)
      · skip
        refine ob_i (vPick_ef (decide_eq_false hc8) _ _) ?_
        refine cnd_f1 ?_
        refine ob_i (op1.ldn rfl) ?_
        refine C.impl_Rule_cells hvt (by first | omega | assumption) (by first | omega | assumption) (fun   H12    le13 => ?_)
        replace op1 := op1.le le13
        replace hvt := hvt.le le13
        replace lE := lE.trans le13
        refine bS_nil (enc := eI) (fun u14 H15 ou14 nn16 kk17 le18 => ?_)
        have ap1Xu14 : Apart p1 u14 := op1.apart nn16
        have nu14 : Nw H u14 := nn16.le lE
        replace op1 := op1.le le18
        replace hvt := hvt.le le18
        replace lE := lE.trans le18
        refine jn_i (fun σ' H' => ∃ u, σ' 5 = u ∧ Cel H' p1 [(.int .i64 (st)), (.int .i64 (rc)), vt] ∧ Own eI H' u (flwL st rc T) ∧ Nw H u ∧ Apart p1 u ∧ Le H H') (fun σ19 H19 hP => ?_) (fun J19 hJ19 => ?_)
        · skip
          obtain ⟨u, g5L19, op1, ou, nu, ap1Xu, lE⟩ := hP
          have hvt := hvt0.le lE
          try simp only [g5L19]
          skip
          exact hk1 (by exact ⟨by omega, by assumption⟩) u _ ou nu  lE
        refine ob_i (op1.ldn rfl) ?_
        refine C.impl_Rule_ends hvt (by first | omega | assumption) (fun   H20    le21 => ?_)
        replace op1 := op1.le le21
        replace ou14 := ou14.le le21
        replace hvt := hvt.le le21
        replace lE := lE.trans le21
        refine ⟨fun n' σ' H' => ∃ i : Nat, n' = (pwr st (2 * rc)).toNat - i ∧ i ≤ (pwr st (2 * rc)).toNat ∧ ∃ u, σ' 1 = p1 ∧ σ' 4 = (.int .i64 (2 * rc + 1)) ∧ σ' 5 = u ∧ σ' 27 = (.int .i64 (pwr st (2 * rc))) ∧ σ' 28 = (.int .i64 ((i : Int))) ∧ Cel H' p1 [(.int .i64 (st)), (.int .i64 (rc)), vt] ∧ Own eI H' u (flwF st rc T i) ∧ Nw H u ∧ Apart p1 u ∧ Le H H',
          ⟨_, 0, rfl, by omega, u14, rfl, rfl, rfl, rfl, (congrArg (Value.int .i64) (by first | omega | rfl | (simp; done))), op1, (Own.cast (by first | rfl | (simp; done)) ou14), nu14, ap1Xu14, lE⟩, ?_⟩
        rintro n22 σ22 H22 ⟨i, rfl, hiN, u, g1L22, g4L22, g5L22, g27L22, g28L22, op1, ou, nu, ap1Xu, lE⟩
        have hvt := hvt0.le lE
        try simp only [g1L22, g4L22, g5L22, g27L22, g28L22]
        have fl := flwF_len st rc T i
        have dl := digL_len (i : Int) st (2 * rc).toNat
        have di := digL_in (n := (i : Int)) (b := st) (k := (2 * rc).toNat) (by omega)
        refine ob_i (vInt_lss _ _ _) ?_
        refine cnd_d (fun hg23 => ?_) (fun hg23 => ?_)
        · skip
          have ti := hg23
          refine jn_i (fun σ' H' => ∃ u, σ' 1 = p1 ∧ σ' 4 = (.int .i64 (2 * rc + 1)) ∧ σ' 5 = u ∧ σ' 27 = (.int .i64 (pwr st (2 * rc))) ∧ σ' 28 = (.int .i64 ((i : Int))) ∧ Cel H' p1 [(.int .i64 (st)), (.int .i64 (rc)), vt] ∧ Own eI H' u (flwF st rc T (i + 1)) ∧ Nw H u ∧ Apart p1 u ∧ Le H H') (fun σ24 H24 hP => ?_) (fun J24 hJ24 => ?_)
          · skip
            obtain ⟨u, g1L24, g4L24, g5L24, g27L24, g28L24, op1, ou, nu, ap1Xu, lE⟩ := hP
            have hvt := hvt0.le lE
            try simp only [g28L24]
            refine ob_i (vInt_add (by omega) (by omega)) ?_
            exact nxt ((pwr st (2 * rc)).toNat - (i + 1)) (by omega) ⟨i + 1, rfl, by omega, u, g1L24, g4L24, g5L24, g27L24, (congrArg (Value.int .i64) (by first | omega | rfl | (simp; done))), op1, ou, nu, ap1Xu, lE⟩
          refine ob_i (op1.fa 0) ?_
          refine ob_i (op1.ld 0 rfl) ?_
          refine ob_i (vInt_sub (by omega) (by omega)) ?_
          refine C.impl_digitsOf (by first | omega | assumption) (by first | omega | assumption) (by first | omega | assumption) (by first | omega | assumption) (by first | omega | assumption) (by first | omega | assumption) (fun  u27 H25 ou27 nn28  le26 => ?_)
          have ap1Xu27 : Apart p1 u27 := op1.apart nn28
          have auXu27 : Apart u u27 := ou.apart nn28
          have nu27 : Nw H u27 := nn28.le lE
          replace op1 := op1.le le26
          replace ou := ou.le le26
          replace hvt := hvt.le le26
          replace lE := lE.trans le26
          replace ou27 : Own eI H25 u27 (digL (i : Int) st (2 * rc).toNat) := Own.cast (by rw [show (2 * rc + 1 - 1 : Int) = 2 * rc by omega]) ou27
          refine ob_i (op1.fa 1) ?_
          refine ob_i (op1.ld 1 rfl) ?_
          obtain ⟨x29, eq30a, eq30b, eq30c, eq30d, hx290, hb31⟩ := ou27.sl.cut (lo := (0 : Int)) (hi := rc) (by omega) (by omega) (by omega)
          refine ob_i (eq30c rfl) ?_
          have ox29 : Ro eI H25 x29 (((digL (i : Int) st (2 * rc).toNat).drop ((0 : Int)).toNat).take ((rc).toNat - ((0 : Int)).toNat)) := ⟨hx290, fun b hb => ou27.known b (hb31 b hb)⟩
          have ap1Xx29 : Apart p1 x29 := fun b h1 h2 => ap1Xu27 b h1 (hb31 b h2)
          have auXx29 : Apart u x29 := fun b h1 h2 => auXu27 b h1 (hb31 b h2)
          refine C.impl_sumOf ox29.sl (by intro x hx; have := take_in (drop_in di) x hx; omega) (by rw [List.length_take]; omega) (fun   H32    le33 => ?_)
          replace op1 := op1.le le33
          replace ou := ou.le le33
          replace ou27 := ou27.le le33
          replace ox29 := ox29.le le33
          replace hvt := hvt.le le33
          replace lE := lE.trans le33
          refine jn_i (fun σ' H' => σ' 1 = p1 ∧ σ' 4 = (.int .i64 (2 * rc + 1)) ∧ σ' 5 = u ∧ σ' 8 = (.int .i64 (flS st rc T (digL (i : Int) st (2 * rc).toNat) (2 * rc).toNat)) ∧ σ' 27 = (.int .i64 (pwr st (2 * rc))) ∧ σ' 28 = (.int .i64 ((i : Int))) ∧ Cel H' p1 [(.int .i64 (st)), (.int .i64 (rc)), vt] ∧ Own eI H' u (flwF st rc T i) ∧ Own eI H' u27 (digL (i : Int) st (2 * rc).toNat) ∧ Ro eI H' x29 (((digL (i : Int) st (2 * rc).toNat).drop ((0 : Int)).toNat).take ((rc).toNat - ((0 : Int)).toNat)) ∧ Le H H') (fun σ34 H34 hP => ?_) (fun J34 hJ34 => ?_)
          · skip
            obtain ⟨g1L34, g4L34, g5L34, g8L34, g27L34, g28L34, op1, ou, ou27, ox29, lE⟩ := hP
            have hvt := hvt0.le lE
            try simp only [g5L34, g8L34]
            refine bS_i (enc := eI) (l := [flS st rc T (digL (i : Int) st (2 * rc).toNat) (2 * rc).toNat]) (by omega) rfl (by kernel_rfl) (fun u35 H36 ou35 nn37 le39 => ?_)
            have ap1Xu35 : Apart p1 u35 := op1.apart nn37
            have auXu35 : Apart u u35 := ou.apart nn37
            have au27Xu35 : Apart u27 u35 := ou27.apart nn37
            have ax29Xu35 : Apart x29 u35 := ox29.apart nn37
            have nu35 : Nw H u35 := nn37.le lE
            replace op1 := op1.le le39
            replace ou := ou.le le39
            replace ou27 := ou27.le le39
            replace ox29 := ox29.le le39
            replace hvt := hvt.le le39
            replace lE := lE.trans le39
            refine apd_any ou ou35.sl (fun _ => rfl) (by omega) (by first | omega | (simp only [List.length_cons, List.length_nil, List.length_append, List.length_replicate, List.length_map, List.length_range]; omega)) (fun u43 H40 ou43 off41 hb42 => ?_)
            have ap1Xu43 : Apart p1 u43 := Apart.ap2 op1.known ap1Xu hb42
            have au27Xu43 : Apart u27 u43 := Apart.ap2 ou27.known auXu27.symm hb42
            have ax29Xu43 : Apart x29 u43 := Apart.ap2 ox29.known auXx29.symm hb42
            have au35Xu43 : Apart u35 u43 := Apart.ap2 ou35.known auXu35.symm hb42
            have nu43 : Nw H u43 := Nw.ap2 nu lE hb42
            replace op1 := op1.off off41 ap1Xu
            replace ou27 := ou27.off off41 auXu27.symm
            replace ox29 := ox29.off off41 auXx29.symm
            replace ou35 := ou35.off off41 auXu35.symm
            replace hvt := hvt0.le (off41.le lE nu)
            replace lE := off41.le lE nu
            exact hJ24 _ _ ⟨u43, g1L34, g4L34, rfl, g27L34, g28L34, op1, (Own.cast (flwF_succ st rc T i) ou43), nu43, ap1Xu43, lE⟩
          refine ⟨fun n' σ' H' => ∃ n : Nat, n' = (2 * rc).toNat - n ∧ n ≤ (2 * rc).toNat ∧ σ' 1 = p1 ∧ σ' 4 = (.int .i64 (2 * rc + 1)) ∧ σ' 5 = u ∧ σ' 7 = u27 ∧ σ' 8 = (.int .i64 (flS st rc T (digL (i : Int) st (2 * rc).toNat) n)) ∧ σ' 9 = (.int .i64 ((n : Int) + 1)) ∧ σ' 27 = (.int .i64 (pwr st (2 * rc))) ∧ σ' 28 = (.int .i64 ((i : Int))) ∧ Cel H' p1 [(.int .i64 (st)), (.int .i64 (rc)), vt] ∧ Own eI H' u (flwF st rc T i) ∧ Own eI H' u27 (digL (i : Int) st (2 * rc).toNat) ∧ Ro eI H' x29 (((digL (i : Int) st (2 * rc).toNat).drop ((0 : Int)).toNat).take ((rc).toNat - ((0 : Int)).toNat)) ∧ Le H H',
            ⟨_, 0, rfl, by omega, g1L22, g4L22, g5L22, rfl, rfl, (congrArg (Value.int .i64) (by first | omega | rfl | (simp; done))), g27L22, g28L22, op1, ou, ou27, ox29, lE⟩, ?_⟩
          rintro n44 σ44 H44 ⟨n, rfl, hnN, g1L44, g4L44, g5L44, g7L44, g8L44, g9L44, g27L44, g28L44, op1, ou, ou27, ox29, lE⟩
          have hvt := hvt0.le lE
          try simp only [g1L44, g4L44, g7L44, g8L44, g9L44]
          have fb := flS_bnd hr di n
          refine ob_i (vInt_lss _ _ _) ?_
          refine cnd_d (fun hg45 => ?_) (fun hg45 => ?_)
          · skip
            have tn := hg45
            refine ob_i (op1.ldn rfl) ?_
            refine ob_i (vInt_sub (by omega) (by omega)) ?_
            obtain ⟨x46, eq47a, eq47b, eq47c, eq47d, hx460, hb48⟩ := ou27.sl.cut (lo := (0 : Int)) (hi := (2 * rc + 1) - ((n : Int) + 1)) (by omega) (by omega) (by omega)
            refine ob_i (eq47c rfl) ?_
            have ox46 : Ro eI H44 x46 (((digL (i : Int) st (2 * rc).toNat).drop ((0 : Int)).toNat).take (((2 * rc + 1) - ((n : Int) + 1)).toNat - ((0 : Int)).toNat)) := ⟨hx460, fun b hb => ou27.known b (hb48 b hb)⟩
            have ap1Xx46 : Apart p1 x46 := fun b h1 h2 => ap1Xu27 b h1 (hb48 b h2)
            have auXx46 : Apart u x46 := fun b h1 h2 => auXu27 b h1 (hb48 b h2)
            refine C.impl_Rule_zeros hvt ox46.sl (by first | omega | assumption) (by exact take_in (drop_in di)) (by rw [List.length_take]; omega) (fun   H49    le50 => ?_)
            replace op1 := op1.le le50
            replace ou := ou.le le50
            replace ou27 := ou27.le le50
            replace ox29 := ox29.le le50
            replace ox46 := ox46.le le50
            replace hvt := hvt.le le50
            replace lE := lE.trans le50
            refine ⟨le50, ?_⟩
            have zzq51 := zrN_in (T := T) hr (row := (((digL (i : Int) st (2 * rc).toNat).drop ((0 : Int)).toNat).take (((2 * rc + 1) - ((n : Int) + 1)).toNat - ((0 : Int)).toNat))) (by exact take_in (drop_in di)) (by rw [List.length_take]; omega)
            refine ob_i (vInt_sub (by omega) (by omega)) ?_
            refine ob_i (vInt_add (by omega) (by omega)) ?_
            exact nxt ((2 * rc).toNat - (n + 1)) (by omega) ⟨n + 1, rfl, by omega, g1L44, g4L44, g5L44, g7L44, (congrArg (Value.int .i64) (flS_step (by omega))), (congrArg (Value.int .i64) (by first | omega | rfl | (simp; done))), g27L44, g28L44, op1, ou, ou27, ox29, lE⟩
          · skip
            have tn := hg45
            obtain rfl : n = (2 * rc).toNat := by omega
            exact hJ34 _ _ ⟨g1L44, g4L44, g5L44, (g8L44.trans (congrArg (Value.int .i64) (by first | omega | rfl | (simp; done)))), g27L44, g28L44, op1, ou, ou27, ox29, lE⟩
        · skip
          have ti := hg23
          obtain rfl : i = (pwr st (2 * rc)).toNat := by omega
          exact hJ19 _ _ ⟨u, g5L22, op1, ou, nu, ap1Xu, lE⟩
      · skip
        refine ob_i (vPick_ef (decide_eq_false hc8) _ _) ?_
        refine cnd_t1 ?_
        skip
        exact hk2 (by intro h; first | omega | exact absurd h.2 (by assumption))  _    lE
  · skip
    exact absurd hc7 (fun h => h hr)
theorem C.spec_l02Can {p vt va : Value} {st rc : Int} {T : List Int} {l : List Int}  {H : Hp} {K : Value → Hp → Prop} (hp0 : Cel H p [(.int .i64 (st)), (.int .i64 (rc)), vt]) (hvt0 : Sl eI H vt T) (hva0 : Sl eI H va l) (hr : ruleP st rc T) (hg : ringP st l)
    (hk : ∀ H', Le H H' → K (.bool true) H') : HT prg I.spec_l02Can [p, va].toArray H K := by
  have lE := Le.refl H
  have hp := hp0
  have hvt := hvt0
  have hva := hva0
  refine R.spec_l02Can ?_
  unfold F.spec_l02Can
  have hr1 := hr.1
  have hr2 := hr.2.1
  have hr3 := ruleP_len hr
  have hr4 := hr.2.2.2
  have hg2 := hg.2
  refine C.spec_l02Is hp hvt (by first | omega | assumption) (fun   H1    le2 => ?_)
  replace hp := hp.le le2
  replace hvt := hvt.le le2
  replace hva := hva.le le2
  replace lE := lE.trans le2
  by_cases hc3 : ruleP st rc T
  · skip
    refine gop_e (decide_eq_true hc3) ?_
    refine gop_rt ?_
    refine gop_e (decide_eq_true hc3) ?_
    refine gop_rt ?_
    refine gop_e (decide_eq_true hc3) ?_
    refine gop_rt ?_
    refine ob_i (hp.nilC) ?_
    refine gop_e (decide_eq_true hc3) ?_
    refine gop_rt ?_
    refine ob_i (hp.fa 0) ?_
    refine gop_e (decide_eq_true hc3) ?_
    refine gop_rt ?_
    refine ob_i (hp.ld 0 rfl) ?_
    refine gop_e (decide_eq_true hc3) ?_
    refine gop_rt ?_
    refine C.spec_l02Ring hva (by first | omega | assumption) (by first | omega | assumption) (by first | omega | assumption) (fun   H4    le5 => ?_)
    replace hp := hp.le le5
    replace hvt := hvt.le le5
    replace hva := hva.le le5
    replace lE := lE.trans le5
    refine ob_i (vPick_et (decide_eq_true hc3) _ _) ?_
    rw [decide_eq_true (show ringP st l from hg)]
    exact hk _ lE
  · skip
    exact absurd hc3 (fun h => h hr)
theorem C.spec_StepRing {vt va : Value} {st rc : Int} {T : List Int} {l : List Int}  {H : Hp} {K : Value → Hp → Prop} (hvt0 : Sl eI H vt T) (hva0 : Sl eI H va l) (hr : ruleP st rc T) (hg : ringP st l)
    (hk : ∀ u1 H', Own eI H' u1 (stpL st rc T l) → Nw H u1 → Le H H' → K (.tuple #[u1, (.bool true)]) H') : HT prg I.spec_StepRing [(.agg #[(.int .i64 (st)), (.int .i64 (rc)), vt]), va].toArray H K := by
  have lE := Le.refl H
  have hvt := hvt0
  have hva := hva0
  refine R.spec_StepRing ?_
  unfold F.spec_StepRing
  have hr1 := hr.1
  have hr2 := hr.2.1
  have hr3 := ruleP_len hr
  have hr4 := hr.2.2.2
  have hg2 := hg.2
  have he := hg.1
  refine nw_i (fun p1 H2 op1 nn3 le4 => ?_)
  have np1 : Nw H p1 := nn3.le lE
  replace hvt := hvt.le le4
  replace hva := hva.le le4
  replace lE := lE.trans le4
  replace op1 : Cel H2 p1 [(.int .i64 (st)), (.int .i64 (rc)), vt] := op1
  refine C.spec_l02Can op1 hvt hva (by first | omega | assumption) (by first | omega | assumption) (fun   H5    le6 => ?_)
  replace op1 := op1.le le6
  replace hvt := hvt.le le6
  replace hva := hva.le le6
  replace lE := lE.trans le6
  refine ob_i (a := .bool false) rfl ?_
  refine cnd_f1 ?_
  refine C.spec_l02Step op1 hvt hva (by first | omega | assumption) (by first | omega | assumption) (by first | omega | assumption) (by first | omega | assumption) (fun  u9 H7 ou9 nn10  le8 => ?_)
  have ap1Xu9 : Apart p1 u9 := op1.apart nn10
  have nu9 : Nw H u9 := nn10.le lE
  replace op1 := op1.le le8
  replace hvt := hvt.le le8
  replace hva := hva.le le8
  replace lE := lE.trans le8
  skip
  exact hk  u9 _ ou9 nu9  lE
theorem C.spec_B10Rule {vy : Value} {rc : Int} {l : List Int}  {H : Hp} {K : Value → Hp → Prop} (hvy0 : Sl eU H vy l) (hb_vy : bytP l) (hl_vy : l.length ≤ 9223372036854775807) (r0 : 0 ≤ rc) (r1 : rc ≤ 1)
    (hk : ∀ (lT : List Int), (ruleP 2 rc lT) → ∀ u1 H', Own eI H' u1 lT → Nw H u1 → Le H H' → K (.agg #[(.int .i64 (2)), (.int .i64 (rc)), u1]) H') : HT prg I.spec_B10Rule [vy, (.int .i64 (rc))].toArray H K := by
  have lE := Le.refl H
  have hvy := hvy0
  refine R.spec_B10Rule ?_
  unfold F.spec_B10Rule
  have pb := pwr_bnd (b := 2) (n := 2 * rc + 1) (by omega) (by omega) (by omega)
  refine nw_i (fun p1 H2 op1 nn3 le4 => ?_)
  have np1 : Nw H p1 := nn3.le lE
  replace hvy := hvy.le le4
  replace lE := lE.trans le4
  replace op1 : Cel H2 p1 [(.int .i64 (0)), (.int .i64 (0)), (.slice none 0 0)] := op1
  refine C.spec_l00From hvy (fun z H5 oz nn6 le7 => ?_)
  have ap1Xz : Apart p1 z := op1.apart nn6
  have nz : Nw H z := nn6.le lE
  replace op1 := op1.le le7
  replace hvy := hvy.le le7
  replace lE := lE.trans le7
  replace oz : Cel H5 z [vy, (.int .i64 (0)), (.int .u64 (0))] := oz
  refine R.spec_l07DrawTwoX ?_
  unfold F.spec_l07DrawTwoX
  refine nw_i (fun q0 H8 oq0 nn9 le10 => ?_)
  have ap1Xq0 : Apart p1 q0 := op1.apart nn9
  have azXq0 : Apart z q0 := oz.apart nn9
  have nq0 : Nw H q0 := nn9.le lE
  replace op1 := op1.le le10
  replace oz := oz.le le10
  replace hvy := hvy.le le10
  replace lE := lE.trans le10
  replace oq0 : Cel H8 q0 [(.int .i64 (0)), (.int .i64 (0)), (.slice none 0 0)] := oq0
  refine ob_i (a := (.agg #[(.int .i64 (2)), (.int .i64 (rc)), (.slice none 0 0)])) (by rfl) ?_
  refine nw_i (fun q H11 oq nn12 le13 => ?_)
  have ap1Xq : Apart p1 q := op1.apart nn12
  have azXq : Apart z q := oz.apart nn12
  have aq0Xq : Apart q0 q := oq0.apart nn12
  have nq : Nw H q := nn12.le lE
  replace op1 := op1.le le13
  replace oz := oz.le le13
  replace oq0 := oq0.le le13
  replace hvy := hvy.le le13
  replace lE := lE.trans le13
  replace oq : Cel H11 q [(.int .i64 (0)), (.int .i64 (0)), (.slice none 0 0)] := oq
  refine oq.stn (ws := [(.int .i64 (2)), (.int .i64 (rc)), (.slice none 0 0)]) rfl rfl (oc1 rfl (oc1 rfl (oc1 rfl oc0))) (fun H14 oq off15 => ?_)
  replace op1 := op1.off off15 ap1Xq
  replace oz := oz.off off15 azXq
  replace oq0 := oq0.off off15 aq0Xq
  replace hvy := hvy0.le (off15.le lE nq)
  replace lE := off15.le lE nq
  replace oq : Cel H14 q [(.int .i64 (2)), (.int .i64 (rc)), (.slice none 0 0)] := oq
  refine jn_i (fun σ' H' => ∃ u, ∃ lu, σ' 4 = q0 ∧ σ' 5 = q ∧ Cel H' p1 [(.int .i64 (0)), (.int .i64 (0)), (.slice none 0 0)] ∧ Cel H' q0 [(.int .i64 (0)), (.int .i64 (0)), (.slice none 0 0)] ∧ Cel H' q [(.int .i64 (2)), (.int .i64 (rc)), u] ∧ Own eI H' u (lu) ∧ Nw H u ∧ Apart p1 u ∧ Apart q0 u ∧ Apart q u ∧ Le H H' ∧ (lu.length : Int) = pwr 2 (2 * rc + 1) ∧ (∀ x ∈ lu, 0 ≤ x ∧ x ≤ 1)) (fun σ16 H16 hP => ?_) (fun J16 hJ16 => ?_)
  · skip
    obtain ⟨u, lu, g4L16, g5L16, op1, oq0, oq, ou, nu, ap1Xu, aq0Xu, aqXu, lE, hln, hLa⟩ := hP
    have hvy := hvy0.le lE
    try simp only [g4L16, g5L16]
    refine ob_i (oq.ldn rfl) ?_
    refine oq0.stn (ws := [(.int .i64 (2)), (.int .i64 (rc)), u]) rfl rfl (oc1 rfl (oc1 rfl (oc1 ou.one oc0))) (fun H17 oq0 off18 => ?_)
    replace op1 := op1.off off18 ap1Xq0
    replace oq := oq.off off18 aq0Xq.symm
    replace ou := ou.off off18 aq0Xu.symm
    replace hvy := hvy0.le (off18.le lE nq0)
    replace lE := off18.le lE nq0
    replace oq0 : Cel H17 q0 [(.int .i64 (2)), (.int .i64 (rc)), u] := oq0
    refine ob_i (oq0.ldn rfl) ?_
    refine op1.stn (ws := [(.int .i64 (2)), (.int .i64 (rc)), u]) rfl rfl (oc1 rfl (oc1 rfl (oc1 ou.one oc0))) (fun H19 op1 off20 => ?_)
    replace oq0 := oq0.off off20 ap1Xq0.symm
    replace oq := oq.off off20 ap1Xq.symm
    replace ou := ou.off off20 ap1Xu.symm
    replace hvy := hvy0.le (off20.le lE np1)
    replace lE := off20.le lE np1
    replace op1 : Cel H19 p1 [(.int .i64 (2)), (.int .i64 (rc)), u] := op1
    refine ob_i (op1.ldn rfl) ?_
    skip
    exact hk  lu (by exact ⟨Or.inl rfl, ⟨by omega, by omega⟩, hln, hLa⟩) u _ ou nu  lE
  refine ob_i (vInt_mul (by omega) (by omega)) ?_
  refine ob_i (vInt_add (by omega) (by omega)) ?_
  refine C.spec_l03Power (by first | omega | assumption) (by first | omega | assumption) (by first | omega | assumption) (by first | omega | assumption) (fun   H21    le22 => ?_)
  replace op1 := op1.le le22
  replace oz := oz.le le22
  replace oq0 := oq0.le le22
  replace oq := oq.le le22
  replace hvy := hvy.le le22
  replace lE := lE.trans le22
  refine ⟨fun n' σ' H' => ∃ i : Nat, n' = (pwr 2 (2 * rc + 1)).toNat - i ∧ i ≤ (pwr 2 (2 * rc + 1)).toNat ∧ ∃ u, ∃ lu, ∃ ats, ∃ sd, σ' 0 = z ∧ σ' 4 = q0 ∧ σ' 5 = q ∧ σ' 6 = (.int .i64 (pwr 2 (2 * rc + 1) - (i : Int))) ∧ Cel H' p1 [(.int .i64 (0)), (.int .i64 (0)), (.slice none 0 0)] ∧ Cel H' z [vy, (.int .i64 (ats)), (.int .u64 (sd))] ∧ Cel H' q0 [(.int .i64 (0)), (.int .i64 (0)), (.slice none 0 0)] ∧ Cel H' q [(.int .i64 (2)), (.int .i64 (rc)), u] ∧ Own eI H' u (lu) ∧ Nw H u ∧ Apart p1 u ∧ Apart z u ∧ Apart q0 u ∧ Apart q u ∧ Le H H' ∧ lu.length = i ∧ (∀ x ∈ lu, 0 ≤ x ∧ x ≤ 1) ∧ 0 ≤ ats ∧ ats ≤ 2 * (i : Int),
    ⟨_, 0, rfl, by omega, _, [], 0, 0, rfl, rfl, rfl, (congrArg (Value.int .i64) (by first | omega | rfl | (simp; done))), op1, oz, oq0, oq, (Own.cast (by first | rfl | (simp; done)) (Own.nil_of none)), (fun b hb => by simp [bk] at hb), (fun b _ hb => by simp [bk] at hb), (fun b _ hb => by simp [bk] at hb), (fun b _ hb => by simp [bk] at hb), (fun b _ hb => by simp [bk] at hb), lE, rfl, (by simp), ⟨by omega, by omega⟩⟩, ?_⟩
  rintro n23 σ23 H23 ⟨i, rfl, hiN, u, lu, ats, sd, g0L23, g4L23, g5L23, g6L23, op1, oz, oq0, oq, ou, nu, ap1Xu, azXu, aq0Xu, aqXu, lE, hln, hLa, hat⟩
  have hvy := hvy0.le lE
  try simp only [g0L23, g4L23, g5L23, g6L23]
  refine ob_i (vInt_gtr _ _ _) ?_
  refine cnd_d (fun hg24 => ?_) (fun hg24 => ?_)
  · skip
    have ti := hg24
    refine ⟨?_, ?_⟩
    · skip
      refine ob_i (oq.fa 2) ?_
      refine ob_i (oq.ld 2 rfl) ?_
      refine C.pspec_l00Src_pick hvy0 hb_vy hl_vy lE nz oz (by omega) (by omega) (fun x25 at26 sd27 H28 xp30 xq31 ap32 aq33 oz off29 => ?_)
      replace xq31 := xq31 (by omega)
      replace op1 := op1.off off29 ap1Xz
      replace oq0 := oq0.off off29 azXq0.symm
      replace oq := oq.off off29 azXq.symm
      replace ou := ou.off off29 azXu.symm
      replace hvy := hvy0.le (off29.le lE nz)
      replace lE := off29.le lE nz
      replace oz : Cel H28 z [vy, (.int .i64 (at26)), (.int .u64 (sd27))] := oz
      refine bS_i (enc := eI) (l := [x25]) (by omega) rfl (by kernel_rfl) (fun u34 H35 ou34 nn36 le38 => ?_)
      have ap1Xu34 : Apart p1 u34 := op1.apart nn36
      have azXu34 : Apart z u34 := oz.apart nn36
      have aq0Xu34 : Apart q0 u34 := oq0.apart nn36
      have aqXu34 : Apart q u34 := oq.apart nn36
      have auXu34 : Apart u u34 := ou.apart nn36
      have nu34 : Nw H u34 := nn36.le lE
      replace op1 := op1.le le38
      replace oz := oz.le le38
      replace oq0 := oq0.le le38
      replace oq := oq.le le38
      replace ou := ou.le le38
      replace hvy := hvy.le le38
      replace lE := lE.trans le38
      refine apd_any ou ou34.sl (fun _ => rfl) (by omega) (by first | omega | (simp only [List.length_cons, List.length_nil, List.length_append, List.length_replicate, List.length_map, List.length_range]; omega)) (fun u42 H39 ou42 off40 hb41 => ?_)
      have ap1Xu42 : Apart p1 u42 := Apart.ap2 op1.known ap1Xu hb41
      have azXu42 : Apart z u42 := Apart.ap2 oz.known azXu hb41
      have aq0Xu42 : Apart q0 u42 := Apart.ap2 oq0.known aq0Xu hb41
      have aqXu42 : Apart q u42 := Apart.ap2 oq.known aqXu hb41
      have au34Xu42 : Apart u34 u42 := Apart.ap2 ou34.known auXu34.symm hb41
      have nu42 : Nw H u42 := Nw.ap2 nu lE hb41
      replace op1 := op1.off off40 ap1Xu
      replace oz := oz.off off40 azXu
      replace oq0 := oq0.off off40 aq0Xu
      replace oq := oq.off off40 aqXu
      replace ou34 := ou34.off off40 auXu34.symm
      replace hvy := hvy0.le (off40.le lE nu)
      replace lE := off40.le lE nu
      refine ob_i (oq.fa 2) ?_
      refine oq.st (by simp) ou42.one ou42.cells (fun H43 oq off44 => ?_)
      replace op1 := op1.off off44 ap1Xq
      replace oz := oz.off off44 azXq
      replace oq0 := oq0.off off44 aq0Xq
      replace ou34 := ou34.off off44 aqXu34.symm
      replace ou42 := ou42.off off44 aqXu42.symm
      replace hvy := hvy0.le (off44.le lE nq)
      replace lE := off44.le lE nq
      replace oq : Cel H43 q [(.int .i64 (2)), (.int .i64 (rc)), u42] := oq
      refine ob_i (vInt_sub (by omega) (by omega)) ?_
      exact nxt ((pwr 2 (2 * rc + 1)).toNat - (i + 1)) (by omega) ⟨i + 1, rfl, by omega, u42, (lu ++ ([x25])), (at26), (sd27), g0L23, g4L23, g5L23, (congrArg (Value.int .i64) (by first | omega | rfl | (simp; done))), op1, oz, oq0, oq, ou42, nu42, ap1Xu42, azXu42, aq0Xu42, aqXu42, lE, (by rw [List.length_append, hln]; rfl), (snoc_all hLa (by omega)), ⟨by omega, by omega⟩⟩
    · skip
      refine ob_i (oq.fa 2) ?_
      refine C.pspec_l00Src_pick hvy0 hb_vy hl_vy lE nz oz (by omega) (by omega) (fun x45 at46 sd47 H48 xp50 xq51 ap52 aq53 oz off49 => ?_)
      replace xq51 := xq51 (by omega)
      replace op1 := op1.off off49 ap1Xz
      replace oq0 := oq0.off off49 azXq0.symm
      replace oq := oq.off off49 azXq.symm
      replace ou := ou.off off49 azXu.symm
      replace hvy := hvy0.le (off49.le lE nz)
      replace lE := off49.le lE nz
      replace oz : Cel H48 z [vy, (.int .i64 (at46)), (.int .u64 (sd47))] := oz
      refine ob_i (oq.ld 2 rfl) ?_
      refine bS_i (enc := eI) (l := [x45]) (by omega) rfl (by kernel_rfl) (fun u54 H55 ou54 nn56 le58 => ?_)
      have ap1Xu54 : Apart p1 u54 := op1.apart nn56
      have azXu54 : Apart z u54 := oz.apart nn56
      have aq0Xu54 : Apart q0 u54 := oq0.apart nn56
      have aqXu54 : Apart q u54 := oq.apart nn56
      have auXu54 : Apart u u54 := ou.apart nn56
      have nu54 : Nw H u54 := nn56.le lE
      replace op1 := op1.le le58
      replace oz := oz.le le58
      replace oq0 := oq0.le le58
      replace oq := oq.le le58
      replace ou := ou.le le58
      replace hvy := hvy.le le58
      replace lE := lE.trans le58
      refine apd_any ou ou54.sl (fun _ => rfl) (by omega) (by first | omega | (simp only [List.length_cons, List.length_nil, List.length_append, List.length_replicate, List.length_map, List.length_range]; omega)) (fun u62 H59 ou62 off60 hb61 => ?_)
      have ap1Xu62 : Apart p1 u62 := Apart.ap2 op1.known ap1Xu hb61
      have azXu62 : Apart z u62 := Apart.ap2 oz.known azXu hb61
      have aq0Xu62 : Apart q0 u62 := Apart.ap2 oq0.known aq0Xu hb61
      have aqXu62 : Apart q u62 := Apart.ap2 oq.known aqXu hb61
      have au54Xu62 : Apart u54 u62 := Apart.ap2 ou54.known auXu54.symm hb61
      have nu62 : Nw H u62 := Nw.ap2 nu lE hb61
      replace op1 := op1.off off60 ap1Xu
      replace oz := oz.off off60 azXu
      replace oq0 := oq0.off off60 aq0Xu
      replace oq := oq.off off60 aqXu
      replace ou54 := ou54.off off60 auXu54.symm
      replace hvy := hvy0.le (off60.le lE nu)
      replace lE := off60.le lE nu
      refine ob_i (oq.fa 2) ?_
      refine oq.st (by simp) ou62.one ou62.cells (fun H63 oq off64 => ?_)
      replace op1 := op1.off off64 ap1Xq
      replace oz := oz.off off64 azXq
      replace oq0 := oq0.off off64 aq0Xq
      replace ou54 := ou54.off off64 aqXu54.symm
      replace ou62 := ou62.off off64 aqXu62.symm
      replace hvy := hvy0.le (off64.le lE nq)
      replace lE := off64.le lE nq
      replace oq : Cel H63 q [(.int .i64 (2)), (.int .i64 (rc)), u62] := oq
      refine ob_i (vInt_sub (by omega) (by omega)) ?_
      exact nxt ((pwr 2 (2 * rc + 1)).toNat - (i + 1)) (by omega) ⟨i + 1, rfl, by omega, u62, (lu ++ ([x45])), (at46), (sd47), g0L23, g4L23, g5L23, (congrArg (Value.int .i64) (by first | omega | rfl | (simp; done))), op1, oz, oq0, oq, ou62, nu62, ap1Xu62, azXu62, aq0Xu62, aqXu62, lE, (by rw [List.length_append, hln]; rfl), (snoc_all hLa (by omega)), ⟨by omega, by omega⟩⟩
  · skip
    have ti := hg24
    exact hJ16 _ _ ⟨u, _, g4L23, g5L23, op1, oq0, oq, ou, nu, ap1Xu, aq0Xu, aqXu, lE, (by omega), hLa⟩
theorem C.spec_B10Ring {vy : Value} {st n : Int} {l : List Int}  {H : Hp} {K : Value → Hp → Prop} (hvy0 : Sl eU H vy l) (hb_vy : bytP l) (hl_vy : l.length ≤ 9223372036854775807) (s0 : 2 ≤ st) (s1 : st ≤ 3) (n0 : 1 ≤ n) (n1 : n ≤ 64)
    (hk : ∀ (ls : List Int), ((ls.length : Int) = n ∧ ringP st ls) → ∀ u1 H', Own eI H' u1 ls → Nw H u1 → Le H H' → K u1 H') : HT prg I.spec_B10Ring [vy, (.int .i64 (st)), (.int .i64 (n))].toArray H K := by
  have lE := Le.refl H
  have hvy := hvy0
  refine R.spec_B10Ring ?_
  unfold F.spec_B10Ring
  refine C.spec_l00From hvy (fun z H1 oz nn2 le3 => ?_)
  have nz : Nw H z := nn2.le lE
  replace hvy := hvy.le le3
  replace lE := lE.trans le3
  replace oz : Cel H1 z [vy, (.int .i64 (0)), (.int .u64 (0))] := oz
  refine bS_nil (enc := eI) (fun u4 H5 ou4 nn6 kk7 le8 => ?_)
  have azXu4 : Apart z u4 := oz.apart nn6
  have nu4 : Nw H u4 := nn6.le lE
  replace oz := oz.le le8
  replace hvy := hvy.le le8
  replace lE := lE.trans le8
  refine jn_i (fun σ' H' => ∃ u, ∃ lu, σ' 8 = u ∧ Own eI H' u (lu) ∧ Nw H u ∧ Le H H' ∧ (lu.length : Int) = n ∧ (∀ x ∈ lu, 0 ≤ x ∧ x ≤ st - 1)) (fun σ9 H9 hP => ?_) (fun J9 hJ9 => ?_)
  · skip
    obtain ⟨u, lu, g8L9, ou, nu, lE, hln, hLa⟩ := hP
    have hvy := hvy0.le lE
    try simp only [g8L9]
    skip
    exact hk  lu (by exact ⟨hln, hLa, by omega, by omega⟩) u _ ou nu  lE
  refine ⟨fun n' σ' H' => ∃ i : Nat, n' = n.toNat - i ∧ i ≤ n.toNat ∧ ∃ u, ∃ lu, ∃ ats, ∃ sd, σ' 1 = (.int .i64 (st)) ∧ σ' 2 = (.int .i64 (n - (i : Int))) ∧ σ' 7 = z ∧ σ' 8 = u ∧ Cel H' z [vy, (.int .i64 (ats)), (.int .u64 (sd))] ∧ Own eI H' u (lu) ∧ Nw H u ∧ Apart z u ∧ Le H H' ∧ lu.length = i ∧ (∀ x ∈ lu, 0 ≤ x ∧ x ≤ st - 1) ∧ 0 ≤ ats ∧ ats ≤ 2 * (i : Int),
    ⟨_, 0, rfl, by omega, u4, [], 0, 0, rfl, (congrArg (Value.int .i64) (by first | omega | rfl | (simp; done))), rfl, rfl, oz, (Own.cast (by first | rfl | (simp; done)) ou4), nu4, azXu4, lE, rfl, (by simp), ⟨by omega, by omega⟩⟩, ?_⟩
  rintro n10 σ10 H10 ⟨i, rfl, hiN, u, lu, ats, sd, g1L10, g2L10, g7L10, g8L10, oz, ou, nu, azXu, lE, hln, hLa, hat⟩
  have hvy := hvy0.le lE
  try simp only [g1L10, g2L10, g7L10, g8L10]
  refine ob_i (vInt_gtr _ _ _) ?_
  refine cnd_d (fun hg11 => ?_) (fun hg11 => ?_)
  · skip
    have ti := hg11
    refine C.pspec_l00Src_pick hvy0 hb_vy hl_vy lE nz oz (by omega) (by omega) (fun x12 at13 sd14 H15 xp17 xq18 ap19 aq20 oz off16 => ?_)
    replace xq18 := xq18 (by omega)
    replace ou := ou.off off16 azXu.symm
    replace hvy := hvy0.le (off16.le lE nz)
    replace lE := off16.le lE nz
    replace oz : Cel H15 z [vy, (.int .i64 (at13)), (.int .u64 (sd14))] := oz
    refine bS_i (enc := eI) (l := [x12]) (by omega) rfl (by kernel_rfl) (fun u21 H22 ou21 nn23 le25 => ?_)
    have azXu21 : Apart z u21 := oz.apart nn23
    have auXu21 : Apart u u21 := ou.apart nn23
    have nu21 : Nw H u21 := nn23.le lE
    replace oz := oz.le le25
    replace ou := ou.le le25
    replace hvy := hvy.le le25
    replace lE := lE.trans le25
    refine apd_any ou ou21.sl (fun _ => rfl) (by omega) (by first | omega | (simp only [List.length_cons, List.length_nil, List.length_append, List.length_replicate, List.length_map, List.length_range]; omega)) (fun u29 H26 ou29 off27 hb28 => ?_)
    have azXu29 : Apart z u29 := Apart.ap2 oz.known azXu hb28
    have au21Xu29 : Apart u21 u29 := Apart.ap2 ou21.known auXu21.symm hb28
    have nu29 : Nw H u29 := Nw.ap2 nu lE hb28
    replace oz := oz.off off27 azXu
    replace ou21 := ou21.off off27 auXu21.symm
    replace hvy := hvy0.le (off27.le lE nu)
    replace lE := off27.le lE nu
    refine ob_i (vInt_sub (by omega) (by omega)) ?_
    exact nxt (n.toNat - (i + 1)) (by omega) ⟨i + 1, rfl, by omega, u29, (lu ++ ([x12])), (at13), (sd14), g1L10, (congrArg (Value.int .i64) (by first | omega | rfl | (simp; done))), g7L10, rfl, oz, ou29, nu29, azXu29, lE, (by rw [List.length_append, hln]; rfl), (snoc_all hLa (by omega)), ⟨by omega, by omega⟩⟩
  · skip
    have ti := hg11
    exact hJ9 _ _ ⟨u, _, g8L10, ou, nu, lE, (by omega), hLa⟩
theorem C.laws_b10Long {vy vm : Value} {l : List Int} {m : List Int}  {H : Hp} {K : Value → Hp → Prop} (hvy0 : Sl eU H vy l) (hvm0 : Sl eU H vm m)
    (hk : ∀ H', Le H H' → K (.bool (decide (1048576 < l.length ∨ 1048576 < m.length))) H') : HT prg I.laws_b10Long [vy, vm].toArray H K := by
  have lE := Le.refl H
  have hvy := hvy0
  have hvm := hvm0
  refine R.laws_b10Long ?_
  unfold F.laws_b10Long
  refine ob_i (hvy.len) ?_
  refine ob_i (vInt_gtr _ _ _) ?_
  by_cases hc1 : 1048576 < (((l).length : Int))
  · skip
    refine gop_e (decide_eq_true hc1) ?_
    refine gop_st ?_
    refine gop_e (decide_eq_true hc1) ?_
    refine gop_st ?_
    refine gop_e (decide_eq_true hc1) ?_
    refine gop_st ?_
    refine ob_i (vPick_et (decide_eq_true hc1) _ _) ?_
    skip
    exact keq (K := K) (by rw [decide_eq_true (show (1048576 < l.length ∨ 1048576 < m.length) from by omega)]) (hk   _    lE)
  · skip
    refine gop_e (decide_eq_false hc1) ?_
    refine gop_rf ?_
    refine gop_e (decide_eq_false hc1) ?_
    refine gop_rf ?_
    refine ob_i (hvm.len) ?_
    refine gop_e (decide_eq_false hc1) ?_
    refine gop_rf ?_
    refine ob_i (vInt_gtr _ _ _) ?_
    refine ob_i (vPick_ef (decide_eq_false hc1) _ _) ?_
    skip
    exact keq (K := K) (by rw [show decide (1048576 < (((m).length : Int))) = decide (1048576 < l.length ∨ 1048576 < m.length) from decide_eq_decide.mpr (by omega)]) (hk   _    lE)
set_option maxHeartbeats 2000000 in
theorem C.laws_FnKeptSums {vy vm : Value} {l : List Int} {mm : List Int}  {H : Hp} {K : Value → Hp → Prop} (hvy0 : Sl eU H vy l) (hvm0 : Sl eU H vm mm) (hb_vy : bytP l) (hl_vy : l.length ≤ 9223372036854775807) (hb_vm : bytP mm) (hl_vm : mm.length ≤ 9223372036854775807)
    (hk : ∀ H', Le H H' → K (.bool true) H') : HT prg I.laws_FnKeptSums [vy, vm].toArray H K := by
  have lE := Le.refl H
  have hvy := hvy0
  have hvm := hvm0
  refine R.laws_FnKeptSums ?_
  unfold F.laws_FnKeptSums
  refine C.laws_b10Long hvy hvm (fun   H1    le2 => ?_)
  replace hvy := hvy.le le2
  replace hvm := hvm.le le2
  replace lE := lE.trans le2
  refine cnd_d (fun hg3 => ?_) (fun hg3 => ?_)
  · skip
    skip
    exact hk   _    lE
  · skip
    refine bS_i (enc := eI) (l := [184, 226, 170, 240, 204, 110, 90, 30]) (by omega) rfl (by kernel_rfl) (fun u4 H5 ou4 nn6 le8 => ?_)
    have nu4 : Nw H u4 := nn6.le lE
    replace hvy := hvy.le le8
    replace hvm := hvm.le le8
    replace lE := lE.trans le8
    refine C.laws_b10At (k := 0) (n := 8) hvm hb_vm hl_vm (by omega) (by omega) (fun x9 xp10 xq11 => ?_)
    replace xq11 := xq11 (by omega)
    refine ob_i (ou4.sl.ix (by omega) (by omega)) ?_
    refine ob_i (ou4.sl.ld 0 (by omega) (by omega)) ?_
    obtain ⟨num, hnum⟩ : ∃ x : Int, x = at_ 0 ([184, 226, 170, 240, 204, 110, 90, 30]) (x9) := ⟨_, rfl⟩
    rw [← hnum]
    refine ob_i (a := (.agg #[(.int .i64 (2)), (.int .i64 (1)), (.slice none 0 0)])) (by rfl) ?_
    refine nw_i (fun q H12 oq nn13 le14 => ?_)
    have au4Xq : Apart u4 q := ou4.apart nn13
    have nq : Nw H q := nn13.le lE
    replace ou4 := ou4.le le14
    replace hvy := hvy.le le14
    replace hvm := hvm.le le14
    replace lE := lE.trans le14
    replace oq : Cel H12 q [(.int .i64 (0)), (.int .i64 (0)), (.slice none 0 0)] := oq
    refine oq.stn (ws := [(.int .i64 (2)), (.int .i64 (1)), (.slice none 0 0)]) rfl rfl (oc1 rfl (oc1 rfl (oc1 rfl oc0))) (fun H15 oq off16 => ?_)
    replace ou4 := ou4.off off16 au4Xq
    replace hvy := hvy0.le (off16.le lE nq)
    replace hvm := hvm0.le (off16.le lE nq)
    replace lE := off16.le lE nq
    replace oq : Cel H15 q [(.int .i64 (2)), (.int .i64 (1)), (.slice none 0 0)] := oq
    refine jn_i (fun σ' H' => ∃ u, ∃ lu, σ' 0 = vy ∧ σ' 1 = vm ∧ σ' 7 = q ∧ Own eI H' u4 ([184, 226, 170, 240, 204, 110, 90, 30]) ∧ Cel H' q [(.int .i64 (2)), (.int .i64 (1)), u] ∧ Own eI H' u (lu) ∧ Nw H u ∧ Apart u4 u ∧ Apart q u ∧ Le H H' ∧ lu.length = 8 ∧ (∀ x ∈ lu, 0 ≤ x ∧ x ≤ 1)) (fun σ17 H17 hP => ?_) (fun J17 hJ17 => ?_)
    · skip
      obtain ⟨u, lu, g0L17, g1L17, g7L17, ou4, oq, ou, nu, au4Xu, aqXu, lE, hln, hLa⟩ := hP
      have hvy := hvy0.le lE
      have hvm := hvm0.le lE
      try simp only [g0L17, g1L17, g7L17]
      refine jn_i (fun σ' H' => ∃ t, ∃ lT, ∃ rcv, σ' 0 = vy ∧ σ' 1 = vm ∧ σ' 7 = q ∧ Own eI H' u4 ([184, 226, 170, 240, 204, 110, 90, 30]) ∧ Cel H' q [(.int .i64 (2)), (.int .i64 (rcv)), t] ∧ Own eI H' t (lT) ∧ Nw H t ∧ Apart u4 t ∧ Apart q t ∧ Le H H' ∧ ruleP 2 rcv lT ∧ rcv ≤ 1) (fun σ18 H18 hP => ?_) (fun J18 hJ18 => ?_)
      · skip
        obtain ⟨t, lT, rcv, g0L18, g1L18, g7L18, ou4, oq, ot, nt, au4Xt, aqXt, lE, hT, hrc1⟩ := hP
        have hvy := hvy0.le lE
        have hvm := hvm0.le lE
        try simp only [g0L18, g1L18, g7L18]
        have hT2 := hT.2.1
        refine ob_i (oq.ldn rfl) ?_
        refine C.impl_KeepsSum ot.sl (by first | omega | assumption) (fun   H19    le20 => ?_)
        replace ou4 := ou4.le le20
        replace oq := oq.le le20
        replace ot := ot.le le20
        replace hvy := hvy.le le20
        replace hvm := hvm.le le20
        replace lE := lE.trans le20
        refine ob_i (vExt_20 _ _) ?_
        refine ob_i (vExt_21 _ _) ?_
        refine ob_i (oq.ldn rfl) ?_
        refine C.spec_KeepsSum ot.sl (by first | omega | assumption) (fun   H21    le22 => ?_)
        replace ou4 := ou4.le le22
        replace oq := oq.le le22
        replace ot := ot.le le22
        replace hvy := hvy.le le22
        replace hvm := hvm.le le22
        replace lE := lE.trans le22
        refine ob_i (vExt_20 _ _) ?_
        refine ob_i (vExt_21 _ _) ?_
        refine ob_i (oq.fa 1) ?_
        refine ob_i (oq.ld 1 rfl) ?_
        refine ob_i (vInt_mul (by omega) (by omega)) ?_
        refine ob_i (vInt_add (by omega) (by omega)) ?_
        refine C.laws_b10At (k := 3) (n := 5) hvm hb_vm hl_vm (by omega) (by omega) (fun x23 xp24 xq25 => ?_)
        replace xq25 := xq25 (by omega)
        refine ⟨Le.refl _, ?_⟩
        refine ob_i (vInt_add (by omega) (by omega)) ?_
        obtain ⟨n, hn⟩ : ∃ x : Int, x = ((2 * rcv) + 1) + x23 := ⟨_, rfl⟩
        rw [← hn]
        refine ob_i (oq.ldn rfl) ?_
        refine bS_i (enc := eI) (l := [1]) (by omega) rfl (by kernel_rfl) (fun u26 H27 ou26 nn28 le30 => ?_)
        have au4Xu26 : Apart u4 u26 := ou4.apart nn28
        have aqXu26 : Apart q u26 := oq.apart nn28
        have atXu26 : Apart t u26 := ot.apart nn28
        have nu26 : Nw H u26 := nn28.le lE
        replace ou4 := ou4.le le30
        replace oq := oq.le le30
        replace ot := ot.le le30
        replace hvy := hvy.le le30
        replace hvm := hvm.le le30
        replace lE := lE.trans le30
        refine C.impl_KeepsCount ot.sl ou26.sl (by first | omega | assumption) (by first | omega | assumption) (by first | omega | assumption) (by first | omega | assumption) (fun   H31    le32 => ?_)
        replace ou4 := ou4.le le32
        replace oq := oq.le le32
        replace ot := ot.le le32
        replace ou26 := ou26.le le32
        replace hvy := hvy.le le32
        replace hvm := hvm.le le32
        replace lE := lE.trans le32
        refine ob_i (vExt_20 _ _) ?_
        refine ob_i (vExt_21 _ _) ?_
        refine ob_i (oq.ldn rfl) ?_
        refine bS_i (enc := eI) (l := [1]) (by omega) rfl (by kernel_rfl) (fun u33 H34 ou33 nn35 le37 => ?_)
        have au4Xu33 : Apart u4 u33 := ou4.apart nn35
        have aqXu33 : Apart q u33 := oq.apart nn35
        have atXu33 : Apart t u33 := ot.apart nn35
        have au26Xu33 : Apart u26 u33 := ou26.apart nn35
        have nu33 : Nw H u33 := nn35.le lE
        replace ou4 := ou4.le le37
        replace oq := oq.le le37
        replace ot := ot.le le37
        replace ou26 := ou26.le le37
        replace hvy := hvy.le le37
        replace hvm := hvm.le le37
        replace lE := lE.trans le37
        refine C.spec_KeepsCount ot.sl ou33.sl (by first | omega | assumption) (by first | omega | assumption) (by first | omega | assumption) (by first | omega | assumption) (fun   H38    le39 => ?_)
        replace ou4 := ou4.le le39
        replace oq := oq.le le39
        replace ot := ot.le le39
        replace ou26 := ou26.le le39
        replace ou33 := ou33.le le39
        replace hvy := hvy.le le39
        replace hvm := hvm.le le39
        replace lE := lE.trans le39
        refine ob_i (vExt_20 _ _) ?_
        refine ob_i (vExt_21 _ _) ?_
        refine ob_i (oq.ldn rfl) ?_
        refine C.impl_FlowOf ot.sl (by first | omega | assumption) (fun hc40 u43 H41 ou43 nn44  le42 => ?_) (fun hc45  H46    le47 => ?_)
        · skip
          have hkeep := hc40
          have au4Xu43 : Apart u4 u43 := ou4.apart nn44
          have aqXu43 : Apart q u43 := oq.apart nn44
          have atXu43 : Apart t u43 := ot.apart nn44
          have au26Xu43 : Apart u26 u43 := ou26.apart nn44
          have au33Xu43 : Apart u33 u43 := ou33.apart nn44
          have nu43 : Nw H u43 := nn44.le lE
          replace ou4 := ou4.le le42
          replace oq := oq.le le42
          replace ot := ot.le le42
          replace ou26 := ou26.le le42
          replace ou33 := ou33.le le42
          replace hvy := hvy.le le42
          replace hvm := hvm.le le42
          replace lE := lE.trans le42
          refine ob_i (vExt_20 _ _) ?_
          refine ob_i (vExt_21 _ _) ?_
          refine ob_i (a := .bool false) rfl ?_
          refine gop_rf ?_
          refine gop_rf ?_
          refine ob_i (a := .bool false) rfl ?_
          refine ob_i (vPick_f _ _) ?_
          refine gop_rf ?_
          refine gop_rf ?_
          refine ob_i (a := .bool false) rfl ?_
          refine ob_i (vPick_f _ _) ?_
          refine gop_rf ?_
          refine gop_rf ?_
          refine ob_i (a := .bool false) rfl ?_
          refine ob_i (vPick_f _ _) ?_
          refine gop_rf ?_
          refine gop_rf ?_
          refine gop_rf ?_
          refine ob_i (vBool_neq_same _) ?_
          refine ob_i (vPick_f _ _) ?_
          refine gop_rf ?_
          refine gop_rf ?_
          refine gop_rf ?_
          refine ob_i (vBool_neq_same _) ?_
          refine ob_i (vPick_f _ _) ?_
          refine gop_rf ?_
          refine gop_rf ?_
          by_cases hc48 : keepP 2 rcv lT
          · skip
            refine gop_e (decide_eq_true hc48) ?_
            refine gop_rt ?_
            refine gop_e (decide_eq_true hc48) ?_
            refine gop_rt ?_
            refine ob_nd (fun hc49 => ?_) (fun hc49 => ?_)
            · skip
              refine gop_rf ?_
              refine ob_i (vPick_et (decide_eq_true hc48) _ _) ?_
              refine ob_i (vPick_f _ _) ?_
              refine gop_rf ?_
              refine gop_rf ?_
              refine gop_rf ?_
              refine gop_e (decide_eq_true hc48) ?_
              refine gop_rt ?_
              refine ob_i (oq.fa 1) ?_
              refine gop_e (decide_eq_true hc48) ?_
              refine gop_rt ?_
              refine ob_i (oq.ld 1 rfl) ?_
              refine gop_e (decide_eq_true hc48) ?_
              refine gop_rt ?_
              refine ob_i (vInt_gtr _ _ _) ?_
              refine gop_rf ?_
              refine ob_i (vPick_et (decide_eq_true hc48) _ _) ?_
              refine gop_rf ?_
              refine ob_i (vBool_neq _ _) ?_
              refine ob_i (vPick_f _ _) ?_
              refine cnd_i (fun hg50 => ?_) (fun hg50 => ?_)
              · skip
                exfalso
                have kk := fun g => keep_kc (n := n) hT (by omega) (by omega) (by omega) g
                first | contradiction | omega | (have f4 := flwL_len4 (rc := rcv) (T := lT) (by omega); omega) | (simp at hg50; done) | exact absurd (kk (by assumption)) (by assumption) | (simp_all; done) | (simp_all; omega)
              · skip
                refine ob_i (a := .bool false) rfl ?_
                refine cnd_f1 ?_
                refine C.spec_B10Ring hvy (by first | omega | assumption) (by first | omega | assumption) (by first | omega | assumption) (by first | omega | assumption) (by first | omega | assumption) (by first | omega | assumption) (fun  ls51 hls51 u54 H52 ou54 nn55  le53 => ?_)
                have au4Xu54 : Apart u4 u54 := ou4.apart nn55
                have aqXu54 : Apart q u54 := oq.apart nn55
                have atXu54 : Apart t u54 := ot.apart nn55
                have au26Xu54 : Apart u26 u54 := ou26.apart nn55
                have au33Xu54 : Apart u33 u54 := ou33.apart nn55
                have au43Xu54 : Apart u43 u54 := ou43.apart nn55
                have nu54 : Nw H u54 := nn55.le lE
                replace ou4 := ou4.le le53
                replace oq := oq.le le53
                replace ot := ot.le le53
                replace ou26 := ou26.le le53
                replace ou33 := ou33.le le53
                replace ou43 := ou43.le le53
                replace hvy := hvy.le le53
                replace hvm := hvm.le le53
                replace lE := lE.trans le53
                refine ob_i (oq.ldn rfl) ?_
                refine C.spec_StepRing ot.sl ou54.sl (by first | omega | assumption) (by exact hls51.2) (fun  u58 H56 ou58 nn59  le57 => ?_)
                have au4Xu58 : Apart u4 u58 := ou4.apart nn59
                have aqXu58 : Apart q u58 := oq.apart nn59
                have atXu58 : Apart t u58 := ot.apart nn59
                have au26Xu58 : Apart u26 u58 := ou26.apart nn59
                have au33Xu58 : Apart u33 u58 := ou33.apart nn59
                have au43Xu58 : Apart u43 u58 := ou43.apart nn59
                have au54Xu58 : Apart u54 u58 := ou54.apart nn59
                have nu58 : Nw H u58 := nn59.le lE
                replace ou4 := ou4.le le57
                replace oq := oq.le le57
                replace ot := ot.le le57
                replace ou26 := ou26.le le57
                replace ou33 := ou33.le le57
                replace ou43 := ou43.le le57
                replace ou54 := ou54.le le57
                replace hvy := hvy.le le57
                replace hvm := hvm.le le57
                replace lE := lE.trans le57
                refine ob_i (vExt_20 _ _) ?_
                refine ob_i (vExt_21 _ _) ?_
                refine ob_i (a := .bool false) rfl ?_
                refine gop_rf ?_
                refine gop_rf ?_
                refine ob_i (ou43.len) ?_
                refine gop_rf ?_
                refine ob_i (vInt_neq _ _ _) ?_
                refine ob_i (vPick_f _ _) ?_
                refine cnd_d (fun hg60 => ?_) (fun hg60 => ?_)
                · skip
                  exfalso
                  have kk := fun g => keep_kc (n := n) hT (by omega) (by omega) (by omega) g
                  first | contradiction | omega | (have f4 := flwL_len4 (rc := rcv) (T := lT) (by omega); omega) | (simp at hg60; done) | exact absurd (kk (by assumption)) (by assumption) | (simp_all; done) | (simp_all; omega)
                · skip
                  refine jn_i (fun σ' H' => Own eI H' u4 ([184, 226, 170, 240, 204, 110, 90, 30]) ∧ Cel H' q [(.int .i64 (2)), (.int .i64 (rcv)), t] ∧ Own eI H' t (lT) ∧ Own eI H' u26 ([1]) ∧ Own eI H' u33 ([1]) ∧ Own eI H' u43 (flwL 2 rcv lT) ∧ Own eI H' u54 (ls51) ∧ Own eI H' u58 (stpL 2 rcv lT ls51) ∧ Le H H' ∧ True) (fun σ61 H61 hP => ?_) (fun J61 hJ61 => ?_)
                  · skip
                    obtain ⟨ou4, oq, ot, ou26, ou33, ou43, ou54, ou58, lE, ho0⟩ := hP
                    have hvy := hvy0.le lE
                    have hvm := hvm0.le lE
                    skip
                    exact hk   _    lE
                  refine ⟨fun n' σ' H' => ∃ i : Nat, n' = n.toNat - i ∧ i ≤ n.toNat ∧ σ' 13 = (.int .i64 (n)) ∧ σ' 18 = u43 ∧ σ' 20 = u54 ∧ σ' 21 = u58 ∧ σ' 23 = (.int .i64 ((i : Int))) ∧ Own eI H' u4 ([184, 226, 170, 240, 204, 110, 90, 30]) ∧ Cel H' q [(.int .i64 (2)), (.int .i64 (rcv)), t] ∧ Own eI H' t (lT) ∧ Own eI H' u26 ([1]) ∧ Own eI H' u33 ([1]) ∧ Own eI H' u43 (flwL 2 rcv lT) ∧ Own eI H' u54 (ls51) ∧ Own eI H' u58 (stpL 2 rcv lT ls51) ∧ Le H H',
                    ⟨_, 0, rfl, by omega, rfl, rfl, rfl, rfl, (congrArg (Value.int .i64) (by first | omega | rfl | (simp; done))), ou4, oq, ot, ou26, ou33, ou43, ou54, ou58, lE⟩, ?_⟩
                  rintro n62 σ62 H62 ⟨i, rfl, hiN, g13L62, g18L62, g20L62, g21L62, g23L62, ou4, oq, ot, ou26, ou33, ou43, ou54, ou58, lE⟩
                  have hvy := hvy0.le lE
                  have hvm := hvm0.le lE
                  try simp only [g13L62, g18L62, g20L62, g21L62, g23L62]
                  have m1 := Int.emod_nonneg ((i : Int) + n - 1) (b := n) (by omega)
                  have m2 := Int.emod_lt_of_pos ((i : Int) + n - 1) (b := n) (by omega)
                  have m3 := Int.emod_nonneg ((i : Int) + 1) (b := n) (by omega)
                  have m4 := Int.emod_lt_of_pos ((i : Int) + 1) (b := n) (by omega)
                  have hR1 := hls51.1
                  have sl := stpL_len 2 rcv lT ls51
                  have f4 := flwL_len4 (rc := rcv) (T := lT) (by omega)
                  skip
                  refine ob_i (vInt_lss _ _ _) ?_
                  refine cnd_d (fun hg63 => ?_) (fun hg63 => ?_)
                  · skip
                    have ti := hg63
                    have ra := hls51.2.1 _ (at_mem 0 ls51 (i := ((i : Int) + n - 1) % n) (by omega) (by omega))
                    have rb := hls51.2.1 _ (at_mem 0 ls51 (i := (i : Int)) (by omega) (by omega))
                    have rd := hls51.2.1 _ (at_mem 0 ls51 (i := ((i : Int) + 1) % n) (by omega) (by omega))
                    have fa := flw_in hT _ (at_mem 0 (flwL 2 rcv lT) (i := 2 * at_ 0 ls51 (((i : Int) + n - 1) % n) + at_ 0 ls51 ((i : Int))) (by omega) (by omega))
                    have fb := flw_in hT _ (at_mem 0 (flwL 2 rcv lT) (i := 2 * at_ 0 ls51 ((i : Int)) + at_ 0 ls51 (((i : Int) + 1) % n)) (by omega) (by omega))
                    have sr := (stpL_ring hT hls51.2).1 _ (at_mem 0 (stpL 2 rcv lT ls51) (i := (i : Int)) (by omega) (by omega))
                    refine ob_i (vInt_add (by omega) (by omega)) ?_
                    refine ob_i (vInt_sub (by omega) (by omega)) ?_
                    have rm64 := And.intro (Int.emod_nonneg (((i : Int) + n) - 1) (b := n) (by omega)) (Int.emod_lt_of_pos (((i : Int) + n) - 1) (b := n) (by omega))
                    refine ob_i (vInt_remN (by omega) (by omega)) ?_
                    refine ob_i (ou54.sl.ix (by omega) (by omega)) ?_
                    refine ob_i (ou54.sl.ld 0 (by omega) (by omega)) ?_
                    refine ob_i (vInt_mul (by omega) (by omega)) ?_
                    refine ob_i (ou54.sl.ix (by omega) (by omega)) ?_
                    refine ob_i (ou54.sl.ld 0 (by omega) (by omega)) ?_
                    refine ob_i (vInt_add (by omega) (by omega)) ?_
                    refine ob_i (ou54.sl.ix (by omega) (by omega)) ?_
                    refine ob_i (ou54.sl.ld 0 (by omega) (by omega)) ?_
                    refine ob_i (vInt_mul (by omega) (by omega)) ?_
                    refine ob_i (vInt_add (by omega) (by omega)) ?_
                    have rm65 := And.intro (Int.emod_nonneg ((i : Int) + 1) (b := n) (by omega)) (Int.emod_lt_of_pos ((i : Int) + 1) (b := n) (by omega))
                    refine ob_i (vInt_remN (by omega) (by omega)) ?_
                    refine ob_i (ou54.sl.ix (by omega) (by omega)) ?_
                    refine ob_i (ou54.sl.ld 0 (by omega) (by omega)) ?_
                    refine ob_i (vInt_add (by omega) (by omega)) ?_
                    refine ob_i (ou58.sl.ix (by omega) (by omega)) ?_
                    refine ob_i (ou58.sl.ld 0 (by omega) (by omega)) ?_
                    refine ob_i (ou54.sl.ix (by omega) (by omega)) ?_
                    refine ob_i (ou54.sl.ld 0 (by omega) (by omega)) ?_
                    refine ob_i (vInt_sub (by omega) (by omega)) ?_
                    refine ob_i (ou43.sl.ix (by omega) (by omega)) ?_
                    refine ob_i (ou43.sl.ld 0 (by omega) (by omega)) ?_
                    refine ob_i (ou43.sl.ix (by omega) (by omega)) ?_
                    refine ob_i (ou43.sl.ld 0 (by omega) (by omega)) ?_
                    refine ob_i (vInt_sub (by omega) (by omega)) ?_
                    refine ob_i (vInt_neq _ _ _) ?_
                    refine cnd_d (fun hg66 => ?_) (fun hg66 => ?_)
                    · skip
                      refine retK (K := K) (v' := (.bool false)) rfl ?_
                      exfalso
                      exact hg66 (keep_flowL hT (by omega) hls51.2 hls51.1 (by omega) (by omega) hkeep.2)
                    · skip
                      refine ob_i (vInt_add (by omega) (by omega)) ?_
                      exact nxt (n.toNat - (i + 1)) (by omega) ⟨i + 1, rfl, by omega, g13L62, g18L62, g20L62, g21L62, (congrArg (Value.int .i64) (by first | omega | rfl | (simp; done))), ou4, oq, ot, ou26, ou33, ou43, ou54, ou58, lE⟩
                  · skip
                    have ti := hg63
                    exact hJ61 _ _ ⟨ou4, oq, ot, ou26, ou33, ou43, ou54, ou58, lE, trivial⟩
            · skip
              refine gop_rf ?_
              refine ob_i (vPick_et (decide_eq_true hc48) _ _) ?_
              refine ob_i (vPick_f _ _) ?_
              refine gop_st ?_
              refine gop_st ?_
              refine gop_st ?_
              refine gop_u ?_
              refine gop_u ?_
              refine gop_u ?_
              refine gop_st ?_
              refine gop_st ?_
              refine ob_i (vPick_t _ _) ?_
              refine cnd_t1 ?_
              exfalso
              have kk := fun g => keep_kc (n := n) hT (by omega) (by omega) (by omega) g
              first | contradiction | omega | (have f4 := flwL_len4 (rc := rcv) (T := lT) (by omega); omega) | (simp at hc49; done) | exact absurd (kk (by assumption)) (by assumption) | (simp_all; done) | (simp_all; omega)
          · skip
            refine gop_e (decide_eq_false hc48) ?_
            refine gop_sf ?_
            refine gop_e (decide_eq_false hc48) ?_
            refine gop_sf ?_
            refine gop_rf ?_
            refine ob_i (vPick_ef (decide_eq_false hc48) _ _) ?_
            refine ob_i (vPick_f _ _) ?_
            refine gop_rf ?_
            refine gop_rf ?_
            refine gop_rf ?_
            refine gop_e (decide_eq_false hc48) ?_
            refine gop_sf ?_
            refine gop_e (decide_eq_false hc48) ?_
            refine gop_sf ?_
            refine gop_e (decide_eq_false hc48) ?_
            refine gop_sf ?_
            refine gop_rf ?_
            refine ob_i (vPick_ef (decide_eq_false hc48) _ _) ?_
            refine gop_rf ?_
            refine ob_i (vBool_neq _ _) ?_
            refine ob_i (vPick_f _ _) ?_
            refine cnd_i (fun hg67 => ?_) (fun hg67 => ?_)
            · skip
              exfalso
              have kk := fun g => keep_kc (n := n) hT (by omega) (by omega) (by omega) g
              first | contradiction | omega | (have f4 := flwL_len4 (rc := rcv) (T := lT) (by omega); omega) | (simp at hg67; done) | exact absurd (kk (by assumption)) (by assumption) | (simp_all; done) | (simp_all; omega)
            · skip
              refine ob_i (a := .bool false) rfl ?_
              refine cnd_f1 ?_
              refine C.spec_B10Ring hvy (by first | omega | assumption) (by first | omega | assumption) (by first | omega | assumption) (by first | omega | assumption) (by first | omega | assumption) (by first | omega | assumption) (fun  ls68 hls68 u71 H69 ou71 nn72  le70 => ?_)
              have au4Xu71 : Apart u4 u71 := ou4.apart nn72
              have aqXu71 : Apart q u71 := oq.apart nn72
              have atXu71 : Apart t u71 := ot.apart nn72
              have au26Xu71 : Apart u26 u71 := ou26.apart nn72
              have au33Xu71 : Apart u33 u71 := ou33.apart nn72
              have au43Xu71 : Apart u43 u71 := ou43.apart nn72
              have nu71 : Nw H u71 := nn72.le lE
              replace ou4 := ou4.le le70
              replace oq := oq.le le70
              replace ot := ot.le le70
              replace ou26 := ou26.le le70
              replace ou33 := ou33.le le70
              replace ou43 := ou43.le le70
              replace hvy := hvy.le le70
              replace hvm := hvm.le le70
              replace lE := lE.trans le70
              refine ob_i (oq.ldn rfl) ?_
              refine C.spec_StepRing ot.sl ou71.sl (by first | omega | assumption) (by exact hls68.2) (fun  u75 H73 ou75 nn76  le74 => ?_)
              have au4Xu75 : Apart u4 u75 := ou4.apart nn76
              have aqXu75 : Apart q u75 := oq.apart nn76
              have atXu75 : Apart t u75 := ot.apart nn76
              have au26Xu75 : Apart u26 u75 := ou26.apart nn76
              have au33Xu75 : Apart u33 u75 := ou33.apart nn76
              have au43Xu75 : Apart u43 u75 := ou43.apart nn76
              have au71Xu75 : Apart u71 u75 := ou71.apart nn76
              have nu75 : Nw H u75 := nn76.le lE
              replace ou4 := ou4.le le74
              replace oq := oq.le le74
              replace ot := ot.le le74
              replace ou26 := ou26.le le74
              replace ou33 := ou33.le le74
              replace ou43 := ou43.le le74
              replace ou71 := ou71.le le74
              replace hvy := hvy.le le74
              replace hvm := hvm.le le74
              replace lE := lE.trans le74
              refine ob_i (vExt_20 _ _) ?_
              refine ob_i (vExt_21 _ _) ?_
              refine ob_i (a := .bool false) rfl ?_
              refine gop_rf ?_
              refine gop_rf ?_
              refine ob_i (ou43.len) ?_
              refine gop_rf ?_
              refine ob_i (vInt_neq _ _ _) ?_
              refine ob_i (vPick_f _ _) ?_
              refine cnd_d (fun hg77 => ?_) (fun hg77 => ?_)
              · skip
                exfalso
                have kk := fun g => keep_kc (n := n) hT (by omega) (by omega) (by omega) g
                first | contradiction | omega | (have f4 := flwL_len4 (rc := rcv) (T := lT) (by omega); omega) | (simp at hg77; done) | exact absurd (kk (by assumption)) (by assumption) | (simp_all; done) | (simp_all; omega)
              · skip
                refine jn_i (fun σ' H' => Own eI H' u4 ([184, 226, 170, 240, 204, 110, 90, 30]) ∧ Cel H' q [(.int .i64 (2)), (.int .i64 (rcv)), t] ∧ Own eI H' t (lT) ∧ Own eI H' u26 ([1]) ∧ Own eI H' u33 ([1]) ∧ Own eI H' u43 (flwL 2 rcv lT) ∧ Own eI H' u71 (ls68) ∧ Own eI H' u75 (stpL 2 rcv lT ls68) ∧ Le H H' ∧ True) (fun σ78 H78 hP => ?_) (fun J78 hJ78 => ?_)
                · skip
                  obtain ⟨ou4, oq, ot, ou26, ou33, ou43, ou71, ou75, lE, ho0⟩ := hP
                  have hvy := hvy0.le lE
                  have hvm := hvm0.le lE
                  skip
                  exact hk   _    lE
                refine ⟨fun n' σ' H' => ∃ i : Nat, n' = n.toNat - i ∧ i ≤ n.toNat ∧ σ' 13 = (.int .i64 (n)) ∧ σ' 18 = u43 ∧ σ' 20 = u71 ∧ σ' 21 = u75 ∧ σ' 23 = (.int .i64 ((i : Int))) ∧ Own eI H' u4 ([184, 226, 170, 240, 204, 110, 90, 30]) ∧ Cel H' q [(.int .i64 (2)), (.int .i64 (rcv)), t] ∧ Own eI H' t (lT) ∧ Own eI H' u26 ([1]) ∧ Own eI H' u33 ([1]) ∧ Own eI H' u43 (flwL 2 rcv lT) ∧ Own eI H' u71 (ls68) ∧ Own eI H' u75 (stpL 2 rcv lT ls68) ∧ Le H H',
                  ⟨_, 0, rfl, by omega, rfl, rfl, rfl, rfl, (congrArg (Value.int .i64) (by first | omega | rfl | (simp; done))), ou4, oq, ot, ou26, ou33, ou43, ou71, ou75, lE⟩, ?_⟩
                rintro n79 σ79 H79 ⟨i, rfl, hiN, g13L79, g18L79, g20L79, g21L79, g23L79, ou4, oq, ot, ou26, ou33, ou43, ou71, ou75, lE⟩
                have hvy := hvy0.le lE
                have hvm := hvm0.le lE
                try simp only [g13L79, g18L79, g20L79, g21L79, g23L79]
                have m1 := Int.emod_nonneg ((i : Int) + n - 1) (b := n) (by omega)
                have m2 := Int.emod_lt_of_pos ((i : Int) + n - 1) (b := n) (by omega)
                have m3 := Int.emod_nonneg ((i : Int) + 1) (b := n) (by omega)
                have m4 := Int.emod_lt_of_pos ((i : Int) + 1) (b := n) (by omega)
                have hR1 := hls68.1
                have sl := stpL_len 2 rcv lT ls68
                have f4 := flwL_len4 (rc := rcv) (T := lT) (by omega)
                skip
                refine ob_i (vInt_lss _ _ _) ?_
                refine cnd_d (fun hg80 => ?_) (fun hg80 => ?_)
                · skip
                  have ti := hg80
                  have ra := hls68.2.1 _ (at_mem 0 ls68 (i := ((i : Int) + n - 1) % n) (by omega) (by omega))
                  have rb := hls68.2.1 _ (at_mem 0 ls68 (i := (i : Int)) (by omega) (by omega))
                  have rd := hls68.2.1 _ (at_mem 0 ls68 (i := ((i : Int) + 1) % n) (by omega) (by omega))
                  have fa := flw_in hT _ (at_mem 0 (flwL 2 rcv lT) (i := 2 * at_ 0 ls68 (((i : Int) + n - 1) % n) + at_ 0 ls68 ((i : Int))) (by omega) (by omega))
                  have fb := flw_in hT _ (at_mem 0 (flwL 2 rcv lT) (i := 2 * at_ 0 ls68 ((i : Int)) + at_ 0 ls68 (((i : Int) + 1) % n)) (by omega) (by omega))
                  have sr := (stpL_ring hT hls68.2).1 _ (at_mem 0 (stpL 2 rcv lT ls68) (i := (i : Int)) (by omega) (by omega))
                  refine ob_i (vInt_add (by omega) (by omega)) ?_
                  refine ob_i (vInt_sub (by omega) (by omega)) ?_
                  have rm81 := And.intro (Int.emod_nonneg (((i : Int) + n) - 1) (b := n) (by omega)) (Int.emod_lt_of_pos (((i : Int) + n) - 1) (b := n) (by omega))
                  refine ob_i (vInt_remN (by omega) (by omega)) ?_
                  refine ob_i (ou71.sl.ix (by omega) (by omega)) ?_
                  refine ob_i (ou71.sl.ld 0 (by omega) (by omega)) ?_
                  refine ob_i (vInt_mul (by omega) (by omega)) ?_
                  refine ob_i (ou71.sl.ix (by omega) (by omega)) ?_
                  refine ob_i (ou71.sl.ld 0 (by omega) (by omega)) ?_
                  refine ob_i (vInt_add (by omega) (by omega)) ?_
                  refine ob_i (ou71.sl.ix (by omega) (by omega)) ?_
                  refine ob_i (ou71.sl.ld 0 (by omega) (by omega)) ?_
                  refine ob_i (vInt_mul (by omega) (by omega)) ?_
                  refine ob_i (vInt_add (by omega) (by omega)) ?_
                  have rm82 := And.intro (Int.emod_nonneg ((i : Int) + 1) (b := n) (by omega)) (Int.emod_lt_of_pos ((i : Int) + 1) (b := n) (by omega))
                  refine ob_i (vInt_remN (by omega) (by omega)) ?_
                  refine ob_i (ou71.sl.ix (by omega) (by omega)) ?_
                  refine ob_i (ou71.sl.ld 0 (by omega) (by omega)) ?_
                  refine ob_i (vInt_add (by omega) (by omega)) ?_
                  refine ob_i (ou75.sl.ix (by omega) (by omega)) ?_
                  refine ob_i (ou75.sl.ld 0 (by omega) (by omega)) ?_
                  refine ob_i (ou71.sl.ix (by omega) (by omega)) ?_
                  refine ob_i (ou71.sl.ld 0 (by omega) (by omega)) ?_
                  refine ob_i (vInt_sub (by omega) (by omega)) ?_
                  refine ob_i (ou43.sl.ix (by omega) (by omega)) ?_
                  refine ob_i (ou43.sl.ld 0 (by omega) (by omega)) ?_
                  refine ob_i (ou43.sl.ix (by omega) (by omega)) ?_
                  refine ob_i (ou43.sl.ld 0 (by omega) (by omega)) ?_
                  refine ob_i (vInt_sub (by omega) (by omega)) ?_
                  refine ob_i (vInt_neq _ _ _) ?_
                  refine cnd_d (fun hg83 => ?_) (fun hg83 => ?_)
                  · skip
                    refine retK (K := K) (v' := (.bool false)) rfl ?_
                    exfalso
                    exact hg83 (keep_flowL hT (by omega) hls68.2 hls68.1 (by omega) (by omega) hkeep.2)
                  · skip
                    refine ob_i (vInt_add (by omega) (by omega)) ?_
                    exact nxt (n.toNat - (i + 1)) (by omega) ⟨i + 1, rfl, by omega, g13L79, g18L79, g20L79, g21L79, (congrArg (Value.int .i64) (by first | omega | rfl | (simp; done))), ou4, oq, ot, ou26, ou33, ou43, ou71, ou75, lE⟩
                · skip
                  have ti := hg80
                  exact hJ78 _ _ ⟨ou4, oq, ot, ou26, ou33, ou43, ou71, ou75, lE, trivial⟩
        · skip
          replace ou4 := ou4.le le47
          replace oq := oq.le le47
          replace ot := ot.le le47
          replace ou26 := ou26.le le47
          replace ou33 := ou33.le le47
          replace hvy := hvy.le le47
          replace hvm := hvm.le le47
          replace lE := lE.trans le47
          refine ob_i (vExt_20 _ _) ?_
          refine ob_i (vExt_21 _ _) ?_
          refine ob_i (a := .bool false) rfl ?_
          refine gop_rf ?_
          refine gop_rf ?_
          refine ob_i (a := .bool false) rfl ?_
          refine ob_i (vPick_f _ _) ?_
          refine gop_rf ?_
          refine gop_rf ?_
          refine ob_i (a := .bool false) rfl ?_
          refine ob_i (vPick_f _ _) ?_
          refine gop_rf ?_
          refine gop_rf ?_
          refine ob_i (a := .bool false) rfl ?_
          refine ob_i (vPick_f _ _) ?_
          refine gop_rf ?_
          refine gop_rf ?_
          refine gop_rf ?_
          refine ob_i (vBool_neq_same _) ?_
          refine ob_i (vPick_f _ _) ?_
          refine gop_rf ?_
          refine gop_rf ?_
          refine gop_rf ?_
          refine ob_i (vBool_neq_same _) ?_
          refine ob_i (vPick_f _ _) ?_
          refine gop_rf ?_
          refine gop_rf ?_
          by_cases hc84 : keepP 2 rcv lT
          · skip
            refine gop_e (decide_eq_true hc84) ?_
            refine gop_rt ?_
            refine gop_e (decide_eq_true hc84) ?_
            refine gop_rt ?_
            refine ob_nd (fun hc85 => ?_) (fun hc85 => ?_)
            · skip
              refine gop_rf ?_
              refine ob_i (vPick_et (decide_eq_true hc84) _ _) ?_
              refine ob_i (vPick_f _ _) ?_
              refine gop_rf ?_
              refine gop_rf ?_
              refine gop_rf ?_
              refine gop_e (decide_eq_true hc84) ?_
              refine gop_rt ?_
              refine ob_i (oq.fa 1) ?_
              refine gop_e (decide_eq_true hc84) ?_
              refine gop_rt ?_
              refine ob_i (oq.ld 1 rfl) ?_
              refine gop_e (decide_eq_true hc84) ?_
              refine gop_rt ?_
              refine ob_i (vInt_gtr _ _ _) ?_
              refine gop_rf ?_
              refine ob_i (vPick_et (decide_eq_true hc84) _ _) ?_
              refine gop_rf ?_
              refine ob_i (vBool_neq _ _) ?_
              refine ob_i (vPick_f _ _) ?_
              refine cnd_i (fun hg86 => ?_) (fun hg86 => ?_)
              · skip
                exfalso
                have kk := fun g => keep_kc (n := n) hT (by omega) (by omega) (by omega) g
                first | contradiction | omega | (have f4 := flwL_len4 (rc := rcv) (T := lT) (by omega); omega) | (simp at hg86; done) | exact absurd (kk (by assumption)) (by assumption) | (simp_all; done) | (simp_all; omega)
              · skip
                refine ob_i (a := .bool true) rfl ?_
                refine cnd_t1 ?_
                skip
                exact hk   _    lE
            · skip
              refine gop_rf ?_
              refine ob_i (vPick_et (decide_eq_true hc84) _ _) ?_
              refine ob_i (vPick_f _ _) ?_
              refine gop_st ?_
              refine gop_st ?_
              refine gop_st ?_
              refine gop_u ?_
              refine gop_u ?_
              refine gop_u ?_
              refine gop_st ?_
              refine gop_st ?_
              refine ob_i (vPick_t _ _) ?_
              refine cnd_t1 ?_
              exfalso
              have kk := fun g => keep_kc (n := n) hT (by omega) (by omega) (by omega) g
              first | contradiction | omega | (have f4 := flwL_len4 (rc := rcv) (T := lT) (by omega); omega) | (simp at hc85; done) | exact absurd (kk (by assumption)) (by assumption) | (simp_all; done) | (simp_all; omega)
          · skip
            refine gop_e (decide_eq_false hc84) ?_
            refine gop_sf ?_
            refine gop_e (decide_eq_false hc84) ?_
            refine gop_sf ?_
            refine gop_rf ?_
            refine ob_i (vPick_ef (decide_eq_false hc84) _ _) ?_
            refine ob_i (vPick_f _ _) ?_
            refine gop_rf ?_
            refine gop_rf ?_
            refine gop_rf ?_
            refine gop_e (decide_eq_false hc84) ?_
            refine gop_sf ?_
            refine gop_e (decide_eq_false hc84) ?_
            refine gop_sf ?_
            refine gop_e (decide_eq_false hc84) ?_
            refine gop_sf ?_
            refine gop_rf ?_
            refine ob_i (vPick_ef (decide_eq_false hc84) _ _) ?_
            refine gop_rf ?_
            refine ob_i (vBool_neq_same _) ?_
            refine ob_i (vPick_f _ _) ?_
            refine cnd_f1 ?_
            refine ob_i (a := .bool true) rfl ?_
            refine cnd_t1 ?_
            skip
            exact hk   _    lE
      refine C.laws_b10At (k := 1) (n := 3) hvm hb_vm hl_vm (by omega) (by omega) (fun x87 xp88 xq89 => ?_)
      replace xq89 := xq89 (by omega)
      refine ob_i (vInt_eql _ _ _) ?_
      refine cnd_d (fun hg90 => ?_) (fun hg90 => ?_)
      · skip
        refine C.laws_b10At (k := 2) (n := 2) hvm hb_vm hl_vm (by omega) (by omega) (fun x91 xp92 xq93 => ?_)
        replace xq93 := xq93 (by omega)
        refine C.spec_B10Rule hvy (by first | omega | assumption) (by first | omega | assumption) (by first | omega | assumption) (by first | omega | assumption) (fun  ls94 hls94 u97 H95 ou97 nn98  le96 => ?_)
        have au4Xu97 : Apart u4 u97 := ou4.apart nn98
        have aqXu97 : Apart q u97 := oq.apart nn98
        have auXu97 : Apart u u97 := ou.apart nn98
        have nu97 : Nw H u97 := nn98.le lE
        replace ou4 := ou4.le le96
        replace oq := oq.le le96
        replace ou := ou.le le96
        replace hvy := hvy.le le96
        replace hvm := hvm.le le96
        replace lE := lE.trans le96
        refine oq.stn (ws := [(.int .i64 (2)), (.int .i64 (x91)), u97]) rfl rfl (oc1 rfl (oc1 rfl (oc1 ou97.one oc0))) (fun H99 oq off100 => ?_)
        replace ou4 := ou4.off off100 au4Xq
        replace ou := ou.off off100 aqXu.symm
        replace ou97 := ou97.off off100 aqXu97.symm
        replace hvy := hvy0.le (off100.le lE nq)
        replace hvm := hvm0.le (off100.le lE nq)
        replace lE := off100.le lE nq
        replace oq : Cel H99 q [(.int .i64 (2)), (.int .i64 (x91)), u97] := oq
        exact hJ18 _ _ ⟨u97, _, _, g0L17, g1L17, g7L17, ou4, oq, ou97, nu97, au4Xu97, aqXu97, lE, (by first | assumption | exact ruleP8 hln hLa), (by omega)⟩
      · skip
        exact hJ18 _ _ ⟨u, _, _, g0L17, g1L17, g7L17, ou4, oq, ou, nu, au4Xu, aqXu, lE, (by first | assumption | exact ruleP8 hln hLa), (by omega)⟩
    refine ⟨fun n' σ' H' => ∃ i : Nat, n' = 8 - i ∧ i ≤ 8 ∧ ∃ u, ∃ lu, σ' 0 = vy ∧ σ' 1 = vm ∧ σ' 6 = (.int .i64 (num)) ∧ σ' 7 = q ∧ σ' 8 = (.int .u64 ((i : Int))) ∧ Own eI H' u4 ([184, 226, 170, 240, 204, 110, 90, 30]) ∧ Cel H' q [(.int .i64 (2)), (.int .i64 (1)), u] ∧ Own eI H' u (lu) ∧ Nw H u ∧ Apart u4 u ∧ Apart q u ∧ Le H H' ∧ lu.length = i ∧ (∀ x ∈ lu, 0 ≤ x ∧ x ≤ 1),
      ⟨_, 0, rfl, by omega, _, [], rfl, rfl, rfl, rfl, rfl, ou4, oq, (Own.cast (by first | rfl | (simp; done)) (Own.nil_of none)), (fun b hb => by simp [bk] at hb), (fun b _ hb => by simp [bk] at hb), (fun b _ hb => by simp [bk] at hb), lE, rfl, (by simp)⟩, ?_⟩
    rintro n101 σ101 H101 ⟨i, rfl, hiN, u, lu, g0L101, g1L101, g6L101, g7L101, g8L101, ou4, oq, ou, nu, au4Xu, aqXu, lE, hln, hLa⟩
    have hvy := hvy0.le lE
    have hvm := hvm0.le lE
    try simp only [g6L101, g7L101, g8L101]
    have nb : 0 ≤ num ∧ num ≤ 255 := by rw [hnum]; exact (show ∀ y ∈ ([184, 226, 170, 240, 204, 110, 90, 30] : List Int), 0 ≤ y ∧ y ≤ 255 by decide) _ (at_mem 0 _ (by omega) (by simp; omega))
    have dv0 : 0 ≤ num / 2 ^ (i : Int).toNat ∧ num / 2 ^ (i : Int).toNat ≤ num := ⟨Int.ediv_nonneg (by omega) (Int.pow_nonneg (by omega)), Int.ediv_le_self _ (by omega)⟩
    refine ob_i (vInt_lss _ _ _) ?_
    refine cnd_d (fun hg102 => ?_) (fun hg102 => ?_)
    · skip
      have ti := hg102
      refine ob_i (oq.fa 2) ?_
      refine ob_i (oq.ld 2 rfl) ?_
      refine ob_i (vInt_shrN (by omega) (by omega)) ?_
      refine ob_i (vInt_and1 (by omega) (by omega)) ?_
      refine bS_i (enc := eI) (l := [(num / 2 ^ ((i : Int) : Int).toNat) % 2]) (by omega) rfl (by kernel_rfl) (fun u103 H104 ou103 nn105 le107 => ?_)
      have au4Xu103 : Apart u4 u103 := ou4.apart nn105
      have aqXu103 : Apart q u103 := oq.apart nn105
      have auXu103 : Apart u u103 := ou.apart nn105
      have nu103 : Nw H u103 := nn105.le lE
      replace ou4 := ou4.le le107
      replace oq := oq.le le107
      replace ou := ou.le le107
      replace hvy := hvy.le le107
      replace hvm := hvm.le le107
      replace lE := lE.trans le107
      refine apd_any ou ou103.sl (fun _ => rfl) (by omega) (by first | omega | (simp only [List.length_cons, List.length_nil, List.length_append, List.length_replicate, List.length_map, List.length_range]; omega)) (fun u111 H108 ou111 off109 hb110 => ?_)
      have au4Xu111 : Apart u4 u111 := Apart.ap2 ou4.known au4Xu hb110
      have aqXu111 : Apart q u111 := Apart.ap2 oq.known aqXu hb110
      have au103Xu111 : Apart u103 u111 := Apart.ap2 ou103.known auXu103.symm hb110
      have nu111 : Nw H u111 := Nw.ap2 nu lE hb110
      replace ou4 := ou4.off off109 au4Xu
      replace oq := oq.off off109 aqXu
      replace ou103 := ou103.off off109 auXu103.symm
      replace hvy := hvy0.le (off109.le lE nu)
      replace hvm := hvm0.le (off109.le lE nu)
      replace lE := off109.le lE nu
      refine ob_i (oq.fa 2) ?_
      refine oq.st (by simp) ou111.one ou111.cells (fun H112 oq off113 => ?_)
      replace ou4 := ou4.off off113 au4Xq
      replace ou103 := ou103.off off113 aqXu103.symm
      replace ou111 := ou111.off off113 aqXu111.symm
      replace hvy := hvy0.le (off113.le lE nq)
      replace hvm := hvm0.le (off113.le lE nq)
      replace lE := off113.le lE nq
      replace oq : Cel H112 q [(.int .i64 (2)), (.int .i64 (1)), u111] := oq
      refine ob_i (vInt_addU64 (by omega) (by omega)) ?_
      exact nxt (8 - (i + 1)) (by omega) ⟨i + 1, rfl, by omega, u111, (lu ++ ([(num / 2 ^ ((i : Int) : Int).toNat) % 2])), g0L101, g1L101, g6L101, g7L101, (congrArg (Value.int .u64) (by omega)), ou4, oq, ou111, nu111, au4Xu111, aqXu111, lE, (by rw [List.length_append, hln]; rfl), (snoc_all hLa (by omega))⟩
    · skip
      have ti := hg102
      exact hJ17 _ _ ⟨u, _, g0L101, g1L101, g7L101, ou4, oq, ou, nu, au4Xu, aqXu, lE, (by omega), hLa⟩
theorem L.FnKeptSums {vy vm : Value} {l m : List Int} {H : Hp} {K : Value → Hp → Prop} (h0 : Sl eU H vy l) (h1 : Sl eU H vm m) (l0 : l.length ≤ 9223372036854775807) (l1 : m.length ≤ 9223372036854775807) (b0 : bytP l) (b1 : bytP m) (hk : ∀ H', Le H H' → K (.bool true) H') : HT prg I.laws_FnKeptSums [vy, vm].toArray H K :=
  C.laws_FnKeptSums h0 h1 b0 l0 b1 l1 hk
end Go.Proofs.Ytelcmohhjkgjoaa
