/- Runs of some fields: the program's and the reference's. -/
import Derived.Test.YthbffbpdoankjaaUR
namespace Go.Proofs.Ythbffbpdoankjaa
open HL
set_option maxRecDepth 100000
theorem C.impl_areWorkers {x : Int}  {H : Hp} {K : Value → Hp → Prop}
    (hk : ∀ H', Le H H' → K (.bool (decide (1 ≤ x ∧ x ≤ 8))) H') : HT prg I.impl_areWorkers [(.int .i64 (x))].toArray H K := by
  have lE := Le.refl H
  refine R.impl_areWorkers ?_
  unfold F.impl_areWorkers
  refine C.impl_within  ?_
  skip
  exact hk   _    lE
theorem C.spec_FieldsShared {vb vs va : Value} {st wk : Int} {rnd : Bool} {b : List Int} {s : List Int} {fs : List FdL}  {H : Hp} {K : Value → Hp → Prop} (hvb0 : Sl eI H vb b) (hvs0 : Sl eI H vs s) (hva0 : FamS H va fs) (kb : b.length ≤ 9223372036854775807) (ks : s.length ≤ 9223372036854775807) (hfl : ∀ f ∈ fs, f.l.length ≤ 9223372036854775807) (kf : fs.length ≤ 9223372036854775807)
    (hk : ∀ u1 Su1 H', Fam H' u1 Su1 (selL (fsP b s fs st wk) (fsR rnd b s st fs)) → Nws H Su1 → Le H H' → K (.tuple #[u1, (.bool (decide (fsP b s fs st wk)))]) H') : HT prg I.spec_FieldsShared [(.agg #[vb, vs]), va, (.bool (rnd)), (.int .i64 (st)), (.int .i64 (wk))].toArray H K := by
  have lE := Le.refl H
  have hvb := hvb0
  have hvs := hvs0
  have hva := hva0
  refine R.spec_FieldsShared ?_
  unfold F.spec_FieldsShared
  refine nw_i (fun p1 H2 op1 nn3 le4 => ?_)
  have np1 : Nw H p1 := nn3.le lE
  replace hvb := hvb.le le4
  replace hvs := hvs.le le4
  replace hva := hva.le le4
  replace lE := lE.trans le4
  replace op1 : Cel H2 p1 [vb, vs] := op1
  refine ob_i (hva.len) ?_
  refine ob_i (vInt_lss _ _ _) ?_
  by_cases hc5 : (((fs).length : Int)) < 1
  · skip
    refine gop_e (decide_eq_true hc5) ?_
    refine gop_st ?_
    refine gop_e (decide_eq_true hc5) ?_
    refine gop_st ?_
    refine gop_e (decide_eq_true hc5) ?_
    refine gop_st ?_
    refine ob_i (vPick_et (decide_eq_true hc5) _ _) ?_
    refine gop_st ?_
    refine gop_st ?_
    refine gop_st ?_
    refine ob_i (vPick_t _ _) ?_
    refine cnd_t1 ?_
    skip
    have hok : ¬ (fsP b s fs st wk) := by first | (intro h; have := h.1; omega) | (intro h; exact absurd h.2.1 (by assumption))
    exact keq (K := K) (by rw [decide_eq_false (show ¬ (fsP b s fs st wk) from by exact hok)]) (hk  (.slice none 0 0) _ _ (Fam.cast (show [] = selL (fsP b s fs st wk) (fsR rnd b s st fs) by exact (selL_f hok).symm) (Fam.nil_of none)) (fun b hb => hb.elim)  lE)
  · skip
    refine gop_e (decide_eq_false hc5) ?_
    refine gop_rf ?_
    refine gop_e (decide_eq_false hc5) ?_
    refine gop_rf ?_
    refine ob_i (hva.len) ?_
    refine gop_e (decide_eq_false hc5) ?_
    refine gop_rf ?_
    refine ob_i (vInt_gtr _ _ _) ?_
    refine ob_i (vPick_ef (decide_eq_false hc5) _ _) ?_
    by_cases hc6 : 16 < (((fs).length : Int))
    · skip
      refine gop_e (decide_eq_true hc6) ?_
      refine gop_st ?_
      refine gop_e (decide_eq_true hc6) ?_
      refine gop_st ?_
      refine gop_e (decide_eq_true hc6) ?_
      refine gop_st ?_
      refine ob_i (vPick_et (decide_eq_true hc6) _ _) ?_
      refine cnd_t1 ?_
      skip
      have hok : ¬ (fsP b s fs st wk) := by first | (intro h; have := h.1; omega) | (intro h; exact absurd h.2.1 (by assumption))
      exact keq (K := K) (by rw [decide_eq_false (show ¬ (fsP b s fs st wk) from by exact hok)]) (hk  (.slice none 0 0) _ _ (Fam.cast (show [] = selL (fsP b s fs st wk) (fsR rnd b s st fs) by exact (selL_f hok).symm) (Fam.nil_of none)) (fun b hb => hb.elim)  lE)
    · skip
      refine gop_e (decide_eq_false hc6) ?_
      refine gop_rf ?_
      refine gop_e (decide_eq_false hc6) ?_
      refine gop_rf ?_
      refine C.spec_l00In  ?_
      refine gop_e (decide_eq_false hc6) ?_
      refine gop_rf ?_
      refine ob_nd (fun hc7 => ?_) (fun hc7 => ?_)
      · skip
        refine ob_i (vPick_ef (decide_eq_false hc6) _ _) ?_
        refine cnd_f1 ?_
        refine bSE_fam (fun u8 Su8 H9 ou8 nn10 le12 => ?_)
        have ap1Xu8 : Apt p1 Su8 := Apt.of_nws op1.known nn10
        have nu8 : Nws H Su8 := nn10.le lE
        replace op1 := op1.le le12
        replace hvb := hvb.le le12
        replace hvs := hvs.le le12
        replace hva := hva.le le12
        replace lE := lE.trans le12
        refine jn_i (fun σ' H' => ∃ u, ∃ Su, σ' 12 = u ∧ Cel H' p1 [vb, vs] ∧ Fam H' u Su (fsR rnd b s st fs) ∧ Nws H Su ∧ Apt p1 Su ∧ Le H H' ∧ ∀ f ∈ fs, runP b s f.r f.c f.l st) (fun σ13 H13 hP => ?_) (fun J13 hJ13 => ?_)
        · skip
          obtain ⟨u, Su, g12L13, op1, ou, nu, ap1Xu, lE, ho0⟩ := hP
          have hvb := hvb0.le lE
          have hvs := hvs0.le lE
          have hva := hva0.le lE
          try simp only [g12L13]
          skip
          have hok : fsP b s fs st wk := by exact ⟨⟨by omega, by omega⟩, by assumption, ho0⟩
          exact keq (K := K) (by rw [decide_eq_true (show (fsP b s fs st wk) from by exact hok)]) (hk  u _ _ (Fam.cast (show fsR rnd b s st fs = selL (fsP b s fs st wk) (fsR rnd b s st fs) by exact (selL_t hok).symm) ou) nu  lE)
        refine ⟨fun n' σ' H' => ∃ i : Nat, n' = fs.length - i ∧ i ≤ fs.length ∧ ∃ u, ∃ Su, σ' 1 = va ∧ σ' 2 = (.bool (rnd)) ∧ σ' 3 = (.int .i64 (st)) ∧ σ' 5 = p1 ∧ σ' 12 = u ∧ σ' 13 = (.int .i64 ((i : Int))) ∧ Cel H' p1 [vb, vs] ∧ Fam H' u Su (fsR rnd b s st (fs.take i)) ∧ Nws H Su ∧ Apt p1 Su ∧ Le H H' ∧ ∀ f ∈ fs.take i, runP b s f.r f.c f.l st,
          ⟨_, 0, rfl, by omega, u8, _, rfl, rfl, rfl, rfl, rfl, (congrArg (Value.int .i64) (by first | omega | rfl | (simp; done))), op1, (Fam.cast (by simp [fsR]) ou8), nu8, ap1Xu8, lE, (by simp)⟩, ?_⟩
        rintro n14 σ14 H14 ⟨i, rfl, hiN, u, Su, g1L14, g2L14, g3L14, g5L14, g12L14, g13L14, op1, ou, nu, ap1Xu, lE, hm0⟩
        have hvb := hvb0.le lE
        have hvs := hvs0.le lE
        have hva := hva0.le lE
        try simp only [g1L14, g2L14, g3L14, g5L14, g12L14, g13L14]
        have hul := fsR_len rnd b s st (fs.take i)
        have htl : (fs.take i).length ≤ 16 := by simp; omega
        refine ob_i (hva.len) ?_
        refine ob_i (vInt_lss _ _ _) ?_
        refine cnd_d (fun hg15 => ?_) (fun hg15 => ?_)
        · skip
          have ti := hg15
          have hle := hfl _ (at_mem fd0 fs (i := (i : Int)) (by omega) (by omega))
          refine ob_i (op1.ldn rfl) ?_
          refine ob_i (hva.ix (by omega) (by omega)) ?_
          obtain ⟨x16, eq17, hx160⟩ := hva0.at0 (i := i) (by omega)
          have hx16 := hx160.le lE
          refine ob_i (eq17 _ lE) ?_
          refine C.spec_RunLife hvb hvs hx16 (by first | omega | assumption) (by first | omega | assumption) (by first | omega | assumption) (fun  u20 H18 ou20 nn21  le19 => ?_)
          have ap1Xu20 : Apart p1 u20 := op1.apart nn21
          have auXu20 : Apt Su u20 := Apt.of_nw ou.known nn21
          have nu20 : Nw H u20 := nn21.le lE
          replace op1 := op1.le le19
          replace ou := ou.le le19
          replace hvb := hvb.le le19
          replace hvs := hvs.le le19
          replace hva := hva.le le19
          replace hx16 := hx16.le le19
          replace lE := lE.trans le19
          refine ⟨le19, ?_⟩
          refine ob_i (vExt_20 _ _) ?_
          refine ob_i (vExt_21 _ _) ?_
          refine nw_i (fun p22 H23 op22 nn24 le25 => ?_)
          have ap1Xp22 : Apart p1 p22 := op1.apart nn24
          have auXp22 : Apt Su p22 := Apt.of_nw ou.known nn24
          have au20Xp22 : Apart u20 p22 := ou20.apart nn24
          have np22 : Nw H p22 := nn24.le lE
          replace op1 := op1.le le25
          replace ou := ou.le le25
          replace ou20 := ou20.le le25
          replace hvb := hvb.le le25
          replace hvs := hvs.le le25
          replace hva := hva.le le25
          replace hx16 := hx16.le le25
          replace lE := lE.trans le25
          replace op22 : Cel H23 p22 [(.int .i64 (0)), (.int .i64 (0)), (.slice none 0 0)] := op22
          refine op22.stn (ws := [(.int .i64 (selI (runP b s ((at_ fd0 fs (i : Int)).r) ((at_ fd0 fs (i : Int)).c) ((at_ fd0 fs (i : Int)).l) st) (((at_ fd0 fs (i : Int)).r)))), (.int .i64 (selI (runP b s ((at_ fd0 fs (i : Int)).r) ((at_ fd0 fs (i : Int)).c) ((at_ fd0 fs (i : Int)).l) st) (((at_ fd0 fs (i : Int)).c)))), u20]) rfl rfl (oc1 rfl (oc1 rfl (oc1 ou20.one oc0))) (fun H26 op22 off27 => ?_)
          replace op1 := op1.off off27 ap1Xp22
          replace ou := ou.off off27 auXp22
          replace ou20 := ou20.off off27 au20Xp22
          replace hvb := hvb0.le (off27.le lE np22)
          replace hvs := hvs0.le (off27.le lE np22)
          replace hva := hva0.le (off27.le lE np22)
          replace hx16 := hx160.le (off27.le lE np22)
          replace lE := off27.le lE np22
          replace op22 : Cel H26 p22 [(.int .i64 (selI (runP b s ((at_ fd0 fs (i : Int)).r) ((at_ fd0 fs (i : Int)).c) ((at_ fd0 fs (i : Int)).l) st) (((at_ fd0 fs (i : Int)).r)))), (.int .i64 (selI (runP b s ((at_ fd0 fs (i : Int)).r) ((at_ fd0 fs (i : Int)).c) ((at_ fd0 fs (i : Int)).l) st) (((at_ fd0 fs (i : Int)).c)))), u20] := op22
          refine ob_nd (fun hc28 => ?_) (fun hc28 => ?_)
          · skip
            refine cnd_f1 ?_
            refine ob_i (op22.ldn rfl) ?_
            refine bSE_one (enc := encFv) (x := (⟨selI (runP b s ((at_ fd0 fs (i : Int)).r) ((at_ fd0 fs (i : Int)).c) ((at_ fd0 fs (i : Int)).l) st) (((at_ fd0 fs (i : Int)).r)), selI (runP b s ((at_ fd0 fs (i : Int)).r) ((at_ fd0 fs (i : Int)).c) ((at_ fd0 fs (i : Int)).l) st) (((at_ fd0 fs (i : Int)).c)), u20⟩ : Fv)) rfl rfl (by omega) (by omega) rfl (fun u29 H30 ou29 nn31 le33 => ?_) rfl
            have ap1Xu29 : Apart p1 u29 := op1.apart nn31
            have auXu29 : Apt Su u29 := Apt.of_nw ou.known nn31
            have au20Xu29 : Apart u20 u29 := ou20.apart nn31
            have ap22Xu29 : Apart p22 u29 := op22.apart nn31
            have nu29 : Nw H u29 := nn31.le lE
            replace op1 := op1.le le33
            replace ou := ou.le le33
            replace ou20 := ou20.le le33
            replace op22 := op22.le le33
            replace hvb := hvb.le le33
            replace hvs := hvs.le le33
            replace hva := hva.le le33
            replace hx16 := hx16.le le33
            replace lE := lE.trans le33
            refine Fam.push ou rfl (ou29.sl encFv_n) ou20 auXu20.symm (by omega) (by first | omega | (simp; omega)) (fun u38 Su38 H34 ou38 off35 hb36 hx37 oxu20 => ?_)
            have ap1Xu38 : Apt p1 Su38 := Apt.push op1.known ap1Xu ap1Xu20 hb36
            have ap22Xu38 : Apt p22 Su38 := Apt.push op22.known auXp22.symm au20Xp22.symm hb36
            have au29Xu38 : Apt u29 Su38 := Apt.push ou29.known auXu29.symm au20Xu29.symm hb36
            have nu38 : Nws H Su38 := Nws.push lE nu nu20 hb36
            replace op1 := op1.offS off35 ap1Xu
            replace op22 := op22.offS off35 auXp22.symm
            replace ou29 := ou29.offS off35 auXu29.symm
            replace hvb := hvb0.le (off35.le lE nu)
            replace hvs := hvs0.le (off35.le lE nu)
            replace hva := hva0.le (off35.le lE nu)
            replace hx16 := hx160.le (off35.le lE nu)
            replace lE := off35.le lE nu
            replace ou20 := oxu20.ro
            refine ob_i (vInt_add (by omega) (by omega)) ?_
            exact nxt (fs.length - (i + 1)) (by omega) ⟨i + 1, rfl, by omega, u38, _, g1L14, g2L14, g3L14, g5L14, rfl, (congrArg (Value.int .i64) (by first | omega | rfl | (simp; done))), op1, (Fam.cast (fsR_take (by omega)) ou38), nu38, ap1Xu38, lE, (fs_tk hm0 (by omega) hc28)⟩
          · skip
            refine cnd_t1 ?_
            refine retK (K := K) (v' := (.tuple #[(.slice none 0 0), (.bool false)])) rfl ?_
            skip
            have hok : ¬ (fsP b s fs st wk) := by exact fun h => hc28 (h.2.2 _ (at_mem fd0 fs (i := (i : Int)) (by omega) (by omega)))
            exact keq (K := K) (by rw [decide_eq_false (show ¬ (fsP b s fs st wk) from by exact hok)]) (hk  (.slice none 0 0) _ _ (Fam.cast (show [] = selL (fsP b s fs st wk) (fsR rnd b s st fs) by exact (selL_f hok).symm) (Fam.nil_of none)) (fun b hb => hb.elim)  lE)
        · skip
          have ti := hg15
          rw [List.take_of_length_le (by omega)] at ou
          exact hJ13 _ _ ⟨u, _, g12L14, op1, ou, nu, ap1Xu, lE, (by rw [List.take_of_length_le (by omega)] at hm0; exact hm0)⟩
      · skip
        refine ob_i (vPick_ef (decide_eq_false hc6) _ _) ?_
        refine cnd_t1 ?_
        skip
        have hok : ¬ (fsP b s fs st wk) := by first | (intro h; have := h.1; omega) | (intro h; exact absurd h.2.1 (by assumption))
        exact keq (K := K) (by rw [decide_eq_false (show ¬ (fsP b s fs st wk) from by exact hok)]) (hk  (.slice none 0 0) _ _ (Fam.cast (show [] = selL (fsP b s fs st wk) (fsR rnd b s st fs) by exact (selL_f hok).symm) (Fam.nil_of none)) (fun b hb => hb.elim)  lE)
theorem C.impl_FieldsShared {vb vs va : Value} {st wk : Int} {rnd : Bool} {b : List Int} {s : List Int} {fs : List FdL}  {H : Hp} {K : Value → Hp → Prop} (hvb0 : Sl eI H vb b) (hvs0 : Sl eI H vs s) (hva0 : FamS H va fs) (kb : b.length ≤ 9223372036854775807) (ks : s.length ≤ 9223372036854775807) (hfl : ∀ f ∈ fs, f.l.length ≤ 9223372036854775807) (kf : fs.length ≤ 9223372036854775807)
    (hk : ∀ u1 Su1 H', Fam H' u1 Su1 (selL (fsP b s fs st wk) (fsR rnd b s st fs)) → Nws H Su1 → Le H H' → K (.tuple #[u1, (.bool (decide (fsP b s fs st wk)))]) H') : HT prg I.impl_FieldsShared [(.agg #[vb, vs]), va, (.bool (rnd)), (.int .i64 (st)), (.int .i64 (wk))].toArray H K := by
  have lE := Le.refl H
  have hvb := hvb0
  have hvs := hvs0
  have hva := hva0
  refine R.impl_FieldsShared ?_
  unfold F.impl_FieldsShared
  refine nw_i (fun p1 H2 op1 nn3 le4 => ?_)
  have np1 : Nw H p1 := nn3.le lE
  replace hvb := hvb.le le4
  replace hvs := hvs.le le4
  replace hva := hva.le le4
  replace lE := lE.trans le4
  replace op1 : Cel H2 p1 [vb, vs] := op1
  refine ob_i (hva.len) ?_
  refine ob_i (vInt_lss _ _ _) ?_
  by_cases hc5 : (((fs).length : Int)) < 1
  · skip
    refine gop_e (decide_eq_true hc5) ?_
    refine gop_st ?_
    refine gop_e (decide_eq_true hc5) ?_
    refine gop_st ?_
    refine gop_e (decide_eq_true hc5) ?_
    refine gop_st ?_
    refine ob_i (vPick_et (decide_eq_true hc5) _ _) ?_
    refine gop_st ?_
    refine gop_st ?_
    refine gop_st ?_
    refine ob_i (vPick_t _ _) ?_
    refine cnd_t1 ?_
    skip
    have hok : ¬ (fsP b s fs st wk) := by first | (intro h; have := h.1; omega) | (intro h; exact absurd h.2.1 (by assumption))
    exact keq (K := K) (by rw [decide_eq_false (show ¬ (fsP b s fs st wk) from by exact hok)]) (hk  (.slice none 0 0) _ _ (Fam.cast (show [] = selL (fsP b s fs st wk) (fsR rnd b s st fs) by exact (selL_f hok).symm) (Fam.nil_of none)) (fun b hb => hb.elim)  lE)
  · skip
    refine gop_e (decide_eq_false hc5) ?_
    refine gop_rf ?_
    refine gop_e (decide_eq_false hc5) ?_
    refine gop_rf ?_
    refine ob_i (hva.len) ?_
    refine gop_e (decide_eq_false hc5) ?_
    refine gop_rf ?_
    refine ob_i (vInt_gtr _ _ _) ?_
    refine ob_i (vPick_ef (decide_eq_false hc5) _ _) ?_
    by_cases hc6 : 16 < (((fs).length : Int))
    · skip
      refine gop_e (decide_eq_true hc6) ?_
      refine gop_st ?_
      refine gop_e (decide_eq_true hc6) ?_
      refine gop_st ?_
      refine gop_e (decide_eq_true hc6) ?_
      refine gop_st ?_
      refine ob_i (vPick_et (decide_eq_true hc6) _ _) ?_
      refine cnd_t1 ?_
      skip
      have hok : ¬ (fsP b s fs st wk) := by first | (intro h; have := h.1; omega) | (intro h; exact absurd h.2.1 (by assumption))
      exact keq (K := K) (by rw [decide_eq_false (show ¬ (fsP b s fs st wk) from by exact hok)]) (hk  (.slice none 0 0) _ _ (Fam.cast (show [] = selL (fsP b s fs st wk) (fsR rnd b s st fs) by exact (selL_f hok).symm) (Fam.nil_of none)) (fun b hb => hb.elim)  lE)
    · skip
      refine gop_e (decide_eq_false hc6) ?_
      refine gop_rf ?_
      refine gop_e (decide_eq_false hc6) ?_
      refine gop_rf ?_
      refine C.impl_areWorkers  (fun   H7    le8 => ?_)
      replace op1 := op1.le le8
      replace hvb := hvb.le le8
      replace hvs := hvs.le le8
      replace hva := hva.le le8
      replace lE := lE.trans le8
      refine gop_e (decide_eq_false hc6) ?_
      refine gop_rf ?_
      refine ob_nd (fun hc9 => ?_) (fun hc9 => ?_)
      · skip
        refine ob_i (vPick_ef (decide_eq_false hc6) _ _) ?_
        refine cnd_f1 ?_
        refine bSE_fam (fun u10 Su10 H11 ou10 nn12 le14 => ?_)
        have ap1Xu10 : Apt p1 Su10 := Apt.of_nws op1.known nn12
        have nu10 : Nws H Su10 := nn12.le lE
        replace op1 := op1.le le14
        replace hvb := hvb.le le14
        replace hvs := hvs.le le14
        replace hva := hva.le le14
        replace lE := lE.trans le14
        refine jn_i (fun σ' H' => ∃ u, ∃ Su, σ' 12 = u ∧ Cel H' p1 [vb, vs] ∧ Fam H' u Su (fsR rnd b s st fs) ∧ Nws H Su ∧ Apt p1 Su ∧ Le H H' ∧ ∀ f ∈ fs, runP b s f.r f.c f.l st) (fun σ15 H15 hP => ?_) (fun J15 hJ15 => ?_)
        · skip
          obtain ⟨u, Su, g12L15, op1, ou, nu, ap1Xu, lE, ho0⟩ := hP
          have hvb := hvb0.le lE
          have hvs := hvs0.le lE
          have hva := hva0.le lE
          try simp only [g12L15]
          skip
          have hok : fsP b s fs st wk := by exact ⟨⟨by omega, by omega⟩, by assumption, ho0⟩
          exact keq (K := K) (by rw [decide_eq_true (show (fsP b s fs st wk) from by exact hok)]) (hk  u _ _ (Fam.cast (show fsR rnd b s st fs = selL (fsP b s fs st wk) (fsR rnd b s st fs) by exact (selL_t hok).symm) ou) nu  lE)
        refine ob_i (hva.len) ?_
        refine ⟨fun n' σ' H' => ∃ i : Nat, n' = fs.length - i ∧ i ≤ fs.length ∧ ∃ u, ∃ Su, σ' 2 = (.bool (rnd)) ∧ σ' 3 = (.int .i64 (st)) ∧ σ' 5 = p1 ∧ σ' 12 = u ∧ σ' 31 = va ∧ σ' 32 = (.int .i64 (((fs).length : Int))) ∧ σ' 33 = (.int .i64 ((i : Int))) ∧ Cel H' p1 [vb, vs] ∧ Fam H' u Su (fsR rnd b s st (fs.take i)) ∧ Nws H Su ∧ Apt p1 Su ∧ Le H H' ∧ ∀ f ∈ fs.take i, runP b s f.r f.c f.l st,
          ⟨_, 0, rfl, by omega, u10, _, rfl, rfl, rfl, rfl, rfl, rfl, (congrArg (Value.int .i64) (by first | omega | rfl | (simp; done))), op1, (Fam.cast (by simp [fsR]) ou10), nu10, ap1Xu10, lE, (by simp)⟩, ?_⟩
        rintro n16 σ16 H16 ⟨i, rfl, hiN, u, Su, g2L16, g3L16, g5L16, g12L16, g31L16, g32L16, g33L16, op1, ou, nu, ap1Xu, lE, hm0⟩
        have hvb := hvb0.le lE
        have hvs := hvs0.le lE
        have hva := hva0.le lE
        try simp only [g2L16, g3L16, g5L16, g12L16, g31L16, g32L16, g33L16]
        have hul := fsR_len rnd b s st (fs.take i)
        have htl : (fs.take i).length ≤ 16 := by simp; omega
        refine ob_i (vInt_lss _ _ _) ?_
        refine cnd_d (fun hg17 => ?_) (fun hg17 => ?_)
        · skip
          have ti := hg17
          have hle := hfl _ (at_mem fd0 fs (i := (i : Int)) (by omega) (by omega))
          refine ob_i (hva.ix (by omega) (by omega)) ?_
          obtain ⟨x18, eq19, hx180⟩ := hva0.at0 (i := i) (by omega)
          have hx18 := hx180.le lE
          refine ob_i (eq19 _ lE) ?_
          refine nw_i (fun p20 H21 op20 nn22 le23 => ?_)
          have ap1Xp20 : Apart p1 p20 := op1.apart nn22
          have auXp20 : Apt Su p20 := Apt.of_nw ou.known nn22
          have np20 : Nw H p20 := nn22.le lE
          replace op1 := op1.le le23
          replace ou := ou.le le23
          replace hvb := hvb.le le23
          replace hvs := hvs.le le23
          replace hva := hva.le le23
          replace hx18 := hx18.le le23
          replace lE := lE.trans le23
          replace op20 : Cel H21 p20 [(.int .i64 (0)), (.int .i64 (0)), (.slice none 0 0)] := op20
          refine op20.stn (ws := [(.int .i64 ((at_ fd0 fs (i : Int)).r)), (.int .i64 ((at_ fd0 fs (i : Int)).c)), x18]) rfl rfl (oc1 rfl (oc1 rfl (oc1 hx18.one oc0))) (fun H24 op20 off25 => ?_)
          replace op1 := op1.off off25 ap1Xp20
          replace ou := ou.off off25 auXp20
          replace hvb := hvb0.le (off25.le lE np20)
          replace hvs := hvs0.le (off25.le lE np20)
          replace hva := hva0.le (off25.le lE np20)
          replace hx18 := hx180.le (off25.le lE np20)
          replace lE := off25.le lE np20
          replace op20 : Cel H24 p20 [(.int .i64 ((at_ fd0 fs (i : Int)).r)), (.int .i64 ((at_ fd0 fs (i : Int)).c)), x18] := op20
          refine ob_i (op1.ldn rfl) ?_
          refine ob_i (op20.ldn rfl) ?_
          refine C.impl_RunLife hvb hvs hx18 (by first | omega | assumption) (by first | omega | assumption) (by first | omega | assumption) (fun  u28 H26 ou28 nn29  le27 => ?_)
          have ap1Xu28 : Apart p1 u28 := op1.apart nn29
          have auXu28 : Apt Su u28 := Apt.of_nw ou.known nn29
          have ap20Xu28 : Apart p20 u28 := op20.apart nn29
          have nu28 : Nw H u28 := nn29.le lE
          replace op1 := op1.le le27
          replace ou := ou.le le27
          replace op20 := op20.le le27
          replace hvb := hvb.le le27
          replace hvs := hvs.le le27
          replace hva := hva.le le27
          replace hx18 := hx18.le le27
          replace lE := lE.trans le27
          refine ob_i (vExt_20 _ _) ?_
          refine ob_i (vExt_21 _ _) ?_
          refine nw_i (fun p30 H31 op30 nn32 le33 => ?_)
          have ap1Xp30 : Apart p1 p30 := op1.apart nn32
          have auXp30 : Apt Su p30 := Apt.of_nw ou.known nn32
          have ap20Xp30 : Apart p20 p30 := op20.apart nn32
          have au28Xp30 : Apart u28 p30 := ou28.apart nn32
          have np30 : Nw H p30 := nn32.le lE
          replace op1 := op1.le le33
          replace ou := ou.le le33
          replace op20 := op20.le le33
          replace ou28 := ou28.le le33
          replace hvb := hvb.le le33
          replace hvs := hvs.le le33
          replace hva := hva.le le33
          replace hx18 := hx18.le le33
          replace lE := lE.trans le33
          replace op30 : Cel H31 p30 [(.int .i64 (0)), (.int .i64 (0)), (.slice none 0 0)] := op30
          refine op30.stn (ws := [(.int .i64 (selI (runP b s ((at_ fd0 fs (i : Int)).r) ((at_ fd0 fs (i : Int)).c) ((at_ fd0 fs (i : Int)).l) st) (((at_ fd0 fs (i : Int)).r)))), (.int .i64 (selI (runP b s ((at_ fd0 fs (i : Int)).r) ((at_ fd0 fs (i : Int)).c) ((at_ fd0 fs (i : Int)).l) st) (((at_ fd0 fs (i : Int)).c)))), u28]) rfl rfl (oc1 rfl (oc1 rfl (oc1 ou28.one oc0))) (fun H34 op30 off35 => ?_)
          replace op1 := op1.off off35 ap1Xp30
          replace ou := ou.off off35 auXp30
          replace op20 := op20.off off35 ap20Xp30
          replace ou28 := ou28.off off35 au28Xp30
          replace hvb := hvb0.le (off35.le lE np30)
          replace hvs := hvs0.le (off35.le lE np30)
          replace hva := hva0.le (off35.le lE np30)
          replace hx18 := hx180.le (off35.le lE np30)
          replace lE := off35.le lE np30
          replace op30 : Cel H34 p30 [(.int .i64 (selI (runP b s ((at_ fd0 fs (i : Int)).r) ((at_ fd0 fs (i : Int)).c) ((at_ fd0 fs (i : Int)).l) st) (((at_ fd0 fs (i : Int)).r)))), (.int .i64 (selI (runP b s ((at_ fd0 fs (i : Int)).r) ((at_ fd0 fs (i : Int)).c) ((at_ fd0 fs (i : Int)).l) st) (((at_ fd0 fs (i : Int)).c)))), u28] := op30
          refine ob_nd (fun hc36 => ?_) (fun hc36 => ?_)
          · skip
            refine cnd_f1 ?_
            refine ob_i (op30.ldn rfl) ?_
            refine bSE_one (enc := encFv) (x := (⟨selI (runP b s ((at_ fd0 fs (i : Int)).r) ((at_ fd0 fs (i : Int)).c) ((at_ fd0 fs (i : Int)).l) st) (((at_ fd0 fs (i : Int)).r)), selI (runP b s ((at_ fd0 fs (i : Int)).r) ((at_ fd0 fs (i : Int)).c) ((at_ fd0 fs (i : Int)).l) st) (((at_ fd0 fs (i : Int)).c)), u28⟩ : Fv)) rfl rfl (by omega) (by omega) rfl (fun u37 H38 ou37 nn39 le41 => ?_) rfl
            have ap1Xu37 : Apart p1 u37 := op1.apart nn39
            have auXu37 : Apt Su u37 := Apt.of_nw ou.known nn39
            have ap20Xu37 : Apart p20 u37 := op20.apart nn39
            have au28Xu37 : Apart u28 u37 := ou28.apart nn39
            have ap30Xu37 : Apart p30 u37 := op30.apart nn39
            have nu37 : Nw H u37 := nn39.le lE
            replace op1 := op1.le le41
            replace ou := ou.le le41
            replace op20 := op20.le le41
            replace ou28 := ou28.le le41
            replace op30 := op30.le le41
            replace hvb := hvb.le le41
            replace hvs := hvs.le le41
            replace hva := hva.le le41
            replace hx18 := hx18.le le41
            replace lE := lE.trans le41
            refine Fam.push ou rfl (ou37.sl encFv_n) ou28 auXu28.symm (by omega) (by first | omega | (simp; omega)) (fun u46 Su46 H42 ou46 off43 hb44 hx45 oxu28 => ?_)
            have ap1Xu46 : Apt p1 Su46 := Apt.push op1.known ap1Xu ap1Xu28 hb44
            have ap20Xu46 : Apt p20 Su46 := Apt.push op20.known auXp20.symm ap20Xu28 hb44
            have ap30Xu46 : Apt p30 Su46 := Apt.push op30.known auXp30.symm au28Xp30.symm hb44
            have au37Xu46 : Apt u37 Su46 := Apt.push ou37.known auXu37.symm au28Xu37.symm hb44
            have nu46 : Nws H Su46 := Nws.push lE nu nu28 hb44
            replace op1 := op1.offS off43 ap1Xu
            replace op20 := op20.offS off43 auXp20.symm
            replace op30 := op30.offS off43 auXp30.symm
            replace ou37 := ou37.offS off43 auXu37.symm
            replace hvb := hvb0.le (off43.le lE nu)
            replace hvs := hvs0.le (off43.le lE nu)
            replace hva := hva0.le (off43.le lE nu)
            replace hx18 := hx180.le (off43.le lE nu)
            replace lE := off43.le lE nu
            replace ou28 := oxu28.ro
            refine ob_i (vInt_add (by omega) (by omega)) ?_
            exact nxt (fs.length - (i + 1)) (by omega) ⟨i + 1, rfl, by omega, u46, _, g2L16, g3L16, g5L16, rfl, g31L16, g32L16, (congrArg (Value.int .i64) (by first | omega | rfl | (simp; done))), op1, (Fam.cast (fsR_take (by omega)) ou46), nu46, ap1Xu46, lE, (fs_tk hm0 (by omega) hc36)⟩
          · skip
            refine cnd_t1 ?_
            refine retK (K := K) (v' := (.tuple #[(.slice none 0 0), (.bool false)])) rfl ?_
            skip
            have hok : ¬ (fsP b s fs st wk) := by exact fun h => hc36 (h.2.2 _ (at_mem fd0 fs (i := (i : Int)) (by omega) (by omega)))
            exact keq (K := K) (by rw [decide_eq_false (show ¬ (fsP b s fs st wk) from by exact hok)]) (hk  (.slice none 0 0) _ _ (Fam.cast (show [] = selL (fsP b s fs st wk) (fsR rnd b s st fs) by exact (selL_f hok).symm) (Fam.nil_of none)) (fun b hb => hb.elim)  lE)
        · skip
          have ti := hg17
          rw [List.take_of_length_le (by omega)] at ou
          exact hJ15 _ _ ⟨u, _, g12L16, op1, ou, nu, ap1Xu, lE, (by rw [List.take_of_length_le (by omega)] at hm0; exact hm0)⟩
      · skip
        refine ob_i (vPick_ef (decide_eq_false hc6) _ _) ?_
        refine cnd_t1 ?_
        skip
        have hok : ¬ (fsP b s fs st wk) := by first | (intro h; have := h.1; omega) | (intro h; exact absurd h.2.1 (by assumption))
        exact keq (K := K) (by rw [decide_eq_false (show ¬ (fsP b s fs st wk) from by exact hok)]) (hk  (.slice none 0 0) _ _ (Fam.cast (show [] = selL (fsP b s fs st wk) (fsR rnd b s st fs) by exact (selL_f hok).symm) (Fam.nil_of none)) (fun b hb => hb.elim)  lE)
end Go.Proofs.Ythbffbpdoankjaa
