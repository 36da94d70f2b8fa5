/- Trees of quarters. -/
import Derived.Test.YthgjegbckkpaiaaKY
import Derived.Test.YthgjegbckkpaiaaWK
import Derived.Test.YthgjegbckkpaiaaSN
import Derived.Test.YthgjegbckkpaiaaKI
import Derived.Test.YthgjegbckkpaiaaSI
namespace Go.Proofs.Ythgjegbckkpaiaa
open HL
set_option maxRecDepth 100000
theorem chQ_cut {t : List Int} {m : Nat} : (t.drop (4 * (m : Int)).toNat).take ((4 * (m : Int) + 4).toNat - (4 * (m : Int)).toNat) = chQ t m := by
  unfold chQ
  rw [show (4 * (m : Int)).toNat = 4 * m by omega, show (4 * (m : Int) + 4).toNat - 4 * m = 4 by omega]
theorem same_eq {l m : List Int} (h : l.length = m.length) (ha : ∀ j : Nat, j < l.length → at_ 0 l (j : Int) = at_ 0 m (j : Int)) : l = m := by
  apply List.ext_getElem h
  intro j h1 h2
  have := ha j h1
  rw [at_eq 0 l h1, at_eq 0 m h2] at this
  exact this
theorem same_snoc {l m : List Int} {i : Nat} (ha : ∀ j : Nat, j < i → at_ 0 l (j : Int) = at_ 0 m (j : Int)) (h : at_ 0 l (i : Int) = at_ 0 m (i : Int)) : ∀ j : Nat, j < i + 1 → at_ 0 l (j : Int) = at_ 0 m (j : Int) := fun j hj => by
  by_cases e : j = i
  · subst e; exact h
  · exact ha j (by omega)
theorem C.spec_l00Same {va vb : Value} {l : List Int} {m : List Int}  {H : Hp} {K : Value → Hp → Prop} (hva0 : Sl eI H va l) (hvb0 : Sl eI H vb m) (k1 : l.length ≤ 9223372036854775807)
    (hk : ∀ H', Le H H' → K (.bool (decide (l = m))) H') : HT prg I.spec_l00Same [va, vb].toArray H K := by
  have lE := Le.refl H
  have hva := hva0
  have hvb := hvb0
  refine R.spec_l00Same ?_
  unfold F.spec_l00Same
  refine ob_i (hva.len) ?_
  refine ob_i (hvb.len) ?_
  refine ob_i (vInt_neq _ _ _) ?_
  refine cnd_d (fun hg1 => ?_) (fun hg1 => ?_)
  · skip
    skip
    exact keq (K := K) (by rw [decide_eq_false (show ¬ (l = m) from by intro h; subst h; omega)]) (hk   _    lE)
  · skip
    refine jn_i (fun σ' H' => Le H H' ∧ (∀ j : Nat, j < l.length → at_ 0 l (j : Int) = at_ 0 m (j : Int))) (fun σ2 H2 hP => ?_) (fun J2 hJ2 => ?_)
    · skip
      obtain ⟨lE, ho0⟩ := hP
      have hva := hva0.le lE
      have hvb := hvb0.le lE
      skip
      exact keq (K := K) (by rw [decide_eq_true (show (l = m) from by exact same_eq (by omega) ho0)]) (hk   _    lE)
    refine ⟨fun n' σ' H' => ∃ i : Nat, n' = l.length - i ∧ i ≤ l.length ∧ σ' 0 = va ∧ σ' 1 = vb ∧ σ' 5 = (.int .i64 ((i : Int))) ∧ Le H H' ∧ (∀ j : Nat, j < i → at_ 0 l (j : Int) = at_ 0 m (j : Int)),
      ⟨_, 0, rfl, by omega, rfl, rfl, (congrArg (Value.int .i64) (by first | omega | rfl | (simp; done))), lE, (fun j hj => by omega)⟩, ?_⟩
    rintro n3 σ3 H3 ⟨i, rfl, hiN, g0L3, g1L3, g5L3, lE, hm0⟩
    have hva := hva0.le lE
    have hvb := hvb0.le lE
    try simp only [g0L3, g1L3, g5L3]
    refine ob_i (hva.len) ?_
    refine ob_i (vInt_lss _ _ _) ?_
    refine cnd_d (fun hg4 => ?_) (fun hg4 => ?_)
    · skip
      have ti := hg4
      refine ob_i (hva.ix (by omega) (by omega)) ?_
      refine ob_i (hva.ld 0 (by omega) (by omega)) ?_
      refine ob_i (hvb.ix (by omega) (by omega)) ?_
      refine ob_i (hvb.ld 0 (by omega) (by omega)) ?_
      refine ob_i (vInt_neq _ _ _) ?_
      refine cnd_d (fun hg5 => ?_) (fun hg5 => ?_)
      · skip
        refine retK (K := K) (v' := (.bool false)) rfl ?_
        skip
        exact keq (K := K) (by rw [decide_eq_false (show ¬ (l = m) from by intro h; subst h; omega)]) (hk   _    lE)
      · skip
        refine ob_i (vInt_add (by omega) (by omega)) ?_
        exact nxt (l.length - (i + 1)) (by omega) ⟨i + 1, rfl, by omega, g0L3, g1L3, (congrArg (Value.int .i64) (by first | omega | rfl | (simp; done))), lE, (same_snoc hm0 (Decidable.not_not.mp hg5))⟩
    · skip
      have ti := hg4
      exact hJ2 _ _ ⟨lE, (by rw [show l.length = i by omega]; exact hm0)⟩
theorem C.tell0 {p vc vt : Value} {r c i k z : Int} {l t : List Int} {H H1 : Hp} {K : Value → Hp → Prop} (hp0 : CelR H p [.int .i64 r, .int .i64 c, vc]) (hvc0 : Sl eI H vc l) (l0 : Le H H1) (ovt : Own eI H1 vt t) (nvt : Nw H vt) (hl : (l.length : Int) = r * c) (k1 : l.length ≤ 256) (hr : r ≤ 16) (hc : c ≤ 16) (i0 : 0 ≤ i) (k0 : 0 ≤ k) (iz : i + z ≤ r) (kz : k + z ≤ c) (hm : t.length % 4 = 0) (hz : z = szz (0)) (he : (0) ≤ 4) (hb : t.length + grQ ((0)) ≤ 1000)
    (hk : ∀ u H', Own eI H' u (telF c l (0) i k t).2 → Off vt H1 H' → (∀ b, bk u = some b → bk vt = some b ∨ H1 b = none) → K (.tuple #[.int .i64 (telF c l (0) i k t).1, u]) H') : HT prg I.spec_l05Tell [p, .int .i64 i, .int .i64 k, .int .i64 z, vt].toArray H1 K := by
  have lE := l0
  have hp := hp0.le l0
  have hvc := hvc0.le l0
  obtain ⟨Sfr, hSfr⟩ : ∃ S, S = rest H1 vt := ⟨_, rfl⟩
  have ofr : Frm H1 Sfr H1 := by rw [hSfr]; exact rest_start
  have avtXfr : Apt vt Sfr := by rw [hSfr]; exact rest_apt
  refine R.spec_l05Tell ?_
  unfold F.spec_l05Tell
  have hz1 : z = 1 := hz
  have ic0 := Int.mul_nonneg i0 (show 0 ≤ c by omega)
  have ic1 := Int.mul_le_mul_of_nonneg_right (show i + 1 ≤ r by omega) (show 0 ≤ c by omega)
  rw [Int.add_mul, Int.one_mul] at ic1
  refine ob_i (vInt_eql _ _ _) ?_
  refine cnd_d (fun hg1 => ?_) (fun hg1 => ?_)
  · skip
    refine ob_i (hp.nilC) ?_
    refine ob_i (hp.fa 2) ?_
    refine ob_i (hp.ld 2 rfl) ?_
    refine ob_i (hp.nilC) ?_
    refine ob_i (hp.fa 1) ?_
    refine ob_i (hp.ld 1 rfl) ?_
    refine ob_i (vInt_mul (by omega) (by omega)) ?_
    refine ob_i (vInt_add (by omega) (by omega)) ?_
    refine ob_i (hvc.ix (by omega) (by omega)) ?_
    refine ob_i (hvc.ld 0 (by omega) (by omega)) ?_
    have hq : telF c l 0 i k t = (at_ 0 (l) ((i * c) + k), t) := rfl
    rw [hq] at hk
    have afr := avtXfr
    rw [hSfr] at ofr afr
    exact hk vt _ ovt (rest_off ofr) (rest_new afr)
  · skip
    exact absurd hg1 (fun h => h hz)
def TellP (e : Nat) : Prop := ∀ {p vc vt : Value} {r c i k z : Int} {l t : List Int} {H H1 : Hp} {K : Value → Hp → Prop}, CelR H p [.int .i64 r, .int .i64 c, vc] → Sl eI H vc l → Le H H1 → Own eI H1 vt t → Nw H vt → (l.length : Int) = r * c → l.length ≤ 256 → r ≤ 16 → c ≤ 16 → 0 ≤ i → 0 ≤ k → i + z ≤ r → k + z ≤ c → t.length % 4 = 0 → z = szz e → e ≤ 4 → t.length + grQ e ≤ 1000 →
    (∀ u H', Own eI H' u (telF c l e i k t).2 → Off vt H1 H' → (∀ b, bk u = some b → bk vt = some b ∨ H1 b = none) → K (.tuple #[.int .i64 (telF c l e i k t).1, u]) H') → HT prg I.spec_l05Tell [p, .int .i64 i, .int .i64 k, .int .i64 z, vt].toArray H1 K
theorem C.tellS {e : Nat} (ih : TellP e) {p vc vt : Value} {r c i k z : Int} {l t : List Int} {H H1 : Hp} {K : Value → Hp → Prop} (hp0 : CelR H p [.int .i64 r, .int .i64 c, vc]) (hvc0 : Sl eI H vc l) (l0 : Le H H1) (ovt : Own eI H1 vt t) (nvt : Nw H vt) (hl : (l.length : Int) = r * c) (k1 : l.length ≤ 256) (hr : r ≤ 16) (hc : c ≤ 16) (i0 : 0 ≤ i) (k0 : 0 ≤ k) (iz : i + z ≤ r) (kz : k + z ≤ c) (hm : t.length % 4 = 0) (hz : z = szz (e + 1)) (he : (e + 1) ≤ 4) (hb : t.length + grQ ((e + 1)) ≤ 1000)
    (hk : ∀ u H', Own eI H' u (telF c l (e + 1) i k t).2 → Off vt H1 H' → (∀ b, bk u = some b → bk vt = some b ∨ H1 b = none) → K (.tuple #[.int .i64 (telF c l (e + 1) i k t).1, u]) H') : HT prg I.spec_l05Tell [p, .int .i64 i, .int .i64 k, .int .i64 z, vt].toArray H1 K := by
  have lE := l0
  have hp := hp0.le l0
  have hvc := hvc0.le l0
  obtain ⟨Sfr, hSfr⟩ : ∃ S, S = rest H1 vt := ⟨_, rfl⟩
  have ofr : Frm H1 Sfr H1 := by rw [hSfr]; exact rest_start
  have avtXfr : Apt vt Sfr := by rw [hSfr]; exact rest_apt
  refine R.spec_l05Tell ?_
  unfold F.spec_l05Tell
  have zz := szz_succ e
  have zp := szz_pos e
  have gq : grQ (e + 1) = 4 * grQ e + 4 := rfl
  refine ob_i (vInt_eql _ _ _) ?_
  refine cnd_d (fun hg1 => ?_) (fun hg1 => ?_)
  · skip
    exact absurd hg1 (by omega)
  · skip
    refine ob_i (vInt_quoN (by omega) (by omega) (by omega)) ?_
    obtain ⟨h, hh⟩ : ∃ x, x = z / 2 := ⟨_, rfl⟩
    rw [← hh]
    refine bS_nil (enc := eI) (fun u2 H3 ou2 nn4 kk5 le6 => ?_)
    have avtXu2 : Apart vt u2 := ovt.apart nn4
    have afrXu2 : Apt Sfr u2 := Apt.of_nw ofr.known nn4
    have nu2 : Nw H u2 := nn4.le lE
    replace ovt := ovt.le le6
    replace ofr := ofr.le le6
    replace hp := hp.le le6
    replace hvc := hvc.le le6
    replace lE := lE.trans le6
    refine jn_i (fun σ' H' => ∃ v, ∃ w, σ' 4 = v ∧ σ' 13 = w ∧ Frm H1 Sfr H' ∧ Own eI H' v ((fourQ (telF c l e) h i k t 4).2) ∧ Own eI H' w ((fourQ (telF c l e) h i k t 4).1) ∧ Nw H v ∧ Apt Sfr v ∧ Nw H w ∧ Apt Sfr w ∧ Apart v w ∧ Le H H') (fun σ7 H7 hP => ?_) (fun J7 hJ7 => ?_)
    · skip
      obtain ⟨v, w, g4L7, g13L7, ofr, ov, ow, nv, afrXv, nw, afrXw, avXw, lE⟩ := hP
      have hp := hp0.le lE
      have hvc := hvc0.le lE
      try simp only [g4L7, g13L7]
      have fl := fourQ_len2 (h := h) (i := i) (k := k) (telF_len c l e) hm 4
      have f1 := fourQ_len1 (g := telF c l e) (h := h) (i := i) (k := k) (t := t) 4
      refine jn_i (fun σ' H' => σ' 4 = v ∧ σ' 13 = w ∧ Frm H1 Sfr H' ∧ Own eI H' v ((fourQ (telF c l e) h i k t 4).2) ∧ Own eI H' w ((fourQ (telF c l e) h i k t 4).1) ∧ Le H H' ∧ (∀ j : Nat, j < (fourQ (telF c l e) h i k t 4).2.length / 4 → chQ (fourQ (telF c l e) h i k t 4).2 j ≠ (fourQ (telF c l e) h i k t 4).1)) (fun σ8 H8 hP => ?_) (fun J8 hJ8 => ?_)
      · skip
        obtain ⟨g4L8, g13L8, ofr, ov, ow, lE, ho0⟩ := hP
        have hp := hp0.le lE
        have hvc := hvc0.le lE
        try simp only [g4L8, g13L8]
        refine ob_i (ov.len) ?_
        refine ob_i (vInt_quoN (by omega) (by omega) (by omega)) ?_
        refine ob_i (vInt_add (by omega) (by omega)) ?_
        refine apd_any ov ow.sl (fun _ => rfl) (by omega) (by first | omega | (simp only [List.length_cons, List.length_nil, List.length_append, List.length_replicate, List.length_map, List.length_range]; omega)) (fun u12 H9 ou12 off10 hb11 => ?_)
        have afrXu12 : Apt Sfr u12 := Apt.ap2 ofr.known afrXv hb11
        have awXu12 : Apart w u12 := Apart.ap2 ow.known avXw.symm hb11
        have nu12 : Nw H u12 := Nw.ap2 nv lE hb11
        replace ofr := ofr.off off10 afrXv
        replace ow := ow.off off10 avXw.symm
        replace hp := hp0.le (off10.le lE nv)
        replace hvc := hvc0.le (off10.le lE nv)
        replace lE := off10.le lE nv
        have e1 : h = szz e := by rw [hh, hz]; exact szz_half e
        have zz := szz_succ e
        have hq : telF c l (e + 1) i k t = ((((((fourQ (telF c l e) h i k t 4).2).length : Int)) / 4) + 2, ((fourQ (telF c l e) h i k t 4).2) ++ ((fourQ (telF c l e) h i k t 4).1)) := by
          show putQ (fourQ (telF c l e) (szz e) i k t 4).2 (fourQ (telF c l e) (szz e) i k t 4).1 = _
          rw [← e1, putQ_none ho0]
        rw [hq] at hk
        have afr := afrXu12.symm
        rw [hSfr] at ofr afr
        exact hk u12 _ ou12 (rest_off ofr) (rest_new afr)
      refine ⟨fun n' σ' H' => ∃ m : Nat, n' = ((fourQ (telF c l e) h i k t 4).2.length / 4) - m ∧ m ≤ ((fourQ (telF c l e) h i k t 4).2.length / 4) ∧ σ' 4 = v ∧ σ' 13 = w ∧ σ' 17 = (.int .i64 (4 * (m : Int))) ∧ Frm H1 Sfr H' ∧ Own eI H' v ((fourQ (telF c l e) h i k t 4).2) ∧ Own eI H' w ((fourQ (telF c l e) h i k t 4).1) ∧ Le H H' ∧ (∀ j : Nat, j < m → chQ (fourQ (telF c l e) h i k t 4).2 j ≠ (fourQ (telF c l e) h i k t 4).1),
        ⟨_, 0, rfl, by omega, g4L7, g13L7, (congrArg (Value.int .i64) (by first | omega | rfl | (simp; done))), ofr, ov, ow, lE, (fun j hj => by omega)⟩, ?_⟩
      rintro n13 σ13 H13 ⟨m, rfl, hmN, g4L13, g13L13, g17L13, ofr, ov, ow, lE, hm0⟩
      have hp := hp0.le lE
      have hvc := hvc0.le lE
      try simp only [g4L13, g13L13, g17L13]
      refine ob_i (ov.len) ?_
      refine ob_i (vInt_lss _ _ _) ?_
      refine cnd_d (fun hg14 => ?_) (fun hg14 => ?_)
      · skip
        have tm := hg14
        refine ob_i (vInt_add (by omega) (by omega)) ?_
        obtain ⟨x15, eq16a, eq16b, eq16c, eq16d, hx150, hb17⟩ := ov.sl.cut (lo := 4 * (m : Int)) (hi := (4 * (m : Int)) + 4) (by omega) (by omega) (by omega)
        refine ob_i (eq16a) ?_
        have ox15 : Ro eI H13 x15 ((((fourQ (telF c l e) h i k t 4).2).drop (4 * (m : Int)).toNat).take (((4 * (m : Int)) + 4).toNat - (4 * (m : Int)).toNat)) := ⟨hx150, fun b hb => ov.known b (hb17 b hb)⟩
        have afrXx15 : Apt Sfr x15 := fun b h1 h2 => afrXv b h1 (hb17 b h2)
        have awXx15 : Apart w x15 := fun b h1 h2 => avXw.symm b h1 (hb17 b h2)
        refine C.spec_l00Same ox15.sl ow.sl (by first | (simp only [List.length_take, List.length_drop]; omega) | omega | assumption) (fun   H18    le19 => ?_)
        replace ofr := ofr.le le19
        replace ov := ov.le le19
        replace ow := ow.le le19
        replace ox15 := ox15.le le19
        replace hp := hp.le le19
        replace hvc := hvc.le le19
        replace lE := lE.trans le19
        refine cnd_d (fun hg20 => ?_) (fun hg20 => ?_)
        · skip
          refine ob_i (vInt_quoN (by omega) (by omega) (by omega)) ?_
          refine ob_i (vInt_add (by omega) (by omega)) ?_
          refine retK (K := K) (v' := (.tuple #[(.int .i64 (((4 * (m : Int)) / 4) + 2)), v])) rfl ?_
          have e1 : h = szz e := by rw [hh, hz]; exact szz_half e
          have zz := szz_succ e
          have hq : telF c l (e + 1) i k t = (((4 * (m : Int)) / 4) + 2, (fourQ (telF c l e) h i k t 4).2) := by
            show putQ (fourQ (telF c l e) (szz e) i k t 4).2 (fourQ (telF c l e) (szz e) i k t 4).1 = _
            rw [← e1, putQ_at (j := m) (by omega) (by rw [← chQ_cut]; exact hg20) hm0]; congr 1; omega
          rw [hq] at hk
          have afr := afrXv.symm
          rw [hSfr] at ofr afr
          exact hk v _ ov (rest_off ofr) (rest_new afr)
        · skip
          refine ob_i (vInt_add (by omega) (by omega)) ?_
          exact nxt (((fourQ (telF c l e) h i k t 4).2.length / 4) - (m + 1)) (by omega) ⟨m + 1, rfl, by omega, g4L13, g13L13, (congrArg (Value.int .i64) (by first | omega | rfl | (simp; done))), ofr, ov, ow, lE, (fun j hj => by by_cases ej : j = m; (subst ej; rw [← chQ_cut]; exact hg20); exact hm0 j (by omega))⟩
      · skip
        have tm := hg14
        exact hJ8 _ _ ⟨g4L13, g13L13, ofr, ov, ow, lE, (by rw [show (fourQ (telF c l e) h i k t 4).2.length / 4 = m by omega]; exact hm0)⟩
    refine ⟨fun n' σ' H' => ∃ q : Nat, n' = 4 - q ∧ q ≤ 4 ∧ ∃ v, ∃ w, σ' 0 = p ∧ σ' 1 = (.int .i64 (i)) ∧ σ' 2 = (.int .i64 (k)) ∧ σ' 4 = v ∧ σ' 12 = (.int .i64 (h)) ∧ σ' 13 = w ∧ σ' 14 = (.int .i64 ((q : Int))) ∧ Frm H1 Sfr H' ∧ Own eI H' v ((fourQ (telF c l e) h i k t q).2) ∧ Own eI H' w ((fourQ (telF c l e) h i k t q).1) ∧ Nw H v ∧ Apt Sfr v ∧ Nw H w ∧ Apt Sfr w ∧ Apart v w ∧ Le H H',
      ⟨_, 0, rfl, by omega, vt, u2, rfl, rfl, rfl, rfl, rfl, rfl, (congrArg (Value.int .i64) (by first | omega | rfl | (simp; done))), ofr, (Own.cast (by first | rfl | (simp; done)) ovt), (Own.cast (by first | rfl | (simp; done)) ou2), nvt, avtXfr.symm, nu2, afrXu2, avtXu2, lE⟩, ?_⟩
    rintro n21 σ21 H21 ⟨q, rfl, hqN, v, w, g0L21, g1L21, g2L21, g4L21, g12L21, g13L21, g14L21, ofr, ov, ow, nv, afrXv, nw, afrXw, avXw, lE⟩
    have hp := hp0.le lE
    have hvc := hvc0.le lE
    try simp only [g0L21, g1L21, g2L21, g4L21, g12L21, g13L21, g14L21]
    have fl := fourQ_len2 (h := h) (i := i) (k := k) (telF_len c l e) hm q
    have f1 := fourQ_len1 (g := telF c l e) (h := h) (i := i) (k := k) (t := t) q
    have e1 : h = szz e := by rw [hh, hz]; exact szz_half e
    have zz := szz_succ e
    refine ob_i (vInt_lss _ _ _) ?_
    refine cnd_d (fun hg22 => ?_) (fun hg22 => ?_)
    · skip
      have tq := hg22
      have qb : q * grQ e ≤ 3 * grQ e := Nat.mul_le_mul_right _ (by omega)
      have hq2 : 0 ≤ (q : Int) / 2 * h ∧ (q : Int) / 2 * h ≤ h := by
        have : (q : Int) / 2 = 0 ∨ (q : Int) / 2 = 1 := by omega
        rcases this with h' | h' <;> rw [h'] <;> omega
      have hq3 : 0 ≤ (q : Int) % 2 * h ∧ (q : Int) % 2 * h ≤ h := by
        have : (q : Int) % 2 = 0 ∨ (q : Int) % 2 = 1 := by omega
        rcases this with h' | h' <;> rw [h'] <;> omega
      refine ob_i (vInt_quoN (by omega) (by omega) (by omega)) ?_
      refine ob_i (vInt_mul (by omega) (by omega)) ?_
      refine ob_i (vInt_add (by omega) (by omega)) ?_
      refine ob_i (vInt_remN (by omega) (by omega)) ?_
      refine ob_i (vInt_mul (by omega) (by omega)) ?_
      refine ob_i (vInt_add (by omega) (by omega)) ?_
      refine ih hp0 hvc0 lE ov nv hl k1 (by omega) (by omega) (by omega) (by omega) (by omega) (by omega) (by first | omega | rfl) (by first | assumption | omega) (by omega) (by first | omega | (simp only [List.length_nil]; omega)) (fun u26 H23 ou26 off24 hb25 => ?_)
      have afrXu26 : Apt Sfr u26 := Apt.ap2 ofr.known afrXv hb25
      have awXu26 : Apart w u26 := Apart.ap2 ow.known avXw.symm hb25
      have nu26 : Nw H u26 := Nw.ap2 nv lE hb25
      replace ofr := ofr.off off24 afrXv
      replace ow := ow.off off24 avXw.symm
      replace hp := hp0.le (off24.le lE nv)
      replace hvc := hvc0.le (off24.le lE nv)
      replace lE := off24.le lE nv
      refine ob_i (vExt_20 _ _) ?_
      refine ob_i (vExt_21 _ _) ?_
      refine bS_i (enc := eI) (l := [(telF c l e (i + (((q : Int) / 2) * h)) (k + (((q : Int) % 2) * h)) ((fourQ (telF c l e) h i k t q).2)).1]) (by omega) rfl (by kernel_rfl) (fun u27 H28 ou27 nn29 le31 => ?_)
      have afrXu27 : Apt Sfr u27 := Apt.of_nw ofr.known nn29
      have awXu27 : Apart w u27 := ow.apart nn29
      have au26Xu27 : Apart u26 u27 := ou26.apart nn29
      have nu27 : Nw H u27 := nn29.le lE
      replace ofr := ofr.le le31
      replace ow := ow.le le31
      replace ou26 := ou26.le le31
      replace hp := hp.le le31
      replace hvc := hvc.le le31
      replace lE := lE.trans le31
      refine apd_any ow ou27.sl (fun _ => rfl) (by omega) (by first | omega | (simp only [List.length_cons, List.length_nil, List.length_append, List.length_replicate, List.length_map, List.length_range]; omega)) (fun u35 H32 ou35 off33 hb34 => ?_)
      have afrXu35 : Apt Sfr u35 := Apt.ap2 ofr.known afrXw hb34
      have au26Xu35 : Apart u26 u35 := Apart.ap2 ou26.known awXu26.symm hb34
      have au27Xu35 : Apart u27 u35 := Apart.ap2 ou27.known awXu27.symm hb34
      have nu35 : Nw H u35 := Nw.ap2 nw lE hb34
      replace ofr := ofr.off off33 afrXw
      replace ou26 := ou26.off off33 awXu26.symm
      replace ou27 := ou27.off off33 awXu27.symm
      replace hp := hp0.le (off33.le lE nw)
      replace hvc := hvc0.le (off33.le lE nw)
      replace lE := off33.le lE nw
      refine ob_i (vInt_add (by omega) (by omega)) ?_
      exact nxt (4 - (q + 1)) (by omega) ⟨q + 1, rfl, by omega, u26, u35, g0L21, g1L21, g2L21, rfl, g12L21, rfl, (congrArg (Value.int .i64) (by first | omega | rfl | (simp; done))), ofr, ou26, ou35, nu26, afrXu26, nu35, afrXu35, au26Xu35, lE⟩
    · skip
      have tq := hg22
      obtain rfl : q = 4 := by omega
      exact hJ7 _ _ ⟨v, w, g4L21, g13L21, ofr, ov, ow, nv, afrXv, nw, afrXw, avXw, lE⟩
theorem C.tell_all : ∀ e, TellP e
  | 0 => fun a b d f g h0 h1 h2 h3 h4 h5 h6 h7 h8 h9 h10 h11 hk => C.tell0 a b d f g h0 h1 h2 h3 h4 h5 h6 h7 h8 h9 h10 h11 hk
  | e + 1 => fun a b d f g h0 h1 h2 h3 h4 h5 h6 h7 h8 h9 h10 h11 hk => C.tellS (C.tell_all e) a b d f g h0 h1 h2 h3 h4 h5 h6 h7 h8 h9 h10 h11 hk
theorem C.spec_l05Tree {p vc : Value} {r c : Int} {l : List Int}  {H : Hp} {K : Value → Hp → Prop} (hp0 : Cel H p [(.int .i64 (r)), (.int .i64 (c)), vc]) (hvc0 : Sl eI H vc l) (hP : sqP r c l)
    (hk : ∀ u1 H', Own eI H' u1 (treL r c l) → Nw H u1 → Le H H' → K u1 H') : HT prg I.spec_l05Tree [p].toArray H K := by
  have lE := Le.refl H
  have hp := hp0
  have hvc := hvc0
  refine R.spec_l05Tree ?_
  unfold F.spec_l05Tree
  have hf := hP.1
  have hl := hf.2.1
  have hrc := hP.2.1
  have hr4 := hP.2.2
  have zr : r = szz (lgN r - 1) := by rcases hr4 with rfl | rfl | rfl <;> decide
  have e5 : lgN r - 1 ≤ 4 := by rcases hr4 with rfl | rfl | rfl <;> decide
  have g5 := grQ_le (lgN r - 1) e5
  have k1 : l.length ≤ 256 := by have := Int.mul_le_mul (show r ≤ 16 by omega) (show c ≤ 16 by omega) (by omega) (by omega); omega
  refine ob_i (hp.nilC) ?_
  refine ob_i (hp.fa 0) ?_
  refine ob_i (hp.ld 0 rfl) ?_
  refine bS_nil (enc := eI) (fun u1 H2 ou1 nn3 kk4 le5 => ?_)
  have nu1 : Nw H u1 := nn3.le lE
  replace hp := hp.le le5
  replace hvc := hvc.le le5
  replace lE := lE.trans le5
  refine C.tell_all (lgN r - 1) hp0.r hvc0 lE ou1 nu1 hl k1 (by omega) (by omega) (by omega) (by omega) (by omega) (by omega) (by first | omega | rfl) (by first | assumption | omega) (by omega) (by first | omega | (simp only [List.length_nil]; omega)) (fun u9 H6 ou9 off7 hb8 => ?_)
  have nu9 : Nw H u9 := Nw.ap2 nu1 lE hb8
  replace hp := hp0.le (off7.le lE nu1)
  replace hvc := hvc0.le (off7.le lE nu1)
  replace lE := off7.le lE nu1
  refine ob_i (vExt_20 _ _) ?_
  refine ob_i (vExt_21 _ _) ?_
  skip
  exact hk  u9 _ (Own.cast (show (telF c l (lgN r - 1) (0) (0) ([])).2 = treL r c l by first | rfl | simp) ou9) nu9  lE
theorem C.spec_QuarterTree {vc : Value} {r c : Int} {l : List Int}  {H : Hp} {K : Value → Hp → Prop} (hvc0 : Sl eI H vc l) (k1 : l.length ≤ 9223372036854775807)
    (hk : ∀ u1 H', Own eI H' u1 (selL (sqP r c l) (treL r c l)) → Nw H u1 → Le H H' → K (.tuple #[u1, (.bool (decide (sqP r c l)))]) H') : HT prg I.spec_QuarterTree [(.agg #[(.int .i64 (r)), (.int .i64 (c)), vc])].toArray H K := by
  have lE := Le.refl H
  have hvc := hvc0
  refine R.spec_QuarterTree ?_
  unfold F.spec_QuarterTree
  refine nw_i (fun p1 H2 op1 nn3 le4 => ?_)
  have np1 : Nw H p1 := nn3.le lE
  replace hvc := hvc.le le4
  replace lE := lE.trans le4
  replace op1 : Cel H2 p1 [(.int .i64 (r)), (.int .i64 (c)), vc] := op1
  refine C.spec_l05Square op1 hvc (by first | omega | assumption) (fun   H5    le6 => ?_)
  replace op1 := op1.le le6
  replace hvc := hvc.le le6
  replace lE := lE.trans le6
  refine ob_nd (fun hc7 => ?_) (fun hc7 => ?_)
  · skip
    have hf := hc7.1
    have l1 := fieldN_len hf
    refine cnd_f1 ?_
    refine C.spec_l05Tree op1 hvc (by first | omega | assumption) (fun  u10 H8 ou10 nn11  le9 => ?_)
    have ap1Xu10 : Apart p1 u10 := op1.apart nn11
    have nu10 : Nw H u10 := nn11.le lE
    replace op1 := op1.le le9
    replace hvc := hvc.le le9
    replace lE := lE.trans le9
    skip
    have hok : sqP r c l := by assumption
    exact keq (K := K) (by rw [decide_eq_true (show (sqP r c l) from by exact hok)]) (hk  u10 _ (Own.cast (show treL r c l = selL (sqP r c l) (treL r c l) by exact (selL_t hok).symm) ou10) nu10  lE)
  · skip
    refine cnd_t1 ?_
    skip
    have hok : ¬ (sqP r c l) := by assumption
    exact keq (K := K) (by rw [decide_eq_false (show ¬ (sqP r c l) from by exact hok)]) (hk  (.slice none 0 0) _ (Own.cast (show [] = selL (sqP r c l) (treL r c l) by exact (selL_f hok).symm) (Own.nil_of none)) (fun b hb => by simp [bk] at hb)  lE)
theorem C.tree0 {pf ft pl po mq vc vt : Value} {Smq : Rg} {r c i k z : Int} {l t : List Int} {H H1 : Hp} {K : Value → Hp → Prop} (hvc0 : Sl eI H vc l) (l0 : Le H H1) (opf : Cel H1 pf [.int .i64 r, .int .i64 c, vc]) (oft : Cel H1 ft [.func (.func I.impl_Field_tree_1) #[] #[pf, ft, pl, po]]) (opl : Cel H1 pl [mq]) (omq : MpQ H1 mq Smq (entQ t)) (opo : Cel H1 po [vt]) (ovt : Own eI H1 vt t) (apfXmq : Apt pf Smq) (apfXpo : Apart pf po) (apfXvt : Apart pf vt) (aftXmq : Apt ft Smq) (aftXpo : Apart ft po) (aftXvt : Apart ft vt) (aplXmq : Apt pl Smq) (aplXpo : Apart pl po) (aplXvt : Apart pl vt) (amqXpo : Apt Smq po) (amqXvt : Apt Smq vt) (apoXvt : Apart po vt) (nmq : Nws H Smq) (npo : Nw H po) (nvt : Nw H vt) (hl : (l.length : Int) = r * c) (k1 : l.length ≤ 256) (hr : r ≤ 16) (hc : c ≤ 16) (i0 : 0 ≤ i) (k0 : 0 ≤ k) (iz : i + z ≤ r) (kz : k + z ≤ c) (hm : t.length % 4 = 0) (hz : z = szz (0)) (he : (0) ≤ 4) (hb : t.length + grQ ((0)) ≤ 1000)
    (hk : ∀ u H', Own eI H' u (telF c l (0) i k t).2 → MpQ H' mq Smq (entQ (telF c l (0) i k t).2) → Cel H' po [u] → OffS (HL.tri po Smq vt) H1 H' → (∀ b, bk u = some b → bk vt = some b ∨ H1 b = none) → K (.int .i64 (telF c l (0) i k t).1) H') : HT prg I.impl_Field_tree_1 [.int .i64 i, .int .i64 k, .int .i64 z, pf, ft, pl, po].toArray H1 K := by
  have lE := l0
  have hvc := hvc0.le l0
  obtain ⟨Sfr, hSfr⟩ : ∃ S, S = rest H1 (HL.tri po Smq vt) := ⟨_, rfl⟩
  have ofr : Frm H1 Sfr H1 := by rw [hSfr]; exact rest_start
  have amqXfr : Apt Smq Sfr := by rw [hSfr]; exact tri_apt.2.1
  have apoXfr : Apt po Sfr := by rw [hSfr]; exact tri_apt.1
  have avtXfr : Apt vt Sfr := by rw [hSfr]; exact tri_apt.2.2
  refine R.impl_Field_tree_1 ?_
  unfold F.impl_Field_tree_1
  have hz1 : z = 1 := hz
  have ic0 := Int.mul_nonneg i0 (show 0 ≤ c by omega)
  have ic1 := Int.mul_le_mul_of_nonneg_right (show i + 1 ≤ r by omega) (show 0 ≤ c by omega)
  rw [Int.add_mul, Int.one_mul] at ic1
  refine ob_i (vInt_eql _ _ _) ?_
  refine cnd_d (fun hg1 => ?_) (fun hg1 => ?_)
  · skip
    refine ob_i (opf.ldn rfl) ?_
    refine C.impl_Field_at hvc (by first | omega | assumption) (by first | omega | assumption) (by first | omega | assumption) (by first | omega | assumption) (by first | omega | assumption) (fun   H2    le3 => ?_)
    replace opf := opf.le le3
    replace oft := oft.le le3
    replace opl := opl.le le3
    replace omq := omq.le le3
    replace opo := opo.le le3
    replace ovt := ovt.le le3
    replace ofr := ofr.le le3
    replace hvc := hvc.le le3
    replace lE := lE.trans le3
    have hq : telF c l 0 i k t = (at_ 0 l (i * c + k), t) := rfl
    rw [hq] at hk
    have afr := avtXfr
    rw [hSfr] at ofr afr
    exact hk vt _ ovt (omq) opo (rest_offS ofr) (tri_new afr apoXvt.symm amqXvt.symm)
  · skip
    exact absurd hg1 (fun h => h hz)
def TreeP (e : Nat) : Prop := ∀ {pf ft pl po mq vc vt : Value} {Smq : Rg} {r c i k z : Int} {l t : List Int} {H H1 : Hp} {K : Value → Hp → Prop} , ∀ (hvc0 : Sl eI H vc l) (l0 : Le H H1) (opf : Cel H1 pf [.int .i64 r, .int .i64 c, vc]) (oft : Cel H1 ft [.func (.func I.impl_Field_tree_1) #[] #[pf, ft, pl, po]]) (opl : Cel H1 pl [mq]) (omq : MpQ H1 mq Smq (entQ t)) (opo : Cel H1 po [vt]) (ovt : Own eI H1 vt t) (apfXmq : Apt pf Smq) (apfXpo : Apart pf po) (apfXvt : Apart pf vt) (aftXmq : Apt ft Smq) (aftXpo : Apart ft po) (aftXvt : Apart ft vt) (aplXmq : Apt pl Smq) (aplXpo : Apart pl po) (aplXvt : Apart pl vt) (amqXpo : Apt Smq po) (amqXvt : Apt Smq vt) (apoXvt : Apart po vt) (nmq : Nws H Smq) (npo : Nw H po) (nvt : Nw H vt) (hl : (l.length : Int) = r * c) (k1 : l.length ≤ 256) (hr : r ≤ 16) (hc : c ≤ 16) (i0 : 0 ≤ i) (k0 : 0 ≤ k) (iz : i + z ≤ r) (kz : k + z ≤ c) (hm : t.length % 4 = 0) (hz : z = szz e) (he : e ≤ 4) (hb : t.length + grQ (e) ≤ 1000) (hk : ∀ u H', Own eI H' u (telF c l (e) i k t).2 → MpQ H' mq Smq (entQ (telF c l (e) i k t).2) → Cel H' po [u] → OffS (HL.tri po Smq vt) H1 H' → (∀ b, bk u = some b → bk vt = some b ∨ H1 b = none) → K (.int .i64 (telF c l (e) i k t).1) H'), HT prg I.impl_Field_tree_1 [.int .i64 i, .int .i64 k, .int .i64 z, pf, ft, pl, po].toArray H1 K
theorem C.treeS {e : Nat} (ih : TreeP e) {pf ft pl po mq vc vt : Value} {Smq : Rg} {r c i k z : Int} {l t : List Int} {H H1 : Hp} {K : Value → Hp → Prop} (hvc0 : Sl eI H vc l) (l0 : Le H H1) (opf : Cel H1 pf [.int .i64 r, .int .i64 c, vc]) (oft : Cel H1 ft [.func (.func I.impl_Field_tree_1) #[] #[pf, ft, pl, po]]) (opl : Cel H1 pl [mq]) (omq : MpQ H1 mq Smq (entQ t)) (opo : Cel H1 po [vt]) (ovt : Own eI H1 vt t) (apfXmq : Apt pf Smq) (apfXpo : Apart pf po) (apfXvt : Apart pf vt) (aftXmq : Apt ft Smq) (aftXpo : Apart ft po) (aftXvt : Apart ft vt) (aplXmq : Apt pl Smq) (aplXpo : Apart pl po) (aplXvt : Apart pl vt) (amqXpo : Apt Smq po) (amqXvt : Apt Smq vt) (apoXvt : Apart po vt) (nmq : Nws H Smq) (npo : Nw H po) (nvt : Nw H vt) (hl : (l.length : Int) = r * c) (k1 : l.length ≤ 256) (hr : r ≤ 16) (hc : c ≤ 16) (i0 : 0 ≤ i) (k0 : 0 ≤ k) (iz : i + z ≤ r) (kz : k + z ≤ c) (hm : t.length % 4 = 0) (hz : z = szz (e + 1)) (he : (e + 1) ≤ 4) (hb : t.length + grQ ((e + 1)) ≤ 1000)
    (hk : ∀ u H', Own eI H' u (telF c l (e + 1) i k t).2 → MpQ H' mq Smq (entQ (telF c l (e + 1) i k t).2) → Cel H' po [u] → OffS (HL.tri po Smq vt) H1 H' → (∀ b, bk u = some b → bk vt = some b ∨ H1 b = none) → K (.int .i64 (telF c l (e + 1) i k t).1) H') : HT prg I.impl_Field_tree_1 [.int .i64 i, .int .i64 k, .int .i64 z, pf, ft, pl, po].toArray H1 K := by
  have lE := l0
  have hvc := hvc0.le l0
  obtain ⟨Sfr, hSfr⟩ : ∃ S, S = rest H1 (HL.tri po Smq vt) := ⟨_, rfl⟩
  have ofr : Frm H1 Sfr H1 := by rw [hSfr]; exact rest_start
  have amqXfr : Apt Smq Sfr := by rw [hSfr]; exact tri_apt.2.1
  have apoXfr : Apt po Sfr := by rw [hSfr]; exact tri_apt.1
  have avtXfr : Apt vt Sfr := by rw [hSfr]; exact tri_apt.2.2
  refine R.impl_Field_tree_1 ?_
  unfold F.impl_Field_tree_1
  have zz := szz_succ e
  have zp := szz_pos e
  have gq : grQ (e + 1) = 4 * grQ e + 4 := rfl
  refine ob_i (vInt_eql _ _ _) ?_
  refine cnd_d (fun hg1 => ?_) (fun hg1 => ?_)
  · skip
    exact absurd hg1 (by omega)
  · skip
    refine ob_i (vInt_quoN (by omega) (by omega) (by omega)) ?_
    obtain ⟨h, hh⟩ : ∃ x, x = z / 2 := ⟨_, rfl⟩
    rw [← hh]
    refine hp_val (v := (.agg #[(.int .i64 (0)), (.int .i64 (0)), (.int .i64 (0)), (.int .i64 (0))])) (fun K => by kernel_rfl) ?_
    refine nw_i (fun pa H2 opa nn3 le4 => ?_)
    have apfXpa : Apart pf pa := opf.apart nn3
    have aftXpa : Apart ft pa := oft.apart nn3
    have aplXpa : Apart pl pa := opl.apart nn3
    have amqXpa : Apt Smq pa := Apt.of_nw omq.known nn3
    have apoXpa : Apart po pa := opo.apart nn3
    have avtXpa : Apart vt pa := ovt.apart nn3
    have afrXpa : Apt Sfr pa := Apt.of_nw ofr.known nn3
    have npa : Nw H pa := nn3.le lE
    replace opf := opf.le le4
    replace oft := oft.le le4
    replace opl := opl.le le4
    replace omq := omq.le le4
    replace opo := opo.le le4
    replace ovt := ovt.le le4
    replace ofr := ofr.le le4
    replace hvc := hvc.le le4
    replace lE := lE.trans le4
    replace opa : Cel H2 pa [(.int .i64 (0)), (.int .i64 (0)), (.int .i64 (0)), (.int .i64 (0))] := opa
    refine opa.stn (ws := [(.int .i64 (0)), (.int .i64 (0)), (.int .i64 (0)), (.int .i64 (0))]) rfl rfl (oc1 rfl (oc1 rfl (oc1 rfl (oc1 rfl oc0)))) (fun H5 opa off6 => ?_)
    replace opf := opf.off off6 apfXpa
    replace oft := oft.off off6 aftXpa
    replace opl := opl.off off6 aplXpa
    replace omq := omq.off off6 amqXpa
    replace opo := opo.off off6 apoXpa
    replace ovt := ovt.off off6 avtXpa
    replace ofr := ofr.off off6 afrXpa
    replace hvc := hvc0.le (off6.le lE npa)
    replace lE := off6.le lE npa
    replace opa : Cel H5 pa [(.int .i64 (0)), (.int .i64 (0)), (.int .i64 (0)), (.int .i64 (0))] := opa
    refine jn_i (fun σ' H' => ∃ v, σ' 5 = pl ∧ σ' 6 = po ∧ σ' 12 = pa ∧ Cel H' pf [(.int .i64 (r)), (.int .i64 (c)), vc] ∧ Cel H' ft [(.func (.func I.impl_Field_tree_1) #[] #[pf, ft, pl, po])] ∧ Cel H' pl [mq] ∧ MpQ H' mq Smq (entQ (fourQ (telF c l e) h i k t 4).2) ∧ Cel H' po [v] ∧ Frm H1 Sfr H' ∧ Cel H' pa [(.int .i64 (at_ 0 ((fourQ (telF c l e) h i k t 4).1) 0)), (.int .i64 (at_ 0 ((fourQ (telF c l e) h i k t 4).1) 1)), (.int .i64 (at_ 0 ((fourQ (telF c l e) h i k t 4).1) 2)), (.int .i64 (at_ 0 ((fourQ (telF c l e) h i k t 4).1) 3))] ∧ Own eI H' v ((fourQ (telF c l e) h i k t 4).2) ∧ Nw H v ∧ Apart pf v ∧ Apart ft v ∧ Apart pl v ∧ Apt Smq v ∧ Apart po v ∧ Apt Sfr v ∧ Apart pa v ∧ Le H H') (fun σ7 H7 hP => ?_) (fun J7 hJ7 => ?_)
    · skip
      obtain ⟨v, g5L7, g6L7, g12L7, opf, oft, opl, omq, opo, ofr, opa, ov, nv, apfXv, aftXv, aplXv, amqXv, apoXv, afrXv, apaXv, lE⟩ := hP
      have hvc := hvc0.le lE
      try simp only [g5L7, g6L7, g12L7]
      have fl := fourQ_len2 (h := h) (i := i) (k := k) (telF_len c l e) hm 4
      have f1 := fourQ_len1 (g := telF c l e) (h := h) (i := i) (k := k) (t := t) 4
      have eL := entQ_len (t := (fourQ (telF c l e) h i k t 4).2)
      have gb := mgetQ_bnd (T := (fourQ (telF c l e) h i k t 4).2) (F := (fourQ (telF c l e) h i k t 4).1) f1
      refine ob_i (opl.ld0 rfl) ?_
      refine ob_i (opa.ldn rfl) ?_
      refine MpQ.look' (k := (fourQ (telF c l e) h i k t 4).1) omq (by kernel_rfl) ?_
      refine ob_i (vExt_20 _ _) ?_
      refine ob_i (vExt_21 _ _) ?_
      refine ob_i (vUn_not _) ?_
      refine cnd_i (fun hg8 => ?_) (fun hg8 => ?_)
      · skip
        refine ob_i (opl.ld0 rfl) ?_
        refine ob_i (omq.len (by kernel_rfl)) ?_
        refine ob_i (opl.ld0 rfl) ?_
        refine ob_i (opa.ldn rfl) ?_
        refine MpQ.add' (k := (fourQ (telF c l e) h i k t 4).1) omq (by kernel_rfl) (by exact none_of_not (by assumption)) (fun H9 omq off10 => ?_)
        replace opf := opf.offS off10 apfXmq
        replace oft := oft.offS off10 aftXmq
        replace opl := opl.offS off10 aplXmq
        replace opo := opo.offS off10 amqXpo.symm
        replace ofr := ofr.offS off10 amqXfr.symm
        replace opa := opa.offS off10 amqXpa.symm
        replace ov := ov.offS off10 amqXv.symm
        replace hvc := hvc0.le (off10.le lE nmq)
        replace lE := off10.le lE nmq
        refine ob_i (opo.ld0 rfl) ?_
        obtain ⟨x11, eq12, ox11, hb13⟩ := Cel.slA (L := (fourQ (telF c l e) h i k t 4).1) (Cel.cast (c4_map (by omega)) opa) (by omega)
        refine ob_i (eq12) ?_
        have apfXx11 : Apart pf x11 := fun b h1 h2 => apfXpa b h1 (hb13 b h2)
        have aftXx11 : Apart ft x11 := fun b h1 h2 => aftXpa b h1 (hb13 b h2)
        have aplXx11 : Apart pl x11 := fun b h1 h2 => aplXpa b h1 (hb13 b h2)
        have amqXx11 : Apt Smq x11 := fun b h1 h2 => amqXpa b h1 (hb13 b h2)
        have apoXx11 : Apart po x11 := fun b h1 h2 => apoXpa b h1 (hb13 b h2)
        have afrXx11 : Apt Sfr x11 := fun b h1 h2 => afrXpa b h1 (hb13 b h2)
        have avXx11 : Apart v x11 := fun b h1 h2 => apaXv.symm b h1 (hb13 b h2)
        refine apd_any ov ox11.sl (fun _ => rfl) (by omega) (by first | omega | (simp only [List.length_cons, List.length_nil, List.length_append, List.length_replicate, List.length_map, List.length_range]; omega)) (fun u17 H14 ou17 off15 hb16 => ?_)
        have apfXu17 : Apart pf u17 := Apart.ap2 opf.known apfXv hb16
        have aftXu17 : Apart ft u17 := Apart.ap2 oft.known aftXv hb16
        have aplXu17 : Apart pl u17 := Apart.ap2 opl.known aplXv hb16
        have amqXu17 : Apt Smq u17 := Apt.ap2 omq.known amqXv hb16
        have apoXu17 : Apart po u17 := Apart.ap2 opo.known apoXv hb16
        have afrXu17 : Apt Sfr u17 := Apt.ap2 ofr.known afrXv hb16
        have apaXu17 : Apart pa u17 := Apart.ap2 opa.known apaXv hb16
        have ax11Xu17 : Apart x11 u17 := Apart.ap2 ox11.known avXx11.symm hb16
        have nu17 : Nw H u17 := Nw.ap2 nv lE hb16
        replace opf := opf.off off15 apfXv
        replace oft := oft.off off15 aftXv
        replace opl := opl.off off15 aplXv
        replace omq := omq.off off15 amqXv
        replace opo := opo.off off15 apoXv
        replace ofr := ofr.off off15 afrXv
        replace opa := opa.off off15 apaXv
        replace ox11 := ox11.off off15 avXx11.symm
        replace hvc := hvc0.le (off15.le lE nv)
        replace lE := off15.le lE nv
        refine opo.st0 (by simp) ou17.one ou17.cells (fun H18 opo off19 => ?_)
        replace opf := opf.off off19 apfXpo
        replace oft := oft.off off19 aftXpo
        replace opl := opl.off off19 aplXpo
        replace omq := omq.off off19 amqXpo
        replace ofr := ofr.off off19 apoXfr.symm
        replace opa := opa.off off19 apoXpa.symm
        replace ox11 := ox11.off off19 apoXx11.symm
        replace ou17 := ou17.off off19 apoXu17.symm
        replace hvc := hvc0.le (off19.le lE npo)
        replace lE := off19.le lE npo
        replace opo : Cel H18 po [u17] := opo
        refine ob_i (vInt_add (by omega) (by omega)) ?_
        have e1 : h = szz e := by rw [hh, hz]; exact szz_half e
        have zz := szz_succ e
        have hq : telF c l (e + 1) i k t = ((((entQ (fourQ (telF c l e) h i k t 4).2).length : Int)) + 2, ((fourQ (telF c l e) h i k t 4).2) ++ ((fourQ (telF c l e) h i k t 4).1)) := by
          show putQ (fourQ (telF c l e) (szz e) i k t 4).2 (fourQ (telF c l e) (szz e) i k t 4).1 = _
          rw [← e1, putQ_new f1 hg8]
        rw [hq] at hk
        have afr := afrXu17.symm
        rw [hSfr] at ofr afr
        exact hk u17 _ ou17 (MpQ.cast (by rw [entQ_app fl.1 f1, entQ_len]) omq) opo (rest_offS ofr) (tri_new afr apoXu17.symm amqXu17.symm)
      · skip
        refine ob_i (vInt_add (by omega) (by omega)) ?_
        have e1 : h = szz e := by rw [hh, hz]; exact szz_half e
        have zz := szz_succ e
        have hq : telF c l (e + 1) i k t = (((mgetQ ((fourQ (telF c l e) h i k t 4).1) (entQ (fourQ (telF c l e) h i k t 4).2)).getD 0) + 2, (fourQ (telF c l e) h i k t 4).2) := by
          show putQ (fourQ (telF c l e) (szz e) i k t 4).2 (fourQ (telF c l e) (szz e) i k t 4).1 = _
          rw [← e1, putQ_old f1 hg8]
        rw [hq] at hk
        have afr := afrXv.symm
        rw [hSfr] at ofr afr
        exact hk v _ ov (omq) opo (rest_offS ofr) (tri_new afr apoXv.symm amqXv.symm)
    refine ⟨fun n' σ' H' => ∃ q : Nat, n' = 4 - q ∧ q ≤ 4 ∧ ∃ v, σ' 0 = (.int .i64 (i)) ∧ σ' 1 = (.int .i64 (k)) ∧ σ' 4 = ft ∧ σ' 5 = pl ∧ σ' 6 = po ∧ σ' 11 = (.int .i64 (h)) ∧ σ' 12 = pa ∧ σ' 25 = (.int .i64 ((q : Int))) ∧ Cel H' pf [(.int .i64 (r)), (.int .i64 (c)), vc] ∧ Cel H' ft [(.func (.func I.impl_Field_tree_1) #[] #[pf, ft, pl, po])] ∧ Cel H' pl [mq] ∧ MpQ H' mq Smq (entQ (fourQ (telF c l e) h i k t q).2) ∧ Cel H' po [v] ∧ Frm H1 Sfr H' ∧ Cel H' pa [(.int .i64 (at_ 0 (pad4 ((fourQ (telF c l e) h i k t q).1)) 0)), (.int .i64 (at_ 0 (pad4 ((fourQ (telF c l e) h i k t q).1)) 1)), (.int .i64 (at_ 0 (pad4 ((fourQ (telF c l e) h i k t q).1)) 2)), (.int .i64 (at_ 0 (pad4 ((fourQ (telF c l e) h i k t q).1)) 3))] ∧ Own eI H' v ((fourQ (telF c l e) h i k t q).2) ∧ Nw H v ∧ Apart pf v ∧ Apart ft v ∧ Apart pl v ∧ Apt Smq v ∧ Apart po v ∧ Apt Sfr v ∧ Apart pa v ∧ Le H H',
      ⟨_, 0, rfl, by omega, vt, rfl, rfl, rfl, rfl, rfl, rfl, rfl, (congrArg (Value.int .i64) (by first | omega | rfl | (simp; done))), opf, oft, opl, omq, opo, ofr, (Cel.cast rfl opa), (Own.cast (by first | rfl | (simp; done)) ovt), nvt, apfXvt, aftXvt, aplXvt, amqXvt, apoXvt, avtXfr.symm, avtXpa.symm, lE⟩, ?_⟩
    rintro n20 σ20 H20 ⟨q, rfl, hqN, v, g0L20, g1L20, g4L20, g5L20, g6L20, g11L20, g12L20, g25L20, opf, oft, opl, omq, opo, ofr, opa, ov, nv, apfXv, aftXv, aplXv, amqXv, apoXv, afrXv, apaXv, lE⟩
    have hvc := hvc0.le lE
    try simp only [g0L20, g1L20, g4L20, g11L20, g12L20, g25L20]
    have fl := fourQ_len2 (h := h) (i := i) (k := k) (telF_len c l e) hm q
    have f1 := fourQ_len1 (g := telF c l e) (h := h) (i := i) (k := k) (t := t) q
    have e1 : h = szz e := by rw [hh, hz]; exact szz_half e
    have zz := szz_succ e
    refine ob_i (vInt_lss _ _ _) ?_
    refine cnd_d (fun hg21 => ?_) (fun hg21 => ?_)
    · skip
      have tq := hg21
      have qb : q * grQ e ≤ 3 * grQ e := Nat.mul_le_mul_right _ (by omega)
      have hq2 : 0 ≤ (q : Int) / 2 * h ∧ (q : Int) / 2 * h ≤ h := by
        have : (q : Int) / 2 = 0 ∨ (q : Int) / 2 = 1 := by omega
        rcases this with h' | h' <;> rw [h'] <;> omega
      have hq3 : 0 ≤ (q : Int) % 2 * h ∧ (q : Int) % 2 * h ≤ h := by
        have : (q : Int) % 2 = 0 ∨ (q : Int) % 2 = 1 := by omega
        rcases this with h' | h' <;> rw [h'] <;> omega
      refine ob_i (oft.ld0 rfl) ?_
      refine ob_i (vInt_quoN (by omega) (by omega) (by omega)) ?_
      refine ob_i (vInt_mul (by omega) (by omega)) ?_
      refine ob_i (vInt_add (by omega) (by omega)) ?_
      refine ob_i (vInt_remN (by omega) (by omega)) ?_
      refine ob_i (vInt_mul (by omega) (by omega)) ?_
      refine ob_i (vInt_add (by omega) (by omega)) ?_
      refine ⟨by kernel_rfl, ?_⟩
      refine ih hvc0 lE opf oft opl (MpQ.cast rfl omq) opo ov apfXmq apfXpo apfXv aftXmq aftXpo aftXv aplXmq aplXpo aplXv amqXpo amqXv apoXv nmq npo nv hl k1 (by omega) (by omega) (by omega) (by omega) (by omega) (by omega) (by first | omega | rfl) (by first | assumption | omega) (by omega) (by first | omega | (simp only [List.length_nil]; omega)) (fun u25 H22 ou25 tm26 tp27 off23 hb24 => ?_)
      have apfXu25 : Apart pf u25 := Apart.ap2 opf.known apfXv hb24
      have aftXu25 : Apart ft u25 := Apart.ap2 oft.known aftXv hb24
      have aplXu25 : Apart pl u25 := Apart.ap2 opl.known aplXv hb24
      have amqXu25 : Apt Smq u25 := Apt.ap2 omq.known amqXv hb24
      have apoXu25 : Apart po u25 := Apart.ap2 opo.known apoXv hb24
      have afrXu25 : Apt Sfr u25 := Apt.ap2 ofr.known afrXv hb24
      have apaXu25 : Apart pa u25 := Apart.ap2 opa.known apaXv hb24
      have nu25 : Nw H u25 := Nw.ap2 nv lE hb24
      replace opf := opf.offS off23 (Apt.tri apfXpo apfXmq apfXv)
      replace oft := oft.offS off23 (Apt.tri aftXpo aftXmq aftXv)
      replace opl := opl.offS off23 (Apt.tri aplXpo aplXmq aplXv)
      replace ofr := ofr.offS off23 (Apt.tri apoXfr.symm amqXfr.symm afrXv)
      replace opa := opa.offS off23 (Apt.tri apoXpa.symm amqXpa.symm apaXv)
      replace omq := tm26
      replace opo := tp27
      replace hvc := hvc0.le (off23.le lE (Nws.tri npo nmq nv))
      replace lE := off23.le lE (Nws.tri npo nmq nv)
      refine ob_i (opa.ixA (by omega) (by omega)) ?_
      refine opa.st (by simp; omega) rfl rfl (fun H28 opa off29 => ?_)
      replace opa : Cel H28 pa [(.int .i64 (at_ 0 (pad4 ((fourQ (telF c l e) h i k t q).1 ++ [(telF c l e (i + (((q : Int) / 2) * h)) (k + (((q : Int) % 2) * h)) ((fourQ (telF c l e) h i k t q).2)).1])) 0)), (.int .i64 (at_ 0 (pad4 ((fourQ (telF c l e) h i k t q).1 ++ [(telF c l e (i + (((q : Int) / 2) * h)) (k + (((q : Int) % 2) * h)) ((fourQ (telF c l e) h i k t q).2)).1])) 1)), (.int .i64 (at_ 0 (pad4 ((fourQ (telF c l e) h i k t q).1 ++ [(telF c l e (i + (((q : Int) / 2) * h)) (k + (((q : Int) % 2) * h)) ((fourQ (telF c l e) h i k t q).2)).1])) 2)), (.int .i64 (at_ 0 (pad4 ((fourQ (telF c l e) h i k t q).1 ++ [(telF c l e (i + (((q : Int) / 2) * h)) (k + (((q : Int) % 2) * h)) ((fourQ (telF c l e) h i k t q).2)).1])) 3))] := Cel.cast (c4_put f1 (by omega)) opa
      replace opf := opf.off off29 apfXpa
      replace oft := oft.off off29 aftXpa
      replace opl := opl.off off29 aplXpa
      replace omq := omq.off off29 amqXpa
      replace opo := opo.off off29 apoXpa
      replace ofr := ofr.off off29 afrXpa
      replace ou25 := ou25.off off29 apaXu25.symm
      replace hvc := hvc0.le (off29.le lE npa)
      replace lE := off29.le lE npa
      refine ob_i (vInt_add (by omega) (by omega)) ?_
      exact nxt (4 - (q + 1)) (by omega) ⟨q + 1, rfl, by omega, u25, g0L20, g1L20, g4L20, g5L20, g6L20, g11L20, g12L20, (congrArg (Value.int .i64) (by first | omega | rfl | (simp; done))), opf, oft, opl, omq, opo, ofr, opa, ou25, nu25, apfXu25, aftXu25, aplXu25, amqXu25, apoXu25, afrXu25, apaXu25, lE⟩
    · skip
      have tq := hg21
      obtain rfl : q = 4 := by omega
      exact hJ7 _ _ ⟨v, g5L20, g6L20, g12L20, opf, oft, opl, omq, opo, ofr, (Cel.cast (by rw [pad4_full f1]) opa), ov, nv, apfXv, aftXv, aplXv, amqXv, apoXv, afrXv, apaXv, lE⟩
theorem C.tree_all : ∀ e, TreeP e
  | 0 => fun a0 a1 a2 a3 a4 a5 a6 a7 a8 a9 a10 a11 a12 a13 a14 a15 a16 a17 a18 a19 a20 a21 a22 a23 a24 a25 a26 a27 a28 a29 a30 a31 a32 a33 a34 a35 => C.tree0 a0 a1 a2 a3 a4 a5 a6 a7 a8 a9 a10 a11 a12 a13 a14 a15 a16 a17 a18 a19 a20 a21 a22 a23 a24 a25 a26 a27 a28 a29 a30 a31 a32 a33 a34 a35
  | e + 1 => fun a0 a1 a2 a3 a4 a5 a6 a7 a8 a9 a10 a11 a12 a13 a14 a15 a16 a17 a18 a19 a20 a21 a22 a23 a24 a25 a26 a27 a28 a29 a30 a31 a32 a33 a34 a35 => C.treeS (C.tree_all e) a0 a1 a2 a3 a4 a5 a6 a7 a8 a9 a10 a11 a12 a13 a14 a15 a16 a17 a18 a19 a20 a21 a22 a23 a24 a25 a26 a27 a28 a29 a30 a31 a32 a33 a34 a35
theorem C.impl_Field_tree {vc : Value} {r c : Int} {l : List Int}  {H : Hp} {K : Value → Hp → Prop} (hvc0 : Sl eI H vc l) (hP : sqP r c l)
    (hk : ∀ u1 H', Own eI H' u1 (treL r c l) → Nw H u1 → Le H H' → K u1 H') : HT prg I.impl_Field_tree [(.agg #[(.int .i64 (r)), (.int .i64 (c)), vc])].toArray H K := by
  have lE := Le.refl H
  have hvc := hvc0
  refine R.impl_Field_tree ?_
  unfold F.impl_Field_tree
  have hf := hP.1
  have hl := hf.2.1
  have hrc := hP.2.1
  have hr4 := hP.2.2
  have zr : r = szz (lgN r - 1) := by rcases hr4 with rfl | rfl | rfl <;> decide
  have e5 : lgN r - 1 ≤ 4 := by rcases hr4 with rfl | rfl | rfl <;> decide
  have g5 := grQ_le (lgN r - 1) e5
  have k1 : l.length ≤ 256 := by have := Int.mul_le_mul (show r ≤ 16 by omega) (show c ≤ 16 by omega) (by omega) (by omega); omega
  refine nw_i (fun pf H1 opf nn2 le3 => ?_)
  have npf : Nw H pf := nn2.le lE
  replace hvc := hvc.le le3
  replace lE := lE.trans le3
  replace opf : Cel H1 pf [(.int .i64 (r)), (.int .i64 (c)), vc] := opf
  refine bS_nil (enc := eI) (fun u4 H5 ou4 nn6 kk7 le8 => ?_)
  have apfXu4 : Apart pf u4 := opf.apart nn6
  have nu4 : Nw H u4 := nn6.le lE
  replace opf := opf.le le8
  replace hvc := hvc.le le8
  replace lE := lE.trans le8
  refine nw_i (fun po H9 opo nn10 le11 => ?_)
  have apfXpo : Apart pf po := opf.apart nn10
  have au4Xpo : Apart u4 po := ou4.apart nn10
  have npo : Nw H po := nn10.le lE
  replace opf := opf.le le11
  replace ou4 := ou4.le le11
  replace hvc := hvc.le le11
  replace lE := lE.trans le11
  replace opo : Cel H9 po [(.slice none 0 0)] := opo
  refine opo.st0 (by simp) ou4.one ou4.cells (fun H12 opo off13 => ?_)
  replace opf := opf.off off13 apfXpo
  replace ou4 := ou4.off off13 au4Xpo
  replace hvc := hvc0.le (off13.le lE npo)
  replace lE := off13.le lE npo
  replace opo : Cel H12 po [u4] := opo
  refine MpQ.new_ (fun mq Smq H14 omq nn15 le16 => ?_)
  have apfXmq : Apt pf Smq := Apt.of_nws opf.known nn15
  have au4Xmq : Apt u4 Smq := Apt.of_nws ou4.known nn15
  have apoXmq : Apt po Smq := Apt.of_nws opo.known nn15
  have nmq : Nws H Smq := nn15.le lE
  replace opf := opf.le le16
  replace ou4 := ou4.le le16
  replace opo := opo.le le16
  replace hvc := hvc.le le16
  replace lE := lE.trans le16
  refine nw_i (fun pl H17 opl nn18 le19 => ?_)
  have apfXpl : Apart pf pl := opf.apart nn18
  have au4Xpl : Apart u4 pl := ou4.apart nn18
  have apoXpl : Apart po pl := opo.apart nn18
  have amqXpl : Apt Smq pl := Apt.of_nw omq.known nn18
  have npl : Nw H pl := nn18.le lE
  replace opf := opf.le le19
  replace ou4 := ou4.le le19
  replace opo := opo.le le19
  replace omq := omq.le le19
  replace hvc := hvc.le le19
  replace lE := lE.trans le19
  replace opl : Cel H17 pl [(.map none)] := opl
  refine opl.st0 (by simp) omq.one omq.cells (fun H20 opl off21 => ?_)
  replace opf := opf.off off21 apfXpl
  replace ou4 := ou4.off off21 au4Xpl
  replace opo := opo.off off21 apoXpl
  replace omq := omq.off off21 amqXpl
  replace hvc := hvc0.le (off21.le lE npl)
  replace lE := off21.le lE npl
  replace opl : Cel H20 pl [mq] := opl
  refine nw_i (fun ft H22 oft nn23 le24 => ?_)
  have apfXft : Apart pf ft := opf.apart nn23
  have au4Xft : Apart u4 ft := ou4.apart nn23
  have apoXft : Apart po ft := opo.apart nn23
  have amqXft : Apt Smq ft := Apt.of_nw omq.known nn23
  have aplXft : Apart pl ft := opl.apart nn23
  have nft : Nw H ft := nn23.le lE
  replace opf := opf.le le24
  replace ou4 := ou4.le le24
  replace opo := opo.le le24
  replace omq := omq.le le24
  replace opl := opl.le le24
  replace hvc := hvc.le le24
  replace lE := lE.trans le24
  replace oft : Cel H22 ft [.nilFunc] := oft
  refine oft.st0 (by simp) rfl rfl (fun H25 oft off26 => ?_)
  replace opf := opf.off off26 apfXft
  replace ou4 := ou4.off off26 au4Xft
  replace opo := opo.off off26 apoXft
  replace omq := omq.off off26 amqXft
  replace opl := opl.off off26 aplXft
  replace hvc := hvc0.le (off26.le lE nft)
  replace lE := off26.le lE nft
  replace oft : Cel H25 ft [(.func (.func I.impl_Field_tree_1) #[] #[pf, ft, pl, po])] := oft
  refine ob_i (oft.ld0 rfl) ?_
  refine ob_i (opf.fa 0) ?_
  refine ob_i (opf.ld 0 rfl) ?_
  refine ⟨by kernel_rfl, ?_⟩
  refine C.tree_all (lgN r - 1) hvc0 lE opf oft opl (MpQ.cast rfl omq) opo ou4 apfXmq apfXpo apfXu4 amqXft.symm apoXft.symm au4Xft.symm amqXpl.symm apoXpl.symm au4Xpl.symm apoXmq.symm au4Xmq.symm au4Xpo.symm nmq npo nu4 hl k1 (by omega) (by omega) (by omega) (by omega) (by omega) (by omega) (by first | omega | rfl) (by first | assumption | omega) (by omega) (by first | omega | (simp only [List.length_nil]; omega)) (fun u30 H27 ou30 tm31 tp32 off28 hb29 => ?_)
  have apfXu30 : Apart pf u30 := Apart.ap2 opf.known apfXu4 hb29
  have apoXu30 : Apart po u30 := Apart.ap2 opo.known au4Xpo.symm hb29
  have amqXu30 : Apt Smq u30 := Apt.ap2 omq.known au4Xmq.symm hb29
  have aplXu30 : Apart pl u30 := Apart.ap2 opl.known au4Xpl.symm hb29
  have aftXu30 : Apart ft u30 := Apart.ap2 oft.known au4Xft.symm hb29
  have nu30 : Nw H u30 := Nw.ap2 nu4 lE hb29
  replace opf := opf.offS off28 (Apt.tri apfXpo apfXmq apfXu4)
  replace opl := opl.offS off28 (Apt.tri apoXpl.symm amqXpl.symm au4Xpl.symm)
  replace oft := oft.offS off28 (Apt.tri apoXft.symm amqXft.symm au4Xft.symm)
  replace omq := tm31
  replace opo := tp32
  replace hvc := hvc0.le (off28.le lE (Nws.tri npo nmq nu4))
  replace lE := off28.le lE (Nws.tri npo nmq nu4)
  refine ob_i (opo.ld0 rfl) ?_
  skip
  exact hk  u30 _ (Own.cast (show (telF c l (lgN r - 1) (0) (0) ([])).2 = treL r c l by first | rfl | simp) ou30) nu30  lE
theorem C.impl_QuarterTree {vc : Value} {r c : Int} {l : List Int}  {H : Hp} {K : Value → Hp → Prop} (hvc0 : Sl eI H vc l) (k1 : l.length ≤ 9223372036854775807)
    (hk : ∀ u1 H', Own eI H' u1 (selL (sqP r c l) (treL r c l)) → Nw H u1 → Le H H' → K (.tuple #[u1, (.bool (decide (sqP r c l)))]) H') : HT prg I.impl_QuarterTree [(.agg #[(.int .i64 (r)), (.int .i64 (c)), vc])].toArray H K := by
  have lE := Le.refl H
  have hvc := hvc0
  refine R.impl_QuarterTree ?_
  unfold F.impl_QuarterTree
  refine nw_i (fun p1 H2 op1 nn3 le4 => ?_)
  have np1 : Nw H p1 := nn3.le lE
  replace hvc := hvc.le le4
  replace lE := lE.trans le4
  replace op1 : Cel H2 p1 [(.int .i64 (r)), (.int .i64 (c)), vc] := op1
  refine ob_i (op1.ldn rfl) ?_
  refine C.impl_isSquare hvc (by first | omega | assumption) (fun   H5    le6 => ?_)
  replace op1 := op1.le le6
  replace hvc := hvc.le le6
  replace lE := lE.trans le6
  refine ob_nd (fun hc7 => ?_) (fun hc7 => ?_)
  · skip
    have hf := hc7.1
    have l1 := fieldN_len hf
    refine cnd_f1 ?_
    refine ob_i (op1.ldn rfl) ?_
    refine C.impl_Field_tree hvc (by first | omega | assumption) (fun  u10 H8 ou10 nn11  le9 => ?_)
    have ap1Xu10 : Apart p1 u10 := op1.apart nn11
    have nu10 : Nw H u10 := nn11.le lE
    replace op1 := op1.le le9
    replace hvc := hvc.le le9
    replace lE := lE.trans le9
    skip
    have hok : sqP r c l := by assumption
    exact keq (K := K) (by rw [decide_eq_true (show (sqP r c l) from by exact hok)]) (hk  u10 _ (Own.cast (show treL r c l = selL (sqP r c l) (treL r c l) by exact (selL_t hok).symm) ou10) nu10  lE)
  · skip
    refine cnd_t1 ?_
    skip
    have hok : ¬ (sqP r c l) := by assumption
    exact keq (K := K) (by rw [decide_eq_false (show ¬ (sqP r c l) from by exact hok)]) (hk  (.slice none 0 0) _ (Own.cast (show [] = selL (sqP r c l) (treL r c l) by exact (selL_f hok).symm) (Own.nil_of none)) (fun b hb => by simp [bk] at hb)  lE)
end Go.Proofs.Ythgjegbckkpaiaa
